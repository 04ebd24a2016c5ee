/- The evaluator's operations are sound (maps, calls, regions in order): helper texts, no condition. -/
import Derived.Test.YtnmmmiliogogfaaGreatDoorEvC
import Derived.Scope
set_option linter.unusedVariables false
set_option linter.unusedSimpArgs false
namespace Go.Ev
section
variable {P : Program} {φ : Phi} {S : St} {w : World} {T : Ts} {ρ : Operand → Value}

theorem slice_parts {base : Option Addr} {n c : Nat} {v' : Value} (h : RelV φ (.slice base n c) v') : ∃ b' cap, v' = .slice b' n cap ∧ n ≤ cap ∧
    ((base = none ∧ b' = none ∧ n = 0) ∨ ∃ F off l a', base = some ⟨F, off, none⟩ ∧ b' = some a' ∧ φ F = some l ∧ (cap ≠ 0 → a' = ⟨l.blk, l.base + off, none⟩)) := by
  cases base with
  | none => obtain ⟨rfl, rfl, rfl⟩ := slice_nil h; exact ⟨none, 0, rfl, Nat.le_refl _, .inl ⟨rfl, rfl, rfl⟩⟩
  | some a =>
    obtain ⟨F, off, l, a', cap, rfl, rfl, hF, ha, hc, hle⟩ := slice_addr h
    exact ⟨some a', cap, rfl, hle, .inr ⟨F, off, l, a', rfl, rfl, hF, ha⟩⟩

theorem copy_sound (hR : Rel φ S w) {dT : TypeId} {rest : List TypeId} {ty : TypeId} {d x d' x' : Value} {v : Value} {S' : St} (h : copyR P S (dT :: rest) d x = .ok (v, S')) (hd : RelV φ d d') (hx : RelV φ x x') :
    ∃ w' v', (Builtin.copy_ ⟨dT :: rest⟩ ty #[d', x']).run P w = .ok v' w' ∧ Good φ φ S S' w w' ∧ RelV φ v v' := by
  unfold copyR at h
  simp only at h
  split at h
  case h_2 => cases h
  rename_i e base dLen c he
  have hs := elemT_some he
  obtain ⟨n0, hn0, h1⟩ := Res.bind_ok h
  clear h
  obtain ⟨cs, hcs, h⟩ := Res.bind_ok h1
  clear h1
  split at h
  · cases h
  rename_i hb
  simp only [Bool.and_eq_true] at hb
  have hcl := Nat_beq hb.1
  have hkn := hb.2
  obtain ⟨cs', hrel, hlen, _, hfirst⟩ := sliceCells_sound (P := P) hR hx hcs hn0
  have hf := hfirst (Nat.min n0 dLen) (Nat.min_le_left _ _) hcl
  obtain ⟨b', cap, rfl, hle, hcase⟩ := slice_parts hd
  rcases hcase with ⟨rfl, rfl, rfl⟩ | ⟨F, off, l, a', rfl, rfl, hF, ha⟩
  · cases h
    refine ⟨w, _, ?_, Good.refl hR, .int _ _⟩
    have hm0 : Nat.min n0 0 = 0 := Nat.min_zero n0
    rw [hm0] at hf ⊢
    simp [Builtin.copy_, run_underlying hs, hlen, run_sizeT hkn, hf]
    rfl
  · simp only at h
    split at h
    · rename_i hz
      have hz := Nat_beq hz
      cases h
      refine ⟨w, _, ?_, Good.refl hR, .int _ _⟩
      rw [hz] at hf
      simp [Builtin.copy_, run_underlying hs, hlen, run_sizeT hkn, hz, hf, storeCells]
      rfl
    · rename_i hz
      have hz := Nat_beq_false hz
      obtain ⟨S1, hS1, h⟩ := Res.bind_ok h
      cases h
      have hcap : cap ≠ 0 := by have : Nat.min n0 dLen ≤ dLen := Nat.min_le_right _ _; omega
      obtain ⟨w', hst, _, hg⟩ := writeRow_sound P hR hS1 hF (hrel.take _)
      refine ⟨w', _, ?_, hg, .int _ _⟩
      rw [← ha hcap] at hst
      simp [Builtin.copy_, run_underlying hs, hlen, run_sizeT hkn, hf, hst]
      rfl

theorem clear_sound (hR : Rel φ S w) {t : TypeId} {rest : List TypeId} {ty : TypeId} {x x' : Value} {v : Value} {S' : St} (h : clearR P S (t :: rest) x = .ok (v, S')) (hx : RelV φ x x') :
    ∃ w' v', (Builtin.clear_ ⟨t :: rest⟩ ty #[x']).run P w = .ok v' w' ∧ Good φ φ S S' w w' ∧ RelV φ v v' := by
  unfold clearR at h
  split at h
  case h_2 => cases h
  rename_i t2 rest2 base n c heq
  cases heq
  split at h
  · cases h
  rename_i e he
  have hs := elemT_some he
  obtain ⟨b', cap, rfl, hle, hcase⟩ := slice_parts hx
  rcases hcase with ⟨rfl, rfl, rfl⟩ | ⟨F, off, l, a', rfl, rfl, hF, ha⟩
  · cases h
    exact ⟨w, _, by simp [Builtin.clear_, run_underlying hs], Good.refl hR, .tuple _ _ .nil⟩
  · simp only at h
    split at h
    · rename_i hz
      have hz := Nat_beq hz
      subst hz
      cases h
      exact ⟨w, _, by simp [Builtin.clear_, run_underlying hs], Good.refl hR, .tuple _ _ .nil⟩
    · rename_i hz
      have hz := Nat_beq_false hz
      split at h
      case h_2 => cases h
      rename_i z hzt
      split at h
      case h_2 => cases h
      rename_i hb
      simp only [Bool.and_eq_true] at hb
      obtain ⟨S1, hS1, h⟩ := Res.bind_ok h
      cases h
      obtain ⟨i, zv, hi, hzv, rfl⟩ := zeroT_some hzt
      obtain ⟨w', hst, _, hg⟩ := writeRow_sound P hR hS1 hF (rep_rel hb.2 n)
      refine ⟨w', .tuple #[], ?_, hg, .tuple _ _ .nil⟩
      rw [← ha (by omega)] at hst
      have hzc : Builtin.zeroCells zv.cells n = ⟨repCells n zv.cells.toList⟩ := zeros_eq zv n
      unfold Builtin.clear_
      simp only [List.getElem?_toArray, List.getElem?_cons_zero, Sem.run_bind, Sem.run_pure, run_underlying hs, Result.andThen_ok]
      cases n with
      | zero => exact absurd rfl hz
      | succ n => simp only [run_zero hi hzv, Result.andThen_ok, hzc, hst]

theorem len_sound (hR : Rel φ S w) {argTypes : List TypeId} {ty : TypeId} {x x' : Value} {v : Value} (h : lenR P S argTypes x = .ok v) (hx : RelV φ x x') :
    ∃ v', (Builtin.len_ ⟨argTypes⟩ ty #[x']).run P w = .ok v' w ∧ RelV φ v v' := by
  unfold lenR at h
  split at h
  case h_2 => cases h
  rename_i t rest
  split at h
  · rename_i s hs
    cases h
    have := rel_string hx; subst this
    exact ⟨goInt s.size, by simp [Builtin.len_, run_underlying hs], by rw [size_data]; exact .int _ _⟩
  · rename_i e b n c hs
    cases h
    obtain ⟨b', cap, rfl, hle, _⟩ := slice_parts hx
    exact ⟨goInt n, by simp [Builtin.len_, run_underlying hs], .int _ _⟩
  · rename_i k e hs
    cases h
    cases hx
    exact ⟨goInt 0, by simp [Builtin.len_, run_underlying hs], .int _ _⟩
  · rename_i k e m hs
    split at h
    case h_2 => cases h
    rename_i es bs clk hes
    cases h
    cases hx with
    | map M l hM =>
      obtain ⟨l1, hl1, es', hob, hre, hbs⟩ := hR.obs m _ hes
      rw [hM] at hl1; cases hl1
      refine ⟨goInt es'.size, ?_, ?_⟩
      · simp [Builtin.len_, run_underlying hs, getObj, Sem.run, hob]
      · have : es'.size = es.length := by have := hre.1; simpa using this
        rw [this]; exact .int _ _
  · rename_i n e hs
    cases h
    exact ⟨goInt n, by simp [Builtin.len_, run_underlying hs], .int _ _⟩
  · cases h

/-! ### Maps -/

theorem run_getMap {w : World} {r k : Nat} {es : Array MapEntry} (h : w.heap[r]? = some (.map es k)) : (getObj r).run P w = .ok (.map es k) w := by simp [getObj, Sem.run, h]

theorem keyKind_some {t : TypeId} {kd : TypeDesc} {e : TypeId} (h : keyKind P t = some (kd, e)) : ∃ k q, P.underlying t = some (.map k e) ∧ P.underlying k = some (.int q) ∧ kd = .int q := by
  unfold keyKind at h
  split at h
  case h_2 => cases h
  rename_i k e' ht
  split at h
  case h_2 => cases h
  rename_i q hk
  cases h
  exact ⟨k, q, ht, hk, rfl⟩

theorem sameNow_int {q : IntKind} {a b : Value} {r : Bool} (h : Instr.sameNow (.int q) a b = some r) : ∃ k n m, a = .int k n ∧ b = .int k m ∧ r = (n == m) := by
  cases a <;> cases b <;> simp [Instr.sameNow] at h
  obtain ⟨rfl, rfl⟩ := h
  exact ⟨_, _, _, rfl, rfl, rfl⟩

theorem checkKey_int {b : Bool} (n : Nat) {k : TypeId} {q : IntKind} {v : Value} (hk : P.underlying k = some (.int q)) (w : World) : (Instr.checkKey b (n + 1) k v).run P w = .ok () w := by
  simp only [Instr.checkKey, Sem.run_bind, run_underlying hk, Result.andThen_ok]
  cases v <;> rfl

theorem find_sound {kd : TypeDesc} {k : Value} : ∀ {es : List (Value × Value)} {es' : List MapEntry} {i : Nat} {r : Option (Nat × Value)}, RelE φ es es' → findE kd k es i = .ok r →
    ∃ r', Instr.findNow kd k es' i = some r' ∧ (match r with
      | none => r' = none
      | some (j, v) => ∃ v', r' = some (j, v') ∧ RelV φ v v' ∧ i ≤ j ∧ ∃ e e', es[j - i]? = some e ∧ es'[j - i]? = some e' ∧ e'.key = e.1 ∧ Instr.sameNow kd k e.1 = some true)
  | [], es', i, r, hre, h => by
    simp only [findE] at h; cases h
    have : es' = [] := List.length_eq_zero_iff.1 hre.1
    subst this
    exact ⟨none, rfl, rfl⟩
  | e :: es, es', i, r, hre, h => by
    cases es' with
    | nil => have := hre.1; simp at this
    | cons e' es' =>
      obtain ⟨⟨hp, hkey⟩, hval⟩ := hre.2 0 e e' rfl rfl
      have hre' : RelE φ es es' := ⟨by have := hre.1; simpa using this, fun j a b ha hb => hre.2 (j + 1) a b (by simpa using ha) (by simpa using hb)⟩
      simp only [findE] at h
      split at h
      · rename_i hs
        cases h
        refine ⟨some (i, e'.val), by simp [Instr.findNow, hkey, hs], e'.val, rfl, hval, Nat.le_refl _, e, e', by simp, by simp, hkey, hs⟩
      · rename_i hs
        obtain ⟨r', hr', hm⟩ := find_sound hre' h
        refine ⟨r', by simp [Instr.findNow, hkey, hs, hr'], ?_⟩
        cases r with
        | none => exact hm
        | some p =>
          obtain ⟨j, v⟩ := p
          obtain ⟨v', h1, h2, h3, e2, e2', h4, h5, h6, h7⟩ := hm
          refine ⟨v', h1, h2, by omega, e2, e2', ?_, ?_, h6, h7⟩
          · rw [show j - i = (j - (i + 1)) + 1 by omega]; simpa using h4
          · rw [show j - i = (j - (i + 1)) + 1 by omega]; simpa using h5
      · cases h

theorem run_findKey {kt : TypeId} {q : IntKind} {k : Value} {es' : List MapEntry} {r' : Option (Nat × Value)} (hk : P.underlying kt = some (.int q)) (h : Instr.findNow (.int q) k es' 0 = some r') (w : World) : (Instr.findKey kt k es').run P w = .ok r' w := by
  unfold Instr.findKey
  simp only [Sem.run_bind, run_underlying hk, Result.andThen_ok, h]
  rfl


theorem maps_of (hR : Rel φ S w) {x x' : Value} {es : List (Value × Value)} (h : mapEs S x = .ok es) (hx : RelV φ x x') :
    (x = .map none ∧ x' = .map none ∧ es = []) ∨ ∃ M l es' k bs, x = .map (some M) ∧ x' = .map (some l.blk) ∧ φ M = some l ∧ S.get M = some (.map es bs k) ∧ w.heap[l.blk]? = some (.map es' k) ∧ RelE φ es es'.toList := by
  cases hx with
  | map0 => simp only [mapEs] at h; cases h; exact .inl ⟨rfl, rfl, rfl⟩
  | map M l hM =>
    simp only [mapEs] at h
    split at h
    case h_2 => cases h
    rename_i es0 bs kk hes
    cases h
    obtain ⟨l1, hl1, es', hob, hre, _⟩ := hR.obs M _ hes
    rw [hM] at hl1; cases hl1
    exact .inr ⟨M, l, es', kk, bs, rfl, rfl, hM, hes, hob, hre⟩
  | _ => simp [mapEs] at h

theorem plain_rel_key {k k' : Value} (hp : plain k = true) (h : RelV φ k k') : k' = k := plain_eq hp h

theorem lookup_sound (hR : Rel φ S w) {t : TypeId} {x k x' k' : Value} {ok : Bool} {v : Value} (h : lookupR P S t x k ok = .ok v) (hx : RelV φ x x') (hk : RelV φ k k') :
    ∃ v', (Instr.lookup t x' k' ok).run P w = .ok v' w ∧ RelV φ v v' := by
  unfold lookupR at h
  split at h
  case h_2 => cases h
  rename_i kd e hkk hp
  obtain ⟨kt, q, ht, hkt, rfl⟩ := keyKind_some hkk
  have := plain_eq hp hk; subst this
  obtain ⟨es, hes, h1⟩ := Res.bind_ok h
  obtain ⟨r, hr, h2⟩ := Res.bind_ok h1
  obtain ⟨p, hp2, h3⟩ := Res.bind_ok h2
  clear h h1 h2
  cases h3
  have hck : ∀ b, (Instr.checkKey b 10000 kt k').run P w = .ok () w := fun b => checkKey_int 9999 hkt w
  -- what is found among the entries of the model's map
  have hfound : ∀ es' : Array MapEntry, RelE φ es es'.toList → ∃ r' : Option (Nat × Value), (Instr.findKey kt k' es'.toList).run P w = .ok r' w ∧
      ((r' = none ∧ ∃ i z, P.info? e = some i ∧ i.zero = some z ∧ RelV φ (match ok with | true => .tuple #[p.1, .bool p.2] | false => p.1) (if ok then .tuple #[z, .bool false] else z)) ∨
       ∃ j v', r' = some (j, v') ∧ RelV φ (match ok with | true => .tuple #[p.1, .bool p.2] | false => p.1) (if ok then .tuple #[v', .bool true] else v')) := by
    intro es' hre
    obtain ⟨r', hr', hm⟩ := find_sound hre hr
    refine ⟨r', run_findKey hkt hr' w, ?_⟩
    cases r with
    | none =>
      left
      simp only at hm
      refine ⟨hm, ?_⟩
      simp only at hp2
      split at hp2
      case h_2 => cases hp2
      rename_i i hi
      split at hp2
      case h_2 => cases hp2
      rename_i z hz
      split at hp2
      case h_2 => cases hp2
      rename_i hpz
      cases hp2
      refine ⟨i, z, hi, hz, ?_⟩
      cases ok with
      | true => exact .tuple _ _ (.cons _ _ _ _ (plain_self hpz) (.cons _ _ _ _ (.bool _) .nil))
      | false => exact plain_self hpz
    | some jv =>
      right
      obtain ⟨j, vv⟩ := jv
      obtain ⟨v', rfl, hv', _⟩ := hm
      simp only at hp2
      cases hp2
      refine ⟨j, v', rfl, ?_⟩
      cases ok with
      | true => exact .tuple _ _ (.cons _ _ _ _ hv' (.cons _ _ _ _ (.bool _) .nil))
      | false => exact hv'
  unfold Instr.lookup
  simp only [Sem.run_bind, run_underlying ht, Result.andThen_ok]
  rcases maps_of hR hes hx with ⟨rfl, rfl, rfl⟩ | ⟨M, l, es', kk, bs, rfl, rfl, hM, hget, hob, hre⟩
  · obtain ⟨r', hfk, hc⟩ := hfound #[] ⟨rfl, fun i e e' a => by simp at a⟩
    rcases hc with ⟨rfl, i, z, hi, hz, hrel⟩ | ⟨j, v', rfl, hrel⟩
    · exact ⟨_, by simp only [Sem.run_bind, Sem.run_pure, Result.andThen_ok, hck, hfk, run_zero hi hz], hrel⟩
    · exact ⟨_, by simp only [Sem.run_bind, Sem.run_pure, Result.andThen_ok, hck, hfk], hrel⟩
  · obtain ⟨r', hfk, hc⟩ := hfound es' hre
    rcases hc with ⟨rfl, i, z, hi, hz, hrel⟩ | ⟨j, v', rfl, hrel⟩
    · exact ⟨_, by simp only [Sem.run_bind, Sem.run_pure, Result.andThen_ok, run_getMap hob, hck, hfk, run_zero hi hz], hrel⟩
    · exact ⟨_, by simp only [Sem.run_bind, Sem.run_pure, Result.andThen_ok, run_getMap hob, hck, hfk], hrel⟩

/-- A thing that is no row turns. -/
theorem setOb_good (hR : Rel φ S w) {M : Nat} {ob0 ob : Ob} {l : Loc} {o o' : Obj} (hg : S.get M = some ob0) (hl : φ M = some l) (hnr : ∀ c n s st old, ob0 ≠ .row c n s st old) (hob : RelOb φ { w with heap := w.heap.setIfInBounds l.blk o' } l ob)
    (_ : w.heap[l.blk]? = some o) : Good φ φ S (S.put M ob) w { w with heap := w.heap.setIfInBounds l.blk o' } := by
  have hget : ∀ G, (S.put M ob).get G = if G = M then some ob else S.get G := fun G => St.get_put S M G ob
  have hold : ∀ G o2, G ≠ M → (S.put M ob).get G = some o2 → S.get G = some o2 := fun G o2 hne hG => by rw [hget, if_neg hne] at hG; exact hG
  have hblk : ∀ b, b ≠ l.blk → (w.heap.setIfInBounds l.blk o')[b]? = w.heap[b]? := fun b hb => by rw [Array.getElem?_setIfInBounds_ne (Ne.symm hb)]
  have hal : ∀ G o2 lG, G ≠ M → S.get G = some o2 → φ G = some lG → lG.blk ≠ l.blk := by
    intro G o2 lG hne hG hlG heq
    have := hR.excl M G ob0 o2 l lG (Ne.symm hne) hg hG hl hlG heq.symm
    cases ob0 with
    | row => exact hnr _ _ _ _ _ rfl
    | map => exact this
    | iter => exact this
    | siter => exact this
  refine ⟨fun _ _ h => h, fun F l a b => by simp [a] at b, by rw [St.next_put]; exact Nat.le_refl _, ⟨?_, ?_, ?_, ?_⟩, rfl, rfl, rfl, by simp, ?_, fun F l a b => by simp [a] at b, ?_⟩
  · intro G o2 hG
    by_cases hne : G = M
    · subst hne
      rw [hget, if_pos rfl] at hG; cases hG
      exact ⟨l, hl, hob⟩
    · have hG' := hold G o2 hne hG
      obtain ⟨lG, hlG, hr⟩ := hR.obs G o2 hG'
      exact ⟨lG, hlG, hr.same (hblk _ (hal G o2 lG hne hG' hlG))⟩
  · intro A B obA obB lA lB hne hA hB hlA hlB heq
    by_cases eA : A = M
    · subst eA
      have hB' := hold B obB (Ne.symm hne) hB
      rw [hl] at hlA; cases hlA
      exact absurd heq.symm (hal B obB lB (Ne.symm hne) hB' hlB)
    · by_cases eB : B = M
      · subst eB
        rw [hl] at hlB; cases hlB
        exact absurd heq (hal A obA lA eA (hold A obA eA hA) hlA)
      · exact hR.excl A B obA obB lA lB hne (hold A obA eA hA) (hold B obB eB hB) hlA hlB heq
  · intro G k hk; simp; exact hR.ids G k hk
  · intro G o2 hG
    rw [St.next_put]
    by_cases hne : G = M
    · subst hne; exact hR.dom _ _ hg
    · exact hR.dom G o2 (hold G o2 hne hG)
  · intro b hb hn
    exact hblk b (fun e => hn M _ l hg hl e.symm)
  · intro G o2 hG
    by_cases hne : G = M
    · subst hne; exact .inl ⟨_, hg⟩
    · exact .inl ⟨o2, hold G o2 hne hG⟩

theorem setE_get (v : Value) : ∀ (es : List (Value × Value)) (i j : Nat), (setE es i v)[j]? = if j = i then (es[j]?).map fun e => (e.1, v) else es[j]?
  | [], i, j => by simp [setE]
  | e :: es, i, j => by
    cases i with
    | zero => cases j <;> simp [setE]
    | succ i => cases j with
      | zero => simp [setE]
      | succ j => simp only [setE, List.getElem?_cons_succ, setE_get v es i j]; simp
theorem setE_len (v : Value) : ∀ (es : List (Value × Value)) (i : Nat), (setE es i v).length = es.length
  | [], i => by simp [setE]
  | e :: es, i => by cases i <;> simp [setE, setE_len v es]

theorem run_setObj {w : World} {r k : Nat} {es : Array MapEntry} (h : w.heap[r]? = some (.map es k)) (o : Obj) : (setObj r o).run P w = .ok () { w with heap := w.heap.setIfInBounds r o } := by
  simp [setObj, Sem.run, h]

theorem set_get {w : World} {r : Nat} {o o2 : Obj} (h : w.heap[r]? = some o) : (w.heap.setIfInBounds r o2)[r]? = some o2 := by
  have hlt : r < w.heap.size := (Array.getElem?_eq_some_iff.1 h).1
  rw [Array.getElem?_setIfInBounds_self_of_lt hlt]

theorem keyThatStays_same {a b : Value} {q : IntKind} (h : Instr.sameNow (.int q) b a = some true) (w : World) : (Instr.keyThatStays a b).run P w = .ok b w := by
  obtain ⟨k, n, m, rfl, rfl, hb⟩ := sameNow_int h
  have : n = m := by simpa using hb.symm
  subst this
  unfold Instr.keyThatStays
  rw [if_pos (by simp [Instr.sameBits])]
  rfl

theorem born_modify (es : Array MapEntry) (j : Nat) (f : MapEntry → MapEntry) (hf : ∀ e, (f e).born = e.born) : (es.modify j f).toList.map (·.born) = es.toList.map (·.born) := by
  refine List.ext_getElem? fun i => ?_
  rw [List.getElem?_map, List.getElem?_map, Array.getElem?_toList, Array.getElem?_toList, Array.getElem?_modify]
  split
  · cases es[i]? with
    | none => rfl
    | some e => simp [hf]
  · rfl

theorem mapUpdate_sound (hR : Rel φ S w) {t : TypeId} {x k v x' k' v' : Value} {S' : St} (h : mapUpdateR P S t x k v = .ok S') (hx : RelV φ x x') (hk : RelV φ k k') (hv : RelV φ v v') :
    ∃ w', (Instr.mapUpdate t x' k' v').run P w = .ok () w' ∧ Good φ φ S S' w w' := by
  unfold mapUpdateR at h
  split at h
  case h_2 => cases h
  rename_i kd e m hkk hp
  obtain ⟨kt, q, ht, hkt, rfl⟩ := keyKind_some hkk
  have := plain_eq hp hk; subst this
  split at h
  case h_2 => cases h
  rename_i es bs kk hes
  obtain ⟨r, hr, h1⟩ := Res.bind_ok h
  clear h
  cases hx with
  | map M l hM =>
    obtain ⟨l1, hl1, es', hob, hre, hbs⟩ := hR.obs m _ hes
    rw [hM] at hl1; cases hl1
    obtain ⟨r', hr', hm⟩ := find_sound hre hr
    have hfk := run_findKey hkt hr' w
    have hck : (Instr.checkKey false 10000 kt k').run P w = .ok () w := checkKey_int 9999 hkt w
    cases r with
    | none =>
      simp only at hm; subst hm
      simp only at h1
      cases h1
      refine ⟨{ w with heap := w.heap.setIfInBounds l.blk (.map (es'.push { key := k', val := v', born := kk }) (kk + 1)) }, ?_, ?_⟩
      · unfold Instr.mapUpdate
        simp only [Sem.run_bind, run_underlying ht, Result.andThen_ok, run_getMap hob, hck, hfk]
        exact run_setObj hob _
      · refine setOb_good hR hes hM (fun _ _ _ _ _ => by simp) ⟨_, set_get hob, ?_, by simp [← hbs]⟩ hob
        refine ⟨by simp; have := hre.1; simpa using this, fun i a b ha hb => ?_⟩
        have hlen : es'.toList.length = es.length := hre.1
        by_cases hi : i < es.length
        · rw [List.getElem?_append_left hi] at ha
          rw [Array.toList_push, List.getElem?_append_left (by omega)] at hb
          exact hre.2 i a b ha hb
        · rw [List.getElem?_append_right (by omega)] at ha
          rw [Array.toList_push, List.getElem?_append_right (by omega), hlen] at hb
          have hi0 : i - es.length = 0 := by
            have := (List.getElem?_eq_some_iff.1 ha).1
            simp at this
            omega
          rw [hi0] at ha hb
          simp at ha hb
          subst ha hb
          exact ⟨⟨hp, rfl⟩, hv⟩
    | some jv =>
      obtain ⟨j, vv⟩ := jv
      obtain ⟨v0, rfl, hv0, _, e0, e0', he0, he0', hkey, hsame⟩ := hm
      simp only [Nat.sub_zero] at he0 he0'
      simp only at h1
      cases h1
      refine ⟨{ w with heap := w.heap.setIfInBounds l.blk (.map (es'.modify j fun e => { e with key := k', val := v' }) kk) }, ?_, ?_⟩
      · unfold Instr.mapUpdate
        simp only [Sem.run_bind, run_underlying ht, Result.andThen_ok, run_getMap hob, hck, hfk]
        have hg : ((es'[j]?).map (·.key)).getD k' = e0'.key := by
          have : es'[j]? = some e0' := by rw [← Array.getElem?_toList]; exact he0'
          rw [this]; rfl
        rw [hg, hkey, keyThatStays_same hsame]
        simp only [Result.andThen_ok]
        exact run_setObj hob _
      · refine setOb_good hR hes hM (fun _ _ _ _ _ => by simp) ⟨_, set_get hob, ?_, by rw [← hbs]; exact born_modify es' j _ (fun _ => rfl)⟩ hob
        refine ⟨by rw [setE_len]; simp; have := hre.1; simpa using this, fun i a b ha hb => ?_⟩
        rw [setE_get] at ha
        rw [Array.getElem?_toList, Array.getElem?_modify] at hb
        by_cases hij : i = j
        · subst hij
          rw [if_pos rfl, he0] at ha
          rw [if_pos rfl, ← Array.getElem?_toList, he0'] at hb
          simp at ha hb
          subst ha hb
          obtain ⟨k1, n1, m1, e1, e2, hb1⟩ := sameNow_int hsame
          have : n1 = m1 := by simpa using hb1.symm
          subst this
          refine ⟨⟨?_, ?_⟩, hv⟩
          · show plain e0.1 = true
            rw [e2]; rfl
          · show k' = e0.1
            rw [e1, e2]
        · rw [if_neg hij] at ha
          rw [if_neg (fun e => hij e.symm), ← Array.getElem?_toList] at hb
          exact hre.2 i a b ha hb
end
end Go.Ev
namespace Go.Ev
section
variable {P : Program} {φ : Phi} {S : St} {w : World} {T : Ts} {ρ : Operand → Value}

theorem eraseE_eq {α : Type} : ∀ (l : List α) (i : Nat), eraseE l i = l.eraseIdx i
  | [], i => by simp [eraseE]
  | a :: l, i => by
    cases i with
    | zero => simp [eraseE]
    | succ i => simp [eraseE, eraseE_eq l i]
theorem map_eraseIdx' {α β : Type} (f : α → β) : ∀ (l : List α) (i : Nat), (l.eraseIdx i).map f = (l.map f).eraseIdx i
  | [], i => by simp
  | a :: l, i => by
    cases i with
    | zero => simp
    | succ i => simp [map_eraseIdx' f l i]
theorem eraseE_get : ∀ (es : List (Value × Value)) (i j : Nat), (eraseE es i)[j]? = if j < i then es[j]? else es[j + 1]?
  | [], i, j => by simp [eraseE]
  | e :: es, i, j => by
    cases i with
    | zero => simp [eraseE]
    | succ i => cases j with
      | zero => simp [eraseE]
      | succ j => simp only [eraseE, List.getElem?_cons_succ, eraseE_get es i j]; by_cases h : j < i <;> simp [h]
theorem eraseE_len : ∀ (es : List (Value × Value)) (i : Nat), i < es.length → (eraseE es i).length + 1 = es.length
  | [], i, h => by simp at h
  | e :: es, i, h => by
    cases i with
    | zero => simp [eraseE]
    | succ i => simp only [eraseE, List.length_cons]; have := eraseE_len es i (by simpa using h); omega

theorem delete_sound (hR : Rel φ S w) {t : TypeId} {rest : List TypeId} {ty : TypeId} {x k x' k' : Value} {v : Value} {S' : St} (h : deleteR P S t x k = .ok (v, S')) (hx : RelV φ x x') (hk : RelV φ k k') :
    ∃ w' v', (Builtin.delete_ ⟨t :: rest⟩ ty #[x', k']).run P w = .ok v' w' ∧ Good φ φ S S' w w' ∧ RelV φ v v' := by
  unfold deleteR at h
  split at h
  · rename_i kd e m hkk hp
    obtain ⟨kt, q, ht, hkt, rfl⟩ := keyKind_some hkk
    have := plain_eq hp hk; subst this
    split at h
    case h_2 => cases h
    rename_i es bs kk hes
    obtain ⟨r, hr, h1⟩ := Res.bind_ok h
    clear h
    cases hx with
    | map M l hM =>
      obtain ⟨l1, hl1, es', hob, hre, hbs⟩ := hR.obs m _ hes
      rw [hM] at hl1; cases hl1
      obtain ⟨r', hr', hm⟩ := find_sound hre hr
      have hfk := run_findKey hkt hr' w
      have hck : ∀ b, (Instr.checkKey b 10000 kt k').run P w = .ok () w := fun b => checkKey_int 9999 hkt w
      cases r with
      | none =>
        simp only at hm; subst hm
        simp only at h1
        cases h1
        refine ⟨{ w with heap := w.heap.setIfInBounds l.blk (.map es' kk) }, .tuple #[], ?_, ?_, .tuple _ _ .nil⟩
        · unfold Builtin.delete_
          simp only [List.getElem?_toArray, List.getElem?_cons_zero, List.getElem?_cons_succ, Sem.run_bind, Sem.run_pure, run_underlying ht, Result.andThen_ok, run_getMap hob, hck, hfk, run_setObj hob]
        · exact setOb_good hR hes hM (fun _ _ _ _ _ => by simp) ⟨_, set_get hob, hre, hbs⟩ hob
      | some jv =>
        obtain ⟨j, vv⟩ := jv
        obtain ⟨v0, rfl, hv0, _, e0, e0', he0, he0', hkey, hsame⟩ := hm
        simp only [Nat.sub_zero] at he0 he0'
        simp only at h1
        cases h1
        refine ⟨{ w with heap := w.heap.setIfInBounds l.blk (.map (es'.eraseIdxIfInBounds j) kk) }, .tuple #[], ?_, ?_, .tuple _ _ .nil⟩
        · unfold Builtin.delete_
          simp only [List.getElem?_toArray, List.getElem?_cons_zero, List.getElem?_cons_succ, Sem.run_bind, Sem.run_pure, run_underlying ht, Result.andThen_ok, run_getMap hob, hck, hfk, run_setObj hob]
        · refine setOb_good hR hes hM (fun _ _ _ _ _ => by simp) ⟨_, set_get hob, ?_⟩ hob
          have hj : j < es.length := (List.getElem?_eq_some_iff.1 he0).1
          have hlen : es'.toList.length = es.length := hre.1
          have hj' : j < es'.size := by simpa using (by omega : j < es'.toList.length)
          have hl : (es'.eraseIdxIfInBounds j).toList = es'.toList.eraseIdx j := by
            unfold Array.eraseIdxIfInBounds
            rw [dif_pos hj']
            simp
          refine ⟨⟨?_, fun i a b ha hb => ?_⟩, by rw [hl, ← hbs, eraseE_eq]; exact map_eraseIdx' _ _ _⟩
          · have := eraseE_len es j hj
            rw [hl, List.length_eraseIdx_of_lt (by omega)]
            omega
          · rw [eraseE_get] at ha
            rw [hl, List.getElem?_eraseIdx] at hb
            by_cases hij : i < j
            · rw [if_pos hij] at ha hb
              exact hre.2 i a b ha hb
            · rw [if_neg hij] at ha hb
              exact hre.2 (i + 1) a b ha hb
  · rename_i kd hkk hp
    obtain ⟨kd, e⟩ := kd
    obtain ⟨kt, q, ht, hkt, rfl⟩ := keyKind_some hkk
    have := plain_eq hp hk; subst this
    cases h
    cases hx
    have hck : ∀ b, (Instr.checkKey b 10000 kt k').run P w = .ok () w := fun b => checkKey_int 9999 hkt w
    refine ⟨w, .tuple #[], ?_, Good.refl hR, .tuple _ _ .nil⟩
    unfold Builtin.delete_
    simp only [List.getElem?_toArray, List.getElem?_cons_zero, List.getElem?_cons_succ, Sem.run_bind, Sem.run_pure, run_underlying ht, Result.andThen_ok, hck]
  · cases h

theorem new_any (hR : Rel φ S w) (hf : φ S.next = none) {ob : Ob} {o : Obj} {l : Loc} (hl : l.blk = w.heap.size) (hob : RelOb (φ.put S.next l) (w.alloc o) l ob) : Good φ (φ.put S.next l) S (S.new ob) w (w.alloc o) :=
  new_good hR hf hl rfl rfl rfl (push_size _ _) (push_old _ _) hob

section
variable (dst : Option Tmp) (ty : TypeId) (pos : String) (aft : Array Edge) (gd : Option (Nat × Bool))
variable {t0 : TypeId} {act : Act1}

theorem lookup_ok (hR : Rel φ S w) {t : TypeId} {x i : Operand} {ok : Bool} (ho : ORel φ T ρ [x, i]) (h : oLookup t x i ok P t0 T S = .ok act) : ActOk P φ S w ((execOp ρ ⟨dst, .lookup t x i ok, ty, pos, aft, gd⟩).run P w) act := by
  unfold oLookup at h
  obtain ⟨xv, hx, h1⟩ := Res.bind_ok h
  obtain ⟨iv, hi, h2⟩ := Res.bind_ok h1
  obtain ⟨u, hu, rfl⟩ := un1_ok h2
  obtain ⟨v', hrun, hr⟩ := lookup_sound hR hu (ho x (by simp) xv hx) (ho i (by simp) iv hi)
  exact ⟨v', by simp only [execOp, Sem.run_bind, hrun, Result.andThen_ok, Sem.run_pure], hr⟩

theorem mapupd_ok (hR : Rel φ S w) {t : TypeId} {m k x : Operand} (ho : ORel φ T ρ [m, k, x]) (h : oMapUpd t m k x P t0 T S = .ok act) : ActOk P φ S w ((execOp ρ ⟨dst, .mapUpdate t m k x, ty, pos, aft, gd⟩).run P w) act := by
  unfold oMapUpd at h
  obtain ⟨mv, hm, h1⟩ := Res.bind_ok h
  obtain ⟨kv, hk, h2⟩ := Res.bind_ok h1
  obtain ⟨xv, hx, h3⟩ := Res.bind_ok h2
  unfold un0 at h3
  obtain ⟨S', hS, h4⟩ := Res.bind_ok h3
  cases h4
  obtain ⟨w', hrun, hg⟩ := mapUpdate_sound hR hS (ho m (by simp) mv hm) (ho k (by simp) kv hk) (ho x (by simp) xv hx)
  intro _
  exact ⟨φ, w', undef, .skip, by simp only [execOp, Sem.run_bind, hrun, Result.andThen_ok, Sem.run_pure], .inr ⟨rfl, rfl⟩, hg, .tuple _ _ .nil⟩

theorem isMapT_some {t : TypeId} (h : isMapT (P.underlying t) = some true) : ∃ k e, P.underlying t = some (.map k e) := by
  unfold isMapT at h
  split at h
  · exact ⟨_, _, by assumption⟩
  · cases h
  · cases h
theorem isMapT_str {t : TypeId} (h : isMapT (P.underlying t) = some false) : P.underlying t = some .string := by
  unfold isMapT at h
  split at h
  · cases h
  · assumption
  · cases h

theorem range_ok (hR : Rel φ S w) {t : TypeId} {x : Operand} (ho : ORel φ T ρ [x]) (h : oRange t x P t0 T S = .ok act) : ActOk P φ S w ((execOp ρ ⟨dst, .range t x, ty, pos, aft, gd⟩).run P w) act := by
  unfold oRange at h
  split at h
  · rename_i hmt
    obtain ⟨kt, e, ht⟩ := isMapT_some hmt
    obtain ⟨xv, hx, h1⟩ := Res.bind_ok h
    have hr := ho x (by simp) xv hx
    show ActOk P φ S w ((do pure (Next.value (← Instr.range t (ρ x))) : Sem Next).run P w) _
    generalize ρ x = x' at hr ⊢
    clear h hx ho
    unfold oRange2 at h1
    split at h1
    · cases h1
      cases hr
      intro hfree
      have hf : φ S.next = none := hfree _ (Nat.le_refl _) (by rw [St.next_new]; omega)
      refine ⟨φ.put S.next ⟨w.heap.size, 0, 0, 0⟩, w.alloc (.mapIter none 0 #[] 0), .pointer (some ⟨w.heap.size, 0, none⟩), .value (.pointer (some ⟨w.heap.size, 0, none⟩)), ?_, .inl rfl, ?_, ?_⟩
      · simp [Instr.range, run_underlying ht]
      · exact new_any hR hf rfl ⟨none, #[], push_last _ _, rfl, rfl, rfl⟩
      · exact RelV.ptr S.next 0 ⟨w.heap.size, 0, 0, 0⟩ (Phi.put_same _ _ _)
    · rename_i m
      unfold oRange3 at h1
      split at h1
      case h_2 => cases h1
      rename_i es bs kk hes
      cases h1
      cases hr with
      | map M l hM =>
        obtain ⟨l1, hl1, es', hob, hre, hbs⟩ := hR.obs m _ hes
        rw [hM] at hl1; cases hl1
        intro hfree
        have hf : φ S.next = none := hfree _ (Nat.le_refl _) (by rw [St.next_new]; omega)
        refine ⟨φ.put S.next ⟨w.heap.size, 0, 0, 0⟩, w.alloc (.mapIter (some l.blk) kk #[] kk), .pointer (some ⟨w.heap.size, 0, none⟩), .value (.pointer (some ⟨w.heap.size, 0, none⟩)), ?_, .inl rfl, ?_, ?_⟩
        · simp [Instr.range, run_underlying ht, run_getMap hob]
        · exact new_any hR hf rfl ⟨some l.blk, #[], push_last _ _, rfl, rfl, l, Phi.put_le hf _ _ hM, rfl⟩
        · exact RelV.ptr S.next 0 ⟨w.heap.size, 0, 0, 0⟩ (Phi.put_same _ _ _)
    · cases h1
  · rename_i hmt
    have ht := isMapT_str hmt
    obtain ⟨xv, hx, h1⟩ := Res.bind_ok h
    have hr := ho x (by simp) xv hx
    show ActOk P φ S w ((do pure (Next.value (← Instr.range t (ρ x))) : Sem Next).run P w) _
    generalize ρ x = x' at hr ⊢
    clear h hx ho
    unfold oRangeS at h1
    split at h1
    · cases h1
      cases hr
      intro hfree
      have hf : φ S.next = none := hfree _ (Nat.le_refl _) (by rw [St.next_new]; omega)
      rename_i s
      refine ⟨φ.put S.next ⟨w.heap.size, 0, 0, 0⟩, w.alloc (.stringIter s 0), .pointer (some ⟨w.heap.size, 0, none⟩), .value (.pointer (some ⟨w.heap.size, 0, none⟩)), ?_, .inl rfl, ?_, ?_⟩
      · simp [Instr.range, run_underlying ht]
      · exact new_any hR hf rfl ⟨push_last _ _, rfl⟩
      · exact RelV.ptr S.next 0 ⟨w.heap.size, 0, 0, 0⟩ (Phi.put_same _ _ _)
    · cases h1
  · cases h

theorem inN_iff {l : List Nat} {b : Nat} : inN l b = l.contains b := by
  unfold inN
  induction l with
  | nil => rfl
  | cons a l ih => simp only [List.any_cons, List.contains_cons, ih]; congr 1; rw [Bool.eq_iff_iff]; simp

/-- A step of a range over a map of which nothing is left. -/
theorem run_next_over {w : World} {r M : Nat} {since last k : Nat} {seen : Array Nat} {es : Array MapEntry} (hh : w.heap[r]? = some (.mapIter (some M) since seen last)) (hm : w.heap[M]? = some (.map es k)) (ho : overB (es.toList.map (·.born)) seen.toList last = true) (b : Nat) (hb : b = 0) :
    (Instr.next (.pointer (some ⟨r, b, none⟩)) false ty).run P w = .ok (.tuple #[.bool false]) w := by
  unfold overB at ho
  rw [Bool.and_eq_true, Bool.not_eq_true'] at ho
  obtain ⟨h1, h2⟩ := ho
  have hleft : es.filter (fun e => !seen.contains e.born) = #[] := by
    rw [Array.filter_eq_empty_iff]
    intro e he
    have := List.all_eq_true.1 h1 e.born (List.mem_map.2 ⟨e, Array.mem_def.1 he, rfl⟩)
    rw [inN_iff] at this
    simpa using this
  have hg : (!seen.isEmpty && !es.isEmpty && es.all (fun e => decide (e.born ≥ last))) = false := by
    rw [← h2]
    congr 1
    · congr 1
      · simp [Array.isEmpty]
      · simp [Array.isEmpty]
    · rw [← Array.all_toList, List.all_map]
      congr 1
      funext e
      rw [Bool.eq_iff_iff]
      simp
  subst hb
  unfold Instr.next
  simp only [Sem.run_bind, getObj, Sem.run, hh, Result.andThen_ok, hm, hg, hleft]
  simp [Question.forced]

theorem next_ok (hR : Rel φ S w) {x : Operand} {b : Bool} (ho : ORel φ T ρ [x]) (h : oNext x b P t0 T S = .ok act) : ActOk P φ S w ((execOp ρ ⟨dst, .next x b, ty, pos, aft, gd⟩).run P w) act := by
  unfold oNext at h
  split at h
  · obtain ⟨xv, hx, h1⟩ := Res.bind_ok h
    have hr := ho x (by simp) xv hx
    show ActOk P φ S w ((do pure (Next.value (← Instr.next (ρ x) false ty)) : Sem Next).run P w) _
    generalize ρ x = x' at hr ⊢
    clear h hx ho
    have hover : RelV φ (.tuple #[.bool false]) (.tuple #[.bool false]) := .tuple _ _ (.cons _ _ _ _ (.bool _) .nil)
    unfold oNext2 at h1
    split at h1
    case h_2 => cases h1
    rename_i r
    unfold oNext3 at h1
    split at h1
    · rename_i hg
      cases h1
      cases hr with
      | ptr F off l hF =>
        obtain ⟨l1, hl1, m', seen', hh, hs, hb, hm⟩ := hR.obs r _ hg
        rw [hF] at hl1; cases hl1
        subst hm
        exact ⟨_, by simp [Instr.next, hb, getObj, Sem.run, hh], hover⟩
    · rename_i M since seen last hg
      unfold oNext4 at h1
      split at h1
      case h_2 => cases h1
      rename_i es bs kk hgm
      split at h1
      case h_2 => cases h1
      rename_i hov
      cases h1
      cases hr with
      | ptr F off l hF =>
        obtain ⟨l1, hl1, m', seen', hh, hs, hb, k, hk, rfl⟩ := hR.obs r _ hg
        rw [hF] at hl1; cases hl1
        obtain ⟨l2, hl2, es', hob, hre, hbs⟩ := hR.obs M _ hgm
        rw [hk] at hl2; cases hl2
        refine ⟨.tuple #[.bool false], ?_, hover⟩
        have key := run_next_over (P := P) (ty := ty) hh hob (by rw [hbs, hs]; exact hov) l.base hb
        rw [Sem.run_bind, Nat.add_zero, key]
        rfl
    · cases h1
  · obtain ⟨xv, hx, h1⟩ := Res.bind_ok h
    have hr := ho x (by simp) xv hx
    show ActOk P φ S w ((do pure (Next.value (← Instr.next (ρ x) true ty)) : Sem Next).run P w) _
    generalize ρ x = x' at hr ⊢
    clear h hx ho
    unfold oNextS at h1
    split at h1
    case h_2 => cases h1
    rename_i r
    unfold oNextS2 at h1
    split at h1
    case h_2 => cases h1
    rename_i s p hg
    unfold oNextS3 at h1
    cases hr with
    | ptr F off l hF =>
      obtain ⟨l1, hl1, hh, hb⟩ := hR.obs r _ hg
      rw [hF] at hl1; cases hl1
      split at h1
      · rename_i hlt
        cases h1
        have hlt' : ¬ p < s.size := by
          have h1 : Nat.blt p s.data.toList.length = false := hlt
          have h2 : s.data.toList.length = s.size := by cases s; rfl
          intro h3
          have h4 : Nat.blt p s.data.toList.length = true := by rw [h2]; simpa using h3
          rw [h1] at h4; cases h4
        intro _
        exact ⟨φ, w, _, _, by simp [Instr.next, hb, getObj, Sem.run, hh, hlt'], .inl rfl, Good.refl hR, .tuple _ _ (.cons _ _ _ _ (.bool _) .nil)⟩
      · rename_i hlt
        have hlt : p < s.data.toList.length := Nat_blt hlt
        have hsz : s.data.toList.length = s.size := by cases s; rfl
        split at h1
        case h_2 => cases h1
        rename_i by' hby
        split at h1
        case h_2 => cases h1
        rename_i h128
        have h128 := Nat_blt h128
        cases h1
        rw [nth_eq] at hby
        have hget : s.get! p = by' := by
          cases s with
          | mk d =>
            have hby : d.toList[p]? = some by' := hby
            rw [Array.getElem?_toList] at hby
            show d[p]! = by'
            rw [getElem!_def, hby]
        have hdec : Utf8.decode s p = (by'.toNat, 1) := by
          unfold Utf8.decode
          simp only [Nat.add_zero, hget]
          rw [if_pos (by omega)]
        intro _
        refine ⟨φ, { w with heap := w.heap.setIfInBounds l.blk (.stringIter s (p + 1)) }, _, .value (.tuple #[.bool true, goInt p, .int .i32 by'.toNat]), ?_, .inl rfl, ?_, ?_⟩
        · simp [Instr.next, hb, getObj, setObj, Sem.run, hh, hdec, show p < s.size by omega]
        · exact setOb_good hR hg hF (fun _ _ _ _ _ => by simp) ⟨set_get hh, hb⟩ hh
        · exact .tuple _ _ (.cons _ _ _ _ (.bool _) (.cons _ _ _ _ (.int _ _) (.cons _ _ _ _ (.int _ _) .nil)))

theorem lastN_eq : ∀ (l : List Nat), lastN l = l.getLast?
  | [] => rfl
  | b :: l => by
    cases l with
    | nil => rfl
    | cons c l' => simp only [lastN]; rw [lastN_eq (c :: l')]; rfl

theorem entryAt_ok {stamp : Nat} : ∀ {bs : List Nat} {es : List (Value × Value)} {es' : List MapEntry} {e : Value × Value}, RelE φ es es' → es'.map (·.born) = bs → entryAt stamp bs es = some e →
    ∃ e', es'.find? (·.born == stamp) = some e' ∧ e'.key = e.1 ∧ plain e.1 = true ∧ RelV φ e.2 e'.val
  | [], es, es', e, hre, hbs, h => by simp [entryAt] at h
  | b :: bs, [], es', e, hre, hbs, h => by simp [entryAt] at h
  | b :: bs, e0 :: es, [], e, hre, hbs, h => by simp at hbs
  | b :: bs, e0 :: es, e0' :: es', e, hre, hbs, h => by
    simp only [List.map_cons, List.cons.injEq] at hbs
    obtain ⟨rfl, hbs⟩ := hbs
    obtain ⟨⟨hp, hk⟩, hv⟩ := hre.2 0 e0 e0' rfl rfl
    have hre' : RelE φ es es' := ⟨by have := hre.1; simpa using this, fun j a b ha hb => hre.2 (j + 1) a b (by simpa using ha) (by simpa using hb)⟩
    simp only [entryAt] at h
    split at h
    · rename_i hb
      cases h
      refine ⟨e0', ?_, hk, hp, hv⟩
      rw [List.find?_cons]
      have := Nat_beq hb
      simp [this]
    · rename_i hb
      obtain ⟨e', h1, h2⟩ := entryAt_ok hre' hbs h
      refine ⟨e', ?_, h2⟩
      rw [List.find?_cons]
      have h5 := Nat_beq_false hb
      have h6 : (e0'.born == stamp) = false := by simpa using h5
      simp only [h6, h1]

theorem entry_ok (hR : Rel φ S w) {x : Operand} (ho : ORel φ T ρ [x]) (h : oEntry x P t0 T S = .ok act) : ActOk P φ S w ((execOp ρ ⟨dst, .entry x, ty, pos, aft, gd⟩).run P w) act := by
  unfold oEntry at h
  obtain ⟨xv, hx, h1⟩ := Res.bind_ok h
  have hr := ho x (by simp) xv hx
  show ActOk P φ S w ((do pure (Next.value (← Instr.entry (ρ x))) : Sem Next).run P w) _
  generalize ρ x = x' at hr ⊢
  clear h hx ho
  unfold oEntry0 at h1
  split at h1
  case h_2 => cases h1
  rename_i r
  unfold oEntry1 at h1
  split at h1
  case h_2 => cases h1
  rename_i M since seen last hg
  unfold oEntry2 at h1
  split at h1
  case h_2 => cases h1
  rename_i stamp hst
  unfold oEntry3 at h1
  split at h1
  case h_2 => cases h1
  rename_i es bs kk hgm
  split at h1
  case h_2 => cases h1
  rename_i hkl
  have hkl := Nat_beq hkl; subst hkl
  unfold oEntry4 at h1
  split at h1
  case h_2 => cases h1
  rename_i e he
  cases h1
  cases hr with
  | ptr F off l hF =>
    obtain ⟨l1, hl1, m', seen', hh, hs, hb, k, hk, rfl⟩ := hR.obs r _ hg
    rw [hF] at hl1; cases hl1
    obtain ⟨l2, hl2, es', hob, hre, hbs⟩ := hR.obs M _ hgm
    rw [hk] at hl2; cases hl2
    obtain ⟨e', h1, h2, h3, h4⟩ := entryAt_ok hre hbs he
    rw [lastN_eq, ← hs] at hst
    have hback : seen'.back? = some stamp := by rw [← hst]; simp
    have hfind : es'.find? (·.born == stamp) = some e' := by rw [← Array.find?_toList]; exact h1
    refine ⟨.tuple #[e'.key, e'.val], ?_, .tuple _ _ (.cons _ _ _ _ (by rw [h2]; exact plain_self h3) (.cons _ _ _ _ h4 .nil))⟩
    simp [Instr.entry, hb, getObj, Sem.run, hh, hob, hback, hfind]

theorem fail_ok {asserted : TypeId} {ok : Bool} {v : Value} (h : failR P asserted ok = .ok v) : ok = true ∧ ∃ i z, P.info? asserted = some i ∧ i.zero = some z ∧ plain z = true ∧ v = .tuple #[z, .bool false] := by
  unfold failR at h
  split at h
  · rename_i i hi
    split at h
    · rename_i z hz
      split at h
      · rename_i hp
        cases h
        exact ⟨rfl, i, z, hi, hz, hp, rfl⟩
      · cases h
    · cases h
  · cases h

theorem assert_sound {x x' : Value} {xT asserted : TypeId} {ok : Bool} {v : Value} (h : typeAssertR P x asserted ok = .ok v) (hx : RelV φ x x') (w : World) : ∃ v', (Instr.typeAssert x' xT asserted ok).run P w = .ok v' w ∧ RelV φ v v' := by
  have hfail : ∀ {u : Value} (s d : Option TypeId) (m : String), failR P asserted ok = .ok u → ∃ v', (do
      if ok then pure (.tuple #[← zeroValue asserted, .bool false])
      else runtimePanic (.typeAssertion s d asserted m) : Sem Value).run P w = .ok v' w ∧ RelV φ u v' := by
    intro u s d m hu
    obtain ⟨rfl, i, z, hi, hz, hp, rfl⟩ := fail_ok hu
    exact ⟨.tuple #[z, .bool false], by simp [run_zero hi hz], .tuple _ _ (.cons _ _ _ _ (plain_self hp) (.cons _ _ _ _ (.bool _) .nil))⟩
  have hhold : ∀ {u y y' : Value}, holdR y ok = .ok u → RelV φ y y' → RelV φ u (if ok then .tuple #[y', .bool true] else y') := by
    intro u y y' hu hy
    unfold holdR at hu
    cases ok with
    | true => cases hu; exact .tuple _ _ (.cons _ _ _ _ hy (.cons _ _ _ _ (.bool _) .nil))
    | false => cases hu; exact hy
  unfold typeAssertR at h
  unfold Instr.typeAssert
  split at h
  · rename_i ms hu
    cases hx
    obtain ⟨v', hrun, hr⟩ := hfail none none "" h
    exact ⟨v', by simp only [Sem.run_bind, run_underlying hu, Result.andThen_ok]; exact hrun, hr⟩
  · rename_i want t y hu
    split at h
    case h_2 => cases h
    rename_i i hi
    cases hx with
    | iface _ _ y' hy =>
      split at h
      · rename_i hmm
        refine ⟨_, ?_, hhold h (.iface t _ _ hy)⟩
        simp only [Sem.run_bind, run_underlying hu, Result.andThen_ok, run_info hi, hmm, Sem.run_pure]
      · rename_i m hmm
        obtain ⟨v', hrun, hr⟩ := hfail none (some t) m h
        exact ⟨v', by simp only [Sem.run_bind, run_underlying hu, Result.andThen_ok, run_info hi, hmm]; exact hrun, hr⟩
  · rename_i d hni hu
    cases hx
    obtain ⟨v', hrun, hr⟩ := hfail (some xT) none "" h
    refine ⟨v', ?_, hr⟩
    simp only [Sem.run_bind, run_underlying hu, Result.andThen_ok]
    cases d <;> first
      | exact absurd rfl (hni _)
      | exact hrun
  · rename_i d t y hni hu
    cases hx with
    | iface _ _ y' hy =>
      split at h
      · rename_i hte
        have hte := Nat_beq hte
        refine ⟨_, ?_, hhold h hy⟩
        simp only [Sem.run_bind, run_underlying hu, Result.andThen_ok]
        cases d <;> first
          | exact absurd rfl (hni _)
          | (simp only [hte, if_true]; rfl)
      · rename_i hte
        have hte := Nat_beq_false hte
        obtain ⟨v', hrun, hr⟩ := hfail (some xT) (some t) "" h
        refine ⟨v', ?_, hr⟩
        simp only [Sem.run_bind, run_underlying hu, Result.andThen_ok]
        cases d <;> first
          | exact absurd rfl (hni _)
          | (simp only [hte, if_false]; exact hrun)
  · cases h

theorem assert_ok {x : Operand} {xT u : TypeId} {ok : Bool} (ho : ORel φ T ρ [x]) (h : oAssert x xT u ok P t0 T S = .ok act) : ActOk P φ S w ((execOp ρ ⟨dst, .typeAssert x xT u ok, ty, pos, aft, gd⟩).run P w) act := by
  unfold oAssert at h
  obtain ⟨xv, hx, h1⟩ := Res.bind_ok h
  obtain ⟨v, hv, rfl⟩ := un1_ok h1
  obtain ⟨v', hrun, hr⟩ := assert_sound (xT := xT) hv (ho x (by simp) xv hx) w
  exact ⟨v', by simp only [execOp, Sem.run_bind, hrun, Result.andThen_ok, Sem.run_pure], hr⟩
end
end
end Go.Ev
namespace Go.Ev
section
variable {P : Program} {φ : Phi} {S : St} {w : World} {T : Ts} {ρ : Operand → Value}

theorem rel1 {x : Value} {l' : List Value} (h : RelL φ [x] l') : ∃ x', l' = [x'] ∧ RelV φ x x' := by
  cases h with | cons _ x' _ _ h1 h2 => cases h2; exact ⟨x', rfl, h1⟩
theorem rel2 {x y : Value} {l' : List Value} (h : RelL φ [x, y] l') : ∃ x' y', l' = [x', y'] ∧ RelV φ x x' ∧ RelV φ y y' := by
  cases h with | cons _ x' _ _ h1 h2 => obtain ⟨y', rfl, hy⟩ := rel1 h2; exact ⟨x', y', rfl, h1, hy⟩
theorem plain_list {l l' : List Value} (hp : l.all plain = true) (h : RelL φ l l') : l' = l := by
  induction l generalizing l' with
  | nil => cases h; rfl
  | cons x l ih => cases h with | cons _ x' _ l' h1 h2 => simp at hp; rw [plain_eq hp.1 h1, ih (by simpa using hp.2) h2]

theorem upd_ok {r : Res (Value × St)} {act : Act1} (h : un r = .ok act) : ∃ v S', r = .ok (v, S') ∧ act = .upd v S' := by
  unfold un at h
  obtain ⟨p, hp, h⟩ := Res.bind_ok h
  cases h
  exact ⟨p.1, p.2, hp, rfl⟩

theorem builtin_sound (hR : Rel φ S w) {b : Builtin} {argTypes : List TypeId} {t : TypeId} {consts : Array Bool} {args args' : List Value} {act : Act1} (h : builtinR P S b argTypes t args = .ok act) (hr : RelL φ args args') :
    ActOk P φ S w ((builtin b ⟨argTypes⟩ t consts ⟨args'⟩).run P w) act := by
  unfold builtinR at h
  split at h
  · rename_i s x
    obtain ⟨v, S', hv, rfl⟩ := upd_ok h
    obtain ⟨s', x', rfl, hs, hx⟩ := rel2 hr
    intro hfree
    have hat : ∃ sT xT rest, argTypes = sT :: xT :: rest := by
      unfold appendR at hv
      split at hv
      · exact ⟨_, _, _, rfl⟩
      · cases hv
    obtain ⟨sT, xT, rest, rfl⟩ := hat
    obtain ⟨φ', w', v', hrun, hg, hvr⟩ := append_sound (ty := t) hR hv hs hx hfree
    exact ⟨φ', w', v', .value v', by simp only [builtin, Sem.run_bind]; rw [show (#[s', x'] : Array Value) = ⟨[s', x']⟩ from rfl] at hrun; rw [hrun]; rfl, .inl rfl, hg, hvr⟩
  · rename_i d x
    obtain ⟨v, S', hv, rfl⟩ := upd_ok h
    obtain ⟨d', x', rfl, hd, hx⟩ := rel2 hr
    intro _
    have hat : ∃ dT rest, argTypes = dT :: rest := by
      unfold copyR at hv
      split at hv
      · exact ⟨_, _, rfl⟩
      · cases hv
    obtain ⟨dT, rest, rfl⟩ := hat
    obtain ⟨w', v', hrun, hg, hvr⟩ := copy_sound (ty := t) hR hv hd hx
    exact ⟨φ, w', v', .value v', by simp only [builtin, Sem.run_bind]; rw [show (#[d', x'] : Array Value) = ⟨[d', x']⟩ from rfl] at hrun; rw [hrun]; rfl, .inl rfl, hg, hvr⟩
  · rename_i x
    obtain ⟨v, hv, rfl⟩ := un1_ok h
    obtain ⟨x', rfl, hx⟩ := rel1 hr
    obtain ⟨v', hrun, hvr⟩ := len_sound (ty := t) hR hv hx
    exact ⟨v', by simp only [builtin, Sem.run_bind]; rw [show (#[x'] : Array Value) = ⟨[x']⟩ from rfl] at hrun; rw [hrun]; rfl, hvr⟩
  · rename_i x
    obtain ⟨v, S', hv, rfl⟩ := upd_ok h
    obtain ⟨x', rfl, hx⟩ := rel1 hr
    intro _
    have hat : ∃ dT rest, argTypes = dT :: rest := by
      unfold clearR at hv
      split at hv
      · exact ⟨_, _, rfl⟩
      · cases hv
    obtain ⟨dT, rest, rfl⟩ := hat
    obtain ⟨w', v', hrun, hg, hvr⟩ := clear_sound (ty := t) hR hv hx
    exact ⟨φ, w', v', .value v', by simp only [builtin, Sem.run_bind]; rw [show (#[x'] : Array Value) = ⟨[x']⟩ from rfl] at hrun; rw [hrun]; rfl, .inl rfl, hg, hvr⟩
  · rename_i m k
    split at h
    case h_2 => cases h
    rename_i mt rest
    obtain ⟨v, S', hv, rfl⟩ := upd_ok h
    obtain ⟨m', k', rfl, hm, hk⟩ := rel2 hr
    intro _
    obtain ⟨w', v', hrun, hg, hvr⟩ := delete_sound (ty := t) (rest := rest) hR hv hm hk
    exact ⟨φ, w', v', .value v', by simp only [builtin, Sem.run_bind]; rw [show (#[m', k'] : Array Value) = ⟨[m', k']⟩ from rfl] at hrun; rw [hrun]; rfl, .inl rfl, hg, hvr⟩
  · split at h
    case h_2 => cases h
    rename_i hp
    have := plain_list hp hr; subst this
    unfold ofPeek at h
    split at h
    · rename_i r hpk
      split at h
      · rename_i hpl
        cases h
        exact ⟨r, by simp only [builtin, Sem.run_bind, peek_run (w := w) _ hpk]; rfl, plain_self hpl⟩
      · cases h
    · cases h
  · split at h
    case h_2 => cases h
    rename_i hp
    have := plain_list hp hr; subst this
    unfold ofPeek at h
    split at h
    · rename_i r hpk
      split at h
      · rename_i hpl
        cases h
        exact ⟨r, by simp only [builtin, Sem.run_bind, peek_run (w := w) _ hpk]; rfl, plain_self hpl⟩
      · cases h
    · cases h
  · cases h

theorem okFn_run {f : FuncId} (h : okFn P f = true) (args : Array Value) (w : World) : (callFunc f args).run P w = .ok (.enter f args) w := by
  unfold okFn at h
  rw [nth_eq, Array.getElem?_toList] at h
  split at h
  · rename_i fn hfn
    simp only [Bool.and_eq_true, Bool.not_eq_true'] at h
    obtain ⟨hb, hn⟩ := h
    cases hbody : fn.body with
    | none => simp [hbody] at hb
    | some c =>
      unfold callFunc
      simp only [Sem.run_bind, run_program, Result.andThen_ok, hfn, hn, hbody, Option.isNone_some, Bool.false_eq_true, if_false]
      rfl
  · cases h

section
variable (dst : Option Tmp) (ty : TypeId) (pos : String) (aft : Array Edge) (gd : Option (Nat × Bool))
variable {act : Act1}

theorem call_ok (hR : Rel φ S w) {c : Call} (ho : ORel φ T ρ c.operands.toList) (h : oCall c P ty T S = .ok act) : ActOk P φ S w ((execOp ρ ⟨dst, .call c, ty, pos, aft, gd⟩).run P w) act := by
  unfold oCall at h
  obtain ⟨args, ha, h1⟩ := Res.bind_ok h
  have har : RelL φ args (c.args.toList.map ρ) := opnds_rel (fun x hx => ho x (by simp [Call.operands, hx])) ha
  obtain ⟨callee, cargs, ctypes⟩ := c
  unfold oCall2 at h1
  simp only at h1 har
  split at h1
  · rename_i b
    have hall : ∀ (consts : Array Bool) (as : Array Value), as = ⟨cargs.toList.map ρ⟩ → ActOk P φ S w ((builtin b ctypes ty consts as).run P w) act := fun consts as e => by
      subst e
      exact builtin_sound (consts := consts) hR h1 har
    simp only [execOp, resolve, Sem.run_bind, Sem.run_pure, Result.andThen_ok, invoke]
    exact hall _ _ (by apply Array.ext'; simp)
  · rename_i f
    obtain ⟨fv, hf, h2⟩ := Res.bind_ok h1
    have hfr := ho f (by simp [Call.operands]) fv hf
    unfold oCall3 at h2
    split at h2
    case h_2 => cases h2
    rename_i fid first capt
    split at h2
    case h_2 => cases h2
    rename_i hok
    cases h2
    generalize hρ : ρ f = y at hfr
    cases hfr with
    | func fn a b a' b' h3 h4 =>
      refine ⟨((⟨a'⟩ : Array Value) ++ cargs.map ρ) ++ ⟨b'⟩, ?_, ?_⟩
      · simp only [execOp, resolve, Sem.run_bind, hρ, Deferred.ofValue, Sem.run_pure, Result.andThen_ok, invoke]
        exact okFn_run hok _ w
      · have := (h3.append har).append h4
        simpa using this
  · cases h1

/-- WHAT AN OPERATION's EVALUATION SAYS IS SO. -/
theorem op_sound (hR : Rel φ S w) {o : Oper} (ho : ORel φ T ρ o.op.operands.toList) (h : opR P o T S = .ok act) : ActOk P φ S w ((execOp ρ o).run P w) act := by
  obtain ⟨dst, op, ty, pos, aft, gd⟩ := o
  unfold opR at h
  simp only at h ho
  cases op <;> simp only [opR2, Op.operands] at h ho
  case move x => exact move_ok dst ty pos aft gd ho h
  case assign x => exact assign_ok dst ty pos aft gd ho h
  case pick c a b => exact pick_ok dst ty pos aft gd ho h
  case alloc e => exact alloc_ok dst ty pos aft gd h
  case box t x => exact box_ok dst ty pos aft gd ho h
  case build t ps => exact build_ok dst ty pos aft gd (by simpa using ho) h
  case buildSlice t n ps => exact buildslice_ok dst ty pos aft gd (by simpa using ho) h
  case load t a => exact load_ok dst ty pos aft gd hR ho h
  case store t a x => exact store_ok dst ty pos aft gd hR ho h
  case nilCheck x => exact nil_ok dst ty pos aft gd ho h
  case binOp op t x y u => exact bin_ok dst ty pos aft gd ho h
  case unOp op t x => exact un_ok dst ty pos aft gd ho h
  case convert s d x => exact conv_ok dst ty pos aft gd hR ho h
  case makeInterface t x => exact mkif_ok dst ty pos aft gd ho h
  case makeFunc fn a b => exact mkfn_ok dst ty pos aft gd (by simpa using ho) h
  case makeMap t r => exact mkmap_ok dst ty pos aft gd h
  case makeSlice t l c => exact makeslice_ok dst ty pos aft gd ho h
  case slice t x lo hi mx => exact slice_ok dst ty pos aft gd hR (by simpa using ho) h
  case fieldAddr t x f => exact fieldaddr_ok dst ty pos aft gd ho h
  case field t x f => exact field_ok dst ty pos aft gd ho h
  case indexAddr t x i => exact indexaddr_ok dst ty pos aft gd ho h
  case index t x i => exact index_ok dst ty pos aft gd ho h
  case lookup t x i ok => exact lookup_ok dst ty pos aft gd hR ho h
  case mapUpdate t m k x => exact mapupd_ok dst ty pos aft gd hR ho h
  case insert t m k x => exact mapupd_ok dst ty pos aft gd hR ho h
  case range t x => exact range_ok dst ty pos aft gd hR ho h
  case next x b => exact next_ok dst ty pos aft gd hR ho h
  case entry x => exact entry_ok dst ty pos aft gd hR ho h
  case typeAssert x xT u ok => exact assert_ok dst ty pos aft gd ho h
  case extract x i => exact extract_ok dst ty pos aft gd ho h
  case call c => exact call_ok dst ty pos aft gd hR ho h
  all_goals (simp [oBad] at h)
end
end
end Go.Ev
namespace Go.Ev
section
variable {P : Program} {φ : Phi} {S S' : St} {w : World} {T : Ts} {a : Act}

/-- What is asked of the calls' evaluation. -/
def CallOk (P : Program) (c : CallR) : Prop := ∀ f args S v S', c f args S = .ok (v, S') → ∀ (φ : Phi) (w : World) (args' : Array Value), Rel φ S w → Free φ S.next S'.next → RelL φ args args'.toList →
  Calls P f args' w fun e w' => ∃ v' φ', e = .returned v' ∧ Good φ φ' S S' w w' ∧ RelV φ' v v'

theorem tmp_set (T : Ts) (d t : Nat) (v : Value) : (Tr.set T d (some v)).tmp t = if t = d then v else T.tmp t := by
  unfold Tr.tmp
  rw [Tr.get_set]
  by_cases h : t = d
  · rw [if_pos h, if_pos h]
  · rw [if_neg h, if_neg h]

theorem TRel.mono {φ' : Phi} (hl : φ.le φ') (h : TRel φ T a) : TRel φ' T a := fun t => (h t).mono hl

theorem TRel.put (h : TRel φ T a) {dst : Option Tmp} {v v' : Value} (hv : RelV φ v v') (hd : ∀ d, dst = some d → d < a.tmps.size) : TRel φ (putT T dst v) (a.put dst v') := by
  cases dst with
  | none => exact h
  | some d =>
    have hd := hd d rfl
    intro t
    simp only [putT, Act.put]
    rw [tmp_set]
    by_cases ht : t = d
    · subst ht
      rw [if_pos rfl]
      simpa [Array.getD, hd] using hv
    · rw [if_neg ht]
      have : (a.tmps.setIfInBounds d v').getD t undef = a.tmps.getD t undef := by
        simp only [Array.getD_eq_getD_getElem?, Array.getElem?_setIfInBounds_ne (Ne.symm ht)]
      rw [this]
      exact h t

theorem put_defers (dst : Option Tmp) (v : Value) : (a.put dst v).defers = a.defers := by cases dst <;> rfl
theorem put_size (dst : Option Tmp) (v : Value) : (a.put dst v).tmps.size = a.tmps.size := by cases dst <;> simp [Act.put]

theorem wanted_eq (h : TRel φ T a) (ops : Array Oper) (o : Oper) : wantedR ops.toList T o = Region.wanted o (yielded ops a.tmps) := by
  unfold wantedR Region.wanted
  cases o.guard with
  | none => rfl
  | some g =>
    obtain ⟨j, want⟩ := g
    simp only
    rw [nth_eq, Array.getElem?_toList]
    unfold yielded
    cases hj : ops[j]? with
    | none => rfl
    | some p =>
      simp only [Option.bind_some]
      cases hd : p.dst with
      | none => rfl
      | some d =>
        simp only [Option.bind_some]
        have hr := h d
        cases ht : a.tmps[d]? with
        | none =>
          have hu : a.tmps.getD d undef = undef := by simp [Array.getD_eq_getD_getElem?, ht]
          rw [hu] at hr
          generalize T.tmp d = x at hr
          cases hr
          rfl
        | some y =>
          have hu : a.tmps.getD d undef = y := by simp [Array.getD_eq_getD_getElem?, ht]
          rw [hu] at hr
          generalize T.tmp d = x at hr
          cases hr <;> first
            | rfl
            | (rename_i b; cases b <;> cases want <;> rfl)

theorem new_act {r : Result Next} {v : Value} {ob : Ob} (hR : Rel φ S w) (h : ActOk P φ S w r (.new v ob)) (hf : φ S.next = none) : ∃ φ' w' v', r = .ok (.value v') w' ∧ Good φ φ' S (S.new ob) w w' ∧ RelV φ' v v' := by
  obtain ⟨v', w', l, hrun, hl, h1, h2, h3, h4, h5, _, h6⟩ := h
  obtain ⟨hv, hob⟩ := h6 (φ.put S.next l) (Phi.put_le hf) (Phi.put_same _ _ _)
  exact ⟨_, w', v', hrun, new_good hR hf hl h1 h2 h3 h4 h5 hob, hv⟩

/-- One operation. -/
theorem one_sound {c : CallR} (hc : CallOk P c) {ops : Array Oper} {o : Oper} {v : Value} {K : Act → World → Prop} {Q : Exit → Act → World → Prop} (h : oneR P c ops.toList o T S = .ok (v, S')) (hT : TRel φ T a) (hR : Rel φ S w) (hfree : Free φ S.next S'.next)
    (hK : ∀ φ' v' w', Good φ φ' S S' w w' → RelV φ' v v' → K (a.put o.dst v') w') :
    if Region.wanted o (yielded ops a.tmps) then o.wp P a w K Q ∨ (o.asks P a w ∧ LetsOut Q) else K (a.put o.dst undef) w := by
  rw [← wanted_eq hT ops o]
  unfold oneR at h
  split at h
  · rename_i hw
    cases h
    rw [hw]
    simp only [Bool.false_eq_true, if_false]
    exact hK φ undef w (Good.refl hR) (.tuple _ _ .nil)
  · rename_i hw
    rw [hw]
    simp only [if_true]
    left
    obtain ⟨act, hact, h⟩ := Res.bind_ok h
    have hs := op_sound hR (hT.orel _) hact
    unfold Oper.wp
    cases act with
    | val u =>
      cases h
      obtain ⟨v', hrun, hr⟩ := hs
      rw [hrun, Oper.upon_value]
      exact hK φ v' w (Good.refl hR) hr
    | new u ob =>
      cases h
      obtain ⟨φ', w', v', hrun, hg, hr⟩ := new_act hR hs (hfree _ (Nat.le_refl _) (by rw [St.next_new]; omega))
      rw [hrun, Oper.upon_value]
      exact hK φ' v' w' hg hr
    | upd u S1 =>
      simp only [Act1.go] at h
      split at h
      case h_2 => cases h
      cases h
      obtain ⟨φ', w', v', nx, hrun, hnx, hg, hr⟩ := hs hfree
      rw [hrun]
      rcases hnx with rfl | ⟨rfl, rfl⟩
      · rw [Oper.upon_value]; exact hK φ' v' w' hg hr
      · rw [Oper.upon_skip]; exact hK φ' undef w' hg hr
    | call f args =>
      simp only [Act1.go] at h
      obtain ⟨p, hp, h⟩ := Res.bind_ok h
      split at h
      case h_2 => cases h
      cases h
      obtain ⟨args', hrun, hr⟩ := hs
      rw [hrun, Oper.upon_enter]
      refine (hc f args S v S' hp φ w args' hR hfree hr).mono ?_
      rintro e w' ⟨v', φ', rfl, hg, hv⟩
      exact hK φ' v' w' hg hv

theorem one_mono {c : CallR} {ops : List Oper} {o : Oper} {v : Value} (h : oneR P c ops o T S = .ok (v, S')) : S.next ≤ S'.next := by
  unfold oneR at h
  split at h
  · cases h; exact Nat.le_refl _
  · obtain ⟨act, _, h⟩ := Res.bind_ok h
    cases act with
    | val u => cases h; exact Nat.le_refl _
    | new u ob => cases h; rw [St.next_new]; omega
    | upd u S1 =>
      simp only [Act1.go] at h
      split at h
      · rename_i hb; cases h; exact Nat_ble hb
      · cases h
    | call f args =>
      simp only [Act1.go] at h
      obtain ⟨p, _, h⟩ := Res.bind_ok h
      split at h
      · rename_i hb; cases h; exact Nat_ble hb
      · cases h

theorem seqOps_nil (c : CallR) (ops : List Oper) (T : Ts) (S : St) : seqOps P c ops [] T S = .ok (T, S) := rfl
theorem seqOps_cons (c : CallR) (ops : List Oper) (o : Oper) (l : List Oper) (T : Ts) (S : St) : seqOps P c ops (o :: l) T S = (oneR P c ops o T S).bind fun p => seqOps P c ops l (putT T o.dst p.1) p.2 := rfl

theorem seq_mono {c : CallR} {ops : List Oper} : ∀ {l : List Oper} {T : Ts} {S : St} {r : Ts × St}, seqOps P c ops l T S = .ok r → S.next ≤ r.2.next
  | [], T, S, r, h => by rw [seqOps_nil] at h; cases h; exact Nat.le_refl _
  | o :: l, T, S, r, h => by
    rw [seqOps_cons] at h
    obtain ⟨p, hp, h⟩ := Res.bind_ok h
    obtain ⟨v, S1⟩ := p
    exact Nat.le_trans (one_mono hp) (seq_mono h)

/-- Operations one behind the other. -/
theorem seq_sound {c : CallR} (hc : CallOk P c) {ops : Array Oper} {Q : Exit → Act → World → Prop} {n : Nat} : ∀ (l : List Oper) (k : Nat) (T : Ts) (S : St) (φ : Phi) (a : Act) (w : World) (T' : Ts) (S' : St), ops.toList.drop k = l → seqOps P c ops.toList l T S = .ok (T', S') →
    (∀ o ∈ l, ∀ d, o.dst = some d → d < n) → n ≤ a.tmps.size → TRel φ T a → Rel φ S w → Free φ S.next S'.next →
    (∀ φ' a' w', Good φ φ' S S' w w' → TRel φ' T' a' → a'.defers = a.defers → a'.tmps.size = a.tmps.size → Q .normal a' w') →
    wpOps P ops Q (List.range' k l.length) a w
  | [], k, T, S, φ, a, w, T', S', _, h, _, _, hT, hR, _, hQ => by
    rw [seqOps_nil] at h; cases h
    simp only [List.length_nil, List.range'_zero, wpOps]
    exact hQ φ a w (Good.refl hR) hT rfl rfl
  | o :: l, k, T, S, φ, a, w, T', S', hd, h, hb, hn, hT, hR, hfree, hQ => by
    rw [seqOps_cons] at h
    obtain ⟨p, hp, h⟩ := Res.bind_ok h
    obtain ⟨v, S1⟩ := p
    have hok : ops[k]? = some o := by
      rw [← Array.getElem?_toList]
      have : (ops.toList.drop k)[0]? = some o := by rw [hd]; rfl
      simpa using this
    have hd1 : ops.toList.drop (k + 1) = l := by
      have := congrArg List.tail hd
      simpa using this
    have m1 := one_mono hp
    have m2 := seq_mono h
    simp only [List.length_cons, List.range'_succ, wpOps, hok]
    have hbo := hb o (by simp)
    refine one_sound hc hp hT hR (hfree.sub (Nat.le_refl _) m2) ?_
    intro φ1 v' w1 hg hv
    have hdd : ∀ d, o.dst = some d → d < a.tmps.size := fun d hd => Nat.lt_of_lt_of_le (hbo d hd) hn
    refine seq_sound hc l (k + 1) (putT T o.dst v) S1 φ1 (a.put o.dst v') w1 T' S' hd1 h (fun q hq => hb q (by simp [hq])) (by rw [put_size]; exact hn) ((hT.mono hg.ext).put hv hdd) hg.rel ?_ ?_
    · intro F h1 h2
      cases hF : φ1 F with
      | none => rfl
      | some x =>
        cases hF0 : φ F with
        | none => have := hg.rng F x hF0 hF; omega
        | some y => have := hfree F (by omega) h2; rw [hF0] at this; cases this
    · intro φ2 a2 w2 hg2 hT2 hde hsz
      exact hQ φ2 a2 w2 (hg.trans hg2) hT2 (by rw [hde, put_defers]) (by rw [hsz, put_size])
end
end Go.Ev
