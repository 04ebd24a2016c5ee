/- The evaluator's operations are sound (conversion, arithmetic, fields): helper texts, no condition. -/
import Derived.Test.YtnmmmiliogogfaaGreatDoorEvA
import Derived.Laws.Entries
import Derived.Calls
import Derived.Laws.BytesString
import Derived.Laws.Strings
import Derived.Laws.Append
set_option linter.unusedVariables false
set_option linter.unusedSimpArgs false
namespace Go.Ev

section
variable {P : Program} {φ : Phi} {S : St} {w : World}

theorem run_info {t : TypeId} {i : TypeInfo} (h : P.info? t = some i) (w : World) : (typeInfo t).run P w = .ok i w := by
  simp [typeInfo, h]
theorem run_size {t : TypeId} {i : TypeInfo} (h : P.info? t = some i) (w : World) : (sizeOf t).run P w = .ok i.size w := by
  simp [sizeOf, run_info h]
theorem sizeT_eq {t : TypeId} {i : TypeInfo} (h : P.info? t = some i) : sizeT P t = i.size := by simp [sizeT, h]
theorem run_sizeT {t : TypeId} (h : knownT P t = true) (w : World) : (sizeOf t).run P w = .ok (sizeT P t) w := by
  unfold knownT at h
  cases hi : P.info? t with
  | none => simp [hi] at h
  | some i => rw [run_size hi, sizeT_eq hi]
theorem known_of_size {t : TypeId} (h : sizeT P t ≠ 0) : knownT P t = true := by
  unfold sizeT at h; unfold knownT
  cases hi : P.info? t with
  | none => simp [hi] at h
  | some i => rfl
theorem known_of_underlying {t : TypeId} {d : TypeDesc} (h : P.underlying t = some d) : knownT P t = true := by
  unfold Program.underlying at h; unfold knownT
  cases hi : P.info? t with
  | none => simp [hi] at h
  | some i => rfl
theorem zeroT_some {t : TypeId} {z : List Value} (h : zeroT P t = some z) : ∃ i v, P.info? t = some i ∧ i.zero = some v ∧ z = v.cells.toList := by
  unfold zeroT at h
  cases hi : P.info? t with
  | none => simp [hi] at h
  | some i =>
    simp only [hi] at h
    cases hz : i.zero with
    | none => simp [hz] at h
    | some v => simp only [hz] at h; cases h; exact ⟨i, v, rfl, hz, rfl⟩
theorem run_zero {t : TypeId} {i : TypeInfo} {v : Value} (h : P.info? t = some i) (hz : i.zero = some v) (w : World) : (zeroValue t).run P w = .ok v w := by
  simp [zeroValue, run_info h, hz]
theorem aggT_some {t : TypeId} {b : Bool} (h : aggT P t = some b) : ∃ d, P.underlying t = some d ∧ b = (match d with | .struct _ | .array _ _ => true | _ => false) := by
  unfold aggT at h
  cases hu : P.underlying t with
  | none => simp [hu] at h
  | some d => refine ⟨d, rfl, ?_⟩; cases d <;> simp_all
theorem run_isAgg {t : TypeId} {b : Bool} (h : aggT P t = some b) (w : World) : (isAgg t).run P w = .ok b w := by
  obtain ⟨d, hd, hb⟩ := aggT_some h
  unfold isAgg
  simp only [Sem.run_bind, run_underlying hd, Result.andThen_ok]
  subst hb
  cases d <;> rfl
theorem known_of_agg {t : TypeId} {b : Bool} (h : aggT P t = some b) : knownT P t = true :=
  let ⟨_, hd, _⟩ := aggT_some h; known_of_underlying hd

theorem peek_run {α : Type} : ∀ (s : Sem α) {a : α}, peek P s = some a → s.run P w = .ok a w := by
  intro s
  induction s with
  | pure a => intro b h; simp [peek] at h; simp [Sem.run, h]
  | program k ih => intro b h; simp only [peek] at h; simpa [Sem.run] using ih _ h
  | mark m k ih => intro b h; simp only [peek] at h; simpa [Sem.run] using ih h
  | _ => intro b h; simp [peek] at h

/-! ### Operands -/

def TRel (φ : Phi) (T : Ts) (a : Act) : Prop := ∀ t, RelV φ (T.tmp t) (a.tmps.getD t undef)

/-- The operands' values stand for what the operation reads. -/
def ORel (φ : Phi) (T : Ts) (ρ : Operand → Value) (xs : List Operand) : Prop := ∀ x ∈ xs, ∀ v, opnd T x = .ok v → RelV φ v (ρ x)

theorem TRel.orel {T : Ts} {a : Act} (h : TRel φ T a) (xs : List Operand) : ORel φ T a.eval xs := by
  intro x _ v hv
  cases x with
  | tmp t => simp only [opnd] at hv; cases hv; exact h t
  | const c =>
    simp only [opnd] at hv
    split at hv
    · cases hv; rename_i hp; exact plain_self hp
    · cases hv
  | global g => simp [opnd] at hv
  | func f => simp only [opnd] at hv; cases hv; exact .func _ _ _ _ _ .nil .nil

variable {T : Ts} {ρ : Operand → Value}

theorem opnds_rel : ∀ {xs : List Operand} {vs : List Value}, ORel φ T ρ xs → opnds T xs = .ok vs → RelL φ vs (xs.map ρ)
  | [], vs, _, h => by simp only [opnds] at h; cases h; exact .nil
  | x :: xs, vs, ho, h => by
    simp only [opnds] at h
    obtain ⟨v, hv, h⟩ := Res.bind_ok h
    obtain ⟨vs', hvs, h⟩ := Res.bind_ok h
    cases h
    exact .cons _ _ _ _ (ho x (by simp) v hv) (opnds_rel (fun y hy => ho y (by simp [hy])) hvs)

/-- Parts of a composite. -/
def RelP (φ : Phi) (ps ps' : List (Nat × Value)) : Prop := ps'.map (·.1) = ps.map (·.1) ∧ RelL φ (ps.map (·.2)) (ps'.map (·.2))

theorem opnds2_rel : ∀ {xs : List (Nat × Operand)} {vs : List (Nat × Value)}, ORel φ T ρ (xs.map (·.2)) → opnds2 T xs = .ok vs → RelP φ vs (xs.map fun p => (p.1, ρ p.2))
  | [], vs, _, h => by simp only [opnds2] at h; cases h; exact ⟨rfl, .nil⟩
  | (i, x) :: xs, vs, ho, h => by
    simp only [opnds2] at h
    obtain ⟨v, hv, h⟩ := Res.bind_ok h
    obtain ⟨vs', hvs, h⟩ := Res.bind_ok h
    cases h
    obtain ⟨h1, h2⟩ := opnds2_rel (fun y hy => ho y (by simp at hy ⊢; exact .inr hy)) hvs
    exact ⟨by simpa using h1, .cons _ _ _ _ (ho x (by simp) v hv) (by simpa using h2)⟩

def RelO (φ : Phi) : Option Value → Option Value → Prop
  | none, none => True
  | some v, some v' => RelV φ v v'
  | _, _ => False

theorem opndO_rel {x : Option Operand} {v : Option Value} (ho : ORel φ T ρ x.toList) (h : opndO T x = .ok v) : RelO φ v (x.map ρ) := by
  cases x with
  | none => simp only [opndO] at h; cases h; trivial
  | some x =>
    simp only [opndO] at h
    obtain ⟨v', hv, h⟩ := Res.bind_ok h
    cases h
    exact ho x (by simp) v' hv

/-! ### What an operation's evaluation says of its run -/

def ActOk (_ : Program) (φ : Phi) (S : St) (w : World) (r : Result Next) : Act1 → Prop
  | .val v => ∃ v', r = .ok (.value v') w ∧ RelV φ v v'
  | .new v ob => ∃ v' w' l, r = .ok (.value v') w' ∧ l.blk = w.heap.size ∧ w'.os = w.os ∧ w'.tape = w.tape ∧ w'.output = w.output ∧ w'.heap.size = w.heap.size + 1 ∧
      (∀ b, b < w.heap.size → w'.heap[b]? = w.heap[b]?) ∧ ob.own ∧ ∀ φ', φ.le φ' → φ' S.next = some l → RelV φ' v v' ∧ RelOb φ' w' l ob
  | .upd v S' => Free φ S.next S'.next → ∃ φ' w' v' nx, r = .ok nx w' ∧ (nx = .value v' ∨ nx = .skip ∧ v' = undef) ∧ Good φ φ' S S' w w' ∧ RelV φ' v v'
  | .call f args => ∃ args', r = .ok (.enter f args') w ∧ RelL φ args args'.toList

theorem run_v {s : Sem Value} {v : Value} {w w' : World} (h : s.run P w = .ok v w') : (do pure (Next.value (← s)) : Sem Next).run P w = .ok (.value v) w' := by
  simp [h]

/-- A result of one value, memory as it was. -/
theorem ActOk.of_val {r : Result Next} {v v' : Value} (h : r = .ok (.value v') w) (hr : RelV φ v v') : ActOk P φ S w r (.val v) := ⟨v', h, hr⟩

theorem un1_ok {r : Res Value} {act : Act1} (h : un1 r = .ok act) : ∃ v, r = .ok v ∧ act = .val v := by
  unfold un1 at h
  obtain ⟨v, hv, h⟩ := Res.bind_ok h
  cases h
  exact ⟨v, hv, rfl⟩

/-! ### Loads and stores -/

theorem ptr_rel {v v' : Value} {a : Nat × Nat} (h : ptr? v = some a) (hr : RelV φ v v') : ∃ l, φ a.1 = some l ∧ v' = .pointer (some ⟨l.blk, l.base + a.2, none⟩) := by
  cases hr with
  | ptr F off l hF => simp only [ptr?, spot?] at h; cases h; exact ⟨l, hF, rfl⟩
  | _ => simp [ptr?] at h

theorem loadT_sound (hR : Rel φ S w) {t : TypeId} {F off : Nat} {v : Value} {l : Loc} (h : loadT P S t F off = .ok v) (hl : φ F = some l) :
    ∃ v', (loadVar t ⟨l.blk, l.base + off, none⟩).run P w = .ok v' w ∧ RelV φ v v' := by
  unfold loadT at h
  cases ha : aggT P t with
  | none => simp [ha] at h
  | some b =>
    cases b with
    | true =>
      simp only [ha] at h
      obtain ⟨cs, hcs, h⟩ := Res.bind_ok h
      cases h
      obtain ⟨cs', hrel, hlen, _, hrun⟩ := loadRow_sound P hR hcs hl
      refine ⟨.agg ⟨cs'⟩, ?_, .agg _ _ hrel⟩
      unfold loadVar
      simp [run_isAgg ha, run_sizeT (known_of_agg ha), hrun]
    | false =>
      simp only [ha] at h
      obtain ⟨cs, hcs, h⟩ := Res.bind_ok h
      obtain ⟨cs', hrel, hlen, hcell, _⟩ := loadRow_sound P hR hcs hl
      split at h
      · rename_i v0
        cases h
        cases hrel with
        | cons _ v' _ l' h1 h2 =>
          refine ⟨v', ?_, h1⟩
          have := hcell 0 v' rfl
          unfold loadVar
          simp only [Nat.add_zero] at this
          simp [run_isAgg ha, this]
      · cases h

theorem storeT_sound (hR : Rel φ S w) {t : TypeId} {F off : Nat} {v v' : Value} {S' : St} {l : Loc} (h : storeT P S t F off v = .ok S') (hl : φ F = some l) (hv : RelV φ v v') :
    ∃ w', (storeVar t ⟨l.blk, l.base + off, none⟩ v').run P w = .ok () w' ∧ Good φ φ S S' w w' := by
  unfold storeT at h
  simp only at h
  split at h
  case h_2 => cases h
  rename_i hb
  simp only [Bool.and_eq_true] at hb
  have hlen := Nat_beq hb.1
  have hc := hv.cells
  have hcl := hc.length
  obtain ⟨w', hrun, _, hg⟩ := writeRow_sound P hR h hl hc
  refine ⟨w', ?_, hg⟩
  unfold storeVar
  simp only [Sem.run_bind, run_sizeT hb.2, Result.andThen_ok]
  have hs : v'.cells.size = sizeT P t := by rw [← hlen, ← hcl]; simp
  simp [hs, hrun]

/-! ### New rows -/

theorem mkRow_ob {w' : World} {l : Loc} {cs cs' : List Value} {c : Array Value} {e : TypeId} {fz : Nat × Nat} {s : Nat} (hh : w'.heap[l.blk]? = some (.cells c e fz)) (hfz : unfrozen fz c.size)
    (hb : l.base = 0) (hs : l.s = s) (hhi : l.hi ≤ c.size) (hn : cs.length ≤ l.hi) (hc : ∀ (i : Nat) v, cs'[i]? = some v → c[i]? = some v) (hr : RelL φ cs cs') : RelOb φ w' l (mkRow cs s) := by
  refine ⟨c, e, fz, hh, hfz, hs, by omega, hn, fun i hi => ?_⟩
  obtain ⟨x, hx⟩ : ∃ x, cs[i]? = some x := ⟨cs[i], List.getElem?_eq_getElem hi⟩
  obtain ⟨y, hy, hxy⟩ := hr.get hx
  refine ⟨x, y, ?_, by rw [hb, Nat.zero_add]; exact hc i y hy, hxy⟩
  rw [Tr.get_pushL, if_pos (by omega)]
  simpa using hx

theorem push_last (w : World) (o : Obj) : (w.alloc o).heap[w.heap.size]? = some o := by
  show (w.heap.push o)[w.heap.size]? = some o
  simp
theorem push_old (w : World) (o : Obj) (b : Nat) (h : b < w.heap.size) : (w.alloc o).heap[b]? = w.heap[b]? := by
  show (w.heap.push o)[b]? = _
  rw [Array.getElem?_push, if_neg (by omega)]
theorem push_size (w : World) (o : Obj) : (w.alloc o).heap.size = w.heap.size + 1 := by
  show (w.heap.push o).size = _
  simp

/-- A new row, whose value v' is handed out. -/
theorem new_row_ok {r : Result Next} {v v' : Value} {cs cs' : List Value} {s e hi : Nat} {c : Array Value} (hrun : r = .ok (.value v') (w.alloc (.cells c e)))
    (hhi : hi ≤ c.size) (hn : cs.length ≤ hi) (hc : ∀ (i : Nat) x, cs'[i]? = some x → c[i]? = some x) (hr : RelL φ cs cs')
    (hv : ∀ φ' : Phi, φ.le φ' → φ' S.next = some ⟨w.heap.size, 0, hi, s⟩ → RelV φ' v v') : ActOk P φ S w r (.new v (mkRow cs s)) :=
  ⟨v', w.alloc (.cells c e), ⟨w.heap.size, 0, hi, s⟩, hrun, rfl, rfl, rfl, rfl, push_size _ _, push_old _ _, ⟨rfl, rfl⟩, fun φ' hle hφ =>
    ⟨hv φ' hle hφ, mkRow_ob (push_last _ _) (Or.inl (Nat.le_refl _)) rfl rfl hhi hn hc (hr.mono hle)⟩⟩

/-- A new variable, its address handed out. -/
theorem new_var_ok {r : Result Next} {cs cs' : List Value} {e : Nat} (hrun : r = .ok (.value (.pointer (some ⟨w.heap.size, 0, none⟩))) (w.alloc (.cells ⟨cs'⟩ e))) (hr : RelL φ cs cs') :
    ActOk P φ S w r (.new (.pointer (some ⟨S.next, 0, none⟩)) (mkRow cs cs.length)) :=
  new_row_ok (hi := cs.length) (cs' := cs') hrun (by simp [hr.length]) (Nat.le_refl _) (fun i x h => by simpa using h) hr
    fun φ' _ hφ => .ptr S.next 0 _ hφ

theorem zero_rel {z : List Value} (h : z.all plain = true) : RelL φ z z := by
  induction z with
  | nil => exact .nil
  | cons x z ih => simp at h; exact .cons _ _ _ _ (plain_self h.1) (ih (by simpa using h.2))

theorem cells_eta (v : Value) : (⟨v.cells.toList⟩ : Array Value) = v.cells := rfl

/-! ### Operations, one by one -/

section
variable (dst : Option Tmp) (ty : TypeId) (pos : String) (aft : Array Edge) (gd : Option (Nat × Bool))
variable {t0 : TypeId} {act : Act1}

theorem move_ok {x : Operand} (ho : ORel φ T ρ [x]) (h : oMove x P t0 T S = .ok act) : ActOk P φ S w ((execOp ρ ⟨dst, .move x, ty, pos, aft, gd⟩).run P w) act := by
  obtain ⟨v, hv, rfl⟩ := un1_ok h
  exact ⟨ρ x, rfl, ho x (by simp) v hv⟩
theorem assign_ok {x : Operand} (ho : ORel φ T ρ [x]) (h : oMove x P t0 T S = .ok act) : ActOk P φ S w ((execOp ρ ⟨dst, .assign x, ty, pos, aft, gd⟩).run P w) act := by
  obtain ⟨v, hv, rfl⟩ := un1_ok h
  exact ⟨ρ x, rfl, ho x (by simp) v hv⟩

theorem rel_bool {v' : Value} {b : Bool} (h : RelV φ (.bool b) v') : v' = .bool b := by cases h; rfl
theorem rel_int {v' : Value} {k : IntKind} {n : Int} (h : RelV φ (.int k n) v') : v' = .int k n := by cases h; rfl
theorem rel_string {v' : Value} {s : ByteArray} (h : RelV φ (.string s) v') : v' = .string s := by cases h; rfl

theorem pick_ok {c a b : Operand} (ho : ORel φ T ρ [c, a, b]) (h : oPick c a b P t0 T S = .ok act) : ActOk P φ S w ((execOp ρ ⟨dst, .pick c a b, ty, pos, aft, gd⟩).run P w) act := by
  unfold oPick at h
  obtain ⟨v, hv, h⟩ := Res.bind_ok h
  have hc := ho c (by simp) v hv
  unfold oPick2 at h
  split at h
  · rename_i bb
    have := rel_bool hc
    split at h
    · obtain ⟨v, hv, rfl⟩ := un1_ok h
      exact ⟨ρ a, by simp [execOp, this, asBool], ho a (by simp) v hv⟩
    · obtain ⟨v, hv, rfl⟩ := un1_ok h
      exact ⟨ρ b, by simp [execOp, this, asBool], ho b (by simp) v hv⟩
  · cases h

theorem alloc_ok {e : TypeId} (h : oAlloc e P t0 T S = .ok act) : ActOk P φ S w ((execOp ρ ⟨dst, .alloc e, ty, pos, aft, gd⟩).run P w) act := by
  unfold oAlloc oAlloc2 at h
  split at h
  case h_2 => cases h
  rename_i z hz
  split at h
  case h_2 => cases h
  rename_i hp
  cases h
  obtain ⟨i, v, hi, hv, rfl⟩ := zeroT_some hz
  refine new_var_ok (e := e) ?_ (zero_rel hp)
  simp [execOp, Instr.alloc, run_zero hi hv, newVar, Go.newRow]

theorem box_ok {e : TypeId} {x : Operand} (ho : ORel φ T ρ [x]) (h : oBox e x P t0 T S = .ok act) : ActOk P φ S w ((execOp ρ ⟨dst, .box e x, ty, pos, aft, gd⟩).run P w) act := by
  unfold oBox oBox2 at h
  obtain ⟨v, hv, h⟩ := Res.bind_ok h
  cases h
  refine new_var_ok (e := e) ?_ (ho x (by simp) v hv).cells
  simp [execOp, Instr.box, newVar, Go.newRow]

theorem load_ok (hR : Rel φ S w) {t : TypeId} {x : Operand} (ho : ORel φ T ρ [x]) (h : oLoad t x P t0 T S = .ok act) : ActOk P φ S w ((execOp ρ ⟨dst, .load t x, ty, pos, aft, gd⟩).run P w) act := by
  unfold oLoad at h
  obtain ⟨v, hv, h⟩ := Res.bind_ok h
  unfold oLoad2 at h
  split at h
  case h_2 => cases h
  rename_i a ha
  obtain ⟨u, hu, rfl⟩ := un1_ok h
  obtain ⟨l, hl, he⟩ := ptr_rel ha (ho x (by simp) v hv)
  obtain ⟨v', hrun, hr⟩ := loadT_sound hR hu hl
  exact ⟨v', by simp [execOp, Instr.loadAt, he, Instr.sureAddr, hrun], hr⟩

theorem store_ok (hR : Rel φ S w) {t : TypeId} {a x : Operand} (ho : ORel φ T ρ [a, x]) (h : oStore t a x P t0 T S = .ok act) : ActOk P φ S w ((execOp ρ ⟨dst, .store t a x, ty, pos, aft, gd⟩).run P w) act := by
  unfold oStore at h
  obtain ⟨p, hp, h⟩ := Res.bind_ok h
  obtain ⟨v, hv, h⟩ := Res.bind_ok h
  unfold oStore2 at h
  split at h
  case h_2 => cases h
  rename_i ad ha
  unfold un0 at h
  obtain ⟨S', hS, h⟩ := Res.bind_ok h
  cases h
  obtain ⟨l, hl, he⟩ := ptr_rel ha (ho a (by simp) p hp)
  obtain ⟨w', hrun, hg⟩ := storeT_sound hR hS hl (ho x (by simp) v hv)
  intro _
  exact ⟨φ, w', undef, .skip, by simp [execOp, Instr.storeAt, he, Instr.sureAddr, hrun], .inr ⟨rfl, rfl⟩, hg, .tuple _ _ .nil⟩

theorem nil_ok {x : Operand} (ho : ORel φ T ρ [x]) (h : oNil x P t0 T S = .ok act) : ActOk P φ S w ((execOp ρ ⟨dst, .nilCheck x, ty, pos, aft, gd⟩).run P w) act := by
  unfold oNil at h
  obtain ⟨v, hv, h⟩ := Res.bind_ok h
  have hr := ho x (by simp) v hv
  unfold oNil2 at h
  generalize hx : ρ x = y at hr
  split at h
  · cases h
    have hr2 := hr
    cases hr with
    | ptr F off l hl => exact ⟨_, by simp [execOp, hx], hr2⟩
  · cases h
    have hr2 := hr
    cases hr with
    | func fn a b a' b' h1 h2 => exact ⟨_, by simp [execOp, hx], hr2⟩
  · cases h

theorem mkfn_ok {fn : Fn} {a b : Array Operand} (ho : ORel φ T ρ (a.toList ++ b.toList)) (h : oMkFn fn a b P t0 T S = .ok act) : ActOk P φ S w ((execOp ρ ⟨dst, .makeFunc fn a b, ty, pos, aft, gd⟩).run P w) act := by
  unfold oMkFn at h
  obtain ⟨vs, hvs, h⟩ := Res.bind_ok h
  obtain ⟨us, hus, h⟩ := Res.bind_ok h
  cases h
  have h1 := opnds_rel (fun x hx => ho x (by simp [hx])) hvs
  have h2 := opnds_rel (fun x hx => ho x (by simp [hx])) hus
  refine ⟨.func fn ⟨a.toList.map ρ⟩ ⟨b.toList.map ρ⟩, ?_, .func _ _ _ _ _ h1 h2⟩
  obtain ⟨a⟩ := a
  obtain ⟨b⟩ := b
  simp [execOp, Instr.makeFunc]

theorem mkif_ok {t : TypeId} {x : Operand} (ho : ORel φ T ρ [x]) (h : oMkIf t x P t0 T S = .ok act) : ActOk P φ S w ((execOp ρ ⟨dst, .makeInterface t x, ty, pos, aft, gd⟩).run P w) act := by
  unfold oMkIf at h
  obtain ⟨v, hv, h⟩ := Res.bind_ok h
  have hr := ho x (by simp) v hv
  unfold oMkIf2 at h
  split at h
  · cases h
  · rename_i d hni hd
    cases h
    refine ⟨.iface t (ρ x), ?_, .iface _ _ _ hr⟩
    simp only [execOp, Instr.makeInterface, Sem.run_bind, run_underlying hd, Result.andThen_ok]
    cases d <;> first
      | exact absurd rfl (hni _)
      | rfl
  · cases h

theorem extract_ok {x : Operand} {i : Nat} (ho : ORel φ T ρ [x]) (h : oExtract x i P t0 T S = .ok act) : ActOk P φ S w ((execOp ρ ⟨dst, .extract x i, ty, pos, aft, gd⟩).run P w) act := by
  unfold oExtract at h
  obtain ⟨v, hv, h⟩ := Res.bind_ok h
  have hr := ho x (by simp) v hv
  unfold oExtract2 at h
  split at h
  · obtain ⟨u, hu, rfl⟩ := un1_ok h
    have hu := Res.ofOpt_ok hu
    rw [nth_eq] at hu
    generalize hx : ρ x = y at hr
    cases hr with
    | tuple l l' hl =>
      obtain ⟨u', hu', hr⟩ := hl.get hu
      exact ⟨u', by simp [execOp, hx, Instr.extract, hu'], hr⟩
  · cases h

theorem mkmap_ok {t : TypeId} {r : Option Operand} (h : oMkMap t r P t0 T S = .ok act) : ActOk P φ S w ((execOp ρ ⟨dst, .makeMap t r, ty, pos, aft, gd⟩).run P w) act := by
  unfold oMkMap oMkMap2 at h
  split at h
  · cases h
    refine ⟨.map (some w.heap.size), w.alloc (.map #[] 0), ⟨w.heap.size, 0, 0, 0⟩, ?_, rfl, rfl, rfl, rfl, push_size _ _, push_old _ _, trivial, fun φ' hle hφ => ⟨?_, ?_⟩⟩
    · simp [execOp, Instr.makeMap]
    · exact RelV.map S.next ⟨w.heap.size, 0, 0, 0⟩ hφ
    · exact ⟨#[], push_last _ _, ⟨rfl, fun i e e' a => by simp at a⟩, rfl⟩
  · cases h

theorem un_ok {x : Operand} {op : UnOp} {t : TypeId} (ho : ORel φ T ρ [x]) (h : oUn op t x P t0 T S = .ok act) : ActOk P φ S w ((execOp ρ ⟨dst, .unOp op t x, ty, pos, aft, gd⟩).run P w) act := by
  unfold oUn at h
  obtain ⟨v, hv, h⟩ := Res.bind_ok h
  have hr := ho x (by simp) v hv
  unfold oUn2 at h
  split at h
  case h_2 => cases h
  rename_i hp
  have he := plain_eq hp hr
  unfold ofPeek at h
  split at h
  · rename_i r hr'
    split at h
    · rename_i hpl
      cases h
      exact ⟨r, by simp [execOp, he, peek_run (w := w) _ hr'], plain_self hpl⟩
    · cases h
  · cases h
end
end
end Go.Ev
namespace Go.Ev
section
variable {P : Program} {φ : Phi} {S : St} {w : World} {T : Ts} {ρ : Operand → Value}

theorem eqBytes_eq : ∀ (a b : List UInt8), eqBytes a b = (a == b)
  | [], [] => rfl
  | [], _ :: _ => rfl
  | _ :: _, [] => rfl
  | a :: x, b :: y => by
    simp only [eqBytes]
    cases h : Nat.beq a.toNat b.toNat
    · have : a ≠ b := fun e => by subst e; simp at h
      simp [this]
    · have : a = b := UInt8.toNat_inj.1 (Nat_beq h)
      subst this
      simp [eqBytes_eq x y]

theorem string_ext (s : ByteArray) (l : List UInt8) (h : s.data.toList = l) : s = ⟨⟨l⟩⟩ := by
  obtain ⟨⟨d⟩⟩ := s
  simp at h
  rw [h]

theorem run_string_eql (t : TypeId) (x y : Operand) (p q : ByteArray) (w : World) :
    (do eqGuard .eql t x y (.string p) (.string q); binOp .eql t (.string p) (.string q) : Sem Value).run P w = .ok (.bool (eqBytes p.data.toList q.data.toList)) w := by
  simp [eqGuard, binOp, Op.stringOp, eqBytes_eq, ByteArray.toList_eq]
theorem run_string_neq (t : TypeId) (x y : Operand) (p q : ByteArray) (w : World) :
    (do eqGuard .neq t x y (.string p) (.string q); binOp .neq t (.string p) (.string q) : Sem Value).run P w = .ok (.bool (!eqBytes p.data.toList q.data.toList)) w := by
  simp [eqGuard, binOp, Op.stringOp, eqBytes_eq, ByteArray.toList_eq]
theorem bytes_append (p q : ByteArray) : p ++ q = ⟨⟨p.data.toList ++ q.data.toList⟩⟩ := by
  apply string_ext
  simp
theorem size_data (p : ByteArray) : p.data.toList.length = p.size := by cases p; rfl
theorem run_string_add (t : TypeId) (x y : Operand) (p q : ByteArray) (w : World) (h : p.data.toList.length + q.data.toList.length ≤ 1000000000) :
    (do eqGuard .add t x y (.string p) (.string q); binOp .add t (.string p) (.string q) : Sem Value).run P w = .ok (.string ⟨⟨p.data.toList ++ q.data.toList⟩⟩) w := by
  rw [size_data, size_data] at h
  have : ¬ (((p.size + q.size : Nat) : Int) > IntKind.i64.max) := by simp [IntKind.max, IntKind.signed, IntKind.bits]; omega
  simp only [eqGuard, binOp, Op.stringOp, Sem.run_bind]
  rw [if_neg this]
  simp [bytes_append]

theorem equalIn_nil (n : Nat) {d : TypeDesc} {t : TypeId} {x y x' y' : Value} {r : Bool} (hd : P.underlying t = some d) (h : nilEq d x y = some r) (hx : RelV φ x x') (hy : RelV φ y y') (w : World) :
    (Op.equalIn (n + 1) t x' y').run P w = .ok r w := by
  unfold nilEq at h
  split at h
  · split at h
    · cases hx; cases hy <;> (cases h; simp [Op.equalIn, run_underlying hd])
    · cases hy; cases hx; cases h; simp [Op.equalIn, run_underlying hd]
    · cases h
  · split at h
    · cases hx; cases hy <;> (cases h; simp [Op.equalIn, run_underlying hd])
    · cases hy; cases hx; cases h; simp [Op.equalIn, run_underlying hd]
    · cases h
  · split at h
    · cases hx; cases hy <;> (cases h; simp [Op.equalIn, run_underlying hd])
    · cases hy; cases hx; cases h; simp [Op.equalIn, run_underlying hd]
    · cases h
  · split at h
    · cases hx; cases hy; cases h; simp [Op.equalIn, run_underlying hd]
    · cases hy; cases hx; cases h; simp [Op.equalIn, run_underlying hd]
    · cases h
  · split at h
    · cases hx; cases hy; cases h; simp [Op.equalIn, run_underlying hd]
    · cases hy; cases hx; cases h; simp [Op.equalIn, run_underlying hd]
    · cases h
  · cases h

/-- Of which shapes values are of which one is nil. -/
theorem nilEq_shape {d : TypeDesc} {x y x' y' : Value} {r : Bool} (h : nilEq d x y = some r) (hx : RelV φ x x') (hy : RelV φ y y') :
    (∃ a b, x' = .pointer a ∧ y' = .pointer b) ∨ (∃ a n c b m k, x' = .slice a n c ∧ y' = .slice b m k) ∨ (∃ a b, x' = .map a ∧ y' = .map b) ∨
    (∃ f a b, x' = .nilFunc ∧ y' = .func f a b) ∨ (∃ f a b, x' = .func f a b ∧ y' = .nilFunc) ∨ (∃ t v, x' = .nilIface ∧ y' = .iface t v) ∨ (∃ t v, x' = .iface t v ∧ y' = .nilIface) := by
  unfold nilEq at h
  split at h
  · split at h
    · cases hx; cases hy <;> exact .inl ⟨_, _, rfl, rfl⟩
    · cases hy; cases hx; exact .inl ⟨_, _, rfl, rfl⟩
    · cases h
  · split at h
    · cases hx; cases hy <;> exact .inr (.inl ⟨_, _, _, _, _, _, rfl, rfl⟩)
    · cases hy; cases hx; exact .inr (.inl ⟨_, _, _, _, _, _, rfl, rfl⟩)
    · cases h
  · split at h
    · cases hx; cases hy <;> exact .inr (.inr (.inl ⟨_, _, rfl, rfl⟩))
    · cases hy; cases hx; exact .inr (.inr (.inl ⟨_, _, rfl, rfl⟩))
    · cases h
  · split at h
    · cases hx; cases hy; exact .inr (.inr (.inr (.inl ⟨_, _, _, rfl, rfl⟩)))
    · cases hy; cases hx; exact .inr (.inr (.inr (.inr (.inl ⟨_, _, _, rfl, rfl⟩))))
    · cases h
  · split at h
    · cases hx; cases hy; exact .inr (.inr (.inr (.inr (.inr (.inl ⟨_, _, rfl, rfl⟩)))))
    · cases hy; cases hx; exact .inr (.inr (.inr (.inr (.inr (.inr ⟨_, _, rfl, rfl⟩)))))
    · cases h
  · cases h

theorem nilEq_run {d : TypeDesc} {t : TypeId} {x y x' y' : Value} {r : Bool} (xo yo : Operand) (hd : P.underlying t = some d) (h : nilEq d x y = some r) (hx : RelV φ x x') (hy : RelV φ y y') (w : World) :
    (do eqGuard .eql t xo yo x' y'; binOp .eql t x' y' : Sem Value).run P w = .ok (.bool r) w ∧
    (do eqGuard .neq t xo yo x' y'; binOp .neq t x' y' : Sem Value).run P w = .ok (.bool (!r)) w := by
  have he : (Op.equal t x' y').run P w = .ok r w := equalIn_nil 9999 hd h hx hy w
  rcases nilEq_shape h hx hy with ⟨a, b, rfl, rfl⟩ | ⟨a, n, c, b, m, k, rfl, rfl⟩ | ⟨a, b, rfl, rfl⟩ | ⟨f, a, b, rfl, rfl⟩ | ⟨f, a, b, rfl, rfl⟩ | ⟨u, v, rfl, rfl⟩ | ⟨u, v, rfl, rfl⟩ <;>
    (constructor <;> simp [eqGuard, binOp, he])

section
variable (dst : Option Tmp) (ty : TypeId) (pos : String) (aft : Array Edge) (gd : Option (Nat × Bool))
variable {t0 : TypeId} {act : Act1}

theorem bin_ok {op : BinOp} {t : TypeId} {x y : Operand} {yt : TypeId} (ho : ORel φ T ρ [x, y]) (h : oBin op t x y yt P t0 T S = .ok act) : ActOk P φ S w ((execOp ρ ⟨dst, .binOp op t x y yt, ty, pos, aft, gd⟩).run P w) act := by
  unfold oBin at h
  obtain ⟨a, ha, h⟩ := Res.bind_ok h
  obtain ⟨b, hb, h⟩ := Res.bind_ok h
  obtain ⟨v, hv, rfl⟩ := un1_ok h
  have hra := ho x (by simp) a ha
  have hrb := ho y (by simp) b hb
  suffices hs : ∃ v', (do eqGuard op t x y (ρ x) (ρ y); binOp op t (ρ x) (ρ y) : Sem Value).run P w = .ok v' w ∧ RelV φ v v' by
    obtain ⟨v', hrun, hr⟩ := hs
    exact ⟨v', by show (do pure (Next.value (← (do eqGuard op t x y (ρ x) (ρ y); binOp op t (ρ x) (ρ y)))) : Sem Next).run P w = _; rw [Sem.run_bind, hrun]; rfl, hr⟩
  generalize ρ x = a' at hra ⊢
  generalize ρ y = b' at hrb ⊢
  unfold binR at hv
  split at hv
  · rename_i p q
    have := rel_string hra; subst this
    have := rel_string hrb; subst this
    split at hv
    · cases hv; exact ⟨_, run_string_eql _ _ _ _ _ _, .bool _⟩
    · cases hv; exact ⟨_, run_string_neq _ _ _ _ _ _, .bool _⟩
    · split at hv
      · rename_i hble
        cases hv; exact ⟨_, run_string_add _ _ _ _ _ _ (Nat_ble hble), .string _⟩
      · cases hv
    · cases hv
  · split at hv
    · rename_i hp
      simp only [Bool.and_eq_true] at hp
      have e1 := plain_eq hp.1 hra
      have e2 := plain_eq hp.2 hrb
      subst e1 e2
      split at hv
      · rename_i v1 hpk
        split at hv
        · rename_i hpl
          cases hv
          exact ⟨_, peek_run _ hpk, plain_self hpl⟩
        · cases hv
      · cases hv
    · split at hv
      · cases hv
      · rename_i d hd
        split at hv
        · split at hv
          · rename_i r hn
            cases hv
            exact ⟨_, (nilEq_run x y hd hn hra hrb w).1, .bool r⟩
          · cases hv
        · split at hv
          · rename_i r hn
            cases hv
            exact ⟨_, (nilEq_run x y hd hn hra hrb w).2, .bool _⟩
          · cases hv
        · cases hv
end
end
end Go.Ev
namespace Go.Ev
section
variable {P : Program} {φ : Phi} {S : St} {w : World} {T : Ts} {ρ : Operand → Value}

/-- What is known of a capacity. -/
def CapOk (off cap : Nat) (l : Loc) : Nat → Prop
  | 0 => off + cap * l.s = l.hi
  | k + 1 => cap = k

theorem slice_addr {φ : Phi} {a : Addr} {n c : Nat} {v' : Value} (h : RelV φ (.slice (some a) n c) v') : ∃ F off l a' cap, a = ⟨F, off, none⟩ ∧ v' = .slice (some a') n cap ∧ φ F = some l ∧
    (cap ≠ 0 → a' = ⟨l.blk, l.base + off, none⟩) ∧ CapOk off cap l c ∧ n ≤ cap := by
  cases h with
  | sl F off n c l a' cap h ha hc hn => exact ⟨F, off, l, a', cap, rfl, rfl, h, ha, by cases c <;> exact hc, hn⟩
theorem slice_nil {φ : Phi} {n c : Nat} {v' : Value} (h : RelV φ (.slice none n c) v') : n = 0 ∧ c = 0 ∧ v' = .slice none 0 0 := by
  cases h; exact ⟨rfl, rfl, rfl⟩

theorem byteCells_len (s : ByteArray) : (byteCells s).length = s.size := by unfold byteCells; rw [List.length_map, size_data]
theorem byteCells_plain (s : ByteArray) : RelL φ (byteCells s) (byteCells s) := by
  unfold byteCells
  generalize s.data.toList = l
  induction l with
  | nil => exact .nil
  | cons x l ih => exact .cons _ _ _ _ (.int _ _) ih

/-- The cells of a slice or string, as the model reads them. -/
theorem sliceCells_sound (hR : Rel φ S w) {size n : Nat} {x x' : Value} {cs : List Value} (hx : RelV φ x x') (h : sliceCells S size x = .ok cs) (hn : lenV x = .ok n) :
    ∃ cs', RelL φ cs cs' ∧ (Builtin.lenOf x').run P w = .ok n w ∧ (cs.length = n * size → (Builtin.firstCells size n x').run P w = .ok ⟨cs'⟩ w) ∧
      (∀ m, m ≤ n → cs.length = n * size → (Builtin.firstCells size m x').run P w = .ok ⟨cs'.take (m * size)⟩ w) := by
  cases hx with
  | sl F off len c l a cap hF ha hc hle =>
    simp only [sliceCells] at h
    simp only [lenV] at hn
    cases hn
    obtain ⟨cs', hrel, hlen, hcell, hrun⟩ := loadRow_sound P hR h hF
    have hall : ∀ m, m ≤ n → (Builtin.firstCells size m (.slice (some a) n cap)).run P w = .ok ⟨cs'.take (m * size)⟩ w := by
      intro m hm
      simp only [Builtin.firstCells]
      have hl2 := hrel.length
      by_cases hz : m * size = 0
      · rw [hz]; simp [loadCells, loadCellsFrom]
      · have hm0 : m ≠ 0 := fun e => by subst e; simp at hz
        have hcap : cap ≠ 0 := by omega
        rw [ha hcap]
        have hms : m * size ≤ n * size := Nat.mul_le_mul_right _ hm
        have htl : (cs'.take (m * size)).length = m * size := by simp; omega
        have := run_loadCells_list (P := P) w ⟨l.blk, l.base + off, none⟩ (cs'.take (m * size)) (fun j v hv => by
          have hj : j < m * size := by have := (List.getElem?_eq_some_iff.1 hv).1; omega
          rw [List.getElem?_take_of_lt hj] at hv
          have hadd : (⟨l.blk, l.base + off, none⟩ : Addr).add j = ⟨l.blk, l.base + off + j, none⟩ := by unfold Addr.add; split <;> simp_all
          rw [hadd]
          exact hcell j v hv)
        rw [htl] at this
        exact this
    refine ⟨cs', hrel, rfl, fun he => ?_, fun m hm _ => hall m hm⟩
    have := hall n (Nat.le_refl _)
    rwa [List.take_of_length_le (by have := hrel.length; omega)] at this
  | sl0 =>
    simp only [sliceCells] at h; cases h
    simp only [lenV] at hn; cases hn
    exact ⟨[], .nil, rfl, fun _ => rfl, fun m _ _ => by simp [Builtin.firstCells]⟩
  | string s =>
    simp only [sliceCells] at h; cases h
    simp only [lenV] at hn; cases hn
    refine ⟨byteCells s, byteCells_plain s, by rw [size_data]; rfl, fun he => ?_, fun m hm he => ?_⟩
    · simp only [Builtin.firstCells, byteCells, Sem.run_pure, size_data]
      congr 1
      apply Array.ext'
      simp
    · have hsz : size = 1 ∨ s.size = 0 := by
        rw [byteCells_len, size_data] at he
        rcases Nat.eq_zero_or_pos s.size with h0 | h0
        · exact .inr h0
        · left
          have : s.size * 1 = s.size * size := by omega
          exact (Nat.eq_of_mul_eq_mul_left h0 this).symm
      simp only [Builtin.firstCells, Sem.run_pure]
      congr 1
      apply Array.ext'
      simp only [byteCells]
      rcases hsz with h1 | h0
      · subst h1
        simp
      · rw [size_data] at hm
        have hm0 : m = 0 := by omega
        subst hm0
        simp
  | _ => simp [sliceCells] at h

theorem bytes_fold : ∀ (cs : List Value) (bs : List UInt8), bytesOfCells cs = some bs → ∃ ns : List Int, cs = ns.map (Value.int .u8) ∧ bs = ns.map fun n => UInt8.ofNat n.toNat
  | [], bs, h => by simp [bytesOfCells] at h; exact ⟨[], rfl, by simp [h]⟩
  | c :: cs, bs, h => by
    unfold bytesOfCells at h
    split at h
    · rename_i heq; cases heq
    · rename_i n r heq
      cases heq
      split at h
      · rename_i l hl
        cases h
        obtain ⟨ns, h1, h2⟩ := bytes_fold _ _ hl
        exact ⟨n :: ns, by simp [h1], by simp [h2]⟩
      · cases h
    · cases h
theorem push_fold (ns : List Int) : ∀ (b : ByteArray), (ns.foldl (fun r n => r.push (UInt8.ofNat n.toNat)) b).data.toList = b.data.toList ++ ns.map fun n => UInt8.ofNat n.toNat := by
  induction ns with
  | nil => intro b; simp
  | cons n ns ih =>
    intro b
    simp only [List.foldl_cons, ih, List.map_cons]
    obtain ⟨d⟩ := b
    simp [ByteArray.push]

theorem run_convert_string {src dst e : TypeId} {s : ByteArray} (w : World) (hs : P.underlying src = some .string) (hd : P.underlying dst = some (.slice e)) (he : P.underlying e = some (.int .u8)) :
    (convert src dst (.string s)).run P w = (Conv.stringToBytes e s).run P w := by
  simp [convert, run_underlying hs, run_underlying hd, run_underlying he]

theorem stringToBytes_run (e : TypeId) (s : ByteArray) (w : World) : ∃ w' cap, ∃ arr : Array Value, ∃ fz, (Conv.stringToBytes e s).run P w = .ok (.slice (some ⟨w.heap.size, 0, none⟩) s.size cap) w' ∧ s.size ≤ cap ∧ arr.size = cap ∧
    (∀ (i : Nat) x, (byteCells s)[i]? = some x → arr[i]? = some x) ∧ w'.heap[w.heap.size]? = some (.cells arr e fz) ∧ unfrozen fz arr.size ∧
    (∀ b, b < w.heap.size → w'.heap[b]? = w.heap[b]?) ∧ w'.heap.size = w.heap.size + 1 ∧ w'.os = w.os ∧ w'.tape = w.tape ∧ w'.output = w.output := by
  have hq : (Question.appendCap s.size 0 e).forced = false := rfl
  obtain ⟨cap, hcap⟩ : ∃ cap, cap = (Question.appendCap s.size 0 e).cut (w.tape w.drawn (.appendCap s.size 0 e)) := ⟨_, rfl⟩
  have hle : s.size ≤ cap := by rw [hcap]; simp only [Question.cut]; omega
  obtain ⟨arr, harr⟩ : ∃ arr : Array Value, arr = (s.data.map fun b => Value.int .u8 b.toNat) ++ Array.replicate (cap - s.size) (.int .u8 0) := ⟨_, rfl⟩
  have hds : s.data.size = s.size := by cases s; rfl
  have hsize : arr.size = cap := by rw [harr]; simp [hds]; omega
  let w1 : World := { w with drawn := w.drawn + 1 }
  let w2 : World := w1.alloc (.cells arr e)
  let w3 : World := w2.freeze ⟨w.heap.size, arr.size, none⟩ 1
  have hw3 : w3.heap = w2.heap.modify w.heap.size fun
      | .cells c elem (lo, hi) => .cells c elem (if lo == hi then (arr.size, arr.size + 1) else (min lo arr.size, max hi (arr.size + 1)))
      | o => o := rfl
  have hw2 : w2.heap[w.heap.size]? = some (.cells arr e (0, 0)) := push_last w1 _
  refine ⟨w3, cap, arr, (arr.size, arr.size + 1), ?_, hle, hsize, ?_, ?_, Or.inr (Nat.le_refl _), ?_, ?_, rfl, rfl, rfl⟩
  · unfold Conv.stringToBytes
    simp only [Sem.run_bind, run_choose, hq, Bool.false_eq_true, if_false, Result.andThen_ok, ← hcap, ← harr]
    have hn : (Go.newRow e arr).run P w1 = .ok ⟨w.heap.size, 0, none⟩ w2 := rfl
    show ((Go.newRow e arr).run P w1).andThen _ = _
    rw [hn]
    simp only [Result.andThen_ok]
    have hm : (markStringish ⟨w.heap.size, 0, none⟩).run P w2 = .ok () w3 := by
      unfold markStringish
      have hs : w2.shape? w.heap.size = some (e, arr.size) := by simp only [World.shape?, hw2]
      simp only [Sem.run_bind, run_shape, hs, Result.andThen_ok, run_freeze]
      rfl
    rw [hm]
    rfl
  · intro i x hx
    have hi : i < s.size := by have := (List.getElem?_eq_some_iff.1 hx).1; rw [byteCells_len] at this; exact this
    rw [harr, Array.getElem?_append_left (by simp [hds]; exact hi), ← hx]
    simp [byteCells]
  · rw [hw3, Array.getElem?_modify, if_pos rfl, hw2]
    rfl
  · intro b hb
    rw [hw3, Array.getElem?_modify, if_neg (by omega)]
    exact push_old w1 _ b hb
  · rw [hw3, Array.size_modify]
    exact push_size w1 _

section
variable (dst : Option Tmp) (ty : TypeId) (pos : String) (aft : Array Edge) (gd : Option (Nat × Bool))
variable {t0 : TypeId} {act : Act1}

theorem heap_mod_size (w : World) (a : Addr) (n : Nat) : (w.freeze a n).heap.size = w.heap.size := by unfold World.freeze; split <;> simp

theorem conv_ok (hR : Rel φ S w) {src dt : TypeId} {x : Operand} (ho : ORel φ T ρ [x]) (h : oConv src dt x P t0 T S = .ok act) : ActOk P φ S w ((execOp ρ ⟨dst, .convert src dt x, ty, pos, aft, gd⟩).run P w) act := by
  unfold oConv at h
  obtain ⟨v, hv, h⟩ := Res.bind_ok h
  have hr := ho x (by simp) v hv
  show ActOk P φ S w ((do pure (Next.value (← convert src dt (ρ x))) : Sem Next).run P w) act
  generalize ρ x = x' at hr ⊢
  unfold convR at h
  split at h
  · rename_i e a len c hs hd
    split at h
    case h_2 => cases h
    rename_i he
    obtain ⟨cs, hcs, h⟩ := Res.bind_ok h
    split at h
    case h_2 => cases h
    rename_i bs hbs
    cases h
    obtain ⟨ns, hns, rfl⟩ := bytes_fold _ _ hbs
    subst hns
    refine ⟨.string ⟨⟨ns.map fun n => UInt8.ofNat n.toNat⟩⟩, ?_, .string _⟩
    cases a with
    | none =>
      obtain ⟨rfl, rfl, rfl⟩ := slice_nil hr
      simp only [sliceCells] at hcs
      have hns0 : ns = [] := by cases hcs' : ns with
        | nil => rfl
        | cons n l => rw [hcs'] at hcs; simp at hcs
      subst hns0
      rw [Sem.run_bind, run_convert_bytes_string w src dt e none 0 0 hs he hd]
      simp [Conv.bytesToString]
      rfl
    | some a =>
      obtain ⟨F, off, l, a', cap, rfl, rfl, hF, ha, hc, hle⟩ := slice_addr hr
      obtain ⟨cs', hrel, hlen, hfirst, _⟩ := sliceCells_sound (P := P) hR hr hcs rfl
      have hcl : (ns.map (Value.int .u8)).length = len * 1 := by
        simp only [sliceCells] at hcs
        obtain ⟨_, _, hl, _⟩ := loadRow_sound P hR hcs hF
        exact hl
      have hcs' : cs' = ns.map (Value.int .u8) := by
        have : ∀ (ns : List Int) cs', RelL φ (ns.map (Value.int .u8)) cs' → cs' = ns.map (Value.int .u8) := by
          intro ns
          induction ns with
          | nil => intro cs' h; cases h; rfl
          | cons n ns ih => intro cs' h; cases h with | cons _ v' _ l' h1 h2 => rw [rel_int h1, ih _ h2]; rfl
        exact this ns cs' hrel
      have hload := hfirst hcl
      simp only [Builtin.firstCells, Nat.mul_one] at hload
      subst hcs'
      rw [Sem.run_bind, run_convert_bytes_string w src dt e _ _ _ hs he hd, run_bytesToString w a' len cap ns hload]
      simp only [Result.andThen_ok]
      have := push_fold ns .empty
      rw [string_ext _ _ (this.trans (by simp; rfl))]
      rfl
  · rename_i e s hs hd
    split at h
    case h_2 => cases h
    rename_i he
    cases h
    have := rel_string hr
    subst this
    obtain ⟨w', cap, arr, fz, hrun, hcap, harr, hpre, hh, hfz, hold, hsz, h1, h2, h3⟩ := stringToBytes_run (P := P) e s w
    refine ⟨.slice (some ⟨w.heap.size, 0, none⟩) s.size cap, w', ⟨w.heap.size, 0, cap, 1⟩, ?_, rfl, h1, h2, h3, hsz, hold, ⟨rfl, rfl⟩, fun φ' hle hφ => ⟨?_, ?_⟩⟩
    · rw [Sem.run_bind, run_convert_string w hs hd he, hrun]
      rfl
    · rw [size_data]
      exact RelV.sl S.next 0 s.size 0 _ _ _ hφ (fun _ => by simp) (by simp) hcap
    · refine mkRow_ob (cs' := byteCells s) hh hfz rfl rfl (Nat.le_of_eq harr.symm) (by rw [byteCells_len]; exact hcap) hpre (byteCells_plain s)
  · rename_i hs hd
    cases h
    have := rel_string hr
    subst this
    refine ⟨_, ?_, .string _⟩
    simp [convert, run_underlying hs, run_underlying hd]
  · split at h
    case h_2 => cases h
    rename_i hp
    have he := plain_eq hp hr
    subst he
    split at h
    case h_2 => cases h
    rename_i v1 hv1
    split at h
    case h_2 => cases h
    rename_i hpl
    cases h
    exact ⟨v1, by rw [Sem.run_bind, peek_run (w := w) _ hv1]; rfl, plain_self hpl⟩
end
end
end Go.Ev
namespace Go.Ev
section
variable {P : Program} {φ : Phi} {S : St} {w : World} {T : Ts} {ρ : Operand → Value}

theorem addr_add (b o n : Nat) : (⟨b, o, none⟩ : Addr).add n = ⟨b, o + n, none⟩ := by unfold Addr.add; split <;> simp_all
theorem addr_add' (b o n : Nat) : (⟨b, o, none⟩ : Addr).add n = ⟨b, o + n, none⟩ := addr_add b o n

theorem partR_sound {t : TypeId} {cs cs' : List Value} {off : Nat} {v : Value} (h : partR P t cs off = .ok v) (hr : RelL φ cs cs') (w : World) : ∃ v', (part t ⟨cs'⟩ off).run P w = .ok v' w ∧ RelV φ v v' := by
  unfold partR at h
  split at h
  · rename_i ha
    cases h
    refine ⟨.agg ⟨(cs'.drop off).take (sizeT P t)⟩, ?_, .agg _ _ ((hr.drop off).take _)⟩
    unfold part
    simp only [Sem.run_bind, run_isAgg ha, Result.andThen_ok, if_true, run_sizeT (known_of_agg ha)]
    simp only [Sem.run_pure]
    congr 2
    apply Array.ext'
    simp only [List.extract_toArray]
    simp [List.take_drop]
  · rename_i ha
    split at h
    case h_2 => cases h
    rename_i x hx
    cases h
    rw [nth_eq] at hx
    obtain ⟨y, hy, hxy⟩ := hr.get hx
    refine ⟨y, ?_, hxy⟩
    unfold part
    simp [run_isAgg ha, hy]
  · cases h

section
variable (dst : Option Tmp) (ty : TypeId) (pos : String) (aft : Array Edge) (gd : Option (Nat × Bool))
variable {t0 : TypeId} {act : Act1}

theorem fieldaddr_ok {t : TypeId} {x : Operand} {f : Nat} (ho : ORel φ T ρ [x]) (h : oFieldAddr t x f P t0 T S = .ok act) : ActOk P φ S w ((execOp ρ ⟨dst, .fieldAddr t x f, ty, pos, aft, gd⟩).run P w) act := by
  unfold oFieldAddr at h
  obtain ⟨v, hv, h1⟩ := Res.bind_ok h
  obtain ⟨u, hu, rfl⟩ := un1_ok h1
  have hr := ho x (by simp) v hv
  clear h h1 hv ho
  show ActOk P φ S w ((do pure (Next.value (← Instr.fieldAt t (ρ x) f)) : Sem Next).run P w) _
  generalize ρ x = x' at hr ⊢
  unfold fieldAddrR at hu
  split at hu
  case h_2 => cases hu
  rename_i fs a hs
  split at hu
  case h_2 => cases hu
  rename_i fd hfd
  split at hu
  case h_2 => cases hu
  rename_i hsz
  cases hu
  cases hr with
  | ptr F off l hl =>
    refine ⟨.pointer (some ⟨l.blk, l.base + (off + fd.offset), none⟩), ?_, .ptr F _ l hl⟩
    rw [nth_eq] at hfd
    have hz : sizeT P fd.type ≠ 0 := Nat_beq_false hsz
    have hfd' : fs[f]? = some fd := by rw [← Array.getElem?_toList]; exact hfd
    unfold Instr.fieldAt
    simp only [Sem.run_bind, run_underlying hs, Result.andThen_ok]
    simp only [hfd', Sem.run_bind, Instr.sureAddr, Sem.run_pure, Result.andThen_ok, fieldPlace, run_sizeT (known_of_size hz), hz, if_false, addr_add, Nat.add_assoc]

theorem field_ok {t : TypeId} {x : Operand} {f : Nat} (ho : ORel φ T ρ [x]) (h : oField t x f P t0 T S = .ok act) : ActOk P φ S w ((execOp ρ ⟨dst, .field t x f, ty, pos, aft, gd⟩).run P w) act := by
  unfold oField at h
  obtain ⟨v, hv, h1⟩ := Res.bind_ok h
  obtain ⟨u, hu, rfl⟩ := un1_ok h1
  have hr := ho x (by simp) v hv
  clear h h1 hv ho
  show ActOk P φ S w ((do pure (Next.value (← Instr.field t (ρ x) f)) : Sem Next).run P w) _
  generalize ρ x = x' at hr ⊢
  unfold fieldR at hu
  split at hu
  case h_2 => cases hu
  rename_i fs cs hs
  split at hu
  case h_2 => cases hu
  rename_i fd hfd
  cases hr with
  | agg l l' hl =>
    obtain ⟨v', hrun, hvr⟩ := partR_sound hu hl w
    refine ⟨v', ?_, hvr⟩
    rw [nth_eq] at hfd
    have hfd' : fs[f]? = some fd := by rw [← Array.getElem?_toList]; exact hfd
    unfold Instr.field
    simp only [Sem.run_bind, run_underlying hs, Result.andThen_ok]
    simp only [hfd', Sem.run_bind, asAgg, Sem.run_pure, Result.andThen_ok, hrun]

theorem index_bounds {n len : Nat} (h : n < len) : (0 : Int) ≤ Int.ofNat n ∧ Int.ofNat n < (len : Int) := by
  simp; exact h

theorem indexaddr_ok {t : TypeId} {x i : Operand} (ho : ORel φ T ρ [x, i]) (h : oIndexAddr t x i P t0 T S = .ok act) : ActOk P φ S w ((execOp ρ ⟨dst, .indexAddr t x i, ty, pos, aft, gd⟩).run P w) act := by
  unfold oIndexAddr at h
  obtain ⟨v, hv, h1⟩ := Res.bind_ok h
  obtain ⟨j, hj, h2⟩ := Res.bind_ok h1
  obtain ⟨u, hu, rfl⟩ := un1_ok h2
  have hr := ho x (by simp) v hv
  have hrj := ho i (by simp) j hj
  clear h h1 h2 hv hj ho
  show ActOk P φ S w ((do pure (Next.value (← Instr.indexAt t (ρ x) (ρ i))) : Sem Next).run P w) _
  generalize ρ x = x' at hr ⊢
  generalize ρ i = i' at hrj ⊢
  unfold indexAddrR at hu
  split at hu
  case h_2 => cases hu
  rename_i k n
  have := rel_int hrj
  subst this
  split at hu
  · rename_i e a len c hs
    split at hu
    case h_2 => cases hu
    rename_i hb
    simp only [Bool.and_eq_true] at hb
    have hlt := Nat_blt hb.1
    cases hu
    obtain ⟨F, off, l, a', cap, rfl, rfl, hF, ha, hc, hle⟩ := slice_addr hr
    refine ⟨.pointer (some ⟨l.blk, l.base + (off + n * sizeT P e), none⟩), ?_, .ptr F _ l hF⟩
    rw [ha (by omega)]
    unfold Instr.indexAt
    simp only [asIntOf, Sem.run_bind, Sem.run_pure, Result.andThen_ok, run_underlying hs]
    rw [if_pos (index_bounds hlt)]
    simp only [Sem.run_bind, run_sizeT hb.2, Result.andThen_ok, Sem.run_pure]
    simp [addr_add, Nat.add_assoc]
  · rename_i len e a hs
    split at hu
    case h_2 => cases hu
    rename_i hb
    simp only [Bool.and_eq_true] at hb
    have hlt := Nat_blt hb.1
    cases hu
    cases hr with
    | ptr F off l hl =>
      refine ⟨.pointer (some ⟨l.blk, l.base + (off + n * sizeT P e), none⟩), ?_, .ptr F _ l hl⟩
      unfold Instr.indexAt
      simp only [asIntOf, Sem.run_bind, Sem.run_pure, Result.andThen_ok, run_underlying hs, Instr.sureAddr]
      rw [if_pos (index_bounds hlt)]
      simp only [Sem.run_bind, run_sizeT hb.2, Result.andThen_ok, Sem.run_pure]
      simp [addr_add, Nat.add_assoc]
  · cases hu

theorem index_ok {t : TypeId} {x i : Operand} (ho : ORel φ T ρ [x, i]) (h : oIndex t x i P t0 T S = .ok act) : ActOk P φ S w ((execOp ρ ⟨dst, .index t x i, ty, pos, aft, gd⟩).run P w) act := by
  unfold oIndex at h
  obtain ⟨v, hv, h1⟩ := Res.bind_ok h
  obtain ⟨j, hj, h2⟩ := Res.bind_ok h1
  obtain ⟨u, hu, rfl⟩ := un1_ok h2
  have hr := ho x (by simp) v hv
  have hrj := ho i (by simp) j hj
  clear h h1 h2 hv hj ho
  show ActOk P φ S w ((do pure (Next.value (← Instr.index t (ρ x) (ρ i))) : Sem Next).run P w) _
  generalize ρ x = x' at hr ⊢
  generalize ρ i = i' at hrj ⊢
  unfold indexR at hu
  split at hu
  case h_2 => cases hu
  rename_i k n
  have := rel_int hrj
  subst this
  split at hu
  · rename_i len e cs hs
    split at hu
    case h_2 => cases hu
    rename_i hb
    simp only [Bool.and_eq_true] at hb
    have hlt := Nat_blt hb.1
    cases hr with
    | agg l l' hl =>
      obtain ⟨v', hrun, hvr⟩ := partR_sound hu hl w
      refine ⟨v', ?_, hvr⟩
      unfold Instr.index
      simp only [asIntOf, Sem.run_bind, Sem.run_pure, Result.andThen_ok, run_underlying hs]
      rw [if_pos (index_bounds hlt)]
      simp only [Sem.run_bind, run_sizeT hb.2, Result.andThen_ok]
      have : (Int.ofNat n).toNat = n := rfl
      rw [this, hrun]
      rfl
  · rename_i s hs
    split at hu
    case h_2 => cases hu
    rename_i b hb
    cases hu
    have := rel_string hr
    subst this
    refine ⟨.int .u8 b.toNat, ?_, .int _ _⟩
    rw [nth_eq] at hb
    unfold Instr.index
    simp only [asIntOf, Sem.run_bind, Sem.run_pure, Result.andThen_ok, run_underlying hs]
    have h0 : (0 : Int) ≤ Int.ofNat n := by simp
    rw [if_pos h0]
    have : s[(Int.ofNat n).toNat]? = some b := by
      have hn : n < s.size := by have := (List.getElem?_eq_some_iff.1 hb).1; rwa [size_data] at this
      have h1 : (Int.ofNat n).toNat = n := rfl
      rw [h1]
      have h2 := (List.getElem?_eq_some_iff.1 hb).2
      rw [getElem?_pos s n hn]
      exact congrArg some h2
    rw [this]
    rfl
  · cases hu

/-! ### Composites -/

theorem fill_rel (place : Nat → Option (Nat × Nat)) : ∀ (ps ps' : List (Nat × Value)) (cs cs' : List Value) (out : Array Value), RelP φ ps ps' → RelL φ cs cs' → Instr.fill place ⟨cs⟩ ps = some out →
    ∃ out', Instr.fill place ⟨cs'⟩ ps' = some ⟨out'⟩ ∧ RelL φ out.toList out' := by
  intro ps
  induction ps with
  | nil =>
    intro ps' cs cs' out hp hc h
    obtain ⟨h1, h2⟩ := hp
    have : ps' = [] := by simpa using h1
    subst this
    simp only [Instr.fill] at h
    cases h
    exact ⟨cs', rfl, hc⟩
  | cons p ps ih =>
    intro ps' cs cs' out hp hc h
    obtain ⟨i, v⟩ := p
    obtain ⟨h1, h2⟩ := hp
    cases ps' with
    | nil => simp at h1
    | cons p' ps' =>
      obtain ⟨i', v'⟩ := p'
      simp only [List.map_cons, List.cons.injEq] at h1
      obtain ⟨rfl, h1⟩ := h1
      cases h2 with
      | cons _ _ _ _ hv hvs =>
        simp only [Instr.fill] at h ⊢
        cases hpl : place i' with
        | none => simp [hpl] at h
        | some os =>
          obtain ⟨o, s⟩ := os
          simp only [hpl] at h ⊢
          have hcell := hv.cells
          have hlen := hcell.length
          have hsz : v'.cells.size = v.cells.size := by simpa using hlen
          have hcl := hc.length
          simp only [List.size_toArray] at h ⊢
          split at h
          · cases h
          · rename_i hcond
            rw [hsz, hcl, if_neg hcond]
            have key : ∀ (xs xs' : List Value) (k : Nat) (a a' : List Value), RelL φ xs xs' → RelL φ a a' →
                RelL φ ((xs.zipIdx k).foldl (fun cs (p : Value × Nat) => cs.setIfInBounds (o + p.2) p.1) (⟨a⟩ : Array Value)).toList ((xs'.zipIdx k).foldl (fun cs (p : Value × Nat) => cs.setIfInBounds (o + p.2) p.1) (⟨a'⟩ : Array Value)).toList := by
              intro xs
              induction xs with
              | nil => intro xs' k a a' hx ha; cases hx; exact ha
              | cons x xs ihx =>
                intro xs' k a a' hx ha
                cases hx with
                | cons _ x' _ xs' h3 h4 =>
                  simp only [List.zipIdx_cons, List.foldl_cons]
                  have : ∀ (l : List Value) (m : Nat) (z : Value), (⟨l⟩ : Array Value).setIfInBounds m z = ⟨l.set m z⟩ := by
                    intro l m z
                    apply Array.ext'
                    simp
                  rw [this, this]
                  refine ihx _ _ _ _ h4 ?_
                  refine RelL.of_get (by simp [ha.length]) ?_
                  intro j y y' hy hy'
                  rw [List.getElem?_set] at hy hy'
                  by_cases hj : o + k = j
                  · rw [if_pos hj] at hy hy'
                    split at hy
                    · split at hy'
                      · cases hy; cases hy'; exact h3
                      · cases hy'
                    · cases hy
                  · rw [if_neg hj] at hy hy'
                    obtain ⟨z, hz, hr⟩ := ha.get hy
                    rw [hy'] at hz
                    cases hz
                    exact hr
            have hf : ∀ (a : Array Value) (l : List Value), a.zipIdx.foldl (fun cs (p : Value × Nat) => cs.setIfInBounds (o + p.2) p.1) (⟨l⟩ : Array Value) = (a.toList.zipIdx 0).foldl (fun cs (p : Value × Nat) => cs.setIfInBounds (o + p.2) p.1) (⟨l⟩ : Array Value) := by
              intro a l
              rw [← Array.foldl_toList]
              simp
            have hk := key _ _ 0 _ _ hcell hc
            rw [← hf, ← hf] at hk
            obtain ⟨out', ho, hr⟩ := ih ps' _ _ out ⟨h1, hvs⟩ hk h
            exact ⟨out', ho, hr⟩

theorem fill_congr {p q : Nat → Option (Nat × Nat)} (h : ∀ i, p i = q i) (cs : Array Value) (ps : List (Nat × Value)) : Instr.fill p cs ps = Instr.fill q cs ps := by
  have : p = q := funext h
  rw [this]

theorem run_places (fs : List Field) (h : fs.all (fun f => knownT P f.type) = true) (w : World) :
    (fs.mapM (m := Sem) fun f => do pure (f.offset, ← sizeOf f.type)).run P w = .ok (fs.map fun f => (f.offset, sizeT P f.type)) w := by
  induction fs with
  | nil => simp
  | cons f fs ih =>
    simp only [List.all_cons, Bool.and_eq_true] at h
    simp only [List.mapM_cons, Sem.run_bind, run_sizeT h.1, Result.andThen_ok, Sem.run_pure, ih h.2, List.map_cons]

theorem build_ok {t : TypeId} {ps : Array (Nat × Operand)} (ho : ORel φ T ρ (ps.toList.map (·.2))) (h : oBuild t ps P t0 T S = .ok act) : ActOk P φ S w ((execOp ρ ⟨dst, .build t ps, ty, pos, aft, gd⟩).run P w) act := by
  unfold oBuild at h
  obtain ⟨vs, hvs, h⟩ := Res.bind_ok h
  obtain ⟨u, hu, rfl⟩ := un1_ok h
  have hp := opnds2_rel ho hvs
  show ActOk P φ S w ((do pure (Next.value (← Instr.build t (ps.map fun (i, x) => (i, ρ x)))) : Sem Next).run P w) _
  have hpl : (ps.map fun (i, x) => (i, ρ x)).toList = ps.toList.map fun p => (p.1, ρ p.2) := by simp
  unfold buildR at hu
  split at hu
  · cases hu
  rename_i zero hz
  split at hu
  · cases hu
  rename_i hzp
  obtain ⟨i, zv, hi, hzv, rfl⟩ := zeroT_some hz
  split at hu
  · rename_i fs hs
    split at hu
    · cases hu
    rename_i hk
    split at hu
    case h_2 => cases hu
    rename_i out hout
    cases hu
    obtain ⟨out', ho', hr⟩ := fill_rel _ vs _ _ _ _ hp (zero_rel hzp) hout
    refine ⟨.agg ⟨out'⟩, ?_, ?_⟩
    · unfold Instr.build
      simp only [Sem.run_bind, run_zero hi hzv, Result.andThen_ok, run_underlying hs, hpl]
      have hm : (fs.mapM (m := Sem) fun f => do pure (f.offset, ← sizeOf f.type)).run P w = .ok (fs.map fun f => (f.offset, sizeT P f.type)) w := by
        rw [Array.mapM_eq_mapM_toList]
        simp only [Sem.run_map, run_places _ hk, Result.andThen_ok]
        congr 1
        apply Array.ext'
        simp
      simp only [hm, Result.andThen_ok]
      have hcg := fill_congr (p := fun i => (fs.map fun f => (f.offset, sizeT P f.type))[i]?) (q := fun i => match nth fs.toList i with | some f => some (f.offset, sizeT P f.type) | none => none)
        (by intro i; rw [nth_eq]; simp [Array.getElem?_map]; cases fs[i]? <;> rfl) zv.cells (ps.toList.map fun p => (p.1, ρ p.2))
      rw [hcg]
      have ho2 : Instr.fill (fun i => match nth fs.toList i with | some f => some (f.offset, sizeT P f.type) | none => none) zv.cells (ps.toList.map fun p => (p.1, ρ p.2)) = some ⟨out'⟩ := ho'
      rw [ho2]
      rfl
    · obtain ⟨l⟩ := out
      exact .agg _ _ hr
  · rename_i len e hs
    split at hu
    · cases hu
    rename_i hk
    split at hu
    case h_2 => cases hu
    rename_i out hout
    cases hu
    obtain ⟨out', ho', hr⟩ := fill_rel _ vs _ _ _ _ hp (zero_rel hzp) hout
    refine ⟨.agg ⟨out'⟩, ?_, ?_⟩
    · unfold Instr.build
      simp only [Sem.run_bind, run_zero hi hzv, Result.andThen_ok, run_underlying hs, hpl, run_sizeT hk]
      have ho2 : Instr.fill (fun i => some (i * sizeT P e, sizeT P e)) zv.cells (ps.toList.map fun p => (p.1, ρ p.2)) = some ⟨out'⟩ := ho'
      rw [ho2]
      rfl
    · obtain ⟨l⟩ := out
      exact .agg _ _ hr
  · cases hu
end
end
end Go.Ev
