/- Regions that draw their order: helper texts, no condition. -/
import Derived.Test.YtnmmmiliogogfaaGreatDoorEvD
import Derived.Orders
set_option linter.unusedVariables false
set_option linter.unusedSimpArgs false
namespace Go.Ev
section
variable {P : Program} {φ φ' : Phi} {S S' : St} {w w' : World} {T : Ts} {a : Act}

theorem un1_new {r : Res Value} {v : Value} {ob : Ob} (h : un1 r = .ok (.new v ob)) : False := by
  obtain ⟨_, _, h⟩ := un1_ok h
  cases h
theorem un_new {r : Res (Value × St)} {v : Value} {ob : Ob} (h : un r = .ok (.new v ob)) : False := by
  unfold un at h
  obtain ⟨_, _, h⟩ := Res.bind_ok h
  cases h
theorem un0_new {r : Res St} {v : Value} {ob : Ob} (h : un0 r = .ok (.new v ob)) : False := by
  unfold un0 at h
  obtain ⟨_, _, h⟩ := Res.bind_ok h
  cases h
theorem ofPeek_new {r : Option Value} {v : Value} {ob : Ob} (h : ofPeek r = .ok (.new v ob)) : False := by
  unfold ofPeek at h
  split at h
  · split at h <;> cases h
  · cases h

/-- What makes something new looks at no memory. -/
theorem new_indep {o : Oper} {h : Tr Ob} {n : Nat} {v : Value} {ob : Ob} (he : opR P o T ⟨h, n⟩ = .ok (.new v ob)) : ob.own ∧ ∀ h', opR P o T ⟨h', n⟩ = .ok (.new v ob) := by
  obtain ⟨dst, op, ty, pos, aft, gd⟩ := o
  unfold opR at he ⊢
  cases op <;> simp only [opR2] at he ⊢
  case move x => exact (un1_new he).elim
  case assign x => exact (un1_new he).elim
  case pick c a b =>
    obtain ⟨x, _, he⟩ := Res.bind_ok he
    unfold oPick2 at he
    split at he
    · split at he <;> exact (un1_new he).elim
    · cases he
  case alloc e =>
    unfold oAlloc at he ⊢
    unfold oAlloc2 at he ⊢
    cases hz : zeroT P e with
    | none => rw [hz] at he; cases he
    | some z =>
      rw [hz] at he
      simp only at he ⊢
      cases hp : z.all plain with
      | false => rw [hp] at he; cases he
      | true =>
        rw [hp] at he
        cases he
        exact ⟨⟨rfl, rfl⟩, fun _ => rfl⟩
  case box t x =>
    unfold oBox at he ⊢
    obtain ⟨u, hu, he⟩ := Res.bind_ok he
    rw [hu]
    unfold oBox2 at he
    cases he
    exact ⟨⟨rfl, rfl⟩, fun _ => rfl⟩
  case build t ps =>
    obtain ⟨u, hu, he⟩ := Res.bind_ok he
    exact (un1_new he).elim
  case buildSlice t m ps =>
    unfold oBuildSlice at he ⊢
    obtain ⟨u, hu, he⟩ := Res.bind_ok he
    rw [hu]
    unfold unN at he
    obtain ⟨p, hp, he⟩ := Res.bind_ok he
    have key : ∀ h', buildSliceR P ⟨h', n⟩ t m u = .ok p := fun h' => hp
    refine ⟨?_, fun h' => ?_⟩
    · unfold buildSliceR at hp
      cases h1 : elemT P t with
      | none => rw [h1] at hp; cases hp
      | some e =>
        rw [h1] at hp; simp only at hp
        cases h2 : zeroT P e with
        | none => rw [h2] at hp; cases hp
        | some z =>
          rw [h2] at hp; simp only at hp
          split at hp
          · cases hp
          · split at hp
            · cases hp; cases he; exact ⟨rfl, rfl⟩
            · cases hp
    · simp only [Res.bind]
      unfold unN
      rw [key h']
      exact he
  case load t x =>
    obtain ⟨u, hu, he⟩ := Res.bind_ok he
    unfold oLoad2 at he
    split at he
    · exact (un1_new he).elim
    · cases he
  case store t x y =>
    obtain ⟨u, hu, he⟩ := Res.bind_ok he
    obtain ⟨u', hu', he⟩ := Res.bind_ok he
    unfold oStore2 at he
    split at he
    · exact (un0_new he).elim
    · cases he
  case nilCheck x =>
    obtain ⟨u, hu, he⟩ := Res.bind_ok he
    unfold oNil2 at he
    split at he <;> cases he
  case binOp =>
    obtain ⟨u, hu, he⟩ := Res.bind_ok he
    obtain ⟨u', hu', he⟩ := Res.bind_ok he
    exact (un1_new he).elim
  case unOp =>
    obtain ⟨u, hu, he⟩ := Res.bind_ok he
    unfold oUn2 at he
    split at he
    · exact (ofPeek_new he).elim
    · cases he
  case convert src dt x =>
    unfold oConv at he ⊢
    obtain ⟨u, hu, he⟩ := Res.bind_ok he
    rw [hu]
    simp only [Res.bind]
    unfold convR at he ⊢
    split at he
    · split at he
      · obtain ⟨cs, _, he⟩ := Res.bind_ok he
        split at he <;> cases he
      · cases he
    · split at he
      · cases he
        exact ⟨⟨rfl, rfl⟩, fun _ => rfl⟩
      · cases he
    · cases he
    · split at he
      · split at he
        · split at he <;> cases he
        · cases he
      · cases he
  case makeInterface t x =>
    obtain ⟨u, hu, he⟩ := Res.bind_ok he
    unfold oMkIf2 at he
    split at he <;> cases he
  case makeFunc =>
    obtain ⟨u, hu, he⟩ := Res.bind_ok he
    obtain ⟨u', hu', he⟩ := Res.bind_ok he
    cases he
  case makeMap t r =>
    unfold oMkMap oMkMap2 at he ⊢
    cases r with
    | none => cases he; exact ⟨trivial, fun _ => rfl⟩
    | some _ => cases he
  case makeSlice t l c =>
    unfold oMkSl at he ⊢
    obtain ⟨u, hu, he⟩ := Res.bind_ok he
    obtain ⟨u', hu', he⟩ := Res.bind_ok he
    rw [hu]; simp only [Res.bind]; rw [hu']; simp only
    unfold unN at he
    obtain ⟨p, hp, he⟩ := Res.bind_ok he
    have key : ∀ h', makeSliceR P ⟨h', n⟩ t u u' = .ok p := fun h' => hp
    refine ⟨?_, fun h' => ?_⟩
    · unfold makeSliceR at hp
      split at hp
      · split at hp
        · cases hp
        · split at hp
          · cases hp
          · cases hp; cases he; exact ⟨rfl, rfl⟩
      · cases hp
    · unfold unN
      rw [key h']
      exact he
  case slice =>
    obtain ⟨u, hu, he⟩ := Res.bind_ok he
    obtain ⟨u1, hu1, he⟩ := Res.bind_ok he
    obtain ⟨u2, hu2, he⟩ := Res.bind_ok he
    obtain ⟨u3, hu3, he⟩ := Res.bind_ok he
    exact (un1_new he).elim
  case fieldAddr =>
    obtain ⟨u, hu, he⟩ := Res.bind_ok he
    exact (un1_new he).elim
  case field =>
    obtain ⟨u, hu, he⟩ := Res.bind_ok he
    exact (un1_new he).elim
  case indexAddr =>
    obtain ⟨u, hu, he⟩ := Res.bind_ok he
    obtain ⟨u', hu', he⟩ := Res.bind_ok he
    exact (un1_new he).elim
  case index =>
    obtain ⟨u, hu, he⟩ := Res.bind_ok he
    obtain ⟨u', hu', he⟩ := Res.bind_ok he
    exact (un1_new he).elim
  case lookup =>
    obtain ⟨u, hu, he⟩ := Res.bind_ok he
    obtain ⟨u', hu', he⟩ := Res.bind_ok he
    exact (un1_new he).elim
  case mapUpdate =>
    obtain ⟨u, hu, he⟩ := Res.bind_ok he
    obtain ⟨u', hu', he⟩ := Res.bind_ok he
    obtain ⟨u'', hu'', he⟩ := Res.bind_ok he
    exact (un0_new he).elim
  case insert =>
    obtain ⟨u, hu, he⟩ := Res.bind_ok he
    obtain ⟨u', hu', he⟩ := Res.bind_ok he
    obtain ⟨u'', hu'', he⟩ := Res.bind_ok he
    exact (un0_new he).elim
  case range t x =>
    unfold oRange at he
    split at he
    · obtain ⟨u, hu, he⟩ := Res.bind_ok he
      unfold oRange2 at he
      split at he
      · cases he
      · unfold oRange3 at he
        split at he <;> cases he
      · cases he
    · obtain ⟨u, hu, he⟩ := Res.bind_ok he
      unfold oRangeS at he
      split at he <;> cases he
    · cases he
  case next x b =>
    unfold oNext at he
    split at he
    · obtain ⟨u, hu, he⟩ := Res.bind_ok he
      unfold oNext2 at he
      split at he
      · unfold oNext3 at he
        split at he
        · cases he
        · unfold oNext4 at he
          split at he
          · split at he <;> cases he
          · cases he
        · cases he
      · cases he
    · obtain ⟨u, hu, he⟩ := Res.bind_ok he
      unfold oNextS at he
      split at he
      · unfold oNextS2 at he
        split at he
        · unfold oNextS3 at he
          split at he
          · cases he
          · split at he
            · split at he <;> cases he
            · cases he
        · cases he
      · cases he
  case entry x =>
    obtain ⟨u, hu, he⟩ := Res.bind_ok he
    unfold oEntry0 at he
    split at he
    · unfold oEntry1 at he
      split at he
      · unfold oEntry2 at he
        split at he
        · unfold oEntry3 at he
          split at he
          · split at he
            · unfold oEntry4 at he
              split at he <;> cases he
            · cases he
          · cases he
        · cases he
      · cases he
    · cases he
  case typeAssert =>
    obtain ⟨u, hu, he⟩ := Res.bind_ok he
    exact (un1_new he).elim
  case extract x i =>
    obtain ⟨u, hu, he⟩ := Res.bind_ok he
    unfold oExtract2 at he
    split at he
    · exact (un1_new he).elim
    · cases he
  case call c =>
    obtain ⟨u, hu, he⟩ := Res.bind_ok he
    unfold oCall2 at he
    split at he
    · unfold builtinR at he
      split at he
      · exact (un_new he).elim
      · exact (un_new he).elim
      · exact (un1_new he).elim
      · exact (un_new he).elim
      · split at he
        · exact (un_new he).elim
        · cases he
      · split at he
        · exact (ofPeek_new he).elim
        · cases he
      · split at he
        · exact (ofPeek_new he).elim
        · cases he
      · cases he
    · obtain ⟨u', hu', he⟩ := Res.bind_ok he
      unfold oCall3 at he
      split at he
      · split at he <;> cases he
      · cases he
    · cases he
  all_goals (unfold oBad at he; cases he)

/-! ### Surely the same -/

theorem sameVs_eq {f : Value → Value → Bool} (hf : ∀ a b, f a b = true → a = b) : ∀ l l' : List Value, sameVs f l l' = true → l = l'
  | [], [], _ => rfl
  | [], _ :: _, h => by simp [sameVs] at h
  | _ :: _, [], h => by simp [sameVs] at h
  | a :: l, b :: l', h => by
    simp only [sameVs, Bool.and_eq_true] at h
    rw [hf a b h.1, sameVs_eq hf l l' h.2]

theorem eqBytes_eq' : ∀ l l' : List UInt8, eqBytes l l' = true → l = l'
  | [], [], _ => rfl
  | [], _ :: _, h => by simp [eqBytes] at h
  | _ :: _, [], h => by simp [eqBytes] at h
  | a :: l, b :: l', h => by
    simp only [eqBytes] at h
    split at h
    · rename_i hb
      rw [eqBytes_eq' l l' h, UInt8.toNat_inj.1 (Nat_beq hb)]
    · cases h

theorem sameAddr_eq {a b : Addr} (h : sameAddr? a b = true) : a = b := by
  obtain ⟨x, y, s⟩ := a
  obtain ⟨x', y', s'⟩ := b
  simp only [sameAddr?, Bool.and_eq_true] at h
  obtain ⟨⟨h1, h2⟩, h3⟩ := h
  cases s <;> cases s' <;> simp at h3
  rw [Nat_beq h1, Nat_beq h2]

theorem arr_eq {α : Type} {a b : Array α} (h : a.toList = b.toList) : a = b := by
  cases a; cases b; simpa using h

theorem sameV_eq : ∀ (n : Nat) (v v' : Value), sameV n v v' = true → v = v'
  | 0, _, _, h => by simp [sameV] at h
  | n + 1, v, v', h => by
    unfold sameV at h
    split at h <;> (try simp only [Bool.and_eq_true, beq_iff_eq] at h)
    · rw [h]
    · rw [h.1, h.2]
    · rename_i s t
      have := eqBytes_eq' _ _ h
      obtain ⟨s⟩ := s; obtain ⟨t⟩ := t
      have := arr_eq this
      simp only at this
      rw [this]
    · rfl
    · rw [sameAddr_eq h]
    · rw [Nat_beq h.1, Nat_beq h.2]
    · rw [sameAddr_eq h.1.1, Nat_beq h.1.2, Nat_beq h.2]
    · rfl
    · rw [Nat_beq h]
    · rfl
    · rfl
    · rw [h.1.1, arr_eq (sameVs_eq (sameV_eq n) _ _ h.1.2), arr_eq (sameVs_eq (sameV_eq n) _ _ h.2)]
    · rw [Nat_beq h.1, sameV_eq n _ _ h.2]
    · rw [arr_eq (sameVs_eq (sameV_eq n) _ _ h)]
    · rw [arr_eq (sameVs_eq (sameV_eq n) _ _ h)]
    · cases h
end
end Go.Ev
namespace Go.Ev

/-! ### What was made -/

abbrev Made := Nat × Nat × Ob

noncomputable def addP (p : Nat → Bool) : List Made → Tr Ob → Tr Ob
  | [], h => h
  | a :: l, h => addP p l (match p a.1 with | true => h.set a.2.1 (some a.2.2) | false => h)

theorem addSel_eq (m b : Nat) : ∀ (l : List Made) (h : Tr Ob), addSel m b l h = addP (fun j => Nat.testBit m j && !Nat.testBit b j) l h
  | [], _ => rfl
  | a :: l, h => by
    have := addSel_eq m b l (match Nat.testBit m a.1 && !Nat.testBit b a.1 with | true => h.set a.2.1 (some a.2.2) | false => h)
    exact this

theorem addP_get {p : Nat → Bool} : ∀ {l : List Made} {h : Tr Ob} {F : Nat} {ob : Ob}, (addP p l h).get F = some ob →
    (∃ j, (j, F, ob) ∈ l ∧ p j = true) ∨ (h.get F = some ob ∧ ∀ j ob', (j, F, ob') ∈ l → p j = false)
  | [], h, F, ob, hg => .inr ⟨hg, fun _ _ hm => by simp at hm⟩
  | a :: l, h, F, ob, hg => by
    rcases addP_get (l := l) hg with ⟨j, hj, hp⟩ | ⟨hh, hn⟩
    · exact .inl ⟨j, by simp [hj], hp⟩
    · obtain ⟨i, G, b⟩ := a
      cases hp : p i with
      | false =>
        simp only [hp] at hh
        refine .inr ⟨hh, fun j ob' hm => ?_⟩
        rcases List.mem_cons.1 hm with e | hm
        · cases e; exact hp
        · exact hn j ob' hm
      | true =>
        simp only [hp] at hh
        rw [Tr.get_set] at hh
        by_cases hF : F = G
        · rw [if_pos hF] at hh
          cases hh
          subst hF
          exact .inl ⟨i, by simp, hp⟩
        · rw [if_neg hF] at hh
          refine .inr ⟨hh, fun j ob' hm => ?_⟩
          rcases List.mem_cons.1 hm with e | hm
          · cases e; exact absurd rfl hF
          · exact hn j ob' hm

theorem addP_base {p : Nat → Bool} : ∀ {l : List Made} {h : Tr Ob} {F : Nat}, (∀ j ob', (j, F, ob') ∈ l → p j = false) → (addP p l h).get F = h.get F
  | [], _, _, _ => rfl
  | a :: l, h, F, hn => by
    have ih := addP_base (p := p) (l := l) (h := match p a.1 with | true => h.set a.2.1 (some a.2.2) | false => h) (F := F) (fun j ob' hm => hn j ob' (by simp [hm]))
    refine Eq.trans ih ?_
    obtain ⟨i, G, b⟩ := a
    cases hp : p i with
    | false => simp only
    | true =>
      simp only
      rw [Tr.get_set]
      by_cases hF : F = G
      · subst hF
        have := hn i b (by simp)
        rw [hp] at this; cases this
      · rw [if_neg hF]

def Uniq (l : List Made) : Prop := l.Pairwise fun a b => a.2.1 ≠ b.2.1

theorem addP_made {p : Nat → Bool} : ∀ {l : List Made} {h : Tr Ob} {j F : Nat} {ob : Ob}, Uniq l → (j, F, ob) ∈ l → p j = true → (addP p l h).get F = some ob
  | [], _, _, _, _, _, hm, _ => by simp at hm
  | a :: l, h, j, F, ob, hu, hm, hp => by
    have hu' := List.pairwise_cons.1 hu
    rcases List.mem_cons.1 hm with e | hm
    · subst e
      have := addP_base (p := p) (l := l) (h := match p j with | true => h.set F (some ob) | false => h) (F := F) (fun k ob' hk => absurd rfl (show F ≠ F from hu'.1 (k, F, ob') hk))
      refine Eq.trans this ?_
      rw [hp]
      simp only
      rw [Tr.get_set, if_pos rfl]
    · exact addP_made (l := l) hu'.2 hm hp

/-! ### Masks -/

theorem allIdx_ok {p : Nat → Bool} : ∀ {n i : Nat}, allIdx p n = true → i < n → p i = true
  | 0, _, _, h => by omega
  | n + 1, i, h, hi => by
    have h : (p n && allIdx p n) = true := h
    rw [Bool.and_eq_true] at h
    by_cases e : i = n
    · subst e; exact h.1
    · exact allIdx_ok h.2 (by omega)

def MaskOk (ops : List Oper) (ms : List Nat) : Prop := ∀ i o k, ops[i]? = some o → Nat.testBit (maskOf ms i) k = true →
  ∃ e ∈ o.after.toList, Region.binds .any e = true ∧ (k = e.on ∨ Nat.testBit (maskOf ms e.on) k = true)

noncomputable def maskStep (acc : List Nat) (o : Oper) : Nat := o.after.toList.foldl (fun s e => match Region.binds .any e && Nat.blt e.on acc.length with
      | true => Nat.lor s (Nat.lor (Nat.pow 2 e.on) (match nth acc e.on with | some m => m | none => 0))
      | false => s) 0

noncomputable def masksF : List Oper → List Nat → List Nat
  | [], acc => acc
  | o :: ops, acc => masksF ops (acc ++ [maskStep acc o])

theorem masks_eq' : ∀ (ops : List Oper) (acc : List Nat), List.rec (motive := fun _ => List Nat → List Nat) (fun acc => acc)
    (fun o _ ih acc => ih (acc ++ [o.after.toList.foldl (fun s e => match Region.binds .any e && Nat.blt e.on acc.length with
      | true => Nat.lor s (Nat.lor (Nat.pow 2 e.on) (match nth acc e.on with | some m => m | none => 0))
      | false => s) 0])) ops acc = masksF ops acc
  | [], _ => rfl
  | _ :: ops, acc => masks_eq' ops _
theorem masks_eq (ops : List Oper) : masks ops = masksF ops [] := masks_eq' ops []

theorem testBit_lor (a b k : Nat) : Nat.testBit (Nat.lor a b) k = (Nat.testBit a k || Nat.testBit b k) := Nat.testBit_or a b k
theorem testBit_pow (i k : Nat) : Nat.testBit (Nat.pow 2 i) k = decide (i = k) := by
  have := @Nat.testBit_two_pow i k
  exact this

theorem maskStep_spec (acc : List Nat) (es : List Edge) : ∀ (s k : Nat), Nat.testBit (es.foldl (fun s e => match Region.binds .any e && Nat.blt e.on acc.length with
      | true => Nat.lor s (Nat.lor (Nat.pow 2 e.on) (match nth acc e.on with | some m => m | none => 0))
      | false => s) s) k = true → Nat.testBit s k = true ∨ ∃ e ∈ es, Region.binds .any e = true ∧ e.on < acc.length ∧ (k = e.on ∨ Nat.testBit (maskOf acc e.on) k = true) := by
  induction es with
  | nil => intro s k h; exact .inl h
  | cons e es ih =>
    intro s k h
    rw [List.foldl_cons] at h
    rcases ih _ _ h with h | ⟨e', he', hb⟩
    · split at h
      · rename_i hb
        rw [Bool.and_eq_true] at hb
        rw [testBit_lor, testBit_lor, testBit_pow, Bool.or_eq_true, Bool.or_eq_true, decide_eq_true_eq] at h
        rcases h with h | h | h
        · exact .inl h
        · exact .inr ⟨e, by simp, hb.1, Nat_blt hb.2, .inl h.symm⟩
        · exact .inr ⟨e, by simp, hb.1, Nat_blt hb.2, .inr h⟩
      · exact .inl h
    · exact .inr ⟨e', by simp [he'], hb⟩

theorem maskOf_append {acc l : List Nat} {i : Nat} (h : i < acc.length) : maskOf (acc ++ l) i = maskOf acc i := by
  unfold maskOf
  rw [nth_eq, nth_eq, List.getElem?_append_left h]

theorem masksF_prefix : ∀ (ops : List Oper) (acc : List Nat), ∃ l, masksF ops acc = acc ++ l
  | [], acc => ⟨[], by simp [masksF]⟩
  | o :: ops, acc => by
    obtain ⟨l, hl⟩ := masksF_prefix ops (acc ++ [maskStep acc o])
    exact ⟨maskStep acc o :: l, by rw [masksF, hl]; simp⟩

theorem masksF_spec : ∀ (ops : List Oper) (acc : List Nat) (i : Nat) (o : Oper) (k : Nat), ops[i]? = some o → Nat.testBit (maskOf (masksF ops acc) (acc.length + i)) k = true →
    ∃ e ∈ o.after.toList, Region.binds .any e = true ∧ (k = e.on ∨ Nat.testBit (maskOf (masksF ops acc) e.on) k = true)
  | [], _, _, _, _, h, _ => by simp at h
  | q :: ops, acc, 0, o, k, h, hk => by
    simp at h; subst h
    obtain ⟨l, hl⟩ := masksF_prefix ops (acc ++ [maskStep acc q])
    rw [masksF, hl] at hk ⊢
    rw [maskOf_append (by simp)] at hk
    have e0 : maskOf (acc ++ [maskStep acc q]) (acc.length + 0) = maskStep acc q := by
      unfold maskOf; rw [nth_eq]; simp
    rw [e0] at hk
    rcases maskStep_spec acc _ _ _ hk with h | ⟨e, he, hb, hlt, hor⟩
    · simp at h
    · refine ⟨e, he, hb, hor.imp id fun h => ?_⟩
      rw [List.append_assoc, maskOf_append hlt]; exact h
  | q :: ops, acc, i + 1, o, k, h, hk => by
    simp at h
    have := masksF_spec ops (acc ++ [maskStep acc q]) i o k h (by simpa [masksF, Nat.add_assoc, Nat.add_comm 1 i] using hk)
    exact this

theorem masks_ok (ops : List Oper) : MaskOk ops (masks ops) := by
  intro i o k h hk
  rw [masks_eq] at hk ⊢
  exact masksF_spec ops [] i o k h (by simpa using hk)

/-- What regionOk tells. -/
theorem region_spec {ops : List Oper} {ms : List Nat} (h : regionOk ops ms = true) {i j : Nat} {o q : Oper} {d : Tmp} (hi : ops[i]? = some o) (hj : ops[j]? = some q) (hij : i ≠ j) (hd : q.dst = some d) :
    o.dst ≠ some d ∧ (d ∈ tmpsOf ops o → Nat.testBit (maskOf ms i) j = true ∨ Nat.testBit (maskOf ms j) i = true) := by
  unfold regionOk at h
  have hil : i < ops.length := (List.getElem?_eq_some_iff.1 hi).1
  have hjl : j < ops.length := (List.getElem?_eq_some_iff.1 hj).1
  have h1 := allIdx_ok h hil
  rw [nth_eq, hi] at h1
  simp only at h1
  have h2 := allIdx_ok h1 hjl
  rw [nth_eq, hj] at h2
  simp only [hd] at h2
  rw [Bool.or_eq_true] at h2
  rcases h2 with h2 | h2
  · exact absurd (Nat_beq h2) hij
  · rw [Bool.and_eq_true] at h2
    obtain ⟨h3, h4⟩ := h2
    refine ⟨fun he => ?_, fun hm => ?_⟩
    · rw [he] at h3
      simp at h3
    · simp only [Bool.or_eq_true, Bool.not_eq_true'] at h4
      rcases h4 with (h4 | h4) | h4
      · rw [List.contains_iff_mem.2 hm] at h4; cases h4
      · exact .inl h4
      · exact .inr h4

theorem after_spec {ops : List Oper} {ms : List Nat} (h : afterOk ops ms = true) {i : Nat} {o : Oper} (hi : ops[i]? = some o) {e : Edge} (he : e ∈ o.after.toList) (hb : Region.binds .any e = true) :
    Nat.testBit (maskOf ms i) e.on = true := by
  unfold afterOk at h
  have h1 := allIdx_ok h (List.getElem?_eq_some_iff.1 hi).1
  rw [nth_eq, hi] at h1
  simp only [List.all_eq_true] at h1
  have := h1 e he
  rw [hb] at this
  simpa using this

end Go.Ev
namespace Go.Ev
section
variable {P : Program} {c : CallR} {ops : List Oper} {ms : List Nat} {D D' D'' : Dr} {i : Nat}

theorem land_spec {a b : Nat} (h : Nat.beq (Nat.land a b) b = true) (k : Nat) (hk : Nat.testBit b k = true) : Nat.testBit a k = true := by
  have h := Nat_beq h
  have h2 : Nat.testBit (Nat.land a b) k = (Nat.testBit a k && Nat.testBit b k) := Nat.testBit_and a b k
  rw [h, hk] at h2
  simpa using h2.symm
theorem land_spec' {a b : Nat} (h : Nat.beq (Nat.land a b) a = true) (k : Nat) (hk : Nat.testBit a k = true) : Nat.testBit b k = true := by
  have h := Nat_beq h
  have h2 : Nat.testBit (Nat.land a b) k = (Nat.testBit a k && Nat.testBit b k) := Nat.testBit_and a b k
  rw [h, hk] at h2
  simpa using h2.symm

theorem drawStep_ok (h : drawStep P c ops ms i D = .ok D') : ∃ o, ops[i]? = some o ∧ (∀ k, Nat.testBit (maskOf ms i) k = true → Nat.testBit D.done k = true) ∧ Nat.testBit D.done i = false ∧
    ((wantedR ops D.T o = false ∧ D' = D.did i o.dst undef) ∨
     (wantedR ops D.T o = true ∧ ∃ act, opR P o D.T ⟨addSel (maskOf ms i) D.bdone D.all D.base, D.next⟩ = .ok act ∧ drawOne P c i (maskOf ms i) o D act = .ok D')) := by
  unfold drawStep at h
  rw [nth_eq] at h
  cases ho : ops[i]? with
  | none => rw [ho] at h; cases h
  | some o =>
    rw [ho] at h
    simp only at h
    split at h
    · cases h
    · rename_i hb
      rw [Bool.and_eq_true] at hb
      refine ⟨o, rfl, land_spec hb.1, by simpa using hb.2, ?_⟩
      split at h
      · rename_i hw; cases h; exact .inl ⟨hw, rfl⟩
      · rename_i hw
        obtain ⟨act, h1, h2⟩ := Res.bind_ok h
        exact .inr ⟨hw, act, h1, h2⟩

/-- What a step does to what stands. -/
structure StepOk (ops : List Oper) (ms : List Nat) (i : Nat) (D D' : Dr) : Prop where
  op : ∃ o, ops[i]? = some o ∧ ∃ v, D'.T = putT D.T o.dst v
  notyet : Nat.testBit D.done i = false
  done : ∀ k, Nat.testBit D'.done k = (Nat.testBit D.done k || decide (i = k))
  next : D.next ≤ D'.next
  all : D'.all = D.all ∨ ∃ ob, Ob.own ob ∧ D'.all = (i, D.next, ob) :: D.all ∧ D'.next = D.next + 1
  base : (D'.base = D.base ∧ D'.bdone = D.bdone ∧ D'.past = D.past) ∨ (D'.past = (D.base, D.bdone, i) :: D.past ∧ D'.bdone = D'.done ∧ D'.all = D.all ∧ ∀ k, Nat.testBit D.done k = true → Nat.testBit (maskOf ms i) k = true)

theorem step_ok (h : drawStep P c ops ms i D = .ok D') : StepOk ops ms i D D' := by
  obtain ⟨o, ho, _, hn, h⟩ := drawStep_ok h
  have hd : ∀ k, Nat.testBit (Nat.lor D.done (Nat.pow 2 i)) k = (Nat.testBit D.done k || decide (i = k)) := fun k => by rw [testBit_lor, testBit_pow]
  rcases h with ⟨_, rfl⟩ | ⟨_, act, hact, h⟩
  · exact ⟨⟨o, ho, undef, rfl⟩, hn, hd, Nat.le_refl _, .inl rfl, .inl ⟨rfl, rfl, rfl⟩⟩
  · unfold drawOne at h
    cases act with
    | val v =>
      simp only at h
      split at h
      · cases h; exact ⟨⟨o, ho, v, rfl⟩, hn, hd, Nat.le_refl _, .inl rfl, .inl ⟨rfl, rfl, rfl⟩⟩
      · cases h
    | new v b =>
      simp only at h
      cases h
      exact ⟨⟨o, ho, v, rfl⟩, hn, hd, Nat.le_succ _, .inr ⟨b, (new_indep hact).1, rfl, rfl⟩, .inl ⟨rfl, rfl, rfl⟩⟩
    | upd v S =>
      simp only at h
      split at h
      · rename_i hb
        rw [Bool.and_eq_true] at hb
        cases h
        exact ⟨⟨o, ho, v, rfl⟩, hn, hd, Nat_ble hb.2, .inl rfl, .inr ⟨rfl, rfl, rfl, land_spec' hb.1⟩⟩
      · cases h
    | call f args =>
      simp only at h
      unfold drawCall at h
      split at h
      · rename_i v hv
        cases h; exact ⟨⟨o, ho, v, rfl⟩, hn, hd, Nat.le_refl _, .inl rfl, .inl ⟨rfl, rfl, rfl⟩⟩
      split at h
      · rename_i hm
        obtain ⟨p, _, h⟩ := Res.bind_ok h
        split at h
        · rename_i hb
          cases h
          exact ⟨⟨o, ho, p.1, rfl⟩, hn, hd, Nat_ble hb, .inl rfl, .inr ⟨rfl, rfl, rfl, land_spec' hm⟩⟩
        · cases h
      · cases h

/-- What several steps do. -/
structure Path (ops : List Oper) (D D' : Dr) : Prop where
  done : ∀ k, Nat.testBit D.done k = true → Nat.testBit D'.done k = true
  next : D.next ≤ D'.next
  all : ∀ x ∈ D.all, x ∈ D'.all
  allN : ∀ x ∈ D'.all, x ∈ D.all ∨ Nat.testBit D.done x.1 = false
  past : ∀ x ∈ D.past, x ∈ D'.past
  pastN : ∀ x ∈ D'.past, x ∈ D.past ∨ Nat.testBit D.done x.2.2 = false
  cur : (D'.base = D.base ∧ D'.bdone = D.bdone) ∨ ∃ l, Nat.testBit D.done l = false ∧ (D.base, D.bdone, l) ∈ D'.past
  tmp : ∀ t, (∀ k o, ops[k]? = some o → o.dst = some t → Nat.testBit D'.done k = true → Nat.testBit D.done k = true) → D'.T.tmp t = D.T.tmp t

theorem Path.refl (D : Dr) : Path ops D D := ⟨fun _ h => h, Nat.le_refl _, fun _ h => h, fun _ h => .inl h, fun _ h => h, fun _ h => .inl h, .inl ⟨rfl, rfl⟩, fun _ _ => rfl⟩

theorem notdone {D D' : Dr} (h : ∀ k, Nat.testBit D.done k = true → Nat.testBit D'.done k = true) {k : Nat} (hk : Nat.testBit D'.done k = false) : Nat.testBit D.done k = false := by
  cases h' : Nat.testBit D.done k with
  | false => rfl
  | true => rw [h k h'] at hk; cases hk

theorem Path.trans (h : Path ops D D') (g : Path ops D' D'') : Path ops D D'' where
  done := fun k hk => g.done k (h.done k hk)
  next := Nat.le_trans h.next g.next
  all := fun x hx => g.all x (h.all x hx)
  allN := fun x hx => by
    rcases g.allN x hx with hx | hx
    · exact h.allN x hx
    · exact .inr (notdone h.done hx)
  past := fun x hx => g.past x (h.past x hx)
  pastN := fun x hx => by
    rcases g.pastN x hx with hx | hx
    · exact h.pastN x hx
    · exact .inr (notdone h.done hx)
  cur := by
    rcases h.cur with ⟨h1, h2⟩ | ⟨l, h1, h2⟩
    · rcases g.cur with ⟨g1, g2⟩ | ⟨l, g1, g2⟩
      · exact .inl ⟨g1.trans h1, g2.trans h2⟩
      · exact .inr ⟨l, notdone h.done g1, by rw [← h1, ← h2]; exact g2⟩
    · exact .inr ⟨l, h1, g.past _ h2⟩
  tmp := fun t ht => by
    rw [g.tmp t fun k o hk hd hd' => h.done k (ht k o hk hd hd'), h.tmp t fun k o hk hd hd' => ht k o hk hd (g.done k hd')]

theorem StepOk.path (h : StepOk ops ms i D D') : Path ops D D' where
  done := fun k hk => by rw [h.done, hk]; rfl
  next := h.next
  all := fun x hx => by
    rcases h.all with e | ⟨ob, _, e, _⟩ <;> rw [e]
    · exact hx
    · exact List.mem_cons_of_mem _ hx
  allN := fun x hx => by
    rcases h.all with e | ⟨ob, _, e, _⟩ <;> rw [e] at hx
    · exact .inl hx
    · rcases List.mem_cons.1 hx with e | hx
      · subst e; exact .inr h.notyet
      · exact .inl hx
  past := fun x hx => by
    rcases h.base with ⟨_, _, e⟩ | ⟨e, _⟩ <;> rw [e]
    · exact hx
    · exact List.mem_cons_of_mem _ hx
  pastN := fun x hx => by
    rcases h.base with ⟨_, _, e⟩ | ⟨e, _⟩ <;> rw [e] at hx
    · exact .inl hx
    · rcases List.mem_cons.1 hx with e | hx
      · subst e; exact .inr h.notyet
      · exact .inl hx
  cur := by
    rcases h.base with ⟨h1, h2, _⟩ | ⟨e, _⟩
    · exact .inl ⟨h1, h2⟩
    · exact .inr ⟨i, h.notyet, by rw [e]; simp⟩
  tmp := fun t ht => by
    obtain ⟨o, ho, v, hv⟩ := h.op
    rw [hv]
    cases hd : o.dst with
    | none => rfl
    | some d =>
      simp only [putT]
      rw [tmp_set]
      by_cases e : t = d
      · subst e
        have := ht i o ho hd (by rw [h.done]; simp)
        rw [h.notyet] at this; cases this
      · rw [if_neg e]

structure Wf (ops : List Oper) (D : Dr) : Prop where
  bsub : ∀ k, Nat.testBit D.bdone k = true → Nat.testBit D.done k = true
  all : ∀ j F ob, (j, F, ob) ∈ D.all → Nat.testBit D.done j = true ∧ Ob.own ob ∧ F < D.next
  uniq : Uniq D.all
  past : ∀ x ∈ D.past, Nat.testBit D.done x.2.2 = true
  ops : ∀ k, Nat.testBit D.done k = true → k < ops.length

theorem Wf.step (w : Wf ops D) (h : StepOk ops ms i D D') : Wf ops D' where
  bsub := fun k hk => by
    rcases h.base with ⟨_, h2, _⟩ | ⟨_, h2, _⟩ <;> rw [h2] at hk
    · exact h.path.done _ (w.bsub k hk)
    · exact hk
  all := fun j F ob hx => by
    have old : ∀ j F ob, (j, F, ob) ∈ D.all → Nat.testBit D'.done j = true ∧ Ob.own ob ∧ F < D'.next := fun j F ob hx =>
      let ⟨a, b, c⟩ := w.all j F ob hx; ⟨h.path.done _ a, b, Nat.lt_of_lt_of_le c h.next⟩
    rcases h.all with e | ⟨ob', ho, e, hn⟩ <;> rw [e] at hx
    · exact old _ _ _ hx
    · rcases List.mem_cons.1 hx with e | hx
      · cases e; exact ⟨by rw [h.done]; simp, ho, by omega⟩
      · exact old _ _ _ hx
  uniq := by
    rcases h.all with e | ⟨ob', ho, e, hn⟩ <;> rw [e]
    · exact w.uniq
    · refine List.pairwise_cons.2 ⟨fun x hx => ?_, w.uniq⟩
      have := (w.all x.1 x.2.1 x.2.2 hx).2.2
      simp only
      omega
  past := fun x hx => by
    rcases h.base with ⟨_, _, e⟩ | ⟨e, _⟩ <;> rw [e] at hx
    · exact h.path.done _ (w.past x hx)
    · rcases List.mem_cons.1 hx with e | hx
      · subst e; rw [h.done]; simp
      · exact h.path.done _ (w.past x hx)
  ops := fun k hk => by
    rw [h.done, Bool.or_eq_true, decide_eq_true_eq] at hk
    rcases hk with hk | rfl
    · exact w.ops k hk
    · obtain ⟨o, ho, _⟩ := h.op
      exact (List.getElem?_eq_some_iff.1 ho).1

theorem drawGo_nil (D : Dr) : drawGo P c ops ms [] D = .ok D := rfl
theorem drawGo_cons (i : Nat) (l : List Nat) (D : Dr) : drawGo P c ops ms (i :: l) D = (drawStep P c ops ms i D).bind fun D' => drawGo P c ops ms l D' := rfl

theorem go_path : ∀ {l : List Nat} {D D' : Dr}, drawGo P c ops ms l D = .ok D' → Wf ops D → Path ops D D' ∧ Wf ops D' ∧ ∀ k, Nat.testBit D'.done k = true → Nat.testBit D.done k = true ∨ k ∈ l
  | [], D, D', h, w => by rw [drawGo_nil] at h; cases h; exact ⟨Path.refl D, w, fun _ h => .inl h⟩
  | i :: l, D, D', h, w => by
    rw [drawGo_cons] at h
    obtain ⟨D1, h1, h⟩ := Res.bind_ok h
    have s := step_ok h1
    obtain ⟨a, b, d⟩ := go_path h (w.step s)
    refine ⟨s.path.trans a, b, fun k hk => ?_⟩
    rcases d k hk with hk | hk
    · rw [s.done, Bool.or_eq_true, decide_eq_true_eq] at hk
      rcases hk with hk | rfl
      · exact .inl hk
      · exact .inr (by simp)
    · exact .inr (by simp [hk])

theorem go_append : ∀ {l l' : List Nat} {D D' : Dr}, drawGo P c ops ms (l ++ l') D = .ok D' → ∃ D1, drawGo P c ops ms l D = .ok D1 ∧ drawGo P c ops ms l' D1 = .ok D'
  | [], l', D, D', h => ⟨D, rfl, h⟩
  | i :: l, l', D, D', h => by
    rw [List.cons_append, drawGo_cons] at h
    obtain ⟨D1, h1, h⟩ := Res.bind_ok h
    obtain ⟨D2, h2, h3⟩ := go_append h
    exact ⟨D2, by rw [drawGo_cons, h1]; exact h2, h3⟩

/-- The run that was carried out, as seen from each operation. -/
structure Canon (P : Program) (c : CallR) (ops : List Oper) (ms : List Nat) (D0 Dn : Dr) (pre post : Nat → Dr) : Prop where
  step : ∀ i, i < ops.length → drawStep P c ops ms i (pre i) = .ok (post i)
  from0 : ∀ i, i < ops.length → Path ops D0 (pre i)
  toN : ∀ i, i < ops.length → Path ops (post i) Dn
  cmp : ∀ i j, i < ops.length → j < ops.length → i ≠ j → Path ops (post i) (pre j) ∨ Path ops (post j) (pre i)
  wf : ∀ i, i < ops.length → Wf ops (pre i)
  wfN : Wf ops Dn
  doneN : ∀ i, i < ops.length → Nat.testBit Dn.done i = true
  first : ∀ p : Nat → Prop, (∃ i, i < ops.length ∧ p i) → ∃ i, i < ops.length ∧ p i ∧ ∀ k, Nat.testBit (pre i).done k = true → ¬ p k

theorem canon {ord : List Nat} {D0 Dn : Dr} (h : drawGo P c ops ms ord D0 = .ok Dn) (h0 : D0.done = 0) (w0 : Wf ops D0) (hall : ∀ i, i < ops.length → Nat.testBit Dn.done i = true) :
    ∃ pre post, Canon P c ops ms D0 Dn pre post := by
  obtain ⟨p0, wN, hin⟩ := go_path h w0
  have hAt : ∀ i, i < ops.length → ∃ (l1 l2 : List Nat) (D D' : Dr), ord = l1 ++ i :: l2 ∧ drawGo P c ops ms l1 D0 = .ok D ∧ drawStep P c ops ms i D = .ok D' ∧ drawGo P c ops ms l2 D' = .ok Dn := by
    intro i hi
    have hm : i ∈ ord := by
      rcases hin i (hall i hi) with h | h
      · rw [h0] at h; simp at h
      · exact h
    obtain ⟨l1, l2, e⟩ := List.append_of_mem hm
    rw [e] at h
    obtain ⟨D, h1, h2⟩ := go_append h
    rw [drawGo_cons] at h2
    obtain ⟨D', h3, h4⟩ := Res.bind_ok h2
    exact ⟨l1, l2, D, D', e, h1, h3, h4⟩
  have hAt' : ∀ i, ∃ (l1 l2 : List Nat) (D D' : Dr), i < ops.length → (ord = l1 ++ i :: l2 ∧ drawGo P c ops ms l1 D0 = .ok D ∧ drawStep P c ops ms i D = .ok D' ∧ drawGo P c ops ms l2 D' = .ok Dn) := by
    intro i
    by_cases hi : i < ops.length
    · obtain ⟨a, b, c, d, e⟩ := hAt i hi; exact ⟨a, b, c, d, fun _ => e⟩
    · exact ⟨[], [], D0, D0, fun h => absurd h hi⟩
  let L1 : Nat → List Nat := fun i => Classical.choose (hAt' i)
  have e1 : ∀ i, ∃ (l2 : List Nat) (D D' : Dr), i < ops.length → (ord = L1 i ++ i :: l2 ∧ drawGo P c ops ms (L1 i) D0 = .ok D ∧ drawStep P c ops ms i D = .ok D' ∧ drawGo P c ops ms l2 D' = .ok Dn) := fun i => Classical.choose_spec (hAt' i)
  let L2 : Nat → List Nat := fun i => Classical.choose (e1 i)
  have e2 : ∀ i, ∃ (D D' : Dr), i < ops.length → (ord = L1 i ++ i :: L2 i ∧ drawGo P c ops ms (L1 i) D0 = .ok D ∧ drawStep P c ops ms i D = .ok D' ∧ drawGo P c ops ms (L2 i) D' = .ok Dn) := fun i => Classical.choose_spec (e1 i)
  let pre : Nat → Dr := fun i => Classical.choose (e2 i)
  have e3 : ∀ i, ∃ (D' : Dr), i < ops.length → (ord = L1 i ++ i :: L2 i ∧ drawGo P c ops ms (L1 i) D0 = .ok (pre i) ∧ drawStep P c ops ms i (pre i) = .ok D' ∧ drawGo P c ops ms (L2 i) D' = .ok Dn) := fun i => Classical.choose_spec (e2 i)
  let post : Nat → Dr := fun i => Classical.choose (e3 i)
  have e4 : ∀ i, i < ops.length → (ord = L1 i ++ i :: L2 i ∧ drawGo P c ops ms (L1 i) D0 = .ok (pre i) ∧ drawStep P c ops ms i (pre i) = .ok (post i) ∧ drawGo P c ops ms (L2 i) (post i) = .ok Dn) := fun i => Classical.choose_spec (e3 i)
  clear_value pre post L1 L2
  have wf : ∀ i, i < ops.length → Wf ops (pre i) := fun i hi => (go_path (e4 i hi).2.1 w0).2.1
  have wf' : ∀ i, i < ops.length → Wf ops (post i) := fun i hi => (wf i hi).step (step_ok (e4 i hi).2.2.1)
  -- one ahead of the other
  have ahead : ∀ i j, i < ops.length → j < ops.length → (L1 i).length < (L1 j).length → Path ops (post i) (pre j) := by
    intro i j hi hj hl
    have he := (e4 i hi).1.symm.trans (e4 j hj).1
    rcases List.append_eq_append_iff.1 he with ⟨m, h1, h2⟩ | ⟨m, h1, h2⟩
    · cases m with
      | nil => rw [h1] at hl; simp at hl
      | cons x m =>
        simp only [List.cons_append, List.cons.injEq] at h2
        obtain ⟨rfl, h2⟩ := h2
        have hg := (e4 j hj).2.1
        rw [h1] at hg
        obtain ⟨D1, g1, g2⟩ := go_append hg
        rw [(e4 i hi).2.1] at g1
        cases g1
        rw [drawGo_cons, (e4 i hi).2.2.1] at g2
        exact (go_path g2 (wf' i hi)).1
    · rw [h1] at hl; simp at hl; omega
  have same : ∀ i j, i < ops.length → j < ops.length → (L1 i).length = (L1 j).length → i = j := by
    intro i j hi hj hl
    have he := (e4 i hi).1.symm.trans (e4 j hj).1
    have := (List.append_inj he hl).2
    simp only [List.cons.injEq] at this
    exact this.1
  have hdone : ∀ i k, i < ops.length → Nat.testBit (pre i).done k = true → k < ops.length ∧ (L1 k).length < (L1 i).length := by
    intro i k hi hk
    have hkl := (wf i hi).ops k hk
    refine ⟨hkl, ?_⟩
    rcases Nat.lt_trichotomy (L1 k).length (L1 i).length with h | h | h
    · exact h
    · have := same k i hkl hi h
      subst this
      rw [(step_ok (e4 k hi).2.2.1).notyet] at hk; cases hk
    · have p := ahead i k hi hkl h
      have := p.done k ((step_ok (e4 i hi).2.2.1).path.done k hk)
      rw [(step_ok (e4 k hkl).2.2.1).notyet] at this; cases this
  refine ⟨pre, post, fun i hi => (e4 i hi).2.2.1, fun i hi => (go_path (e4 i hi).2.1 w0).1, fun i hi => (go_path (e4 i hi).2.2.2 (wf' i hi)).1, ?_, wf, wN, hall, ?_⟩
  · intro i j hi hj hne
    rcases Nat.lt_trichotomy (L1 i).length (L1 j).length with h | h | h
    · exact .inl (ahead i j hi hj h)
    · exact absurd (same i j hi hj h) hne
    · exact .inr (ahead j i hj hi h)
  · intro p
    rintro ⟨i, hi, hp⟩
    have key : ∀ n i, (L1 i).length ≤ n → i < ops.length → p i → ∃ i, i < ops.length ∧ p i ∧ ∀ k, Nat.testBit (pre i).done k = true → ¬ p k := by
      intro n
      induction n with
      | zero =>
        intro i hl hi hp
        exact ⟨i, hi, hp, fun k hk => by have := (hdone i k hi hk).2; omega⟩
      | succ n ih =>
        intro i hl hi hp
        by_cases hk : ∃ k, Nat.testBit (pre i).done k = true ∧ p k
        · obtain ⟨k, hk, hpk⟩ := hk
          have := hdone i k hi hk
          exact ih k (by omega) this.1 hpk
        · exact ⟨i, hi, hp, fun k hk' hpk => hk ⟨k, hk', hpk⟩⟩
    exact key _ i (Nat.le_refl _) hi hp
end
end Go.Ev
namespace Go.Ev
section
variable {φ φ0 φ1 φ2 φ' : Phi} {S S0 S1 S2 S' : St} {w w0 w1 w2 w' : World}

/-- 'Good' but for the numbers. -/
structure Core (φ φ' : Phi) (S S' : St) (w w' : World) : Prop where
  ext : φ.le φ'
  rel : Rel φ' S' w'
  os : w'.os = w.os
  tape : w'.tape = w.tape
  output : w'.output = w.output
  size : w.heap.size ≤ w'.heap.size
  frame : ∀ b, b < w.heap.size → (∀ F ob l, S.get F = some ob → φ F = some l → l.blk ≠ b) → w'.heap[b]? = w.heap[b]?
  blk : ∀ F l, φ F = none → φ' F = some l → w.heap.size ≤ l.blk ∨ ∃ G ob m, S.get G = some ob ∧ φ G = some m ∧ m.blk = l.blk
  dom : ∀ F ob, S'.get F = some ob → (∃ ob0, S.get F = some ob0) ∨ φ F = none

theorem Core.refl (h : Rel φ S w) : Core φ φ S S w w where
  ext := fun _ _ h => h
  rel := h
  os := rfl
  tape := rfl
  output := rfl
  size := Nat.le_refl _
  frame := fun _ _ _ => rfl
  blk := fun F l h h' => by simp [h] at h'
  dom := fun F ob h => .inl ⟨ob, h⟩

theorem Core.good (h : Core φ φ' S S' w w') (r : ∀ F l, φ F = none → φ' F = some l → S.next ≤ F ∧ F < S'.next) (n : S.next ≤ S'.next) : Good φ φ' S S' w w' :=
  ⟨h.ext, r, n, h.rel, h.os, h.tape, h.output, h.size, h.frame, h.blk, h.dom⟩

theorem Core.trans (h : Core φ φ1 S S1 w w1) (k : Core φ1 φ2 S1 S2 w1 w2) : Core φ φ2 S S2 w w2 where
  ext := fun F l hF => k.ext F l (h.ext F l hF)
  rel := k.rel
  os := k.os.trans h.os
  tape := k.tape.trans h.tape
  output := k.output.trans h.output
  size := Nat.le_trans h.size k.size
  frame := fun b hb hn => by
    rw [k.frame b (Nat.lt_of_lt_of_le hb h.size) ?_, h.frame b hb hn]
    intro F ob l hF hl hbl
    cases h0 : φ F with
    | some m =>
      have : φ1 F = some m := h.ext F m h0
      rw [hl] at this; cases this
      rcases h.dom F ob hF with ⟨ob0, hob⟩ | hno
      · exact hn F ob0 l hob h0 hbl
      · rw [h0] at hno; cases hno
    | none =>
      rcases h.blk F l h0 hl with hge | ⟨G, ob', m, hG, hm, hbm⟩
      · omega
      · exact hn G ob' m hG hm (hbm.trans hbl)
  blk := fun F l hF hF2 => by
    cases h1 : φ1 F with
    | some m =>
      have := k.ext F m h1; rw [hF2] at this; cases this
      exact h.blk F l hF h1
    | none =>
      rcases k.blk F l h1 hF2 with hge | ⟨G, ob, m, hG, hm, hbm⟩
      · exact .inl (Nat.le_trans h.size hge)
      · cases h0 : φ G with
        | none =>
          rcases h.blk G m h0 hm with hge | ⟨G', ob', m', hG', hm', hbm'⟩
          · exact .inl (by omega)
          · exact .inr ⟨G', ob', m', hG', hm', hbm'.trans hbm⟩
        | some m0 =>
          have := h.ext G m0 h0; rw [hm] at this; cases this
          rcases h.dom G ob hG with ⟨ob0, hob⟩ | hno
          · exact .inr ⟨G, ob0, m, hob, h0, hbm⟩
          · rw [h0] at hno; cases hno
  dom := fun F ob hF => by
    rcases k.dom F ob hF with ⟨ob0, h0⟩ | hno
    · exact h.dom F ob0 h0
    · cases h0 : φ F with
      | none => exact .inr rfl
      | some m => have := h.ext F m h0; rw [hno] at this; cases this

theorem own_apart {lF lG : Loc} {G : Nat} {ob ob' : Ob} (h : Ob.own ob) (hs : ShareOk lF G lG ob ob') : False := by
  cases ob with
  | row cs n s st old =>
    obtain ⟨h1, h2⟩ := h
    subst h1; subst h2
    cases ob' with
    | row => have := (hs rfl).1; cases this
    | _ => exact hs
  | _ => cases ob' <;> exact hs

/-- What is done to a part of memory, beside what was made apart. -/
theorem Good.wide {Sub H H' : St} (hR : Rel φ H w) (hsub : ∀ F ob, Sub.get F = some ob → H.get F = some ob) (k : Good φ φ' Sub S' w w') (hn : S'.next ≤ H'.next) (hHn : H.next = H'.next)
    (hH : ∀ F ob, H'.get F = some ob → S'.get F = some ob ∨ (H.get F = some ob ∧ Sub.get F = none ∧ Ob.own ob)) : Core φ φ' H H' w w' := by
  -- what was made apart lies apart
  have apart : ∀ F ob l, H.get F = some ob → Sub.get F = none → Ob.own ob → φ F = some l → ∀ G obG m, Sub.get G = some obG → φ G = some m → m.blk ≠ l.blk := by
    intro F ob l hF hS ho hl G obG m hG hm he
    have hne : F ≠ G := fun e => by subst e; rw [hS] at hG; cases hG
    exact own_apart ho (hR.excl F G ob obG l m hne hF (hsub _ _ hG) hl hm he.symm)
  have keep : ∀ F ob, H.get F = some ob → Sub.get F = none → Ob.own ob → ∃ l, φ F = some l ∧ RelOb φ' w' l ob := by
    intro F ob hF hS ho
    obtain ⟨l, hl, hr⟩ := hR.obs F ob hF
    refine ⟨l, hl, (hr.mono k.ext).same ?_⟩
    exact k.frame l.blk (hR.ids F l hl) fun G obG m hG hm he => apart F ob l hF hS ho hl G obG m hG hm he
  have split : ∀ F ob, H.get F = some ob → Sub.get F = none → Ob.own ob → ∀ lF, φ' F = some lF → ∀ G obG lG, S'.get G = some obG → φ' G = some lG → F ≠ G → lF.blk ≠ lG.blk := by
    intro F ob hF hS ho lF hlF G obG lG hG hlG hne he
    obtain ⟨l, hl, _⟩ := hR.obs F ob hF
    have := k.ext F l hl; rw [hlF] at this; cases this
    cases h0 : φ G with
    | some m =>
      have := k.ext G m h0; rw [hlG] at this; cases this
      rcases k.dom G obG hG with ⟨ob0, hob⟩ | hno
      · exact apart F ob _ hF hS ho hl G ob0 _ hob h0 he.symm
      · rw [h0] at hno; cases hno
    | none =>
      rcases k.blk G lG h0 hlG with hge | ⟨G', ob', m', hG', hm', hbm'⟩
      · have := hR.ids F _ hl; omega
      · exact apart F ob _ hF hS ho hl G' ob' m' hG' hm' (hbm'.trans he.symm)
  refine ⟨k.ext, ⟨?_, ?_, k.rel.ids, ?_⟩, k.os, k.tape, k.output, k.size, ?_, ?_, ?_⟩
  · intro F ob hF
    rcases hH F ob hF with hS | ⟨hF, hS, ho⟩
    · exact k.rel.obs F ob hS
    · obtain ⟨l, hl, hr⟩ := keep F ob hF hS ho
      exact ⟨l, k.ext F l hl, hr⟩
  · intro F G obF obG lF lG hne hF hG hlF hlG he
    rcases hH F obF hF with hS | ⟨hF, hS, ho⟩
    · rcases hH G obG hG with gS | ⟨hG, gS, go⟩
      · exact k.rel.excl F G obF obG lF lG hne hS gS hlF hlG he
      · exact absurd he.symm (split G obG hG gS go lG hlG F obF lF hS hlF (Ne.symm hne))
    · rcases hH G obG hG with gS | ⟨hG, gS, go⟩
      · exact absurd he (split F obF hF hS ho lF hlF G obG lG gS hlG hne)
      · obtain ⟨l, hl, _⟩ := hR.obs F obF hF
        have := k.ext F l hl; rw [hlF] at this; cases this
        obtain ⟨m, hm, _⟩ := hR.obs G obG hG
        have := k.ext G m hm; rw [hlG] at this; cases this
        exact hR.excl F G obF obG _ _ hne hF hG hl hm he
  · intro F ob hF
    rcases hH F ob hF with hS | ⟨hF, hS, ho⟩
    · exact Nat.lt_of_lt_of_le (k.rel.dom F ob hS) hn
    · have := hR.dom F ob hF; omega
  · intro b hb hnb
    exact k.frame b hb fun F ob l hF hl => hnb F ob l (hsub _ _ hF) hl
  · intro F l h0 hl
    rcases k.blk F l h0 hl with hge | ⟨G, ob, m, hG, hm, hbm⟩
    · exact .inl hge
    · exact .inr ⟨G, ob, m, hsub _ _ hG, hm, hbm⟩
  · intro F ob hF
    rcases hH F ob hF with hS | ⟨hF, hS, ho⟩
    · rcases k.dom F ob hS with ⟨ob0, h0⟩ | hno
      · exact .inl ⟨ob0, hsub _ _ h0⟩
      · exact .inr hno
    · exact .inl ⟨ob, hF⟩

/-- Whether an operation is carried out: only what guards it tells. -/
theorem wanted_eq' {T : Ts} {a : Act} {ops : Array Oper} {o : Oper} (h : ∀ g b p d, o.guard = some (g, b) → ops[g]? = some p → p.dst = some d → RelV φ (T.tmp d) (a.tmps.getD d undef)) : wantedR ops.toList T o = Region.wanted o (yielded ops a.tmps) := by
  unfold wantedR Region.wanted
  cases hg : o.guard with
  | none => rfl
  | some g =>
    obtain ⟨j, want⟩ := g
    simp only
    rw [nth_eq, Array.getElem?_toList]
    unfold yielded
    cases hj : ops[j]? with
    | none => rfl
    | some p =>
      simp only [Option.bind_some]
      cases hd : p.dst with
      | none => rfl
      | some d =>
        simp only [Option.bind_some]
        have hr := h j want p d hg hj hd
        cases ht : a.tmps[d]? with
        | none =>
          have hu : a.tmps.getD d undef = undef := by simp [Array.getD_eq_getD_getElem?, ht]
          rw [hu] at hr
          generalize T.tmp d = x at hr
          cases hr
          rfl
        | some y =>
          have hu : a.tmps.getD d undef = y := by simp [Array.getD_eq_getD_getElem?, ht]
          rw [hu] at hr
          generalize T.tmp d = x at hr
          cases hr <;> first
            | rfl
            | (rename_i b; cases b <;> cases want <;> rfl)
end
end Go.Ev
namespace Go.Ev
section
variable {P : Program} {c : CallR} {ops : Array Oper} {ms : List Nat} {D0 Dn : Dr} {pre post : Nat → Dr} {i j : Nat}

theorem Canon.sok (C : Canon P c ops.toList ms D0 Dn pre post) (hi : i < ops.toList.length) : StepOk ops.toList ms i (pre i) (post i) := step_ok (C.step i hi)

theorem Canon.pdone (C : Canon P c ops.toList ms D0 Dn pre post) (hi : i < ops.toList.length) : Nat.testBit (post i).done i = true := by
  rw [(C.sok hi).done]; simp

/-- What was made was made by its operation. -/
theorem Canon.made (C : Canon P c ops.toList ms D0 Dn pre post) {F : Nat} {ob : Ob} (h : (j, F, ob) ∈ Dn.all) :
    j < ops.toList.length ∧ F = (pre j).next ∧ (post j).next = F + 1 ∧ Ob.own ob ∧ (post j).all = (j, F, ob) :: (pre j).all := by
  have hj : j < ops.toList.length := C.wfN.ops j (C.wfN.all j F ob h).1
  refine ⟨hj, ?_⟩
  have hs := C.sok hj
  rcases (C.toN j hj).allN _ h with hp | hp
  · have hno : (j, F, ob) ∉ (pre j).all := fun h => by
      have := ((C.wf j hj).all j F ob h).1
      rw [hs.notyet] at this; cases this
    rcases hs.all with e | ⟨ob', ho, e, hn⟩
    · rw [e] at hp; exact absurd hp hno
    · rw [e] at hp
      rcases List.mem_cons.1 hp with e' | hp
      · cases e'; exact ⟨rfl, hn, ho, e⟩
      · exact absurd hp hno
  · simp only at hp
    rw [C.pdone hj] at hp; cases hp

/-- Which one stands ahead is told by what is done. -/
theorem Canon.before (C : Canon P c ops.toList ms D0 Dn pre post) (hi : i < ops.toList.length) (hj : j < ops.toList.length) (h : Nat.testBit (pre j).done i = true) : Path ops.toList (post i) (pre j) := by
  have hne : i ≠ j := fun e => by subst e; rw [(C.sok hi).notyet] at h; cases h
  rcases C.cmp i j hi hj hne with p | p
  · exact p
  · have := p.done i ((C.sok hj).path.done i h)
    rw [(C.sok hi).notyet] at this; cases this
theorem Canon.behind (C : Canon P c ops.toList ms D0 Dn pre post) (hi : i < ops.toList.length) (hj : j < ops.toList.length) (hne : i ≠ j) (h : Nat.testBit (pre j).done i = false) : Path ops.toList (post j) (pre i) := by
  rcases C.cmp i j hi hj hne with p | p
  · have := p.done i (C.pdone hi)
    rw [h] at this; cases this
  · exact p

/-- What is among the past was a turn. -/
theorem Canon.turn (C : Canon P c ops.toList ms D0 Dn pre post) {x : Tr Ob × Nat × Nat} (hj : j < ops.toList.length) (h : x ∈ (pre j).past) :
    x.2.2 < ops.toList.length ∧ Nat.testBit (pre j).done x.2.2 = true ∧ (post x.2.2).bdone = (post x.2.2).done ∧ ∀ k, Nat.testBit (pre x.2.2).done k = true → Nat.testBit (maskOf ms x.2.2) k = true := by
  have hd := (C.wf j hj).past x h
  have hl := (C.wf j hj).ops _ hd
  refine ⟨hl, hd, ?_⟩
  have p := C.before hl hj hd
  have hs := C.sok hl
  rcases p.pastN x h with hp | hp
  · rcases hs.base with ⟨_, _, e⟩ | ⟨e, e2, _, e3⟩
    · rw [e] at hp
      have := (C.wf _ hl).past x hp
      rw [hs.notyet] at this; cases this
    · exact ⟨e2, e3⟩
  · rw [C.pdone hl] at hp; cases hp

theorem Canon.turnN (C : Canon P c ops.toList ms D0 Dn pre post) {x : Tr Ob × Nat × Nat} (h : x ∈ Dn.past) :
    x.2.2 < ops.toList.length ∧ x ∈ (post x.2.2).past ∧ ∀ k, Nat.testBit (pre x.2.2).done k = true → Nat.testBit (maskOf ms x.2.2) k = true := by
  have hl := C.wfN.ops _ (C.wfN.past x h)
  refine ⟨hl, ?_⟩
  have hs := C.sok hl
  rcases (C.toN _ hl).pastN x h with hp | hp
  · refine ⟨hp, ?_⟩
    rcases hs.base with ⟨_, _, e⟩ | ⟨e, e2, _, e3⟩
    · rw [e] at hp
      have := (C.wf _ hl).past x hp
      rw [hs.notyet] at this; cases this
    · exact e3
  · rw [C.pdone hl] at hp; cases hp

/-- Of two different operations the numbers are different. -/
theorem Canon.apart (C : Canon P c ops.toList ms D0 Dn pre post) (hi : i < ops.toList.length) (hj : j < ops.toList.length) (hne : i ≠ j) {F : Nat} (h1 : (pre i).next ≤ F) (h2 : F < (post i).next) (h3 : (pre j).next ≤ F) (h4 : F < (post j).next) : False := by
  rcases C.cmp i j hi hj hne with p | p
  · have := p.next; omega
  · have := p.next; omega

variable (P c ops ms D0 Dn pre post)
variable (φ0 : Phi) (S0 : St) (w0 : World) (a0 : Act)

noncomputable def mem (E : Nat → Bool) (base : Tr Ob) (bdone : Nat) : St := ⟨addP (fun j => E j && !Nat.testBit bdone j) Dn.all base, Dn.next⟩

/-- Behind the operations of E, in whatever order. -/
structure Inv (E : Nat → Bool) (base : Tr Ob) (bdone : Nat) (φ : Phi) (a : Act) (w : World) : Prop where
  closed : ∀ j, E j = true → ∀ k, Nat.testBit (maskOf ms j) k = true → E k = true
  bsub : ∀ k, Nat.testBit bdone k = true → E k = true
  view : ∀ j, j < ops.toList.length → E j = false → ((pre j).base = base ∧ (pre j).bdone = bdone) ∨ ∃ l, E l = false ∧ (base, bdone, l) ∈ (pre j).past
  viewN : (Dn.base = base ∧ Dn.bdone = bdone) ∨ ∃ l, E l = false ∧ (base, bdone, l) ∈ Dn.past
  tmpE : ∀ j o d, ops.toList[j]? = some o → E j = true → o.dst = some d → RelV φ (Dn.T.tmp d) (a.tmps.getD d undef)
  tmp0 : ∀ d, (∀ j o, ops.toList[j]? = some o → E j = true → o.dst ≠ some d) → RelV φ (D0.T.tmp d) (a.tmps.getD d undef)
  core : Core φ0 φ S0 (mem Dn E base bdone) w0 w
  ids : ∀ j, j < ops.toList.length → E j = false → ∀ F, (pre j).next ≤ F → F < (post j).next → φ F = none
  rng : ∀ F l, φ0 F = none → φ F = some l → D0.next ≤ F ∧ F < Dn.next
  bn : ∃ bn, (∀ F ob, base.get F = some ob → F < bn) ∧ ∀ j, j < ops.toList.length → Nat.testBit bdone j = false → bn ≤ (pre j).next
  defers : a.defers = a0.defers
  size : a.tmps.size = a0.tmps.size

variable {P c ops ms D0 Dn pre post φ0 S0 w0 a0}

theorem put_get {a : Act} {dst : Option Tmp} {v : Value} {t : Nat} (h : dst ≠ some t) : (a.put dst v).tmps.getD t undef = a.tmps.getD t undef := by
  cases dst with
  | none => rfl
  | some d =>
    have : d ≠ t := fun e => h (by rw [e])
    simp [Act.put, Array.getElem?_setIfInBounds_ne this]
theorem put_get_self {a : Act} {d : Nat} {v : Value} (h : d < a.tmps.size) : (a.put (some d) v).tmps.getD d undef = v := by
  simp [Act.put, h]

/-- One further. -/
theorem Inv.next {E : Nat → Bool} {base base' : Tr Ob} {bdone bdone' : Nat} {φ φ' : Phi} {a : Act} {w w' : World} {o : Oper} {v v' : Value}
    (C : Canon P c ops.toList ms D0 Dn pre post) (hreg : regionOk ops.toList ms = true) (hsz : ∀ q ∈ ops.toList, ∀ d, q.dst = some d → d < a0.tmps.size)
    (I : Inv ops ms D0 Dn pre post φ0 S0 w0 a0 E base bdone φ a w) (hi : i < ops.toList.length) (hE : E i = false) (hm : ∀ k, Nat.testBit (maskOf ms i) k = true → E k = true) (ho : ops.toList[i]? = some o)
    (hT : (post i).T = putT (pre i).T o.dst v) (hv : RelV φ' v v')
    (hcore : Core φ φ' (mem Dn E base bdone) (mem Dn (fun j => E j || decide (i = j)) base' bdone') w w')
    (hr : ∀ F l, φ F = none → φ' F = some l → (pre i).next ≤ F ∧ F < (post i).next)
    (hb : (base' = base ∧ bdone' = bdone ∧ (post i).past = (pre i).past) ∨
      (base' = (post i).base ∧ bdone' = (post i).bdone ∧ (post i).bdone = (post i).done ∧ (∀ k, Nat.testBit (pre i).done k = true → Nat.testBit (maskOf ms i) k = true) ∧ ∀ F ob, base'.get F = some ob → F < (post i).next)) :
    Inv ops ms D0 Dn pre post φ0 S0 w0 a0 (fun j => E j || decide (i = j)) base' bdone' φ' (a.put o.dst v') w' where
  closed := fun j hj k hk => by
    simp only [Bool.or_eq_true, decide_eq_true_eq] at hj ⊢
    rcases hj with hj | rfl
    · exact .inl (I.closed j hj k hk)
    · exact .inl (hm k hk)
  bsub := fun k hk => by
    simp only [Bool.or_eq_true, decide_eq_true_eq]
    rcases hb with ⟨_, e, _⟩ | ⟨_, e, e2, h3, _⟩ <;> rw [e] at hk
    · exact .inl (I.bsub k hk)
    · rw [e2, (C.sok hi).done, Bool.or_eq_true, decide_eq_true_eq] at hk
      exact hk.imp (fun h => hm k (h3 k h)) id
  view := fun j hj hEj => by
    simp only [Bool.or_eq_false_iff, decide_eq_false_iff_not] at hEj ⊢
    obtain ⟨hEj, hne⟩ := hEj
    rcases hb with ⟨e1, e2, e3⟩ | ⟨e1, e2, e3, e4, _⟩
    · rw [e1, e2]
      rcases I.view j hj hEj with h | ⟨l, hl, hp⟩
      · exact .inl h
      · refine .inr ⟨l, ⟨hl, fun e => ?_⟩, hp⟩
        subst e
        have hd := (C.turn hj hp).2.1
        have p := C.before hi hj hd
        rcases p.pastN _ hp with h | h
        · rw [e3] at h
          have := (C.wf i hi).past _ h
          simp only at this
          rw [(C.sok hi).notyet] at this; cases this
        · simp only at h
          rw [C.pdone hi] at h; cases h
    · rw [e1, e2]
      have hnd : Nat.testBit (pre i).done j = false := by
        cases h : Nat.testBit (pre i).done j with
        | false => rfl
        | true => have := hm j (e4 j h); rw [hEj] at this; cases this
      have p := C.behind hj hi (Ne.symm hne) hnd
      rcases p.cur with h | ⟨l, hl, hp⟩
      · exact .inl h
      · obtain ⟨hll, hld, _, hlm⟩ := C.turn hj hp
        simp only at hll hld hlm
        have hnil : i ≠ l := fun e => by subst e; rw [C.pdone hi] at hl; cases hl
        refine .inr ⟨l, ⟨?_, hnil⟩, hp⟩
        cases hEl : E l with
        | false => rfl
        | true =>
          have hnd' : Nat.testBit (pre i).done l = false := notdone (C.sok hi).path.done hl
          have q := C.behind hll hi (Ne.symm hnil) hnd'
          have := I.closed l hEl i (hlm i (q.done i (C.pdone hi)))
          rw [hE] at this; cases this
  viewN := by
    simp only [Bool.or_eq_false_iff, decide_eq_false_iff_not]
    rcases hb with ⟨e1, e2, e3⟩ | ⟨e1, e2, e3, e4, _⟩
    · rw [e1, e2]
      rcases I.viewN with h | ⟨l, hl, hp⟩
      · exact .inl h
      · refine .inr ⟨l, ⟨hl, fun e => ?_⟩, hp⟩
        subst e
        have := (C.turnN hp).2.1
        simp only at this
        rw [e3] at this
        have := (C.wf i hi).past _ this
        simp only at this
        rw [(C.sok hi).notyet] at this; cases this
    · rw [e1, e2]
      rcases (C.toN i hi).cur with h | ⟨l, hl, hp⟩
      · exact .inl h
      · obtain ⟨hll, _, hlm⟩ := C.turnN hp
        simp only at hll hlm
        have hnil : i ≠ l := fun e => by subst e; rw [C.pdone hi] at hl; cases hl
        refine .inr ⟨l, ⟨?_, hnil⟩, hp⟩
        cases hEl : E l with
        | false => rfl
        | true =>
          have hnd' : Nat.testBit (pre i).done l = false := notdone (C.sok hi).path.done hl
          have q := C.behind hll hi (Ne.symm hnil) hnd'
          have := I.closed l hEl i (hlm i (q.done i (C.pdone hi)))
          rw [hE] at this; cases this
  tmpE := fun j q d hj hEj hd => by
    simp only [Bool.or_eq_true, decide_eq_true_eq] at hEj
    by_cases hij : i = j
    · subst hij
      rw [ho] at hj; cases hj
      have h1 : Dn.T.tmp d = (post i).T.tmp d := (C.toN i hi).tmp d fun k o' hk hd' _ => by
        by_cases e : i = k
        · subst e; exact C.pdone hi
        · exact absurd hd (region_spec hreg ho hk e hd').1
      have hlt : d < a.tmps.size := by rw [I.size]; exact hsz o (List.mem_of_getElem? ho) d hd
      rw [h1, hT, hd]
      simp only [putT]
      rw [tmp_set, if_pos rfl, put_get_self hlt]
      exact hv
    · have hEj := hEj.resolve_right hij
      have hne : o.dst ≠ some d := (region_spec hreg ho hj hij hd).1
      rw [put_get hne]
      exact (I.tmpE j q d hj hEj hd).mono hcore.ext
  tmp0 := fun d hd => by
    have hne : o.dst ≠ some d := hd i o ho (by simp)
    rw [put_get hne]
    exact (I.tmp0 d fun j q hj hEj => hd j q hj (by simp [hEj])).mono hcore.ext
  core := I.core.trans hcore
  ids := fun j hj hEj F h1 h2 => by
    simp only [Bool.or_eq_false_iff, decide_eq_false_iff_not] at hEj
    have h0 := I.ids j hj hEj.1 F h1 h2
    cases h : φ' F with
    | none => rfl
    | some l =>
      have := hr F l h0 h
      exact (C.apart hi hj hEj.2 this.1 this.2 h1 h2).elim
  rng := fun F l h0 hl => by
    cases h : φ F with
    | some m =>
      exact I.rng F m h0 h
    | none =>
      have := hr F l h hl
      have := (C.from0 i hi).next
      have := (C.toN i hi).next
      omega
  bn := by
    rcases hb with ⟨e1, e2, _⟩ | ⟨e1, e2, e3, e4, e5⟩
    · rw [e1, e2]; exact I.bn
    · refine ⟨(post i).next, e5, fun j hj hnb => ?_⟩
      rw [e2, e3, (C.sok hi).done, Bool.or_eq_false_iff, decide_eq_false_iff_not] at hnb
      exact (C.behind hj hi (Ne.symm hnb.2) hnb.1).next
  defers := by rw [put_defers, I.defers]
  size := by rw [put_size, I.size]

/-- What an operation reads. -/
theorem Inv.reads {E : Nat → Bool} {base : Tr Ob} {bdone : Nat} {φ : Phi} {a : Act} {w : World} {o : Oper}
    (C : Canon P c ops.toList ms D0 Dn pre post) (hreg : regionOk ops.toList ms = true)
    (I : Inv ops ms D0 Dn pre post φ0 S0 w0 a0 E base bdone φ a w) (hi : i < ops.toList.length) (hE : E i = false) (hm : ∀ k, Nat.testBit (maskOf ms i) k = true → E k = true) (ho : ops.toList[i]? = some o)
    {t : Nat} (ht : t ∈ tmpsOf ops.toList o) : RelV φ ((pre i).T.tmp t) (a.tmps.getD t undef) := by
  obtain ⟨o', ho', hmask, _, _⟩ := drawStep_ok (C.step i hi)
  by_cases hA : ∃ j q, ops.toList[j]? = some q ∧ q.dst = some t ∧ Nat.testBit (maskOf ms i) j = true
  · obtain ⟨j, q, hj, hd, hmj⟩ := hA
    have p := (C.sok hi).path.trans (C.toN i hi)
    rw [← p.tmp t fun k q' hk hd' _ => ?_]
    · exact I.tmpE j q t hj (hm j hmj) hd
    · by_cases e : k = j
      · subst e; exact hmask k hmj
      · exact absurd hd' (region_spec hreg hk hj e hd).1
  · have hno : ∀ k q, ops.toList[k]? = some q → q.dst = some t → E k = false ∧ Nat.testBit (pre i).done k = false := by
      intro k q hk hd
      by_cases e : i = k
      · subst e; exact ⟨hE, (C.sok hi).notyet⟩
      · have hkl : k < ops.toList.length := (List.getElem?_eq_some_iff.1 hk).1
        rcases (region_spec hreg ho hk e hd).2 ht with h | h
        · exact absurd ⟨k, q, hk, hd, h⟩ hA
        · constructor
          · cases hEk : E k with
            | false => rfl
            | true => have := I.closed k hEk i h; rw [hE] at this; cases this
          · cases hdk : Nat.testBit (pre i).done k with
            | false => rfl
            | true =>
              obtain ⟨_, _, hmk, _, _⟩ := drawStep_ok (C.step k hkl)
              have p := C.before hkl hi hdk
              have := p.done i ((C.sok hkl).path.done i (hmk i h))
              rw [(C.sok hi).notyet] at this; cases this
    rw [(C.from0 i hi).tmp t fun k q hk hd hdk => by rw [(hno k q hk hd).2] at hdk; cases hdk]
    exact I.tmp0 t fun j q hj hEj hd => by rw [(hno j q hj hd).1] at hEj; cases hEj
end
end Go.Ev
