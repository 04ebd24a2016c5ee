/- The evaluator is sound: what it tells of a call is what the call does. No condition. -/
import Derived.Test.YtnmmmiliogogfaaGreatDoorEvE
set_option linter.unusedVariables false
set_option linter.unusedSimpArgs false
namespace Go.Ev
section
variable {P : Program} {c : CallR} {ops : Array Oper} {ms : List Nat} {D0 Dn : Dr} {pre post : Nat → Dr} {i j : Nat}
variable {φ0 : Phi} {S0 : St} {w0 : World} {a0 : Act}
variable {E : Nat → Bool} {base : Tr Ob} {bdone : Nat} {φ φ' : Phi} {a : Act} {w w' : World} {o : Oper} {v v' : Value}

theorem mem_get {F : Nat} {ob : Ob} (h : (mem Dn E base bdone).get F = some ob) :
    (∃ j, (j, F, ob) ∈ Dn.all ∧ E j = true ∧ Nat.testBit bdone j = false) ∨ (base.get F = some ob ∧ ∀ j ob', (j, F, ob') ∈ Dn.all → E j = true → Nat.testBit bdone j = true) := by
  rcases addP_get h with ⟨j, hj, hp⟩ | ⟨hb, hn⟩
  · simp only [Bool.and_eq_true, Bool.not_eq_true'] at hp
    exact .inl ⟨j, hj, hp⟩
  · refine .inr ⟨hb, fun j ob' hj hE => ?_⟩
    have := hn j ob' hj
    rw [hE] at this
    simpa using this

theorem mem_made (C : Canon P c ops.toList ms D0 Dn pre post) {F : Nat} {ob : Ob} (h : (j, F, ob) ∈ Dn.all) (hE : E j = true) (hb : Nat.testBit bdone j = false) : (mem Dn E base bdone).get F = some ob :=
  addP_made C.wfN.uniq h (by simp [hE, hb])

theorem mem_base {F : Nat} {ob : Ob} (h : base.get F = some ob) (hn : ∀ j ob', (j, F, ob') ∈ Dn.all → E j = true → Nat.testBit bdone j = true) : (mem Dn E base bdone).get F = some ob := by
  refine Eq.trans (addP_base fun j ob' hj => ?_) h
  cases hE : E j with
  | false => rfl
  | true => simp [hn j ob' hj hE]

/-- The part of memory that surely stands when the operation is carried out. -/
noncomputable def sub (pre : Nat → Dr) (ms : List Nat) (i : Nat) (base : Tr Ob) (bdone : Nat) : St := ⟨addSel (maskOf ms i) bdone (pre i).all base, (pre i).next⟩

theorem sub_get {F : Nat} {ob : Ob} (h : (sub pre ms i base bdone).get F = some ob) :
    (∃ j, (j, F, ob) ∈ (pre i).all ∧ Nat.testBit (maskOf ms i) j = true ∧ Nat.testBit bdone j = false) ∨ (base.get F = some ob ∧ ∀ j ob', (j, F, ob') ∈ (pre i).all → Nat.testBit (maskOf ms i) j = true → Nat.testBit bdone j = true) := by
  unfold sub at h
  rw [addSel_eq] at h
  rcases addP_get h with ⟨j, hj, hp⟩ | ⟨hb, hn⟩
  · simp only [Bool.and_eq_true, Bool.not_eq_true'] at hp
    exact .inl ⟨j, hj, hp⟩
  · refine .inr ⟨hb, fun j ob' hj hE => ?_⟩
    have := hn j ob' hj
    rw [hE] at this
    simpa using this

theorem sub_base {F : Nat} {ob : Ob} (h : base.get F = some ob) (hn : ∀ j ob', (j, F, ob') ∈ (pre i).all → Nat.testBit (maskOf ms i) j = true → Nat.testBit bdone j = true) : (sub pre ms i base bdone).get F = some ob := by
  unfold sub
  rw [addSel_eq]
  refine Eq.trans (addP_base fun j ob' hj => ?_) h
  cases hE : Nat.testBit (maskOf ms i) j with
  | false => rfl
  | true => simp [hn j ob' hj hE]

section
variable (C : Canon P c ops.toList ms D0 Dn pre post) (I : Inv ops ms D0 Dn pre post φ0 S0 w0 a0 E base bdone φ a w) (hi : i < ops.toList.length) (hE : E i = false) (hm : ∀ k, Nat.testBit (maskOf ms i) k = true → E k = true)
include C I hi hE hm

omit I hE hm in
theorem pre_all {x : Made} (h : x ∈ (pre i).all) : x ∈ Dn.all := (C.toN i hi).all x ((C.sok hi).path.all x h)

omit C hm in
theorem base_lt {F : Nat} {ob : Ob} (h : base.get F = some ob) : F < (pre i).next := by
  obtain ⟨bn, h1, h2⟩ := I.bn
  have hb : Nat.testBit bdone i = false := by
    cases hb : Nat.testBit bdone i with
    | false => rfl
    | true => have := I.bsub i hb; rw [hE] at this; cases this
  exact Nat.lt_of_lt_of_le (h1 F ob h) (h2 i hi hb)

omit hi hE hm in
theorem base_made {F j : Nat} {ob ob' : Ob} (h : base.get F = some ob) (hj : (j, F, ob') ∈ Dn.all) : Nat.testBit bdone j = true := by
  obtain ⟨bn, h1, h2⟩ := I.bn
  obtain ⟨hjl, hF, _⟩ := C.made hj
  cases hb : Nat.testBit bdone j with
  | true => rfl
  | false => have := h1 F ob h; have := h2 j hjl hb; omega

omit hE in
theorem sub_sub : ∀ F ob, (sub pre ms i base bdone).get F = some ob → (mem Dn E base bdone).get F = some ob := by
  intro F ob h
  rcases sub_get h with ⟨j, hj, hmj, hb⟩ | ⟨hb, _⟩
  · exact mem_made C (pre_all C hi hj) (hm j hmj) hb
  · exact mem_base hb fun j ob' hj _ => base_made C I hb hj

omit hm in
theorem sub_dom : ∀ F ob, (sub pre ms i base bdone).get F = some ob → F < (sub pre ms i base bdone).next := by
  intro F ob h
  rcases sub_get h with ⟨j, hj, hmj, hb⟩ | ⟨hb, _⟩
  · exact ((C.wf i hi).all j F ob hj).2.2
  · exact base_lt I hi hE hb

theorem sub_rel : Rel φ (sub pre ms i base bdone) w := I.core.rel.sub (sub_sub C I hi hm) (sub_dom C I hi hE)

omit hE hm in
theorem extra_own {F : Nat} {ob : Ob} (h : (mem Dn E base bdone).get F = some ob) (hs : (sub pre ms i base bdone).get F = none) : Ob.own ob := by
  rcases mem_get h with ⟨j, hj, _, _⟩ | ⟨hb, _⟩
  · exact (C.made hj).2.2.2.1
  · rw [sub_base hb fun j ob' hj _ => base_made C I hb (pre_all C hi hj)] at hs
    cases hs

omit I hi hE hm in
/-- Nothing was made. -/
theorem mem_same (hall : (post i).all = (pre i).all) : ∀ F ob, (mem Dn (fun j => E j || decide (i = j)) base bdone).get F = some ob → (mem Dn E base bdone).get F = some ob := by
  intro F ob h
  rcases mem_get h with ⟨j, hj, hEj, hb⟩ | ⟨hb, hn⟩
  · by_cases e : i = j
    · subst e
      have := (C.made hj).2.2.2.2
      rw [hall] at this
      have := congrArg List.length this
      simp at this
    · exact mem_made C hj (by simpa [e] using hEj) hb
  · exact mem_base hb fun j ob' hj hEj => hn j ob' hj (by simp [hEj])

omit hi hE hm in
theorem core_kept (hall : (post i).all = (pre i).all) (hg : Good φ φ (mem Dn E base bdone) (mem Dn E base bdone) w w') : Core φ φ (mem Dn E base bdone) (mem Dn (fun j => E j || decide (i = j)) base bdone) w w' :=
  Good.wide I.core.rel (fun _ _ h => h) hg (Nat.le_refl _) rfl (fun F ob h => .inl (mem_same C hall F ob h))

omit hi hE hm in
theorem core_same (hall : (post i).all = (pre i).all) : Core φ φ (mem Dn E base bdone) (mem Dn (fun j => E j || decide (i = j)) base bdone) w w :=
  Good.wide I.core.rel (fun _ _ h => h) (Good.refl I.core.rel) (Nat.le_refl _) rfl (fun F ob h => .inl (mem_same C hall F ob h))

theorem core_new {ob : Ob} (hall : (post i).all = (i, (pre i).next, ob) :: (pre i).all) (hnx : (post i).next = (pre i).next + 1) (hg : Good φ φ' (sub pre ms i base bdone) ((sub pre ms i base bdone).new ob) w w') :
    Core φ φ' (mem Dn E base bdone) (mem Dn (fun j => E j || decide (i = j)) base bdone) w w' := by
  refine Good.wide I.core.rel (sub_sub C I hi hm) hg ?_ rfl ?_
  · have := (C.toN i hi).next
    show (pre i).next + 1 ≤ Dn.next
    omega
  · intro F ob' h
    have key : (mem Dn E base bdone).get F = some ob' → ((sub pre ms i base bdone).new ob).get F = some ob' ∨ ((mem Dn E base bdone).get F = some ob' ∧ (sub pre ms i base bdone).get F = none ∧ Ob.own ob') := by
      intro hH
      cases hs : (sub pre ms i base bdone).get F with
      | none => exact .inr ⟨hH, rfl, extra_own C I hi hH hs⟩
      | some ob2 =>
        have := sub_sub C I hi hm F ob2 hs
        rw [hH] at this; cases this
        have hlt := sub_dom C I hi hE F _ hs
        left
        rw [St.get_new, if_neg (by omega)]
        exact hs
    rcases mem_get h with ⟨j, hj, hEj, hb⟩ | ⟨hb, hn⟩
    · by_cases e : i = j
      · subst e
        obtain ⟨_, hF, _, _, h2⟩ := C.made hj
        rw [hall] at h2
        simp only [List.cons.injEq, Prod.mk.injEq, true_and, and_true] at h2
        left
        rw [St.get_new, if_pos (show F = (sub pre ms i base bdone).next from hF), h2.2]
      · exact key (mem_made C hj (by simpa [e] using hEj) hb)
    · exact key (mem_base hb fun j ob' hj hEj => hn j ob' hj (by simp [hEj]))

theorem core_turn {S1 : St} (hb1 : (post i).base = S1.heap) (hnx : (post i).next = S1.next) (hbd : (post i).bdone = (post i).done) (hsub : ∀ k, Nat.testBit bdone k = true → Nat.testBit (pre i).done k = true) (hg : Good φ φ' (sub pre ms i base bdone) S1 w w') :
    Core φ φ' (mem Dn E base bdone) (mem Dn (fun j => E j || decide (i = j)) (post i).base (post i).bdone) w w' := by
  refine Good.wide I.core.rel (sub_sub C I hi hm) hg ?_ rfl ?_
  · have := (C.toN i hi).next
    show S1.next ≤ Dn.next
    omega
  · intro F ob' h
    rcases mem_get h with ⟨j, hj, hEj, hb⟩ | ⟨hb, hn⟩
    · rw [hbd, (C.sok hi).done, Bool.or_eq_false_iff, decide_eq_false_iff_not] at hb
      have hEj : E j = true := by simpa [hb.2] using hEj
      have hnb : Nat.testBit bdone j = false := by
        cases hb' : Nat.testBit bdone j with
        | false => rfl
        | true => have := hsub j hb'; rw [hb.1] at this; cases this
      have hH := mem_made (base := base) C hj hEj hnb
      obtain ⟨hjl, hF, _⟩ := C.made hj
      have p := C.behind hjl hi (Ne.symm hb.2) hb.1
      have hs : (sub pre ms i base bdone).get F = none := by
        cases hs : (sub pre ms i base bdone).get F with
        | none => rfl
        | some ob2 =>
          have h1 := sub_dom C I hi hE F _ hs
          have h1 : F < (pre i).next := h1
          have := p.next
          have := (C.sok hi).next
          omega
      exact .inr ⟨hH, hs, extra_own C I hi hH hs⟩
    · left
      rw [hb1] at hb
      exact hb
end

theorem stable_spec {m : Nat} {T : Ts} {next : Nat} {all : List Made} : ∀ {past : List (Tr Ob × Nat × Nat)}, stable P o m T next all v past = true → ∀ x ∈ past, Nat.testBit m x.2.2 = true ∨ isVal v (opR P o T ⟨addSel m x.2.1 all x.1, next⟩) = true
  | [], _, x, hx => by simp at hx
  | p :: ps, h, x, hx => by
    have h : ((Nat.testBit m p.2.2 || isVal v (opR P o T ⟨addSel m p.2.1 all p.1, next⟩)) && stable P o m T next all v ps) = true := h
    rw [Bool.and_eq_true, Bool.or_eq_true] at h
    rcases List.mem_cons.1 hx with e | hx
    · subst e; exact h.1
    · exact stable_spec h.2 x hx

theorem isVal_eq {r : Res Act1} (h : isVal v r = true) : r = .ok (.val v) := by
  unfold isVal at h
  split at h
  · rw [sameV_eq _ _ _ h]
  · cases h

theorem orel_of {T : Ts} {ops : List Oper} (h : ∀ t ∈ tmpsOf ops o, RelV φ (T.tmp t) (a.tmps.getD t undef)) : ORel φ T a.eval o.op.operands.toList := by
  intro x hx v hv
  cases x with
  | tmp t =>
    simp only [opnd] at hv
    cases hv
    have : t ∈ tmpsOf ops o := by
      unfold tmpsOf
      refine List.mem_append_left _ (List.mem_filterMap.2 ⟨_, hx, rfl⟩)
    exact h t this
  | const u =>
    simp only [opnd] at hv
    split at hv
    · rename_i hp; cases hv; exact plain_self hp
    · cases hv
  | global g => simp [opnd] at hv
  | func f => simp only [opnd] at hv; cases hv; exact .func _ _ _ _ _ .nil .nil

theorem rel_nil0 (w : World) : Rel (fun _ => none) ⟨.lf, 0⟩ w where
  obs := fun F ob h => by unfold St.get at h; rw [Tr.get_lf] at h; cases h
  excl := fun F G obF obG lF lG _ h => by unfold St.get at h; rw [Tr.get_lf] at h; cases h
  ids := fun F l h => by cases h
  dom := fun F ob h => by unfold St.get at h; rw [Tr.get_lf] at h; cases h

/-- What a call that began with no memory leaves as it was. -/
theorem kept_good {S S1 : St} {φ1 : Phi} (hR : Rel φ S w) (hg : Good (fun _ => none) φ1 ⟨.lf, 0⟩ S1 w w') : Good φ φ S S w w' := by
  have hheap : ∀ b, b < w.heap.size → w'.heap[b]? = w.heap[b]? := fun b hb => hg.frame b hb fun F ob l hF => by unfold St.get at hF; rw [Tr.get_lf] at hF; cases hF
  refine ⟨fun _ _ h => h, fun F l h h' => (by rw [h] at h'; cases h'), Nat.le_refl _, ⟨?_, hR.excl, ?_, hR.dom⟩, hg.os, hg.tape, hg.output, hg.size, fun b hb _ => hheap b hb, fun F l h h' => (by rw [h] at h'; cases h'), fun F ob h => .inl ⟨ob, h⟩⟩
  · intro F ob h
    obtain ⟨l, hl, hr⟩ := hR.obs F ob h
    exact ⟨l, hl, hr.same (hheap _ (hR.ids F l hl))⟩
  · intro F l h
    exact Nat.lt_of_lt_of_le (hR.ids F l h) hg.size

theorem plain_list0 {φ1 : Phi} : ∀ {l l' : List Value}, l.all plain = true → RelL φ l l' → RelL φ1 l l'
  | [], _, _, h => by cases h; exact .nil
  | x :: l, _, hp, h => by
    simp only [List.all_cons, Bool.and_eq_true] at hp
    cases h with
    | cons _ x' _ l' h1 h2 =>
      rw [plain_eq hp.1 h1]
      exact .cons _ _ _ _ (plain_self hp.1) (plain_list0 hp.2 h2)

theorem call_indep {o : Oper} {T : Ts} {S : St} {r : Res Act1} (hc : isCallV o.op = true) (h : opR P o T S = r) (S' : St) : opR P o T S' = r := by
  obtain ⟨dst, op, ty, pos, aft, gd⟩ := o
  unfold isCallV at hc
  split at hc
  · rename_i cl _
    simp only at *
    split at hc
    · rename_i x _ hx
      rename_i hop _
      subst hop
      unfold opR at h ⊢
      simp only [opR2] at h ⊢
      unfold oCall at h ⊢
      rw [hx] at h ⊢
      exact h
    · cases hc
  · cases hc

theorem pureCall_ok {f : FuncId} {args : List Value} (h : pureCall P c o f args = some v) : ∃ S1, c f args ⟨.lf, 0⟩ = .ok (v, S1) ∧ args.all plain = true ∧ plain v = true ∧ isCallV o.op = true := by
  unfold pureCall at h
  split at h
  · rename_i hb
    rw [Bool.and_eq_true] at hb
    unfold plainRes at h
    split at h
    · rename_i p hp
      split at h
      · rename_i hpl
        cases h
        exact ⟨p.2, hp, hb.2, hpl, (Bool.and_eq_true _ _ ▸ hb.1).1⟩
      · cases h
    · cases h
  · cases h

/-- One operation, at whatever time. -/
theorem step_sound (hc : CallOk P c) {K : Act → World → Prop} {Q : Exit → Act → World → Prop}
    (C : Canon P c ops.toList ms D0 Dn pre post) (hreg : regionOk ops.toList ms = true) (hsz : ∀ q ∈ ops.toList, ∀ d, q.dst = some d → d < a0.tmps.size)
    (I : Inv ops ms D0 Dn pre post φ0 S0 w0 a0 E base bdone φ a w) (hi : i < ops.toList.length) (hE : E i = false) (hm : ∀ k, Nat.testBit (maskOf ms i) k = true → E k = true)
    (hK : ∀ base' bdone' φ' a' w', Inv ops ms D0 Dn pre post φ0 S0 w0 a0 (fun j => E j || decide (i = j)) base' bdone' φ' a' w' → K a' w') : wpOp P ops Q i K a w := by
  obtain ⟨o, ho, hmask, hnot, hstep⟩ := drawStep_ok (C.step i hi)
  have hread := fun t ht => I.reads C hreg hi hE hm ho (t := t) ht
  have hwant : wantedR ops.toList (pre i).T o = Region.wanted o (yielded ops a.tmps) := by
    refine wanted_eq' fun g b p d hg hp hd => hread d ?_
    unfold tmpsOf
    refine List.mem_append_right _ ?_
    rw [hg]
    simp only
    rw [nth_eq, Array.getElem?_toList, hp]
    simp only [hd]
    simp
  have ho' : ops[i]? = some o := by rw [← Array.getElem?_toList]; exact ho
  unfold wpOp
  rw [ho']
  simp only
  rw [← hwant]
  rcases hstep with ⟨hw, hpost⟩ | ⟨hw, act, hact, hone⟩
  · rw [hw]
    simp only [Bool.false_eq_true, if_false]
    exact hK base bdone φ _ w (I.next C hreg hsz hi hE hm ho (v := undef) (v' := undef) (by rw [hpost]; rfl) (.tuple _ _ .nil) (core_same C I (by rw [hpost]; rfl)) (fun F l h h' => by rw [h] at h'; cases h') (.inl ⟨rfl, rfl, by rw [hpost]; rfl⟩))
  · rw [hw]
    simp only [if_true]
    left
    have hR := sub_rel C I hi hE hm
    have horel := orel_of (a := a) hread
    have hfree : ∀ n, n = (post i).next → Free φ (sub pre ms i base bdone).next n := fun n hn F h1 h2 => I.ids i hi hE F h1 (by omega)
    unfold Oper.wp
    unfold drawOne at hone
    cases act with
    | val v =>
      simp only at hone
      split at hone
      case h_2 => cases hone
      rename_i hst
      have hpost : (pre i).did i o.dst v = post i := by injection hone
      have hop : opR P o (pre i).T (sub pre ms i base bdone) = .ok (.val v) := by
        rcases I.view i hi hE with ⟨e1, e2⟩ | ⟨l, hl, hp⟩
        · unfold sub; rw [← e1, ← e2]; exact hact
        · rcases stable_spec hst _ hp with h | h
          · have := hm _ h; simp only at this; rw [hl] at this; cases this
          · exact isVal_eq h
      obtain ⟨v', hrun, hr⟩ := op_sound hR horel hop
      rw [hrun, Oper.upon_value]
      exact hK base bdone φ _ w (I.next C hreg hsz hi hE hm ho (v := v) (v' := v') (by rw [← hpost]; rfl) hr (core_same C I (by rw [← hpost]; rfl)) (fun F l h h' => by rw [h] at h'; cases h') (.inl ⟨rfl, rfl, by rw [← hpost]; rfl⟩))
    | new v ob =>
      simp only at hone
      have hpost : (pre i).made i o.dst v ob = post i := by injection hone
      have hop : opR P o (pre i).T (sub pre ms i base bdone) = .ok (.new v ob) := (new_indep hact).2 _
      have hnx : (post i).next = (pre i).next + 1 := by rw [← hpost]; rfl
      obtain ⟨φ', w', v', hrun, hg, hr⟩ := new_act hR (op_sound hR horel hop) (hfree _ rfl _ (Nat.le_refl _) (by show (pre i).next < _; omega))
      rw [hrun, Oper.upon_value]
      refine hK base bdone φ' _ w' (I.next C hreg hsz hi hE hm ho (v := v) (v' := v') (by rw [← hpost]; rfl) hr (core_new C I hi hE hm (by rw [← hpost]; rfl) hnx hg) (fun F l h h' => ?_) (.inl ⟨rfl, rfl, by rw [← hpost]; rfl⟩))
      have := hg.rng F l h h'
      rw [St.next_new] at this
      exact ⟨this.1, by rw [hnx]; exact this.2⟩
    | upd v S1 =>
      simp only at hone
      split at hone
      case h_2 => cases hone
      rename_i hb
      rw [Bool.and_eq_true] at hb
      have hpost : (pre i).turned i o.dst v S1 = post i := by injection hone
      have hdm := land_spec' hb.1
      have hcur : (pre i).base = base ∧ (pre i).bdone = bdone := by
        rcases I.view i hi hE with h | ⟨l, hl, hp⟩
        · exact h
        · have := hm _ (hdm _ ((C.wf i hi).past _ hp)); simp only at this; rw [hl] at this; cases this
      have hop : opR P o (pre i).T (sub pre ms i base bdone) = .ok (.upd v S1) := by unfold sub; rw [← hcur.1, ← hcur.2]; exact hact
      have hnx : (post i).next = S1.next := by rw [← hpost]; rfl
      obtain ⟨φ', w', v', nx, hrun, hnext, hg, hr⟩ := op_sound hR horel hop (hfree _ hnx.symm)
      have fin : Inv ops ms D0 Dn pre post φ0 S0 w0 a0 (fun j => E j || decide (i = j)) (post i).base (post i).bdone φ' (a.put o.dst v') w' := by
        refine I.next C hreg hsz hi hE hm ho (v := v) (v' := v') (by rw [← hpost]; rfl) hr (core_turn C I hi hE hm (by rw [← hpost]; rfl) hnx (by rw [← hpost]; rfl) (by rw [← hcur.2]; exact (C.wf i hi).bsub) hg) (fun F l h h' => ?_) (.inr ⟨rfl, rfl, by rw [← hpost]; rfl, hdm, ?_⟩)
        · have := hg.rng F l h h'
          exact ⟨this.1, by rw [hnx]; exact this.2⟩
        · intro F ob hF
          rw [hnx]
          exact hg.rel.dom F ob (by rw [← hpost] at hF; exact hF)
      rw [hrun]
      rcases hnext with rfl | ⟨rfl, rfl⟩
      · rw [Oper.upon_value]; exact hK _ _ _ _ _ fin
      · rw [Oper.upon_skip]; exact hK _ _ _ _ _ fin
    | call f args =>
      simp only at hone
      unfold drawCall at hone
      split at hone
      · rename_i v hv
        have hpost : (pre i).did i o.dst v = post i := by injection hone
        obtain ⟨S1, hcall, hpl, hvp, hcv⟩ := pureCall_ok hv
        obtain ⟨args1, hop, hargs⟩ : ∃ args1, (execOp a.eval o).run P w = .ok (.enter f args1) w ∧ RelL φ args args1.toList := by
          exact op_sound hR horel (call_indep hcv hact _)
        rw [hop, Oper.upon_enter]
        refine (hc f args _ v S1 hcall (fun _ => none) w args1 (rel_nil0 w) (fun _ _ _ => rfl) (plain_list0 hpl hargs)).mono ?_
        rintro e w' ⟨v', φ', rfl, hg, hr⟩
        have hrv : RelV φ v v' := by rw [plain_eq hvp hr]; exact plain_self hvp
        exact hK base bdone φ _ w' (I.next C hreg hsz hi hE hm ho (v := v) (v' := v') (by rw [← hpost]; rfl) hrv (core_kept C I (by rw [← hpost]; rfl) (kept_good I.core.rel hg)) (fun F l h h' => by rw [h] at h'; cases h') (.inl ⟨rfl, rfl, by rw [← hpost]; rfl⟩))
      split at hone
      case h_2 => cases hone
      rename_i hb
      obtain ⟨p, hp, hone⟩ := Res.bind_ok hone
      split at hone
      case h_2 => cases hone
      have hpost : (pre i).turned i o.dst p.1 p.2 = post i := by injection hone
      have hdm := land_spec' hb
      have hcur : (pre i).base = base ∧ (pre i).bdone = bdone := by
        rcases I.view i hi hE with h | ⟨l, hl, hp⟩
        · exact h
        · have := hm _ (hdm _ ((C.wf i hi).past _ hp)); simp only at this; rw [hl] at this; cases this
      have hop : opR P o (pre i).T (sub pre ms i base bdone) = .ok (.call f args) := by unfold sub; rw [← hcur.1, ← hcur.2]; exact hact
      have hcall : c f args (sub pre ms i base bdone) = .ok (p.1, p.2) := by unfold sub; rw [← hcur.1, ← hcur.2]; exact hp
      have hnx : (post i).next = p.2.next := by rw [← hpost]; rfl
      obtain ⟨args', hrun, hr⟩ := op_sound hR horel hop
      rw [hrun, Oper.upon_enter]
      refine (hc f args _ p.1 p.2 hcall φ w args' hR (hfree _ hnx.symm) hr).mono ?_
      rintro e w' ⟨v', φ', rfl, hg, hv⟩
      refine hK (post i).base (post i).bdone φ' _ w' (I.next C hreg hsz hi hE hm ho (v := p.1) (v' := v') (by rw [← hpost]; rfl) hv (core_turn C I hi hE hm (by rw [← hpost]; rfl) hnx (by rw [← hpost]; rfl) (by rw [← hcur.2]; exact (C.wf i hi).bsub) hg) (fun F l h h' => ?_) (.inr ⟨rfl, rfl, by rw [← hpost]; rfl, hdm, ?_⟩))
      · have := hg.rng F l h h'
        exact ⟨this.1, by rw [hnx]; exact this.2⟩
      · intro F ob hF
        rw [hnx]
        exact hg.rel.dom F ob (by rw [← hpost] at hF; exact hF)
end
end Go.Ev
namespace Go.Ev
section
variable {P : Program} {c : CallR} {ops : Array Oper} {ms : List Nat} {D0 Dn : Dr} {pre post : Nat → Dr}
variable {φ0 : Phi} {S0 : St} {w0 : World} {a0 : Act}

theorem inv_congr {E E' : Nat → Bool} {base : Tr Ob} {bdone : Nat} {φ : Phi} {a : Act} {w : World} (h : ∀ j, E' j = E j) (I : Inv ops ms D0 Dn pre post φ0 S0 w0 a0 E base bdone φ a w) : Inv ops ms D0 Dn pre post φ0 S0 w0 a0 E' base bdone φ a w := by
  have : E' = E := funext h
  rw [this]; exact I

/-- Operations in whatever order. -/
theorem any_sound (hc : CallOk P c) {Q : Exit → Act → World → Prop}
    (C : Canon P c ops.toList ms D0 Dn pre post) (hreg : regionOk ops.toList ms = true) (hms : MaskOk ops.toList ms) (haft : afterOk ops.toList ms = true) (hsz : ∀ q ∈ ops.toList, ∀ d, q.dst = some d → d < a0.tmps.size)
    (hQ : ∀ E base bdone φ a w, (∀ i, i < ops.toList.length → E i = true) → Inv ops ms D0 Dn pre post φ0 S0 w0 a0 E base bdone φ a w → Q .normal a w) :
    ∀ (fuel : Nat) (listed : Array Bool) (base : Tr Ob) (bdone : Nat) (φ : Phi) (a : Act) (w : World), listed.size = ops.size → listed.toList.count false = fuel →
      Inv ops ms D0 Dn pre post φ0 S0 w0 a0 (fun j => listed.getD j false) base bdone φ a w → wpAny P .any ops Q fuel listed a w := by
  intro fuel
  have hdone : ∀ (listed : Array Bool) (base : Tr Ob) (bdone : Nat) (φ : Phi) (a : Act) (w : World), listed.size = ops.size →
      Inv ops ms D0 Dn pre post φ0 S0 w0 a0 (fun j => listed.getD j false) base bdone φ a w → Region.ready .any ops listed = [] → Q .normal a w := by
    intro listed base bdone φ a w hsl I hr
    refine hQ (fun j => listed.getD j false) base bdone φ a w (fun i hi => ?_) I
    cases hE : listed.getD i false with
    | true => rfl
    | false =>
      obtain ⟨k, hk, hpk, hfirst⟩ := C.first (fun j => listed.getD j false = false) ⟨i, hi, hE⟩
      obtain ⟨o, ho, hmask, _, _⟩ := drawStep_ok (C.step k hk)
      have : k ∈ Region.ready .any ops listed := by
        rw [mem_ready]
        have hks : k < listed.size := by rw [hsl]; simpa using hk
        refine ⟨?_, o, by rw [← Array.getElem?_toList]; exact ho, fun e he hb => ?_⟩
        · simp only [Array.getD, hks, dif_pos] at hpk ⊢
          exact hpk
        · have hme := after_spec haft ho (e := e) (by simpa using he) hb
          have := hfirst e.on (hmask _ hme)
          cases h : listed.getD e.on false with
          | true => rfl
          | false => exact absurd h this
      rw [hr] at this; cases this
  induction fuel with
  | zero =>
    intro listed base bdone φ a w hsl hcnt I
    have hr : Region.ready .any ops listed = [] := by
      rw [List.eq_nil_iff_forall_not_mem]
      intro i hi
      rw [mem_ready] at hi
      have h := hi.1
      have hil : i < listed.size := by
        rcases Nat.lt_or_ge i listed.size with h' | h'
        · exact h'
        · simp [Array.getElem?_eq_none h'] at h
      simp only [Array.getD, hil, dif_pos] at h
      have hm : false ∈ listed.toList := by
        have : listed[i] ∈ listed.toList := by simp
        have h' : listed[i] = false := h
        rw [h'] at this; exact this
      have := List.count_pos_iff.2 hm
      omega
    exact ⟨hr, hdone listed base bdone φ a w hsl I hr⟩
  | succ fuel ih =>
    intro listed base bdone φ a w hsl hcnt I
    refine ⟨hdone listed base bdone φ a w hsl I, fun i hi => ?_⟩
    rw [mem_ready] at hi
    obtain ⟨h0, o, ho, hall⟩ := hi
    have hil : i < listed.size := by
      rcases Nat.lt_or_ge i listed.size with h' | h'
      · exact h'
      · simp [Array.getElem?_eq_none h'] at h0
    have hE : listed.getD i false = false := by simp only [Array.getD, hil, dif_pos] at h0 ⊢; exact h0
    refine step_sound hc C hreg hsz I (by simpa [hsl] using hil) hE (fun k hk => ?_) ?_
    · obtain ⟨e, he, hb, hor⟩ := hms i o k (by rw [Array.getElem?_toList]; exact ho) hk
      have h1 := hall e (by simpa using he) hb
      rcases hor with rfl | h2
      · exact h1
      · exact I.closed e.on h1 k h2
    · intro base' bdone' φ' a' w' I'
      refine ih (listed.setIfInBounds i true) base' bdone' φ' a' w' (by simp [hsl]) ?_ (inv_congr (fun j => ?_) I')
      · rw [Array.toList_setIfInBounds, List.count_set (by simpa using hil)]
        have hg : listed.toList[i]'(by simpa using hil) = false := by
          simp only [Array.getD, hil, dif_pos] at hE
          simpa using hE
        rw [hg, hcnt]
        simp
      · by_cases e : i = j
        · subst e; simp [hil]
        · simp [Array.getElem?_setIfInBounds_ne e, e]

theorem addP_congr {p p' : Nat → Bool} : ∀ {l : List Made} {h : Tr Ob}, (∀ x ∈ l, p x.1 = p' x.1) → addP p l h = addP p' l h
  | [], _, _ => rfl
  | a :: l, h, hp => by
    unfold addP
    rw [hp a (by simp)]
    exact addP_congr fun x hx => hp x (by simp [hx])

theorem drawR_ok {S : St} {T : Ts} {r : Ts × St} (h : drawR P c ops.toList T S = .ok r) : regionOk ops.toList (masks ops.toList) = true ∧ afterOk ops.toList (masks ops.toList) = true ∧
    ∃ ord Dn, drawGo P c ops.toList (masks ops.toList) ord ⟨T, S.next, S.heap, 0, [], [], 0⟩ = .ok Dn ∧ (∀ i, i < ops.toList.length → Nat.testBit Dn.done i = true) ∧ r = (Dn.T, ⟨addSel Dn.done Dn.bdone Dn.all Dn.base, Dn.next⟩) := by
  unfold drawR drawAll at h
  split at h
  · rename_i hb
    rw [Bool.and_eq_true] at hb
    obtain ⟨Dn, h1, h2⟩ := Res.bind_ok h
    unfold drawEnd at h2
    split at h2
    · rename_i hall
      cases h2
      exact ⟨hb.1, hb.2, _, Dn, h1, fun i hi => allIdx_ok hall hi, rfl⟩
    · cases h2
  · cases h

theorem wf0 (T : Ts) (S : St) (ops : List Oper) : Wf ops ⟨T, S.next, S.heap, 0, [], [], 0⟩ where
  bsub := fun k h => by simp at h
  all := fun _ _ _ h => by simp at h
  uniq := List.Pairwise.nil
  past := fun _ h => by simp at h
  ops := fun k h => by simp at h

theorem draw_mono {S : St} {T : Ts} {r : Ts × St} (h : drawR P c ops.toList T S = .ok r) : S.next ≤ r.2.next := by
  obtain ⟨_, _, ord, Dn, hgo, _, rfl⟩ := drawR_ok h
  exact (go_path hgo (wf0 T S _)).1.next

/-- A region that draws its order. -/
theorem draw_sound (hc : CallOk P c) {Q : Exit → Act → World → Prop} {S S' : St} {T T' : Ts} {φ : Phi} {a : Act} {w : World} {id : Nat} (hmix : P.follows .mixedOrders = true)
    (h : drawR P c ops.toList T S = .ok (T', S')) (hsz : ∀ q ∈ ops.toList, ∀ d, q.dst = some d → d < a.tmps.size) (hT : TRel φ T a) (hR : Rel φ S w) (hfree : Free φ S.next S'.next)
    (hQ : ∀ φ' a' w', Good φ φ' S S' w w' → TRel φ' T' a' → a'.defers = a.defers → a'.tmps.size = a.tmps.size → Q .normal a' w') :
    (Code.region id ops true).wp P Q a w := by
  obtain ⟨hreg, haft, ord, Dn, hgo, hall, hr⟩ := drawR_ok h
  cases hr
  have w0 := wf0 T S ops.toList
  obtain ⟨p0, _, _⟩ := go_path hgo w0
  obtain ⟨pre, post, C⟩ := canon hgo rfl w0 hall
  refine wp_region_any hmix ?_
  refine any_sound (φ0 := φ) (S0 := S) (w0 := w) (a0 := a) hc C hreg (masks_ok _) haft hsz ?_ ops.size (Array.replicate ops.size false) S.heap 0 φ a _ (by simp) (by simp) ?_
  · intro E base bdone φ' a' w' hE I
    -- the same memory
    have hcur : Dn.base = base ∧ Dn.bdone = bdone := by
      rcases I.viewN with h | ⟨l, hl, hp⟩
      · exact h
      · have := hE l (C.turnN hp).1
        rw [hl] at this; cases this
    refine hQ φ' a' w' ?_ ?_ I.defers I.size
    · have hsame : (⟨addSel Dn.done Dn.bdone Dn.all Dn.base, Dn.next⟩ : St) = mem Dn E base bdone := by
        unfold mem
        rw [addSel_eq, hcur.1, hcur.2, addP_congr fun x hx => ?_]
        obtain ⟨j, F, ob⟩ := x
        have hj := (C.made hx).1
        simp only
        rw [hall j hj, hE j hj]
      rw [hsame]
      exact I.core.good I.rng p0.next
    · intro t
      by_cases hA : ∃ (j : Nat) (o : Oper), ops.toList[j]? = some o ∧ o.dst = some t
      · obtain ⟨j, o, hj, hd⟩ := hA
        exact I.tmpE j o t hj (hE j (List.getElem?_eq_some_iff.1 hj).1) hd
      · rw [p0.tmp t (fun k o hk hd _ => absurd ⟨k, o, hk, hd⟩ hA)]
        exact I.tmp0 t fun j o hj _ hd => hA ⟨j, o, hj, hd⟩
  · have hE0 : ∀ j, (Array.replicate ops.size false).getD j false = false := fun j => by
      by_cases hj : j < ops.size <;> simp [Array.getD, hj]
    refine inv_congr (E := fun _ => false) hE0 ⟨?_, ?_, ?_, ?_, ?_, ?_, ?_, ?_, ?_, ?_, rfl, rfl⟩
    · intro j hj; cases hj
    · intro k hk; simp at hk
    · intro j hj _
      rcases (C.from0 j hj).cur with h | ⟨l, _, hp⟩
      · exact .inl h
      · exact .inr ⟨l, rfl, hp⟩
    · rcases p0.cur with h | ⟨l, _, hp⟩
      · exact .inl h
      · exact .inr ⟨l, rfl, hp⟩
    · intro j o d _ hj; cases hj
    · intro d _; exact hT d
    · have hc0 : Core φ φ S S w { w with drawn := w.drawn + 1 } := ⟨fun _ _ h => h, hR.world rfl, rfl, rfl, rfl, Nat.le_refl _, fun _ _ _ => rfl, (fun F l h h' => by rw [h] at h'; cases h'), fun F ob h => .inl ⟨ob, h⟩⟩
      have hget : ∀ F ob, (mem Dn (fun _ => false) S.heap 0).get F = some ob → S.get F = some ob := by
        intro F ob h
        rcases mem_get h with ⟨j, _, hj, _⟩ | ⟨hb, _⟩
        · cases hj
        · exact hb
      refine ⟨fun _ _ h => h, hc0.rel.sub hget fun F ob h => Nat.lt_of_lt_of_le (hR.dom F ob (hget F ob h)) p0.next, rfl, rfl, rfl, Nat.le_refl _, fun _ _ _ => rfl, (fun F l h h' => by rw [h] at h'; cases h'), fun F ob h => .inl ⟨ob, hget F ob h⟩⟩
    · intro j hj _ F h1 h2
      have := (C.from0 j hj).next
      have := (C.toN j hj).next
      exact hfree F (by simp only at *; omega) (by simp only at *; omega)
    · intro F l h h'; rw [h] at h'; cases h'
    · exact ⟨S.next, fun F ob h => hR.dom F ob h, fun j hj _ => (C.from0 j hj).next⟩
end
end Go.Ev
namespace Go.Ev
section
variable {P : Program}

/-- A loop's body, and then the loop. -/
def LoopWp (P : Program) (d : Code) (Q : Exit → Act → World → Prop) (a : Act) (w : World) : Prop :=
  ∀ (b : Frame) (k : List Item) (cs : List Frame), ∃ e a' w', Q e a' w' ∧ Arrives P (lone (b.at a (.code d :: .inLoop d :: k)) cs w) b k cs e a' w'

theorem LoopWp.loop {d : Code} {Q : Exit → Act → World → Prop} {a : Act} {w : World} (h : LoopWp P d Q a w) : (Code.loop d).wp P Q a w := by
  intro b k cs
  obtain ⟨e, a', w', hq, harr⟩ := h b k cs
  exact ⟨e, a', w', hq, .of_steps (.one step_loop) harr⟩

theorem LoopWp.round {d : Code} {Q : Exit → Act → World → Prop} {a : Act} {w : World} (h : d.wp P (Exit.then (LoopWp P d Q) Q) a w) : LoopWp P d Q a w := by
  intro b k cs
  obtain ⟨e, a₁, w₁, hq, harr⟩ := h b (.inLoop d :: k) cs
  cases e with
  | normal =>
    obtain ⟨e₂, a₂, w₂, hq₂, harr₂⟩ := hq b k cs
    exact ⟨e₂, a₂, w₂, hq₂, .of_steps (Steps.trans harr (.one step_inLoop)) harr₂⟩
  | exit id => exact ⟨_, a₁, w₁, hq, .pass (x := .inLoop d) rfl (fun _ _ => .inl (by simp)) harr⟩
  | goto l => exact ⟨_, a₁, w₁, hq, .pass (x := .inLoop d) rfl (fun _ _ => .inl (by simp)) harr⟩
  | ret => exact ⟨_, a₁, w₁, hq, .pass (x := .inLoop d) rfl (fun _ _ => .inl (by simp)) harr⟩
  | panic ch => exact ⟨_, a₁, w₁, hq, .pass (x := .inLoop d) rfl (fun _ _ => .inl (by simp)) harr⟩
  | outgrown => exact ⟨_, a₁, w₁, hq, .pass (x := .inLoop d) rfl (fun _ _ => .inl (by simp)) harr⟩

def exOf : Ex → Exit
  | .normal => .normal
  | .exit id => .exit id
  | .ret => .ret

def Wps (P : Program) (c : Code) (Q : Exit → Act → World → Prop) (a : Act) (w : World) : Prop := c.wp P Q a w ∧ ∀ d, c = .loop d → LoopWp P d Q a w

/-- What is asked of what carries out code. -/
def CodeOk (P : Program) (ih : Code → Ts → St → Res Out) : Prop := ∀ c T S o, ih c T S = .ok o → S.next ≤ o.S.next ∧
  ∀ (n : Nat) (φ : Phi) (a : Act) (w : World) (Q : Exit → Act → World → Prop), bndC n c = true → n ≤ a.tmps.size → a.defers = [] → TRel φ T a → Rel φ S w → Free φ S.next o.S.next →
    (∀ φ' a' w', Good φ φ' S o.S w w' → TRel φ' o.T a' → a'.defers = [] → a'.tmps.size = a.tmps.size → Q (exOf o.ex) a' w') → Wps P c Q a w

theorem Free.after {φ φ' : Phi} {S S1 : St} {w w' : World} {n : Nat} (hf : Free φ S.next n) (hg : Good φ φ' S S1 w w') : Free φ' S1.next n := by
  intro F h1 h2
  cases hF : φ' F with
  | none => rfl
  | some x =>
    cases hF0 : φ F with
    | none => have := hg.rng F x hF0 hF; omega
    | some y => have := hf F (by have := hg.nxt; omega) h2; rw [hF0] at this; cases this

theorem Wps.of {c : Code} {Q : Exit → Act → World → Prop} {a : Act} {w : World} (h : c.wp P Q a w) (hc : ∀ d, c ≠ .loop d) : Wps P c Q a w := ⟨h, fun d e => absurd e (hc d)⟩

theorem noGoto_of {Q : Exit → Act → World → Prop} {e : Ex} {a : Act} {w : World} (h : Q (exOf e) a w) : Exit.noGoto Q (exOf e) a w := by cases e <;> exact h

/-- One level of code. -/
theorem code_sound (hmix : P.follows .mixedOrders = true) {call : CallR} {ih : Code → Ts → St → Res Out} (hcall : CallOk P call) (hih : CodeOk P ih) : CodeOk P (fun c T S => codeK c P ⟨call, ih⟩ T S) := by
  intro c T S o h
  cases c with
  | skip =>
    have h : cSkip P ⟨call, ih⟩ T S = .ok o := h
    unfold cSkip at h; cases h
    exact ⟨Nat.le_refl _, fun n φ a w Q _ _ hd hT hR _ hQ => Wps.of (wp_skip (hQ φ a w (Good.refl hR) hT hd rfl)) (by simp)⟩
  | label l =>
    have h : cSkip P ⟨call, ih⟩ T S = .ok o := h
    unfold cSkip at h; cases h
    exact ⟨Nat.le_refl _, fun n φ a w Q _ _ hd hT hR _ hQ => Wps.of (wp_label (hQ φ a w (Good.refl hR) hT hd rfl)) (by simp)⟩
  | exit id =>
    have h : cExit id P ⟨call, ih⟩ T S = .ok o := h
    unfold cExit at h; cases h
    exact ⟨Nat.le_refl _, fun n φ a w Q _ _ hd hT hR _ hQ => Wps.of (wp_exit (hQ φ a w (Good.refl hR) hT hd rfl)) (by simp)⟩
  | ret =>
    have h : cRet P ⟨call, ih⟩ T S = .ok o := h
    unfold cRet at h; cases h
    exact ⟨Nat.le_refl _, fun n φ a w Q _ _ hd hT hR _ hQ => Wps.of (wp_ret (hQ φ a w (Good.refl hR) hT hd rfl)) (by simp)⟩
  | region id ops d =>
    have h : cReg ops d P ⟨call, ih⟩ T S = .ok o := h
    have hbnd : ∀ n, bndC n (.region id ops d) = true → ∀ q ∈ ops.toList, ∀ t, q.dst = some t → t < n := by
      intro n hb q hq t ht
      simp only [bndC, List.all_eq_true] at hb
      have := hb q hq
      rw [ht] at this
      exact Nat_blt this
    cases d with
    | false =>
      unfold cReg at h
      obtain ⟨p, hp, h⟩ := Res.bind_ok h
      cases h
      obtain ⟨T', S'⟩ := p
      refine ⟨seq_mono hp, fun n φ a w Q hb hn hd hT hR hf hQ => Wps.of (wp_region ?_) (by simp)⟩
      have := seq_sound hcall (Q := Q) (n := n) ops.toList 0 T S φ a w T' S' rfl hp (hbnd n hb) hn hT hR hf (fun φ' a' w' hg hT' hd' hs => hQ φ' a' w' hg hT' (hd'.trans hd) hs)
      rw [List.range_eq_range']
      simpa using this
    | true =>
      unfold cReg at h
      obtain ⟨p, hp, h⟩ := Res.bind_ok h
      cases h
      obtain ⟨T', S'⟩ := p
      refine ⟨draw_mono hp, fun n φ a w Q hb hn hd hT hR hf hQ => Wps.of ?_ (by simp)⟩
      exact draw_sound hcall hmix hp (fun q hq t ht => Nat.lt_of_lt_of_le (hbnd n hb q hq t ht) hn) hT hR hf (fun φ' a' w' hg hT' hd' hs => hQ φ' a' w' hg hT' (hd'.trans hd) hs)
  | seq x y =>
    have h : cSeq x y P ⟨call, ih⟩ T S = .ok o := h
    unfold cSeq at h
    obtain ⟨o1, h1, h⟩ := Res.bind_ok h
    obtain ⟨m1, s1⟩ := hih _ _ _ _ h1
    obtain ⟨ex, T1, S1⟩ := o1
    cases ex with
    | normal =>
      have h : ih y T1 S1 = .ok o := h
      obtain ⟨m2, s2⟩ := hih _ _ _ _ h
      refine ⟨Nat.le_trans m1 m2, fun n φ a w Q hb hn hd hT hR hf hQ => Wps.of (wp_seq ?_) (by simp)⟩
      simp only [bndC, Bool.and_eq_true] at hb
      refine (s1 n φ a w _ hb.1 hn hd hT hR (hf.sub (Nat.le_refl _) m2) fun φ1 a1 w1 g1 t1 d1 z1 => ?_).1
      refine (s2 n φ1 a1 w1 Q hb.2 (by omega) d1 t1 g1.rel (hf.after g1) fun φ2 a2 w2 g2 t2 d2 z2 => ?_).1
      exact hQ φ2 a2 w2 (g1.trans g2) t2 d2 (z2.trans z1)
    | exit id =>
      have h : Res.ok ⟨.exit id, T1, S1⟩ = .ok o := h
      cases h
      refine ⟨m1, fun n φ a w Q hb hn hd hT hR hf hQ => Wps.of (wp_seq ?_) (by simp)⟩
      simp only [bndC, Bool.and_eq_true] at hb
      exact (s1 n φ a w (Exit.then (y.wp P Q) Q) hb.1 hn hd hT hR hf fun φ1 a1 w1 g1 t1 d1 z1 => hQ φ1 a1 w1 g1 t1 d1 z1).1
    | ret =>
      have h : Res.ok ⟨.ret, T1, S1⟩ = .ok o := h
      cases h
      refine ⟨m1, fun n φ a w Q hb hn hd hT hR hf hQ => Wps.of (wp_seq ?_) (by simp)⟩
      simp only [bndC, Bool.and_eq_true] at hb
      exact (s1 n φ a w (Exit.then (y.wp P Q) Q) hb.1 hn hd hT hR hf fun φ1 a1 w1 g1 t1 d1 z1 => hQ φ1 a1 w1 g1 t1 d1 z1).1
  | cond v x y =>
    have h : cCond v x y P ⟨call, ih⟩ T S = .ok o := h
    unfold cCond at h
    obtain ⟨b, hb, h⟩ := Res.bind_ok h
    have heval : ∀ (φ : Phi) (a : Act), TRel φ T a → RelV φ b (a.eval v) := fun φ a hT => hT.orel [v] v (by simp) b hb
    unfold cCond2 at h
    split at h
    · rename_i t
      split at h
      · obtain ⟨m, s⟩ := hih _ _ _ _ h
        refine ⟨m, fun n φ a w Q hb hn hd hT hR hf hQ => Wps.of ?_ (by simp)⟩
        simp only [bndC, Bool.and_eq_true] at hb
        refine wp_cond_true ?_ (s n φ a w Q hb.1 hn hd hT hR hf hQ).1
        have := heval φ a hT
        generalize a.eval v = u at this
        cases this; rfl
      · obtain ⟨m, s⟩ := hih _ _ _ _ h
        refine ⟨m, fun n φ a w Q hb hn hd hT hR hf hQ => Wps.of ?_ (by simp)⟩
        simp only [bndC, Bool.and_eq_true] at hb
        refine wp_cond_false ?_ (s n φ a w Q hb.2 hn hd hT hR hf hQ).1
        have := heval φ a hT
        generalize a.eval v = u at this
        cases this; rfl
    · cases h
  | block id x =>
    have h : cBlock id x P ⟨call, ih⟩ T S = .ok o := h
    unfold cBlock at h
    obtain ⟨o1, h1, h⟩ := Res.bind_ok h
    obtain ⟨m, s⟩ := hih _ _ _ _ h1
    obtain ⟨ex, T1, S1⟩ := o1
    cases ex with
    | normal =>
      have h : Res.ok ⟨.normal, T1, S1⟩ = .ok o := h
      cases h
      refine ⟨m, fun n φ a w Q hb hn hd hT hR hf hQ => Wps.of (wp_block ?_) (by simp)⟩
      simp only [bndC] at hb
      exact (s n φ a w (Exit.inBlock id Q) hb hn hd hT hR hf fun φ1 a1 w1 g1 t1 d1 z1 => hQ φ1 a1 w1 g1 t1 d1 z1).1
    | ret =>
      have h : Res.ok ⟨.ret, T1, S1⟩ = .ok o := h
      cases h
      refine ⟨m, fun n φ a w Q hb hn hd hT hR hf hQ => Wps.of (wp_block ?_) (by simp)⟩
      simp only [bndC] at hb
      exact (s n φ a w (Exit.inBlock id Q) hb hn hd hT hR hf fun φ1 a1 w1 g1 t1 d1 z1 => hQ φ1 a1 w1 g1 t1 d1 z1).1
    | exit j =>
      have h : (match Nat.beq j id with | true => Res.ok (⟨.normal, T1, S1⟩ : Out) | false => .ok ⟨.exit j, T1, S1⟩) = .ok o := h
      cases hj : Nat.beq j id with
      | true =>
        rw [hj] at h
        cases h
        refine ⟨m, fun n φ a w Q hb hn hd hT hR hf hQ => Wps.of (wp_block ?_) (by simp)⟩
        simp only [bndC] at hb
        refine (s n φ a w _ hb hn hd hT hR hf fun φ1 a1 w1 g1 t1 d1 z1 => ?_).1
        show (if j = id then Q .normal a1 w1 else Q (.exit j) a1 w1)
        rw [if_pos (Nat_beq hj)]
        exact hQ φ1 a1 w1 g1 t1 d1 z1
      | false =>
        rw [hj] at h
        cases h
        refine ⟨m, fun n φ a w Q hb hn hd hT hR hf hQ => Wps.of (wp_block ?_) (by simp)⟩
        simp only [bndC] at hb
        refine (s n φ a w _ hb hn hd hT hR hf fun φ1 a1 w1 g1 t1 d1 z1 => ?_).1
        show (if j = id then Q .normal a1 w1 else Q (.exit j) a1 w1)
        rw [if_neg (Nat_beq_false hj)]
        exact hQ φ1 a1 w1 g1 t1 d1 z1
  | loop x =>
    have h : cLoop x P ⟨call, ih⟩ T S = .ok o := h
    unfold cLoop at h
    obtain ⟨o1, h1, h⟩ := Res.bind_ok h
    obtain ⟨m1, s1⟩ := hih _ _ _ _ h1
    have done : ∀ {n : Nat} {φ : Phi} {a : Act} {w : World} {Q : Exit → Act → World → Prop}, LoopWp P x Q a w → Wps P (.loop x) Q a w := fun hl => ⟨hl.loop, fun d e => by cases e; exact hl⟩
    obtain ⟨ex, T1, S1⟩ := o1
    cases ex with
    | normal =>
      have h : ih (.loop x) T1 S1 = .ok o := h
      obtain ⟨m2, s2⟩ := hih _ _ _ _ h
      refine ⟨Nat.le_trans m1 m2, fun n φ a w Q hb hn hd hT hR hf hQ => done (n := n) (φ := φ) (LoopWp.round ?_)⟩
      have hb' : bndC n x = true := hb
      refine (s1 n φ a w _ hb' hn hd hT hR (hf.sub (Nat.le_refl _) m2) fun φ1 a1 w1 g1 t1 d1 z1 => ?_).1
      refine (s2 n φ1 a1 w1 Q hb (by omega) d1 t1 g1.rel (hf.after g1) fun φ2 a2 w2 g2 t2 d2 z2 => ?_).2 x rfl
      exact hQ φ2 a2 w2 (g1.trans g2) t2 d2 (z2.trans z1)
    | exit id =>
      have h : Res.ok ⟨.exit id, T1, S1⟩ = .ok o := h
      cases h
      refine ⟨m1, fun n φ a w Q hb hn hd hT hR hf hQ => done (n := n) (φ := φ) (LoopWp.round ?_)⟩
      have hb' : bndC n x = true := hb
      exact (s1 n φ a w (Exit.then (LoopWp P x Q) Q) hb' hn hd hT hR hf fun φ1 a1 w1 g1 t1 d1 z1 => hQ φ1 a1 w1 g1 t1 d1 z1).1
    | ret =>
      have h : Res.ok ⟨.ret, T1, S1⟩ = .ok o := h
      cases h
      refine ⟨m1, fun n φ a w Q hb hn hd hT hR hf hQ => done (n := n) (φ := φ) (LoopWp.round ?_)⟩
      have hb' : bndC n x = true := hb
      exact (s1 n φ a w (Exit.then (LoopWp P x Q) Q) hb' hn hd hT hR hf fun φ1 a1 w1 g1 t1 d1 z1 => hQ φ1 a1 w1 g1 t1 d1 z1).1
  | scope x =>
    have h : ih x T S = .ok o := h
    obtain ⟨m, s⟩ := hih _ _ _ _ h
    refine ⟨m, fun n φ a w Q hb hn hd hT hR hf hQ => Wps.of (wp_scope_straight ?_) (by simp)⟩
    have hb' : bndC n x = true := hb
    exact (s n φ a w _ hb' hn hd hT hR hf fun φ1 a1 w1 g1 t1 d1 z1 => noGoto_of (hQ φ1 a1 w1 g1 t1 d1 z1)).1
  | _ => exact nomatch h

/-! ### Calls -/

theorem resOne_sound {φ : Phi} {S : St} {w : World} {T : Ts} {a : Act} (hT : TRel φ T a) (hR : Rel φ S w) {r : ResultVar} {v : Value} (h : resOne P T S r = .ok v) :
    ∃ v', (match r with | .tmp t => pure (a.tmps.getD t undef) | .cell b t => do loadVar t (← asAddr (a.tmps.getD b undef)) : Sem Value).run P w = .ok v' w ∧ RelV φ v v' := by
  cases r with
  | tmp t => simp only [resOne] at h; cases h; exact ⟨_, rfl, hT t⟩
  | cell b t =>
    simp only [resOne] at h
    split at h
    · rename_i p hp
      obtain ⟨l, hl, he⟩ := ptr_rel hp (hT b)
      obtain ⟨v', hrun, hr⟩ := loadT_sound hR h hl
      exact ⟨v', by simp [he, asAddr, hrun], hr⟩
    · cases h

theorem resGo_sound {φ : Phi} {S : St} {w : World} {T : Ts} {a : Act} (hT : TRel φ T a) (hR : Rel φ S w) : ∀ {rs : List ResultVar} {vs : List Value}, resGo P T S rs = .ok vs →
    ∃ vs', (rs.mapM (m := Sem) fun r => match r with | .tmp t => pure (a.tmps.getD t undef) | .cell b t => do loadVar t (← asAddr (a.tmps.getD b undef))).run P w = .ok vs' w ∧ RelL φ vs vs'
  | [], vs, h => by simp only [resGo] at h; cases h; exact ⟨[], by simp, .nil⟩
  | r :: rs, vs, h => by
    simp only [resGo] at h
    obtain ⟨v, hv, h⟩ := Res.bind_ok h
    obtain ⟨us, hus, h⟩ := Res.bind_ok h
    cases h
    obtain ⟨v', h1, r1⟩ := resOne_sound hT hR hv
    obtain ⟨us', h2, r2⟩ := resGo_sound hT hR hus
    refine ⟨v' :: us', ?_, .cons _ _ _ _ r1 r2⟩
    rw [List.mapM_cons, Sem.run_bind, h1]
    simp only [Result.andThen_ok, Sem.run_bind, h2, Sem.run_pure]

theorem results_sound {φ : Phi} {S : St} {w : World} {T : Ts} {a : Act} {fn : Func} {v : Value} (hT : TRel φ T a) (hR : Rel φ S w) (h : resultsR P fn T S = .ok v) :
    ∃ v', (results fn a.tmps).run P w = .ok v' w ∧ RelV φ v v' := by
  unfold resultsR at h
  obtain ⟨vs, hvs, h⟩ := Res.bind_ok h
  cases h
  obtain ⟨vs', hrun, hr⟩ := resGo_sound hT hR hvs
  have hm : (fn.results.mapM (m := Sem) fun r => match r with | .tmp t => pure (a.tmps.getD t undef) | .cell b t => do loadVar t (← asAddr (a.tmps.getD b undef))).run P w = .ok ⟨vs'⟩ w := by
    rw [Array.mapM_eq_mapM_toList, map_eq_pure_bind, Sem.run_bind]
    refine Eq.trans (congrArg (fun r => Result.andThen r _) hrun) ?_
    simp only [Result.andThen_ok, Sem.run_pure]
  unfold results
  rw [Sem.run_bind]
  refine ⟨if h : vs'.length = 1 then vs'[0] else .tuple ⟨vs'⟩, ?_, ?_⟩
  · refine Eq.trans (congrArg (fun r => Result.andThen r _) hm) ?_
    simp only [Result.andThen_ok, Sem.run_pure]
    congr 1
  · cases hr with
    | nil => exact .tuple _ _ .nil
    | cons x x' l l' h1 h2 =>
      cases h2 with
      | nil => exact h1
      | cons y y' m m' h3 h4 => exact .tuple _ _ (.cons _ _ _ _ h1 (.cons _ _ _ _ h3 h4))

/-- What is asked of calls that are told, not carried out. -/
def OraOk (P : Program) (O : FuncId → List Value → St → Option (Res (Value × St))) : Prop := ∀ f args S v S', O f args S = some (.ok (v, S')) → ∀ (φ : Phi) (w : World) (args' : Array Value), Rel φ S w → Free φ S.next S'.next → RelL φ args args'.toList →
  Calls P f args' w fun e w' => ∃ v' φ', e = .returned v' ∧ Good φ φ' S S' w w' ∧ RelV φ' v v'

theorem call_sound {O : FuncId → List Value → St → Option (Res (Value × St))} (hO : OraOk P O) {ih : Code → Ts → St → Res Out} (hih : CodeOk P ih) : CallOk P (callF P O ih) := by
  intro f args S v S' h φ w args' hR hf hargs
  unfold callF callF0 at h
  split at h
  · rename_i r hr
    subst h
    exact hO f args S v S' hr φ w args' hR hf hargs
  · unfold callF1 at h
    split at h
    · cases h
    · rename_i fn hfn
      rw [nth_eq, Array.getElem?_toList] at hfn
      unfold callF2 at h
      split at h
      · cases h
      · rename_i c hc
        split at h
        · rename_i hb
          obtain ⟨o, ho, h⟩ := Res.bind_ok h
          obtain ⟨m, s⟩ := hih _ _ _ _ ho
          have h' : (∃ v0, resultsR P fn o.T o.S = .ok v0 ∧ v0 = v ∧ o.S = S') ∧ (o.ex = .normal ∨ o.ex = .ret) := by
            unfold callF3 at h
            split at h
            · cases h
            · rename_i hne
              obtain ⟨v0, hv0, h⟩ := Res.bind_ok h
              cases h
              refine ⟨⟨_, hv0, rfl, rfl⟩, ?_⟩
              cases he : o.ex with
              | normal => exact .inl rfl
              | ret => exact .inr rfl
              | exit id => exact absurd he (hne id)
          obtain ⟨⟨v0, hv0, rfl, rfl⟩, hex⟩ := h'
          refine calls_of_wp hfn hc ?_
          refine (s fn.ntmps φ _ w _ hb ?_ rfl ?_ hR hf fun φ' a' w' hg hT' hd hsz => ?_).1
          · simp; omega
          · intro t
            have hlen := hargs.length
            unfold Tr.tmp
            rw [Tr.get_pushL, Tr.get_lf]
            by_cases ht : t < args.length
            · rw [if_pos ⟨Nat.zero_le _, by omega⟩, Nat.sub_zero]
              have h1 : args[t]? = some args[t] := List.getElem?_eq_getElem ht
              obtain ⟨x', hx', hr'⟩ := hargs.get h1
              rw [h1]
              have hlt : t < args'.size := by simpa using (List.getElem?_eq_some_iff.1 hx').1
              have hx2 : args'[t] = x' := by
                have := (List.getElem?_eq_some_iff.1 hx').2
                simpa using this
              simp only [Array.getD_eq_getD_getElem?]
              rw [Array.getElem?_append_left hlt, Array.getElem?_eq_getElem hlt, Option.getD_some, hx2]
              exact hr'
            · rw [if_neg (by omega)]
              have hge : args'.size ≤ t := by simpa using (by omega : args'.toList.length ≤ t)
              simp only [Array.getD_eq_getD_getElem?]
              rw [Array.getElem?_append_right hge]
              have : ((Array.replicate (fn.ntmps - args'.size) undef)[t - args'.size]?).getD undef = undef := by
                rw [Array.getElem?_replicate]; split <;> rfl
              rw [this]
              exact .tuple _ _ .nil
          · obtain ⟨v', hrun, hr⟩ := results_sound hT' hg.rel hv0
            have : bodyPost P fn (fun e w' => ∃ v' φ', e = .returned v' ∧ Good φ φ' S o.S w w' ∧ RelV φ' v0 v') .normal a' w' := ⟨hd, v', hrun, v', φ', rfl, hg, hr⟩
            rcases hex with e | e <;> rw [e]
            · exact this
            · exact this
        · cases h

theorem exec_zero (O : FuncId → List Value → St → Option (Res (Value × St))) : exec P O 0 = fun _ _ _ => .no 119 := rfl
theorem exec_succ (O : FuncId → List Value → St → Option (Res (Value × St))) (n : Nat) : exec P O (n + 1) = fun c T S => codeK c P ⟨callF P O (exec P O n), exec P O n⟩ T S := rfl

theorem exec_sound (hmix : P.follows .mixedOrders = true) {O : FuncId → List Value → St → Option (Res (Value × St))} (hO : OraOk P O) : ∀ n, CodeOk P (exec P O n)
  | 0 => by intro c T S o h; rw [exec_zero] at h; cases h
  | n + 1 => by
    rw [exec_succ]
    exact code_sound hmix (call_sound hO (exec_sound hmix hO n)) (exec_sound hmix hO n)

/-- A run tells what a call does. -/
theorem run_sound (hmix : P.follows .mixedOrders = true) {O : FuncId → List Value → St → Option (Res (Value × St))} (hO : OraOk P O) {n : Nat} {f : FuncId} {args : List Value} {S S' : St} {v : Value} (h : run P O n f args S = .ok (v, S'))
    {φ : Phi} {w : World} {args' : Array Value} (hR : Rel φ S w) (hf : Free φ S.next S'.next) (ha : RelL φ args args'.toList) :
    Calls P f args' w fun e w' => ∃ v' φ', e = .returned v' ∧ Good φ φ' S S' w w' ∧ RelV φ' v v' :=
  call_sound hO (exec_sound hmix hO n) f args S v S' h φ w args' hR hf ha

theorem rel_nil (w : World) : Rel (fun _ => none) ⟨.lf, 0⟩ w where
  obs := fun F ob h => by unfold St.get at h; rw [Tr.get_lf] at h; cases h
  excl := fun F G obF obG lF lG _ h => by unfold St.get at h; rw [Tr.get_lf] at h; cases h
  ids := fun F l h => by cases h
  dom := fun F ob h => by unfold St.get at h; rw [Tr.get_lf] at h; cases h

/-- A call without arguments, of which the run tells a plain value: memory that was there stays. -/
theorem closed_sound (hmix : P.follows .mixedOrders = true) {O : FuncId → List Value → St → Option (Res (Value × St))} (hO : OraOk P O) {n : Nat} {f : FuncId} {S' : St} {v : Value} (h : run P O n f [] ⟨.lf, 0⟩ = .ok (v, S')) (hp : plain v = true) (w : World) :
    Calls P f #[] w fun e w' => e = .returned v ∧ w'.os = w.os ∧ w'.tape = w.tape ∧ w'.output = w.output ∧ w.heap.size ≤ w'.heap.size ∧ ∀ b, b < w.heap.size → w'.heap[b]? = w.heap[b]? := by
  refine (run_sound hmix hO h (rel_nil w) (fun _ _ _ => rfl) .nil).mono ?_
  rintro e w' ⟨v', φ', rfl, hg, hr⟩
  refine ⟨by rw [plain_eq hp hr], hg.os, hg.tape, hg.output, hg.size, fun b hb => hg.frame b hb ?_⟩
  intro F ob l hF
  unfold St.get at hF
  rw [Tr.get_lf] at hF; cases hF
end
end Go.Ev
namespace Go.Ev
section
variable {P : Program} {φ φ1 : Phi} {S S' : St} {w w' : World}

/-- Something new, in a block of its own, beside others. -/
theorem fresh_good {ob : Ob} {l : Loc} (h : Rel φ S w) (hf : φ S.next = none) (hl : w.heap.size ≤ l.blk) (hl' : l.blk < w'.heap.size) (hos : w'.os = w.os) (htape : w'.tape = w.tape) (hout : w'.output = w.output)
    (hsize : w.heap.size ≤ w'.heap.size) (hheap : ∀ b, b < w.heap.size → w'.heap[b]? = w.heap[b]?) (hob : RelOb (φ.put S.next l) w' l ob) : Good φ (φ.put S.next l) S (S.new ob) w w' := by
  have hle : φ.le (φ.put S.next l) := Phi.put_le hf
  have hget : ∀ G, (S.new ob).get G = if G = S.next then some ob else S.get G := fun G => St.get_new S G ob
  have hold : ∀ G o, G ≠ S.next → (S.new ob).get G = some o → S.get G = some o := fun G o hne hG => by rw [hget, if_neg hne] at hG; exact hG
  have hput : ∀ G m, G ≠ S.next → (φ.put S.next l) G = some m → φ G = some m := fun G m hne hm => by simpa [Phi.put, hne] using hm
  have hself : ∀ m, (φ.put S.next l) S.next = some m → m = l := fun m hm => by simpa [Phi.put] using hm.symm
  refine ⟨hle, ?_, by rw [St.next_new]; omega, ⟨?_, ?_, ?_, ?_⟩, hos, htape, hout, hsize, fun b hb _ => hheap b hb, ?_, ?_⟩
  · intro F m hF hm
    rw [St.next_new]
    by_cases e : F = S.next
    · omega
    · rw [hput F m e hm] at hF; cases hF
  · intro F o hF
    by_cases e : F = S.next
    · subst e
      rw [hget, if_pos rfl] at hF
      cases hF
      exact ⟨l, by simp [Phi.put], hob⟩
    · obtain ⟨m, hm, hr⟩ := h.obs F o (hold F o e hF)
      exact ⟨m, hle F m hm, (hr.mono hle).same (hheap _ (h.ids F m hm))⟩
  · intro F G obF obG lF lG hne hF hG hlF hlG he
    by_cases e : F = S.next
    · have e2 : G ≠ S.next := fun e2 => hne (e.trans e2.symm)
      have := h.ids G lG (hput G lG e2 hlG)
      rw [e] at hlF
      have := hself lF hlF
      subst this
      omega
    · by_cases e2 : G = S.next
      · have := h.ids F lF (hput F lF e hlF)
        rw [e2] at hlG
        have := hself lG hlG
        subst this
        omega
      · exact h.excl F G obF obG lF lG hne (hold F obF e hF) (hold G obG e2 hG) (hput F lF e hlF) (hput G lG e2 hlG) he
  · intro F m hm
    by_cases e : F = S.next
    · rw [e] at hm; rw [hself m hm]; exact hl'
    · exact Nat.lt_of_lt_of_le (h.ids F m (hput F m e hm)) hsize
  · intro F o hF
    rw [St.next_new]
    by_cases e : F = S.next
    · omega
    · have := h.dom F o (hold F o e hF); omega
  · intro F m hF hm
    by_cases e : F = S.next
    · rw [e] at hm; rw [hself m hm]; exact .inl hl
    · rw [hput F m e hm] at hF; cases hF
  · intro F o hF
    by_cases e : F = S.next
    · rw [e]; exact .inr hf
    · exact .inl ⟨o, hold F o e hF⟩

/-- Is what a run tells one new row of plain cells? -/
noncomputable def freshChk (r : Res (Value × St)) (s : Nat) (l : List Value) : Bool :=
  match r with
  | .ok (.slice (some ⟨F, off, none⟩) n c, S) => Nat.beq off 0 && Nat.beq c 0 && Nat.beq n l.length && Nat.blt 0 n && (match S.get F with
    | some (.row cs m s' _ _) => Nat.beq s s' && Nat.beq s 1 && Nat.beq m l.length && (match cs.take m 0 with
      | .ok l' => sameVs (sameV 4) l' l && l.all plain
      | .no _ => false)
    | _ => false)
  | _ => false

theorem fresh_sound (hmix : P.follows .mixedOrders = true) {O : FuncId → List Value → St → Option (Res (Value × St))} (hO : OraOk P O) {N : Nat} {f : FuncId} {args : List Value} {s : Nat} {l : List Value} (hargs : args.all plain = true)
    (h : freshChk (run P O N f args ⟨.lf, 0⟩) s l = true) {args' : Array Value} (hR : Rel φ S w) (hf : Free φ S.next (S.new (mkRow l s)).next) (ha : RelL φ args args'.toList) :
    Calls P f args' w fun e w' => ∃ v' φ', e = .returned v' ∧ Good φ φ' S (S.new (mkRow l s)) w w' ∧ RelV φ' (.slice (some ⟨S.next, 0, none⟩) l.length 0) v' := by
  have hself : args'.toList = args := by
    have key : ∀ l l' : List Value, l.all plain = true → RelL φ l l' → l' = l := by
      intro l
      induction l with
      | nil => intro l' _ hl; cases hl; rfl
      | cons x l ih =>
        intro l' hl hr
        cases hr with
        | cons _ x' _ l' h1 h2 =>
          simp only [List.all_cons, Bool.and_eq_true] at hl
          rw [plain_eq hl.1 h1, ih l' hl.2 h2]
    exact key _ _ hargs ha
  have ha0 : RelL (fun _ => none) args args'.toList := by
    rw [hself]
    clear h hself ha
    induction args with
    | nil => exact .nil
    | cons x l ih =>
      simp only [List.all_cons, Bool.and_eq_true] at hargs
      exact .cons _ _ _ _ (plain_self hargs.1) (ih hargs.2)
  unfold freshChk at h
  split at h
  case h_2 => cases h
  rename_i F off n c S1 hrun
  simp only [Bool.and_eq_true] at h
  obtain ⟨⟨⟨⟨hoff, hc⟩, hn⟩, hpos⟩, h⟩ := h
  have hoff := Nat_beq hoff; subst hoff
  have hc := Nat_beq hc; subst hc
  have hn := Nat_beq hn; subst hn
  have hpos := Nat_blt hpos
  split at h
  case h_2 => cases h
  rename_i cs m s' st old hget
  simp only [Bool.and_eq_true] at h
  obtain ⟨⟨⟨hs, hs1⟩, hm⟩, h⟩ := h
  have hs := Nat_beq hs; subst hs
  have hs1 := Nat_beq hs1
  have hm := Nat_beq hm; subst hm
  split at h
  case h_2 => cases h
  rename_i l' htake
  rw [Bool.and_eq_true] at h
  have hl' := sameVs_eq (sameV_eq 4) _ _ h.1
  subst hl'
  have hpl := h.2
  refine (run_sound hmix hO hrun (rel_nil w) (fun _ _ _ => rfl) ha0).mono ?_
  rintro e w' ⟨v', φ1, rfl, hg, hr⟩
  obtain ⟨loc, hloc, hob⟩ := hg.rel.obs F _ hget
  have hblk : w.heap.size ≤ loc.blk := by
    rcases hg.blk F loc rfl hloc with h | ⟨G, ob, m, hG, _⟩
    · exact h
    · unfold St.get at hG; rw [Tr.get_lf] at hG; cases hG
  have hnew : Good φ (φ.put S.next loc) S (S.new (mkRow l' s)) w w' := by
    refine fresh_good hR (hf _ (Nat.le_refl _) (by rw [St.next_new]; omega)) hblk (hg.rel.ids F loc hloc) hg.os hg.tape hg.output hg.size (fun b hb => hg.frame b hb ?_) ?_
    · intro G ob m hG
      unfold St.get at hG; rw [Tr.get_lf] at hG; cases hG
    · obtain ⟨c, e, fz, h1, h2, h3, h4, h5, h6⟩ := hob
      refine ⟨c, e, fz, h1, h2, h3, h4, h5, fun i hi => ?_⟩
      obtain ⟨x, y, hx, hy, hxy⟩ := h6 i hi
      have h7 := (Tr.take_ok cs _ _ _ htake).2 i hi
      rw [Nat.zero_add, hx] at h7
      have hxp : plain x = true := by
        have := List.all_eq_true.1 hpl x (List.mem_of_getElem? h7)
        exact this
      refine ⟨x, y, ?_, hy, ?_⟩
      · rw [Tr.get_pushL, if_pos ⟨Nat.zero_le _, by simpa using hi⟩, Nat.sub_zero]; exact h7
      · rw [plain_eq hxp hxy]; exact plain_self hxp
  refine ⟨v', φ.put S.next loc, rfl, hnew, ?_⟩
  cases hr with
  | sl _ _ _ _ loc' a cap hφ ha' hc' hn' =>
    rw [hloc] at hφ; cases hφ
    exact .sl S.next 0 l'.length 0 loc a cap (by simp [Phi.put]) ha' hc' hn'
end
end Go.Ev
namespace Go.Ev
/-! A twin of the evaluation for calls with unknown integers: where a value of truth hangs on them, a script decides, and a condition is left. -/
section
variable (P : Program)

/-- Is it a place whose value of truth the script decides? -/
def isDec (ds : List Nat) : Option Tmp → Bool
  | some d => ds.any (Nat.beq d)
  | none => false

def decB (c : Bool) (b : Bool) (K : Value → Prop) : Prop := b = c ∧ K (.bool c)

def decV (sc : List Bool) (K : List Bool → Value → Prop) : Value → Prop
  | .bool b => match sc with
    | c :: sc' => decB c b (K sc')
    | [] => False
  | v => K sc v

def decP (ds : List Nat) (dst : Option Tmp) (v : Value) (sc : List Bool) (K : List Bool → Value → Prop) : Prop :=
  match isDec ds dst with
  | false => K sc v
  | true => decV sc K v

noncomputable def seqP (ds : List Nat) (c : CallR) (ops : List Oper) (K : List Bool → Ts → St → Prop) : List Oper → List Bool → Ts → St → Prop
  | [], sc, T, S => K sc T S
  | o :: l, sc, T, S => match oneR P c ops o T S with
    | .ok p => decP ds o.dst p.1 sc fun sc v => seqP ds c ops K l sc (putT T o.dst v) p.2
    | .no _ => False

noncomputable def Dr.with (D : Dr) (T : Ts) : Dr := ⟨T, D.next, D.base, D.bdone, D.all, D.past, D.done⟩

noncomputable def drawGoP (ds : List Nat) (c : CallR) (ops : List Oper) (ms : List Nat) (K : List Bool → Dr → Prop) : List Nat → List Bool → Dr → Prop
  | [], sc, D => K sc D
  | i :: l, sc, D => match nth ops i with
    | none => False
    | some o => match drawStep P c ops ms i D with
      | .no _ => False
      | .ok D' => match o.dst with
        | none => drawGoP ds c ops ms K l sc D'
        | some d => decP ds (some d) (D'.T.tmp d) sc fun sc v => drawGoP ds c ops ms K l sc (D'.with (D.T.set d (some v)))

noncomputable def drawAllP (ds : List Nat) (c : CallR) (ops : List Oper) (ms ord : List Nat) (K : List Bool → Ts → St → Prop) (sc : List Bool) (T : Ts) (S : St) : Prop :=
  match regionOk ops ms && afterOk ops ms with
  | true => drawGoP P ds c ops ms (fun sc D => match drawEnd ops.length D with | .ok p => K sc p.1 p.2 | .no _ => False) ord sc ⟨T, S.next, S.heap, 0, [], [], 0⟩
  | false => False

abbrev KO := List Bool → Out → Prop

def kSeq (K : KO) (next : List Bool → Ts → St → Prop) (sc : List Bool) (o : Out) : Prop :=
  match o.ex with
  | .normal => next sc o.T o.S
  | _ => K sc o
def kBlock (id : Nat) (K : KO) (sc : List Bool) (o : Out) : Prop :=
  match o.ex with
  | .exit j => match Nat.beq j id with
    | true => K sc ⟨.normal, o.T, o.S⟩
    | false => K sc o
  | _ => K sc o

noncomputable def codeP (ds : List Nat) (c : CallR) (ih : Code → KO → List Bool → Ts → St → Prop) : Code → KO → List Bool → Ts → St → Prop
  | .skip, K, sc, T, S => K sc ⟨.normal, T, S⟩
  | .label _, K, sc, T, S => K sc ⟨.normal, T, S⟩
  | .exit id, K, sc, T, S => K sc ⟨.exit id, T, S⟩
  | .ret, K, sc, T, S => K sc ⟨.ret, T, S⟩
  | .region _ ops d, K, sc, T, S => match d with
    | false => seqP P ds c ops.toList (fun sc T S => K sc ⟨.normal, T, S⟩) ops.toList sc T S
    | true => drawAllP P ds c ops.toList (masks ops.toList) (orderOf ops.toList (masks ops.toList)) (fun sc T S => K sc ⟨.normal, T, S⟩) sc T S
  | .seq a b, K, sc, T, S => ih a (kSeq K (ih b K)) sc T S
  | .cond v a b, K, sc, T, S => match opnd T v with
    | .ok (.bool t) => match t with
      | true => ih a K sc T S
      | false => ih b K sc T S
    | _ => False
  | .block id a, K, sc, T, S => ih a (kBlock id K) sc T S
  | .loop a, K, sc, T, S => ih a (kSeq K (ih (.loop a) K)) sc T S
  | .scope a, K, sc, T, S => ih a K sc T S
  | _, _, _, _, _ => False

noncomputable def execP (ds : List Nat) (c : CallR) (n : Nat) : Code → KO → List Bool → Ts → St → Prop :=
  Nat.rec (motive := fun _ => Code → KO → List Bool → Ts → St → Prop) (fun _ _ _ _ _ => False) (fun _ ih => codeP P ds c ih) n

noncomputable def runP (O : FuncId → List Value → St → Option (Res (Value × St))) (ds : List Nat) (m n : Nat) (f : FuncId) (args : List Value) (S : St) (sc : List Bool) (K : Value → St → Prop) : Prop :=
  match nth P.funcs.toList f with
  | none => False
  | some fn => match fn.body with
    | none => False
    | some b => match bndC fn.ntmps b with
      | false => False
      | true => execP P ds (callF P O (exec P O m)) n b (fun _ o => match o.ex with
        | .exit _ => False
        | _ => match resultsR P fn o.T o.S with
          | .ok v => K v o.S
          | .no _ => False) sc (Tr.pushL .lf 0 args) S
end

section
variable {P : Program} {ds : List Nat} {c : CallR}

theorem decP_ok {dst : Option Tmp} {v : Value} {sc : List Bool} {K : List Bool → Value → Prop} (h : decP ds dst v sc K) : ∃ sc', K sc' v := by
  unfold decP at h
  split at h
  · exact ⟨sc, h⟩
  · unfold decV at h
    split at h
    · split at h
      · unfold decB at h
        obtain ⟨rfl, h⟩ := h
        exact ⟨_, h⟩
      · exact h.elim
    · exact ⟨sc, h⟩

theorem seqP_ok {ops : List Oper} {K : List Bool → Ts → St → Prop} : ∀ {l : List Oper} {sc : List Bool} {T : Ts} {S : St}, seqP P ds c ops K l sc T S → ∃ sc' T' S', seqOps P c ops l T S = .ok (T', S') ∧ K sc' T' S'
  | [], sc, T, S, h => ⟨sc, T, S, rfl, h⟩
  | o :: l, sc, T, S, h => by
    simp only [seqP] at h
    split at h
    · rename_i p hp
      obtain ⟨sc1, h⟩ := decP_ok h
      obtain ⟨sc', T', S', h1, h2⟩ := seqP_ok h
      refine ⟨sc', T', S', ?_, h2⟩
      rw [seqOps_cons, hp]
      exact h1
    · exact h.elim

theorem step_T {ops : List Oper} {ms : List Nat} {i : Nat} {o : Oper} {D D' : Dr} (h : drawStep P c ops ms i D = .ok D') (ho : ops[i]? = some o) {d : Tmp} (hd : o.dst = some d) : D'.with (D.T.set d (some (D'.T.tmp d))) = D' := by
  obtain ⟨o', ho', v, hv⟩ := (step_ok h).op
  rw [ho] at ho'; cases ho'
  rw [hd] at hv
  simp only [putT] at hv
  have : D'.T.tmp d = v := by rw [hv, tmp_set, if_pos rfl]
  rw [this, ← hv]
  cases D'
  rfl

theorem drawGoP_ok {ops : List Oper} {ms : List Nat} {K : List Bool → Dr → Prop} : ∀ {l : List Nat} {sc : List Bool} {D : Dr}, drawGoP P ds c ops ms K l sc D → ∃ sc' D', drawGo P c ops ms l D = .ok D' ∧ K sc' D'
  | [], sc, D, h => ⟨sc, D, rfl, h⟩
  | i :: l, sc, D, h => by
    simp only [drawGoP] at h
    split at h
    · exact h.elim
    · rename_i o ho
      rw [nth_eq] at ho
      split at h
      · exact h.elim
      · rename_i D1 hD1
        split at h
        · obtain ⟨sc', D', h1, h2⟩ := drawGoP_ok h
          exact ⟨sc', D', by rw [drawGo_cons, hD1]; exact h1, h2⟩
        · rename_i d hd
          obtain ⟨sc1, h⟩ := decP_ok h
          rw [step_T hD1 ho hd] at h
          obtain ⟨sc', D', h1, h2⟩ := drawGoP_ok h
          exact ⟨sc', D', by rw [drawGo_cons, hD1]; exact h1, h2⟩

theorem drawAllP_ok {ops : List Oper} {K : List Bool → Ts → St → Prop} {sc : List Bool} {T : Ts} {S : St} (h : drawAllP P ds c ops (masks ops) (orderOf ops (masks ops)) K sc T S) : ∃ sc' T' S', drawR P c ops T S = .ok (T', S') ∧ K sc' T' S' := by
  unfold drawAllP at h
  split at h
  · rename_i hb
    obtain ⟨sc', D', h1, h2⟩ := drawGoP_ok h
    split at h2
    · rename_i p hp
      refine ⟨sc', p.1, p.2, ?_, h2⟩
      unfold drawR drawAll
      rw [hb, h1]
      exact hp
    · exact h2.elim
  · exact h.elim

def POk (ihP : Code → KO → List Bool → Ts → St → Prop) (ih : Code → Ts → St → Res Out) : Prop := ∀ b K sc T S, ihP b K sc T S → ∃ sc' o, ih b T S = .ok o ∧ K sc' o

theorem codeP_ok {ihP : Code → KO → List Bool → Ts → St → Prop} {ih : Code → Ts → St → Res Out} (hi : POk ihP ih) : POk (codeP P ds c ihP) (fun b T S => codeK b P ⟨c, ih⟩ T S) := by
  intro b K sc T S h
  cases b with
  | skip => exact ⟨sc, _, rfl, h⟩
  | label l => exact ⟨sc, _, rfl, h⟩
  | exit id => exact ⟨sc, _, rfl, h⟩
  | ret => exact ⟨sc, _, rfl, h⟩
  | region id ops d =>
    cases d with
    | false =>
      obtain ⟨sc', T', S', h1, h2⟩ := seqP_ok h
      refine ⟨sc', _, ?_, h2⟩
      show ((seqOps P c ops.toList ops.toList T S).bind fun p => Res.ok (⟨.normal, p.1, p.2⟩ : Out)) = _
      rw [h1]; rfl
    | true =>
      have h : drawAllP P ds c ops.toList (masks ops.toList) (orderOf ops.toList (masks ops.toList)) (fun sc T S => K sc ⟨.normal, T, S⟩) sc T S := h
      obtain ⟨sc', T', S', h1, h2⟩ := drawAllP_ok h
      refine ⟨sc', _, ?_, h2⟩
      show ((drawR P c ops.toList T S).bind fun p => Res.ok (⟨.normal, p.1, p.2⟩ : Out)) = _
      rw [h1]; rfl
  | seq x y =>
    obtain ⟨sc1, o1, h1, h2⟩ := hi _ _ _ _ _ h
    obtain ⟨ex, T1, S1⟩ := o1
    show ∃ sc' o, ((ih x T S).bind fun o => cSeq2 ⟨c, ih⟩ y o o.ex) = .ok o ∧ K sc' o
    rw [h1]
    cases ex with
    | normal => exact hi _ _ _ _ _ h2
    | exit id => exact ⟨sc1, _, rfl, h2⟩
    | ret => exact ⟨sc1, _, rfl, h2⟩
  | cond v x y =>
    simp only [codeP] at h
    show ∃ sc' o, cCond v x y P ⟨c, ih⟩ T S = .ok o ∧ K sc' o
    unfold cCond
    split at h
    · rename_i t ht
      rw [ht]
      split at h
      · exact hi _ _ _ _ _ h
      · exact hi _ _ _ _ _ h
    · exact h.elim
  | block id x =>
    obtain ⟨sc1, o1, h1, h2⟩ := hi _ _ _ _ _ h
    obtain ⟨ex, T1, S1⟩ := o1
    show ∃ sc' o, ((ih x T S).bind fun o => cBlock2 id o o.ex) = .ok o ∧ K sc' o
    rw [h1]
    cases ex with
    | normal => exact ⟨sc1, _, rfl, h2⟩
    | ret => exact ⟨sc1, _, rfl, h2⟩
    | exit j =>
      simp only [kBlock] at h2
      simp only [Res.bind, cBlock2]
      split at h2
      · rename_i hj; rw [hj]; exact ⟨sc1, _, rfl, h2⟩
      · rename_i hj; rw [hj]; exact ⟨sc1, _, rfl, h2⟩
  | loop x =>
    obtain ⟨sc1, o1, h1, h2⟩ := hi _ _ _ _ _ h
    obtain ⟨ex, T1, S1⟩ := o1
    show ∃ sc' o, ((ih x T S).bind fun o => cSeq2 ⟨c, ih⟩ (.loop x) o o.ex) = .ok o ∧ K sc' o
    rw [h1]
    cases ex with
    | normal => exact hi _ _ _ _ _ h2
    | exit id => exact ⟨sc1, _, rfl, h2⟩
    | ret => exact ⟨sc1, _, rfl, h2⟩
  | scope x => exact hi _ _ _ _ _ h
  | _ => exact h.elim

theorem execP_ok : ∀ n, POk (execP P ds c n) (Nat.rec (motive := fun _ => Code → Ts → St → Res Out) (fun _ _ _ => .no 119) (fun _ ih b T S => codeK b P ⟨c, ih⟩ T S) n)
  | 0 => fun _ _ _ _ _ h => h.elim
  | n + 1 => codeP_ok (execP_ok n)

/-- Code carried out by calls that are sound is sound. -/
theorem execC_sound (hmix : P.follows .mixedOrders = true) (hc : CallOk P c) : ∀ n, CodeOk P (Nat.rec (motive := fun _ => Code → Ts → St → Res Out) (fun _ _ _ => .no 119) (fun _ ih b T S => codeK b P ⟨c, ih⟩ T S) n)
  | 0 => by intro b T S o h; cases h
  | n + 1 => code_sound hmix hc (execC_sound hmix hc n)

theorem noneO_ok : OraOk P (fun _ _ _ => none) := by intro f args S v S' h; cases h

theorem callF_of {ih : Code → Ts → St → Res Out} {f : FuncId} {fn : Func} {b : Code} {args : List Value} {S : St} {o : Out} {r : Value × St} (hfn : nth P.funcs.toList f = some fn) (hb : fn.body = some b) (hbnd : bndC fn.ntmps b = true)
    (h1 : ih b (Tr.pushL .lf 0 args) S = .ok o) (hv : callF3 P fn o o.ex = .ok r) : callF P (fun _ _ _ => none) ih f args S = .ok r := by
  unfold callF callF0
  simp only
  unfold callF1
  rw [hfn]
  simp only
  unfold callF2
  rw [hb]
  simp only
  rw [hbnd]
  simp only
  rw [h1]
  exact hv

/-- What a scripted run tells of a call. -/
theorem runP_sound (hmix : P.follows .mixedOrders = true) {O : FuncId → List Value → St → Option (Res (Value × St))} (hO : OraOk P O) {m n : Nat} {f : FuncId} {args : List Value} {S : St} {sc : List Bool} {K : Value → St → Prop}
    (h : runP P O ds m n f args S sc K) : ∃ v S', K v S' ∧ ∀ (φ : Phi) (w : World) (args' : Array Value), Rel φ S w → Free φ S.next S'.next → RelL φ args args'.toList →
      Calls P f args' w fun e w' => ∃ v' φ', e = .returned v' ∧ Good φ φ' S S' w w' ∧ RelV φ' v v' := by
  unfold runP at h
  split at h
  · exact h.elim
  rename_i fn hfn
  split at h
  · exact h.elim
  rename_i b hb
  split at h
  · exact h.elim
  rename_i hbnd
  have hcall : CallOk P (callF P O (exec P O m)) := call_sound hO (exec_sound hmix hO m)
  obtain ⟨sc', o, h1, h2⟩ := execP_ok n _ _ _ _ _ h
  have key := call_sound (noneO_ok (P := P)) (execC_sound hmix hcall n)
  have hrun : ∃ v, resultsR P fn o.T o.S = .ok v ∧ K v o.S ∧ callF3 P fn o o.ex = .ok (v, o.S) := by
    obtain ⟨ex, T1, S1⟩ := o
    cases ex with
    | exit id => exact h2.elim
    | normal =>
      simp only at h2
      split at h2
      · rename_i v hv
        exact ⟨v, hv, h2, by unfold callF3; simp only [hv]; rfl⟩
      · exact h2.elim
    | ret =>
      simp only at h2
      split at h2
      · rename_i v hv
        exact ⟨v, hv, h2, by unfold callF3; simp only [hv]; rfl⟩
      · exact h2.elim
  obtain ⟨v, _, hK, hv⟩ := hrun
  refine ⟨v, o.S, hK, fun φ w args' hR hf ha => ?_⟩
  refine key f args S v o.S ?_ φ w args' hR hf ha
  exact callF_of hfn hb hbnd h1 hv
end
end Go.Ev
