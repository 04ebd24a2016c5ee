/- CensusAdds holds: for every two censuses the law's call returns true and its input reads as it did. No condition. -/
import Derived.Test.YtgmgkjbcohjmlaaGreatFb
namespace Go.Proofs.YtgmgkjbcohjmlaaGreat.CensusAdds
open Go.ChangeShapes Go.WideShapes Go.ChangeAt Go.RowKit Go.Proofs.Wag Go.Proofs.Law

theorem own : ownKnob Tryz.prog.godebug = none := by kernel_rfl
theorem laidOut : laidOutB Tryz.prog = true := by kernel_rfl

abbrev zero : Value := cen 0 0 0 0 0 0 0 0 0 0 0 0

theorem cells36 : Tryz.prog.cellTypes Tryz.prog.depth 36 = some (List.replicate 12 3) := by kernel_rfl
theorem size36 : Tryz.prog.cellsOf 36 = 12 := by kernel_rfl

theorem cons_of {α : Type} {l : List α} {n : Nat} (h : l.length = n + 1) : ∃ a l', l = a :: l' ∧ l'.length = n := by
  cases l with
  | nil => simp at h
  | cons a l => exact ⟨a, l, rfl, by simpa using h⟩
theorem nil_of {α : Type} {l : List α} (h : l.length = 0) : l = [] := List.length_eq_zero_iff.1 h

theorem twelve {z : List Int} (h : z.length = 12) : ∃ a0 a1 a2 k0 k1 k2 k3 k4 k5 a3 a4 a5, z = [a0, a1, a2, k0, k1, k2, k3, k4, k5, a3, a4, a5] := by
  obtain ⟨a0, z0, rfl, h0⟩ := cons_of h
  obtain ⟨a1, z1, rfl, h1⟩ := cons_of h0
  obtain ⟨a2, z2, rfl, h2⟩ := cons_of h1
  obtain ⟨k0, z3, rfl, h3⟩ := cons_of h2
  obtain ⟨k1, z4, rfl, h4⟩ := cons_of h3
  obtain ⟨k2, z5, rfl, h5⟩ := cons_of h4
  obtain ⟨k3, z6, rfl, h6⟩ := cons_of h5
  obtain ⟨k4, z7, rfl, h7⟩ := cons_of h6
  obtain ⟨k5, z8, rfl, h8⟩ := cons_of h7
  obtain ⟨a3, z9, rfl, h9⟩ := cons_of h8
  obtain ⟨a4, z10, rfl, h10⟩ := cons_of h9
  obtain ⟨a5, z11, rfl, h11⟩ := cons_of h10
  obtain rfl := nil_of h11
  exact ⟨a0, a1, a2, k0, k1, k2, k3, k4, k5, a3, a4, a5, rfl⟩

set_option maxRecDepth 100000 in
theorem lifted (os : Os) (started : os.Started) (H : Type) (enc : TypeId × Value → H) :
    ReturnsInHanded {} Tryz.checked os 4 .any (Rows.censusAddsSpec.pre6 enc Tryz.prog Tryz.f4 Rows.censusAddsRow.domain false) (Rows.censusAddsSpec.post enc Tryz.prog Tryz.f4 false true false false) := by
  refine returnsInHanded_of_change (C := Tryz.checked) own started (by kernel_rfl) Tryz.func4
    (ChangeSpec.witness6 (enc := enc) (C := Tryz.checked) false ⟨#[], #[zero, zero], []⟩ 8 (by kernel_rfl) (by kernel_rfl) (by kernel_rfl) (by kernel_rfl)) ?_
  intro W base args ds gs before hval0 hW hcnd _
  have hval : ∀ (j : Nat) t v, Tryz.f4.params[j]? = some t → args[j]? = some v → Value.okWide Tryz.prog W .any base t v := hval0
  have hW' := hW
  obtain ⟨p, q, hA0, hV, rfl, hfz, hnd⟩ := hW
  have hA : DataW.TrodAll enc Tryz.prog W 0 (fun _ => true) true Tryz.f4.params.toList args.toList ds p := hA0
  rw [Tryz.params4] at hA hval
  obtain ⟨v0, vs0, d0, ds0, p0, q0, hargs, rfl, rfl, h0, r0⟩ := trodAll_cons hA
  obtain ⟨v1, vs1, d1, ds1, p1, q1, rfl, rfl, rfl, h1, r1⟩ := trodAll_cons r0
  obtain ⟨rfl, rfl, rfl⟩ := trodAll_nil r1
  obtain rfl : args = #[v0, v1] := by cases args; simp_all
  obtain ⟨rfl, rfl⟩ := trodVars_none hV
  obtain ⟨z, hz, rfl, _⟩ := ints_of_row Tryz.underlying36 cells36 Tryz.underlying3 size36 (hval 0 36 v0 rfl rfl)
  obtain ⟨y, hy, rfl, _⟩ := ints_of_row Tryz.underlying36 cells36 Tryz.underlying3 size36 (hval 1 36 v1 rfl rfl)
  obtain ⟨a0, a1, a2, k0, k1, k2, k3, k4, k5, a3, a4, a5, rfl⟩ := twelve hz
  obtain ⟨b0, b1, b2, j0, j1, j2, j3, j4, j5, b3, b4, b5, rfl⟩ := twelve hy
  obtain ⟨sc, hsc⟩ := Go.Ev.anyPath a0 a1 a2 k0 k1 k2 k3 k4 k5 a3 a4 a5 b0 b1 b2 j0 j1 j2 j3 j4 j5 b3 b4 b5
  refine (Go.Ev.adds_calls 1000 a0 a1 a2 k0 k1 k2 k3 k4 k5 a3 a4 a5 b0 b1 b2 j0 j1 j2 j3 j4 j5 b3 b4 b5 W hsc).mono fun e W' ⟨he, hB⟩ => ?_
  exact ⟨_, he, post_true (t := 4) laidOut rfl (by kernel_rfl) (by kernel_rfl) Tryz.underlying4 rfl hW' hB⟩

theorem census_adds : Rows.CensusAddsSaid :=
  OpenClaim.holds_of_wide 4 Tryz.f4 rfl rfl rfl rfl rfl rfl rfl ⟨rfl, rfl, rfl, rfl, rfl⟩ rfl rfl rfl rfl rfl (by kernel_rfl) Tryz.func4 (by kernel_rfl)
    (of_decide_eq_true (by kernel_rfl)) (by unfold Func.isWrapper; first | (rw [if_pos (by decide +kernel)]; kernel_rfl) | (rw [if_neg (by decide +kernel)]; exact ⟨rfl, rfl⟩))
    (fun os started H enc _ => lifted os started H enc)

#print axioms census_adds
end Go.Proofs.YtgmgkjbcohjmlaaGreat.CensusAdds
