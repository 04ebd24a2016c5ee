/- AuditKinds holds, tied to the program's text: whatever the problems are the law's call returns true. -/
import Derived.Test.YtnmmmiliogogfaaGreatDoorFb
import Derived.Test.YtnmmmiliogogfaaGreatDoorFc
import Derived.Test.YtnmmmiliogogfaaGreatDoorTie
import Derived.Test.YtnmmmiliogogfaaGreatDoorCards
set_option linter.unusedVariables false
set_option linter.unusedSimpArgs false
namespace Go.Proofs.YtnmmmiliogogfaaGreatDoor.AuditKinds
open Go.ChangeShapes Go.WideShapes Go.ChangeAt Go.RowKit Go.Proofs.Law
theorem audit_kinds : Rows.AuditKindsCardSaid :=
  Claim7.holds_tied_plain_at .later [] [.data, .pinned] true (true, "6ee363031ba17c2061b56309b3d3ba1e7690890fe0fcf3dd5c8ea37b173a0e0f") true
    row_holds (fun _ h => by cases h) cWf (fun _ h => by cases h) auditKinds_row_tie rfl ⟨rfl, rfl⟩ cMain rfl
    (fun f fn hf hfn => by
      obtain rfl : f = 3 := Option.some.inj (cNamed.symm.trans hf) |>.symm
      obtain rfl : fn = Tryz.f3 := (Option.some.inj (Tryz.func3.symm.trans hfn)).symm
      exact ⟨cLooks, fun j t ht => by
        rw [Tryz.params3] at ht
        have h3 : t = 22 := by
          rcases j with _ | j
          · simpa using ht.symm
          · simp at ht
        subst h3
        exact cStand⟩)
    cGoes
#print axioms audit_kinds
end Go.Proofs.YtnmmmiliogogfaaGreatDoor.AuditKinds
