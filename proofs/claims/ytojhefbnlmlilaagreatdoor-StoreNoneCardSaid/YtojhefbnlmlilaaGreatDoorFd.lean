/- StoreNone holds, tied to the program's text: whatever the four values are the law's call returns true. -/
import Derived.Test.YtojhefbnlmlilaaGreatDoorFb
import Derived.Test.YtojhefbnlmlilaaGreatDoorFc
import Derived.Test.YtojhefbnlmlilaaGreatDoorTie
import Derived.Test.YtojhefbnlmlilaaGreatDoorCards
set_option linter.unusedVariables false
set_option linter.unusedSimpArgs false
namespace Go.Proofs.YtojhefbnlmlilaaGreatDoor.StoreNone
open Go.ChangeShapes Go.WideShapes Go.ChangeAt Go.RowKit Go.Proofs.Law
theorem store_none : Rows.StoreNoneCardSaid :=
  Claim7.holds_tied_plain_at .later [] [.data, .pinned] true (true, "4c61097bb88a4df5b3e150906f1166a89c214dee45e15ba79e9c2b1c0c2374ef") true
    row_holds (fun _ h => by cases h) cWf (fun _ h => by cases h) storeNone_row_tie rfl ⟨rfl, rfl⟩ cMain rfl
    (fun f fn hf hfn => by
      obtain rfl : f = 3 := Option.some.inj (cNamed.symm.trans hf) |>.symm
      obtain rfl : fn = Tryz.f3 := (Option.some.inj (Tryz.func3.symm.trans hfn)).symm
      exact ⟨cLooks, fun j t ht => by
        rw [Tryz.params3] at ht
        have h3 : t = 25 := by
          rcases j with _ | j
          · simpa using ht.symm
          · simp at ht
        subst h3
        exact cStand⟩)
    cGoes
#print axioms store_none
end Go.Proofs.YtojhefbnlmlilaaGreatDoor.StoreNone
