/- The card's closed facts: what the program's text holds. -/
import Derived.Test.YtojhefbnlmlilaaGreatDoorRows
import Derived.SevenTiedAt
set_option linter.unusedVariables false
set_option linter.unusedSimpArgs false
namespace Go.Proofs.YtojhefbnlmlilaaGreatDoor.StoreNone
theorem cMain : Tryz.prog.mainIs = some (true, "4c61097bb88a4df5b3e150906f1166a89c214dee45e15ba79e9c2b1c0c2374ef".toList) := by kernel_rfl
theorem cLooks : true = Tryz.prog.looks [] := by kernel_rfl
theorem cGoes : false = Rows.storeNoneRow.goesBy Tryz.prog := by kernel_rfl
theorem cStand : Tryz.prog.wantsStandIn 25 = false := by kernel_rfl
theorem cNamed : Tryz.prog.funcNamed "wagtail/wagtaillaw29.StoreNone" = some 3 := by kernel_rfl
theorem cWf : Rows.storeNoneRow.wfByText (OpenSpec.ofChange Rows.storeNoneSpec) = true := by kernel_rfl
end Go.Proofs.YtojhefbnlmlilaaGreatDoor.StoreNone
