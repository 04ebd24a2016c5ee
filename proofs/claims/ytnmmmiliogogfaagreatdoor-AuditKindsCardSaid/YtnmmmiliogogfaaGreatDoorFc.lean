/- The card's closed facts: what the program's text holds. -/
import Derived.Test.YtnmmmiliogogfaaGreatDoorRows
import Derived.SevenTiedAt
set_option linter.unusedVariables false
set_option linter.unusedSimpArgs false
namespace Go.Proofs.YtnmmmiliogogfaaGreatDoor.AuditKinds
theorem cMain : Tryz.prog.mainIs = some (true, "6ee363031ba17c2061b56309b3d3ba1e7690890fe0fcf3dd5c8ea37b173a0e0f".toList) := by kernel_rfl
theorem cLooks : true = Tryz.prog.looks [] := by kernel_rfl
theorem cGoes : false = Rows.auditKindsRow.goesBy Tryz.prog := by kernel_rfl
theorem cStand : Tryz.prog.wantsStandIn 22 = false := by kernel_rfl
theorem cNamed : Tryz.prog.funcNamed "wagtail/wagtaillaw44.AuditKinds" = some 3 := by kernel_rfl
theorem cWf : Rows.auditKindsRow.wfByText (OpenSpec.ofChange Rows.auditKindsSpec) = true := by kernel_rfl
end Go.Proofs.YtnmmmiliogogfaaGreatDoor.AuditKinds
