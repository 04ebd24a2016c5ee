/- Parts of the run of awake are told by the kernel. -/
import Derived.Test.YtnmmmiliogogfaaGreatDoorBa
import Derived.Test.YtnmmmiliogogfaaGreatDoorRa
import Derived.Test.YtnmmmiliogogfaaGreatDoorProg
import Derived.KernelRfl
set_option linter.unusedVariables false
set_option linter.unusedSimpArgs false
namespace Go.Ev
open Go.Proofs Go.Proofs.Wag
noncomputable section
theorem AwAt3719 : runT Tryz.prog [AwAe3720] ora 2000 AwAe3719 = okT AwAe3719 [AwAe3720] := by kernel_rfl
theorem AwAt3718 : runT Tryz.prog [AwAe3719] ora 2000 AwAe3718 = okT AwAe3718 [AwAe3719] := by kernel_rfl
theorem AwAt3715 : runT Tryz.prog [AwAe3718] ora 2000 AwAe3715 = okT AwAe3715 [AwAe3718] := by kernel_rfl
theorem AwAt2587 : runT Tryz.prog [AwAe2643, AwAe2914, AwAe3552, AwAe3715] ora 2000 AwAe2587 = okT AwAe2587 [AwAe2643, AwAe2914, AwAe3552, AwAe3715] := by kernel_rfl
theorem AwAt4070 : runT Tryz.prog [] ora 2000 AwAe4070 = okT AwAe4070 [] := by kernel_rfl
theorem AwAt4064 : runT Tryz.prog [AwAe4070] ora 2000 AwAe4064 = okT AwAe4064 [AwAe4070] := by kernel_rfl
theorem AwAt4198 : runT Tryz.prog [] ora 2000 AwAe4198 = okT AwAe4198 [] := by kernel_rfl
theorem AwAt4252 : runT Tryz.prog [] ora 2000 AwAe4252 = okT AwAe4252 [] := by kernel_rfl
theorem AwAt4352 : runU Tryz.prog ora 2000 AwAe4352 (.node [(.node [(.node [(.leaf [(3517, 3517)])]), (.node [(.leaf [(3517, 3517)])])]), (.node [(.node [(.leaf [(3517, 3517)])]), (.node [(.leaf [(3517, 3517)])])]), (.node [(.node [(.leaf [(3517, 3517)])]), (.node [(.leaf [(3517, 3517)])])])]) = (((okB AwAe4352 ∧ True) ∧ (okB AwAe4352 ∧ True) ∧ True) ∧ ((okB AwAe4352 ∧ True) ∧ (okB AwAe4352 ∧ True) ∧ True) ∧ ((okB AwAe4352 ∧ True) ∧ (okB AwAe4352 ∧ True) ∧ True) ∧ True) := by kernel_rfl
theorem AwAt4347 : runT Tryz.prog [AwAe4352] ora 2000 AwAe4347 = okT AwAe4347 [AwAe4352] := by kernel_rfl
theorem AwAt4309 : runT Tryz.prog [AwAe4347] ora 2000 AwAe4309 = okT AwAe4309 [AwAe4347] := by kernel_rfl
end
end Go.Ev
