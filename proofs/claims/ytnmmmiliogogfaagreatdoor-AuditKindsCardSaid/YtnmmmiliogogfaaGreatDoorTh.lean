/- Parts of the run of awake are told by the kernel. -/
import Derived.Test.YtnmmmiliogogfaaGreatDoorBa
import Derived.Test.YtnmmmiliogogfaaGreatDoorRa
import Derived.Test.YtnmmmiliogogfaaGreatDoorProg
import Derived.KernelRfl
set_option linter.unusedVariables false
set_option linter.unusedSimpArgs false
namespace Go.Ev
open Go.Proofs Go.Proofs.Wag
noncomputable section
theorem AwAt3552 : runT Tryz.prog [] ora 2000 AwAe3552 = okT AwAe3552 [] := by kernel_rfl
theorem AwAt3775 : runT Tryz.prog [] ora 2000 AwAe3775 = okT AwAe3775 [] := by kernel_rfl
theorem AwAt3914 : runT Tryz.prog [] ora 2000 AwAe3914 = okT AwAe3914 [] := by kernel_rfl
theorem AwAt3774 : runT Tryz.prog [AwAe3775, AwAe3914] ora 2000 AwAe3774 = okT AwAe3774 [AwAe3775, AwAe3914] := by kernel_rfl
theorem AwAt3766 : runT Tryz.prog [AwAe3774] ora 2000 AwAe3766 = okT AwAe3766 [AwAe3774] := by kernel_rfl
theorem AwAt3764 : runT Tryz.prog [AwAe3766] ora 2000 AwAe3764 = okT AwAe3764 [AwAe3766] := by kernel_rfl
theorem AwAt3761 : runT Tryz.prog [AwAe3764] ora 2000 AwAe3761 = okT AwAe3761 [AwAe3764] := by kernel_rfl
theorem AwAt3720 : runT Tryz.prog [AwAe3761] ora 2000 AwAe3720 = okT AwAe3720 [AwAe3761] := by kernel_rfl
end
end Go.Ev
