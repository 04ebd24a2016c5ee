/- Parts of the run of awake are told by the kernel. -/
import Derived.Test.YtnmmmiliogogfaaGreatDoorBa
import Derived.Test.YtnmmmiliogogfaaGreatDoorRa
import Derived.Test.YtnmmmiliogogfaaGreatDoorProg
import Derived.KernelRfl
set_option linter.unusedVariables false
set_option linter.unusedSimpArgs false
namespace Go.Ev
open Go.Proofs Go.Proofs.Wag
noncomputable section
theorem AwAt4383 : runT Tryz.prog [AwAe4384, AwAe4562, AwAe4656] ora 2000 AwAe4383 = okT AwAe4383 [AwAe4384, AwAe4562, AwAe4656] := by kernel_rfl
theorem AwAt5029 : runT Tryz.prog [] ora 2000 AwAe5029 = okT AwAe5029 [] := by kernel_rfl
theorem AwAt5026 : runT Tryz.prog [AwAe5029] ora 2000 AwAe5026 = okT AwAe5026 [AwAe5029] := by kernel_rfl
theorem AwAt4917 : runT Tryz.prog [AwAe5026] ora 2000 AwAe4917 = okT AwAe4917 [AwAe5026] := by kernel_rfl
theorem AwAt4916 : runT Tryz.prog [AwAe4917] ora 2000 AwAe4916 = okT AwAe4916 [AwAe4917] := by kernel_rfl
theorem AwAt4915 : runT Tryz.prog [AwAe4916] ora 2000 AwAe4915 = okT AwAe4915 [AwAe4916] := by kernel_rfl
theorem AwAt5192 : runT Tryz.prog [] ora 2000 AwAe5192 = okT AwAe5192 [] := by kernel_rfl
theorem AwAt5204 : runT Tryz.prog [] ora 2000 AwAe5204 = okT AwAe5204 [] := by kernel_rfl
theorem AwAt5216 : runT Tryz.prog [] ora 2000 AwAe5216 = okT AwAe5216 [] := by kernel_rfl
theorem AwAt5228 : runT Tryz.prog [] ora 2000 AwAe5228 = okT AwAe5228 [] := by kernel_rfl
theorem AwAt5244 : runT Tryz.prog [] ora 2000 AwAe5244 = okT AwAe5244 [] := by kernel_rfl
theorem AwAt5256 : runT Tryz.prog [] ora 2000 AwAe5256 = okT AwAe5256 [] := by kernel_rfl
theorem AwAt5268 : runT Tryz.prog [] ora 2000 AwAe5268 = okT AwAe5268 [] := by kernel_rfl
theorem AwAt5280 : runT Tryz.prog [] ora 2000 AwAe5280 = okT AwAe5280 [] := by kernel_rfl
theorem AwAt5296 : runT Tryz.prog [] ora 2000 AwAe5296 = okT AwAe5296 [] := by kernel_rfl
end
end Go.Ev
