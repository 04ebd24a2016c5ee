/- Parts of the run of awake are told by the kernel. -/
import Derived.Test.YtnmmmiliogogfaaGreatDoorBa
import Derived.Test.YtnmmmiliogogfaaGreatDoorRa
import Derived.Test.YtnmmmiliogogfaaGreatDoorProg
import Derived.KernelRfl
set_option linter.unusedVariables false
set_option linter.unusedSimpArgs false
namespace Go.Ev
open Go.Proofs Go.Proofs.Wag
noncomputable section
theorem AwAt6047 : runT Tryz.prog [] ora 2000 AwAe6047 = okT AwAe6047 [] := by kernel_rfl
theorem AwAt6186 : runT Tryz.prog [] ora 2000 AwAe6186 = okT AwAe6186 [] := by kernel_rfl
theorem AwAt6046 : runT Tryz.prog [AwAe6047, AwAe6186] ora 2000 AwAe6046 = okT AwAe6046 [AwAe6047, AwAe6186] := by kernel_rfl
theorem AwAt6038 : runT Tryz.prog [AwAe6046] ora 2000 AwAe6038 = okT AwAe6038 [AwAe6046] := by kernel_rfl
theorem AwAt6036 : runT Tryz.prog [AwAe6038] ora 2000 AwAe6036 = okT AwAe6036 [AwAe6038] := by kernel_rfl
theorem AwAt6033 : runT Tryz.prog [AwAe6036] ora 2000 AwAe6033 = okT AwAe6033 [AwAe6036] := by kernel_rfl
theorem AwAt5992 : runT Tryz.prog [AwAe6033] ora 2000 AwAe5992 = okT AwAe5992 [AwAe6033] := by kernel_rfl
theorem AwAt5991 : runT Tryz.prog [AwAe5992] ora 2000 AwAe5991 = okT AwAe5991 [AwAe5992] := by kernel_rfl
theorem AwAt5990 : runT Tryz.prog [AwAe5991] ora 2000 AwAe5990 = okT AwAe5990 [AwAe5991] := by kernel_rfl
theorem AwAt5987 : runT Tryz.prog [AwAe5990] ora 2000 AwAe5987 = okT AwAe5987 [AwAe5990] := by kernel_rfl
theorem AwAt4859 : runT Tryz.prog [AwAe4915, AwAe5186, AwAe5824, AwAe5987] ora 2000 AwAe4859 = okT AwAe4859 [AwAe4915, AwAe5186, AwAe5824, AwAe5987] := by kernel_rfl
end
end Go.Ev
