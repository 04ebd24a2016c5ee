/- Parts of the run of awake are told by the kernel. -/
import Derived.Test.YtojhefbnlmlilaaGreatDoorBc
import Derived.Test.YtojhefbnlmlilaaGreatDoorRa
import Derived.Test.YtojhefbnlmlilaaGreatDoorProg
import Derived.KernelRfl
set_option linter.unusedVariables false
set_option linter.unusedSimpArgs false
namespace Go.Ev
open Go.Proofs Go.Proofs.Wag
noncomputable section
theorem AwSt3783 : runT Tryz.prog [AwSe3791] ora 2000 AwSe3783 = okT AwSe3783 [AwSe3791] := by kernel_rfl
theorem AwSt3781 : runT Tryz.prog [AwSe3783] ora 2000 AwSe3781 = okT AwSe3781 [AwSe3783] := by kernel_rfl
theorem AwSt3557 : runT Tryz.prog [AwSe3560, AwSe3781] ora 2000 AwSe3557 = okT AwSe3557 [AwSe3560, AwSe3781] := by kernel_rfl
theorem AwSt3519 : runT Tryz.prog [AwSe3522, AwSe3557] ora 2000 AwSe3519 = okT AwSe3519 [AwSe3522, AwSe3557] := by kernel_rfl
theorem AwSt3518 : runT Tryz.prog [AwSe3519] ora 2000 AwSe3518 = okT AwSe3518 [AwSe3519] := by kernel_rfl
theorem AwSt3517 : runT Tryz.prog [AwSe3518] ora 2000 AwSe3517 = okT AwSe3517 [AwSe3518] := by kernel_rfl
theorem AwSt3514 : runT Tryz.prog [AwSe3517] ora 2000 AwSe3514 = okT AwSe3514 [AwSe3517] := by kernel_rfl
theorem AwSt4018 : runT Tryz.prog [] ora 2000 AwSe4018 = okT AwSe4018 [] := by kernel_rfl
theorem AwSt2256 : runT Tryz.prog [AwSe2303, AwSe2751, AwSe3334, AwSe3514, AwSe4018] ora 2000 AwSe2256 = okT AwSe2256 [AwSe2303, AwSe2751, AwSe3334, AwSe3514, AwSe4018] := by kernel_rfl
theorem AwSt2254 : runT Tryz.prog [AwSe2256] ora 2000 AwSe2254 = okT AwSe2254 [AwSe2256] := by kernel_rfl
theorem AwSt4040 : runT Tryz.prog [] ora 2000 AwSe4040 = okT AwSe4040 [] := by kernel_rfl
theorem AwSt4081 : runT Tryz.prog [] ora 2000 AwSe4081 = okT AwSe4081 [] := by kernel_rfl
theorem AwSt4089 : runT Tryz.prog [] ora 2000 AwSe4089 = okT AwSe4089 [] := by kernel_rfl
theorem AwSt4131 : runT Tryz.prog [] ora 2000 AwSe4131 = okT AwSe4131 [] := by kernel_rfl
theorem AwSt4172 : runT Tryz.prog [] ora 2000 AwSe4172 = okT AwSe4172 [] := by kernel_rfl
theorem AwSt4253 : runT Tryz.prog [] ora 2000 AwSe4253 = okT AwSe4253 [] := by kernel_rfl
theorem AwSt4312 : runT Tryz.prog [] ora 2000 AwSe4312 = okT AwSe4312 [] := by kernel_rfl
theorem AwSt4329 : runT Tryz.prog [] ora 2000 AwSe4329 = okT AwSe4329 [] := by kernel_rfl
end
end Go.Ev
