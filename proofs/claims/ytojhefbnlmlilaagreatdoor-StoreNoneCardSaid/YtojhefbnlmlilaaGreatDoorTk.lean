/- Parts of the run of awake are told by the kernel. -/
import Derived.Test.YtojhefbnlmlilaaGreatDoorBc
import Derived.Test.YtojhefbnlmlilaaGreatDoorRa
import Derived.Test.YtojhefbnlmlilaaGreatDoorProg
import Derived.KernelRfl
set_option linter.unusedVariables false
set_option linter.unusedSimpArgs false
namespace Go.Ev
open Go.Proofs Go.Proofs.Wag
noncomputable section
theorem AwSt4346 : runT Tryz.prog [] ora 2000 AwSe4346 = okT AwSe4346 [] := by kernel_rfl
theorem AwSt4302 : runT Tryz.prog [AwSe4312, AwSe4329, AwSe4346] ora 2000 AwSe4302 = okT AwSe4302 [AwSe4312, AwSe4329, AwSe4346] := by kernel_rfl
theorem AwSt4299 : runT Tryz.prog [AwSe4302] ora 2000 AwSe4299 = okT AwSe4299 [AwSe4302] := by kernel_rfl
theorem AwSt4298 : runT Tryz.prog [AwSe4299] ora 2000 AwSe4298 = okT AwSe4298 [AwSe4299] := by kernel_rfl
theorem AwSt4399 : runT Tryz.prog [] ora 2000 AwSe4399 = okT AwSe4399 [] := by kernel_rfl
theorem AwSt4445 : runT Tryz.prog [] ora 2000 AwSe4445 = okT AwSe4445 [] := by kernel_rfl
theorem AwSt4378 : runT Tryz.prog [AwSe4399, AwSe4445] ora 2000 AwSe4378 = okT AwSe4378 [AwSe4399, AwSe4445] := by kernel_rfl
theorem AwSt4474 : runT Tryz.prog [] ora 2000 AwSe4474 = okT AwSe4474 [] := by kernel_rfl
theorem AwSt4295 : runT Tryz.prog [AwSe4298, AwSe4378, AwSe4474] ora 2000 AwSe4295 = okT AwSe4295 [AwSe4298, AwSe4378, AwSe4474] := by kernel_rfl
theorem AwSt4037 : runT Tryz.prog [AwSe4040, AwSe4081, AwSe4089, AwSe4131, AwSe4172, AwSe4253, AwSe4295] ora 2000 AwSe4037 = okT AwSe4037 [AwSe4040, AwSe4081, AwSe4089, AwSe4131, AwSe4172, AwSe4253, AwSe4295] := by kernel_rfl
theorem AwSt2253 : runT Tryz.prog [AwSe2254, AwSe4037] ora 2000 AwSe2253 = okT AwSe2253 [AwSe2254, AwSe4037] := by kernel_rfl
theorem AwSt4536 : runT Tryz.prog [] ora 2000 AwSe4536 = okT AwSe4536 [] := by kernel_rfl
theorem AwSt4616 : runT Tryz.prog [] ora 2000 AwSe4616 = okT AwSe4616 [] := by kernel_rfl
theorem AwSt4609 : runT Tryz.prog [AwSe4616] ora 2000 AwSe4609 = okT AwSe4609 [AwSe4616] := by kernel_rfl
theorem AwSt4608 : runT Tryz.prog [AwSe4609] ora 2000 AwSe4608 = okT AwSe4608 [AwSe4609] := by kernel_rfl
theorem AwSt0 : runT Tryz.prog [AwSe1, AwSe6, AwSe1316, AwSe1385, AwSe1873, AwSe1942, AwSe2196, AwSe2253, AwSe4536, AwSe4608] ora 2000 AwSe0 = okT AwSe0 [AwSe1, AwSe6, AwSe1316, AwSe1385, AwSe1873, AwSe1942, AwSe2196, AwSe2253, AwSe4536, AwSe4608] := by kernel_rfl
end
end Go.Ev
