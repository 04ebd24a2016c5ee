/- Parts of the run of awake are told by the kernel. -/
import Derived.Test.YtojhefbnlmlilaaGreatDoorBc
import Derived.Test.YtojhefbnlmlilaaGreatDoorRa
import Derived.Test.YtojhefbnlmlilaaGreatDoorProg
import Derived.KernelRfl
set_option linter.unusedVariables false
set_option linter.unusedSimpArgs false
namespace Go.Ev
open Go.Proofs Go.Proofs.Wag
noncomputable section
theorem AwSt1944 : runT Tryz.prog [AwSe1947, AwSe2027, AwSe2123] ora 2000 AwSe1944 = okT AwSe1944 [AwSe1947, AwSe2027, AwSe2123] := by kernel_rfl
theorem AwSt1943 : runT Tryz.prog [AwSe1944] ora 2000 AwSe1943 = okT AwSe1943 [AwSe1944] := by kernel_rfl
theorem AwSt1942 : runT Tryz.prog [AwSe1943] ora 2000 AwSe1942 = okT AwSe1942 [AwSe1943] := by kernel_rfl
theorem AwSt2196 : runT Tryz.prog [] ora 2000 AwSe2196 = okT AwSe2196 [] := by kernel_rfl
theorem AwSt2320 : runT Tryz.prog [] ora 2000 AwSe2320 = okT AwSe2320 [] := by kernel_rfl
theorem AwSt2477 : runT Tryz.prog [] ora 2000 AwSe2477 = okT AwSe2477 [] := by kernel_rfl
theorem AwSt2459 : runT Tryz.prog [AwSe2477] ora 2000 AwSe2459 = okT AwSe2459 [AwSe2477] := by kernel_rfl
theorem AwSt2319 : runT Tryz.prog [AwSe2320, AwSe2459] ora 2000 AwSe2319 = okT AwSe2319 [AwSe2320, AwSe2459] := by kernel_rfl
theorem AwSt2311 : runT Tryz.prog [AwSe2319] ora 2000 AwSe2311 = okT AwSe2311 [AwSe2319] := by kernel_rfl
theorem AwSt2309 : runT Tryz.prog [AwSe2311] ora 2000 AwSe2309 = okT AwSe2309 [AwSe2311] := by kernel_rfl
theorem AwSt2541 : runT Tryz.prog [] ora 2000 AwSe2541 = okT AwSe2541 [] := by kernel_rfl
theorem AwSt2698 : runT Tryz.prog [] ora 2000 AwSe2698 = okT AwSe2698 [] := by kernel_rfl
theorem AwSt2680 : runT Tryz.prog [AwSe2698] ora 2000 AwSe2680 = okT AwSe2680 [AwSe2698] := by kernel_rfl
end
end Go.Ev
