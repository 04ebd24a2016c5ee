/- Parts of the run of awake are told by the kernel. -/
import Derived.Test.YtojhefbnlmlilaaGreatDoorBc
import Derived.Test.YtojhefbnlmlilaaGreatDoorRa
import Derived.Test.YtojhefbnlmlilaaGreatDoorProg
import Derived.KernelRfl
set_option linter.unusedVariables false
set_option linter.unusedSimpArgs false
namespace Go.Ev
open Go.Proofs Go.Proofs.Wag
noncomputable section
theorem AwSt1 : runT Tryz.prog [] ora 2000 AwSe1 = okT AwSe1 [] := by kernel_rfl
theorem AwSt11 : runT Tryz.prog [] ora 2000 AwSe11 = okT AwSe11 [] := by kernel_rfl
theorem AwSt112 : runT Tryz.prog [] ora 2000 AwSe112 = okT AwSe112 [] := by kernel_rfl
theorem AwSt59 : runT Tryz.prog [AwSe112] ora 2000 AwSe59 = okT AwSe59 [AwSe112] := by kernel_rfl
theorem AwSt188 : runT Tryz.prog [] ora 2000 AwSe188 = okT AwSe188 [] := by kernel_rfl
theorem AwSt170 : runT Tryz.prog [AwSe188] ora 2000 AwSe170 = okT AwSe170 [AwSe188] := by kernel_rfl
theorem AwSt258 : runT Tryz.prog [] ora 2000 AwSe258 = okT AwSe258 [] := by kernel_rfl
theorem AwSt205 : runT Tryz.prog [AwSe258] ora 2000 AwSe205 = okT AwSe205 [AwSe258] := by kernel_rfl
theorem AwSt167 : runT Tryz.prog [AwSe170, AwSe205] ora 2000 AwSe167 = okT AwSe167 [AwSe170, AwSe205] := by kernel_rfl
theorem AwSt58 : runT Tryz.prog [AwSe59, AwSe167] ora 2000 AwSe58 = okT AwSe58 [AwSe59, AwSe167] := by kernel_rfl
theorem AwSt57 : runT Tryz.prog [AwSe58] ora 2000 AwSe57 = okT AwSe57 [AwSe58] := by kernel_rfl
theorem AwSt56 : runT Tryz.prog [AwSe57] ora 2000 AwSe56 = okT AwSe56 [AwSe57] := by kernel_rfl
theorem AwSt330 : runT Tryz.prog [] ora 2000 AwSe330 = okT AwSe330 [] := by kernel_rfl
theorem AwSt342 : runT Tryz.prog [] ora 2000 AwSe342 = okT AwSe342 [] := by kernel_rfl
theorem AwSt354 : runT Tryz.prog [] ora 2000 AwSe354 = okT AwSe354 [] := by kernel_rfl
theorem AwSt366 : runT Tryz.prog [] ora 2000 AwSe366 = okT AwSe366 [] := by kernel_rfl
theorem AwSt382 : runT Tryz.prog [] ora 2000 AwSe382 = okT AwSe382 [] := by kernel_rfl
theorem AwSt394 : runT Tryz.prog [] ora 2000 AwSe394 = okT AwSe394 [] := by kernel_rfl
theorem AwSt406 : runT Tryz.prog [] ora 2000 AwSe406 = okT AwSe406 [] := by kernel_rfl
theorem AwSt418 : runT Tryz.prog [] ora 2000 AwSe418 = okT AwSe418 [] := by kernel_rfl
theorem AwSt434 : runT Tryz.prog [] ora 2000 AwSe434 = okT AwSe434 [] := by kernel_rfl
theorem AwSt446 : runT Tryz.prog [] ora 2000 AwSe446 = okT AwSe446 [] := by kernel_rfl
theorem AwSt458 : runT Tryz.prog [] ora 2000 AwSe458 = okT AwSe458 [] := by kernel_rfl
theorem AwSt470 : runT Tryz.prog [] ora 2000 AwSe470 = okT AwSe470 [] := by kernel_rfl
end
end Go.Ev
