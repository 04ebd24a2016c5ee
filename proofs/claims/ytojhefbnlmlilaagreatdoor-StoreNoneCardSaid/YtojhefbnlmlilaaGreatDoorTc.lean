/- Parts of the run of awake are told by the kernel. -/
import Derived.Test.YtojhefbnlmlilaaGreatDoorBc
import Derived.Test.YtojhefbnlmlilaaGreatDoorRa
import Derived.Test.YtojhefbnlmlilaaGreatDoorProg
import Derived.KernelRfl
set_option linter.unusedVariables false
set_option linter.unusedSimpArgs false
namespace Go.Ev
open Go.Proofs Go.Proofs.Wag
noncomputable section
theorem AwSt1153 : runT Tryz.prog [] ora 2000 AwSe1153 = okT AwSe1153 [] := by kernel_rfl
theorem AwSt1135 : runT Tryz.prog [AwSe1153] ora 2000 AwSe1135 = okT AwSe1135 [AwSe1153] := by kernel_rfl
theorem AwSt995 : runT Tryz.prog [AwSe996, AwSe1135] ora 2000 AwSe995 = okT AwSe995 [AwSe996, AwSe1135] := by kernel_rfl
theorem AwSt987 : runT Tryz.prog [AwSe995] ora 2000 AwSe987 = okT AwSe987 [AwSe995] := by kernel_rfl
theorem AwSt985 : runT Tryz.prog [AwSe987] ora 2000 AwSe985 = okT AwSe985 [AwSe987] := by kernel_rfl
theorem AwSt982 : runT Tryz.prog [AwSe985] ora 2000 AwSe982 = okT AwSe982 [AwSe985] := by kernel_rfl
theorem AwSt944 : runT Tryz.prog [AwSe947, AwSe982] ora 2000 AwSe944 = okT AwSe944 [AwSe947, AwSe982] := by kernel_rfl
theorem AwSt943 : runT Tryz.prog [AwSe944] ora 2000 AwSe943 = okT AwSe943 [AwSe944] := by kernel_rfl
theorem AwSt942 : runT Tryz.prog [AwSe943] ora 2000 AwSe942 = okT AwSe942 [AwSe943] := by kernel_rfl
theorem AwSt939 : runT Tryz.prog [AwSe942] ora 2000 AwSe939 = okT AwSe939 [AwSe942] := by kernel_rfl
theorem AwSt9 : runT Tryz.prog [AwSe11, AwSe56, AwSe324, AwSe806, AwSe939] ora 2000 AwSe9 = okT AwSe9 [AwSe11, AwSe56, AwSe324, AwSe806, AwSe939] := by kernel_rfl
theorem AwSt7 : runT Tryz.prog [AwSe9] ora 2000 AwSe7 = okT AwSe7 [AwSe9] := by kernel_rfl
theorem AwSt6 : runT Tryz.prog [AwSe7] ora 2000 AwSe6 = okT AwSe6 [AwSe7] := by kernel_rfl
theorem AwSt1324 : runT Tryz.prog [] ora 2000 AwSe1324 = okT AwSe1324 [] := by kernel_rfl
theorem AwSt1317 : runT Tryz.prog [AwSe1324] ora 2000 AwSe1317 = okT AwSe1317 [AwSe1324] := by kernel_rfl
end
end Go.Ev
