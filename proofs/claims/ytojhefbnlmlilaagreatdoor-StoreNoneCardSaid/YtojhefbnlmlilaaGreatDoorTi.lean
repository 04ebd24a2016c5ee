/- Parts of the run of awake are told by the kernel. -/
import Derived.Test.YtojhefbnlmlilaaGreatDoorBc
import Derived.Test.YtojhefbnlmlilaaGreatDoorRa
import Derived.Test.YtojhefbnlmlilaaGreatDoorProg
import Derived.KernelRfl
set_option linter.unusedVariables false
set_option linter.unusedSimpArgs false
namespace Go.Ev
open Go.Proofs Go.Proofs.Wag
noncomputable section
theorem AwSt3728 : runT Tryz.prog [] ora 2000 AwSe3728 = okT AwSe3728 [] := by kernel_rfl
theorem AwSt3710 : runT Tryz.prog [AwSe3728] ora 2000 AwSe3710 = okT AwSe3710 [AwSe3728] := by kernel_rfl
theorem AwSt3570 : runT Tryz.prog [AwSe3571, AwSe3710] ora 2000 AwSe3570 = okT AwSe3570 [AwSe3571, AwSe3710] := by kernel_rfl
theorem AwSt3562 : runT Tryz.prog [AwSe3570] ora 2000 AwSe3562 = okT AwSe3562 [AwSe3570] := by kernel_rfl
theorem AwSt3560 : runT Tryz.prog [AwSe3562] ora 2000 AwSe3560 = okT AwSe3560 [AwSe3562] := by kernel_rfl
theorem AwSt3792 : runT Tryz.prog [] ora 2000 AwSe3792 = okT AwSe3792 [] := by kernel_rfl
theorem AwSt3949 : runT Tryz.prog [] ora 2000 AwSe3949 = okT AwSe3949 [] := by kernel_rfl
theorem AwSt3931 : runT Tryz.prog [AwSe3949] ora 2000 AwSe3931 = okT AwSe3931 [AwSe3949] := by kernel_rfl
theorem AwSt3791 : runT Tryz.prog [AwSe3792, AwSe3931] ora 2000 AwSe3791 = okT AwSe3791 [AwSe3792, AwSe3931] := by kernel_rfl
end
end Go.Ev
