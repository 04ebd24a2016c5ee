/- Parts of the run of awake are told by the kernel. -/
import Derived.Test.YtojhefbnlmlilaaGreatDoorBc
import Derived.Test.YtojhefbnlmlilaaGreatDoorRa
import Derived.Test.YtojhefbnlmlilaaGreatDoorProg
import Derived.KernelRfl
set_option linter.unusedVariables false
set_option linter.unusedSimpArgs false
namespace Go.Ev
open Go.Proofs Go.Proofs.Wag
noncomputable section
theorem AwSt486 : runT Tryz.prog [] ora 2000 AwSe486 = okT AwSe486 [] := by kernel_rfl
theorem AwSt498 : runT Tryz.prog [] ora 2000 AwSe498 = okT AwSe498 [] := by kernel_rfl
theorem AwSt510 : runT Tryz.prog [] ora 2000 AwSe510 = okT AwSe510 [] := by kernel_rfl
theorem AwSt522 : runT Tryz.prog [] ora 2000 AwSe522 = okT AwSe522 [] := by kernel_rfl
theorem AwSt538 : runT Tryz.prog [] ora 2000 AwSe538 = okT AwSe538 [] := by kernel_rfl
theorem AwSt550 : runT Tryz.prog [] ora 2000 AwSe550 = okT AwSe550 [] := by kernel_rfl
theorem AwSt562 : runT Tryz.prog [] ora 2000 AwSe562 = okT AwSe562 [] := by kernel_rfl
theorem AwSt574 : runT Tryz.prog [] ora 2000 AwSe574 = okT AwSe574 [] := by kernel_rfl
theorem AwSt590 : runT Tryz.prog [] ora 2000 AwSe590 = okT AwSe590 [] := by kernel_rfl
theorem AwSt602 : runT Tryz.prog [] ora 2000 AwSe602 = okT AwSe602 [] := by kernel_rfl
theorem AwSt614 : runT Tryz.prog [] ora 2000 AwSe614 = okT AwSe614 [] := by kernel_rfl
theorem AwSt626 : runT Tryz.prog [] ora 2000 AwSe626 = okT AwSe626 [] := by kernel_rfl
theorem AwSt642 : runT Tryz.prog [] ora 2000 AwSe642 = okT AwSe642 [] := by kernel_rfl
theorem AwSt654 : runT Tryz.prog [] ora 2000 AwSe654 = okT AwSe654 [] := by kernel_rfl
theorem AwSt666 : runT Tryz.prog [] ora 2000 AwSe666 = okT AwSe666 [] := by kernel_rfl
theorem AwSt678 : runT Tryz.prog [] ora 2000 AwSe678 = okT AwSe678 [] := by kernel_rfl
theorem AwSt694 : runT Tryz.prog [] ora 2000 AwSe694 = okT AwSe694 [] := by kernel_rfl
theorem AwSt706 : runT Tryz.prog [] ora 2000 AwSe706 = okT AwSe706 [] := by kernel_rfl
theorem AwSt718 : runT Tryz.prog [] ora 2000 AwSe718 = okT AwSe718 [] := by kernel_rfl
theorem AwSt730 : runT Tryz.prog [] ora 2000 AwSe730 = okT AwSe730 [] := by kernel_rfl
theorem AwSt746 : runT Tryz.prog [] ora 2000 AwSe746 = okT AwSe746 [] := by kernel_rfl
theorem AwSt758 : runT Tryz.prog [] ora 2000 AwSe758 = okT AwSe758 [] := by kernel_rfl
theorem AwSt770 : runT Tryz.prog [] ora 2000 AwSe770 = okT AwSe770 [] := by kernel_rfl
theorem AwSt782 : runT Tryz.prog [] ora 2000 AwSe782 = okT AwSe782 [] := by kernel_rfl
theorem AwSt324 : runT Tryz.prog [AwSe330, AwSe342, AwSe354, AwSe366, AwSe382, AwSe394, AwSe406, AwSe418, AwSe434, AwSe446, AwSe458, AwSe470, AwSe486, AwSe498, AwSe510, AwSe522, AwSe538, AwSe550, AwSe562, AwSe574, AwSe590, AwSe602, AwSe614, AwSe626, AwSe642, AwSe654, AwSe666, AwSe678, AwSe694, AwSe706, AwSe718, AwSe730, AwSe746, AwSe758, AwSe770, AwSe782] ora 2000 AwSe324 = okT AwSe324 [AwSe330, AwSe342, AwSe354, AwSe366, AwSe382, AwSe394, AwSe406, AwSe418, AwSe434, AwSe446, AwSe458, AwSe470, AwSe486, AwSe498, AwSe510, AwSe522, AwSe538, AwSe550, AwSe562, AwSe574, AwSe590, AwSe602, AwSe614, AwSe626, AwSe642, AwSe654, AwSe666, AwSe678, AwSe694, AwSe706, AwSe718, AwSe730, AwSe746, AwSe758, AwSe770, AwSe782] := by kernel_rfl
theorem AwSt913 : runT Tryz.prog [] ora 2000 AwSe913 = okT AwSe913 [] := by kernel_rfl
theorem AwSt806 : runT Tryz.prog [AwSe913] ora 2000 AwSe806 = okT AwSe806 [AwSe913] := by kernel_rfl
theorem AwSt965 : runT Tryz.prog [] ora 2000 AwSe965 = okT AwSe965 [] := by kernel_rfl
theorem AwSt947 : runT Tryz.prog [AwSe965] ora 2000 AwSe947 = okT AwSe947 [AwSe965] := by kernel_rfl
theorem AwSt996 : runT Tryz.prog [] ora 2000 AwSe996 = okT AwSe996 [] := by kernel_rfl
end
end Go.Ev
