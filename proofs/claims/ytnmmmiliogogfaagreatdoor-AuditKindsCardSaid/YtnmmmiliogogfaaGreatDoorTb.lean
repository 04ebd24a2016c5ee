/- Parts of the run of awake are told by the kernel. -/
import Derived.Test.YtnmmmiliogogfaaGreatDoorBa
import Derived.Test.YtnmmmiliogogfaaGreatDoorRa
import Derived.Test.YtnmmmiliogogfaaGreatDoorProg
import Derived.KernelRfl
set_option linter.unusedVariables false
set_option linter.unusedSimpArgs false
namespace Go.Ev
open Go.Proofs Go.Proofs.Wag
noncomputable section
theorem AwAt574 : runT Tryz.prog [] ora 2000 AwAe574 = okT AwAe574 [] := by kernel_rfl
theorem AwAt586 : runT Tryz.prog [] ora 2000 AwAe586 = okT AwAe586 [] := by kernel_rfl
theorem AwAt598 : runT Tryz.prog [] ora 2000 AwAe598 = okT AwAe598 [] := by kernel_rfl
theorem AwAt610 : runT Tryz.prog [] ora 2000 AwAe610 = okT AwAe610 [] := by kernel_rfl
theorem AwAt626 : runT Tryz.prog [] ora 2000 AwAe626 = okT AwAe626 [] := by kernel_rfl
theorem AwAt638 : runT Tryz.prog [] ora 2000 AwAe638 = okT AwAe638 [] := by kernel_rfl
theorem AwAt650 : runT Tryz.prog [] ora 2000 AwAe650 = okT AwAe650 [] := by kernel_rfl
theorem AwAt662 : runT Tryz.prog [] ora 2000 AwAe662 = okT AwAe662 [] := by kernel_rfl
theorem AwAt678 : runT Tryz.prog [] ora 2000 AwAe678 = okT AwAe678 [] := by kernel_rfl
theorem AwAt690 : runT Tryz.prog [] ora 2000 AwAe690 = okT AwAe690 [] := by kernel_rfl
theorem AwAt702 : runT Tryz.prog [] ora 2000 AwAe702 = okT AwAe702 [] := by kernel_rfl
theorem AwAt714 : runT Tryz.prog [] ora 2000 AwAe714 = okT AwAe714 [] := by kernel_rfl
theorem AwAt730 : runT Tryz.prog [] ora 2000 AwAe730 = okT AwAe730 [] := by kernel_rfl
theorem AwAt742 : runT Tryz.prog [] ora 2000 AwAe742 = okT AwAe742 [] := by kernel_rfl
theorem AwAt754 : runT Tryz.prog [] ora 2000 AwAe754 = okT AwAe754 [] := by kernel_rfl
theorem AwAt766 : runT Tryz.prog [] ora 2000 AwAe766 = okT AwAe766 [] := by kernel_rfl
theorem AwAt782 : runT Tryz.prog [] ora 2000 AwAe782 = okT AwAe782 [] := by kernel_rfl
theorem AwAt794 : runT Tryz.prog [] ora 2000 AwAe794 = okT AwAe794 [] := by kernel_rfl
theorem AwAt806 : runT Tryz.prog [] ora 2000 AwAe806 = okT AwAe806 [] := by kernel_rfl
theorem AwAt818 : runT Tryz.prog [] ora 2000 AwAe818 = okT AwAe818 [] := by kernel_rfl
theorem AwAt834 : runT Tryz.prog [] ora 2000 AwAe834 = okT AwAe834 [] := by kernel_rfl
theorem AwAt846 : runT Tryz.prog [] ora 2000 AwAe846 = okT AwAe846 [] := by kernel_rfl
theorem AwAt858 : runT Tryz.prog [] ora 2000 AwAe858 = okT AwAe858 [] := by kernel_rfl
theorem AwAt870 : runT Tryz.prog [] ora 2000 AwAe870 = okT AwAe870 [] := by kernel_rfl
theorem AwAt886 : runT Tryz.prog [] ora 2000 AwAe886 = okT AwAe886 [] := by kernel_rfl
theorem AwAt898 : runT Tryz.prog [] ora 2000 AwAe898 = okT AwAe898 [] := by kernel_rfl
theorem AwAt910 : runT Tryz.prog [] ora 2000 AwAe910 = okT AwAe910 [] := by kernel_rfl
theorem AwAt922 : runT Tryz.prog [] ora 2000 AwAe922 = okT AwAe922 [] := by kernel_rfl
theorem AwAt938 : runT Tryz.prog [] ora 2000 AwAe938 = okT AwAe938 [] := by kernel_rfl
theorem AwAt1026 : runT Tryz.prog [] ora 2000 AwAe1026 = okT AwAe1026 [] := by kernel_rfl
theorem AwAt412 : runT Tryz.prog [AwAe418, AwAe430, AwAe442, AwAe454, AwAe470, AwAe482, AwAe494, AwAe506, AwAe522, AwAe534, AwAe546, AwAe558, AwAe574, AwAe586, AwAe598, AwAe610, AwAe626, AwAe638, AwAe650, AwAe662, AwAe678, AwAe690, AwAe702, AwAe714, AwAe730, AwAe742, AwAe754, AwAe766, AwAe782, AwAe794, AwAe806, AwAe818, AwAe834, AwAe846, AwAe858, AwAe870, AwAe886, AwAe898, AwAe910, AwAe922, AwAe938, AwAe1026] ora 2000 AwAe412 = okT AwAe412 [AwAe418, AwAe430, AwAe442, AwAe454, AwAe470, AwAe482, AwAe494, AwAe506, AwAe522, AwAe534, AwAe546, AwAe558, AwAe574, AwAe586, AwAe598, AwAe610, AwAe626, AwAe638, AwAe650, AwAe662, AwAe678, AwAe690, AwAe702, AwAe714, AwAe730, AwAe742, AwAe754, AwAe766, AwAe782, AwAe794, AwAe806, AwAe818, AwAe834, AwAe846, AwAe858, AwAe870, AwAe886, AwAe898, AwAe910, AwAe922, AwAe938, AwAe1026] := by kernel_rfl
theorem AwAt1050 : runT Tryz.prog [] ora 2000 AwAe1050 = okT AwAe1050 [] := by kernel_rfl
end
end Go.Ev
