/- Parts of the run of awake are told by the kernel. -/
import Derived.Test.YtnmmmiliogogfaaGreatDoorBa
import Derived.Test.YtnmmmiliogogfaaGreatDoorRa
import Derived.Test.YtnmmmiliogogfaaGreatDoorProg
import Derived.KernelRfl
set_option linter.unusedVariables false
set_option linter.unusedSimpArgs false
namespace Go.Ev
open Go.Proofs Go.Proofs.Wag
noncomputable section
theorem AwAt1568 : runT Tryz.prog [] ora 2000 AwAe1568 = okT AwAe1568 [] := by kernel_rfl
theorem AwAt1562 : runT Tryz.prog [AwAe1568] ora 2000 AwAe1562 = okT AwAe1562 [AwAe1568] := by kernel_rfl
theorem AwAt1696 : runT Tryz.prog [] ora 2000 AwAe1696 = okT AwAe1696 [] := by kernel_rfl
theorem AwAt1750 : runT Tryz.prog [] ora 2000 AwAe1750 = okT AwAe1750 [] := by kernel_rfl
theorem AwAt79 : runT Tryz.prog [AwAe85, AwAe1562, AwAe1696, AwAe1750] ora 2000 AwAe79 = okT AwAe79 [AwAe85, AwAe1562, AwAe1696, AwAe1750] := by kernel_rfl
theorem AwAt1810 : runT Tryz.prog [] ora 2000 AwAe1810 = okT AwAe1810 [] := by kernel_rfl
end
end Go.Ev
