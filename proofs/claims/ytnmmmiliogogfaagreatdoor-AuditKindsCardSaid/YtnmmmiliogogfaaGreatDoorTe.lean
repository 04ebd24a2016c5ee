/- Parts of the run of awake are told by the kernel. -/
import Derived.Test.YtnmmmiliogogfaaGreatDoorBa
import Derived.Test.YtnmmmiliogogfaaGreatDoorRa
import Derived.Test.YtnmmmiliogogfaaGreatDoorProg
import Derived.KernelRfl
set_option linter.unusedVariables false
set_option linter.unusedSimpArgs false
namespace Go.Ev
open Go.Proofs Go.Proofs.Wag
noncomputable section
theorem AwAt1901 : runT Tryz.prog [] ora 2000 AwAe1901 = okT AwAe1901 [] := by kernel_rfl
theorem AwAt1808 : runT Tryz.prog [AwAe1810, AwAe1901] ora 2000 AwAe1808 = okT AwAe1808 [AwAe1810, AwAe1901] := by kernel_rfl
theorem AwAt1986 : runT Tryz.prog [] ora 2000 AwAe1986 = okT AwAe1986 [] := by kernel_rfl
theorem AwAt2212 : runT Tryz.prog [] ora 2000 AwAe2212 = okT AwAe2212 [] := by kernel_rfl
theorem AwAt2209 : runT Tryz.prog [AwAe2212] ora 2000 AwAe2209 = okT AwAe2209 [AwAe2212] := by kernel_rfl
end
end Go.Ev
