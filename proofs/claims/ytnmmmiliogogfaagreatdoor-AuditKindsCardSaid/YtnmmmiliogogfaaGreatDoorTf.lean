/- Parts of the run of awake are told by the kernel. -/
import Derived.Test.YtnmmmiliogogfaaGreatDoorBa
import Derived.Test.YtnmmmiliogogfaaGreatDoorRa
import Derived.Test.YtnmmmiliogogfaaGreatDoorProg
import Derived.KernelRfl
set_option linter.unusedVariables false
set_option linter.unusedSimpArgs false
namespace Go.Ev
open Go.Proofs Go.Proofs.Wag
noncomputable section
theorem AwAt2122 : runT Tryz.prog [AwAe2209] ora 2000 AwAe2122 = okT AwAe2122 [AwAe2209] := by kernel_rfl
theorem AwAt2080 : runT Tryz.prog [AwAe2122] ora 2000 AwAe2080 = okT AwAe2080 [AwAe2122] := by kernel_rfl
theorem AwAt1807 : runT Tryz.prog [AwAe1808, AwAe1986, AwAe2080] ora 2000 AwAe1807 = okT AwAe1807 [AwAe1808, AwAe1986, AwAe2080] := by kernel_rfl
theorem AwAt2757 : runT Tryz.prog [] ora 2000 AwAe2757 = okT AwAe2757 [] := by kernel_rfl
theorem AwAt2754 : runT Tryz.prog [AwAe2757] ora 2000 AwAe2754 = okT AwAe2754 [AwAe2757] := by kernel_rfl
theorem AwAt2645 : runT Tryz.prog [AwAe2754] ora 2000 AwAe2645 = okT AwAe2645 [AwAe2754] := by kernel_rfl
end
end Go.Ev
