/- Parts of the run of awake are told by the kernel. -/
import Derived.Test.YtnmmmiliogogfaaGreatDoorBa
import Derived.Test.YtnmmmiliogogfaaGreatDoorRa
import Derived.Test.YtnmmmiliogogfaaGreatDoorProg
import Derived.KernelRfl
set_option linter.unusedVariables false
set_option linter.unusedSimpArgs false
namespace Go.Ev
open Go.Proofs Go.Proofs.Wag
noncomputable section
theorem AwAt6665 : runT Tryz.prog [] ora 2000 AwAe6665 = okT AwAe6665 [] := by kernel_rfl
theorem AwAt6524 : runT Tryz.prog [AwAe6525, AwAe6665] ora 2000 AwAe6524 = okT AwAe6524 [AwAe6525, AwAe6665] := by kernel_rfl
theorem AwAt0 : runT Tryz.prog [AwAe1, AwAe79, AwAe1807, AwAe2581, AwAe4383, AwAe4853, AwAe6524] ora 2000 AwAe0 = okT AwAe0 [AwAe1, AwAe79, AwAe1807, AwAe2581, AwAe4383, AwAe4853, AwAe6524] := by kernel_rfl
end
end Go.Ev
