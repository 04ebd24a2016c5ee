/- Parts of the run of awake are told by the kernel. -/
import Derived.Test.YtnmmmiliogogfaaGreatDoorBa
import Derived.Test.YtnmmmiliogogfaaGreatDoorRa
import Derived.Test.YtnmmmiliogogfaaGreatDoorProg
import Derived.KernelRfl
set_option linter.unusedVariables false
set_option linter.unusedSimpArgs false
namespace Go.Ev
open Go.Proofs Go.Proofs.Wag
noncomputable section
theorem AwAt2581 : runT Tryz.prog [AwAe2587, AwAe4064, AwAe4198, AwAe4252, AwAe4309] ora 2000 AwAe2581 = okT AwAe2581 [AwAe2587, AwAe4064, AwAe4198, AwAe4252, AwAe4309] := by kernel_rfl
theorem AwAt4386 : runT Tryz.prog [] ora 2000 AwAe4386 = okT AwAe4386 [] := by kernel_rfl
theorem AwAt4477 : runT Tryz.prog [] ora 2000 AwAe4477 = okT AwAe4477 [] := by kernel_rfl
theorem AwAt4384 : runT Tryz.prog [AwAe4386, AwAe4477] ora 2000 AwAe4384 = okT AwAe4384 [AwAe4386, AwAe4477] := by kernel_rfl
theorem AwAt4562 : runT Tryz.prog [] ora 2000 AwAe4562 = okT AwAe4562 [] := by kernel_rfl
theorem AwAt4656 : runT Tryz.prog [] ora 2000 AwAe4656 = okT AwAe4656 [] := by kernel_rfl
end
end Go.Ev
