/- Parts of the run of awake are told by the kernel. -/
import Derived.Test.YtnmmmiliogogfaaGreatDoorBa
import Derived.Test.YtnmmmiliogogfaaGreatDoorRa
import Derived.Test.YtnmmmiliogogfaaGreatDoorProg
import Derived.KernelRfl
set_option linter.unusedVariables false
set_option linter.unusedSimpArgs false
namespace Go.Ev
open Go.Proofs Go.Proofs.Wag
noncomputable section
theorem AwAt6342 : runT Tryz.prog [] ora 2000 AwAe6342 = okT AwAe6342 [] := by kernel_rfl
theorem AwAt6336 : runT Tryz.prog [AwAe6342] ora 2000 AwAe6336 = okT AwAe6336 [AwAe6342] := by kernel_rfl
theorem AwAt6470 : runT Tryz.prog [] ora 2000 AwAe6470 = okT AwAe6470 [] := by kernel_rfl
theorem AwAt4853 : runT Tryz.prog [AwAe4859, AwAe6336, AwAe6470] ora 2000 AwAe4853 = okT AwAe4853 [AwAe4859, AwAe6336, AwAe6470] := by kernel_rfl
theorem AwAt6525 : runT Tryz.prog [] ora 2000 AwAe6525 = okT AwAe6525 [] := by kernel_rfl
end
end Go.Ev
