/- Parts of the run of awake are told by the kernel. -/
import Derived.Test.YtnmmmiliogogfaaGreatDoorBa
import Derived.Test.YtnmmmiliogogfaaGreatDoorRa
import Derived.Test.YtnmmmiliogogfaaGreatDoorProg
import Derived.KernelRfl
set_option linter.unusedVariables false
set_option linter.unusedSimpArgs false
namespace Go.Ev
open Go.Proofs Go.Proofs.Wag
noncomputable section
theorem AwAt1 : runT Tryz.prog [] ora 2000 AwAe1 = okT AwAe1 [] := by kernel_rfl
theorem AwAt255 : runT Tryz.prog [] ora 2000 AwAe255 = okT AwAe255 [] := by kernel_rfl
theorem AwAt252 : runT Tryz.prog [AwAe255] ora 2000 AwAe252 = okT AwAe252 [AwAe255] := by kernel_rfl
theorem AwAt143 : runT Tryz.prog [AwAe252] ora 2000 AwAe143 = okT AwAe143 [AwAe252] := by kernel_rfl
theorem AwAt142 : runT Tryz.prog [AwAe143] ora 2000 AwAe142 = okT AwAe142 [AwAe143] := by kernel_rfl
theorem AwAt141 : runT Tryz.prog [AwAe142] ora 2000 AwAe141 = okT AwAe141 [AwAe142] := by kernel_rfl
theorem AwAt418 : runT Tryz.prog [] ora 2000 AwAe418 = okT AwAe418 [] := by kernel_rfl
theorem AwAt430 : runT Tryz.prog [] ora 2000 AwAe430 = okT AwAe430 [] := by kernel_rfl
theorem AwAt442 : runT Tryz.prog [] ora 2000 AwAe442 = okT AwAe442 [] := by kernel_rfl
theorem AwAt454 : runT Tryz.prog [] ora 2000 AwAe454 = okT AwAe454 [] := by kernel_rfl
theorem AwAt470 : runT Tryz.prog [] ora 2000 AwAe470 = okT AwAe470 [] := by kernel_rfl
theorem AwAt482 : runT Tryz.prog [] ora 2000 AwAe482 = okT AwAe482 [] := by kernel_rfl
theorem AwAt494 : runT Tryz.prog [] ora 2000 AwAe494 = okT AwAe494 [] := by kernel_rfl
theorem AwAt506 : runT Tryz.prog [] ora 2000 AwAe506 = okT AwAe506 [] := by kernel_rfl
theorem AwAt522 : runT Tryz.prog [] ora 2000 AwAe522 = okT AwAe522 [] := by kernel_rfl
theorem AwAt534 : runT Tryz.prog [] ora 2000 AwAe534 = okT AwAe534 [] := by kernel_rfl
theorem AwAt546 : runT Tryz.prog [] ora 2000 AwAe546 = okT AwAe546 [] := by kernel_rfl
theorem AwAt558 : runT Tryz.prog [] ora 2000 AwAe558 = okT AwAe558 [] := by kernel_rfl
end
end Go.Ev
