/- Parts of the run of awake are told by the kernel. -/
import Derived.Test.YtnmmmiliogogfaaGreatDoorBa
import Derived.Test.YtnmmmiliogogfaaGreatDoorRa
import Derived.Test.YtnmmmiliogogfaaGreatDoorProg
import Derived.KernelRfl
set_option linter.unusedVariables false
set_option linter.unusedSimpArgs false
namespace Go.Ev
open Go.Proofs Go.Proofs.Wag
noncomputable section
theorem AwAt5308 : runT Tryz.prog [] ora 2000 AwAe5308 = okT AwAe5308 [] := by kernel_rfl
theorem AwAt5320 : runT Tryz.prog [] ora 2000 AwAe5320 = okT AwAe5320 [] := by kernel_rfl
theorem AwAt5332 : runT Tryz.prog [] ora 2000 AwAe5332 = okT AwAe5332 [] := by kernel_rfl
theorem AwAt5348 : runT Tryz.prog [] ora 2000 AwAe5348 = okT AwAe5348 [] := by kernel_rfl
theorem AwAt5360 : runT Tryz.prog [] ora 2000 AwAe5360 = okT AwAe5360 [] := by kernel_rfl
theorem AwAt5372 : runT Tryz.prog [] ora 2000 AwAe5372 = okT AwAe5372 [] := by kernel_rfl
theorem AwAt5384 : runT Tryz.prog [] ora 2000 AwAe5384 = okT AwAe5384 [] := by kernel_rfl
theorem AwAt5400 : runT Tryz.prog [] ora 2000 AwAe5400 = okT AwAe5400 [] := by kernel_rfl
theorem AwAt5412 : runT Tryz.prog [] ora 2000 AwAe5412 = okT AwAe5412 [] := by kernel_rfl
theorem AwAt5424 : runT Tryz.prog [] ora 2000 AwAe5424 = okT AwAe5424 [] := by kernel_rfl
theorem AwAt5436 : runT Tryz.prog [] ora 2000 AwAe5436 = okT AwAe5436 [] := by kernel_rfl
theorem AwAt5452 : runT Tryz.prog [] ora 2000 AwAe5452 = okT AwAe5452 [] := by kernel_rfl
theorem AwAt5464 : runT Tryz.prog [] ora 2000 AwAe5464 = okT AwAe5464 [] := by kernel_rfl
theorem AwAt5476 : runT Tryz.prog [] ora 2000 AwAe5476 = okT AwAe5476 [] := by kernel_rfl
theorem AwAt5488 : runT Tryz.prog [] ora 2000 AwAe5488 = okT AwAe5488 [] := by kernel_rfl
theorem AwAt5504 : runT Tryz.prog [] ora 2000 AwAe5504 = okT AwAe5504 [] := by kernel_rfl
theorem AwAt5516 : runT Tryz.prog [] ora 2000 AwAe5516 = okT AwAe5516 [] := by kernel_rfl
theorem AwAt5528 : runT Tryz.prog [] ora 2000 AwAe5528 = okT AwAe5528 [] := by kernel_rfl
theorem AwAt5540 : runT Tryz.prog [] ora 2000 AwAe5540 = okT AwAe5540 [] := by kernel_rfl
theorem AwAt5556 : runT Tryz.prog [] ora 2000 AwAe5556 = okT AwAe5556 [] := by kernel_rfl
theorem AwAt5568 : runT Tryz.prog [] ora 2000 AwAe5568 = okT AwAe5568 [] := by kernel_rfl
theorem AwAt5580 : runT Tryz.prog [] ora 2000 AwAe5580 = okT AwAe5580 [] := by kernel_rfl
theorem AwAt5592 : runT Tryz.prog [] ora 2000 AwAe5592 = okT AwAe5592 [] := by kernel_rfl
theorem AwAt5608 : runT Tryz.prog [] ora 2000 AwAe5608 = okT AwAe5608 [] := by kernel_rfl
theorem AwAt5620 : runT Tryz.prog [] ora 2000 AwAe5620 = okT AwAe5620 [] := by kernel_rfl
theorem AwAt5632 : runT Tryz.prog [] ora 2000 AwAe5632 = okT AwAe5632 [] := by kernel_rfl
theorem AwAt5644 : runT Tryz.prog [] ora 2000 AwAe5644 = okT AwAe5644 [] := by kernel_rfl
theorem AwAt5660 : runT Tryz.prog [] ora 2000 AwAe5660 = okT AwAe5660 [] := by kernel_rfl
theorem AwAt5672 : runT Tryz.prog [] ora 2000 AwAe5672 = okT AwAe5672 [] := by kernel_rfl
theorem AwAt5684 : runT Tryz.prog [] ora 2000 AwAe5684 = okT AwAe5684 [] := by kernel_rfl
theorem AwAt5696 : runT Tryz.prog [] ora 2000 AwAe5696 = okT AwAe5696 [] := by kernel_rfl
theorem AwAt5712 : runT Tryz.prog [] ora 2000 AwAe5712 = okT AwAe5712 [] := by kernel_rfl
theorem AwAt5800 : runT Tryz.prog [] ora 2000 AwAe5800 = okT AwAe5800 [] := by kernel_rfl
theorem AwAt5186 : runT Tryz.prog [AwAe5192, AwAe5204, AwAe5216, AwAe5228, AwAe5244, AwAe5256, AwAe5268, AwAe5280] ora 2000 AwAe5186 = okT AwAe5186 [AwAe5192, AwAe5204, AwAe5216, AwAe5228, AwAe5244, AwAe5256, AwAe5268, AwAe5280] := by kernel_rfl
theorem AwAt5824 : runT Tryz.prog [] ora 2000 AwAe5824 = okT AwAe5824 [] := by kernel_rfl
end
end Go.Ev
