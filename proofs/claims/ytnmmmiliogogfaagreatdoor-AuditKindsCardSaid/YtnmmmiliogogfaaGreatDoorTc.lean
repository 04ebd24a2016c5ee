/- Parts of the run of awake are told by the kernel. -/
import Derived.Test.YtnmmmiliogogfaaGreatDoorBa
import Derived.Test.YtnmmmiliogogfaaGreatDoorRa
import Derived.Test.YtnmmmiliogogfaaGreatDoorProg
import Derived.KernelRfl
set_option linter.unusedVariables false
set_option linter.unusedSimpArgs false
namespace Go.Ev
open Go.Proofs Go.Proofs.Wag
noncomputable section
theorem AwAt1273 : runT Tryz.prog [] ora 2000 AwAe1273 = okT AwAe1273 [] := by kernel_rfl
theorem AwAt1412 : runT Tryz.prog [] ora 2000 AwAe1412 = okT AwAe1412 [] := by kernel_rfl
theorem AwAt1272 : runT Tryz.prog [AwAe1273, AwAe1412] ora 2000 AwAe1272 = okT AwAe1272 [AwAe1273, AwAe1412] := by kernel_rfl
theorem AwAt1264 : runT Tryz.prog [AwAe1272] ora 2000 AwAe1264 = okT AwAe1264 [AwAe1272] := by kernel_rfl
theorem AwAt1262 : runT Tryz.prog [AwAe1264] ora 2000 AwAe1262 = okT AwAe1262 [AwAe1264] := by kernel_rfl
theorem AwAt1259 : runT Tryz.prog [AwAe1262] ora 2000 AwAe1259 = okT AwAe1259 [AwAe1262] := by kernel_rfl
theorem AwAt1218 : runT Tryz.prog [AwAe1259] ora 2000 AwAe1218 = okT AwAe1218 [AwAe1259] := by kernel_rfl
theorem AwAt1217 : runT Tryz.prog [AwAe1218] ora 2000 AwAe1217 = okT AwAe1217 [AwAe1218] := by kernel_rfl
theorem AwAt1216 : runT Tryz.prog [AwAe1217] ora 2000 AwAe1216 = okT AwAe1216 [AwAe1217] := by kernel_rfl
theorem AwAt1213 : runT Tryz.prog [AwAe1216] ora 2000 AwAe1213 = okT AwAe1213 [AwAe1216] := by kernel_rfl
theorem AwAt85 : runT Tryz.prog [AwAe141, AwAe412, AwAe1050, AwAe1213] ora 2000 AwAe85 = okT AwAe85 [AwAe141, AwAe412, AwAe1050, AwAe1213] := by kernel_rfl
end
end Go.Ev
