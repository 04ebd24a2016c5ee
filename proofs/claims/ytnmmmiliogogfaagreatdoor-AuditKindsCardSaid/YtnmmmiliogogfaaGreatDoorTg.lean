/- Parts of the run of awake are told by the kernel. -/
import Derived.Test.YtnmmmiliogogfaaGreatDoorBa
import Derived.Test.YtnmmmiliogogfaaGreatDoorRa
import Derived.Test.YtnmmmiliogogfaaGreatDoorProg
import Derived.KernelRfl
set_option linter.unusedVariables false
set_option linter.unusedSimpArgs false
namespace Go.Ev
open Go.Proofs Go.Proofs.Wag
noncomputable section
theorem AwAt2644 : runT Tryz.prog [AwAe2645] ora 2000 AwAe2644 = okT AwAe2644 [AwAe2645] := by kernel_rfl
theorem AwAt2643 : runT Tryz.prog [AwAe2644] ora 2000 AwAe2643 = okT AwAe2643 [AwAe2644] := by kernel_rfl
theorem AwAt2920 : runT Tryz.prog [] ora 2000 AwAe2920 = okT AwAe2920 [] := by kernel_rfl
theorem AwAt2932 : runT Tryz.prog [] ora 2000 AwAe2932 = okT AwAe2932 [] := by kernel_rfl
theorem AwAt2944 : runT Tryz.prog [] ora 2000 AwAe2944 = okT AwAe2944 [] := by kernel_rfl
theorem AwAt2956 : runT Tryz.prog [] ora 2000 AwAe2956 = okT AwAe2956 [] := by kernel_rfl
theorem AwAt2972 : runT Tryz.prog [] ora 2000 AwAe2972 = okT AwAe2972 [] := by kernel_rfl
theorem AwAt2984 : runT Tryz.prog [] ora 2000 AwAe2984 = okT AwAe2984 [] := by kernel_rfl
theorem AwAt2996 : runT Tryz.prog [] ora 2000 AwAe2996 = okT AwAe2996 [] := by kernel_rfl
theorem AwAt3008 : runT Tryz.prog [] ora 2000 AwAe3008 = okT AwAe3008 [] := by kernel_rfl
theorem AwAt3024 : runT Tryz.prog [] ora 2000 AwAe3024 = okT AwAe3024 [] := by kernel_rfl
theorem AwAt3036 : runT Tryz.prog [] ora 2000 AwAe3036 = okT AwAe3036 [] := by kernel_rfl
theorem AwAt3048 : runT Tryz.prog [] ora 2000 AwAe3048 = okT AwAe3048 [] := by kernel_rfl
theorem AwAt3060 : runT Tryz.prog [] ora 2000 AwAe3060 = okT AwAe3060 [] := by kernel_rfl
theorem AwAt3076 : runT Tryz.prog [] ora 2000 AwAe3076 = okT AwAe3076 [] := by kernel_rfl
theorem AwAt3088 : runT Tryz.prog [] ora 2000 AwAe3088 = okT AwAe3088 [] := by kernel_rfl
theorem AwAt3100 : runT Tryz.prog [] ora 2000 AwAe3100 = okT AwAe3100 [] := by kernel_rfl
theorem AwAt3112 : runT Tryz.prog [] ora 2000 AwAe3112 = okT AwAe3112 [] := by kernel_rfl
theorem AwAt3128 : runT Tryz.prog [] ora 2000 AwAe3128 = okT AwAe3128 [] := by kernel_rfl
theorem AwAt3140 : runT Tryz.prog [] ora 2000 AwAe3140 = okT AwAe3140 [] := by kernel_rfl
theorem AwAt3152 : runT Tryz.prog [] ora 2000 AwAe3152 = okT AwAe3152 [] := by kernel_rfl
theorem AwAt3164 : runT Tryz.prog [] ora 2000 AwAe3164 = okT AwAe3164 [] := by kernel_rfl
theorem AwAt3180 : runT Tryz.prog [] ora 2000 AwAe3180 = okT AwAe3180 [] := by kernel_rfl
theorem AwAt3192 : runT Tryz.prog [] ora 2000 AwAe3192 = okT AwAe3192 [] := by kernel_rfl
theorem AwAt3204 : runT Tryz.prog [] ora 2000 AwAe3204 = okT AwAe3204 [] := by kernel_rfl
theorem AwAt3216 : runT Tryz.prog [] ora 2000 AwAe3216 = okT AwAe3216 [] := by kernel_rfl
theorem AwAt3232 : runT Tryz.prog [] ora 2000 AwAe3232 = okT AwAe3232 [] := by kernel_rfl
theorem AwAt3244 : runT Tryz.prog [] ora 2000 AwAe3244 = okT AwAe3244 [] := by kernel_rfl
theorem AwAt3256 : runT Tryz.prog [] ora 2000 AwAe3256 = okT AwAe3256 [] := by kernel_rfl
theorem AwAt3268 : runT Tryz.prog [] ora 2000 AwAe3268 = okT AwAe3268 [] := by kernel_rfl
theorem AwAt3284 : runT Tryz.prog [] ora 2000 AwAe3284 = okT AwAe3284 [] := by kernel_rfl
theorem AwAt3296 : runT Tryz.prog [] ora 2000 AwAe3296 = okT AwAe3296 [] := by kernel_rfl
theorem AwAt3308 : runT Tryz.prog [] ora 2000 AwAe3308 = okT AwAe3308 [] := by kernel_rfl
theorem AwAt3320 : runT Tryz.prog [] ora 2000 AwAe3320 = okT AwAe3320 [] := by kernel_rfl
theorem AwAt3336 : runT Tryz.prog [] ora 2000 AwAe3336 = okT AwAe3336 [] := by kernel_rfl
theorem AwAt3348 : runT Tryz.prog [] ora 2000 AwAe3348 = okT AwAe3348 [] := by kernel_rfl
theorem AwAt3360 : runT Tryz.prog [] ora 2000 AwAe3360 = okT AwAe3360 [] := by kernel_rfl
theorem AwAt3372 : runT Tryz.prog [] ora 2000 AwAe3372 = okT AwAe3372 [] := by kernel_rfl
theorem AwAt3388 : runT Tryz.prog [] ora 2000 AwAe3388 = okT AwAe3388 [] := by kernel_rfl
theorem AwAt3400 : runT Tryz.prog [] ora 2000 AwAe3400 = okT AwAe3400 [] := by kernel_rfl
theorem AwAt3412 : runT Tryz.prog [] ora 2000 AwAe3412 = okT AwAe3412 [] := by kernel_rfl
theorem AwAt3424 : runT Tryz.prog [] ora 2000 AwAe3424 = okT AwAe3424 [] := by kernel_rfl
theorem AwAt3440 : runT Tryz.prog [] ora 2000 AwAe3440 = okT AwAe3440 [] := by kernel_rfl
theorem AwAt3528 : runT Tryz.prog [] ora 2000 AwAe3528 = okT AwAe3528 [] := by kernel_rfl
theorem AwAt2914 : runT Tryz.prog [AwAe2920, AwAe2932, AwAe2944, AwAe2956, AwAe2972, AwAe2984, AwAe2996, AwAe3008, AwAe3024, AwAe3036, AwAe3048, AwAe3060, AwAe3076, AwAe3088, AwAe3100, AwAe3112, AwAe3128, AwAe3140, AwAe3152, AwAe3164, AwAe3180, AwAe3192, AwAe3204, AwAe3216, AwAe3232, AwAe3244, AwAe3256, AwAe3268, AwAe3284, AwAe3296, AwAe3308, AwAe3320, AwAe3336, AwAe3348, AwAe3360, AwAe3372, AwAe3388, AwAe3400, AwAe3412, AwAe3424, AwAe3440, AwAe3528] ora 2000 AwAe2914 = okT AwAe2914 [AwAe2920, AwAe2932, AwAe2944, AwAe2956, AwAe2972, AwAe2984, AwAe2996, AwAe3008, AwAe3024, AwAe3036, AwAe3048, AwAe3060, AwAe3076, AwAe3088, AwAe3100, AwAe3112, AwAe3128, AwAe3140, AwAe3152, AwAe3164, AwAe3180, AwAe3192, AwAe3204, AwAe3216, AwAe3232, AwAe3244, AwAe3256, AwAe3268, AwAe3284, AwAe3296, AwAe3308, AwAe3320, AwAe3336, AwAe3348, AwAe3360, AwAe3372, AwAe3388, AwAe3400, AwAe3412, AwAe3424, AwAe3440, AwAe3528] := by kernel_rfl
end
end Go.Ev
