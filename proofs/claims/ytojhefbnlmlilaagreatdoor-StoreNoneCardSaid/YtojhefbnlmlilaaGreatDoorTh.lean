/- Parts of the run of awake are told by the kernel. -/
import Derived.Test.YtojhefbnlmlilaaGreatDoorBc
import Derived.Test.YtojhefbnlmlilaaGreatDoorRa
import Derived.Test.YtojhefbnlmlilaaGreatDoorProg
import Derived.KernelRfl
set_option linter.unusedVariables false
set_option linter.unusedSimpArgs false
namespace Go.Ev
open Go.Proofs Go.Proofs.Wag
noncomputable section
theorem AwSt3064 : runT Tryz.prog [] ora 2000 AwSe3064 = okT AwSe3064 [] := by kernel_rfl
theorem AwSt3076 : runT Tryz.prog [] ora 2000 AwSe3076 = okT AwSe3076 [] := by kernel_rfl
theorem AwSt3088 : runT Tryz.prog [] ora 2000 AwSe3088 = okT AwSe3088 [] := by kernel_rfl
theorem AwSt3104 : runT Tryz.prog [] ora 2000 AwSe3104 = okT AwSe3104 [] := by kernel_rfl
theorem AwSt3116 : runT Tryz.prog [] ora 2000 AwSe3116 = okT AwSe3116 [] := by kernel_rfl
theorem AwSt3128 : runT Tryz.prog [] ora 2000 AwSe3128 = okT AwSe3128 [] := by kernel_rfl
theorem AwSt3140 : runT Tryz.prog [] ora 2000 AwSe3140 = okT AwSe3140 [] := by kernel_rfl
theorem AwSt3156 : runT Tryz.prog [] ora 2000 AwSe3156 = okT AwSe3156 [] := by kernel_rfl
theorem AwSt3168 : runT Tryz.prog [] ora 2000 AwSe3168 = okT AwSe3168 [] := by kernel_rfl
theorem AwSt3180 : runT Tryz.prog [] ora 2000 AwSe3180 = okT AwSe3180 [] := by kernel_rfl
theorem AwSt3192 : runT Tryz.prog [] ora 2000 AwSe3192 = okT AwSe3192 [] := by kernel_rfl
theorem AwSt3208 : runT Tryz.prog [] ora 2000 AwSe3208 = okT AwSe3208 [] := by kernel_rfl
theorem AwSt3220 : runT Tryz.prog [] ora 2000 AwSe3220 = okT AwSe3220 [] := by kernel_rfl
theorem AwSt3232 : runT Tryz.prog [] ora 2000 AwSe3232 = okT AwSe3232 [] := by kernel_rfl
theorem AwSt3244 : runT Tryz.prog [] ora 2000 AwSe3244 = okT AwSe3244 [] := by kernel_rfl
theorem AwSt3260 : runT Tryz.prog [] ora 2000 AwSe3260 = okT AwSe3260 [] := by kernel_rfl
theorem AwSt3272 : runT Tryz.prog [] ora 2000 AwSe3272 = okT AwSe3272 [] := by kernel_rfl
theorem AwSt3284 : runT Tryz.prog [] ora 2000 AwSe3284 = okT AwSe3284 [] := by kernel_rfl
theorem AwSt3296 : runT Tryz.prog [] ora 2000 AwSe3296 = okT AwSe3296 [] := by kernel_rfl
theorem AwSt2751 : runT Tryz.prog [AwSe2757, AwSe2798, AwSe2839, AwSe2880, AwSe2896, AwSe2908, AwSe2920, AwSe2932, AwSe2948, AwSe2960, AwSe2972, AwSe2984, AwSe3000, AwSe3012, AwSe3024, AwSe3036, AwSe3052, AwSe3064, AwSe3076, AwSe3088, AwSe3104, AwSe3116, AwSe3128, AwSe3140, AwSe3156, AwSe3168, AwSe3180, AwSe3192, AwSe3208, AwSe3220, AwSe3232, AwSe3244, AwSe3260, AwSe3272, AwSe3284, AwSe3296] ora 2000 AwSe2751 = okT AwSe2751 [AwSe2757, AwSe2798, AwSe2839, AwSe2880, AwSe2896, AwSe2908, AwSe2920, AwSe2932, AwSe2948, AwSe2960, AwSe2972, AwSe2984, AwSe3000, AwSe3012, AwSe3024, AwSe3036, AwSe3052, AwSe3064, AwSe3076, AwSe3088, AwSe3104, AwSe3116, AwSe3128, AwSe3140, AwSe3156, AwSe3168, AwSe3180, AwSe3192, AwSe3208, AwSe3220, AwSe3232, AwSe3244, AwSe3260, AwSe3272, AwSe3284, AwSe3296] := by kernel_rfl
theorem AwSt3335 : runU Tryz.prog ora 2000 AwSe3335 (.node [(.node [(.node [(.leaf [(2508, 2508), (2502, 2502), (2514, 2514), (2516, 2516)])]), (.node [(.leaf [(2508, 2514), (2502, 2502), (2514, 2508), (2516, 2516)])])]), (.node [(.node [(.leaf [(2508, 2502), (2502, 2508), (2514, 2514), (2516, 2516)])]), (.node [(.leaf [(2508, 2502), (2502, 2514), (2514, 2508), (2516, 2516)])])]), (.node [(.node [(.leaf [(2508, 2514), (2502, 2508), (2514, 2502), (2516, 2516)])]), (.node [(.leaf [(2508, 2508), (2502, 2514), (2514, 2502), (2516, 2516)])])])]) = (((okB AwSe3335 ∧ True) ∧ (okB AwSe3335 ∧ True) ∧ True) ∧ ((okB AwSe3335 ∧ True) ∧ (okB AwSe3335 ∧ True) ∧ True) ∧ ((okB AwSe3335 ∧ True) ∧ (okB AwSe3335 ∧ True) ∧ True) ∧ True) := by kernel_rfl
theorem AwSt3380 : runT Tryz.prog [] ora 2000 AwSe3380 = okT AwSe3380 [] := by kernel_rfl
theorem AwSt3429 : runT Tryz.prog [] ora 2000 AwSe3429 = okT AwSe3429 [] := by kernel_rfl
theorem AwSt3490 : runT Tryz.prog [] ora 2000 AwSe3490 = okT AwSe3490 [] := by kernel_rfl
theorem AwSt3334 : runT Tryz.prog [AwSe3335, AwSe3380, AwSe3429, AwSe3490] ora 2000 AwSe3334 = okT AwSe3334 [AwSe3335, AwSe3380, AwSe3429, AwSe3490] := by kernel_rfl
theorem AwSt3540 : runT Tryz.prog [] ora 2000 AwSe3540 = okT AwSe3540 [] := by kernel_rfl
theorem AwSt3522 : runT Tryz.prog [AwSe3540] ora 2000 AwSe3522 = okT AwSe3522 [AwSe3540] := by kernel_rfl
theorem AwSt3571 : runT Tryz.prog [] ora 2000 AwSe3571 = okT AwSe3571 [] := by kernel_rfl
end
end Go.Ev
