/- Parts of the run of awake are told by the kernel. -/
import Derived.Test.YtojhefbnlmlilaaGreatDoorBc
import Derived.Test.YtojhefbnlmlilaaGreatDoorRa
import Derived.Test.YtojhefbnlmlilaaGreatDoorProg
import Derived.KernelRfl
set_option linter.unusedVariables false
set_option linter.unusedSimpArgs false
namespace Go.Ev
open Go.Proofs Go.Proofs.Wag
noncomputable section
theorem AwSt2540 : runT Tryz.prog [AwSe2541, AwSe2680] ora 2000 AwSe2540 = okT AwSe2540 [AwSe2541, AwSe2680] := by kernel_rfl
theorem AwSt2532 : runT Tryz.prog [AwSe2540] ora 2000 AwSe2532 = okT AwSe2532 [AwSe2540] := by kernel_rfl
theorem AwSt2530 : runT Tryz.prog [AwSe2532] ora 2000 AwSe2530 = okT AwSe2530 [AwSe2532] := by kernel_rfl
theorem AwSt2306 : runT Tryz.prog [AwSe2309, AwSe2530] ora 2000 AwSe2306 = okT AwSe2306 [AwSe2309, AwSe2530] := by kernel_rfl
theorem AwSt2305 : runT Tryz.prog [AwSe2306] ora 2000 AwSe2305 = okT AwSe2305 [AwSe2306] := by kernel_rfl
theorem AwSt2304 : runT Tryz.prog [AwSe2305] ora 2000 AwSe2304 = okT AwSe2304 [AwSe2305] := by kernel_rfl
theorem AwSt2303 : runT Tryz.prog [AwSe2304] ora 2000 AwSe2303 = okT AwSe2303 [AwSe2304] := by kernel_rfl
theorem AwSt2757 : runT Tryz.prog [] ora 2000 AwSe2757 = okT AwSe2757 [] := by kernel_rfl
theorem AwSt2798 : runT Tryz.prog [] ora 2000 AwSe2798 = okT AwSe2798 [] := by kernel_rfl
theorem AwSt2839 : runT Tryz.prog [] ora 2000 AwSe2839 = okT AwSe2839 [] := by kernel_rfl
theorem AwSt2880 : runT Tryz.prog [] ora 2000 AwSe2880 = okT AwSe2880 [] := by kernel_rfl
theorem AwSt2896 : runT Tryz.prog [] ora 2000 AwSe2896 = okT AwSe2896 [] := by kernel_rfl
theorem AwSt2908 : runT Tryz.prog [] ora 2000 AwSe2908 = okT AwSe2908 [] := by kernel_rfl
theorem AwSt2920 : runT Tryz.prog [] ora 2000 AwSe2920 = okT AwSe2920 [] := by kernel_rfl
theorem AwSt2932 : runT Tryz.prog [] ora 2000 AwSe2932 = okT AwSe2932 [] := by kernel_rfl
theorem AwSt2948 : runT Tryz.prog [] ora 2000 AwSe2948 = okT AwSe2948 [] := by kernel_rfl
theorem AwSt2960 : runT Tryz.prog [] ora 2000 AwSe2960 = okT AwSe2960 [] := by kernel_rfl
theorem AwSt2972 : runT Tryz.prog [] ora 2000 AwSe2972 = okT AwSe2972 [] := by kernel_rfl
theorem AwSt2984 : runT Tryz.prog [] ora 2000 AwSe2984 = okT AwSe2984 [] := by kernel_rfl
theorem AwSt3000 : runT Tryz.prog [] ora 2000 AwSe3000 = okT AwSe3000 [] := by kernel_rfl
theorem AwSt3012 : runT Tryz.prog [] ora 2000 AwSe3012 = okT AwSe3012 [] := by kernel_rfl
theorem AwSt3024 : runT Tryz.prog [] ora 2000 AwSe3024 = okT AwSe3024 [] := by kernel_rfl
theorem AwSt3036 : runT Tryz.prog [] ora 2000 AwSe3036 = okT AwSe3036 [] := by kernel_rfl
theorem AwSt3052 : runT Tryz.prog [] ora 2000 AwSe3052 = okT AwSe3052 [] := by kernel_rfl
end
end Go.Ev
