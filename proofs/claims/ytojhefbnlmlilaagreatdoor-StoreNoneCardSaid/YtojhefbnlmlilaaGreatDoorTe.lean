/- Parts of the run of awake are told by the kernel. -/
import Derived.Test.YtojhefbnlmlilaaGreatDoorBc
import Derived.Test.YtojhefbnlmlilaaGreatDoorRa
import Derived.Test.YtojhefbnlmlilaaGreatDoorProg
import Derived.KernelRfl
set_option linter.unusedVariables false
set_option linter.unusedSimpArgs false
namespace Go.Ev
open Go.Proofs Go.Proofs.Wag
noncomputable section
theorem AwSt1813 : runT Tryz.prog [] ora 2000 AwSe1813 = okT AwSe1813 [] := by kernel_rfl
theorem AwSt1845 : runT Tryz.prog [] ora 2000 AwSe1845 = okT AwSe1845 [] := by kernel_rfl
theorem AwSt1675 : runT Tryz.prog [AwSe1681, AwSe1781, AwSe1813, AwSe1845] ora 2000 AwSe1675 = okT AwSe1675 [AwSe1681, AwSe1781, AwSe1813, AwSe1845] := by kernel_rfl
theorem AwSt1385 : runT Tryz.prog [AwSe1386, AwSe1675] ora 2000 AwSe1385 = okT AwSe1385 [AwSe1386, AwSe1675] := by kernel_rfl
theorem AwSt1881 : runT Tryz.prog [] ora 2000 AwSe1881 = okT AwSe1881 [] := by kernel_rfl
theorem AwSt1874 : runT Tryz.prog [AwSe1881] ora 2000 AwSe1874 = okT AwSe1874 [AwSe1881] := by kernel_rfl
theorem AwSt1873 : runT Tryz.prog [AwSe1874] ora 2000 AwSe1873 = okT AwSe1873 [AwSe1874] := by kernel_rfl
theorem AwSt1961 : runT Tryz.prog [] ora 2000 AwSe1961 = okT AwSe1961 [] := by kernel_rfl
theorem AwSt1978 : runT Tryz.prog [] ora 2000 AwSe1978 = okT AwSe1978 [] := by kernel_rfl
theorem AwSt1995 : runT Tryz.prog [] ora 2000 AwSe1995 = okT AwSe1995 [] := by kernel_rfl
theorem AwSt1951 : runT Tryz.prog [AwSe1961, AwSe1978, AwSe1995] ora 2000 AwSe1951 = okT AwSe1951 [AwSe1961, AwSe1978, AwSe1995] := by kernel_rfl
theorem AwSt1948 : runT Tryz.prog [AwSe1951] ora 2000 AwSe1948 = okT AwSe1948 [AwSe1951] := by kernel_rfl
theorem AwSt1947 : runT Tryz.prog [AwSe1948] ora 2000 AwSe1947 = okT AwSe1947 [AwSe1948] := by kernel_rfl
theorem AwSt2048 : runT Tryz.prog [] ora 2000 AwSe2048 = okT AwSe2048 [] := by kernel_rfl
theorem AwSt2094 : runT Tryz.prog [] ora 2000 AwSe2094 = okT AwSe2094 [] := by kernel_rfl
theorem AwSt2027 : runT Tryz.prog [AwSe2048, AwSe2094] ora 2000 AwSe2027 = okT AwSe2027 [AwSe2048, AwSe2094] := by kernel_rfl
theorem AwSt2123 : runT Tryz.prog [] ora 2000 AwSe2123 = okT AwSe2123 [] := by kernel_rfl
end
end Go.Ev
