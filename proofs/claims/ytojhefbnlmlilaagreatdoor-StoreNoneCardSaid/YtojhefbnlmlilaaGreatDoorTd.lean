/- Parts of the run of awake are told by the kernel. -/
import Derived.Test.YtojhefbnlmlilaaGreatDoorBc
import Derived.Test.YtojhefbnlmlilaaGreatDoorRa
import Derived.Test.YtojhefbnlmlilaaGreatDoorProg
import Derived.KernelRfl
set_option linter.unusedVariables false
set_option linter.unusedSimpArgs false
namespace Go.Ev
open Go.Proofs Go.Proofs.Wag
noncomputable section
theorem AwSt1316 : runT Tryz.prog [AwSe1317] ora 2000 AwSe1316 = okT AwSe1316 [AwSe1317] := by kernel_rfl
theorem AwSt1404 : runT Tryz.prog [] ora 2000 AwSe1404 = okT AwSe1404 [] := by kernel_rfl
theorem AwSt1421 : runT Tryz.prog [] ora 2000 AwSe1421 = okT AwSe1421 [] := by kernel_rfl
theorem AwSt1438 : runT Tryz.prog [] ora 2000 AwSe1438 = okT AwSe1438 [] := by kernel_rfl
theorem AwSt1394 : runT Tryz.prog [AwSe1404, AwSe1421, AwSe1438] ora 2000 AwSe1394 = okT AwSe1394 [AwSe1404, AwSe1421, AwSe1438] := by kernel_rfl
theorem AwSt1391 : runT Tryz.prog [AwSe1394] ora 2000 AwSe1391 = okT AwSe1391 [AwSe1394] := by kernel_rfl
theorem AwSt1390 : runT Tryz.prog [AwSe1391] ora 2000 AwSe1390 = okT AwSe1390 [AwSe1391] := by kernel_rfl
theorem AwSt1491 : runT Tryz.prog [] ora 2000 AwSe1491 = okT AwSe1491 [] := by kernel_rfl
theorem AwSt1537 : runT Tryz.prog [] ora 2000 AwSe1537 = okT AwSe1537 [] := by kernel_rfl
theorem AwSt1470 : runT Tryz.prog [AwSe1491, AwSe1537] ora 2000 AwSe1470 = okT AwSe1470 [AwSe1491, AwSe1537] := by kernel_rfl
theorem AwSt1566 : runT Tryz.prog [] ora 2000 AwSe1566 = okT AwSe1566 [] := by kernel_rfl
theorem AwSt1387 : runT Tryz.prog [AwSe1390, AwSe1470, AwSe1566] ora 2000 AwSe1387 = okT AwSe1387 [AwSe1390, AwSe1470, AwSe1566] := by kernel_rfl
theorem AwSt1386 : runT Tryz.prog [AwSe1387] ora 2000 AwSe1386 = okT AwSe1386 [AwSe1387] := by kernel_rfl
theorem AwSt1724 : runT Tryz.prog [] ora 2000 AwSe1724 = okT AwSe1724 [] := by kernel_rfl
theorem AwSt1683 : runT Tryz.prog [AwSe1724] ora 2000 AwSe1683 = okT AwSe1683 [AwSe1724] := by kernel_rfl
theorem AwSt1681 : runT Tryz.prog [AwSe1683] ora 2000 AwSe1681 = okT AwSe1681 [AwSe1683] := by kernel_rfl
theorem AwSt1781 : runT Tryz.prog [] ora 2000 AwSe1781 = okT AwSe1781 [] := by kernel_rfl
end
end Go.Ev
