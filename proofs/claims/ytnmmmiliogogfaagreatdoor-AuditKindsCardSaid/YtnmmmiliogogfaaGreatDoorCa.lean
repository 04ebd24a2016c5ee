/- What AuditKinds comes to by plain names, and the row's closed cells. No condition. -/
import Derived.JoinedOf
import Derived.KernelRfl
import Derived.Test.YtnmmmiliogogfaaGreatDoorRows
set_option linter.unusedVariables false
set_option linter.unusedSimpArgs false
namespace Go.Proofs.Law
/-! What a function comes to by plain names, told fast: who was seen is a number's bits. -/
noncomputable section
def viaB (P : Program) : Nat → List FuncId → List FuncId → Nat → List FuncId
  | 0, _, seen, _ => seen.reverse
  | _ + 1, [], seen, _ => seen.reverse
  | n + 1, f :: todo, seen, m =>
    match Nat.beq (Nat.mod (Nat.shiftRight m f) 2) 1 with
    | true => viaB P n todo seen m
    | false => viaB P n ((P.funcs[f]?).elim [] P.leadsTo ++ todo) (f :: seen) (Nat.lor m (Nat.shiftLeft 1 f))
end
theorem bit_eq (m f : Nat) : Nat.beq (Nat.mod (Nat.shiftRight m f) 2) 1 = m.testBit f := by
  have h : m.testBit f = decide (m / 2 ^ f % 2 = 1) := Nat.testBit_eq_decide_div_mod_eq
  rw [h]
  have e : Nat.mod (Nat.shiftRight m f) 2 = m / 2 ^ f % 2 := by
    show (m >>> f) % 2 = _
    rw [Nat.shiftRight_eq_div_pow]
  rw [e]
  cases hq : Nat.beq (m / 2 ^ f % 2) 1 with
  | true => exact (decide_eq_true (Nat.eq_of_beq_eq_true hq)).symm
  | false => exact (decide_eq_false (Nat.ne_of_beq_eq_false hq)).symm
theorem viaB_eq (P : Program) : ∀ (n : Nat) (todo seen : List FuncId) (m : Nat), (∀ x, m.testBit x = seen.contains x) → viaB P n todo seen m = P.closureVia n todo seen
  | 0, _, _, _, _ => by unfold viaB Program.closureVia; rfl
  | _ + 1, [], _, _, _ => by unfold viaB Program.closureVia; rfl
  | n + 1, f :: todo, seen, m, h => by
    unfold viaB Program.closureVia
    rw [bit_eq, h f]
    cases hs : seen.contains f with
    | true => simp only [if_true]; exact viaB_eq P n todo seen m h
    | false =>
      simp only [Bool.false_eq_true, if_false]
      refine viaB_eq P n _ _ _ fun x => ?_
      show (m ||| (1 <<< f)).testBit x = _
      rw [Nat.testBit_or, h x, Nat.testBit_shiftLeft, List.contains_cons, Bool.or_comm]
      congr 1
      by_cases hx : x = f
      · subst hx; simp
      · have : (x == f) = false := by simp [hx]
        rw [this]
        by_cases hle : f ≤ x
        · obtain ⟨j, hj⟩ := Nat.exists_eq_succ_of_ne_zero (Nat.sub_ne_zero_of_lt (Nat.lt_of_le_of_ne hle (fun e => hx e.symm)))
          rw [hj]
          simp [Nat.testBit_succ]
        · simp [hle]
theorem closure_of {P : Program} {f : FuncId} {L : List FuncId} (h : viaB P (1 + (P.funcs.toList.map fun g => (P.leadsTo g).length + 1).sum) [f] [] 0 = L) : P.closure f = L :=
  (viaB_eq P _ [f] [] 0 (fun x => by simp)).symm.trans h
end Go.Proofs.Law
namespace Go.Proofs.YtnmmmiliogogfaaGreatDoor.AuditKinds
open Go.Proofs Go.Proofs.Law
noncomputable section
/-- What the law comes to by plain names. -/
def comes : List FuncId := [3, 4, 9, 19, 47, 96, 157, 158, 159, 95, 156, 20, 222, 282, 97, 21, 8, 16, 28, 57, 29, 17, 30, 32, 59, 61, 117, 31, 58, 114, 34, 35, 60, 115, 63, 116, 177, 48, 98, 99, 178, 49, 100, 160, 213, 280, 101, 161, 50, 102, 103, 87, 145, 211, 146, 212, 163, 147, 23, 51, 240, 24, 118, 179, 241, 242, 243, 244, 245, 202, 246, 62, 119, 120, 148, 180, 181, 247, 216, 214, 149, 152, 88, 150, 151, 215, 33, 36, 64, 22, 37, 65, 74, 121, 182, 183, 248, 122, 123, 184, 66, 125, 194, 195, 124, 185, 191, 254, 186, 249, 187, 250, 251, 188, 252, 253, 293, 189, 190, 192, 193, 67, 38, 68, 126, 196, 255, 256, 294, 313, 127, 198, 130, 200, 197, 128, 199, 257, 258, 295, 259, 260, 296, 297, 314, 261, 262, 263, 264, 129, 69, 131, 132, 136, 203, 266, 218, 267, 298, 268, 269, 299, 300, 315, 270, 271, 272, 273, 137, 106, 164, 201, 139, 265, 204, 71, 70, 134, 135, 133, 73, 72, 39, 75, 76, 40, 42, 78, 77, 140, 138, 43, 81, 82, 83, 142, 84, 206, 207, 92, 141, 205, 274, 79, 276, 275, 301, 316, 317, 330, 318, 319, 331, 332, 335, 320, 321, 322, 323, 80, 93, 45, 85, 143, 208, 278, 279, 277, 144, 209, 210, 91, 153, 217, 154, 219, 155, 220, 221, 281, 302, 86, 89, 90, 46, 94, 18, 41, 44, 5, 10, 11, 12, 13, 14, 25, 15, 26, 52, 104, 105, 162, 223, 27, 53, 54, 55, 108, 107, 109, 165, 224, 225, 283, 303, 226, 284, 304, 227, 228, 110, 166, 169, 229, 167, 168, 170, 230, 171, 231, 285, 305, 286, 287, 236, 237, 292, 311, 328, 312, 329, 172, 232, 288, 233, 234, 291, 307, 326, 308, 309, 327, 310, 289, 290, 306, 324, 333, 336, 337, 338, 325, 334, 173, 235, 111, 174, 238, 175, 112, 113, 176, 239, 56, 7, 6]
end
theorem clo0 : viaB Tryz.prog (1 + (Tryz.prog.funcs.toList.map fun g => (Tryz.prog.leadsTo g).length + 1).sum) [3] [] 0 = comes := by kernel_rfl
theorem clo : Tryz.prog.closure 3 = comes := closure_of clo0
theorem laidOut : laidOutB Tryz.prog = true := by kernel_rfl
theorem rowed : mapsRowed Tryz.prog = true := by kernel_rfl
theorem inPlace : (Rows.auditKindsRow.inPlace == Tryz.prog.inPlace 3) = true := by unfold Program.inPlace; rw [clo]; kernel_rfl
theorem unf0 : Tryz.prog.unfollowed 3 = true := by unfold Program.unfollowed; rw [clo]; kernel_rfl
theorem unf : (Rows.auditKindsRow.unfollowed == Tryz.prog.unfollowed 3) = true := by rw [unf0]; kernel_rfl
theorem recs : (Rows.auditKindsRow.recurses == Tryz.prog.recurses 3) = true := by unfold Program.recurses; rw [unf0]; kernel_rfl
theorem varsN : (Rows.auditKindsRow.named == Tryz.prog.varsNamed 3) = true := by unfold Program.varsNamed; rw [clo]; kernel_rfl
theorem plainK : (Rows.auditKindsRow.plainKeys == Tryz.prog.plainKeys) = true := by kernel_rfl
theorem heard : Tryz.prog.stopsHeard = true := by kernel_rfl
theorem facts : joinedFacts Tryz.prog 3 Tryz.f3 Rows.auditKindsSpec Rows.auditKindsRow = true := by
  unfold joinedFacts
  rw [laidOut, rowed, inPlace, unf, recs, varsN, plainK, heard]
  kernel_rfl
end Go.Proofs.YtnmmmiliogogfaaGreatDoor.AuditKinds
