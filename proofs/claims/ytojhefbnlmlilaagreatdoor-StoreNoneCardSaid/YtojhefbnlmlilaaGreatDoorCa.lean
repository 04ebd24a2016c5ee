/- What StoreNone comes to by plain names, and the row's closed cells. No condition. -/
import Derived.JoinedOf
import Derived.KernelRfl
import Derived.Test.YtojhefbnlmlilaaGreatDoorRows
set_option linter.unusedVariables false
set_option linter.unusedSimpArgs false
namespace Go.Proofs.Law
/-! What a function comes to by plain names, told fast: who was seen is a number's bits. -/
noncomputable section
def viaB (P : Program) : Nat → List FuncId → List FuncId → Nat → List FuncId
  | 0, _, seen, _ => seen.reverse
  | _ + 1, [], seen, _ => seen.reverse
  | n + 1, f :: todo, seen, m =>
    match Nat.beq (Nat.mod (Nat.shiftRight m f) 2) 1 with
    | true => viaB P n todo seen m
    | false => viaB P n ((P.funcs[f]?).elim [] P.leadsTo ++ todo) (f :: seen) (Nat.lor m (Nat.shiftLeft 1 f))
end
theorem bit_eq (m f : Nat) : Nat.beq (Nat.mod (Nat.shiftRight m f) 2) 1 = m.testBit f := by
  have h : m.testBit f = decide (m / 2 ^ f % 2 = 1) := Nat.testBit_eq_decide_div_mod_eq
  rw [h]
  have e : Nat.mod (Nat.shiftRight m f) 2 = m / 2 ^ f % 2 := by
    show (m >>> f) % 2 = _
    rw [Nat.shiftRight_eq_div_pow]
  rw [e]
  cases hq : Nat.beq (m / 2 ^ f % 2) 1 with
  | true => exact (decide_eq_true (Nat.eq_of_beq_eq_true hq)).symm
  | false => exact (decide_eq_false (Nat.ne_of_beq_eq_false hq)).symm
theorem viaB_eq (P : Program) : ∀ (n : Nat) (todo seen : List FuncId) (m : Nat), (∀ x, m.testBit x = seen.contains x) → viaB P n todo seen m = P.closureVia n todo seen
  | 0, _, _, _, _ => by unfold viaB Program.closureVia; rfl
  | _ + 1, [], _, _, _ => by unfold viaB Program.closureVia; rfl
  | n + 1, f :: todo, seen, m, h => by
    unfold viaB Program.closureVia
    rw [bit_eq, h f]
    cases hs : seen.contains f with
    | true => simp only [if_true]; exact viaB_eq P n todo seen m h
    | false =>
      simp only [Bool.false_eq_true, if_false]
      refine viaB_eq P n _ _ _ fun x => ?_
      show (m ||| (1 <<< f)).testBit x = _
      rw [Nat.testBit_or, h x, Nat.testBit_shiftLeft, List.contains_cons, Bool.or_comm]
      congr 1
      by_cases hx : x = f
      · subst hx; simp
      · have : (x == f) = false := by simp [hx]
        rw [this]
        by_cases hle : f ≤ x
        · obtain ⟨j, hj⟩ := Nat.exists_eq_succ_of_ne_zero (Nat.sub_ne_zero_of_lt (Nat.lt_of_le_of_ne hle (fun e => hx e.symm)))
          rw [hj]
          simp [Nat.testBit_succ]
        · simp [hle]
theorem closure_of {P : Program} {f : FuncId} {L : List FuncId} (h : viaB P (1 + (P.funcs.toList.map fun g => (P.leadsTo g).length + 1).sum) [f] [] 0 = L) : P.closure f = L :=
  (viaB_eq P _ [f] [] 0 (fun x => by simp)).symm.trans h
end Go.Proofs.Law
namespace Go.Proofs.YtojhefbnlmlilaaGreatDoor.StoreNone
open Go.Proofs Go.Proofs.Law
noncomputable section
/-- What the law comes to by plain names. -/
def comes : List FuncId := [3, 4, 14, 43, 88, 44, 15, 45, 89, 90, 146, 148, 205, 207, 231, 147, 204, 264, 150, 151, 206, 265, 209, 266, 316, 126, 168, 169, 317, 127, 185, 251, 237, 293, 186, 252, 187, 253, 101, 108, 166, 236, 57, 100, 58, 167, 128, 188, 347, 129, 267, 318, 348, 349, 350, 351, 352, 288, 353, 208, 268, 164, 170, 232, 233, 292, 240, 238, 171, 174, 109, 172, 173, 239, 149, 152, 210, 70, 153, 211, 220, 269, 319, 320, 354, 270, 271, 321, 212, 244, 302, 303, 272, 322, 328, 183, 323, 355, 324, 336, 337, 325, 356, 357, 380, 326, 327, 329, 330, 213, 154, 214, 273, 331, 358, 359, 381, 389, 274, 122, 277, 304, 287, 275, 332, 360, 361, 382, 362, 363, 383, 384, 390, 364, 365, 366, 367, 276, 215, 278, 279, 177, 243, 294, 245, 295, 335, 296, 297, 338, 339, 377, 298, 299, 300, 301, 281, 176, 242, 333, 181, 368, 249, 217, 216, 125, 280, 228, 219, 218, 155, 221, 222, 64, 42, 117, 116, 182, 180, 60, 102, 103, 104, 162, 105, 227, 229, 113, 161, 226, 284, 118, 286, 285, 334, 369, 370, 385, 371, 372, 386, 387, 391, 373, 374, 375, 376, 119, 114, 62, 106, 163, 230, 290, 291, 289, 165, 234, 235, 112, 175, 241, 178, 246, 179, 247, 248, 305, 340, 107, 110, 111, 63, 115, 7, 30, 27, 56, 99, 66, 120, 121, 68, 67, 123, 124, 184, 250, 31, 32, 33, 71, 130, 72, 131, 22, 35, 36, 74, 75, 34, 73, 55, 29, 37, 77, 76, 78, 132, 189, 190, 254, 306, 191, 255, 307, 192, 193, 79, 133, 136, 194, 134, 135, 137, 195, 138, 196, 256, 308, 257, 258, 200, 201, 263, 314, 345, 315, 346, 139, 197, 259, 198, 199, 262, 310, 343, 311, 312, 344, 313, 260, 261, 309, 341, 378, 388, 392, 393, 342, 379, 140, 84, 80, 141, 202, 142, 81, 82, 143, 203, 38, 83, 144, 145, 85, 16, 46, 92, 157, 158, 159, 91, 156, 223, 224, 282, 93, 5, 17, 47, 94, 51, 41, 87, 48, 49, 95, 12, 50, 96, 19, 97, 160, 225, 283, 13, 21, 18, 52, 98, 39, 25, 59, 61, 40, 86, 26, 65, 20, 53, 54, 23, 24, 6, 28, 69, 8, 9, 10, 11]
end
theorem clo0 : viaB Tryz.prog (1 + (Tryz.prog.funcs.toList.map fun g => (Tryz.prog.leadsTo g).length + 1).sum) [3] [] 0 = comes := by kernel_rfl
theorem clo : Tryz.prog.closure 3 = comes := closure_of clo0
theorem laidOut : laidOutB Tryz.prog = true := by kernel_rfl
theorem rowed : mapsRowed Tryz.prog = true := by kernel_rfl
theorem inPlace : (Rows.storeNoneRow.inPlace == Tryz.prog.inPlace 3) = true := by unfold Program.inPlace; rw [clo]; kernel_rfl
theorem unf0 : Tryz.prog.unfollowed 3 = true := by unfold Program.unfollowed; rw [clo]; kernel_rfl
theorem unf : (Rows.storeNoneRow.unfollowed == Tryz.prog.unfollowed 3) = true := by rw [unf0]; kernel_rfl
theorem recs : (Rows.storeNoneRow.recurses == Tryz.prog.recurses 3) = true := by unfold Program.recurses; rw [unf0]; kernel_rfl
theorem varsN : (Rows.storeNoneRow.named == Tryz.prog.varsNamed 3) = true := by unfold Program.varsNamed; rw [clo]; kernel_rfl
theorem plainK : (Rows.storeNoneRow.plainKeys == Tryz.prog.plainKeys) = true := by kernel_rfl
theorem heard : Tryz.prog.stopsHeard = true := by kernel_rfl
theorem facts : joinedFacts Tryz.prog 3 Tryz.f3 Rows.storeNoneSpec Rows.storeNoneRow = true := by
  unfold joinedFacts
  rw [laidOut, rowed, inPlace, unf, recs, varsN, plainK, heard]
  kernel_rfl
end Go.Proofs.YtojhefbnlmlilaaGreatDoor.StoreNone
