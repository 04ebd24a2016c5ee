/- What census.Same computes, for every input. -/
import Derived.Test.YtgmgkjbcohjmlaaGreatWa
namespace Go.Proofs.Wag
open Go.RowKit
theorem run_eq1 (x y : Int) (w : World) : Sem.run Tryz.prog (Op.equalIn 9999 3 (.int .i64 x) (.int .i64 y)) w = .ok (x == y) w := by
  unfold Op.equalIn
  simp [go_sem]

theorem run_eq6 (k0 k1 k2 k3 k4 k5 j0 j1 j2 j3 j4 j5 : Int) (w : World) : Sem.run Tryz.prog (Op.equalIn 10000 34 (.agg #[.int .i64 k0, .int .i64 k1, .int .i64 k2, .int .i64 k3, .int .i64 k4, .int .i64 k5]) (.agg #[.int .i64 j0, .int .i64 j1, .int .i64 j2, .int .i64 j3, .int .i64 j4, .int .i64 j5])) w = .ok (k0 == j0 && k1 == j1 && k2 == j2 && k3 == j3 && k4 == j4 && k5 == j5) w := by
  unfold Op.equalIn
  by_cases h0 : k0 = j0
  · by_cases h1 : k1 = j1
    · by_cases h2 : k2 = j2
      · by_cases h3 : k3 = j3
        · by_cases h4 : k4 = j4
          · by_cases h5 : k5 = j5
            · simp [go_sem, List.range', run_eq1, h0, h1, h2, h3, h4, h5]
            · simp [go_sem, List.range', run_eq1, h0, h1, h2, h3, h4, h5]
          · simp [go_sem, List.range', run_eq1, h0, h1, h2, h3, h4]
        · simp [go_sem, List.range', run_eq1, h0, h1, h2, h3]
      · simp [go_sem, List.range', run_eq1, h0, h1, h2]
    · simp [go_sem, List.range', run_eq1, h0, h1]
  · simp [go_sem, List.range', run_eq1, h0]
end Go.Proofs.Wag
namespace Go.Proofs.Wag
open Go.RowKit
theorem same_below (w : World) (o1 o2 : Obj) : Below w.heap.size w ((w.alloc o1).alloc o2) := ((Below.refl _ _).alloc (Nat.le_refl _) _).alloc (by simp) _

set_option maxRecDepth 100000 in
set_option maxHeartbeats 2000000 in
theorem same_no (a0 a1 a2 k0 k1 k2 k3 k4 k5 a3 a4 a5 b0 b1 b2 j0 j1 j2 j3 j4 j5 b3 b4 b5 : Int) (w : World) (he : ∀ w, Sem.run Tryz.prog (Op.equalIn 10000 34 (.agg #[.int .i64 k0, .int .i64 k1, .int .i64 k2, .int .i64 k3, .int .i64 k4, .int .i64 k5]) (.agg #[.int .i64 j0, .int .i64 j1, .int .i64 j2, .int .i64 j3, .int .i64 j4, .int .i64 j5])) w = .ok false w) :
    Calls Tryz.prog 16 #[cen a0 a1 a2 k0 k1 k2 k3 k4 k5 a3 a4 a5, cen b0 b1 b2 j0 j1 j2 j3 j4 j5 b3 b4 b5] w fun e w' => e = .returned (.bool false) ∧ Below w.heap.size w w' := by
  go_enter Tryz.func16, Tryz.ntmps16
  go_wp2
  go_ret
  exact ⟨rfl, same_below _ _ _⟩

set_option maxRecDepth 100000 in
set_option maxHeartbeats 2000000 in
theorem same_yes (a0 a1 a2 k0 k1 k2 k3 k4 k5 a3 a4 a5 b0 b1 b2 j0 j1 j2 j3 j4 j5 b3 b4 b5 : Int) (w : World) (he : ∀ w, Sem.run Tryz.prog (Op.equalIn 10000 34 (.agg #[.int .i64 k0, .int .i64 k1, .int .i64 k2, .int .i64 k3, .int .i64 k4, .int .i64 k5]) (.agg #[.int .i64 j0, .int .i64 j1, .int .i64 j2, .int .i64 j3, .int .i64 j4, .int .i64 j5])) w = .ok true w) :
    Calls Tryz.prog 16 #[cen a0 a1 a2 k0 k1 k2 k3 k4 k5 a3 a4 a5, cen b0 b1 b2 j0 j1 j2 j3 j4 j5 b3 b4 b5] w fun e w' => e = .returned (.bool ((a0 == b0) && (a1 == b1) && (a2 == b2) && (a3 == b3))) ∧ Below w.heap.size w w' := by
  by_cases h0 : a0 = b0
  · by_cases h1 : a1 = b1
    · by_cases h2 : a2 = b2
      · by_cases h3 : a3 = b3
        · go_enter Tryz.func16, Tryz.ntmps16
          go_wp2
          go_ret
          exact ⟨by simp [h0, h1, h2, h3], same_below _ _ _⟩
        · go_enter Tryz.func16, Tryz.ntmps16
          go_wp2
          go_ret
          exact ⟨by simp [h0, h1, h2, h3], same_below _ _ _⟩
      · go_enter Tryz.func16, Tryz.ntmps16
        go_wp2
        go_ret
        exact ⟨by simp [h0, h1, h2], same_below _ _ _⟩
    · go_enter Tryz.func16, Tryz.ntmps16
      go_wp2
      go_ret
      exact ⟨by simp [h0, h1], same_below _ _ _⟩
  · go_enter Tryz.func16, Tryz.ntmps16
    go_wp2
    go_ret
    exact ⟨by simp [h0], same_below _ _ _⟩
end Go.Proofs.Wag
