/- audit.Kinds, Clean and Check at nil, walked. -/
import Derived.Test.YtnmmmiliogogfaaGreatDoorRows
import Derived.WalkKit
import Derived.Deep.RegionWith
import Derived.Test.YtnmmmiliogogfaaGreatDoorWc
set_option linter.unusedVariables false
set_option linter.unusedSimpArgs false
namespace Go.Proofs.Wag
open Go.RowKit

/-- Which count a kind goes to. -/
def idx (z : Int) : Nat := if 1 ≤ z ∧ z ≤ 7 then z.toNat else 0
/-- The counts of the first k kinds. -/
def tal (zs : List Int) : Nat → Nat → Int
  | 0, _ => 0
  | k + 1, j => if j = idx (zs.getD k 0) then wrap64 (tal zs k j + 1) else tal zs k j

theorem cell_lt {w : World} {b o : Nat} {v : Value} (h : w.cell? ⟨b, o, none⟩ = some v) : b < w.heap.size := by
  unfold World.cell? at h
  split at h
  · rename_i hq
    exact (Array.getElem?_eq_some_iff.1 hq).1
  · cases h

/-- An array of eight counts at a block of the call's own. -/
structure Arr (B C : Nat) (w wr : World) (c : Nat → Int) : Prop where
  cell : ∀ j, j < 8 → wr.cell? ⟨C, j, none⟩ = some (.int .i64 (c j))
  free : ∀ j, j < 8 → wr.frozen? ⟨C, j, none⟩ = false
  below : Below B w wr

theorem Arr.bump {B C : Nat} {w wr : World} {c : Nat → Int} (h : Arr B C w wr c) (hB : B ≤ C) {k : Nat} (hk : k < 8) (x : Int) :
    Arr B C w (wr.setCell ⟨C, k, none⟩ (.int .i64 x)) (fun j => if j = k then x else c j) := by
  refine ⟨fun j hj => ?_, fun j hj => ?_, h.below.setCell hB _⟩
  · by_cases e : j = k
    · subst e
      rw [World.cell?_setCell_same _ _ _ (h.cell j hj)]
      simp
    · rw [World.cell?_setCell_other _ _ _ _ (by first | (simp; done) | (simp; omega))]
      simpa [e] using h.cell j hj
  · rw [World.frozen?_setCell]
    exact h.free j hj

theorem Arr.other {B C b o : Nat} {w wr : World} {c : Nat → Int} (h : Arr B C w wr c) (hB : B ≤ b) (hne : b ≠ C) (v : Value) :
    Arr B C w (wr.setCell ⟨b, o, none⟩ v) c := by
  refine ⟨fun j hj => ?_, fun j hj => ?_, h.below.setCell hB _⟩
  · rw [World.cell?_setCell_other _ _ _ _ (by first | (simp; done) | (simp; omega))]
    exact h.cell j hj
  · rw [World.frozen?_setCell]
    exact h.free j hj

theorem clean_any (a : Option Addr) (n c : Nat) (w : World) : Calls Tryz.prog 7 #[.slice a n c] w fun e w' => e = .returned (.bool ((n : Int) == 0)) ∧ w' = w := by
  go_enter Tryz.func7, Tryz.ntmps7
  go_wp2
  go_ret
  exact ⟨rfl, rfl⟩

theorem check_nil (w : World) : Calls Tryz.prog 5 #[.pointer none] w fun e w' => e = .returned (.tuple #[.slice none 0 0, .int .i64 1]) ∧ Below w.heap.size w w' := by
  go_enter Tryz.func5, Tryz.ntmps5
  go_wp2
  go_ret2
  exact ⟨rfl, (Below.refl _ _).alloc (Nat.le_refl _) _⟩

theorem idx_in {z : Int} {n : Nat} (h : z = n) (h1 : 1 ≤ n) (h7 : n ≤ 7) : idx z = n := by
  unfold idx
  rw [if_pos (by omega)]
  omega
theorem idx_low {z : Int} (h : z < 1) : idx z = 0 := by
  unfold idx
  rw [if_neg (by omega)]
theorem idx_high {z : Int} (h : 7 < z) : idx z = 0 := by
  unfold idx
  rw [if_neg (by omega)]

theorem Arr.alloc {B C : Nat} {w wr : World} {c : Nat → Int} (h : Arr B C w wr c) (hB : B ≤ wr.heap.size) (hC : C < wr.heap.size) (o : Obj) : Arr B C w (wr.alloc o) c := by
  refine ⟨fun j hj => ?_, fun j hj => ?_, h.below.alloc hB o⟩
  · rw [World.cell?_alloc_old _ _ _ (Nat.ne_of_lt hC)]
    exact h.cell j hj
  · rw [World.frozen?_alloc_old _ _ _ (Nat.ne_of_lt hC)]
    exact h.free j hj

theorem tal_step {zs : List Int} {k j : Nat} {z : Int} (hz : zs.getD k 0 = z) (hj : idx z = j) : tal zs (k + 1) = fun i => if i = j then wrap64 (tal zs k j + 1) else tal zs k i := by
  funext i
  show (if i = idx (zs.getD k 0) then wrap64 (tal zs k i + 1) else tal zs k i) = _
  rw [hz, hj]
  by_cases e : i = j
  · subst e; rfl
  · simp [e]

theorem Arr.round {B k j : Nat} {w wr : World} {zs : List Int} {z : Int} {o : Obj} (hA : Arr B B w wr (fun _ => 0)) (hC : Arr B (B + 1) w wr (tal zs k)) (hz : zs.getD k 0 = z) (hj : idx z = j) (hj8 : j < 8) (hs : B + 1 < wr.heap.size) :
    Arr B B w ((wr.setCell ⟨B + 1, j, none⟩ (.int .i64 (wrap64 (tal zs k j + 1)))).alloc o) (fun _ => 0) ∧ Arr B (B + 1) w ((wr.setCell ⟨B + 1, j, none⟩ (.int .i64 (wrap64 (tal zs k j + 1)))).alloc o) (tal zs (k + 1)) := by
  have e : (wr.setCell ⟨B + 1, j, none⟩ (.int .i64 (wrap64 (tal zs k j + 1)))).heap.size = wr.heap.size := by simp
  refine ⟨(hA.other (by omega) (by omega) _).alloc (by omega) (by omega) o, ?_⟩
  rw [tal_step hz hj]
  exact (hC.bump (by omega) hj8 _).alloc (by omega) (by omega) o
end Go.Proofs.Wag
namespace Go.Proofs.Wag
open Go.RowKit

set_option maxHeartbeats 1000000 in
set_option maxRecDepth 100000 in
theorem kinds_any (b off n c : Nat) (zs ys : List Int) (w : World) (hn : n ≤ zs.length) (hbig : n ≤ 60) (hbB : b < w.heap.size)
    (hz : ∀ j, j < n → w.cell? ⟨b, off + j * 2, none⟩ = some (.int .i64 (zs.getD j 0)))
    (hy : ∀ j, j < n → w.cell? ⟨b, off + j * 2 + 1, none⟩ = some (.int .i64 (ys.getD j 0))) :
    Calls Tryz.prog 6 #[.slice (some ⟨b, off, none⟩) n c] w fun e w' => e = .returned (.agg #[.int .i64 (tal zs n 0), .int .i64 (tal zs n 1), .int .i64 (tal zs n 2), .int .i64 (tal zs n 3), .int .i64 (tal zs n 4), .int .i64 (tal zs n 5), .int .i64 (tal zs n 6), .int .i64 (tal zs n 7)]) ∧ Below w.heap.size w w' := by
  go_enter Tryz.func6, Tryz.ntmps6
  go_wp2
  go_loopw [9] (fun i wr => ∃ k : Nat, k ≤ n ∧ i = .int .i64 k ∧ Arr w.heap.size w.heap.size w wr (fun _ => 0) ∧ Arr w.heap.size (w.heap.size + 1) w wr (tal zs k)) (fun i _ => n - (intOf i).toNat)
  case atStart =>
    refine ⟨0, Nat.zero_le _, rfl, ⟨fun j hj => ?_, fun j hj => ?_, ((Below.refl _ _).alloc (Nat.le_refl _) _).alloc (by simp) _⟩, ⟨fun j hj => ?_, fun j hj => ?_, ((Below.refl _ _).alloc (Nat.le_refl _) _).alloc (by simp) _⟩⟩
    all_goals (rcases j with _ | _ | _ | _ | _ | _ | _ | _ | j)
    all_goals first
      | omega
      | (go_simp; done)
      | (go_simp; rfl)
      | (simp [tal]; done)
      | (simp [tal]; go_simp; done)
      | (simp only [tal]; go_simp)
  case round =>
    obtain ⟨k, hk, rfl, hA, hC⟩ := hrel
    have hsz : w.heap.size + 1 < wr.heap.size := cell_lt (hC.cell 0 (by omega))
    have HA : Hid (Arr w.heap.size w.heap.size w wr (fun _ => 0)) := ⟨hA⟩
    have HC : Hid (Arr w.heap.size (w.heap.size + 1) w wr (tal zs k)) := ⟨hC⟩
    by_cases hkn : k < n
    · obtain ⟨z, hzd⟩ : ∃ z, zs.getD k 0 = z := ⟨_, rfl⟩
      obtain ⟨y, hyd⟩ : ∃ y, ys.getD k 0 = y := ⟨_, rfl⟩
      have h1 : wr.cell? ⟨b, off + k * 2, none⟩ = some (.int .i64 z) := (hA.below.cell (by exact hbB)).trans ((hz k hkn).trans (by rw [hzd]))
      have h2 : wr.cell? ⟨b, off + k * 2 + 1, none⟩ = some (.int .i64 y) := (hA.below.cell (by exact hbB)).trans ((hy k hkn).trans (by rw [hyd]))
      have HZ := Hid.mk hzd
      have hbr : b < wr.heap.size := by omega
      clear hz hy hzd hyd
      by_cases hin : 1 ≤ z ∧ z ≤ 7
      · obtain ⟨j, rfl⟩ : ∃ j : Nat, z = j := ⟨z.toNat, by omega⟩
        have hj0 : (0 : Int) ≤ (j : Int) := by omega
        have hj1 : (1 : Int) ≤ (j : Int) := by omega
        have hj7 : (j : Int) ≤ 7 := by omega
        have hj8 : (j : Int) < 8 := by omega
        have q : wr.cell? ⟨w.heap.size + 1, j, none⟩ = some (.int .i64 (tal zs k j)) := hC.cell j (by omega)
        have f : wr.frozen? ⟨w.heap.size + 1, j, none⟩ = false := hC.free j (by omega)
        clear hA hC
        go_wp2
        all_goals first
          | (exfalso; omega)
          | (have R := fun o => Arr.round (o := o) HA.out HC.out HZ.out (idx_in rfl (by omega) (by omega)) (by omega) hsz
             first
               | (go_roundw
                  case rel => exact ⟨k + 1, by omega, by simp, (R _).1, (R _).2⟩
                  case measure => simp [intOf]; omega)
               | exact ⟨⟨k + 1, by omega, by simp, (R _).1, (R _).2⟩, by simp [intOf]; omega⟩)
      · have q : wr.cell? ⟨w.heap.size + 1, 0, none⟩ = some (.int .i64 (tal zs k 0)) := hC.cell 0 (by omega)
        have f : wr.frozen? ⟨w.heap.size + 1, 0, none⟩ = false := hC.free 0 (by omega)
        have hi0 : idx z = 0 := by unfold idx; rw [if_neg hin]
        have hin2 : z < 1 ∨ 7 < z := by omega
        clear hA hC hin
        rcases hin2 with hlo | hhi
        all_goals go_wp2
        all_goals first
          | (exfalso; omega)
          | (have R := fun o => Arr.round (o := o) HA.out HC.out HZ.out hi0 (by omega) hsz
             first
               | (go_roundw
                  case rel => exact ⟨k + 1, by omega, by simp, (R _).1, (R _).2⟩
                  case measure => simp [intOf]; omega)
               | exact ⟨⟨k + 1, by omega, by simp, (R _).1, (R _).2⟩, by simp [intOf]; omega⟩)
          | trace_state
    · have e : k = n := by omega
      subst e
      have q0 := hC.cell 0 (by omega)
      have q1 := hC.cell 1 (by omega)
      have q2 := hC.cell 2 (by omega)
      have q3 := hC.cell 3 (by omega)
      have q4 := hC.cell 4 (by omega)
      have q5 := hC.cell 5 (by omega)
      have q6 := hC.cell 6 (by omega)
      have q7 := hC.cell 7 (by omega)
      have p0 := hA.cell 0 (by omega)
      have p1 := hA.cell 1 (by omega)
      have p2 := hA.cell 2 (by omega)
      have p3 := hA.cell 3 (by omega)
      have p4 := hA.cell 4 (by omega)
      have p5 := hA.cell 5 (by omega)
      have p6 := hA.cell 6 (by omega)
      have p7 := hA.cell 7 (by omega)
      have f0 := hA.free 0 (by omega)
      have f1 := hA.free 1 (by omega)
      have f2 := hA.free 2 (by omega)
      have f3 := hA.free 3 (by omega)
      have f4 := hA.free 4 (by omega)
      have f5 := hA.free 5 (by omega)
      have f6 := hA.free 6 (by omega)
      have f7 := hA.free 7 (by omega)
      clear hA hC hz hy
      go_wp2
      have hB := HA.out.below
      refine bodyPost_ret (v := .agg #[.int .i64 (tal zs k 0), .int .i64 (tal zs k 1), .int .i64 (tal zs k 2), .int .i64 (tal zs k 3), .int .i64 (tal zs k 4), .int .i64 (tal zs k 5), .int .i64 (tal zs k 6), .int .i64 (tal zs k 7)]) ?_ rfl ⟨rfl, ?_⟩
      · simp [results, Tryz.results6, go_sem, p0, p1, p2, p3, p4, p5, p6, p7]
      · exact (((((((hB.setCell (by exact Nat.le_refl _) _).setCell (by exact Nat.le_refl _) _).setCell (by exact Nat.le_refl _) _).setCell (by exact Nat.le_refl _) _).setCell (by exact Nat.le_refl _) _).setCell (by exact Nat.le_refl _) _).setCell (by exact Nat.le_refl _) _).setCell (by exact Nat.le_refl _) _
end Go.Proofs.Wag
namespace Go.Proofs.Wag
open Go.RowKit

theorem run_eq1 (x y : Int) (w : World) : Sem.run Tryz.prog (Op.equalIn 9999 3 (.int .i64 x) (.int .i64 y)) w = .ok (x == y) w := by
  unfold Op.equalIn
  simp [go_sem]

theorem run_eq8 (a0 a1 a2 a3 a4 a5 a6 a7 : Int) (w : World) : Sem.run Tryz.prog (Op.equalIn 10000 24 (.agg #[.int .i64 a0, .int .i64 a1, .int .i64 a2, .int .i64 a3, .int .i64 a4, .int .i64 a5, .int .i64 a6, .int .i64 a7]) (.agg #[.int .i64 a0, .int .i64 a1, .int .i64 a2, .int .i64 a3, .int .i64 a4, .int .i64 a5, .int .i64 a6, .int .i64 a7])) w = .ok true w := by
  unfold Op.equalIn
  simp [go_sem, List.range', run_eq1]

/-- Two tellings of audit.Kinds are one. -/
theorem eql8 (a0 a1 a2 a3 a4 a5 a6 a7 : Int) (w : World) : (binOp .eql 24 (.agg #[.int .i64 a0, .int .i64 a1, .int .i64 a2, .int .i64 a3, .int .i64 a4, .int .i64 a5, .int .i64 a6, .int .i64 a7]) (.agg #[.int .i64 a0, .int .i64 a1, .int .i64 a2, .int .i64 a3, .int .i64 a4, .int .i64 a5, .int .i64 a6, .int .i64 a7])).run Tryz.prog w = .ok (.bool true) w := by
  rw [run_eql_struct, run_eq8]
  rfl
end Go.Proofs.Wag
