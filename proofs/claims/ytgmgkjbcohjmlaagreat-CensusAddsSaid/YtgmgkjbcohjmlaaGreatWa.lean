/- What zeros.Count, census.Total and High compute, for every input. -/
import Derived.Test.YtgmgkjbcohjmlaaGreatRows
import Derived.WalkKit
namespace Go.Proofs.Wag
open Go.RowKit

def bt (c d : Int) : Int := wrap64 (bits BinOp.and IntKind.u8 (bits BinOp.xor IntKind.u8 IntKind.u8.max c / d) 1)
def bt1 (c : Int) : Int := wrap64 (bits BinOp.and IntKind.u8 (bits BinOp.xor IntKind.u8 IntKind.u8.max c) 1)
/-- How many bits of a byte are 0. -/
def cnt (c : Int) : Int := wrap64 (wrap64 (wrap64 (wrap64 (wrap64 (wrap64 (wrap64 (wrap64 (bt1 c) + bt c 2) + bt c 4) + bt c 8) + bt c 16) + bt c 32) + bt c 64) + bt c 128)
theorem cnt_255 : cnt 255 = 0 := by decide +kernel

theorem count_any (c : Int) (w : World) : Calls Tryz.prog 256 #[.int .u8 c] w fun e w' => e = .returned (.int .i64 (cnt c)) ∧ w' = w := by
  go_enter Tryz.func256, Tryz.ntmps256
  go_wp2
  refine wp_loop_rounds 9 ?_
  iterate 9 (rw [rounds_succ]; go_wp2)
  go_ret
  refine ⟨?_, rfl⟩
  simp [cnt, bt, bt1]

theorem count_255 (w : World) : Calls Tryz.prog 256 #[.int .u8 255] w fun e w' => e = .returned (.int .i64 0) ∧ w' = w := by
  have := count_any 255 w
  rwa [cnt_255] at this

/-- How many bits of bytes are 0. -/
def cnts (l : List Int) : Int := l.foldl (fun n c => wrap64 (n + cnt c)) 0

theorem cnts_step (zs : List Int) (k : Nat) (hk : k < zs.length) : cnts (zs.take (k + 1)) = wrap64 (cnts (zs.take k) + cnt (zs.getD k 0)) := by
  unfold cnts
  rw [List.take_add_one, List.foldl_append]
  simp [List.getD, List.getElem?_eq_getElem hk]

theorem Count_any (b off len cap : Nat) (zs : List Int) (w : World) (hz : len ≤ zs.length) (hbig : len ≤ 9223372036854775807) (hc : ∀ j, j < zs.length → w.cell? ⟨b, off + j, none⟩ = some (.int .u8 (zs.getD j 0))) :
    Calls Tryz.prog 208 #[.slice (some ⟨b, off, none⟩) len cap] w fun e w' => e = .returned (.int .i64 (cnts (zs.take len))) ∧ w' = w := by
  go_enter Tryz.func208, Tryz.ntmps208
  go_wp2
  go_loop [3, 8] (fun t i => ∃ k : Nat, k ≤ len ∧ i = .int .i64 k ∧ t = .int .i64 (cnts (zs.take k))) (fun _ i => len - (intOf i).toNat)
  case atStart => exact ⟨0, Nat.zero_le _, rfl, rfl⟩
  case round =>
    obtain ⟨k, hk, rfl, rfl⟩ := hrel
    have hcell : k < len → w.cell? ⟨b, off + k, none⟩ = some (.int .u8 (zs.getD k 0)) := fun _ => hc k (by omega)
    go_wp2_with (go_at_call 256; refine (count_any _ _).mono ?_; rintro e w' ⟨rfl, rfl⟩)
    · go_wp2
      go_round
      case rel => exact ⟨k + 1, by omega, by go_num, by rw [cnts_step zs k (by omega)]; simp [List.getD]⟩
      case measure => simp [intOf]; omega
    · have : k = len := by omega
      subst this
      go_ret
      exact ⟨rfl, rfl⟩
end Go.Proofs.Wag
namespace Go.Proofs.Wag
open Go.RowKit

abbrev cen (a0 a1 a2 k0 k1 k2 k3 k4 k5 a3 a4 a5 : Int) : Value := .agg #[.int .i64 a0, .int .i64 a1, .int .i64 a2, .int .i64 k0, .int .i64 k1, .int .i64 k2, .int .i64 k3, .int .i64 k4, .int .i64 k5, .int .i64 a3, .int .i64 a4, .int .i64 a5]

theorem total_any (a0 a1 a2 k0 k1 k2 k3 k4 k5 a3 a4 a5 : Int) (w : World) : Calls Tryz.prog 13 #[cen a0 a1 a2 k0 k1 k2 k3 k4 k5 a3 a4 a5] w fun e w' => e = .returned (.int .i64 (wrap64 (wrap64 (a0 + a1) + a2))) ∧ Below w.heap.size w w' := by
  go_enter Tryz.func13, Tryz.ntmps13
  go_wp2
  go_ret
  exact ⟨rfl, (Below.refl _ _).alloc (Nat.le_refl _) _⟩
end Go.Proofs.Wag
namespace Go.Proofs.Wag
open Go.RowKit
theorem high_any (a b : Int) (w : World) : Calls Tryz.prog 15 #[.int .i64 a, .int .i64 b] w fun e w' => e = .returned (.int .i64 (if a > b then a else b)) ∧ w' = w := by
  by_cases h : a > b
  · rw [if_pos h]
    go_enter Tryz.func15, Tryz.ntmps15
    go_wp2
    go_ret
    exact ⟨rfl, rfl⟩
  · rw [if_neg h]
    go_enter Tryz.func15, Tryz.ntmps15
    go_wp2
    go_ret
    exact ⟨rfl, rfl⟩
end Go.Proofs.Wag
