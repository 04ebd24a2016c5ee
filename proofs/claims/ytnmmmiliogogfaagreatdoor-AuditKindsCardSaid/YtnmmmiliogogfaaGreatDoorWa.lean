/- What zeros.Count, be.Get and be.Put compute, for every input within bounds. -/
import Derived.Test.YtnmmmiliogogfaaGreatDoorRows
import Derived.WalkKit
import Derived.OwnWalk
set_option linter.unusedVariables false
set_option linter.unusedSimpArgs false
namespace Go.Proofs.Wag
open Go.RowKit

def bt (c d : Int) : Int := wrap64 (bits BinOp.and IntKind.u8 (bits BinOp.xor IntKind.u8 IntKind.u8.max c / d) 1)
def bt1 (c : Int) : Int := wrap64 (bits BinOp.and IntKind.u8 (bits BinOp.xor IntKind.u8 IntKind.u8.max c) 1)
/-- How many bits of a byte are 0. -/
def cnt (c : Int) : Int := wrap64 (wrap64 (wrap64 (wrap64 (wrap64 (wrap64 (wrap64 (wrap64 (bt1 c) + bt c 2) + bt c 4) + bt c 8) + bt c 16) + bt c 32) + bt c 64) + bt c 128)
theorem cnt_255 : cnt 255 = 0 := by decide +kernel

theorem count_any (c : Int) (w : World) : Calls Tryz.prog 280 #[.int .u8 c] w fun e w' => e = .returned (.int .i64 (cnt c)) ∧ w' = w := by
  go_enter Tryz.func280, Tryz.ntmps280
  go_wp2
  refine wp_loop_rounds 9 ?_
  iterate 9 (rw [rounds_succ]; go_wp2)
  go_ret
  refine ⟨?_, rfl⟩
  simp [cnt, bt, bt1]

theorem count_255 (w : World) : Calls Tryz.prog 280 #[.int .u8 255] w fun e w' => e = .returned (.int .i64 0) ∧ w' = w := by
  have := count_any 255 w
  rwa [cnt_255] at this

/-- How many bits of bytes are 0. -/
def cnts (l : List Int) : Int := l.foldl (fun n c => wrap64 (n + cnt c)) 0

theorem cnts_step (zs : List Int) (k : Nat) (hk : k < zs.length) : cnts (zs.take (k + 1)) = wrap64 (cnts (zs.take k) + cnt (zs.getD k 0)) := by
  unfold cnts
  rw [List.take_add_one, List.foldl_append]
  simp [List.getD, List.getElem?_eq_getElem hk]

theorem Count_any (b off len cap : Nat) (zs : List Int) (w : World) (hz : len ≤ zs.length) (hbig : len ≤ 9223372036854775807) (hc : ∀ j, j < zs.length → w.cell? ⟨b, off + j, none⟩ = some (.int .u8 (zs.getD j 0))) :
    Calls Tryz.prog 213 #[.slice (some ⟨b, off, none⟩) len cap] w fun e w' => e = .returned (.int .i64 (cnts (zs.take len))) ∧ w' = w := by
  go_enter Tryz.func213, Tryz.ntmps213
  go_wp2
  go_loop [3, 8] (fun t i => ∃ k : Nat, k ≤ len ∧ i = .int .i64 k ∧ t = .int .i64 (cnts (zs.take k))) (fun _ i => len - (intOf i).toNat)
  case atStart => exact ⟨0, Nat.zero_le _, rfl, rfl⟩
  case round =>
    obtain ⟨k, hk, rfl, rfl⟩ := hrel
    have hcell : k < len → w.cell? ⟨b, off + k, none⟩ = some (.int .u8 (zs.getD k 0)) := fun _ => hc k (by omega)
    go_wp2_with (go_at_call 280; refine (count_any _ _).mono ?_; rintro e w' ⟨rfl, rfl⟩)
    · go_wp2
      go_round
      case rel => exact ⟨k + 1, by omega, by go_num, by rw [cnts_step zs k (by omega)]; simp [List.getD]⟩
      case measure => simp [intOf]; omega
    · have : k = len := by omega
      subst this
      go_ret
      exact ⟨rfl, rfl⟩
end Go.Proofs.Wag
namespace Go.Proofs.Wag
open Go.RowKit

theorem width_any (n : Int) (w : World) : Calls Tryz.prog 103 #[.int .i64 n] w fun e w' => e = .returned (.int .i64 (min (max n 0) 8)) ∧ w' = w := by
  go_enter Tryz.func103, Tryz.ntmps103
  go_wp2
  all_goals
    go_ret
    refine ⟨congrArg (fun x => Ending.returned (Value.int IntKind.i64 x)) ?_, rfl⟩
    split at * <;> omega

/-- What a byte of a slice is, 0 beyond it. -/
def byteAt (zs : List Int) (i : Int) : Int := if i < 0 then 0 else if i ≥ (zs.length : Int) then 0 else zs.getD i.toNat 0

theorem byte_any (i : Int) (g b off cap : Nat) (zs : List Int) (w : World) (hg : w.cell? ⟨g, 0, none⟩ = some (.slice (some ⟨b, off, none⟩) zs.length cap)) (hc : ∀ j, j < zs.length → w.cell? ⟨b, off + j, none⟩ = some (.int .u8 (zs.getD j 0))) :
    Calls Tryz.prog 102 #[.int .i64 i, .pointer (some ⟨g, 0, none⟩)] w fun e w' => e = .returned (.int .u64 (IntKind.u64.wrap (byteAt zs i))) ∧ w' = w := by
  by_cases h0 : i < 0
  · have e : byteAt zs i = 0 := by simp [byteAt, h0]
    rw [e]
    go_enter Tryz.func102, Tryz.ntmps102
    go_wp2
    go_ret
    exact ⟨rfl, rfl⟩
  · obtain ⟨k, rfl⟩ : ∃ k : Nat, i = k := ⟨i.toNat, by omega⟩
    by_cases h1 : k < zs.length
    · have e : byteAt zs k = zs.getD k 0 := by simp [byteAt, h1]; omega
      have hcell := hc k h1
      rw [e]
      go_enter Tryz.func102, Tryz.ntmps102
      go_wp2
      go_ret
      exact ⟨rfl, rfl⟩
    · have e : byteAt zs k = 0 := by simp [byteAt]; omega
      rw [e]
      go_enter Tryz.func102, Tryz.ntmps102
      go_wp2
      go_ret
      exact ⟨rfl, rfl⟩

/-- The number that w bytes make. -/
def getV (zs : List Int) (at' : Int) : Nat → Int
  | 0 => 0
  | i + 1 => bits .or .u64 (IntKind.u64.wrap (getV zs at' i * 256)) (IntKind.u64.wrap (byteAt zs (wrap64 (at' + i))))

def atOf (zs : List Int) (at' : Int) : Int := max (if at' > (zs.length : Int) then (zs.length : Int) else at') (-8)

theorem cell_old (w : World) (o : Obj) (a : Addr) (h : a.block < w.heap.size) : (w.alloc o).cell? a = w.cell? a := by
  have : (w.alloc o).heap[a.block]? = w.heap[a.block]? := ((Below.refl w.heap.size w).alloc (Nat.le_refl _) o).block a.block h
  unfold World.cell?
  rw [this]

set_option maxHeartbeats 1000000 in
theorem get_any1 (b off cap : Nat) (zs : List Int) (at' wd : Int) (w : World) (hb : b < w.heap.size) (hbig : zs.length ≤ 9223372036854775807) (hc : ∀ j, j < zs.length → w.cell? ⟨b, off + j, none⟩ = some (.int .u8 (zs.getD j 0))) (h : (zs.length : Int) < at') :
    Calls Tryz.prog 50 #[.slice (some ⟨b, off, none⟩) zs.length cap, .int .i64 at', .int .i64 wd] w fun e w' => e = .returned (.int .u64 (getV zs ((zs.length : Int)) (min (max wd 0) 8).toNat)) ∧ Below w.heap.size w w' := by
  have hW : (((min (max wd 0) 8).toNat : Nat) : Int) = min (max wd 0) 8 := by omega
  go_enter Tryz.func50, Tryz.ntmps50
  go_wp2_with (go_at_call 103; refine (width_any _ _).mono ?_; rintro e w' ⟨rfl, rfl⟩)
  go_loop [7, 21] (fun t i => ∃ k : Nat, k ≤ (min (max wd 0) 8).toNat ∧ i = .int .i64 k ∧ t = .int .u64 (getV zs ((zs.length : Int)) k)) (fun _ i => 8 - (intOf i).toNat)
  case atStart => exact ⟨0, Nat.zero_le _, rfl, rfl⟩
  case round =>
    obtain ⟨k, hk, rfl, rfl⟩ := hrel
    go_wp2_with (go_at_call 102; refine (byte_any _ w.heap.size b off cap zs _ (by simp) (fun j hj => by rw [← hc j hj]; exact cell_old w _ _ hb)).mono ?_; rintro e w' ⟨rfl, rfl⟩)
    · refine ⟨⟨k + 1, by omega, by go_num, by simp [getV]⟩, ?_⟩
      simp [intOf]; omega
    · have e : k = (min (max wd 0) 8).toNat := by omega
      subst e
      go_ret
      exact ⟨rfl, (Below.refl _ _).alloc (Nat.le_refl _) _⟩
set_option maxHeartbeats 1000000 in
theorem get_any3 (b off cap : Nat) (zs : List Int) (at' wd : Int) (w : World) (hb : b < w.heap.size) (hbig : zs.length ≤ 9223372036854775807) (hc : ∀ j, j < zs.length → w.cell? ⟨b, off + j, none⟩ = some (.int .u8 (zs.getD j 0))) (h : ¬ (zs.length : Int) < at') (h2 : ¬ at' < -8) :
    Calls Tryz.prog 50 #[.slice (some ⟨b, off, none⟩) zs.length cap, .int .i64 at', .int .i64 wd] w fun e w' => e = .returned (.int .u64 (getV zs (at') (min (max wd 0) 8).toNat)) ∧ Below w.heap.size w w' := by
  have hW : (((min (max wd 0) 8).toNat : Nat) : Int) = min (max wd 0) 8 := by omega
  go_enter Tryz.func50, Tryz.ntmps50
  go_wp2_with (go_at_call 103; refine (width_any _ _).mono ?_; rintro e w' ⟨rfl, rfl⟩)
  go_loop [7, 21] (fun t i => ∃ k : Nat, k ≤ (min (max wd 0) 8).toNat ∧ i = .int .i64 k ∧ t = .int .u64 (getV zs (at') k)) (fun _ i => 8 - (intOf i).toNat)
  case atStart => exact ⟨0, Nat.zero_le _, rfl, rfl⟩
  case round =>
    obtain ⟨k, hk, rfl, rfl⟩ := hrel
    go_wp2_with (go_at_call 102; refine (byte_any _ w.heap.size b off cap zs _ (by simp) (fun j hj => by rw [← hc j hj]; exact cell_old w _ _ hb)).mono ?_; rintro e w' ⟨rfl, rfl⟩)
    · refine ⟨⟨k + 1, by omega, by go_num, by simp [getV]⟩, ?_⟩
      simp [intOf]; omega
    · have e : k = (min (max wd 0) 8).toNat := by omega
      subst e
      go_ret
      exact ⟨rfl, (Below.refl _ _).alloc (Nat.le_refl _) _⟩
end Go.Proofs.Wag
namespace Go.Proofs.Wag
open Go.RowKit

theorem info5 : (Tryz.prog.info? 5).map (fun i => (i.zero, i.size, i.bytes)) = some (some (.int .u8 0), 1, 1) := by kernel_rfl

/-- One of the bytes of a number. -/
def putB (n : Int) (j : Nat) : Int := n / 2 ^ (8 * j) % 256

/-- The first k bytes that are put, of w bytes. -/
def putL (n : Int) (w : Nat) : Nat → List Int
  | 0 => []
  | k + 1 => putL n w k ++ [putB n (w - 1 - k)]

theorem putL_len (n : Int) (w : Nat) : ∀ k, (putL n w k).length = k
  | 0 => rfl
  | k + 1 => by simp [putL, putL_len n w k]

theorem put_step {W k : Nat} {n : Int} {zs : List Int} {w wr w1 : World} {u v : Value} {o : Obj} (hown : wr.ownsRow w.heap.size 5 1 u (zs.length + k) ((zs ++ putL n W k).map (Value.int .u8))) (hB : Below w.heap.size w wr)
    (hown1 : w1.ownsRow w.heap.size 5 1 v (zs.length + k + 1) (zs.map (Value.int .u8) ++ ((putL n W k).map (Value.int .u8) ++ [.int .u8 (n / 2 ^ (8 * (W - 1 - k)) % 256)]))) (hg : (wr.alloc o).grownBy w1 u.ownBlock) :
    w1.ownsRow w.heap.size 5 1 v (zs.length + (k + 1)) ((zs ++ putL n W (k + 1)).map (Value.int .u8)) ∧ Below w.heap.size w w1 := by
  refine ⟨?_, (hB.alloc hB.size o).grown hg (by have := hB.size; simp; omega) (fun j hj => (hown.lt j hj).1)⟩
  have e : (zs ++ putL n W (k + 1)).map (Value.int .u8) = zs.map (Value.int .u8) ++ ((putL n W k).map (Value.int .u8) ++ [.int .u8 (n / 2 ^ (8 * (W - 1 - k)) % 256)]) := by
    simp [putL, putB, Nat.sub_sub]
  rw [e]
  exact hown1

theorem addr_add (b off j : Nat) : (⟨b, off, none⟩ : Addr).add j = ⟨b, off + j, none⟩ := by unfold Addr.add; split <;> simp_all

set_option maxHeartbeats 1600000 in
set_option maxRecDepth 1000000 in
theorem put_any (b off cap : Nat) (zs : List Int) (W : Nat) (n : Int) (w : World) (hW : W ≤ 8) (hlen : zs.length ≤ 1000000) (hc : ∀ j, j < zs.length → w.cell? ⟨b, off + j, none⟩ = some (.int .u8 (zs.getD j 0))) :
    Calls Tryz.prog 163 #[.slice (some ⟨b, off, none⟩) zs.length cap, .int .i64 W, .int .u64 n] w fun e w' => ∃ v, e = .returned v ∧ w'.ownsRow w.heap.size 5 1 v (zs.length + W) ((zs ++ putL n W W).map (Value.int .u8)) ∧ Below w.heap.size w w' := by
  obtain ⟨i0, hi, hz0, hz1, hz2⟩ := info_parts info5
  have hmin : min (max (W : Int) 0) 8 = W := by omega
  have hmin' : min (W : Int) 8 = W := by omega
  go_enter Tryz.func163, Tryz.ntmps163
  go_wp2_with (first
    | (at_builtin; refine wpList_append_own _ rfl _ _ 64 rfl w.heap.size 5 i0 (.int .u8 0) 1 1 Tryz.underlying64 hi hz0 hz1 hz2 rfl (by decide) _ _ _ rfl (World.ownsRow_nil _ _ _ _) ⟨b, off, none⟩ zs.length cap (zs.map (Value.int .u8)) rfl (by simp) ?c1 ?c2 ?c3 ?c4 ?c5 ?_)
    | (go_at_call 103; refine (width_any _ _).mono ?_; rintro e w' ⟨rfl, rfl⟩))
  case c1 => intro j u hj; rw [List.getElem?_map, Option.map_eq_some_iff] at hj; obtain ⟨z, hz, rfl⟩ := hj; have h1 := hc j (List.getElem?_eq_some_iff.1 hz).1; rw [show (⟨b, off, none⟩ : Addr).add j = ⟨b, off + j, none⟩ from addr_add b off j, h1]; simp [List.getD, hz]
  case c2 => intro u hu; simp only [List.mem_map] at hu; obtain ⟨z, _, rfl⟩ := hu; rfl
  case c3 => unfold maxLen; omega
  case c4 => omega
  case c5 => exact Nat.le_refl _
  intro v0 w0 hown hgrow _
  go_wp2_with (go_at_call 103; refine (width_any _ _).mono ?_; rintro e w' ⟨rfl, rfl⟩)
  have hB0 : Below w.heap.size w w' := (Below.refl _ _).grown hgrow (Nat.le_refl _) (by intro k hk; cases hk)
  clear hgrow
  go_loopw [7, 8] (fun v i wr => ∃ k : Nat, k ≤ W ∧ i = .int .i64 ((W : Int) - 1 - k) ∧ wr.ownsRow w.heap.size 5 1 v (zs.length + k) ((zs ++ putL n W k).map (Value.int .u8)) ∧ Below w.heap.size w wr) (fun _ i _ => (intOf i + 1).toNat)
  case atStart => exact ⟨0, Nat.zero_le _, by simp, by simpa [putL] using hown, hB0⟩
  case round =>
    obtain ⟨k, hk, rfl, hownk, hBk⟩ := hrel
    clear hown hB0
    by_cases hkl : k < W
    · go_wp2_with (at_builtin; refine wpList_append_own _ rfl _ _ 64 rfl w.heap.size 5 i0 (.int .u8 0) 1 1 Tryz.underlying64 hi hz0 hz1 hz2 rfl (by decide) _ _ _ rfl (hownk.alloc _) ⟨wr.heap.size, 0, none⟩ 1 1 [.int .u8 (n / 2 ^ (8 * (W - 1 - k)) % 256)] rfl rfl ?d1 ?d2 ?d3 ?d4 ?d5 ?_)
      case d1 =>
        intro j u hj
        match j, hj with
        | 0, hj => simp at hj; subst hj; simp [Addr.add]
      case d2 => intro u hu; simp at hu; subst hu; rfl
      case d3 => unfold maxLen; omega
      case d4 => omega
      case d5 => have := hBk.size; simp; omega
      intro v1 w1 hown1 hgrow1 _
      have R := put_step (n := n) hownk hBk hown1 hgrow1
      clear hown1 hgrow1 hownk hBk
      go_wp2
      go_roundw
      case rel => exact ⟨k + 1, by omega, by congr 1; omega, R.1, R.2⟩
      case measure => simp [intOf]; omega
    · have e : k = W := by omega
      subst e
      go_wp2
      go_ret
      exact ⟨_, rfl, hownk, hBk⟩

set_option maxHeartbeats 1600000 in
set_option maxRecDepth 1000000 in
theorem put_nil (W : Nat) (n : Int) (w : World) (hW : W ≤ 8) :
    Calls Tryz.prog 163 #[.slice none 0 0, .int .i64 W, .int .u64 n] w fun e w' => ∃ v, e = .returned v ∧ w'.ownsRow w.heap.size 5 1 v W ((putL n W W).map (Value.int .u8)) ∧ Below w.heap.size w w' := by
  obtain ⟨i0, hi, hz0, hz1, hz2⟩ := info_parts info5
  have hmin : min (max (W : Int) 0) 8 = W := by omega
  have hmin' : min (W : Int) 8 = W := by omega
  go_enter Tryz.func163, Tryz.ntmps163
  go_wp2_with (go_at_call 103; refine (width_any _ _).mono ?_; rintro e w' ⟨rfl, hw⟩; have hw := hw.symm; subst hw)
  go_loopw [7, 8] (fun v i wr => ∃ k : Nat, k ≤ W ∧ i = .int .i64 ((W : Int) - 1 - k) ∧ wr.ownsRow w.heap.size 5 1 v (([] : List Int).length + k) ((([] : List Int) ++ putL n W k).map (Value.int .u8)) ∧ Below w.heap.size w wr) (fun _ i _ => (intOf i + 1).toNat)
  case atStart => exact ⟨0, Nat.zero_le _, by simp, World.ownsRow_nil _ _ _ _, Below.refl _ _⟩
  case round =>
    obtain ⟨k, hk, rfl, hownk, hBk⟩ := hrel
    by_cases hkl : k < W
    · go_wp2_with (at_builtin; refine wpList_append_own _ rfl _ _ 64 rfl w.heap.size 5 i0 (.int .u8 0) 1 1 Tryz.underlying64 hi hz0 hz1 hz2 rfl (by decide) _ _ _ rfl (hownk.alloc _) ⟨wr.heap.size, 0, none⟩ 1 1 [.int .u8 (n / 2 ^ (8 * (W - 1 - k)) % 256)] rfl rfl ?d1 ?d2 ?d3 ?d4 ?d5 ?_)
      case d1 =>
        intro j u hj
        match j, hj with
        | 0, hj => simp at hj; subst hj; simp [Addr.add]
      case d2 => intro u hu; simp at hu; subst hu; rfl
      case d3 => unfold maxLen; simp; omega
      case d4 => simp; omega
      case d5 => have := hBk.size; simp; omega
      intro v1 w1 hown1 hgrow1 _
      have R := put_step (n := n) hownk hBk (by simpa using hown1) hgrow1
      clear hown1 hgrow1 hownk hBk
      go_wp2
      go_roundw
      case rel => exact ⟨k + 1, by omega, by congr 1; omega, R.1, R.2⟩
      case measure => simp [intOf]; omega
    · have e : k = W := by omega
      subst e
      go_wp2
      go_ret
      exact ⟨_, rfl, by simpa using hownk, hBk⟩
end Go.Proofs.Wag
