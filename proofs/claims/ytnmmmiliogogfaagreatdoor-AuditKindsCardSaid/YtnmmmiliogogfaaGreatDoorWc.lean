/- What zeros.Program, zeros.Ones and zeros.Erase compute, for every input within bounds. -/
import Derived.Test.YtnmmmiliogogfaaGreatDoorWb
set_option linter.unusedVariables false
set_option linter.unusedSimpArgs false
namespace Go.Proofs.Wag
open Go.RowKit

/-- The first k programmed bytes. -/
def progL (os bs ms : List Int) : Nat → List Int
  | 0 => []
  | k + 1 => progL os bs ms k ++ [progB bs ms k (os.getD k 0)]

theorem progL_len (os bs ms : List Int) : ∀ k, (progL os bs ms k).length = k
  | 0 => rfl
  | k + 1 => by simp [progL, progL_len os bs ms k]

structure Hid (p : Prop) : Prop where
  out : p

theorem Below.see {B : Nat} {w w' : World} (h : Below B w w') {a : Addr} (ha : a.block < B) : w'.cell? a = w.cell? a := by
  unfold World.cell?
  rw [h.block a.block ha]

theorem each_step {B k : Nat} {os bs ms : List Int} {w wr w1 w2 : World} {u v : Value} {o : Obj} (hown : wr.ownsRow B 5 1 u k ((progL os bs ms k).map (Value.int .u8))) (hB : Below B w wr) (hBw : B ≤ w.heap.size) (hg1 : Below wr.heap.size wr w1)
    (hown1 : w2.ownsRow B 5 1 v (k + 1) ((progL os bs ms k).map (Value.int .u8) ++ [.int .u8 (progB bs ms k (os.getD k 0))])) (hg : (w1.alloc o).grownBy w2 u.ownBlock) :
    w2.ownsRow B 5 1 v (k + 1) ((progL os bs ms (k + 1)).map (Value.int .u8)) ∧ Below B w w2 := by
  have hsz := hB.size
  have hsz1 := hg1.size
  refine ⟨by simpa [progL] using hown1, ((hB.trans (hg1.mono (by omega))).alloc (by omega) o).grown hg (by simp; omega) (fun j hj => (hown.lt j hj).1)⟩

theorem owns_below {B : Nat} {w w' : World} {v : Value} {n : Nat} {xs : List Value} (h : w.ownsRow B 5 1 v n xs) (hb : Below w.heap.size w w') : w'.ownsRow B 5 1 v n xs := by
  obtain ⟨h1, h2⟩ := h
  refine ⟨h1, ?_⟩
  rcases h2 with h2 | ⟨g, cap, cur, hv, hg, hh, h3⟩
  · exact .inl h2
  · exact .inr ⟨g, cap, cur, hv, hg, (hb.block g (lt_of_block hh)).trans hh, h3⟩

set_option maxHeartbeats 3200000 in
set_option maxRecDepth 1000000 in
theorem each_any (ob oo oc g h bb bo bc mb mo mc : Nat) (os bs ms : List Int) (w : World) (hol : os.length ≤ 1000000) (hbl : bs.length ≤ 1000000) (hpos : 0 < ms.length) (hlen : ms.length ≤ 1000000)
    (hob : ob < w.heap.size) (hgb : g < w.heap.size) (hhb : h < w.heap.size) (hbb : bb < w.heap.size) (hmb : mb < w.heap.size)
    (hg : w.cell? ⟨g, 0, none⟩ = some (.slice (some ⟨bb, bo, none⟩) bs.length bc)) (hh : w.cell? ⟨h, 0, none⟩ = some (.slice (some ⟨mb, mo, none⟩) ms.length mc))
    (ho : ∀ j, j < os.length → w.cell? ⟨ob, oo + j, none⟩ = some (.int .u8 (os.getD j 0)))
    (hb : ∀ j, j < bs.length → w.cell? ⟨bb, bo + j, none⟩ = some (.int .u8 (bs.getD j 0))) (hm : ∀ j, j < ms.length → w.cell? ⟨mb, mo + j, none⟩ = some (.int .u8 (ms.getD j 0))) :
    Calls Tryz.prog 214 #[.slice (some ⟨ob, oo, none⟩) os.length oc, .func (.func 215) #[] #[.pointer (some ⟨g, 0, none⟩), .pointer (some ⟨h, 0, none⟩)]] w fun e w' =>
      ∃ v, e = .returned v ∧ w'.ownsRow w.heap.size 5 1 v os.length ((progL os bs ms os.length).map (Value.int .u8)) ∧ Below w.heap.size w w' := by
  obtain ⟨i0, hi, hz0, hz1, hz2⟩ := info_parts info5
  go_enter Tryz.func214, Tryz.ntmps214
  go_wp2
  go_loopw [5, 10] (fun v i wr => ∃ k : Nat, k ≤ os.length ∧ i = .int .i64 k ∧ wr.ownsRow w.heap.size 5 1 v k ((progL os bs ms k).map (Value.int .u8)) ∧ Below w.heap.size w wr) (fun _ i _ => os.length - (intOf i).toNat)
  case atStart => exact ⟨0, Nat.zero_le _, rfl, World.ownsRow_nil _ _ _ _, Below.refl _ _⟩
  case round =>
    obtain ⟨k, hk, rfl, hown, hB⟩ := hrel
    by_cases hkl : k < os.length
    · obtain ⟨c, hcd⟩ : ∃ c, os.getD k 0 = c := ⟨_, rfl⟩
      have hcx : wr.cell? ⟨ob, oo + k, none⟩ = some (.int .u8 c) := (Below.see hB (by exact hob)).trans ((ho k hkl).trans (by rw [hcd]))
      have hcd := Hid.mk hcd
      go_wp2_with (first
        | (go_at_call 215; refine (prog1_any k _ g h bb bo bc mb mo mc bs ms wr (by omega) hbl hpos hlen ((Below.see hB (by exact hgb)).trans hg) ((Below.see hB (by exact hhb)).trans hh) (fun j hj => (Below.see hB (by exact hbb)).trans (hb j hj)) (fun j hj => (Below.see hB (by exact hmb)).trans (hm j hj))).mono ?_; rintro e w1 ⟨rfl, hw1⟩; have hown2 := owns_below hown hw1)
        | (at_builtin; refine wpList_append_own _ rfl _ _ 64 rfl w.heap.size 5 i0 (.int .u8 0) 1 1 Tryz.underlying64 hi hz0 hz1 hz2 rfl (by decide) _ _ _ rfl (hown2.alloc _) ⟨_, 0, none⟩ 1 1 [.int .u8 (progB bs ms k c)] rfl rfl ?d1 ?d2 ?d3 ?d4 ?d5 ?_))
      case d1 =>
        intro j u hj
        match j, hj with
        | 0, hj => simp at hj; subst hj; simp [Addr.add]
      case d2 => intro u hu; simp at hu; subst hu; rfl
      case d3 => unfold maxLen; omega
      case d4 => omega
      case d5 => have := hB.size; have := hw1.size; simp; omega
      intro v1 w2 hown1 hgrow1 _
      have R := each_step (w1 := w1) hown hB (Nat.le_refl _) hw1 (by rw [hcd.out]; exact hown1) hgrow1
      clear hown1 hgrow1 hown hB hown2 hw1 hcx
      go_wp2
      go_roundw
      case rel => exact ⟨k + 1, by omega, by go_num, R.1, R.2⟩
      case measure => simp [intOf]; omega
    · have e : k = os.length := by omega
      subst e
      go_wp2
      go_ret
      exact ⟨_, rfl, hown, hB⟩

set_option maxHeartbeats 1600000 in
set_option maxRecDepth 1000000 in
theorem program_any (ob oo oc bb bo bc mb mo mc : Nat) (os bs ms : List Int) (w : World) (hol : os.length ≤ 1000000) (hbl : bs.length ≤ 1000000) (hpos : 0 < ms.length) (hlen : ms.length ≤ 1000000)
    (hob : ob < w.heap.size) (hbb : bb < w.heap.size) (hmb : mb < w.heap.size)
    (ho : ∀ j, j < os.length → w.cell? ⟨ob, oo + j, none⟩ = some (.int .u8 (os.getD j 0)))
    (hb : ∀ j, j < bs.length → w.cell? ⟨bb, bo + j, none⟩ = some (.int .u8 (bs.getD j 0))) (hm : ∀ j, j < ms.length → w.cell? ⟨mb, mo + j, none⟩ = some (.int .u8 (ms.getD j 0))) :
    Calls Tryz.prog 151 #[.slice (some ⟨ob, oo, none⟩) os.length oc, .slice (some ⟨bb, bo, none⟩) bs.length bc, .slice (some ⟨mb, mo, none⟩) ms.length mc] w fun e w' =>
      ∃ v, e = .returned v ∧ w'.ownsRow w.heap.size 5 1 v os.length ((progL os bs ms os.length).map (Value.int .u8)) ∧ Below w.heap.size w w' := by
  have hBB : Below w.heap.size w ((w.alloc (.cells #[.slice (some ⟨bb, bo, none⟩) bs.length bc] 64)).alloc (.cells #[.slice (some ⟨mb, mo, none⟩) ms.length mc] 64)) := ((Below.refl _ _).alloc (Nat.le_refl _) _).alloc (by simp) _
  have hG : ((w.alloc (.cells #[.slice (some ⟨bb, bo, none⟩) bs.length bc] 64)).alloc (.cells #[.slice (some ⟨mb, mo, none⟩) ms.length mc] 64)).cell? ⟨w.heap.size, 0, none⟩ = some (.slice (some ⟨bb, bo, none⟩) bs.length bc) := by
    rw [World.cell?_alloc_past _ _ _ (by simp), World.cell?_alloc_at _ _ _ _ rfl]; rfl
  have hH : ((w.alloc (.cells #[.slice (some ⟨bb, bo, none⟩) bs.length bc] 64)).alloc (.cells #[.slice (some ⟨mb, mo, none⟩) ms.length mc] 64)).cell? ⟨w.heap.size + 1, 0, none⟩ = some (.slice (some ⟨mb, mo, none⟩) ms.length mc) := by
    rw [World.cell?_alloc_at _ _ _ _ (by simp)]; rfl
  have key := each_any ob oo oc w.heap.size (w.heap.size + 1) bb bo bc mb mo mc os bs ms _ hol hbl hpos hlen (by simp; omega) (by simp; omega) (by simp) (by simp; omega) (by simp; omega) hG hH
    (fun j hj => (Below.see hBB (by exact hob)).trans (ho j hj)) (fun j hj => (Below.see hBB (by exact hbb)).trans (hb j hj)) (fun j hj => (Below.see hBB (by exact hmb)).trans (hm j hj))
  clear hG hH ho hb hm
  go_enter Tryz.func151, Tryz.ntmps151
  go_wp2_with fail
  refine key.mono ?_
  rintro e w1 ⟨v, rfl, hown, hB⟩
  go_wp2
  go_ret
  refine ⟨_, rfl, ⟨hown.1, ?_⟩, hBB.trans (hB.mono (by simp; omega))⟩
  rcases hown.2 with h | ⟨g, cap, cur, hv, hg, h⟩
  · exact .inl h
  · exact .inr ⟨g, cap, cur, hv, by simp at hg; omega, h⟩
end Go.Proofs.Wag
namespace Go.Proofs.Wag
open Go.RowKit

theorem ones_step {B k : Nat} {w wr w2 : World} {u v : Value} {o : Obj} (hown : wr.ownsRow B 5 1 u k ((List.replicate k 255).map (Value.int .u8))) (hB : Below B w wr) (hBw : B ≤ w.heap.size)
    (hown1 : w2.ownsRow B 5 1 v (k + 1) ((List.replicate k 255).map (Value.int .u8) ++ [.int .u8 255])) (hg : (wr.alloc o).grownBy w2 u.ownBlock) :
    w2.ownsRow B 5 1 v (k + 1) ((List.replicate (k + 1) 255).map (Value.int .u8)) ∧ Below B w w2 := by
  have hsz := hB.size
  refine ⟨?_, (hB.alloc (by omega) o).grown hg (by simp; omega) (fun j hj => (hown.lt j hj).1)⟩
  rw [List.replicate_succ', List.map_append]
  exact hown1

set_option maxHeartbeats 1600000 in
set_option maxRecDepth 1000000 in
theorem ones_any (n : Nat) (w : World) (hn : n ≤ 1000000) :
    Calls Tryz.prog 29 #[.int .i64 n] w fun e w' => ∃ v, e = .returned v ∧ w'.ownsRow w.heap.size 5 1 v n ((List.replicate n 255).map (Value.int .u8)) ∧ Below w.heap.size w w' := by
  obtain ⟨i0, hi, hz0, hz1, hz2⟩ := info_parts info5
  have hmin : min (n : Int) 1048576 = n := by omega
  go_enter Tryz.func29, Tryz.ntmps29
  go_wp2
  go_loopw [3, 6] (fun v i wr => ∃ k : Nat, k ≤ n ∧ i = .int .i64 k ∧ wr.ownsRow w.heap.size 5 1 v k ((List.replicate k 255).map (Value.int .u8)) ∧ Below w.heap.size w wr) (fun _ i _ => n - (intOf i).toNat)
  case atStart => exact ⟨0, Nat.zero_le _, rfl, World.ownsRow_nil _ _ _ _, Below.refl _ _⟩
  case round =>
    obtain ⟨k, hk, rfl, hown, hB⟩ := hrel
    by_cases hkl : k < n
    · go_wp2_with (at_builtin; refine wpList_append_own _ rfl _ _ 64 rfl w.heap.size 5 i0 (.int .u8 0) 1 1 Tryz.underlying64 hi hz0 hz1 hz2 rfl (by decide) _ _ _ rfl (hown.alloc _) ⟨wr.heap.size, 0, none⟩ 1 1 [.int .u8 255] rfl rfl ?d1 ?d2 ?d3 ?d4 ?d5 ?_)
      case d1 =>
        intro j u hj
        match j, hj with
        | 0, hj => simp at hj; subst hj; simp [Addr.add]
      case d2 => intro u hu; simp at hu; subst hu; rfl
      case d3 => unfold maxLen; omega
      case d4 => omega
      case d5 => have := hB.size; simp; omega
      intro v1 w2 hown1 hgrow1 _
      have R := ones_step hown hB (Nat.le_refl _) (by simpa using hown1) hgrow1
      clear hown1 hgrow1 hown hB
      go_wp2
      go_roundw
      case rel => exact ⟨k + 1, by omega, by go_num, R.1, R.2⟩
      case measure => simp [intOf]; omega
    · have e : k = n := by omega
      subst e
      go_wp2
      go_ret
      exact ⟨_, rfl, hown, hB⟩
end Go.Proofs.Wag
namespace Go.Proofs.Wag
open Go.RowKit

/-- An erased byte. -/
def eraB (ms : List Int) (i : Nat) (c : Int) : Int := bits .or .u8 c (maskB ms i)

set_option maxHeartbeats 1000000 in
theorem era1_any (i : Nat) (c : Int) (h mb mo mc : Nat) (ms : List Int) (w : World) (hi : i ≤ 1000000) (hpos : 0 < ms.length) (hlen : ms.length ≤ 1000000)
    (hh : w.cell? ⟨h, 0, none⟩ = some (.slice (some ⟨mb, mo, none⟩) ms.length mc)) (hm : ∀ j, j < ms.length → w.cell? ⟨mb, mo + j, none⟩ = some (.int .u8 (ms.getD j 0))) :
    Calls Tryz.prog 247 #[.int .i64 i, .int .u8 c, .pointer (some ⟨h, 0, none⟩)] w fun e w' => e = .returned (.int .u8 (eraB ms i c)) ∧ Below w.heap.size w w' := by
  go_enter Tryz.func247, Tryz.ntmps247
  go_wp2_with (go_at_call 216; refine (mask_any i mb mo mc ms w hi hpos hlen hm).mono ?_; rintro e w' ⟨rfl, hw⟩; have hw := hw.symm; subst hw)
  go_ret
  exact ⟨rfl, Below.refl _ _⟩

/-- The first k erased bytes. -/
def eraL (os ms : List Int) : Nat → List Int
  | 0 => []
  | k + 1 => eraL os ms k ++ [eraB ms k (os.getD k 0)]

theorem eraL_len (os ms : List Int) : ∀ k, (eraL os ms k).length = k
  | 0 => rfl
  | k + 1 => by simp [eraL, eraL_len os ms k]

theorem eachE_step {B k : Nat} {os ms : List Int} {w wr w1 w2 : World} {u v : Value} {o : Obj} (hown : wr.ownsRow B 5 1 u k ((eraL os ms k).map (Value.int .u8))) (hB : Below B w wr) (hBw : B ≤ w.heap.size) (hg1 : Below wr.heap.size wr w1)
    (hown1 : w2.ownsRow B 5 1 v (k + 1) ((eraL os ms k).map (Value.int .u8) ++ [.int .u8 (eraB ms k (os.getD k 0))])) (hg : (w1.alloc o).grownBy w2 u.ownBlock) :
    w2.ownsRow B 5 1 v (k + 1) ((eraL os ms (k + 1)).map (Value.int .u8)) ∧ Below B w w2 := by
  have hsz := hB.size
  have hsz1 := hg1.size
  refine ⟨by simpa [eraL] using hown1, ((hB.trans (hg1.mono (by omega))).alloc (by omega) o).grown hg (by simp; omega) (fun j hj => (hown.lt j hj).1)⟩

set_option maxHeartbeats 3200000 in
set_option maxRecDepth 1000000 in
theorem eachE_any (ob oo oc h mb mo mc : Nat) (os ms : List Int) (w : World) (hol : os.length ≤ 1000000) (hpos : 0 < ms.length) (hlen : ms.length ≤ 1000000)
    (hob : ob < w.heap.size) (hhb : h < w.heap.size) (hmb : mb < w.heap.size)
    (hh : w.cell? ⟨h, 0, none⟩ = some (.slice (some ⟨mb, mo, none⟩) ms.length mc))
    (ho : ∀ j, j < os.length → w.cell? ⟨ob, oo + j, none⟩ = some (.int .u8 (os.getD j 0)))
    (hm : ∀ j, j < ms.length → w.cell? ⟨mb, mo + j, none⟩ = some (.int .u8 (ms.getD j 0))) :
    Calls Tryz.prog 214 #[.slice (some ⟨ob, oo, none⟩) os.length oc, .func (.func 247) #[] #[.pointer (some ⟨h, 0, none⟩)]] w fun e w' =>
      ∃ v, e = .returned v ∧ w'.ownsRow w.heap.size 5 1 v os.length ((eraL os ms os.length).map (Value.int .u8)) ∧ Below w.heap.size w w' := by
  obtain ⟨i0, hi, hz0, hz1, hz2⟩ := info_parts info5
  go_enter Tryz.func214, Tryz.ntmps214
  go_wp2
  go_loopw [5, 10] (fun v i wr => ∃ k : Nat, k ≤ os.length ∧ i = .int .i64 k ∧ wr.ownsRow w.heap.size 5 1 v k ((eraL os ms k).map (Value.int .u8)) ∧ Below w.heap.size w wr) (fun _ i _ => os.length - (intOf i).toNat)
  case atStart => exact ⟨0, Nat.zero_le _, rfl, World.ownsRow_nil _ _ _ _, Below.refl _ _⟩
  case round =>
    obtain ⟨k, hk, rfl, hown, hB⟩ := hrel
    by_cases hkl : k < os.length
    · obtain ⟨c, hcd⟩ : ∃ c, os.getD k 0 = c := ⟨_, rfl⟩
      have hcx : wr.cell? ⟨ob, oo + k, none⟩ = some (.int .u8 c) := (Below.see hB (by exact hob)).trans ((ho k hkl).trans (by rw [hcd]))
      have hcd := Hid.mk hcd
      go_wp2_with (first
        | (go_at_call 247; refine (era1_any k _ h mb mo mc ms wr (by omega) hpos hlen ((Below.see hB (by exact hhb)).trans hh) (fun j hj => (Below.see hB (by exact hmb)).trans (hm j hj))).mono ?_; rintro e w1 ⟨rfl, hw1⟩; have hown2 := owns_below hown hw1)
        | (at_builtin; refine wpList_append_own _ rfl _ _ 64 rfl w.heap.size 5 i0 (.int .u8 0) 1 1 Tryz.underlying64 hi hz0 hz1 hz2 rfl (by decide) _ _ _ rfl (hown2.alloc _) ⟨_, 0, none⟩ 1 1 [.int .u8 (eraB ms k c)] rfl rfl ?d1 ?d2 ?d3 ?d4 ?d5 ?_))
      case d1 =>
        intro j u hj
        match j, hj with
        | 0, hj => simp at hj; subst hj; simp [Addr.add]
      case d2 => intro u hu; simp at hu; subst hu; rfl
      case d3 => unfold maxLen; omega
      case d4 => omega
      case d5 => have := hB.size; have := hw1.size; simp; omega
      intro v1 w2 hown1 hgrow1 _
      have R := eachE_step (w1 := w1) hown hB (Nat.le_refl _) hw1 (by rw [hcd.out]; exact hown1) hgrow1
      clear hown1 hgrow1 hown hB hown2 hw1 hcx
      go_wp2
      go_roundw
      case rel => exact ⟨k + 1, by omega, by go_num, R.1, R.2⟩
      case measure => simp [intOf]; omega
    · have e : k = os.length := by omega
      subst e
      go_wp2
      go_ret
      exact ⟨_, rfl, hown, hB⟩

set_option maxHeartbeats 1600000 in
set_option maxRecDepth 1000000 in
theorem erase_any (ob oo oc mb mo mc : Nat) (os ms : List Int) (w : World) (hol : os.length ≤ 1000000) (hpos : 0 < ms.length) (hlen : ms.length ≤ 1000000)
    (hob : ob < w.heap.size) (hmb : mb < w.heap.size)
    (ho : ∀ j, j < os.length → w.cell? ⟨ob, oo + j, none⟩ = some (.int .u8 (os.getD j 0)))
    (hm : ∀ j, j < ms.length → w.cell? ⟨mb, mo + j, none⟩ = some (.int .u8 (ms.getD j 0))) :
    Calls Tryz.prog 181 #[.slice (some ⟨ob, oo, none⟩) os.length oc, .slice (some ⟨mb, mo, none⟩) ms.length mc] w fun e w' =>
      ∃ v, e = .returned v ∧ w'.ownsRow w.heap.size 5 1 v os.length ((eraL os ms os.length).map (Value.int .u8)) ∧ Below w.heap.size w w' := by
  have hBB : Below w.heap.size w (w.alloc (.cells #[.slice (some ⟨mb, mo, none⟩) ms.length mc] 64)) := (Below.refl _ _).alloc (Nat.le_refl _) _
  have hH : (w.alloc (.cells #[.slice (some ⟨mb, mo, none⟩) ms.length mc] 64)).cell? ⟨w.heap.size, 0, none⟩ = some (.slice (some ⟨mb, mo, none⟩) ms.length mc) := by
    rw [World.cell?_alloc_at _ _ _ _ rfl]; rfl
  have key := eachE_any ob oo oc w.heap.size mb mo mc os ms _ hol hpos hlen (by simp; omega) (by simp) (by simp; omega) hH
    (fun j hj => (Below.see hBB (by exact hob)).trans (ho j hj)) (fun j hj => (Below.see hBB (by exact hmb)).trans (hm j hj))
  clear hH ho hm
  go_enter Tryz.func181, Tryz.ntmps181
  go_wp2_with fail
  refine key.mono ?_
  rintro e w1 ⟨v, rfl, hown, hB⟩
  go_wp2
  go_ret
  refine ⟨_, rfl, ⟨hown.1, ?_⟩, hBB.trans (hB.mono (by simp))⟩
  rcases hown.2 with h | ⟨g, cap, cur, hv, hg, h⟩
  · exact .inl h
  · exact .inr ⟨g, cap, cur, hv, by simp at hg; omega, h⟩
end Go.Proofs.Wag
