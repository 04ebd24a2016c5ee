/- AuditKinds walked, awake() given; what a slice of pairs of ints holds. -/
import Derived.Test.YtnmmmiliogogfaaGreatDoorSa
import Derived.Deep.RegionHeld3
import Derived.ChangeSlices
import Derived.ChangeSame
import Derived.ChangeArms
set_option linter.unusedVariables false
set_option linter.unusedSimpArgs false
namespace Go.Proofs.Wag
open Go.RowKit

theorem Arr.round1 {B k j : Nat} {w wr : World} {zs : List Int} {z : Int} (hC : Arr B B w wr (tal zs k)) (hz : zs.getD k 0 = z) (hj : idx z = j) (hj8 : j < 8) :
    Arr B B w (wr.setCell ⟨B, j, none⟩ (.int .i64 (wrap64 (tal zs k j + 1)))) (tal zs (k + 1)) := by
  rw [tal_step hz hj]
  exact hC.bump (Nat.le_refl _) hj8 _

/-- Eight cells. -/
def Q8 (w : World) (C : Nat) (c : Nat → Int) : Prop :=
  w.cell? ⟨C, 0, none⟩ = some (.int .i64 (c 0)) ∧ w.cell? ⟨C, 1, none⟩ = some (.int .i64 (c 1)) ∧ w.cell? ⟨C, 2, none⟩ = some (.int .i64 (c 2)) ∧ w.cell? ⟨C, 3, none⟩ = some (.int .i64 (c 3)) ∧ w.cell? ⟨C, 4, none⟩ = some (.int .i64 (c 4)) ∧ w.cell? ⟨C, 5, none⟩ = some (.int .i64 (c 5)) ∧ w.cell? ⟨C, 6, none⟩ = some (.int .i64 (c 6)) ∧ w.cell? ⟨C, 7, none⟩ = some (.int .i64 (c 7))

theorem Arr.q8 {B C : Nat} {w wr : World} {c : Nat → Int} (h : Arr B C w wr c) : Q8 wr C c :=
  ⟨h.cell 0 (by omega), h.cell 1 (by omega), h.cell 2 (by omega), h.cell 3 (by omega), h.cell 4 (by omega), h.cell 5 (by omega), h.cell 6 (by omega), h.cell 7 (by omega)⟩

theorem Q8.carry {D C : Nat} {w w' : World} {c : Nat → Int} (h : Q8 w C c) (hB : Below D w w') (hC : C < D) : Q8 w' C c := by
  obtain ⟨h0, h1, h2, h3, h4, h5, h6, h7⟩ := h
  exact ⟨(hB.cell hC).trans h0, (hB.cell hC).trans h1, (hB.cell hC).trans h2, (hB.cell hC).trans h3, (hB.cell hC).trans h4, (hB.cell hC).trans h5, (hB.cell hC).trans h6, (hB.cell hC).trans h7⟩

/-- What stays known through the last statement's calls. -/
structure Kept (W : World) (b off n : Nat) (zs ys : List Int) (w : World) : Prop where
  q : Q8 w W.heap.size (tal zs n)
  z : ∀ j, j < n → w.cell? ⟨b, off + j * 2, none⟩ = some (.int .i64 (zs.getD j 0))
  y : ∀ j, j < n → w.cell? ⟨b, off + j * 2 + 1, none⟩ = some (.int .i64 (ys.getD j 0))
  s : W.heap.size < w.heap.size
  r : b < w.heap.size
  l : Below W.heap.size W w

theorem Kept.carry {W w w' : World} {b off n : Nat} {zs ys : List Int} (h : Kept W b off n zs ys w) (hB : Below w.heap.size w w') : Kept W b off n zs ys w' := by
  have hs := hB.size
  have h1 := h.s
  have h2 := h.r
  exact ⟨h.q.carry hB h1, fun j hj => (hB.cell (by exact h2)).trans (h.z j hj), fun j hj => (hB.cell (by exact h2)).trans (h.y j hj), by omega, by omega, h.l.trans (hB.mono (by omega))⟩

theorem Kept.drew {W w : World} {b off n : Nat} {zs ys : List Int} (h : Kept W b off n zs ys w) : Kept W b off n zs ys w.drew := by
  obtain ⟨q, z, y, s, r, l⟩ := h
  refine ⟨by unfold Q8 at q ⊢; exact q, z, y, s, r, l.drew⟩

theorem Kept.full {W w : World} {b off n : Nat} {zs ys : List Int} (h : Kept W b off n zs ys w) : Q8 w W.heap.size (tal zs n) ∧ Kept W b off n zs ys w := ⟨h.q, h⟩

theorem far_any (haw : ∀ w, Calls Tryz.prog 4 #[] w fun e w' => e = .returned (.bool true) ∧ Below w.heap.size w w') (a : Option Addr) (n c : Nat) (w : World) (hn : 60 < n) :
    Calls Tryz.prog 3 #[.slice a n c] w fun e w' => e = .returned (.bool true) ∧ Below w.heap.size w w' := by
  have hn' : (60 : Int) < (n : Int) := by omega
  go_enter Tryz.func3, Tryz.ntmps3
  go_wp2_with (go_at_call 4; refine (haw _).mono ?_; rintro e w' ⟨rfl, hw⟩)
  go_ret
  exact ⟨rfl, hw⟩

set_option maxHeartbeats 1000000 in
set_option maxRecDepth 100000 in
theorem near_any (haw : ∀ w, Calls Tryz.prog 4 #[] w fun e w' => e = .returned (.bool true) ∧ Below w.heap.size w w') (b off n c : Nat) (zs ys : List Int) (w : World) (hn : n ≤ zs.length) (hbig : n ≤ 60) (hbB : b < w.heap.size)
    (hz : ∀ j, j < n → w.cell? ⟨b, off + j * 2, none⟩ = some (.int .i64 (zs.getD j 0)))
    (hy : ∀ j, j < n → w.cell? ⟨b, off + j * 2 + 1, none⟩ = some (.int .i64 (ys.getD j 0))) :
    Calls Tryz.prog 3 #[.slice (some ⟨b, off, none⟩) n c] w fun e w' => e = .returned (.bool true) ∧ Below w.heap.size w w' := by
  have hn' : (n : Int) ≤ 60 := by omega
  go_enter Tryz.func3, Tryz.ntmps3
  go_wp2
  go_loopw [4] (fun i wr => ∃ k : Nat, k ≤ n ∧ i = .int .i64 k ∧ Arr w.heap.size w.heap.size w wr (tal zs k)) (fun i _ => n - (intOf i).toNat)
  case atStart =>
    refine ⟨0, Nat.zero_le _, rfl, ⟨fun j hj => ?_, fun j hj => ?_, (Below.refl _ _).alloc (Nat.le_refl _) _⟩⟩
    all_goals (rcases j with _ | _ | _ | _ | _ | _ | _ | _ | j)
    all_goals first
      | omega
      | (go_simp; done)
      | (go_simp; rfl)
  case round =>
    obtain ⟨k, hk, rfl, hC⟩ := hrel
    have hsz : w.heap.size < wr.heap.size := cell_lt (hC.cell 0 (by omega))
    have HC : Hid (Arr w.heap.size w.heap.size w wr (tal zs k)) := ⟨hC⟩
    by_cases hkn : k < n
    · obtain ⟨z, hzd⟩ : ∃ z, zs.getD k 0 = z := ⟨_, rfl⟩
      have h1 : wr.cell? ⟨b, off + k * 2, none⟩ = some (.int .i64 z) := (hC.below.cell (by exact hbB)).trans ((hz k hkn).trans (by rw [hzd]))
      have HZ := Hid.mk hzd
      have hbr : b < wr.heap.size := by omega
      clear hz hy hzd
      by_cases hin : 1 ≤ z ∧ z ≤ 7
      · obtain ⟨j, rfl⟩ : ∃ j : Nat, z = j := ⟨z.toNat, by omega⟩
        have hj0 : (0 : Int) ≤ (j : Int) := by omega
        have hj1 : (1 : Int) ≤ (j : Int) := by omega
        have hj7 : (j : Int) ≤ 7 := by omega
        have hj8 : (j : Int) < 8 := by omega
        have q : wr.cell? ⟨w.heap.size, j, none⟩ = some (.int .i64 (tal zs k j)) := hC.cell j (by omega)
        have f : wr.frozen? ⟨w.heap.size, j, none⟩ = false := hC.free j (by omega)
        clear hC
        go_wp2
        all_goals first
          | (exfalso; omega)
          | (have R := Arr.round1 HC.out HZ.out (idx_in rfl (by omega) (by omega)) (by omega)
             first
               | (go_roundw
                  case rel => exact ⟨k + 1, by omega, by simp, R⟩
                  case measure => simp [intOf]; omega)
               | exact ⟨⟨k + 1, by omega, by simp, R⟩, by simp [intOf]; omega⟩)
          | trace_state
      · have q : wr.cell? ⟨w.heap.size, 0, none⟩ = some (.int .i64 (tal zs k 0)) := hC.cell 0 (by omega)
        have f : wr.frozen? ⟨w.heap.size, 0, none⟩ = false := hC.free 0 (by omega)
        have hi0 : idx z = 0 := by unfold idx; rw [if_neg hin]
        have hin2 : z < 1 ∨ 7 < z := by omega
        clear hC hin
        rcases hin2 with hlo | hhi
        all_goals go_wp2
        all_goals first
          | (exfalso; omega)
          | (have R := Arr.round1 HC.out HZ.out hi0 (by omega)
             first
               | (go_roundw
                  case rel => exact ⟨k + 1, by omega, by simp, R⟩
                  case measure => simp [intOf]; omega)
               | exact ⟨⟨k + 1, by omega, by simp, R⟩, by simp [intOf]; omega⟩)
          | trace_state
    · have e : k = n := by omega
      subst e
      have Q := hC.q8
      have hB := hC.below
      have HZ : Hid (∀ j, j < k → wr.cell? ⟨b, off + j * 2, none⟩ = some (.int .i64 (zs.getD j 0))) := ⟨fun j hj => (hC.below.cell (by exact hbB)).trans (hz j hj)⟩
      have HY : Hid (∀ j, j < k → wr.cell? ⟨b, off + j * 2 + 1, none⟩ = some (.int .i64 (ys.getD j 0))) := ⟨fun j hj => (hC.below.cell (by exact hbB)).trans (hy j hj)⟩
      clear hC hz hy
      go_wp2_with (go_at_call 5; refine (check_nil _).mono ?_; rintro e w1 ⟨rfl, hw1⟩)
      have hs1 : wr.heap.size ≤ w1.heap.size := hw1.size
      have K0 : Kept w b off k zs ys wr := ⟨Q, HZ.out, HY.out, hsz, by omega, hB⟩
      have K1 : Kept w b off k zs ys w1 := K0.carry hw1
      have E8 := fun w => eql8 (tal zs k 0) (tal zs k 1) (tal zs k 2) (tal zs k 3) (tal zs k 4) (tal zs k 5) (tal zs k 6) (tal zs k 7) w
      clear HZ HY Q hB hw1 K0 hs1 hsz
      go_region_held3 (fun w' => (w'.cell? ⟨w.heap.size, 0, none⟩ = some (.int .i64 (tal zs k 0)) ∧ w'.cell? ⟨w.heap.size, 1, none⟩ = some (.int .i64 (tal zs k 1)) ∧ w'.cell? ⟨w.heap.size, 2, none⟩ = some (.int .i64 (tal zs k 2)) ∧ w'.cell? ⟨w.heap.size, 3, none⟩ = some (.int .i64 (tal zs k 3)) ∧ w'.cell? ⟨w.heap.size, 4, none⟩ = some (.int .i64 (tal zs k 4)) ∧ w'.cell? ⟨w.heap.size, 5, none⟩ = some (.int .i64 (tal zs k 5)) ∧ w'.cell? ⟨w.heap.size, 6, none⟩ = some (.int .i64 (tal zs k 6)) ∧ w'.cell? ⟨w.heap.size, 7, none⟩ = some (.int .i64 (tal zs k 7))) ∧ Kept w b off k zs ys w')
        (first | (exact K1.full) | (exact K1.drew.full) | (exact (Kept.full (by assumption))) | (exact (Kept.full (Kept.drew (by assumption)))))
        (first
          | (go_at_call 4; refine (haw _).mono ?_; rintro e w2 ⟨rfl, hw2⟩; have K2 := K1.drew.carry hw2)
          | (go_at_call 6; refine (kinds_any b off k c zs ys _ hn hbig (Kept.r (by assumption)) (Kept.z (by assumption)) (Kept.y (by assumption))).mono ?_; rintro e w3 ⟨rfl, hw3⟩; have K3 := Kept.carry (by assumption) hw3)
          | (go_at_call 7; refine (clean_any _ _ _ _).mono ?_; rintro e w4 ⟨rfl, rfl⟩))
      all_goals (try go_wp2)
      all_goals go_ret
      all_goals exact ⟨rfl, Kept.l (by assumption)⟩

end Go.Proofs.Wag
namespace Go.Proofs.Wag
open Go.RowKit
theorem kinds_nil (w : World) :
    Calls Tryz.prog 6 #[.slice none 0 0] w fun e w' => e = .returned (.agg #[.int .i64 0, .int .i64 0, .int .i64 0, .int .i64 0, .int .i64 0, .int .i64 0, .int .i64 0, .int .i64 0]) ∧ Below w.heap.size w w' := by
  go_enter Tryz.func6, Tryz.ntmps6
  go_wp2
  refine wp_loop_rounds 1 ?_
  iterate 1 (rw [rounds_succ]; go_wp2)
  refine bodyPost_ret (v := .agg #[.int .i64 0, .int .i64 0, .int .i64 0, .int .i64 0, .int .i64 0, .int .i64 0, .int .i64 0, .int .i64 0]) (by simp [results, Tryz.results6, go_sem]) rfl ⟨rfl, ((Below.refl _ _).alloc (Nat.le_refl _) _).alloc (by simp) _⟩

set_option maxHeartbeats 1000000 in
set_option maxRecDepth 100000 in
theorem near_nil (haw : ∀ w, Calls Tryz.prog 4 #[] w fun e w' => e = .returned (.bool true) ∧ Below w.heap.size w w') (w : World) :
    Calls Tryz.prog 3 #[.slice none 0 0] w fun e w' => e = .returned (.bool true) ∧ Below w.heap.size w w' := by
  have K0 : Kept w 0 0 0 [] [] (w.alloc (.cells #[.int .i64 0, .int .i64 0, .int .i64 0, .int .i64 0, .int .i64 0, .int .i64 0, .int .i64 0, .int .i64 0] 24)) := by
    refine ⟨?_, fun j hj => absurd hj (Nat.not_lt_zero _), fun j hj => absurd hj (Nat.not_lt_zero _), by simp, by simp, (Below.refl _ _).alloc (Nat.le_refl _) _⟩
    unfold Q8
    simp [World.cell?_alloc_at, tal]
  have E8 := fun w => eql8 0 0 0 0 0 0 0 0 w
  go_enter Tryz.func3, Tryz.ntmps3
  go_wp2
  refine wp_loop_rounds 1 ?_
  iterate 1 (rw [rounds_succ]; go_wp2_with (go_at_call 5; refine (check_nil _).mono ?_; rintro e w1 ⟨rfl, hw1⟩; have K1 := K0.carry hw1))
  clear K0 hw1
  go_region_held3 (fun w' => (w'.cell? ⟨w.heap.size, 0, none⟩ = some (.int .i64 0) ∧ w'.cell? ⟨w.heap.size, 1, none⟩ = some (.int .i64 0) ∧ w'.cell? ⟨w.heap.size, 2, none⟩ = some (.int .i64 0) ∧ w'.cell? ⟨w.heap.size, 3, none⟩ = some (.int .i64 0) ∧ w'.cell? ⟨w.heap.size, 4, none⟩ = some (.int .i64 0) ∧ w'.cell? ⟨w.heap.size, 5, none⟩ = some (.int .i64 0) ∧ w'.cell? ⟨w.heap.size, 6, none⟩ = some (.int .i64 0) ∧ w'.cell? ⟨w.heap.size, 7, none⟩ = some (.int .i64 0)) ∧ Kept w 0 0 0 [] [] w')
    (first | (exact K1.full) | (exact K1.drew.full) | (exact (Kept.full (by assumption))) | (exact (Kept.full (Kept.drew (by assumption)))))
    (first
      | (go_at_call 4; refine (haw _).mono ?_; rintro e w2 ⟨rfl, hw2⟩; have K2 := K1.drew.carry hw2)
      | (go_at_call 6; refine (kinds_nil _).mono ?_; rintro e w3 ⟨rfl, hw3⟩; have K3 := Kept.carry (by assumption) hw3)
      | (go_at_call 7; refine (clean_any _ _ _ _).mono ?_; rintro e w4 ⟨rfl, rfl⟩))
  all_goals (try go_wp2)
  all_goals go_ret
  all_goals exact ⟨rfl, Kept.l (by assumption)⟩
end Go.Proofs.Wag
namespace Go.Proofs.Wag
open Go.ChangeShapes
variable {H : Type} {enc : TypeId × Value → H} {P : Program} {w : World} {base : Nat} {spare : Nat → Bool} {held : Bool}

/-- The numbers of a slice of structs of two ints. -/
theorem open_pairs {t e u : TypeId} {f0 f1 : Field} {fuel : Nat} {a : Addr} {len cap : Nat} {x : DataW H × List MemPlace} (ht : P.underlying t = some (.slice e)) (he : P.underlying e = some (.struct #[f0, f1]))
    (h2 : P.cellsOf e = 2) (t0 : f0.type = u) (t1 : f1.type = u) (o0 : f0.offset = 0) (o1 : f1.offset = 1) (hu : P.underlying u = some (.int .i64)) (hu1 : P.cellsOf u = 1)
    (h : DataW.trod enc P w base spare held fuel t [.slice (some a) len cap] = some x) :
    ∃ zs ys : List Int, zs.length = len ∧ ∀ i, i < len → w.cell? (a.add (i * 2)) = some (.int .i64 (zs.getD i 0)) ∧ w.cell? ((a.add (i * 2)).add 1) = some (.int .i64 (ys.getD i 0)) := by
  rcases DataW.trod_slice ht h with ⟨h0, _⟩ | ⟨a', len', cap', elems, rest, n, _, hcs, _, hb, hl, hm, hlen, hel, _, _⟩
  · cases h0
  · simp only [List.cons.injEq, Value.slice.injEq, Option.some.injEq, and_true] at hcs
    obtain ⟨rfl, rfl, rfl⟩ := hcs
    have each : ∀ i, i < len → ∃ z y : Int, w.cell? (a.add (i * 2)) = some (.int .i64 z) ∧ w.cell? ((a.add (i * 2)).add 1) = some (.int .i64 y) := by
      intro i hi
      have hy := hel i hi
      rw [List.getElem?_eq_getElem (by omega), h2, Option.bind_eq_some_iff] at hy
      obtain ⟨cs', hcs', hy'⟩ := hy
      obtain ⟨y0, y1, m, _, hl2, g0, g1⟩ := trod_struct2 he hy'
      rw [h2] at hl2
      obtain ⟨c0, c1, rfl⟩ : ∃ c0 c1, cs' = [c0, c1] := by
        match cs', hl2 with
        | [c0, c1], _ => exact ⟨c0, c1, rfl⟩
      rw [t0, o0, hu1] at g0
      rw [t1, o1, hu1] at g1
      obtain ⟨z, e0, _, _⟩ := DataW.trod_int hu g0
      obtain ⟨y, e1, _, _⟩ := DataW.trod_int hu g1
      simp at e0 e1
      subst e0 e1
      have hc := (World.cells?_some hcs').2.2
      have c0 := hc 0 (by omega)
      have c1 := hc 1 (by omega)
      refine ⟨z, y, ?_, ?_⟩
      · simpa [Addr.add] using c0
      · simpa using c1
    refine ⟨(List.range len).map fun i => if hi : i < len then (each i hi).choose else 0, (List.range len).map fun i => if hi : i < len then (each i hi).choose_spec.choose else 0, by simp, fun i hi => ?_⟩
    have hs := (each i hi).choose_spec.choose_spec
    simpa [List.getD, hi] using hs
end Go.Proofs.Wag
