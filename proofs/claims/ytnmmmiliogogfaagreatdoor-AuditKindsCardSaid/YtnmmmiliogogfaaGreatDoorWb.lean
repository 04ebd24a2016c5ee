/- What a masked byte is. -/
import Derived.Test.YtnmmmiliogogfaaGreatDoorWa
import Derived.Deep.RegionWith
set_option linter.unusedVariables false
set_option linter.unusedSimpArgs false
namespace Go.Proofs.Wag
open Go.RowKit

/-- What a mask has for a byte. -/
def maskB (ms : List Int) (i : Nat) : Int := ms.getD (i % ms.length) 0

theorem mask_any (i : Nat) (b off cap : Nat) (ms : List Int) (w : World) (hi : i ≤ 1000000) (hpos : 0 < ms.length) (hlen : ms.length ≤ 1000000) (hc : ∀ j, j < ms.length → w.cell? ⟨b, off + j, none⟩ = some (.int .u8 (ms.getD j 0))) :
    Calls Tryz.prog 216 #[.slice (some ⟨b, off, none⟩) ms.length cap, .int .i64 i] w fun e w' => e = .returned (.int .u8 (maskB ms i)) ∧ w' = w := by
  have hcell := hc (i % ms.length) (Nat.mod_lt _ hpos)
  have hmod : (i : Int).tmod ms.length = ((i % ms.length : Nat) : Int) := by simp [Int.tmod]
  have hlt := Nat.mod_lt i hpos
  go_enter Tryz.func216, Tryz.ntmps216
  go_wp2
  · exfalso
    rename_i h
    simp at h
    rcases h with h | h
    · omega
    · subst h
      simp at hpos
  · go_ret
    exact ⟨by simp [maskB, List.getD, hlt], rfl⟩

/-- A programmed byte. -/
def progB (bs ms : List Int) (i : Nat) (c : Int) : Int :=
  if bs.length ≤ i then c else bits .and .u8 c (bits .or .u8 (bs.getD i 0) (bits .xor .u8 IntKind.u8.max (maskB ms i)))

set_option maxHeartbeats 1000000 in
theorem prog1_any (i : Nat) (c : Int) (g h bb bo bc mb mo mc : Nat) (bs ms : List Int) (w : World) (hi : i ≤ 1000000) (hbl : bs.length ≤ 1000000) (hpos : 0 < ms.length) (hlen : ms.length ≤ 1000000)
    (hg : w.cell? ⟨g, 0, none⟩ = some (.slice (some ⟨bb, bo, none⟩) bs.length bc)) (hh : w.cell? ⟨h, 0, none⟩ = some (.slice (some ⟨mb, mo, none⟩) ms.length mc))
    (hb : ∀ j, j < bs.length → w.cell? ⟨bb, bo + j, none⟩ = some (.int .u8 (bs.getD j 0))) (hm : ∀ j, j < ms.length → w.cell? ⟨mb, mo + j, none⟩ = some (.int .u8 (ms.getD j 0))) :
    Calls Tryz.prog 215 #[.int .i64 i, .int .u8 c, .pointer (some ⟨g, 0, none⟩), .pointer (some ⟨h, 0, none⟩)] w fun e w' => e = .returned (.int .u8 (progB bs ms i c)) ∧ Below w.heap.size w w' := by
  by_cases hib : bs.length ≤ i
  · have e : progB bs ms i c = c := by simp [progB, hib]
    rw [e]
    go_enter Tryz.func215, Tryz.ntmps215
    go_wp2
    go_ret
    exact ⟨rfl, Below.refl _ _⟩
  · have e : progB bs ms i c = bits .and .u8 c (bits .or .u8 (bs.getD i 0) (bits .xor .u8 IntKind.u8.max (maskB ms i))) := by simp [progB, hib]
    rw [e]
    have hcell := hb i (by omega)
    have hmd : ∀ j, j < ms.length → w.drew.cell? ⟨mb, mo + j, none⟩ = some (.int .u8 (ms.getD j 0)) := hm
    go_enter Tryz.func215, Tryz.ntmps215
    go_wp2
    go_region_with (go_at_call 216; refine (mask_any i mb mo mc ms w.drew hi hpos hlen hmd).mono ?_; rintro e w' ⟨rfl, rfl⟩)
    all_goals (try go_wp2)
    all_goals go_ret
    all_goals
      refine ⟨?_, (Below.refl _ _).drew⟩
      first
        | (simp [List.getD, (by assumption : i < bs.length)]; done)
        | (simp [List.getD, (by assumption : i < bs.length)]; rfl)
end Go.Proofs.Wag
