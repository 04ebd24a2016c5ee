/- AuditKinds' call returns true for every input. -/
import Derived.Test.YtnmmmiliogogfaaGreatDoorKa
import Derived.Test.YtnmmmiliogogfaaGreatDoorSb
import Derived.Test.YtnmmmiliogogfaaGreatDoorLa
set_option linter.unusedVariables false
set_option linter.unusedSimpArgs false
namespace Go.Ev
open Go.Proofs Go.Proofs.Wag Go.RowKit Go.ChangeShapes

theorem awake_calls (w : World) : Calls Tryz.prog 4 #[] w fun e w' => e = .returned (.bool true) ∧ Below w.heap.size w w' := by
  refine (ent_closed AwAk0 rfl rfl rfl w rfl).mono ?_
  rintro e w' ⟨h0, h1, h2, h3, h4, h5⟩
  exact ⟨h0, h1, h2, h3, h4, h5⟩

theorem cells26 : Tryz.prog.cellsOf 26 = 2 := by kernel_rfl
theorem cells3 : Tryz.prog.cellsOf 3 = 1 := by kernel_rfl
theorem plain_add (b off n : Nat) : (⟨b, off, none⟩ : Addr).add n = ⟨b, off + n, none⟩ := by
  unfold Addr.add
  split
  · rename_i h
    subst h
    rfl
  · rfl
theorem val_cell {P : Program} {w : World} {r : Reach} {base : Nat} {t e : TypeId} {v : Value} (ht : P.underlying t = some (.slice e)) (hv : Value.okWide P w r base t v) : Cell.okWide P w r base t v := by
  unfold Value.okWide at hv
  rw [ht] at hv
  exact hv
theorem val_slice {P : Program} {w : World} {r : Reach} {base : Nat} {t e : TypeId} {v : Value} (ht : P.underlying t = some (.slice e)) (hv : Value.okWide P w r base t v) : v = .slice none 0 0 ∨ ∃ b off n cap, v = .slice (some ⟨b, off, none⟩) n cap ∧ n ≤ cap ∧ b < w.heap.size :=
  Law.cell_slice ht (val_cell ht hv)

set_option maxRecDepth 100000 in
/-- Whatever the problems are. -/
theorem calls_any {H : Type} {enc : TypeId × Value → H} {v : Value} {d : DataW H} {p : List MemPlace} {spare : Nat → Bool} {held : Bool} (w : World) {base : Nat} (hv : Value.okWide Tryz.prog w .any base 22 v) (h0 : DataW.Trod enc Tryz.prog w 0 spare held 22 v d p) :
    Calls Tryz.prog 3 #[v] w fun e w' => e = .returned (.bool true) ∧ Below w.heap.size w w' := by
  rcases val_slice Tryz.underlying22 hv with rfl | ⟨b, off, n, cap, rfl, hn, hb⟩
  · exact near_nil awake_calls w
  · obtain ⟨fuel, hf⟩ := h0
    by_cases hlen : 60 < n
    · exact far_any awake_calls _ n cap w hlen
    · obtain ⟨zs, ys, hl, hc⟩ := open_pairs Tryz.underlying22 Tryz.underlying26 cells26 rfl rfl rfl rfl Tryz.underlying3 cells3 hf
      refine near_any awake_calls b off n cap zs ys w (by omega) (by omega) hb (fun j hj => ?_) (fun j hj => ?_)
      · have h := (hc j hj).1
        rw [plain_add] at h
        exact h
      · have h := (hc j hj).2
        rw [plain_add, plain_add] at h
        exact h
end Go.Ev
