/- StoreNone's call returns true for every input. -/
import Derived.Test.YtojhefbnlmlilaaGreatDoorSa
import Derived.Test.YtojhefbnlmlilaaGreatDoorKa
import Derived.Test.YtojhefbnlmlilaaGreatDoorLa
import Derived.Test.YtojhefbnlmlilaaGreatDoorRb
import Derived.Test.YtojhefbnlmlilaaGreatDoorRows
import Derived.ChangeSame
import Derived.ChangeVars
import Derived.JoinedOf
import Derived.RowKitTokens
import Derived.LaidLaws
import Derived.LaidHandle
import Derived.LaidMore
import Derived.Stop.Joined
set_option linter.unusedVariables false
set_option linter.unusedSimpArgs false
namespace Go.Ev
open Go.Proofs Go.Proofs.Wag Go.RowKit

theorem awake_calls (w : World) : Calls Tryz.prog 4 #[] w fun e w' => e = .returned (.bool true) ∧ Below w.heap.size w w' := by
  refine (ent_closed AwSk0 rfl rfl rfl w rfl).mono ?_
  rintro e w' ⟨h0, h1, h2, h3, h4, h5⟩
  exact ⟨h0, h1, h2, h3, h4, h5⟩

theorem oraA_ok : OraOk Tryz.prog oraA := by
  intro f args S v S' h φ w args' hR hf ha
  unfold oraA at h
  split at h
  · rename_i hb
    have hb := Nat_beq hb; subst hb
    unfold awakeO at h
    split at h
    · cases h
      obtain ⟨args'⟩ := args'
      cases ha
      refine (awake_calls w).mono ?_
      rintro e w' ⟨rfl, hB⟩
      exact ⟨_, φ, rfl, below_good hR hB, .bool _⟩
    · cases h
  · cases h

/-- A claim that is not to be unfolded. -/
structure Holds (p : Prop) : Prop where
  out : p

theorem holds_of {p q : Prop} (h : p = q) (hq : q) : Holds p := ⟨h.mpr hq⟩

/-- No memory is known, but where one slice lies. -/
def phi1 (l : Loc) : Phi := fun F => if F = 0 then some l else none

theorem rel_phi1 (l : Loc) (w : World) (h : l.blk < w.heap.size) : Rel (phi1 l) ⟨.lf, 1⟩ w where
  obs := fun F ob h => by unfold St.get at h; rw [Tr.get_lf] at h; cases h
  excl := fun F G obF obG lF lG _ h => by unfold St.get at h; rw [Tr.get_lf] at h; cases h
  ids := fun F m hm => by
    unfold phi1 at hm
    split at hm
    · cases hm; exact h
    · cases hm
  dom := fun F ob h => by unfold St.get at h; rw [Tr.get_lf] at h; cases h

theorem below_of {φ φ' : Phi} {n : Nat} {S' : St} {w w' : World} (hg : Good φ φ' ⟨.lf, n⟩ S' w w') : Below w.heap.size w w' := by
  refine ⟨hg.os, hg.tape, hg.output, hg.size, fun b hb => hg.frame b hb fun F ob l hF => ?_⟩
  unfold St.get at hF; rw [Tr.get_lf] at hF; cases hF

theorem calls_s (m n : Nat) (prio id now : Int) {sc : List Bool} (h : Holds (PathS m n prio id now sc)) (w : World) (b off cap : Nat) (hb : b < w.heap.size) (hn : n ≤ cap) :
    Calls Tryz.prog 3 #[.agg ⟨[.slice (some ⟨b, off, none⟩) n cap, .int .i64 prio, .int .u64 id, .int .u64 now]⟩] w fun e w' => e = .returned (.bool true) ∧ Below w.heap.size w w' := by
  have h := h.out
  unfold PathS at h
  obtain ⟨v, S', hv, hc⟩ := runP_sound mixed oraA_ok h
  subst hv
  have hs : RelV (phi1 ⟨b, off, cap, 1⟩) (.slice (some ⟨0, 0, none⟩) n 0) (.slice (some ⟨b, off, none⟩) n cap) :=
    RelV.sl 0 0 n 0 ⟨b, off, cap, 1⟩ ⟨b, off, none⟩ cap (by simp [phi1]) (fun _ => by simp) (by simp) hn
  refine (hc (phi1 ⟨b, off, cap, 1⟩) w _ (rel_phi1 _ w hb) (fun F h1 _ => by unfold phi1; rw [if_neg]; intro e; subst e; exact absurd h1 (by decide)) ?_).mono ?_
  · exact RelL.cons _ _ _ _ (.agg _ _ (.cons _ _ _ _ hs (.cons _ _ _ _ (.int _ _) (.cons _ _ _ _ (.int _ _) (.cons _ _ _ _ (.int _ _) .nil))))) .nil
  · rintro e w' ⟨v', φ', rfl, hg, hr⟩
    exact ⟨by cases hr; rfl, below_of hg⟩

theorem calls_n (m : Nat) (prio id now : Int) {sc : List Bool} (h : Holds (PathN m prio id now sc)) (w : World) :
    Calls Tryz.prog 3 #[.agg ⟨[.slice none 0 0, .int .i64 prio, .int .u64 id, .int .u64 now]⟩] w fun e w' => e = .returned (.bool true) ∧ Below w.heap.size w w' := by
  have h := h.out
  unfold PathN at h
  obtain ⟨v, S', hv, hc⟩ := runP_sound mixed oraA_ok h
  subst hv
  refine (hc (fun _ => none) w _ ⟨fun F ob h => (by unfold St.get at h; rw [Tr.get_lf] at h; cases h), fun F G obF obG lF lG _ h => (by unfold St.get at h; rw [Tr.get_lf] at h; cases h), fun F l h => (by cases h), fun F ob h => (by unfold St.get at h; rw [Tr.get_lf] at h; cases h)⟩ (fun _ _ _ => rfl) ?_).mono ?_
  · exact RelL.cons _ _ _ _ (.agg _ _ (.cons _ _ _ _ .sl0 (.cons _ _ _ _ (.int _ _) (.cons _ _ _ _ (.int _ _) (.cons _ _ _ _ (.int _ _) .nil))))) .nil
  · rintro e w' ⟨v', φ', rfl, hg, hr⟩
    exact ⟨by cases hr; rfl, below_of hg⟩

theorem paths_s (n : Nat) (prio id now : Int) : ∃ sc, Holds (PathS 1000 n prio id now sc) := by
  cases hd : decide (100 < Int.ofNat n) with
  | true => exact ⟨_, holds_of (path_far n prio id now) ⟨hd, rfl⟩⟩
  | false => exact ⟨_, holds_of (path_near n prio id now) ⟨hd, rfl⟩⟩
theorem paths_n (prio id now : Int) : ∃ sc, Holds (PathN 1000 prio id now sc) := ⟨_, holds_of (path_nil prio id now) ⟨rfl, rfl⟩⟩

theorem len25 : ([22, 3, 23, 23] : List TypeId).length = 4 := by kernel_rfl
theorem cells25 : Tryz.prog.cellTypes Tryz.prog.depth 25 = some [22, 3, 23, 23] := by kernel_rfl
theorem size25 : Tryz.prog.cellsOf 25 = 4 := by kernel_rfl

set_option maxRecDepth 100000 in
/-- Whatever the four are. -/
theorem calls_any {v : Value} (w : World) {base : Nat} (hv : Value.okWide Tryz.prog w .any base 25 v) : Calls Tryz.prog 3 #[v] w fun e w' => e = .returned (.bool true) ∧ Below w.heap.size w w' := by
  obtain ⟨cs, rfl, hlen, hcell⟩ := Law.struct_cells Tryz.underlying25 cells25 size25 len25 hv
  obtain ⟨c0, l0, rfl, h0⟩ := Law.cons_of hlen
  obtain ⟨c1, l1, rfl, h1⟩ := Law.cons_of h0
  obtain ⟨c2, l2, rfl, h2⟩ := Law.cons_of h1
  obtain ⟨c3, l3, rfl, h3⟩ := Law.cons_of h2
  obtain rfl := Law.nil_of h3
  obtain ⟨prio, rfl⟩ := Law.cell_int Tryz.underlying3 (hcell 1 c1 3 rfl rfl)
  obtain ⟨id, rfl⟩ := Law.cell_int Tryz.underlying23 (hcell 2 c2 23 rfl rfl)
  obtain ⟨now, rfl⟩ := Law.cell_int Tryz.underlying23 (hcell 3 c3 23 rfl rfl)
  rcases Law.cell_slice Tryz.underlying22 (hcell 0 c0 22 rfl rfl) with rfl | ⟨b, off, n, cap, rfl, hn, hb⟩
  · obtain ⟨sc, hsc⟩ := paths_n prio id now
    exact calls_n 1000 prio id now hsc w
  · obtain ⟨sc, hsc⟩ := paths_s n prio id now
    exact calls_s 1000 n prio id now hsc w b off cap hb hn
end Go.Ev
