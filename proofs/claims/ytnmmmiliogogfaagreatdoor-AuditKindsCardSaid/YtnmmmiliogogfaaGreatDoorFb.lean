/- AuditKinds' row holds: whatever the problems are the law's call returns true and its input reads as it did. Condition: the two listed variables of unicode/utf8 start as the text lays them. -/
import Derived.Test.YtnmmmiliogogfaaGreatDoorFa
import Derived.Test.YtnmmmiliogogfaaGreatDoorCa
import Derived.ChangeSame
import Derived.ChangeVars
import Derived.JoinedOf
import Derived.RowKitTokens
import Derived.LaidLaws
import Derived.LaidHandle
import Derived.LaidMore
import Derived.Stop.Joined
import Derived.Test.YtnmmmiliogogfaaGreatDoorRows
set_option linter.unusedVariables false
set_option linter.unusedSimpArgs false
namespace Go.Proofs.YtnmmmiliogogfaaGreatDoor.AuditKinds
open Go.ChangeShapes Go.WideShapes Go.ChangeAt Go.RowKit Go.Proofs.Law

theorem own : ownKnob Tryz.prog.godebug = none := by kernel_rfl

noncomputable def litCell : DataW Unit → Value
  | .lit (.int k n) => .int k n
  | _ => .tuple #[]
noncomputable def aggL : DataW Unit → List (DataW Unit)
  | .agg l => l
  | _ => []
noncomputable def firstCells : List Value := (aggL Go.Pinned.utf8First).map litCell
noncomputable def acceptCells : List Value := (aggL Rows.laid_unicode_utf8_acceptRanges).flatMap fun d => (aggL d).map litCell
noncomputable def relay (cs : List Value) : Obj → Obj
  | .cells _ t fz => .cells ⟨cs⟩ t fz
  | o => o
noncomputable abbrev laid2 : List (String × DataW Unit) := [("unicode/utf8.acceptRanges", Rows.laid_unicode_utf8_acceptRanges), ("unicode/utf8.first", Rows.laid_unicode_utf8_first)]
/-- A world that meets the condition. -/
noncomputable def laidWorld (os : Os) : World :=
  let w0 := World.holding Tryz.prog os ⟨#[], #[], []⟩
  { w0 with heap := (w0.heap.modify 0 (relay firstCells)).modify 1 (relay acceptCells) }
theorem gF : Tryz.prog.globalNamed "unicode/utf8.first" = some 0 := by kernel_rfl
theorem gA : Tryz.prog.globalNamed "unicode/utf8.acceptRanges" = some 1 := by kernel_rfl

theorem laidWorld_met (os : Os) (args : Array Value) : laidMetH Tryz.prog laid2 ((laidWorld os).forCall (fun _ _ => 0) ⟨#[], args, []⟩).memory :=
  laidMetH_of_parts (laidMet_of_run' 8 (by kernel_rfl) (by kernel_rfl)) (by kernel_rfl)

noncomputable abbrev zero : Value := .slice none 0 0

set_option maxRecDepth 100000 in
theorem lifted (os : Os) (started : os.Started) (H : Type) (enc : TypeId × Value → H) :
    ReturnsInHanded {} Tryz.checked os 3 .any (fun w args => (Rows.auditKindsSpec.pre enc Tryz.prog Tryz.f3 [] false w args ∧ laidMetH Tryz.prog laid2 w) ∧ sizedMet enc Tryz.prog Tryz.f3 (OpenSpec.ofChange Rows.auditKindsSpec) false w args)
      (Rows.auditKindsSpec.post enc Tryz.prog Tryz.f3 false true false false) := by
  refine returnsInHanded_of_change_and (C := Tryz.checked) (X := fun w _ => laidMetH Tryz.prog laid2 w) (fun _ _ _ hh h => h.of_heap hh) own started (by kernel_rfl) Tryz.func3
    (ChangeSpec.witness_at (enc := enc) (C := Tryz.checked) (os := os) (X := fun w _ => laidMetH Tryz.prog laid2 w) false (laidWorld os) #[zero] 8 rfl (by kernel_rfl) (by kernel_rfl) (by kernel_rfl) (by kernel_rfl) (by kernel_rfl) (laidWorld_met os _)) ?_
  intro W base args ds gs before hval0 hW _ _ hL _
  have hval : ∀ (j : Nat) t v, Tryz.f3.params[j]? = some t → args[j]? = some v → Value.okWide Tryz.prog W .any base t v := hval0
  have hW' := hW
  obtain ⟨p, q, hA0, hV, rfl, hfz, hnd⟩ := hW
  have hA : DataW.TrodAll enc Tryz.prog W 0 (fun _ => true) true Tryz.f3.params.toList args.toList ds p := hA0
  rw [Tryz.params3] at hA hval
  obtain ⟨v0, d0, rfl, rfl, h0⟩ := trodAll_one hA
  obtain ⟨rfl, rfl⟩ := trodVars_none hV
  refine (Go.Ev.calls_any W (hval 0 22 v0 rfl rfl) h0).mono fun e W' ⟨he, hB⟩ => ?_
  exact ⟨_, he, post_true (t := 4) laidOut rfl (by kernel_rfl) (by kernel_rfl) Tryz.underlying4 rfl hW' hB⟩

theorem row_holds : Rows.AuditKindsSaid :=
  OpenClaim.holds_of_wide 3 Tryz.f3 rfl rfl rfl rfl rfl rfl rfl ⟨rfl, rfl, rfl, rfl, rfl⟩ rfl rfl rfl rfl rfl (by kernel_rfl) Tryz.func3 facts
    (of_decide_eq_true (by kernel_rfl)) (by unfold Func.isWrapper; first | (rw [if_pos (by decide +kernel)]; kernel_rfl) | (rw [if_neg (by decide +kernel)]; exact ⟨rfl, rfl⟩))
    (fun os started H enc _ => lifted os started H enc)

end Go.Proofs.YtnmmmiliogogfaaGreatDoor.AuditKinds
