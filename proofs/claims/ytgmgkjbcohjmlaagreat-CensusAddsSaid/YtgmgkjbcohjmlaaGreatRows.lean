/-
  No cell of these rows narrows 'for every input' (looked for: loops, veiled, ifaces, maps, wideKeys, modest, calm, conditions, laid).
  DERIVED. THE GIVEN ROWS OF THIS SEAT. 6 by the template 'for every input the law returns true; each argument reads behind the call as it read before'; 0 by the template 'total and deterministic' (their statements: YtgmgkjbcohjmlaaGreatTotals.lean).
  GIVEN WITH THE SEED: the statements are not yours to turn. If you find one false, say at which input.
  Laid BY PROGRAM, IN A SANDBOX (cutbox-rows.mjs): the forced cells as the released guide's own fill.sh prints them over the translation a1dcaf9ed2ffec6d… (all of the seat's roots in one cut). By AI agents, Wed Nov 11 2026. No macro, syntax, notation, axiom, sorry.
-/
import Derived.Test.YtgmgkjbcohjmlaaGreatChecked
import GoSem.Claim
import GoSem.ClaimJoined
import GoSem.ClaimMapViews
import Derived.JoinedTies
import Derived.KernelRfl
namespace Go.Proofs.YtgmgkjbcohjmlaaGreat
/- THE CELL 'sum', in the pinned program and in every row, IS THE sha256 OF THE DUMP (.gsa) THAT YtgmgkjbcohjmlaaGreatProg.lean LOADS. Nothing in Lean hashes anything: it is a label: what it is worth is what the hold of that sum in a sandbox is worth. -/
noncomputable def Tryz.pinned : Pinned := { name := "ytgmgkjbcohjmlaagreat", sum := "a1dcaf9ed2ffec6d515589b9235c8be633dfe375eb6830276afbb790edc7f4f1", checked := Tryz.checked }
namespace Rows
def none {H : Type} : Left H := { results := [], args := [] }

/-- 'wagtaillaw42.CensusCounts': WHATEVER THE INPUT: true; the input reads as it did. -/
def censusCountsSpec : ChangeSpec := { name := "censusCounts", fn := fun _ => fun
  | [d1, d2] => { results := [.lit (.bool true)], args := [d1, d2] }
  | _ => none }
def censusCountsRow : OpenClaim := { program := "ytgmgkjbcohjmlaagreat", sum := "a1dcaf9ed2ffec6d515589b9235c8be633dfe375eb6830276afbb790edc7f4f1", func := "wagtail/wagtaillaw42.CensusCounts", spec := "censusCounts", inPlace := ["slices.overlaps[int]"], unfollowed := true, recurses := true, apart := false }
def CensusCountsSaid : Prop := censusCountsRow.holds Tryz.pinned (OpenSpec.ofChange censusCountsSpec)

/-- ITS FALSE NEIGHBOUR: 'it returns false'. Refute it at one input. -/
def censusCountsWrong : ChangeSpec := { name := "censusCounts", fn := fun _ => fun
  | [d1, d2] => { results := [.lit (.bool false)], args := [d1, d2] }
  | _ => none }
def CensusCountsWrongFalsely : Prop := censusCountsRow.holds Tryz.pinned (OpenSpec.ofChange censusCountsWrong)

/-- 'wagtaillaw42.CensusAdds': WHATEVER THE INPUT: true; the input reads as it did. -/
def censusAddsSpec : ChangeSpec := { name := "censusAdds", fn := fun _ => fun
  | [d1, d2] => { results := [.lit (.bool true)], args := [d1, d2] }
  | _ => none }
def censusAddsRow : OpenClaim := { program := "ytgmgkjbcohjmlaagreat", sum := "a1dcaf9ed2ffec6d515589b9235c8be633dfe375eb6830276afbb790edc7f4f1", func := "wagtail/wagtaillaw42.CensusAdds", spec := "censusAdds", inPlace := ["slices.overlaps[int]"], unfollowed := true, recurses := true, apart := false }
def CensusAddsSaid : Prop := censusAddsRow.holds Tryz.pinned (OpenSpec.ofChange censusAddsSpec)

/-- ITS FALSE NEIGHBOUR: 'it returns false'. Refute it at one input. -/
def censusAddsWrong : ChangeSpec := { name := "censusAdds", fn := fun _ => fun
  | [d1, d2] => { results := [.lit (.bool false)], args := [d1, d2] }
  | _ => none }
def CensusAddsWrongFalsely : Prop := censusAddsRow.holds Tryz.pinned (OpenSpec.ofChange censusAddsWrong)

/-- 'wagtaillaw24.FtlCuts': WHATEVER THE INPUT: true; the input reads as it did. -/
def ftlCutsSpec : ChangeSpec := { name := "ftlCuts", fn := fun _ => fun
  | [d1, d2] => { results := [.lit (.bool true)], args := [d1, d2] }
  | _ => none }
def ftlCutsRow : OpenClaim := { program := "ytgmgkjbcohjmlaagreat", sum := "a1dcaf9ed2ffec6d515589b9235c8be633dfe375eb6830276afbb790edc7f4f1", func := "wagtail/wagtaillaw24.FtlCuts", spec := "ftlCuts", inPlace := ["slices.overlaps[int]"], unfollowed := true, recurses := true, apart := false }
def FtlCutsSaid : Prop := ftlCutsRow.holds Tryz.pinned (OpenSpec.ofChange ftlCutsSpec)

/-- ITS FALSE NEIGHBOUR: 'it returns false'. Refute it at one input. -/
def ftlCutsWrong : ChangeSpec := { name := "ftlCuts", fn := fun _ => fun
  | [d1, d2] => { results := [.lit (.bool false)], args := [d1, d2] }
  | _ => none }
def FtlCutsWrongFalsely : Prop := ftlCutsRow.holds Tryz.pinned (OpenSpec.ofChange ftlCutsWrong)

/-- 'wagtaillaw24.FtlNone': WHATEVER THE INPUT: true; the input reads as it did. -/
def ftlNoneSpec : ChangeSpec := { name := "ftlNone", fn := fun _ => fun
  | [d1, d2] => { results := [.lit (.bool true)], args := [d1, d2] }
  | _ => none }
def ftlNoneRow : OpenClaim := { program := "ytgmgkjbcohjmlaagreat", sum := "a1dcaf9ed2ffec6d515589b9235c8be633dfe375eb6830276afbb790edc7f4f1", func := "wagtail/wagtaillaw24.FtlNone", spec := "ftlNone", inPlace := ["slices.overlaps[int]"], unfollowed := true, recurses := true, apart := false }
def FtlNoneSaid : Prop := ftlNoneRow.holds Tryz.pinned (OpenSpec.ofChange ftlNoneSpec)

/-- ITS FALSE NEIGHBOUR: 'it returns false'. Refute it at one input. -/
def ftlNoneWrong : ChangeSpec := { name := "ftlNone", fn := fun _ => fun
  | [d1, d2] => { results := [.lit (.bool false)], args := [d1, d2] }
  | _ => none }
def FtlNoneWrongFalsely : Prop := ftlNoneRow.holds Tryz.pinned (OpenSpec.ofChange ftlNoneWrong)

/-- 'wagtaillaw24.FtlBound': WHATEVER THE INPUT: true; the input reads as it did. -/
def ftlBoundSpec : ChangeSpec := { name := "ftlBound", fn := fun _ => fun
  | [d1, d2] => { results := [.lit (.bool true)], args := [d1, d2] }
  | _ => none }
def ftlBoundRow : OpenClaim := { program := "ytgmgkjbcohjmlaagreat", sum := "a1dcaf9ed2ffec6d515589b9235c8be633dfe375eb6830276afbb790edc7f4f1", func := "wagtail/wagtaillaw24.FtlBound", spec := "ftlBound", inPlace := ["slices.overlaps[int]"], unfollowed := true, recurses := true, apart := false }
def FtlBoundSaid : Prop := ftlBoundRow.holds Tryz.pinned (OpenSpec.ofChange ftlBoundSpec)

/-- ITS FALSE NEIGHBOUR: 'it returns false'. Refute it at one input. -/
def ftlBoundWrong : ChangeSpec := { name := "ftlBound", fn := fun _ => fun
  | [d1, d2] => { results := [.lit (.bool false)], args := [d1, d2] }
  | _ => none }
def FtlBoundWrongFalsely : Prop := ftlBoundRow.holds Tryz.pinned (OpenSpec.ofChange ftlBoundWrong)

/-- 'wagtaillaw42.CensusLives': WHATEVER THE INPUT: true; the input reads as it did. -/
def censusLivesSpec : ChangeSpec := { name := "censusLives", fn := fun _ => fun
  | [d1, d2] => { results := [.lit (.bool true)], args := [d1, d2] }
  | _ => none }
def censusLivesRow : OpenClaim := { program := "ytgmgkjbcohjmlaagreat", sum := "a1dcaf9ed2ffec6d515589b9235c8be633dfe375eb6830276afbb790edc7f4f1", func := "wagtail/wagtaillaw42.CensusLives", spec := "censusLives", inPlace := ["slices.overlaps[int]"], unfollowed := true, recurses := true, apart := false }
def CensusLivesSaid : Prop := censusLivesRow.holds Tryz.pinned (OpenSpec.ofChange censusLivesSpec)

/-- ITS FALSE NEIGHBOUR: 'it returns false'. Refute it at one input. -/
def censusLivesWrong : ChangeSpec := { name := "censusLives", fn := fun _ => fun
  | [d1, d2] => { results := [.lit (.bool false)], args := [d1, d2] }
  | _ => none }
def CensusLivesWrongFalsely : Prop := censusLivesRow.holds Tryz.pinned (OpenSpec.ofChange censusLivesWrong)

/- THE SECOND FORM. 'bulk': how many values and letters a reading holds, each counted each time it is reached (what is shared counts as often as it is met; a slice's spare places count too). A statement '..UptoSaid' is the law's where the arguments, and the package variables that the reading takes, are together of bulk at most 1048576: NARROWER than '..Said'. Prove '..Said' where nothing that the law and all that it calls make is longer than what came in: it says more and counts as full. Else prove '..UptoSaid'. A law counts once. -/
mutual
def uptoBulk {H : Type} : DataW H → Nat
  | .lit (.string bytes) => bytes.length + 1
  | .lit _ => 1
  | .nil => 1
  | .ptr d => uptoBulk d + 1
  | .slice elems spare => uptoBulkAll elems + uptoBulkAll spare + 1
  | .agg parts => uptoBulkAll parts + 1
  | .iface _ d => uptoBulk d + 1
  | .map entries => uptoBulkEntries entries + 1
  | .held _ => 1
def uptoBulkAll {H : Type} : List (DataW H) → Nat
  | [] => 0
  | d :: r => uptoBulk d + uptoBulkAll r
def uptoBulkEntries {H : Type} : List (Lit × DataW H) → Nat
  | [] => 0
  | x :: r => uptoBulkEntry x + uptoBulkEntries r
def uptoBulkEntry {H : Type} : Lit × DataW H → Nat
  | (.string bytes, d) => bytes.length + uptoBulk d + 1
  | (_, d) => uptoBulk d + 1
 end
def uptoSmall : (H : Type) → List (DataW H) → Bool := fun _ ds => decide (uptoBulkAll ds ≤ 1048576)
def OpenSpec.upto (s : _root_.Go.ChangeSpec) : _root_.Go.OpenSpec := { _root_.Go.OpenSpec.ofChange s with cond := some uptoSmall }

/-- 'wagtaillaw42.CensusCounts', WHERE WHAT IT READS IS OF BULK AT MOST 1048576: true; the input reads as it did. -/
def censusCountsUptoRow : OpenClaim := { program := "ytgmgkjbcohjmlaagreat", sum := "a1dcaf9ed2ffec6d515589b9235c8be633dfe375eb6830276afbb790edc7f4f1", func := "wagtail/wagtaillaw42.CensusCounts", spec := "censusCounts", inPlace := ["slices.overlaps[int]"], unfollowed := true, recurses := true, apart := false, narrowed := true }
def CensusCountsUptoSaid : Prop := censusCountsUptoRow.holds Tryz.pinned (OpenSpec.upto censusCountsSpec)

/-- 'wagtaillaw42.CensusAdds', WHERE WHAT IT READS IS OF BULK AT MOST 1048576: true; the input reads as it did. -/
def censusAddsUptoRow : OpenClaim := { program := "ytgmgkjbcohjmlaagreat", sum := "a1dcaf9ed2ffec6d515589b9235c8be633dfe375eb6830276afbb790edc7f4f1", func := "wagtail/wagtaillaw42.CensusAdds", spec := "censusAdds", inPlace := ["slices.overlaps[int]"], unfollowed := true, recurses := true, apart := false, narrowed := true }
def CensusAddsUptoSaid : Prop := censusAddsUptoRow.holds Tryz.pinned (OpenSpec.upto censusAddsSpec)

/-- 'wagtaillaw24.FtlCuts', WHERE WHAT IT READS IS OF BULK AT MOST 1048576: true; the input reads as it did. -/
def ftlCutsUptoRow : OpenClaim := { program := "ytgmgkjbcohjmlaagreat", sum := "a1dcaf9ed2ffec6d515589b9235c8be633dfe375eb6830276afbb790edc7f4f1", func := "wagtail/wagtaillaw24.FtlCuts", spec := "ftlCuts", inPlace := ["slices.overlaps[int]"], unfollowed := true, recurses := true, apart := false, narrowed := true }
def FtlCutsUptoSaid : Prop := ftlCutsUptoRow.holds Tryz.pinned (OpenSpec.upto ftlCutsSpec)

/-- 'wagtaillaw24.FtlNone', WHERE WHAT IT READS IS OF BULK AT MOST 1048576: true; the input reads as it did. -/
def ftlNoneUptoRow : OpenClaim := { program := "ytgmgkjbcohjmlaagreat", sum := "a1dcaf9ed2ffec6d515589b9235c8be633dfe375eb6830276afbb790edc7f4f1", func := "wagtail/wagtaillaw24.FtlNone", spec := "ftlNone", inPlace := ["slices.overlaps[int]"], unfollowed := true, recurses := true, apart := false, narrowed := true }
def FtlNoneUptoSaid : Prop := ftlNoneUptoRow.holds Tryz.pinned (OpenSpec.upto ftlNoneSpec)

/-- 'wagtaillaw24.FtlBound', WHERE WHAT IT READS IS OF BULK AT MOST 1048576: true; the input reads as it did. -/
def ftlBoundUptoRow : OpenClaim := { program := "ytgmgkjbcohjmlaagreat", sum := "a1dcaf9ed2ffec6d515589b9235c8be633dfe375eb6830276afbb790edc7f4f1", func := "wagtail/wagtaillaw24.FtlBound", spec := "ftlBound", inPlace := ["slices.overlaps[int]"], unfollowed := true, recurses := true, apart := false, narrowed := true }
def FtlBoundUptoSaid : Prop := ftlBoundUptoRow.holds Tryz.pinned (OpenSpec.upto ftlBoundSpec)

/-- 'wagtaillaw42.CensusLives', WHERE WHAT IT READS IS OF BULK AT MOST 1048576: true; the input reads as it did. -/
def censusLivesUptoRow : OpenClaim := { program := "ytgmgkjbcohjmlaagreat", sum := "a1dcaf9ed2ffec6d515589b9235c8be633dfe375eb6830276afbb790edc7f4f1", func := "wagtail/wagtaillaw42.CensusLives", spec := "censusLives", inPlace := ["slices.overlaps[int]"], unfollowed := true, recurses := true, apart := false, narrowed := true }
def CensusLivesUptoSaid : Prop := censusLivesUptoRow.holds Tryz.pinned (OpenSpec.upto censusLivesSpec)

end Rows
end Go.Proofs.YtgmgkjbcohjmlaaGreat
