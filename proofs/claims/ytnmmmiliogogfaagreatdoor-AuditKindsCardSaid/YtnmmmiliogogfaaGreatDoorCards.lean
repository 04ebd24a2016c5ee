/-
  DERIVED. GIVEN WITH THE SEED: THE CARDS: each row of YtnmmmiliogogfaaGreatDoorRows.lean that lists a variable, with what it lists TIED to the program's text (the seventh form; the later family's looks); each row that meets fmt, with fmt's text TOLD by the authors' own Lean function (tested against real Go, not proved from fmt's source: count such statements apart). THE CARD IS WHAT COUNTS. Prove the row's statement (the work); the ties are given (YtnmmmiliogogfaaGreatDoorTie.lean); close each card by the builder's one call (the guide's Derived/Test/ToyasCard.lean, 'card_holds'). Laid BY PROGRAM, IN A SANDBOX (cutbox-door.mjs). By AI agents, Wed Nov 11 2026. No macro, syntax, notation, axiom, sorry.
-/
import Derived.Test.YtnmmmiliogogfaaGreatDoorRows
import GoSem.ClaimSeven
namespace Go.Proofs.YtnmmmiliogogfaaGreatDoor
namespace Rows

/-- THE TIED CARD OF 'wagtaillaw44.AuditKinds'. -/
def auditKindsCard : Claim7 := { stood := { row := auditKindsRow, standIns := [], harness := (true, "6ee363031ba17c2061b56309b3d3ba1e7690890fe0fcf3dd5c8ea37b173a0e0f"), looks := true }, kinds := [], alts := [], laidByText := true, laidKinds := [.data, .pinned], laidTests := true, laidLooks := .later }
def AuditKindsCardSaid : Prop := Claim7.holds Tryz.pinned (.plain (OpenSpec.ofChange auditKindsSpec)) auditKindsCard

/-- THE SECOND FORM's CARD OF 'wagtaillaw44.AuditKinds'. -/
def auditKindsUptoCard : Claim7 := { stood := { row := auditKindsUptoRow, standIns := [], harness := (true, "6ee363031ba17c2061b56309b3d3ba1e7690890fe0fcf3dd5c8ea37b173a0e0f"), looks := true }, kinds := [], alts := [], laidByText := true, laidKinds := [.data, .pinned], laidTests := true, laidLooks := .later }
def AuditKindsUptoCardSaid : Prop := Claim7.holds Tryz.pinned (.plain (OpenSpec.upto auditKindsSpec)) auditKindsUptoCard
end Rows
end Go.Proofs.YtnmmmiliogogfaaGreatDoor
