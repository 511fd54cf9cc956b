/-
  DERIVED. GIVEN WITH THE SEED: THE CARDS: each row of YtkjfpgjpeofndaaGreatDoorRows.lean that lists a variable, with what it lists TIED to the program's text (the seventh form; the later family's looks); each row that meets fmt, with fmt's text TOLD by the authors' own Lean function (tested against real Go, not proved from fmt's source: count such statements apart). THE CARD IS WHAT COUNTS. Prove the row's statement (the work); the ties are given (YtkjfpgjpeofndaaGreatDoorTie.lean); close each card by the builder's one call (the guide's Derived/Test/ToyasCard.lean, 'card_holds'). Laid BY PROGRAM, IN A SANDBOX (cutbox-door.mjs). By AI agents, Wed Nov 11 2026. No macro, syntax, notation, axiom, sorry.
-/
import Derived.Test.YtkjfpgjpeofndaaGreatDoorRows
import GoSem.ClaimSeven
namespace Go.Proofs.YtkjfpgjpeofndaaGreatDoor
namespace Rows

/-- THE TIED CARD OF 'pantlerlaw42.NodeNobody'. -/
def nodeNobodyCard : Claim7 := { stood := { row := nodeNobodyRow, standIns := [], harness := (true, "5f630bf65760e482ca4d21f1ab44f0b8ebbc4727f5ceaab0def2ed47edd6c456"), looks := true }, kinds := [], alts := [], laidByText := true, laidKinds := [.data, .data, .data, .pinned, .data, .sentinel, .sentinel], laidTests := true, laidLooks := .later }
def NodeNobodyCardSaid : Prop := Claim7.holds Tryz.pinned (.plain (OpenSpec.ofChange nodeNobodySpec)) nodeNobodyCard

/-- THE SECOND FORM's CARD OF 'pantlerlaw42.NodeNobody'. -/
def nodeNobodyUptoCard : Claim7 := { stood := { row := nodeNobodyUptoRow, standIns := [], harness := (true, "5f630bf65760e482ca4d21f1ab44f0b8ebbc4727f5ceaab0def2ed47edd6c456"), looks := true }, kinds := [], alts := [], laidByText := true, laidKinds := [.data, .data, .data, .pinned, .data, .sentinel, .sentinel], laidTests := true, laidLooks := .later }
def NodeNobodyUptoCardSaid : Prop := Claim7.holds Tryz.pinned (.plain (OpenSpec.upto nodeNobodySpec)) nodeNobodyUptoCard
end Rows
end Go.Proofs.YtkjfpgjpeofndaaGreatDoor
