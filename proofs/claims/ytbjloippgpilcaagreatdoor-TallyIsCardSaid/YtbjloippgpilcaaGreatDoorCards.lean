/-
  DERIVED. GIVEN WITH THE SEED: THE CARDS: each row of YtbjloippgpilcaaGreatDoorRows.lean that lists a variable, with what it lists TIED to the program's text (the seventh form; the later family's looks); each row that meets fmt, with fmt's text TOLD by the authors' own Lean function (tested against real Go, not proved from fmt's source: count such statements apart). THE CARD IS WHAT COUNTS. Prove the row's statement (the work); the ties are given (YtbjloippgpilcaaGreatDoorTie.lean); close each card by the builder's one call (the guide's Derived/Test/ToyasCard.lean, 'card_holds'). Laid BY PROGRAM, IN A SANDBOX (cutbox-door.mjs). By AI agents, Wed Nov 11 2026. No macro, syntax, notation, axiom, sorry.
-/
import Derived.Test.YtbjloippgpilcaaGreatDoorRows
import GoSem.ClaimSeven
namespace Go.Proofs.YtbjloippgpilcaaGreatDoor
namespace Rows

/-- THE TIED CARD OF 'pantlerlaw55.TallyIs'. -/
def tallyIsCard : Claim7 := { stood := { row := tallyIsRow, standIns := [], harness := (true, "3405fa3b7e07a70674b45f7e5e03fb022e4f6ddee9c5d2e7f0ed729cac06f52d"), looks := false }, kinds := [], alts := [], laidByText := true, laidKinds := [.data, .data, .data], laidTests := true, laidLooks := .later }
def TallyIsCardSaid : Prop := Claim7.holds Tryz.pinned (.plain (OpenSpec.ofChange tallyIsSpec)) tallyIsCard

/-- THE SECOND FORM's CARD OF 'pantlerlaw55.TallyIs'. -/
def tallyIsUptoCard : Claim7 := { stood := { row := tallyIsUptoRow, standIns := [], harness := (true, "3405fa3b7e07a70674b45f7e5e03fb022e4f6ddee9c5d2e7f0ed729cac06f52d"), looks := false }, kinds := [], alts := [], laidByText := true, laidKinds := [.data, .data, .data], laidTests := true, laidLooks := .later }
def TallyIsUptoCardSaid : Prop := Claim7.holds Tryz.pinned (.plain (OpenSpec.upto tallyIsSpec)) tallyIsUptoCard
end Rows
end Go.Proofs.YtbjloippgpilcaaGreatDoor
