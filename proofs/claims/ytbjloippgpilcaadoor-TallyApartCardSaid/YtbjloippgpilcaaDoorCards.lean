/-
  DERIVED. GIVEN WITH THE SEED: THE CARDS: each row of YtbjloippgpilcaaDoorRows.lean that lists a variable, with what it lists TIED to the program's text (the seventh form; the later family's looks); each row that meets fmt, with fmt's text TOLD by the authors' own Lean function (tested against real Go, not proved from fmt's source: count such statements apart). THE CARD IS WHAT COUNTS. Prove the row's statement (the work); the ties are given (YtbjloippgpilcaaDoorTie.lean); close each card by the builder's one call (the guide's Derived/Test/ToyasCard.lean, 'card_holds'). Laid BY PROGRAM, IN A SANDBOX (cutbox-door.mjs). By AI agents, Wed Nov 11 2026. No macro, syntax, notation, axiom, sorry.
-/
import Derived.Test.YtbjloippgpilcaaDoorRows
import GoSem.ClaimSeven
namespace Go.Proofs.YtbjloippgpilcaaDoor
namespace Rows

/-- THE TIED CARD OF 'pantlerlaw55.TallyAll'. -/
def tallyAllCard : Claim7 := { stood := { row := tallyAllRow, standIns := [], harness := (true, "f4a62f01cc52183a48f2ba193c0374b227be1cfc2d4a6260eb4c1fc57cce5cd4"), looks := false }, kinds := [], alts := [], laidByText := true, laidKinds := [.data, .data, .data], laidTests := true, laidLooks := .later }
def TallyAllCardSaid : Prop := Claim7.holds Tryd.pinned (.plain (OpenSpec.ofChange tallyAllSpec)) tallyAllCard

/-- THE TIED CARD OF 'pantlerlaw55.TallyApart'. -/
def tallyApartCard : Claim7 := { stood := { row := tallyApartRow, standIns := [], harness := (true, "f4a62f01cc52183a48f2ba193c0374b227be1cfc2d4a6260eb4c1fc57cce5cd4"), looks := false }, kinds := [], alts := [], laidByText := true, laidKinds := [.data, .data, .data], laidTests := true, laidLooks := .later }
def TallyApartCardSaid : Prop := Claim7.holds Tryd.pinned (.plain (OpenSpec.ofChange tallyApartSpec)) tallyApartCard

/-- THE SECOND FORM's CARD OF 'pantlerlaw55.TallyAll'. -/
def tallyAllUptoCard : Claim7 := { stood := { row := tallyAllUptoRow, standIns := [], harness := (true, "f4a62f01cc52183a48f2ba193c0374b227be1cfc2d4a6260eb4c1fc57cce5cd4"), looks := false }, kinds := [], alts := [], laidByText := true, laidKinds := [.data, .data, .data], laidTests := true, laidLooks := .later }
def TallyAllUptoCardSaid : Prop := Claim7.holds Tryd.pinned (.plain (OpenSpec.upto tallyAllSpec)) tallyAllUptoCard

/-- THE SECOND FORM's CARD OF 'pantlerlaw55.TallyApart'. -/
def tallyApartUptoCard : Claim7 := { stood := { row := tallyApartUptoRow, standIns := [], harness := (true, "f4a62f01cc52183a48f2ba193c0374b227be1cfc2d4a6260eb4c1fc57cce5cd4"), looks := false }, kinds := [], alts := [], laidByText := true, laidKinds := [.data, .data, .data], laidTests := true, laidLooks := .later }
def TallyApartUptoCardSaid : Prop := Claim7.holds Tryd.pinned (.plain (OpenSpec.upto tallyApartSpec)) tallyApartUptoCard
end Rows
end Go.Proofs.YtbjloippgpilcaaDoor
