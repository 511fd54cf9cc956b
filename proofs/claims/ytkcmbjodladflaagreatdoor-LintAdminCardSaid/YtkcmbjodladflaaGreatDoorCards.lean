/-
  DERIVED. GIVEN WITH THE SEED: THE CARDS: each row of YtkcmbjodladflaaGreatDoorRows.lean that lists a variable, with what it lists TIED to the program's text (the seventh form; the later family's looks); each row that meets fmt, with fmt's text TOLD by the authors' own Lean function (tested against real Go, not proved from fmt's source: count such statements apart). THE CARD IS WHAT COUNTS. Prove the row's statement (the work); the ties are given (YtkcmbjodladflaaGreatDoorTie.lean); close each card by the builder's one call (the guide's Derived/Test/ToyasCard.lean, 'card_holds'). Laid BY PROGRAM, IN A SANDBOX (cutbox-door.mjs). By AI agents, Wed Nov 11 2026. No macro, syntax, notation, axiom, sorry.
-/
import Derived.Test.YtkcmbjodladflaaGreatDoorRows
import GoSem.ClaimSeven
namespace Go.Proofs.YtkcmbjodladflaaGreatDoor
namespace Rows

/-- THE TIED CARD OF 'pantlerlaw41.AdminIs'. -/
def adminIsCard : Claim7 := { stood := { row := adminIsRow, standIns := [], harness := (true, "fa257fb8e6c8c364e6a0ceb9276e4f849d851485631c0024ce5236b4f886fe2b"), looks := true }, kinds := [], alts := [], laidByText := true, laidKinds := [.data, .data, .data, .data, .pinned], laidTests := true, laidLooks := .later }
def AdminIsCardSaid : Prop := Claim7.holds Tryz.pinned (.plain (OpenSpec.ofChange adminIsSpec)) adminIsCard

/-- THE TIED CARD OF 'pantlerlaw41.AdminFirst'. -/
def adminFirstCard : Claim7 := { stood := { row := adminFirstRow, standIns := [], harness := (true, "fa257fb8e6c8c364e6a0ceb9276e4f849d851485631c0024ce5236b4f886fe2b"), looks := true }, kinds := [], alts := [], laidByText := true, laidKinds := [.data, .data, .data, .data, .pinned], laidTests := true, laidLooks := .later }
def AdminFirstCardSaid : Prop := Claim7.holds Tryz.pinned (.plain (OpenSpec.ofChange adminFirstSpec)) adminFirstCard

/-- THE TIED CARD OF 'pantlerlaw41.AdminNewer'. -/
def adminNewerCard : Claim7 := { stood := { row := adminNewerRow, standIns := [], harness := (true, "fa257fb8e6c8c364e6a0ceb9276e4f849d851485631c0024ce5236b4f886fe2b"), looks := true }, kinds := [], alts := [], laidByText := true, laidKinds := [.data, .data, .data, .data, .pinned], laidTests := true, laidLooks := .later }
def AdminNewerCardSaid : Prop := Claim7.holds Tryz.pinned (.plain (OpenSpec.ofChange adminNewerSpec)) adminNewerCard

/-- THE TIED CARD OF 'pantlerlaw41.AdminShares'. -/
def adminSharesCard : Claim7 := { stood := { row := adminSharesRow, standIns := [], harness := (true, "fa257fb8e6c8c364e6a0ceb9276e4f849d851485631c0024ce5236b4f886fe2b"), looks := true }, kinds := [], alts := [], laidByText := true, laidKinds := [.data, .data, .data, .data, .pinned], laidTests := true, laidLooks := .later }
def AdminSharesCardSaid : Prop := Claim7.holds Tryz.pinned (.plain (OpenSpec.ofChange adminSharesSpec)) adminSharesCard

/-- THE TIED CARD OF 'pantlerlaw56.LintAdmin'. -/
def lintAdminCard : Claim7 := { stood := { row := lintAdminRow, standIns := [], harness := (true, "fa257fb8e6c8c364e6a0ceb9276e4f849d851485631c0024ce5236b4f886fe2b"), looks := true }, kinds := [], alts := [], laidByText := true, laidKinds := [.data, .data, .data, .data, .sentinel, .sentinel, .pinned], laidTests := true, laidLooks := .later }
def LintAdminCardSaid : Prop := Claim7.holds Tryz.pinned (.plain (OpenSpec.ofChange lintAdminSpec)) lintAdminCard

/-- THE SECOND FORM's CARD OF 'pantlerlaw41.AdminIs'. -/
def adminIsUptoCard : Claim7 := { stood := { row := adminIsUptoRow, standIns := [], harness := (true, "fa257fb8e6c8c364e6a0ceb9276e4f849d851485631c0024ce5236b4f886fe2b"), looks := true }, kinds := [], alts := [], laidByText := true, laidKinds := [.data, .data, .data, .data, .pinned], laidTests := true, laidLooks := .later }
def AdminIsUptoCardSaid : Prop := Claim7.holds Tryz.pinned (.plain (OpenSpec.upto adminIsSpec)) adminIsUptoCard

/-- THE SECOND FORM's CARD OF 'pantlerlaw41.AdminFirst'. -/
def adminFirstUptoCard : Claim7 := { stood := { row := adminFirstUptoRow, standIns := [], harness := (true, "fa257fb8e6c8c364e6a0ceb9276e4f849d851485631c0024ce5236b4f886fe2b"), looks := true }, kinds := [], alts := [], laidByText := true, laidKinds := [.data, .data, .data, .data, .pinned], laidTests := true, laidLooks := .later }
def AdminFirstUptoCardSaid : Prop := Claim7.holds Tryz.pinned (.plain (OpenSpec.upto adminFirstSpec)) adminFirstUptoCard

/-- THE SECOND FORM's CARD OF 'pantlerlaw41.AdminNewer'. -/
def adminNewerUptoCard : Claim7 := { stood := { row := adminNewerUptoRow, standIns := [], harness := (true, "fa257fb8e6c8c364e6a0ceb9276e4f849d851485631c0024ce5236b4f886fe2b"), looks := true }, kinds := [], alts := [], laidByText := true, laidKinds := [.data, .data, .data, .data, .pinned], laidTests := true, laidLooks := .later }
def AdminNewerUptoCardSaid : Prop := Claim7.holds Tryz.pinned (.plain (OpenSpec.upto adminNewerSpec)) adminNewerUptoCard

/-- THE SECOND FORM's CARD OF 'pantlerlaw41.AdminShares'. -/
def adminSharesUptoCard : Claim7 := { stood := { row := adminSharesUptoRow, standIns := [], harness := (true, "fa257fb8e6c8c364e6a0ceb9276e4f849d851485631c0024ce5236b4f886fe2b"), looks := true }, kinds := [], alts := [], laidByText := true, laidKinds := [.data, .data, .data, .data, .pinned], laidTests := true, laidLooks := .later }
def AdminSharesUptoCardSaid : Prop := Claim7.holds Tryz.pinned (.plain (OpenSpec.upto adminSharesSpec)) adminSharesUptoCard

/-- THE SECOND FORM's CARD OF 'pantlerlaw56.LintAdmin'. -/
def lintAdminUptoCard : Claim7 := { stood := { row := lintAdminUptoRow, standIns := [], harness := (true, "fa257fb8e6c8c364e6a0ceb9276e4f849d851485631c0024ce5236b4f886fe2b"), looks := true }, kinds := [], alts := [], laidByText := true, laidKinds := [.data, .data, .data, .data, .sentinel, .sentinel, .pinned], laidTests := true, laidLooks := .later }
def LintAdminUptoCardSaid : Prop := Claim7.holds Tryz.pinned (.plain (OpenSpec.upto lintAdminSpec)) lintAdminUptoCard
end Rows
end Go.Proofs.YtkcmbjodladflaaGreatDoor
