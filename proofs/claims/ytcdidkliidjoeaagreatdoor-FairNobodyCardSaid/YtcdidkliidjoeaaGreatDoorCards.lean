/-
  DERIVED. GIVEN WITH THE SEED: THE CARDS: each row of YtcdidkliidjoeaaGreatDoorRows.lean that lists a variable, with what it lists TIED to the program's text (the seventh form; the later family's looks); each row that meets fmt, with fmt's text TOLD by the authors' own Lean function (tested against real Go, not proved from fmt's source: count such statements apart). THE CARD IS WHAT COUNTS. Prove the row's statement (the work); the ties are given (YtcdidkliidjoeaaGreatDoorTie.lean); close each card by the builder's one call (the guide's Derived/Test/ToyasCard.lean, 'card_holds'). Laid BY PROGRAM, IN A SANDBOX (cutbox-door.mjs). By AI agents, Wed Nov 11 2026. No macro, syntax, notation, axiom, sorry.
-/
import Derived.Test.YtcdidkliidjoeaaGreatDoorRows
import GoSem.ClaimSeven
namespace Go.Proofs.YtcdidkliidjoeaaGreatDoor
namespace Rows

/-- THE TIED CARD OF 'pantlerlaw43.ClusterNobody'. -/
def clusterNobodyCard : Claim7 := { stood := { row := clusterNobodyRow, standIns := [], harness := (true, "65687202fa972023cd1026b9ef386600dc2b68efd3df5032bc321eaf48d293dd"), looks := true }, kinds := [], alts := [], laidByText := true, laidKinds := [.data, .data, .data, .sentinel, .sentinel, .pinned, .data], laidTests := true, laidLooks := .later }
def ClusterNobodyCardSaid : Prop := Claim7.holds Tryz.pinned (.plain (OpenSpec.ofChange clusterNobodySpec)) clusterNobodyCard

/-- THE TIED CARD OF 'pantlerlaw46.FairNobody'. -/
def fairNobodyCard : Claim7 := { stood := { row := fairNobodyRow, standIns := [], harness := (true, "65687202fa972023cd1026b9ef386600dc2b68efd3df5032bc321eaf48d293dd"), looks := true }, kinds := [], alts := [], laidByText := true, laidKinds := [.data, .data, .data, .sentinel, .sentinel, .pinned, .data], laidTests := true, laidLooks := .later }
def FairNobodyCardSaid : Prop := Claim7.holds Tryz.pinned (.plain (OpenSpec.ofChange fairNobodySpec)) fairNobodyCard

/-- THE SECOND FORM's CARD OF 'pantlerlaw43.ClusterNobody'. -/
def clusterNobodyUptoCard : Claim7 := { stood := { row := clusterNobodyUptoRow, standIns := [], harness := (true, "65687202fa972023cd1026b9ef386600dc2b68efd3df5032bc321eaf48d293dd"), looks := true }, kinds := [], alts := [], laidByText := true, laidKinds := [.data, .data, .data, .sentinel, .sentinel, .pinned, .data], laidTests := true, laidLooks := .later }
def ClusterNobodyUptoCardSaid : Prop := Claim7.holds Tryz.pinned (.plain (OpenSpec.upto clusterNobodySpec)) clusterNobodyUptoCard

/-- THE SECOND FORM's CARD OF 'pantlerlaw46.FairNobody'. -/
def fairNobodyUptoCard : Claim7 := { stood := { row := fairNobodyUptoRow, standIns := [], harness := (true, "65687202fa972023cd1026b9ef386600dc2b68efd3df5032bc321eaf48d293dd"), looks := true }, kinds := [], alts := [], laidByText := true, laidKinds := [.data, .data, .data, .sentinel, .sentinel, .pinned, .data], laidTests := true, laidLooks := .later }
def FairNobodyUptoCardSaid : Prop := Claim7.holds Tryz.pinned (.plain (OpenSpec.upto fairNobodySpec)) fairNobodyUptoCard
end Rows
end Go.Proofs.YtcdidkliidjoeaaGreatDoor
