/-
  DERIVED. GIVEN WITH THE SEED: THE CARDS: each row of YtbomkkjhafdhiaaGreatDoorRows.lean that lists a variable, with what it lists TIED to the program's text (the seventh form; the later family's looks); each row that meets fmt, with fmt's text TOLD by the authors' own Lean function (tested against real Go, not proved from fmt's source: count such statements apart). THE CARD IS WHAT COUNTS. Prove the row's statement (the work); the ties are given (YtbomkkjhafdhiaaGreatDoorTie.lean); close each card by the builder's one call (the guide's Derived/Test/ToyasCard.lean, 'card_holds'). Laid BY PROGRAM, IN A SANDBOX (cutbox-door.mjs). By AI agents, Wed Nov 11 2026. No macro, syntax, notation, axiom, sorry.
-/
import Derived.Test.YtbomkkjhafdhiaaGreatDoorRows
import GoSem.ClaimSeven
namespace Go.Proofs.YtbomkkjhafdhiaaGreatDoor
namespace Rows

/-- THE TIED CARD OF 'pantlerlaw23.TenantOf'. -/
def tenantOfCard : Claim7 := { stood := { row := tenantOfRow, standIns := [], harness := (true, "4fcd25b438cb3d12b92851ba08f06f453e9b198fa314ebb673b417575dadb261"), looks := true }, kinds := [], alts := [], laidByText := true, laidKinds := [.data, .data, .data, .data, .sentinel, .sentinel, .pinned], laidTests := true, laidLooks := .later }
def TenantOfCardSaid : Prop := Claim7.holds Tryz.pinned (.plain (OpenSpec.ofChange tenantOfSpec)) tenantOfCard

/-- THE TIED CARD OF 'pantlerlaw23.TenantSets'. -/
def tenantSetsCard : Claim7 := { stood := { row := tenantSetsRow, standIns := [], harness := (true, "4fcd25b438cb3d12b92851ba08f06f453e9b198fa314ebb673b417575dadb261"), looks := true }, kinds := [], alts := [], laidByText := true, laidKinds := [.data, .data, .data, .data, .sentinel, .sentinel, .pinned], laidTests := true, laidLooks := .later }
def TenantSetsCardSaid : Prop := Claim7.holds Tryz.pinned (.plain (OpenSpec.ofChange tenantSetsSpec)) tenantSetsCard

/-- THE TIED CARD OF 'pantlerlaw23.TenantSound'. -/
def tenantSoundCard : Claim7 := { stood := { row := tenantSoundRow, standIns := [], harness := (true, "4fcd25b438cb3d12b92851ba08f06f453e9b198fa314ebb673b417575dadb261"), looks := true }, kinds := [], alts := [], laidByText := true, laidKinds := [.data, .data, .data, .data, .sentinel, .sentinel, .pinned], laidTests := true, laidLooks := .later }
def TenantSoundCardSaid : Prop := Claim7.holds Tryz.pinned (.plain (OpenSpec.ofChange tenantSoundSpec)) tenantSoundCard

/-- THE TIED CARD OF 'pantlerlaw56.LintKeys'. -/
def lintKeysCard : Claim7 := { stood := { row := lintKeysRow, standIns := [], harness := (true, "4fcd25b438cb3d12b92851ba08f06f453e9b198fa314ebb673b417575dadb261"), looks := true }, kinds := [], alts := [], laidByText := true, laidKinds := [.data, .data, .data, .data, .sentinel, .sentinel, .pinned], laidTests := true, laidLooks := .later }
def LintKeysCardSaid : Prop := Claim7.holds Tryz.pinned (.plain (OpenSpec.ofChange lintKeysSpec)) lintKeysCard

/-- THE SECOND FORM's CARD OF 'pantlerlaw23.TenantOf'. -/
def tenantOfUptoCard : Claim7 := { stood := { row := tenantOfUptoRow, standIns := [], harness := (true, "4fcd25b438cb3d12b92851ba08f06f453e9b198fa314ebb673b417575dadb261"), looks := true }, kinds := [], alts := [], laidByText := true, laidKinds := [.data, .data, .data, .data, .sentinel, .sentinel, .pinned], laidTests := true, laidLooks := .later }
def TenantOfUptoCardSaid : Prop := Claim7.holds Tryz.pinned (.plain (OpenSpec.upto tenantOfSpec)) tenantOfUptoCard

/-- THE SECOND FORM's CARD OF 'pantlerlaw23.TenantSets'. -/
def tenantSetsUptoCard : Claim7 := { stood := { row := tenantSetsUptoRow, standIns := [], harness := (true, "4fcd25b438cb3d12b92851ba08f06f453e9b198fa314ebb673b417575dadb261"), looks := true }, kinds := [], alts := [], laidByText := true, laidKinds := [.data, .data, .data, .data, .sentinel, .sentinel, .pinned], laidTests := true, laidLooks := .later }
def TenantSetsUptoCardSaid : Prop := Claim7.holds Tryz.pinned (.plain (OpenSpec.upto tenantSetsSpec)) tenantSetsUptoCard

/-- THE SECOND FORM's CARD OF 'pantlerlaw23.TenantSound'. -/
def tenantSoundUptoCard : Claim7 := { stood := { row := tenantSoundUptoRow, standIns := [], harness := (true, "4fcd25b438cb3d12b92851ba08f06f453e9b198fa314ebb673b417575dadb261"), looks := true }, kinds := [], alts := [], laidByText := true, laidKinds := [.data, .data, .data, .data, .sentinel, .sentinel, .pinned], laidTests := true, laidLooks := .later }
def TenantSoundUptoCardSaid : Prop := Claim7.holds Tryz.pinned (.plain (OpenSpec.upto tenantSoundSpec)) tenantSoundUptoCard

/-- THE SECOND FORM's CARD OF 'pantlerlaw56.LintKeys'. -/
def lintKeysUptoCard : Claim7 := { stood := { row := lintKeysUptoRow, standIns := [], harness := (true, "4fcd25b438cb3d12b92851ba08f06f453e9b198fa314ebb673b417575dadb261"), looks := true }, kinds := [], alts := [], laidByText := true, laidKinds := [.data, .data, .data, .data, .sentinel, .sentinel, .pinned], laidTests := true, laidLooks := .later }
def LintKeysUptoCardSaid : Prop := Claim7.holds Tryz.pinned (.plain (OpenSpec.upto lintKeysSpec)) lintKeysUptoCard
end Rows
end Go.Proofs.YtbomkkjhafdhiaaGreatDoor
