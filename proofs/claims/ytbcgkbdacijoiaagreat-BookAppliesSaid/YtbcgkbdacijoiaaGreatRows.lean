/-
  No cell of these rows narrows 'for every input' (looked for: loops, veiled, ifaces, maps, wideKeys, modest, calm, conditions, laid).
  DERIVED. THE GIVEN ROWS OF THIS SEAT. 7 by the template 'for every input the law returns true; each argument reads behind the call as it read before'; 0 by the template 'total and deterministic' (their statements: YtbcgkbdacijoiaaGreatTotals.lean).
  GIVEN WITH THE SEED: the statements are not yours to turn. If you find one false, say at which input.
  Laid BY PROGRAM, IN A SANDBOX (cutbox-rows.mjs): the forced cells as the released guide's own fill.sh prints them over the translation 40ee47fd271d0736… (all of the seat's roots in one cut). By AI agents, Wed Nov 11 2026. No macro, syntax, notation, axiom, sorry.
-/
import Derived.Test.YtbcgkbdacijoiaaGreatChecked
import GoSem.Claim
import GoSem.ClaimJoined
import GoSem.ClaimMapViews
import Derived.JoinedTies
import Derived.KernelRfl
namespace Go.Proofs.YtbcgkbdacijoiaaGreat
/- THE CELL 'sum', in the pinned program and in every row, IS THE sha256 OF THE DUMP (.gsa) THAT YtbcgkbdacijoiaaGreatProg.lean LOADS. Nothing in Lean hashes anything: it is a label: what it is worth is what the hold of that sum in a sandbox is worth. -/
noncomputable def Tryz.pinned : Pinned := { name := "ytbcgkbdacijoiaagreat", sum := "40ee47fd271d0736ec41ec1ff110d4691e5c0ad1a2e5eb6fe1e562ae92481269", checked := Tryz.checked }
namespace Rows
def none {H : Type} : Left H := { results := [], args := [] }

/-- 'pantlerlaw36.ReaderPlays': WHATEVER THE INPUT: true; the input reads as it did. -/
def readerPlaysSpec : ChangeSpec := { name := "readerPlays", fn := fun _ => fun
  | [d1, d2, d3] => { results := [.lit (.bool true)], args := [d1, d2, d3] }
  | _ => none }
def readerPlaysRow : OpenClaim := { program := "ytbcgkbdacijoiaagreat", sum := "40ee47fd271d0736ec41ec1ff110d4691e5c0ad1a2e5eb6fe1e562ae92481269", func := "pantler/pantlerlaw36.ReaderPlays", spec := "readerPlays", inPlace := ["internal/bytealg.abigen_runtime_cmpstring"], unfollowed := true, recurses := true, apart := false }
def ReaderPlaysSaid : Prop := readerPlaysRow.holds Tryz.pinned (OpenSpec.ofChange readerPlaysSpec)

/-- ITS FALSE NEIGHBOUR: 'it returns false'. Refute it at one input. -/
def readerPlaysWrong : ChangeSpec := { name := "readerPlays", fn := fun _ => fun
  | [d1, d2, d3] => { results := [.lit (.bool false)], args := [d1, d2, d3] }
  | _ => none }
def ReaderPlaysWrongFalsely : Prop := readerPlaysRow.holds Tryz.pinned (OpenSpec.ofChange readerPlaysWrong)

/-- 'pantlerlaw36.ReaderNobody': WHATEVER THE INPUT: true; the input reads as it did. -/
def readerNobodySpec : ChangeSpec := { name := "readerNobody", fn := fun _ => fun
  | [d] => { results := [.lit (.bool true)], args := [d] }
  | _ => none }
def readerNobodyRow : OpenClaim := { program := "ytbcgkbdacijoiaagreat", sum := "40ee47fd271d0736ec41ec1ff110d4691e5c0ad1a2e5eb6fe1e562ae92481269", func := "pantler/pantlerlaw36.ReaderNobody", spec := "readerNobody", inPlace := ["internal/bytealg.abigen_runtime_cmpstring"], unfollowed := true, recurses := true, apart := false }
def ReaderNobodySaid : Prop := readerNobodyRow.holds Tryz.pinned (OpenSpec.ofChange readerNobodySpec)

/-- ITS FALSE NEIGHBOUR: 'it returns false'. Refute it at one input. -/
def readerNobodyWrong : ChangeSpec := { name := "readerNobody", fn := fun _ => fun
  | [d] => { results := [.lit (.bool false)], args := [d] }
  | _ => none }
def ReaderNobodyWrongFalsely : Prop := readerNobodyRow.holds Tryz.pinned (OpenSpec.ofChange readerNobodyWrong)

/-- 'pantlerlaw27.BookRecords': WHATEVER THE INPUT: true; the input reads as it did. -/
def bookRecordsSpec : ChangeSpec := { name := "bookRecords", fn := fun _ => fun
  | [d1, d2, d3] => { results := [.lit (.bool true)], args := [d1, d2, d3] }
  | _ => none }
def bookRecordsRow : OpenClaim := { program := "ytbcgkbdacijoiaagreat", sum := "40ee47fd271d0736ec41ec1ff110d4691e5c0ad1a2e5eb6fe1e562ae92481269", func := "pantler/pantlerlaw27.BookRecords", spec := "bookRecords", inPlace := ["internal/bytealg.IndexByteString", "internal/bytealg.IndexString", "internal/bytealg.abigen_runtime_cmpstring", "internal/abi.NoEscape", "slices.overlaps[pantler/api.Item]", "slices.overlaps[pantler/api.Mint]", "internal/bytealg.MakeNoZero"], unfollowed := true, recurses := true, named := ["internal/bytealg.MaxLen"], apart := false }
def BookRecordsSaid : Prop := bookRecordsRow.holds Tryz.pinned (OpenSpec.ofChange bookRecordsSpec)

/-- ITS FALSE NEIGHBOUR: 'it returns false'. Refute it at one input. -/
def bookRecordsWrong : ChangeSpec := { name := "bookRecords", fn := fun _ => fun
  | [d1, d2, d3] => { results := [.lit (.bool false)], args := [d1, d2, d3] }
  | _ => none }
def BookRecordsWrongFalsely : Prop := bookRecordsRow.holds Tryz.pinned (OpenSpec.ofChange bookRecordsWrong)

/-- 'pantlerlaw27.BookApplies': WHATEVER THE INPUT: true; the input reads as it did. -/
def bookAppliesSpec : ChangeSpec := { name := "bookApplies", fn := fun _ => fun
  | [d1, d2, d3] => { results := [.lit (.bool true)], args := [d1, d2, d3] }
  | _ => none }
def bookAppliesRow : OpenClaim := { program := "ytbcgkbdacijoiaagreat", sum := "40ee47fd271d0736ec41ec1ff110d4691e5c0ad1a2e5eb6fe1e562ae92481269", func := "pantler/pantlerlaw27.BookApplies", spec := "bookApplies", inPlace := ["internal/bytealg.IndexByteString", "internal/bytealg.IndexString", "internal/bytealg.abigen_runtime_cmpstring", "internal/abi.NoEscape", "slices.overlaps[pantler/api.Item]", "slices.overlaps[pantler/api.Mint]", "internal/bytealg.MakeNoZero"], unfollowed := true, recurses := true, named := ["internal/bytealg.MaxLen"], apart := false }
def BookAppliesSaid : Prop := bookAppliesRow.holds Tryz.pinned (OpenSpec.ofChange bookAppliesSpec)

/-- ITS FALSE NEIGHBOUR: 'it returns false'. Refute it at one input. -/
def bookAppliesWrong : ChangeSpec := { name := "bookApplies", fn := fun _ => fun
  | [d1, d2, d3] => { results := [.lit (.bool false)], args := [d1, d2, d3] }
  | _ => none }
def BookAppliesWrongFalsely : Prop := bookAppliesRow.holds Tryz.pinned (OpenSpec.ofChange bookAppliesWrong)

/-- 'pantlerlaw27.BookBack': WHATEVER THE INPUT: true; the input reads as it did. -/
def bookBackSpec : ChangeSpec := { name := "bookBack", fn := fun _ => fun
  | [d1, d2, d3] => { results := [.lit (.bool true)], args := [d1, d2, d3] }
  | _ => none }
def bookBackRow : OpenClaim := { program := "ytbcgkbdacijoiaagreat", sum := "40ee47fd271d0736ec41ec1ff110d4691e5c0ad1a2e5eb6fe1e562ae92481269", func := "pantler/pantlerlaw27.BookBack", spec := "bookBack", inPlace := ["internal/bytealg.IndexByteString", "internal/bytealg.IndexString", "internal/bytealg.abigen_runtime_cmpstring", "internal/abi.NoEscape", "slices.overlaps[pantler/api.Item]", "slices.overlaps[pantler/api.Mint]", "internal/bytealg.MakeNoZero"], unfollowed := true, recurses := true, named := ["internal/bytealg.MaxLen"], apart := false }
def BookBackSaid : Prop := bookBackRow.holds Tryz.pinned (OpenSpec.ofChange bookBackSpec)

/-- ITS FALSE NEIGHBOUR: 'it returns false'. Refute it at one input. -/
def bookBackWrong : ChangeSpec := { name := "bookBack", fn := fun _ => fun
  | [d1, d2, d3] => { results := [.lit (.bool false)], args := [d1, d2, d3] }
  | _ => none }
def BookBackWrongFalsely : Prop := bookBackRow.holds Tryz.pinned (OpenSpec.ofChange bookBackWrong)

/-- 'pantlerlaw27.BookTorn': WHATEVER THE INPUT: true; the input reads as it did. -/
def bookTornSpec : ChangeSpec := { name := "bookTorn", fn := fun _ => fun
  | [d1, d2, d3] => { results := [.lit (.bool true)], args := [d1, d2, d3] }
  | _ => none }
def bookTornRow : OpenClaim := { program := "ytbcgkbdacijoiaagreat", sum := "40ee47fd271d0736ec41ec1ff110d4691e5c0ad1a2e5eb6fe1e562ae92481269", func := "pantler/pantlerlaw27.BookTorn", spec := "bookTorn", inPlace := ["internal/bytealg.IndexByteString", "internal/bytealg.IndexString", "internal/bytealg.abigen_runtime_cmpstring", "internal/abi.NoEscape", "slices.overlaps[pantler/api.Item]", "slices.overlaps[pantler/api.Mint]", "internal/bytealg.MakeNoZero"], unfollowed := true, recurses := true, named := ["internal/bytealg.MaxLen"], apart := false }
def BookTornSaid : Prop := bookTornRow.holds Tryz.pinned (OpenSpec.ofChange bookTornSpec)

/-- ITS FALSE NEIGHBOUR: 'it returns false'. Refute it at one input. -/
def bookTornWrong : ChangeSpec := { name := "bookTorn", fn := fun _ => fun
  | [d1, d2, d3] => { results := [.lit (.bool false)], args := [d1, d2, d3] }
  | _ => none }
def BookTornWrongFalsely : Prop := bookTornRow.holds Tryz.pinned (OpenSpec.ofChange bookTornWrong)

/-- 'pantlerlaw29.ComparePairs': WHATEVER THE INPUT: true; the input reads as it did. -/
def comparePairsSpec : ChangeSpec := { name := "comparePairs", fn := fun _ => fun
  | [d1, d2] => { results := [.lit (.bool true)], args := [d1, d2] }
  | _ => none }
def comparePairsRow : OpenClaim := { program := "ytbcgkbdacijoiaagreat", sum := "40ee47fd271d0736ec41ec1ff110d4691e5c0ad1a2e5eb6fe1e562ae92481269", func := "pantler/pantlerlaw29.ComparePairs", spec := "comparePairs", inPlace := ["internal/bytealg.IndexByteString", "internal/bytealg.IndexString", "internal/bytealg.abigen_runtime_cmpstring", "internal/abi.NoEscape"], unfollowed := true, recurses := true, named := ["internal/bytealg.MaxLen"], apart := false }
def ComparePairsSaid : Prop := comparePairsRow.holds Tryz.pinned (OpenSpec.ofChange comparePairsSpec)

/-- ITS FALSE NEIGHBOUR: 'it returns false'. Refute it at one input. -/
def comparePairsWrong : ChangeSpec := { name := "comparePairs", fn := fun _ => fun
  | [d1, d2] => { results := [.lit (.bool false)], args := [d1, d2] }
  | _ => none }
def ComparePairsWrongFalsely : Prop := comparePairsRow.holds Tryz.pinned (OpenSpec.ofChange comparePairsWrong)

/- THE SECOND FORM. 'bulk': how many values and letters a reading holds, each counted each time it is reached (what is shared counts as often as it is met; a slice's spare places count too). A statement '..UptoSaid' is the law's where the arguments, and the package variables that the reading takes, are together of bulk at most 1048576: NARROWER than '..Said'. Prove '..Said' where nothing that the law and all that it calls make is longer than what came in: it says more and counts as full. Else prove '..UptoSaid'. A law counts once. -/
mutual
def uptoBulk {H : Type} : DataW H → Nat
  | .lit (.string bytes) => bytes.length + 1
  | .lit _ => 1
  | .nil => 1
  | .ptr d => uptoBulk d + 1
  | .slice elems spare => uptoBulkAll elems + uptoBulkAll spare + 1
  | .agg parts => uptoBulkAll parts + 1
  | .iface _ d => uptoBulk d + 1
  | .map entries => uptoBulkEntries entries + 1
  | .held _ => 1
def uptoBulkAll {H : Type} : List (DataW H) → Nat
  | [] => 0
  | d :: r => uptoBulk d + uptoBulkAll r
def uptoBulkEntries {H : Type} : List (Lit × DataW H) → Nat
  | [] => 0
  | x :: r => uptoBulkEntry x + uptoBulkEntries r
def uptoBulkEntry {H : Type} : Lit × DataW H → Nat
  | (.string bytes, d) => bytes.length + uptoBulk d + 1
  | (_, d) => uptoBulk d + 1
 end
def uptoSmall : (H : Type) → List (DataW H) → Bool := fun _ ds => decide (uptoBulkAll ds ≤ 1048576)
def OpenSpec.upto (s : _root_.Go.ChangeSpec) : _root_.Go.OpenSpec := { _root_.Go.OpenSpec.ofChange s with cond := some uptoSmall }

/-- 'pantlerlaw36.ReaderPlays', WHERE WHAT IT READS IS OF BULK AT MOST 1048576: true; the input reads as it did. -/
def readerPlaysUptoRow : OpenClaim := { program := "ytbcgkbdacijoiaagreat", sum := "40ee47fd271d0736ec41ec1ff110d4691e5c0ad1a2e5eb6fe1e562ae92481269", func := "pantler/pantlerlaw36.ReaderPlays", spec := "readerPlays", inPlace := ["internal/bytealg.abigen_runtime_cmpstring"], unfollowed := true, recurses := true, apart := false, narrowed := true }
def ReaderPlaysUptoSaid : Prop := readerPlaysUptoRow.holds Tryz.pinned (OpenSpec.upto readerPlaysSpec)

/-- 'pantlerlaw36.ReaderNobody', WHERE WHAT IT READS IS OF BULK AT MOST 1048576: true; the input reads as it did. -/
def readerNobodyUptoRow : OpenClaim := { program := "ytbcgkbdacijoiaagreat", sum := "40ee47fd271d0736ec41ec1ff110d4691e5c0ad1a2e5eb6fe1e562ae92481269", func := "pantler/pantlerlaw36.ReaderNobody", spec := "readerNobody", inPlace := ["internal/bytealg.abigen_runtime_cmpstring"], unfollowed := true, recurses := true, apart := false, narrowed := true }
def ReaderNobodyUptoSaid : Prop := readerNobodyUptoRow.holds Tryz.pinned (OpenSpec.upto readerNobodySpec)

/-- 'pantlerlaw27.BookRecords', WHERE WHAT IT READS IS OF BULK AT MOST 1048576: true; the input reads as it did. -/
def bookRecordsUptoRow : OpenClaim := { program := "ytbcgkbdacijoiaagreat", sum := "40ee47fd271d0736ec41ec1ff110d4691e5c0ad1a2e5eb6fe1e562ae92481269", func := "pantler/pantlerlaw27.BookRecords", spec := "bookRecords", inPlace := ["internal/bytealg.IndexByteString", "internal/bytealg.IndexString", "internal/bytealg.abigen_runtime_cmpstring", "internal/abi.NoEscape", "slices.overlaps[pantler/api.Item]", "slices.overlaps[pantler/api.Mint]", "internal/bytealg.MakeNoZero"], unfollowed := true, recurses := true, named := ["internal/bytealg.MaxLen"], apart := false, narrowed := true }
def BookRecordsUptoSaid : Prop := bookRecordsUptoRow.holds Tryz.pinned (OpenSpec.upto bookRecordsSpec)

/-- 'pantlerlaw27.BookApplies', WHERE WHAT IT READS IS OF BULK AT MOST 1048576: true; the input reads as it did. -/
def bookAppliesUptoRow : OpenClaim := { program := "ytbcgkbdacijoiaagreat", sum := "40ee47fd271d0736ec41ec1ff110d4691e5c0ad1a2e5eb6fe1e562ae92481269", func := "pantler/pantlerlaw27.BookApplies", spec := "bookApplies", inPlace := ["internal/bytealg.IndexByteString", "internal/bytealg.IndexString", "internal/bytealg.abigen_runtime_cmpstring", "internal/abi.NoEscape", "slices.overlaps[pantler/api.Item]", "slices.overlaps[pantler/api.Mint]", "internal/bytealg.MakeNoZero"], unfollowed := true, recurses := true, named := ["internal/bytealg.MaxLen"], apart := false, narrowed := true }
def BookAppliesUptoSaid : Prop := bookAppliesUptoRow.holds Tryz.pinned (OpenSpec.upto bookAppliesSpec)

/-- 'pantlerlaw27.BookBack', WHERE WHAT IT READS IS OF BULK AT MOST 1048576: true; the input reads as it did. -/
def bookBackUptoRow : OpenClaim := { program := "ytbcgkbdacijoiaagreat", sum := "40ee47fd271d0736ec41ec1ff110d4691e5c0ad1a2e5eb6fe1e562ae92481269", func := "pantler/pantlerlaw27.BookBack", spec := "bookBack", inPlace := ["internal/bytealg.IndexByteString", "internal/bytealg.IndexString", "internal/bytealg.abigen_runtime_cmpstring", "internal/abi.NoEscape", "slices.overlaps[pantler/api.Item]", "slices.overlaps[pantler/api.Mint]", "internal/bytealg.MakeNoZero"], unfollowed := true, recurses := true, named := ["internal/bytealg.MaxLen"], apart := false, narrowed := true }
def BookBackUptoSaid : Prop := bookBackUptoRow.holds Tryz.pinned (OpenSpec.upto bookBackSpec)

/-- 'pantlerlaw27.BookTorn', WHERE WHAT IT READS IS OF BULK AT MOST 1048576: true; the input reads as it did. -/
def bookTornUptoRow : OpenClaim := { program := "ytbcgkbdacijoiaagreat", sum := "40ee47fd271d0736ec41ec1ff110d4691e5c0ad1a2e5eb6fe1e562ae92481269", func := "pantler/pantlerlaw27.BookTorn", spec := "bookTorn", inPlace := ["internal/bytealg.IndexByteString", "internal/bytealg.IndexString", "internal/bytealg.abigen_runtime_cmpstring", "internal/abi.NoEscape", "slices.overlaps[pantler/api.Item]", "slices.overlaps[pantler/api.Mint]", "internal/bytealg.MakeNoZero"], unfollowed := true, recurses := true, named := ["internal/bytealg.MaxLen"], apart := false, narrowed := true }
def BookTornUptoSaid : Prop := bookTornUptoRow.holds Tryz.pinned (OpenSpec.upto bookTornSpec)

/-- 'pantlerlaw29.ComparePairs', WHERE WHAT IT READS IS OF BULK AT MOST 1048576: true; the input reads as it did. -/
def comparePairsUptoRow : OpenClaim := { program := "ytbcgkbdacijoiaagreat", sum := "40ee47fd271d0736ec41ec1ff110d4691e5c0ad1a2e5eb6fe1e562ae92481269", func := "pantler/pantlerlaw29.ComparePairs", spec := "comparePairs", inPlace := ["internal/bytealg.IndexByteString", "internal/bytealg.IndexString", "internal/bytealg.abigen_runtime_cmpstring", "internal/abi.NoEscape"], unfollowed := true, recurses := true, named := ["internal/bytealg.MaxLen"], apart := false, narrowed := true }
def ComparePairsUptoSaid : Prop := comparePairsUptoRow.holds Tryz.pinned (OpenSpec.upto comparePairsSpec)

end Rows
end Go.Proofs.YtbcgkbdacijoiaaGreat
