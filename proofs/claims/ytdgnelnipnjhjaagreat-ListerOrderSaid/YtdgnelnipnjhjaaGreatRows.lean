/-
  No cell of these rows narrows 'for every input' (looked for: loops, veiled, ifaces, maps, wideKeys, modest, calm, conditions, laid).
  DERIVED. THE GIVEN ROWS OF THIS SEAT. 7 by the template 'for every input the law returns true; each argument reads behind the call as it read before'; 0 by the template 'total and deterministic' (their statements: YtdgnelnipnjhjaaGreatTotals.lean).
  GIVEN WITH THE SEED: the statements are not yours to turn. If you find one false, say at which input.
  Laid BY PROGRAM, IN A SANDBOX (cutbox-rows.mjs): the forced cells as the released guide's own fill.sh prints them over the translation 80811172fc6abd0f… (all of the seat's roots in one cut). By AI agents, Wed Nov 11 2026. No macro, syntax, notation, axiom, sorry.
-/
import Derived.Test.YtdgnelnipnjhjaaGreatChecked
import GoSem.Claim
import GoSem.ClaimJoined
import GoSem.ClaimMapViews
import Derived.JoinedTies
import Derived.KernelRfl
namespace Go.Proofs.YtdgnelnipnjhjaaGreat
/- THE CELL 'sum', in the pinned program and in every row, IS THE sha256 OF THE DUMP (.gsa) THAT YtdgnelnipnjhjaaGreatProg.lean LOADS. Nothing in Lean hashes anything: it is a label: what it is worth is what the hold of that sum in a sandbox is worth. -/
noncomputable def Tryz.pinned : Pinned := { name := "ytdgnelnipnjhjaagreat", sum := "80811172fc6abd0f001d9c42766489c5e61c1fcd500858df3b0b720031054ff8", checked := Tryz.checked }
namespace Rows
def none {H : Type} : Left H := { results := [], args := [] }

/-- 'pantlerlaw36.ReaderPlays': WHATEVER THE INPUT: true; the input reads as it did. -/
def readerPlaysSpec : ChangeSpec := { name := "readerPlays", fn := fun _ => fun
  | [d1, d2, d3] => { results := [.lit (.bool true)], args := [d1, d2, d3] }
  | _ => none }
def readerPlaysRow : OpenClaim := { program := "ytdgnelnipnjhjaagreat", sum := "80811172fc6abd0f001d9c42766489c5e61c1fcd500858df3b0b720031054ff8", func := "pantler/pantlerlaw36.ReaderPlays", spec := "readerPlays", inPlace := ["internal/bytealg.abigen_runtime_cmpstring"], unfollowed := true, recurses := true, apart := false }
def ReaderPlaysSaid : Prop := readerPlaysRow.holds Tryz.pinned (OpenSpec.ofChange readerPlaysSpec)

/-- ITS FALSE NEIGHBOUR: 'it returns false'. Refute it at one input. -/
def readerPlaysWrong : ChangeSpec := { name := "readerPlays", fn := fun _ => fun
  | [d1, d2, d3] => { results := [.lit (.bool false)], args := [d1, d2, d3] }
  | _ => none }
def ReaderPlaysWrongFalsely : Prop := readerPlaysRow.holds Tryz.pinned (OpenSpec.ofChange readerPlaysWrong)

/-- 'pantlerlaw36.ReaderNobody': WHATEVER THE INPUT: true; the input reads as it did. -/
def readerNobodySpec : ChangeSpec := { name := "readerNobody", fn := fun _ => fun
  | [d] => { results := [.lit (.bool true)], args := [d] }
  | _ => none }
def readerNobodyRow : OpenClaim := { program := "ytdgnelnipnjhjaagreat", sum := "80811172fc6abd0f001d9c42766489c5e61c1fcd500858df3b0b720031054ff8", func := "pantler/pantlerlaw36.ReaderNobody", spec := "readerNobody", inPlace := ["internal/bytealg.abigen_runtime_cmpstring"], unfollowed := true, recurses := true, apart := false }
def ReaderNobodySaid : Prop := readerNobodyRow.holds Tryz.pinned (OpenSpec.ofChange readerNobodySpec)

/-- ITS FALSE NEIGHBOUR: 'it returns false'. Refute it at one input. -/
def readerNobodyWrong : ChangeSpec := { name := "readerNobody", fn := fun _ => fun
  | [d] => { results := [.lit (.bool false)], args := [d] }
  | _ => none }
def ReaderNobodyWrongFalsely : Prop := readerNobodyRow.holds Tryz.pinned (OpenSpec.ofChange readerNobodyWrong)

/-- 'pantlerlaw29.CompareTells': WHATEVER THE INPUT: true; the input reads as it did. -/
def compareTellsSpec : ChangeSpec := { name := "compareTells", fn := fun _ => fun
  | [d1, d2, d3] => { results := [.lit (.bool true)], args := [d1, d2, d3] }
  | _ => none }
def compareTellsRow : OpenClaim := { program := "ytdgnelnipnjhjaagreat", sum := "80811172fc6abd0f001d9c42766489c5e61c1fcd500858df3b0b720031054ff8", func := "pantler/pantlerlaw29.CompareTells", spec := "compareTells", inPlace := ["internal/bytealg.IndexByteString", "internal/bytealg.IndexString", "internal/bytealg.abigen_runtime_cmpstring"], unfollowed := true, recurses := true, named := ["internal/bytealg.MaxLen"], apart := false }
def CompareTellsSaid : Prop := compareTellsRow.holds Tryz.pinned (OpenSpec.ofChange compareTellsSpec)

/-- ITS FALSE NEIGHBOUR: 'it returns false'. Refute it at one input. -/
def compareTellsWrong : ChangeSpec := { name := "compareTells", fn := fun _ => fun
  | [d1, d2, d3] => { results := [.lit (.bool false)], args := [d1, d2, d3] }
  | _ => none }
def CompareTellsWrongFalsely : Prop := compareTellsRow.holds Tryz.pinned (OpenSpec.ofChange compareTellsWrong)

/-- 'pantlerlaw29.CompareMerges': WHATEVER THE INPUT: true; the input reads as it did. -/
def compareMergesSpec : ChangeSpec := { name := "compareMerges", fn := fun _ => fun
  | [d1, d2] => { results := [.lit (.bool true)], args := [d1, d2] }
  | _ => none }
def compareMergesRow : OpenClaim := { program := "ytdgnelnipnjhjaagreat", sum := "80811172fc6abd0f001d9c42766489c5e61c1fcd500858df3b0b720031054ff8", func := "pantler/pantlerlaw29.CompareMerges", spec := "compareMerges", inPlace := ["internal/bytealg.IndexByteString", "internal/bytealg.IndexString", "internal/bytealg.abigen_runtime_cmpstring"], unfollowed := true, recurses := true, named := ["internal/bytealg.MaxLen"], apart := false }
def CompareMergesSaid : Prop := compareMergesRow.holds Tryz.pinned (OpenSpec.ofChange compareMergesSpec)

/-- ITS FALSE NEIGHBOUR: 'it returns false'. Refute it at one input. -/
def compareMergesWrong : ChangeSpec := { name := "compareMerges", fn := fun _ => fun
  | [d1, d2] => { results := [.lit (.bool false)], args := [d1, d2] }
  | _ => none }
def CompareMergesWrongFalsely : Prop := compareMergesRow.holds Tryz.pinned (OpenSpec.ofChange compareMergesWrong)

/-- 'pantlerlaw38.ListerPlays': WHATEVER THE INPUT: true; the input reads as it did. -/
def listerPlaysSpec : ChangeSpec := { name := "listerPlays", fn := fun _ => fun
  | [d1, d2, d3] => { results := [.lit (.bool true)], args := [d1, d2, d3] }
  | _ => none }
def listerPlaysRow : OpenClaim := { program := "ytdgnelnipnjhjaagreat", sum := "80811172fc6abd0f001d9c42766489c5e61c1fcd500858df3b0b720031054ff8", func := "pantler/pantlerlaw38.ListerPlays", spec := "listerPlays", inPlace := ["internal/bytealg.IndexByteString", "internal/bytealg.IndexString", "internal/bytealg.abigen_runtime_cmpstring"], unfollowed := true, recurses := true, named := ["internal/bytealg.MaxLen"], apart := false }
def ListerPlaysSaid : Prop := listerPlaysRow.holds Tryz.pinned (OpenSpec.ofChange listerPlaysSpec)

/-- ITS FALSE NEIGHBOUR: 'it returns false'. Refute it at one input. -/
def listerPlaysWrong : ChangeSpec := { name := "listerPlays", fn := fun _ => fun
  | [d1, d2, d3] => { results := [.lit (.bool false)], args := [d1, d2, d3] }
  | _ => none }
def ListerPlaysWrongFalsely : Prop := listerPlaysRow.holds Tryz.pinned (OpenSpec.ofChange listerPlaysWrong)

/-- 'pantlerlaw38.ListerOrder': WHATEVER THE INPUT: true; the input reads as it did. -/
def listerOrderSpec : ChangeSpec := { name := "listerOrder", fn := fun _ => fun
  | [d1, d2] => { results := [.lit (.bool true)], args := [d1, d2] }
  | _ => none }
def listerOrderRow : OpenClaim := { program := "ytdgnelnipnjhjaagreat", sum := "80811172fc6abd0f001d9c42766489c5e61c1fcd500858df3b0b720031054ff8", func := "pantler/pantlerlaw38.ListerOrder", spec := "listerOrder", inPlace := ["internal/bytealg.IndexByteString", "internal/bytealg.IndexString", "internal/bytealg.abigen_runtime_cmpstring"], unfollowed := true, recurses := true, named := ["internal/bytealg.MaxLen"], apart := false }
def ListerOrderSaid : Prop := listerOrderRow.holds Tryz.pinned (OpenSpec.ofChange listerOrderSpec)

/-- ITS FALSE NEIGHBOUR: 'it returns false'. Refute it at one input. -/
def listerOrderWrong : ChangeSpec := { name := "listerOrder", fn := fun _ => fun
  | [d1, d2] => { results := [.lit (.bool false)], args := [d1, d2] }
  | _ => none }
def ListerOrderWrongFalsely : Prop := listerOrderRow.holds Tryz.pinned (OpenSpec.ofChange listerOrderWrong)

/-- 'pantlerlaw38.ListerNobody': WHATEVER THE INPUT: true; the input reads as it did. -/
def listerNobodySpec : ChangeSpec := { name := "listerNobody", fn := fun _ => fun
  | [d] => { results := [.lit (.bool true)], args := [d] }
  | _ => none }
def listerNobodyRow : OpenClaim := { program := "ytdgnelnipnjhjaagreat", sum := "80811172fc6abd0f001d9c42766489c5e61c1fcd500858df3b0b720031054ff8", func := "pantler/pantlerlaw38.ListerNobody", spec := "listerNobody", inPlace := ["internal/bytealg.IndexByteString", "internal/bytealg.IndexString", "internal/bytealg.abigen_runtime_cmpstring"], unfollowed := true, recurses := true, named := ["internal/bytealg.MaxLen"], apart := false }
def ListerNobodySaid : Prop := listerNobodyRow.holds Tryz.pinned (OpenSpec.ofChange listerNobodySpec)

/-- ITS FALSE NEIGHBOUR: 'it returns false'. Refute it at one input. -/
def listerNobodyWrong : ChangeSpec := { name := "listerNobody", fn := fun _ => fun
  | [d] => { results := [.lit (.bool false)], args := [d] }
  | _ => none }
def ListerNobodyWrongFalsely : Prop := listerNobodyRow.holds Tryz.pinned (OpenSpec.ofChange listerNobodyWrong)

/- THE SECOND FORM. 'bulk': how many values and letters a reading holds, each counted each time it is reached (what is shared counts as often as it is met; a slice's spare places count too). A statement '..UptoSaid' is the law's where the arguments, and the package variables that the reading takes, are together of bulk at most 1048576: NARROWER than '..Said'. Prove '..Said' where nothing that the law and all that it calls make is longer than what came in: it says more and counts as full. Else prove '..UptoSaid'. A law counts once. -/
mutual
def uptoBulk {H : Type} : DataW H → Nat
  | .lit (.string bytes) => bytes.length + 1
  | .lit _ => 1
  | .nil => 1
  | .ptr d => uptoBulk d + 1
  | .slice elems spare => uptoBulkAll elems + uptoBulkAll spare + 1
  | .agg parts => uptoBulkAll parts + 1
  | .iface _ d => uptoBulk d + 1
  | .map entries => uptoBulkEntries entries + 1
  | .held _ => 1
def uptoBulkAll {H : Type} : List (DataW H) → Nat
  | [] => 0
  | d :: r => uptoBulk d + uptoBulkAll r
def uptoBulkEntries {H : Type} : List (Lit × DataW H) → Nat
  | [] => 0
  | x :: r => uptoBulkEntry x + uptoBulkEntries r
def uptoBulkEntry {H : Type} : Lit × DataW H → Nat
  | (.string bytes, d) => bytes.length + uptoBulk d + 1
  | (_, d) => uptoBulk d + 1
 end
def uptoSmall : (H : Type) → List (DataW H) → Bool := fun _ ds => decide (uptoBulkAll ds ≤ 1048576)
def OpenSpec.upto (s : _root_.Go.ChangeSpec) : _root_.Go.OpenSpec := { _root_.Go.OpenSpec.ofChange s with cond := some uptoSmall }

/-- 'pantlerlaw36.ReaderPlays', WHERE WHAT IT READS IS OF BULK AT MOST 1048576: true; the input reads as it did. -/
def readerPlaysUptoRow : OpenClaim := { program := "ytdgnelnipnjhjaagreat", sum := "80811172fc6abd0f001d9c42766489c5e61c1fcd500858df3b0b720031054ff8", func := "pantler/pantlerlaw36.ReaderPlays", spec := "readerPlays", inPlace := ["internal/bytealg.abigen_runtime_cmpstring"], unfollowed := true, recurses := true, apart := false, narrowed := true }
def ReaderPlaysUptoSaid : Prop := readerPlaysUptoRow.holds Tryz.pinned (OpenSpec.upto readerPlaysSpec)

/-- 'pantlerlaw36.ReaderNobody', WHERE WHAT IT READS IS OF BULK AT MOST 1048576: true; the input reads as it did. -/
def readerNobodyUptoRow : OpenClaim := { program := "ytdgnelnipnjhjaagreat", sum := "80811172fc6abd0f001d9c42766489c5e61c1fcd500858df3b0b720031054ff8", func := "pantler/pantlerlaw36.ReaderNobody", spec := "readerNobody", inPlace := ["internal/bytealg.abigen_runtime_cmpstring"], unfollowed := true, recurses := true, apart := false, narrowed := true }
def ReaderNobodyUptoSaid : Prop := readerNobodyUptoRow.holds Tryz.pinned (OpenSpec.upto readerNobodySpec)

/-- 'pantlerlaw29.CompareTells', WHERE WHAT IT READS IS OF BULK AT MOST 1048576: true; the input reads as it did. -/
def compareTellsUptoRow : OpenClaim := { program := "ytdgnelnipnjhjaagreat", sum := "80811172fc6abd0f001d9c42766489c5e61c1fcd500858df3b0b720031054ff8", func := "pantler/pantlerlaw29.CompareTells", spec := "compareTells", inPlace := ["internal/bytealg.IndexByteString", "internal/bytealg.IndexString", "internal/bytealg.abigen_runtime_cmpstring"], unfollowed := true, recurses := true, named := ["internal/bytealg.MaxLen"], apart := false, narrowed := true }
def CompareTellsUptoSaid : Prop := compareTellsUptoRow.holds Tryz.pinned (OpenSpec.upto compareTellsSpec)

/-- 'pantlerlaw29.CompareMerges', WHERE WHAT IT READS IS OF BULK AT MOST 1048576: true; the input reads as it did. -/
def compareMergesUptoRow : OpenClaim := { program := "ytdgnelnipnjhjaagreat", sum := "80811172fc6abd0f001d9c42766489c5e61c1fcd500858df3b0b720031054ff8", func := "pantler/pantlerlaw29.CompareMerges", spec := "compareMerges", inPlace := ["internal/bytealg.IndexByteString", "internal/bytealg.IndexString", "internal/bytealg.abigen_runtime_cmpstring"], unfollowed := true, recurses := true, named := ["internal/bytealg.MaxLen"], apart := false, narrowed := true }
def CompareMergesUptoSaid : Prop := compareMergesUptoRow.holds Tryz.pinned (OpenSpec.upto compareMergesSpec)

/-- 'pantlerlaw38.ListerPlays', WHERE WHAT IT READS IS OF BULK AT MOST 1048576: true; the input reads as it did. -/
def listerPlaysUptoRow : OpenClaim := { program := "ytdgnelnipnjhjaagreat", sum := "80811172fc6abd0f001d9c42766489c5e61c1fcd500858df3b0b720031054ff8", func := "pantler/pantlerlaw38.ListerPlays", spec := "listerPlays", inPlace := ["internal/bytealg.IndexByteString", "internal/bytealg.IndexString", "internal/bytealg.abigen_runtime_cmpstring"], unfollowed := true, recurses := true, named := ["internal/bytealg.MaxLen"], apart := false, narrowed := true }
def ListerPlaysUptoSaid : Prop := listerPlaysUptoRow.holds Tryz.pinned (OpenSpec.upto listerPlaysSpec)

/-- 'pantlerlaw38.ListerOrder', WHERE WHAT IT READS IS OF BULK AT MOST 1048576: true; the input reads as it did. -/
def listerOrderUptoRow : OpenClaim := { program := "ytdgnelnipnjhjaagreat", sum := "80811172fc6abd0f001d9c42766489c5e61c1fcd500858df3b0b720031054ff8", func := "pantler/pantlerlaw38.ListerOrder", spec := "listerOrder", inPlace := ["internal/bytealg.IndexByteString", "internal/bytealg.IndexString", "internal/bytealg.abigen_runtime_cmpstring"], unfollowed := true, recurses := true, named := ["internal/bytealg.MaxLen"], apart := false, narrowed := true }
def ListerOrderUptoSaid : Prop := listerOrderUptoRow.holds Tryz.pinned (OpenSpec.upto listerOrderSpec)

/-- 'pantlerlaw38.ListerNobody', WHERE WHAT IT READS IS OF BULK AT MOST 1048576: true; the input reads as it did. -/
def listerNobodyUptoRow : OpenClaim := { program := "ytdgnelnipnjhjaagreat", sum := "80811172fc6abd0f001d9c42766489c5e61c1fcd500858df3b0b720031054ff8", func := "pantler/pantlerlaw38.ListerNobody", spec := "listerNobody", inPlace := ["internal/bytealg.IndexByteString", "internal/bytealg.IndexString", "internal/bytealg.abigen_runtime_cmpstring"], unfollowed := true, recurses := true, named := ["internal/bytealg.MaxLen"], apart := false, narrowed := true }
def ListerNobodyUptoSaid : Prop := listerNobodyUptoRow.holds Tryz.pinned (OpenSpec.upto listerNobodySpec)

end Rows
end Go.Proofs.YtdgnelnipnjhjaaGreat
