/-
  No cell of these rows narrows 'for every input' (looked for: loops, veiled, ifaces, maps, wideKeys, modest, calm, conditions, laid).
  DERIVED. THE GIVEN ROWS OF THIS SEAT. 4 by the template 'for every input the law returns true; each argument reads behind the call as it read before'; 0 by the template 'total and deterministic' (their statements: YtcaflcpcbcneiaaGreatTotals.lean).
  GIVEN WITH THE SEED: the statements are not yours to turn. If you find one false, say at which input.
  Laid BY PROGRAM, IN A SANDBOX (cutbox-rows.mjs): the forced cells as the released guide's own fill.sh prints them over the translation 5050a5f86779529f… (all of the seat's roots in one cut). By AI agents, Wed Nov 11 2026. No macro, syntax, notation, axiom, sorry.
-/
import Derived.Test.YtcaflcpcbcneiaaGreatChecked
import GoSem.Claim
import GoSem.ClaimJoined
import GoSem.ClaimMapViews
import Derived.JoinedTies
import Derived.KernelRfl
namespace Go.Proofs.YtcaflcpcbcneiaaGreat
/- THE CELL 'sum', in the pinned program and in every row, IS THE sha256 OF THE DUMP (.gsa) THAT YtcaflcpcbcneiaaGreatProg.lean LOADS. Nothing in Lean hashes anything: it is a label: what it is worth is what the hold of that sum in a sandbox is worth. -/
noncomputable def Tryz.pinned : Pinned := { name := "ytcaflcpcbcneiaagreat", sum := "5050a5f86779529ff1235f1059fae88f0bf35e809d8337898f6e9ebfe2afc28e", checked := Tryz.checked }
namespace Rows
def none {H : Type} : Left H := { results := [], args := [] }

/-- 'pantlerlaw31.ReplicaIs': WHATEVER THE INPUT: true; the input reads as it did. -/
def replicaIsSpec : ChangeSpec := { name := "replicaIs", fn := fun _ => fun
  | [d1, d2, d3] => { results := [.lit (.bool true)], args := [d1, d2, d3] }
  | _ => none }
def replicaIsRow : OpenClaim := { program := "ytcaflcpcbcneiaagreat", sum := "5050a5f86779529ff1235f1059fae88f0bf35e809d8337898f6e9ebfe2afc28e", func := "pantler/pantlerlaw31.ReplicaIs", spec := "replicaIs", inPlace := ["internal/bytealg.IndexByteString", "internal/bytealg.IndexString", "internal/bytealg.abigen_runtime_cmpstring", "internal/abi.NoEscape", "slices.overlaps[pantler/api.Item]", "slices.overlaps[pantler/api.Mint]"], unfollowed := true, recurses := true, named := ["internal/bytealg.MaxLen"], apart := false }
def ReplicaIsSaid : Prop := replicaIsRow.holds Tryz.pinned (OpenSpec.ofChange replicaIsSpec)

/-- ITS FALSE NEIGHBOUR: 'it returns false'. Refute it at one input. -/
def replicaIsWrong : ChangeSpec := { name := "replicaIs", fn := fun _ => fun
  | [d1, d2, d3] => { results := [.lit (.bool false)], args := [d1, d2, d3] }
  | _ => none }
def ReplicaIsWrongFalsely : Prop := replicaIsRow.holds Tryz.pinned (OpenSpec.ofChange replicaIsWrong)

/-- 'pantlerlaw31.ReplicaPicks': WHATEVER THE INPUT: true; the input reads as it did. -/
def replicaPicksSpec : ChangeSpec := { name := "replicaPicks", fn := fun _ => fun
  | [d1, d2, d3] => { results := [.lit (.bool true)], args := [d1, d2, d3] }
  | _ => none }
def replicaPicksRow : OpenClaim := { program := "ytcaflcpcbcneiaagreat", sum := "5050a5f86779529ff1235f1059fae88f0bf35e809d8337898f6e9ebfe2afc28e", func := "pantler/pantlerlaw31.ReplicaPicks", spec := "replicaPicks", inPlace := ["internal/bytealg.IndexByteString", "internal/bytealg.IndexString", "internal/bytealg.abigen_runtime_cmpstring", "internal/abi.NoEscape", "slices.overlaps[pantler/api.Item]", "slices.overlaps[pantler/api.Mint]"], unfollowed := true, recurses := true, named := ["internal/bytealg.MaxLen"], apart := false }
def ReplicaPicksSaid : Prop := replicaPicksRow.holds Tryz.pinned (OpenSpec.ofChange replicaPicksSpec)

/-- ITS FALSE NEIGHBOUR: 'it returns false'. Refute it at one input. -/
def replicaPicksWrong : ChangeSpec := { name := "replicaPicks", fn := fun _ => fun
  | [d1, d2, d3] => { results := [.lit (.bool false)], args := [d1, d2, d3] }
  | _ => none }
def ReplicaPicksWrongFalsely : Prop := replicaPicksRow.holds Tryz.pinned (OpenSpec.ofChange replicaPicksWrong)

/-- 'pantlerlaw31.ReplicaKeeps': WHATEVER THE INPUT: true; the input reads as it did. -/
def replicaKeepsSpec : ChangeSpec := { name := "replicaKeeps", fn := fun _ => fun
  | [d1, d2, d3] => { results := [.lit (.bool true)], args := [d1, d2, d3] }
  | _ => none }
def replicaKeepsRow : OpenClaim := { program := "ytcaflcpcbcneiaagreat", sum := "5050a5f86779529ff1235f1059fae88f0bf35e809d8337898f6e9ebfe2afc28e", func := "pantler/pantlerlaw31.ReplicaKeeps", spec := "replicaKeeps", inPlace := ["internal/bytealg.IndexByteString", "internal/bytealg.IndexString", "internal/bytealg.abigen_runtime_cmpstring", "internal/abi.NoEscape", "slices.overlaps[pantler/api.Item]", "slices.overlaps[pantler/api.Mint]"], unfollowed := true, recurses := true, named := ["internal/bytealg.MaxLen"], apart := false }
def ReplicaKeepsSaid : Prop := replicaKeepsRow.holds Tryz.pinned (OpenSpec.ofChange replicaKeepsSpec)

/-- ITS FALSE NEIGHBOUR: 'it returns false'. Refute it at one input. -/
def replicaKeepsWrong : ChangeSpec := { name := "replicaKeeps", fn := fun _ => fun
  | [d1, d2, d3] => { results := [.lit (.bool false)], args := [d1, d2, d3] }
  | _ => none }
def ReplicaKeepsWrongFalsely : Prop := replicaKeepsRow.holds Tryz.pinned (OpenSpec.ofChange replicaKeepsWrong)

/-- 'pantlerlaw31.ReplicaReaps': WHATEVER THE INPUT: true; the input reads as it did. -/
def replicaReapsSpec : ChangeSpec := { name := "replicaReaps", fn := fun _ => fun
  | [d1, d2] => { results := [.lit (.bool true)], args := [d1, d2] }
  | _ => none }
def replicaReapsRow : OpenClaim := { program := "ytcaflcpcbcneiaagreat", sum := "5050a5f86779529ff1235f1059fae88f0bf35e809d8337898f6e9ebfe2afc28e", func := "pantler/pantlerlaw31.ReplicaReaps", spec := "replicaReaps", inPlace := ["internal/bytealg.IndexByteString", "internal/bytealg.IndexString", "internal/bytealg.abigen_runtime_cmpstring", "internal/abi.NoEscape", "slices.overlaps[pantler/api.Item]", "slices.overlaps[pantler/api.Mint]"], unfollowed := true, recurses := true, named := ["internal/bytealg.MaxLen"], apart := false }
def ReplicaReapsSaid : Prop := replicaReapsRow.holds Tryz.pinned (OpenSpec.ofChange replicaReapsSpec)

/-- ITS FALSE NEIGHBOUR: 'it returns false'. Refute it at one input. -/
def replicaReapsWrong : ChangeSpec := { name := "replicaReaps", fn := fun _ => fun
  | [d1, d2] => { results := [.lit (.bool false)], args := [d1, d2] }
  | _ => none }
def ReplicaReapsWrongFalsely : Prop := replicaReapsRow.holds Tryz.pinned (OpenSpec.ofChange replicaReapsWrong)

/- THE SECOND FORM. 'bulk': how many values and letters a reading holds, each counted each time it is reached (what is shared counts as often as it is met; a slice's spare places count too). A statement '..UptoSaid' is the law's where the arguments, and the package variables that the reading takes, are together of bulk at most 1048576: NARROWER than '..Said'. Prove '..Said' where nothing that the law and all that it calls make is longer than what came in: it says more and counts as full. Else prove '..UptoSaid'. A law counts once. -/
mutual
def uptoBulk {H : Type} : DataW H → Nat
  | .lit (.string bytes) => bytes.length + 1
  | .lit _ => 1
  | .nil => 1
  | .ptr d => uptoBulk d + 1
  | .slice elems spare => uptoBulkAll elems + uptoBulkAll spare + 1
  | .agg parts => uptoBulkAll parts + 1
  | .iface _ d => uptoBulk d + 1
  | .map entries => uptoBulkEntries entries + 1
  | .held _ => 1
def uptoBulkAll {H : Type} : List (DataW H) → Nat
  | [] => 0
  | d :: r => uptoBulk d + uptoBulkAll r
def uptoBulkEntries {H : Type} : List (Lit × DataW H) → Nat
  | [] => 0
  | x :: r => uptoBulkEntry x + uptoBulkEntries r
def uptoBulkEntry {H : Type} : Lit × DataW H → Nat
  | (.string bytes, d) => bytes.length + uptoBulk d + 1
  | (_, d) => uptoBulk d + 1
 end
def uptoSmall : (H : Type) → List (DataW H) → Bool := fun _ ds => decide (uptoBulkAll ds ≤ 1048576)
def OpenSpec.upto (s : _root_.Go.ChangeSpec) : _root_.Go.OpenSpec := { _root_.Go.OpenSpec.ofChange s with cond := some uptoSmall }

/-- 'pantlerlaw31.ReplicaIs', WHERE WHAT IT READS IS OF BULK AT MOST 1048576: true; the input reads as it did. -/
def replicaIsUptoRow : OpenClaim := { program := "ytcaflcpcbcneiaagreat", sum := "5050a5f86779529ff1235f1059fae88f0bf35e809d8337898f6e9ebfe2afc28e", func := "pantler/pantlerlaw31.ReplicaIs", spec := "replicaIs", inPlace := ["internal/bytealg.IndexByteString", "internal/bytealg.IndexString", "internal/bytealg.abigen_runtime_cmpstring", "internal/abi.NoEscape", "slices.overlaps[pantler/api.Item]", "slices.overlaps[pantler/api.Mint]"], unfollowed := true, recurses := true, named := ["internal/bytealg.MaxLen"], apart := false, narrowed := true }
def ReplicaIsUptoSaid : Prop := replicaIsUptoRow.holds Tryz.pinned (OpenSpec.upto replicaIsSpec)

/-- 'pantlerlaw31.ReplicaPicks', WHERE WHAT IT READS IS OF BULK AT MOST 1048576: true; the input reads as it did. -/
def replicaPicksUptoRow : OpenClaim := { program := "ytcaflcpcbcneiaagreat", sum := "5050a5f86779529ff1235f1059fae88f0bf35e809d8337898f6e9ebfe2afc28e", func := "pantler/pantlerlaw31.ReplicaPicks", spec := "replicaPicks", inPlace := ["internal/bytealg.IndexByteString", "internal/bytealg.IndexString", "internal/bytealg.abigen_runtime_cmpstring", "internal/abi.NoEscape", "slices.overlaps[pantler/api.Item]", "slices.overlaps[pantler/api.Mint]"], unfollowed := true, recurses := true, named := ["internal/bytealg.MaxLen"], apart := false, narrowed := true }
def ReplicaPicksUptoSaid : Prop := replicaPicksUptoRow.holds Tryz.pinned (OpenSpec.upto replicaPicksSpec)

/-- 'pantlerlaw31.ReplicaKeeps', WHERE WHAT IT READS IS OF BULK AT MOST 1048576: true; the input reads as it did. -/
def replicaKeepsUptoRow : OpenClaim := { program := "ytcaflcpcbcneiaagreat", sum := "5050a5f86779529ff1235f1059fae88f0bf35e809d8337898f6e9ebfe2afc28e", func := "pantler/pantlerlaw31.ReplicaKeeps", spec := "replicaKeeps", inPlace := ["internal/bytealg.IndexByteString", "internal/bytealg.IndexString", "internal/bytealg.abigen_runtime_cmpstring", "internal/abi.NoEscape", "slices.overlaps[pantler/api.Item]", "slices.overlaps[pantler/api.Mint]"], unfollowed := true, recurses := true, named := ["internal/bytealg.MaxLen"], apart := false, narrowed := true }
def ReplicaKeepsUptoSaid : Prop := replicaKeepsUptoRow.holds Tryz.pinned (OpenSpec.upto replicaKeepsSpec)

/-- 'pantlerlaw31.ReplicaReaps', WHERE WHAT IT READS IS OF BULK AT MOST 1048576: true; the input reads as it did. -/
def replicaReapsUptoRow : OpenClaim := { program := "ytcaflcpcbcneiaagreat", sum := "5050a5f86779529ff1235f1059fae88f0bf35e809d8337898f6e9ebfe2afc28e", func := "pantler/pantlerlaw31.ReplicaReaps", spec := "replicaReaps", inPlace := ["internal/bytealg.IndexByteString", "internal/bytealg.IndexString", "internal/bytealg.abigen_runtime_cmpstring", "internal/abi.NoEscape", "slices.overlaps[pantler/api.Item]", "slices.overlaps[pantler/api.Mint]"], unfollowed := true, recurses := true, named := ["internal/bytealg.MaxLen"], apart := false, narrowed := true }
def ReplicaReapsUptoSaid : Prop := replicaReapsUptoRow.holds Tryz.pinned (OpenSpec.upto replicaReapsSpec)

end Rows
end Go.Proofs.YtcaflcpcbcneiaaGreat
