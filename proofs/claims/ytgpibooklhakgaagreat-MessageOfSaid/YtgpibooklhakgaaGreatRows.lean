/-
  No cell of these rows narrows 'for every input' (looked for: loops, veiled, ifaces, maps, wideKeys, modest, calm, conditions, laid).
  DERIVED. THE GIVEN ROWS OF THIS SEAT. 10 by the template 'for every input the law returns true; each argument reads behind the call as it read before'; 0 by the template 'total and deterministic' (their statements: YtgpibooklhakgaaGreatTotals.lean).
  GIVEN WITH THE SEED: the statements are not yours to turn. If you find one false, say at which input.
  Laid BY PROGRAM, IN A SANDBOX (cutbox-rows.mjs): the forced cells as the released guide's own fill.sh prints them over the translation bfbb7586a5d7f707… (all of the seat's roots in one cut). By AI agents, Wed Nov 11 2026. No macro, syntax, notation, axiom, sorry.
-/
import Derived.Test.YtgpibooklhakgaaGreatChecked
import GoSem.Claim
import GoSem.ClaimJoined
import GoSem.ClaimMapViews
import Derived.JoinedTies
import Derived.KernelRfl
namespace Go.Proofs.YtgpibooklhakgaaGreat
/- THE CELL 'sum', in the pinned program and in every row, IS THE sha256 OF THE DUMP (.gsa) THAT YtgpibooklhakgaaGreatProg.lean LOADS. Nothing in Lean hashes anything: it is a label: what it is worth is what the hold of that sum in a sandbox is worth. -/
noncomputable def Tryz.pinned : Pinned := { name := "ytgpibooklhakgaagreat", sum := "bfbb7586a5d7f7072f5ba13cd3a72b97c53a7838f8481f89305b84981743bc9a", checked := Tryz.checked }
namespace Rows
def none {H : Type} : Left H := { results := [], args := [] }

/-- 'pantlerlaw11.ObjwireWrites': WHATEVER THE INPUT: true; the input reads as it did. -/
def objwireWritesSpec : ChangeSpec := { name := "objwireWrites", fn := fun _ => fun
  | [d1, d2] => { results := [.lit (.bool true)], args := [d1, d2] }
  | _ => none }
def objwireWritesRow : OpenClaim := { program := "ytgpibooklhakgaagreat", sum := "bfbb7586a5d7f7072f5ba13cd3a72b97c53a7838f8481f89305b84981743bc9a", func := "pantler/pantlerlaw11.ObjwireWrites", spec := "objwireWrites", inPlace := ["internal/bytealg.abigen_runtime_cmpstring", "internal/abi.NoEscape"], unfollowed := true, recurses := true, apart := false }
def ObjwireWritesSaid : Prop := objwireWritesRow.holds Tryz.pinned (OpenSpec.ofChange objwireWritesSpec)

/-- ITS FALSE NEIGHBOUR: 'it returns false'. Refute it at one input. -/
def objwireWritesWrong : ChangeSpec := { name := "objwireWrites", fn := fun _ => fun
  | [d1, d2] => { results := [.lit (.bool false)], args := [d1, d2] }
  | _ => none }
def ObjwireWritesWrongFalsely : Prop := objwireWritesRow.holds Tryz.pinned (OpenSpec.ofChange objwireWritesWrong)

/-- 'pantlerlaw11.ObjwireReads': WHATEVER THE INPUT: true; the input reads as it did. -/
def objwireReadsSpec : ChangeSpec := { name := "objwireReads", fn := fun _ => fun
  | [d] => { results := [.lit (.bool true)], args := [d] }
  | _ => none }
def objwireReadsRow : OpenClaim := { program := "ytgpibooklhakgaagreat", sum := "bfbb7586a5d7f7072f5ba13cd3a72b97c53a7838f8481f89305b84981743bc9a", func := "pantler/pantlerlaw11.ObjwireReads", spec := "objwireReads", inPlace := ["internal/bytealg.abigen_runtime_cmpstring", "internal/abi.NoEscape"], unfollowed := true, recurses := true, apart := false }
def ObjwireReadsSaid : Prop := objwireReadsRow.holds Tryz.pinned (OpenSpec.ofChange objwireReadsSpec)

/-- ITS FALSE NEIGHBOUR: 'it returns false'. Refute it at one input. -/
def objwireReadsWrong : ChangeSpec := { name := "objwireReads", fn := fun _ => fun
  | [d] => { results := [.lit (.bool false)], args := [d] }
  | _ => none }
def ObjwireReadsWrongFalsely : Prop := objwireReadsRow.holds Tryz.pinned (OpenSpec.ofChange objwireReadsWrong)

/-- 'pantlerlaw11.ObjwireBack': WHATEVER THE INPUT: true; the input reads as it did. -/
def objwireBackSpec : ChangeSpec := { name := "objwireBack", fn := fun _ => fun
  | [d1, d2, d3] => { results := [.lit (.bool true)], args := [d1, d2, d3] }
  | _ => none }
def objwireBackRow : OpenClaim := { program := "ytgpibooklhakgaagreat", sum := "bfbb7586a5d7f7072f5ba13cd3a72b97c53a7838f8481f89305b84981743bc9a", func := "pantler/pantlerlaw11.ObjwireBack", spec := "objwireBack", inPlace := ["internal/bytealg.abigen_runtime_cmpstring", "internal/abi.NoEscape"], unfollowed := true, recurses := true, apart := false }
def ObjwireBackSaid : Prop := objwireBackRow.holds Tryz.pinned (OpenSpec.ofChange objwireBackSpec)

/-- ITS FALSE NEIGHBOUR: 'it returns false'. Refute it at one input. -/
def objwireBackWrong : ChangeSpec := { name := "objwireBack", fn := fun _ => fun
  | [d1, d2, d3] => { results := [.lit (.bool false)], args := [d1, d2, d3] }
  | _ => none }
def ObjwireBackWrongFalsely : Prop := objwireBackRow.holds Tryz.pinned (OpenSpec.ofChange objwireBackWrong)

/-- 'pantlerlaw32.MessageIs': WHATEVER THE INPUT: true; the input reads as it did. -/
def messageIsSpec : ChangeSpec := { name := "messageIs", fn := fun _ => fun
  | [d] => { results := [.lit (.bool true)], args := [d] }
  | _ => none }
def messageIsRow : OpenClaim := { program := "ytgpibooklhakgaagreat", sum := "bfbb7586a5d7f7072f5ba13cd3a72b97c53a7838f8481f89305b84981743bc9a", func := "pantler/pantlerlaw32.MessageIs", spec := "messageIs", inPlace := ["internal/abi.NoEscape", "internal/bytealg.abigen_runtime_cmpstring", "internal/bytealg.IndexByteString", "internal/bytealg.IndexString"], unfollowed := true, recurses := true, named := ["internal/bytealg.MaxLen"], apart := false }
def MessageIsSaid : Prop := messageIsRow.holds Tryz.pinned (OpenSpec.ofChange messageIsSpec)

/-- ITS FALSE NEIGHBOUR: 'it returns false'. Refute it at one input. -/
def messageIsWrong : ChangeSpec := { name := "messageIs", fn := fun _ => fun
  | [d] => { results := [.lit (.bool false)], args := [d] }
  | _ => none }
def MessageIsWrongFalsely : Prop := messageIsRow.holds Tryz.pinned (OpenSpec.ofChange messageIsWrong)

/-- 'pantlerlaw32.MessageOf': WHATEVER THE INPUT: true; the input reads as it did. -/
def messageOfSpec : ChangeSpec := { name := "messageOf", fn := fun _ => fun
  | [d] => { results := [.lit (.bool true)], args := [d] }
  | _ => none }
def messageOfRow : OpenClaim := { program := "ytgpibooklhakgaagreat", sum := "bfbb7586a5d7f7072f5ba13cd3a72b97c53a7838f8481f89305b84981743bc9a", func := "pantler/pantlerlaw32.MessageOf", spec := "messageOf", inPlace := ["internal/abi.NoEscape", "internal/bytealg.abigen_runtime_cmpstring", "internal/bytealg.IndexByteString", "internal/bytealg.IndexString"], unfollowed := true, recurses := true, named := ["internal/bytealg.MaxLen"], apart := false }
def MessageOfSaid : Prop := messageOfRow.holds Tryz.pinned (OpenSpec.ofChange messageOfSpec)

/-- ITS FALSE NEIGHBOUR: 'it returns false'. Refute it at one input. -/
def messageOfWrong : ChangeSpec := { name := "messageOf", fn := fun _ => fun
  | [d] => { results := [.lit (.bool false)], args := [d] }
  | _ => none }
def MessageOfWrongFalsely : Prop := messageOfRow.holds Tryz.pinned (OpenSpec.ofChange messageOfWrong)

/-- 'pantlerlaw32.MessageBack': WHATEVER THE INPUT: true; the input reads as it did. -/
def messageBackSpec : ChangeSpec := { name := "messageBack", fn := fun _ => fun
  | [d1, d2, d3] => { results := [.lit (.bool true)], args := [d1, d2, d3] }
  | _ => none }
def messageBackRow : OpenClaim := { program := "ytgpibooklhakgaagreat", sum := "bfbb7586a5d7f7072f5ba13cd3a72b97c53a7838f8481f89305b84981743bc9a", func := "pantler/pantlerlaw32.MessageBack", spec := "messageBack", inPlace := ["internal/abi.NoEscape", "internal/bytealg.abigen_runtime_cmpstring", "internal/bytealg.IndexByteString", "internal/bytealg.IndexString"], unfollowed := true, recurses := true, named := ["internal/bytealg.MaxLen"], apart := false }
def MessageBackSaid : Prop := messageBackRow.holds Tryz.pinned (OpenSpec.ofChange messageBackSpec)

/-- ITS FALSE NEIGHBOUR: 'it returns false'. Refute it at one input. -/
def messageBackWrong : ChangeSpec := { name := "messageBack", fn := fun _ => fun
  | [d1, d2, d3] => { results := [.lit (.bool false)], args := [d1, d2, d3] }
  | _ => none }
def MessageBackWrongFalsely : Prop := messageBackRow.holds Tryz.pinned (OpenSpec.ofChange messageBackWrong)

/-- 'pantlerlaw07.ObjectIs': WHATEVER THE INPUT: true; the input reads as it did. -/
def objectIsSpec : ChangeSpec := { name := "objectIs", fn := fun _ => fun
  | [d1, d2, d3] => { results := [.lit (.bool true)], args := [d1, d2, d3] }
  | _ => none }
def objectIsRow : OpenClaim := { program := "ytgpibooklhakgaagreat", sum := "bfbb7586a5d7f7072f5ba13cd3a72b97c53a7838f8481f89305b84981743bc9a", func := "pantler/pantlerlaw07.ObjectIs", spec := "objectIs", inPlace := ["internal/bytealg.abigen_runtime_cmpstring"], unfollowed := true, recurses := true, apart := false }
def ObjectIsSaid : Prop := objectIsRow.holds Tryz.pinned (OpenSpec.ofChange objectIsSpec)

/-- ITS FALSE NEIGHBOUR: 'it returns false'. Refute it at one input. -/
def objectIsWrong : ChangeSpec := { name := "objectIs", fn := fun _ => fun
  | [d1, d2, d3] => { results := [.lit (.bool false)], args := [d1, d2, d3] }
  | _ => none }
def ObjectIsWrongFalsely : Prop := objectIsRow.holds Tryz.pinned (OpenSpec.ofChange objectIsWrong)

/-- 'pantlerlaw07.ObjectMerges': WHATEVER THE INPUT: true; the input reads as it did. -/
def objectMergesSpec : ChangeSpec := { name := "objectMerges", fn := fun _ => fun
  | [d1, d2] => { results := [.lit (.bool true)], args := [d1, d2] }
  | _ => none }
def objectMergesRow : OpenClaim := { program := "ytgpibooklhakgaagreat", sum := "bfbb7586a5d7f7072f5ba13cd3a72b97c53a7838f8481f89305b84981743bc9a", func := "pantler/pantlerlaw07.ObjectMerges", spec := "objectMerges", inPlace := ["internal/bytealg.abigen_runtime_cmpstring"], unfollowed := true, recurses := true, apart := false }
def ObjectMergesSaid : Prop := objectMergesRow.holds Tryz.pinned (OpenSpec.ofChange objectMergesSpec)

/-- ITS FALSE NEIGHBOUR: 'it returns false'. Refute it at one input. -/
def objectMergesWrong : ChangeSpec := { name := "objectMerges", fn := fun _ => fun
  | [d1, d2] => { results := [.lit (.bool false)], args := [d1, d2] }
  | _ => none }
def ObjectMergesWrongFalsely : Prop := objectMergesRow.holds Tryz.pinned (OpenSpec.ofChange objectMergesWrong)

/-- 'pantlerlaw07.ObjectOrder': WHATEVER THE INPUT: true; the input reads as it did. -/
def objectOrderSpec : ChangeSpec := { name := "objectOrder", fn := fun _ => fun
  | [d1, d2, d3] => { results := [.lit (.bool true)], args := [d1, d2, d3] }
  | _ => none }
def objectOrderRow : OpenClaim := { program := "ytgpibooklhakgaagreat", sum := "bfbb7586a5d7f7072f5ba13cd3a72b97c53a7838f8481f89305b84981743bc9a", func := "pantler/pantlerlaw07.ObjectOrder", spec := "objectOrder", inPlace := ["internal/bytealg.abigen_runtime_cmpstring"], unfollowed := true, recurses := true, apart := false }
def ObjectOrderSaid : Prop := objectOrderRow.holds Tryz.pinned (OpenSpec.ofChange objectOrderSpec)

/-- ITS FALSE NEIGHBOUR: 'it returns false'. Refute it at one input. -/
def objectOrderWrong : ChangeSpec := { name := "objectOrder", fn := fun _ => fun
  | [d1, d2, d3] => { results := [.lit (.bool false)], args := [d1, d2, d3] }
  | _ => none }
def ObjectOrderWrongFalsely : Prop := objectOrderRow.holds Tryz.pinned (OpenSpec.ofChange objectOrderWrong)

/-- 'pantlerlaw07.ObjectReplaced': WHATEVER THE INPUT: true; the input reads as it did. -/
def objectReplacedSpec : ChangeSpec := { name := "objectReplaced", fn := fun _ => fun
  | [d] => { results := [.lit (.bool true)], args := [d] }
  | _ => none }
def objectReplacedRow : OpenClaim := { program := "ytgpibooklhakgaagreat", sum := "bfbb7586a5d7f7072f5ba13cd3a72b97c53a7838f8481f89305b84981743bc9a", func := "pantler/pantlerlaw07.ObjectReplaced", spec := "objectReplaced", inPlace := ["internal/bytealg.abigen_runtime_cmpstring"], unfollowed := true, recurses := true, apart := false }
def ObjectReplacedSaid : Prop := objectReplacedRow.holds Tryz.pinned (OpenSpec.ofChange objectReplacedSpec)

/-- ITS FALSE NEIGHBOUR: 'it returns false'. Refute it at one input. -/
def objectReplacedWrong : ChangeSpec := { name := "objectReplaced", fn := fun _ => fun
  | [d] => { results := [.lit (.bool false)], args := [d] }
  | _ => none }
def ObjectReplacedWrongFalsely : Prop := objectReplacedRow.holds Tryz.pinned (OpenSpec.ofChange objectReplacedWrong)

/- THE SECOND FORM. 'bulk': how many values and letters a reading holds, each counted each time it is reached (what is shared counts as often as it is met; a slice's spare places count too). A statement '..UptoSaid' is the law's where the arguments, and the package variables that the reading takes, are together of bulk at most 1048576: NARROWER than '..Said'. Prove '..Said' where nothing that the law and all that it calls make is longer than what came in: it says more and counts as full. Else prove '..UptoSaid'. A law counts once. -/
mutual
def uptoBulk {H : Type} : DataW H → Nat
  | .lit (.string bytes) => bytes.length + 1
  | .lit _ => 1
  | .nil => 1
  | .ptr d => uptoBulk d + 1
  | .slice elems spare => uptoBulkAll elems + uptoBulkAll spare + 1
  | .agg parts => uptoBulkAll parts + 1
  | .iface _ d => uptoBulk d + 1
  | .map entries => uptoBulkEntries entries + 1
  | .held _ => 1
def uptoBulkAll {H : Type} : List (DataW H) → Nat
  | [] => 0
  | d :: r => uptoBulk d + uptoBulkAll r
def uptoBulkEntries {H : Type} : List (Lit × DataW H) → Nat
  | [] => 0
  | x :: r => uptoBulkEntry x + uptoBulkEntries r
def uptoBulkEntry {H : Type} : Lit × DataW H → Nat
  | (.string bytes, d) => bytes.length + uptoBulk d + 1
  | (_, d) => uptoBulk d + 1
 end
def uptoSmall : (H : Type) → List (DataW H) → Bool := fun _ ds => decide (uptoBulkAll ds ≤ 1048576)
def OpenSpec.upto (s : _root_.Go.ChangeSpec) : _root_.Go.OpenSpec := { _root_.Go.OpenSpec.ofChange s with cond := some uptoSmall }

/-- 'pantlerlaw11.ObjwireWrites', WHERE WHAT IT READS IS OF BULK AT MOST 1048576: true; the input reads as it did. -/
def objwireWritesUptoRow : OpenClaim := { program := "ytgpibooklhakgaagreat", sum := "bfbb7586a5d7f7072f5ba13cd3a72b97c53a7838f8481f89305b84981743bc9a", func := "pantler/pantlerlaw11.ObjwireWrites", spec := "objwireWrites", inPlace := ["internal/bytealg.abigen_runtime_cmpstring", "internal/abi.NoEscape"], unfollowed := true, recurses := true, apart := false, narrowed := true }
def ObjwireWritesUptoSaid : Prop := objwireWritesUptoRow.holds Tryz.pinned (OpenSpec.upto objwireWritesSpec)

/-- 'pantlerlaw11.ObjwireReads', WHERE WHAT IT READS IS OF BULK AT MOST 1048576: true; the input reads as it did. -/
def objwireReadsUptoRow : OpenClaim := { program := "ytgpibooklhakgaagreat", sum := "bfbb7586a5d7f7072f5ba13cd3a72b97c53a7838f8481f89305b84981743bc9a", func := "pantler/pantlerlaw11.ObjwireReads", spec := "objwireReads", inPlace := ["internal/bytealg.abigen_runtime_cmpstring", "internal/abi.NoEscape"], unfollowed := true, recurses := true, apart := false, narrowed := true }
def ObjwireReadsUptoSaid : Prop := objwireReadsUptoRow.holds Tryz.pinned (OpenSpec.upto objwireReadsSpec)

/-- 'pantlerlaw11.ObjwireBack', WHERE WHAT IT READS IS OF BULK AT MOST 1048576: true; the input reads as it did. -/
def objwireBackUptoRow : OpenClaim := { program := "ytgpibooklhakgaagreat", sum := "bfbb7586a5d7f7072f5ba13cd3a72b97c53a7838f8481f89305b84981743bc9a", func := "pantler/pantlerlaw11.ObjwireBack", spec := "objwireBack", inPlace := ["internal/bytealg.abigen_runtime_cmpstring", "internal/abi.NoEscape"], unfollowed := true, recurses := true, apart := false, narrowed := true }
def ObjwireBackUptoSaid : Prop := objwireBackUptoRow.holds Tryz.pinned (OpenSpec.upto objwireBackSpec)

/-- 'pantlerlaw32.MessageIs', WHERE WHAT IT READS IS OF BULK AT MOST 1048576: true; the input reads as it did. -/
def messageIsUptoRow : OpenClaim := { program := "ytgpibooklhakgaagreat", sum := "bfbb7586a5d7f7072f5ba13cd3a72b97c53a7838f8481f89305b84981743bc9a", func := "pantler/pantlerlaw32.MessageIs", spec := "messageIs", inPlace := ["internal/abi.NoEscape", "internal/bytealg.abigen_runtime_cmpstring", "internal/bytealg.IndexByteString", "internal/bytealg.IndexString"], unfollowed := true, recurses := true, named := ["internal/bytealg.MaxLen"], apart := false, narrowed := true }
def MessageIsUptoSaid : Prop := messageIsUptoRow.holds Tryz.pinned (OpenSpec.upto messageIsSpec)

/-- 'pantlerlaw32.MessageOf', WHERE WHAT IT READS IS OF BULK AT MOST 1048576: true; the input reads as it did. -/
def messageOfUptoRow : OpenClaim := { program := "ytgpibooklhakgaagreat", sum := "bfbb7586a5d7f7072f5ba13cd3a72b97c53a7838f8481f89305b84981743bc9a", func := "pantler/pantlerlaw32.MessageOf", spec := "messageOf", inPlace := ["internal/abi.NoEscape", "internal/bytealg.abigen_runtime_cmpstring", "internal/bytealg.IndexByteString", "internal/bytealg.IndexString"], unfollowed := true, recurses := true, named := ["internal/bytealg.MaxLen"], apart := false, narrowed := true }
def MessageOfUptoSaid : Prop := messageOfUptoRow.holds Tryz.pinned (OpenSpec.upto messageOfSpec)

/-- 'pantlerlaw32.MessageBack', WHERE WHAT IT READS IS OF BULK AT MOST 1048576: true; the input reads as it did. -/
def messageBackUptoRow : OpenClaim := { program := "ytgpibooklhakgaagreat", sum := "bfbb7586a5d7f7072f5ba13cd3a72b97c53a7838f8481f89305b84981743bc9a", func := "pantler/pantlerlaw32.MessageBack", spec := "messageBack", inPlace := ["internal/abi.NoEscape", "internal/bytealg.abigen_runtime_cmpstring", "internal/bytealg.IndexByteString", "internal/bytealg.IndexString"], unfollowed := true, recurses := true, named := ["internal/bytealg.MaxLen"], apart := false, narrowed := true }
def MessageBackUptoSaid : Prop := messageBackUptoRow.holds Tryz.pinned (OpenSpec.upto messageBackSpec)

/-- 'pantlerlaw07.ObjectIs', WHERE WHAT IT READS IS OF BULK AT MOST 1048576: true; the input reads as it did. -/
def objectIsUptoRow : OpenClaim := { program := "ytgpibooklhakgaagreat", sum := "bfbb7586a5d7f7072f5ba13cd3a72b97c53a7838f8481f89305b84981743bc9a", func := "pantler/pantlerlaw07.ObjectIs", spec := "objectIs", inPlace := ["internal/bytealg.abigen_runtime_cmpstring"], unfollowed := true, recurses := true, apart := false, narrowed := true }
def ObjectIsUptoSaid : Prop := objectIsUptoRow.holds Tryz.pinned (OpenSpec.upto objectIsSpec)

/-- 'pantlerlaw07.ObjectMerges', WHERE WHAT IT READS IS OF BULK AT MOST 1048576: true; the input reads as it did. -/
def objectMergesUptoRow : OpenClaim := { program := "ytgpibooklhakgaagreat", sum := "bfbb7586a5d7f7072f5ba13cd3a72b97c53a7838f8481f89305b84981743bc9a", func := "pantler/pantlerlaw07.ObjectMerges", spec := "objectMerges", inPlace := ["internal/bytealg.abigen_runtime_cmpstring"], unfollowed := true, recurses := true, apart := false, narrowed := true }
def ObjectMergesUptoSaid : Prop := objectMergesUptoRow.holds Tryz.pinned (OpenSpec.upto objectMergesSpec)

/-- 'pantlerlaw07.ObjectOrder', WHERE WHAT IT READS IS OF BULK AT MOST 1048576: true; the input reads as it did. -/
def objectOrderUptoRow : OpenClaim := { program := "ytgpibooklhakgaagreat", sum := "bfbb7586a5d7f7072f5ba13cd3a72b97c53a7838f8481f89305b84981743bc9a", func := "pantler/pantlerlaw07.ObjectOrder", spec := "objectOrder", inPlace := ["internal/bytealg.abigen_runtime_cmpstring"], unfollowed := true, recurses := true, apart := false, narrowed := true }
def ObjectOrderUptoSaid : Prop := objectOrderUptoRow.holds Tryz.pinned (OpenSpec.upto objectOrderSpec)

/-- 'pantlerlaw07.ObjectReplaced', WHERE WHAT IT READS IS OF BULK AT MOST 1048576: true; the input reads as it did. -/
def objectReplacedUptoRow : OpenClaim := { program := "ytgpibooklhakgaagreat", sum := "bfbb7586a5d7f7072f5ba13cd3a72b97c53a7838f8481f89305b84981743bc9a", func := "pantler/pantlerlaw07.ObjectReplaced", spec := "objectReplaced", inPlace := ["internal/bytealg.abigen_runtime_cmpstring"], unfollowed := true, recurses := true, apart := false, narrowed := true }
def ObjectReplacedUptoSaid : Prop := objectReplacedUptoRow.holds Tryz.pinned (OpenSpec.upto objectReplacedSpec)

end Rows
end Go.Proofs.YtgpibooklhakgaaGreat
