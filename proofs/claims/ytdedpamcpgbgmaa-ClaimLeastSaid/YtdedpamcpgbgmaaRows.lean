/-
  No cell of these rows narrows 'for every input' (looked for: loops, veiled, ifaces, maps, wideKeys, modest, calm, conditions, laid).
  DERIVED. THE GIVEN ROWS OF THIS SEAT. 9 by the template 'for every input the law returns true; each argument reads behind the call as it read before'; 0 by the template 'total and deterministic' (their statements: YtdedpamcpgbgmaaTotals.lean).
  GIVEN WITH THE SEED: the statements are not yours to turn. If you find one false, say at which input.
  Laid BY PROGRAM, IN A SANDBOX (cutbox-rows.mjs): the forced cells as the released guide's own fill.sh prints them over the translation a8c1d485b361d807… (all of the seat's roots in one cut). By AI agents, Wed Nov 11 2026. No macro, syntax, notation, axiom, sorry.
-/
import Derived.Test.YtdedpamcpgbgmaaChecked
import GoSem.Claim
import GoSem.ClaimJoined
import GoSem.ClaimMapViews
import Derived.JoinedTies
import Derived.KernelRfl
namespace Go.Proofs.Ytdedpamcpgbgmaa
/- THE CELL 'sum', in the pinned program and in every row, IS THE sha256 OF THE DUMP (.gsa) THAT YtdedpamcpgbgmaaProg.lean LOADS. Nothing in Lean hashes anything: it is a label: what it is worth is what the hold of that sum in a sandbox is worth. -/
noncomputable def Try.pinned : Pinned := { name := "ytdedpamcpgbgmaa", sum := "a8c1d485b361d80728c7d179ce347198f64720609a65f1a412b6af287ccc2f4a", checked := Try.checked }
namespace Rows
def none {H : Type} : Left H := { results := [], args := [] }

/-- 'pantlerlaw30.RateIs': WHATEVER THE INPUT: true; the input reads as it did. -/
def rateIsSpec : ChangeSpec := { name := "rateIs", fn := fun _ => fun
  | [d1, d2] => { results := [.lit (.bool true)], args := [d1, d2] }
  | _ => none }
def rateIsRow : OpenClaim := { program := "ytdedpamcpgbgmaa", sum := "a8c1d485b361d80728c7d179ce347198f64720609a65f1a412b6af287ccc2f4a", func := "pantler/pantlerlaw30.RateIs", spec := "rateIs", unfollowed := true, recurses := true, apart := false }
def RateIsSaid : Prop := rateIsRow.holds Try.pinned (OpenSpec.ofChange rateIsSpec)

/-- ITS FALSE NEIGHBOUR: 'it returns false'. Refute it at one input. -/
def rateIsWrong : ChangeSpec := { name := "rateIs", fn := fun _ => fun
  | [d1, d2] => { results := [.lit (.bool false)], args := [d1, d2] }
  | _ => none }
def RateIsWrongFalsely : Prop := rateIsRow.holds Try.pinned (OpenSpec.ofChange rateIsWrong)

/-- 'pantlerlaw30.RateKept': WHATEVER THE INPUT: true; the input reads as it did. -/
def rateKeptSpec : ChangeSpec := { name := "rateKept", fn := fun _ => fun
  | [d1, d2, d3] => { results := [.lit (.bool true)], args := [d1, d2, d3] }
  | _ => none }
def rateKeptRow : OpenClaim := { program := "ytdedpamcpgbgmaa", sum := "a8c1d485b361d80728c7d179ce347198f64720609a65f1a412b6af287ccc2f4a", func := "pantler/pantlerlaw30.RateKept", spec := "rateKept", unfollowed := true, recurses := true, apart := false }
def RateKeptSaid : Prop := rateKeptRow.holds Try.pinned (OpenSpec.ofChange rateKeptSpec)

/-- ITS FALSE NEIGHBOUR: 'it returns false'. Refute it at one input. -/
def rateKeptWrong : ChangeSpec := { name := "rateKept", fn := fun _ => fun
  | [d1, d2, d3] => { results := [.lit (.bool false)], args := [d1, d2, d3] }
  | _ => none }
def RateKeptWrongFalsely : Prop := rateKeptRow.holds Try.pinned (OpenSpec.ofChange rateKeptWrong)

/-- 'pantlerlaw25.DiskPlays': WHATEVER THE INPUT: true; the input reads as it did. -/
def diskPlaysSpec : ChangeSpec := { name := "diskPlays", fn := fun _ => fun
  | [d] => { results := [.lit (.bool true)], args := [d] }
  | _ => none }
def diskPlaysRow : OpenClaim := { program := "ytdedpamcpgbgmaa", sum := "a8c1d485b361d80728c7d179ce347198f64720609a65f1a412b6af287ccc2f4a", func := "pantler/pantlerlaw25.DiskPlays", spec := "diskPlays", apart := false }
def DiskPlaysSaid : Prop := diskPlaysRow.holds Try.pinned (OpenSpec.ofChange diskPlaysSpec)

/-- ITS FALSE NEIGHBOUR: 'it returns false'. Refute it at one input. -/
def diskPlaysWrong : ChangeSpec := { name := "diskPlays", fn := fun _ => fun
  | [d] => { results := [.lit (.bool false)], args := [d] }
  | _ => none }
def DiskPlaysWrongFalsely : Prop := diskPlaysRow.holds Try.pinned (OpenSpec.ofChange diskPlaysWrong)

/-- 'pantlerlaw25.DiskSure': WHATEVER THE INPUT: true; the input reads as it did. -/
def diskSureSpec : ChangeSpec := { name := "diskSure", fn := fun _ => fun
  | [d] => { results := [.lit (.bool true)], args := [d] }
  | _ => none }
def diskSureRow : OpenClaim := { program := "ytdedpamcpgbgmaa", sum := "a8c1d485b361d80728c7d179ce347198f64720609a65f1a412b6af287ccc2f4a", func := "pantler/pantlerlaw25.DiskSure", spec := "diskSure", apart := false }
def DiskSureSaid : Prop := diskSureRow.holds Try.pinned (OpenSpec.ofChange diskSureSpec)

/-- ITS FALSE NEIGHBOUR: 'it returns false'. Refute it at one input. -/
def diskSureWrong : ChangeSpec := { name := "diskSure", fn := fun _ => fun
  | [d] => { results := [.lit (.bool false)], args := [d] }
  | _ => none }
def DiskSureWrongFalsely : Prop := diskSureRow.holds Try.pinned (OpenSpec.ofChange diskSureWrong)

/-- 'pantlerlaw35.TimerPlays': WHATEVER THE INPUT: true; the input reads as it did. -/
def timerPlaysSpec : ChangeSpec := { name := "timerPlays", fn := fun _ => fun
  | [d] => { results := [.lit (.bool true)], args := [d] }
  | _ => none }
def timerPlaysRow : OpenClaim := { program := "ytdedpamcpgbgmaa", sum := "a8c1d485b361d80728c7d179ce347198f64720609a65f1a412b6af287ccc2f4a", func := "pantler/pantlerlaw35.TimerPlays", spec := "timerPlays", unfollowed := true, recurses := true, apart := false }
def TimerPlaysSaid : Prop := timerPlaysRow.holds Try.pinned (OpenSpec.ofChange timerPlaysSpec)

/-- ITS FALSE NEIGHBOUR: 'it returns false'. Refute it at one input. -/
def timerPlaysWrong : ChangeSpec := { name := "timerPlays", fn := fun _ => fun
  | [d] => { results := [.lit (.bool false)], args := [d] }
  | _ => none }
def TimerPlaysWrongFalsely : Prop := timerPlaysRow.holds Try.pinned (OpenSpec.ofChange timerPlaysWrong)

/-- 'pantlerlaw35.TimerOnce': WHATEVER THE INPUT: true; the input reads as it did. -/
def timerOnceSpec : ChangeSpec := { name := "timerOnce", fn := fun _ => fun
  | [d1, d2] => { results := [.lit (.bool true)], args := [d1, d2] }
  | _ => none }
def timerOnceRow : OpenClaim := { program := "ytdedpamcpgbgmaa", sum := "a8c1d485b361d80728c7d179ce347198f64720609a65f1a412b6af287ccc2f4a", func := "pantler/pantlerlaw35.TimerOnce", spec := "timerOnce", unfollowed := true, recurses := true, apart := false }
def TimerOnceSaid : Prop := timerOnceRow.holds Try.pinned (OpenSpec.ofChange timerOnceSpec)

/-- ITS FALSE NEIGHBOUR: 'it returns false'. Refute it at one input. -/
def timerOnceWrong : ChangeSpec := { name := "timerOnce", fn := fun _ => fun
  | [d1, d2] => { results := [.lit (.bool false)], args := [d1, d2] }
  | _ => none }
def TimerOnceWrongFalsely : Prop := timerOnceRow.holds Try.pinned (OpenSpec.ofChange timerOnceWrong)

/-- 'pantlerlaw19.ClaimIs': WHATEVER THE INPUT: true; the input reads as it did. -/
def claimIsSpec : ChangeSpec := { name := "claimIs", fn := fun _ => fun
  | [d1, d2] => { results := [.lit (.bool true)], args := [d1, d2] }
  | _ => none }
def claimIsRow : OpenClaim := { program := "ytdedpamcpgbgmaa", sum := "a8c1d485b361d80728c7d179ce347198f64720609a65f1a412b6af287ccc2f4a", func := "pantler/pantlerlaw19.ClaimIs", spec := "claimIs", unfollowed := true, recurses := true, apart := false }
def ClaimIsSaid : Prop := claimIsRow.holds Try.pinned (OpenSpec.ofChange claimIsSpec)

/-- ITS FALSE NEIGHBOUR: 'it returns false'. Refute it at one input. -/
def claimIsWrong : ChangeSpec := { name := "claimIs", fn := fun _ => fun
  | [d1, d2] => { results := [.lit (.bool false)], args := [d1, d2] }
  | _ => none }
def ClaimIsWrongFalsely : Prop := claimIsRow.holds Try.pinned (OpenSpec.ofChange claimIsWrong)

/-- 'pantlerlaw19.ClaimEven': WHATEVER THE INPUT: true; the input reads as it did. -/
def claimEvenSpec : ChangeSpec := { name := "claimEven", fn := fun _ => fun
  | [d1, d2] => { results := [.lit (.bool true)], args := [d1, d2] }
  | _ => none }
def claimEvenRow : OpenClaim := { program := "ytdedpamcpgbgmaa", sum := "a8c1d485b361d80728c7d179ce347198f64720609a65f1a412b6af287ccc2f4a", func := "pantler/pantlerlaw19.ClaimEven", spec := "claimEven", unfollowed := true, recurses := true, apart := false }
def ClaimEvenSaid : Prop := claimEvenRow.holds Try.pinned (OpenSpec.ofChange claimEvenSpec)

/-- ITS FALSE NEIGHBOUR: 'it returns false'. Refute it at one input. -/
def claimEvenWrong : ChangeSpec := { name := "claimEven", fn := fun _ => fun
  | [d1, d2] => { results := [.lit (.bool false)], args := [d1, d2] }
  | _ => none }
def ClaimEvenWrongFalsely : Prop := claimEvenRow.holds Try.pinned (OpenSpec.ofChange claimEvenWrong)

/-- 'pantlerlaw19.ClaimLeast': WHATEVER THE INPUT: true; the input reads as it did. -/
def claimLeastSpec : ChangeSpec := { name := "claimLeast", fn := fun _ => fun
  | [d1, d2] => { results := [.lit (.bool true)], args := [d1, d2] }
  | _ => none }
def claimLeastRow : OpenClaim := { program := "ytdedpamcpgbgmaa", sum := "a8c1d485b361d80728c7d179ce347198f64720609a65f1a412b6af287ccc2f4a", func := "pantler/pantlerlaw19.ClaimLeast", spec := "claimLeast", unfollowed := true, recurses := true, apart := false }
def ClaimLeastSaid : Prop := claimLeastRow.holds Try.pinned (OpenSpec.ofChange claimLeastSpec)

/-- ITS FALSE NEIGHBOUR: 'it returns false'. Refute it at one input. -/
def claimLeastWrong : ChangeSpec := { name := "claimLeast", fn := fun _ => fun
  | [d1, d2] => { results := [.lit (.bool false)], args := [d1, d2] }
  | _ => none }
def ClaimLeastWrongFalsely : Prop := claimLeastRow.holds Try.pinned (OpenSpec.ofChange claimLeastWrong)

/- THE SECOND FORM. 'bulk': how many values and letters a reading holds, each counted each time it is reached (what is shared counts as often as it is met; a slice's spare places count too). A statement '..UptoSaid' is the law's where the arguments, and the package variables that the reading takes, are together of bulk at most 1048576: NARROWER than '..Said'. Prove '..Said' where nothing that the law and all that it calls make is longer than what came in: it says more and counts as full. Else prove '..UptoSaid'. A law counts once. -/
mutual
def uptoBulk {H : Type} : DataW H → Nat
  | .lit (.string bytes) => bytes.length + 1
  | .lit _ => 1
  | .nil => 1
  | .ptr d => uptoBulk d + 1
  | .slice elems spare => uptoBulkAll elems + uptoBulkAll spare + 1
  | .agg parts => uptoBulkAll parts + 1
  | .iface _ d => uptoBulk d + 1
  | .map entries => uptoBulkEntries entries + 1
  | .held _ => 1
def uptoBulkAll {H : Type} : List (DataW H) → Nat
  | [] => 0
  | d :: r => uptoBulk d + uptoBulkAll r
def uptoBulkEntries {H : Type} : List (Lit × DataW H) → Nat
  | [] => 0
  | x :: r => uptoBulkEntry x + uptoBulkEntries r
def uptoBulkEntry {H : Type} : Lit × DataW H → Nat
  | (.string bytes, d) => bytes.length + uptoBulk d + 1
  | (_, d) => uptoBulk d + 1
 end
def uptoSmall : (H : Type) → List (DataW H) → Bool := fun _ ds => decide (uptoBulkAll ds ≤ 1048576)
def OpenSpec.upto (s : _root_.Go.ChangeSpec) : _root_.Go.OpenSpec := { _root_.Go.OpenSpec.ofChange s with cond := some uptoSmall }

/-- 'pantlerlaw30.RateIs', WHERE WHAT IT READS IS OF BULK AT MOST 1048576: true; the input reads as it did. -/
def rateIsUptoRow : OpenClaim := { program := "ytdedpamcpgbgmaa", sum := "a8c1d485b361d80728c7d179ce347198f64720609a65f1a412b6af287ccc2f4a", func := "pantler/pantlerlaw30.RateIs", spec := "rateIs", unfollowed := true, recurses := true, apart := false, narrowed := true }
def RateIsUptoSaid : Prop := rateIsUptoRow.holds Try.pinned (OpenSpec.upto rateIsSpec)

/-- 'pantlerlaw30.RateKept', WHERE WHAT IT READS IS OF BULK AT MOST 1048576: true; the input reads as it did. -/
def rateKeptUptoRow : OpenClaim := { program := "ytdedpamcpgbgmaa", sum := "a8c1d485b361d80728c7d179ce347198f64720609a65f1a412b6af287ccc2f4a", func := "pantler/pantlerlaw30.RateKept", spec := "rateKept", unfollowed := true, recurses := true, apart := false, narrowed := true }
def RateKeptUptoSaid : Prop := rateKeptUptoRow.holds Try.pinned (OpenSpec.upto rateKeptSpec)

/-- 'pantlerlaw25.DiskPlays', WHERE WHAT IT READS IS OF BULK AT MOST 1048576: true; the input reads as it did. -/
def diskPlaysUptoRow : OpenClaim := { program := "ytdedpamcpgbgmaa", sum := "a8c1d485b361d80728c7d179ce347198f64720609a65f1a412b6af287ccc2f4a", func := "pantler/pantlerlaw25.DiskPlays", spec := "diskPlays", apart := false, narrowed := true }
def DiskPlaysUptoSaid : Prop := diskPlaysUptoRow.holds Try.pinned (OpenSpec.upto diskPlaysSpec)

/-- 'pantlerlaw25.DiskSure', WHERE WHAT IT READS IS OF BULK AT MOST 1048576: true; the input reads as it did. -/
def diskSureUptoRow : OpenClaim := { program := "ytdedpamcpgbgmaa", sum := "a8c1d485b361d80728c7d179ce347198f64720609a65f1a412b6af287ccc2f4a", func := "pantler/pantlerlaw25.DiskSure", spec := "diskSure", apart := false, narrowed := true }
def DiskSureUptoSaid : Prop := diskSureUptoRow.holds Try.pinned (OpenSpec.upto diskSureSpec)

/-- 'pantlerlaw35.TimerPlays', WHERE WHAT IT READS IS OF BULK AT MOST 1048576: true; the input reads as it did. -/
def timerPlaysUptoRow : OpenClaim := { program := "ytdedpamcpgbgmaa", sum := "a8c1d485b361d80728c7d179ce347198f64720609a65f1a412b6af287ccc2f4a", func := "pantler/pantlerlaw35.TimerPlays", spec := "timerPlays", unfollowed := true, recurses := true, apart := false, narrowed := true }
def TimerPlaysUptoSaid : Prop := timerPlaysUptoRow.holds Try.pinned (OpenSpec.upto timerPlaysSpec)

/-- 'pantlerlaw35.TimerOnce', WHERE WHAT IT READS IS OF BULK AT MOST 1048576: true; the input reads as it did. -/
def timerOnceUptoRow : OpenClaim := { program := "ytdedpamcpgbgmaa", sum := "a8c1d485b361d80728c7d179ce347198f64720609a65f1a412b6af287ccc2f4a", func := "pantler/pantlerlaw35.TimerOnce", spec := "timerOnce", unfollowed := true, recurses := true, apart := false, narrowed := true }
def TimerOnceUptoSaid : Prop := timerOnceUptoRow.holds Try.pinned (OpenSpec.upto timerOnceSpec)

/-- 'pantlerlaw19.ClaimIs', WHERE WHAT IT READS IS OF BULK AT MOST 1048576: true; the input reads as it did. -/
def claimIsUptoRow : OpenClaim := { program := "ytdedpamcpgbgmaa", sum := "a8c1d485b361d80728c7d179ce347198f64720609a65f1a412b6af287ccc2f4a", func := "pantler/pantlerlaw19.ClaimIs", spec := "claimIs", unfollowed := true, recurses := true, apart := false, narrowed := true }
def ClaimIsUptoSaid : Prop := claimIsUptoRow.holds Try.pinned (OpenSpec.upto claimIsSpec)

/-- 'pantlerlaw19.ClaimEven', WHERE WHAT IT READS IS OF BULK AT MOST 1048576: true; the input reads as it did. -/
def claimEvenUptoRow : OpenClaim := { program := "ytdedpamcpgbgmaa", sum := "a8c1d485b361d80728c7d179ce347198f64720609a65f1a412b6af287ccc2f4a", func := "pantler/pantlerlaw19.ClaimEven", spec := "claimEven", unfollowed := true, recurses := true, apart := false, narrowed := true }
def ClaimEvenUptoSaid : Prop := claimEvenUptoRow.holds Try.pinned (OpenSpec.upto claimEvenSpec)

/-- 'pantlerlaw19.ClaimLeast', WHERE WHAT IT READS IS OF BULK AT MOST 1048576: true; the input reads as it did. -/
def claimLeastUptoRow : OpenClaim := { program := "ytdedpamcpgbgmaa", sum := "a8c1d485b361d80728c7d179ce347198f64720609a65f1a412b6af287ccc2f4a", func := "pantler/pantlerlaw19.ClaimLeast", spec := "claimLeast", unfollowed := true, recurses := true, apart := false, narrowed := true }
def ClaimLeastUptoSaid : Prop := claimLeastUptoRow.holds Try.pinned (OpenSpec.upto claimLeastSpec)

end Rows
end Go.Proofs.Ytdedpamcpgbgmaa
