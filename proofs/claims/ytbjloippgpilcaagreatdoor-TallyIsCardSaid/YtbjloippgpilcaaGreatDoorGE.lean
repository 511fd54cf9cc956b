/-
  WHAT THE TABLES OF TYPES SAY, a closed fact each. Printed by a program of one's own (wip/tools/gen_types.py) off this seat's translation.; SLICES MADE, TAKEN FOR GOOD, COPIED TO BE WRITTEN; THE LAYER IN USE: one step at a time; the rules by which 'aval' is reckoned; WALKING RULES: guarded steps of which it is not said whether they run; joins and loops by lists of what lives; values of structs compared; WHAT CHANGES NOTHING THAT WAS THERE; a slice made and not written; A RANGE OVER A STRING: the iterator is an object of its own; WHAT A WRITER OF TEXT IS MADE OF: a string appended to a slice of one's own, an object whose shape is told, the bytes behind a string; SHORT WORDS: closers of the side goals that every step leaves; WHAT COMES IN, READ: a value of data (numbers, bools, strings, structs, arrays, slices of these, to any depth) that the row's reading met is described by an abstract value; a call's contract gives the row's; GUARDED OPERATIONS BEHIND ONE THAT WRITES, in a drawn region; A ROW MADE FOR WHAT WILL COME: append of a make, of nothing; cap of nil; A ROW CLEARED: the builtin 'clear' of a slice that is written; MAPS whose keys are structs, and loops over maps. Own work (an AI agent).
-/
import Derived.Test.YtbjloippgpilcaaGreatDoorGD
import Derived.Test.YtbjloippgpilcaaGreatDoorProg
import Derived.KernelRfl
import Derived.Deep.OwnRows
import Derived.Laws.Cover3
import Derived.Lib.Builder
import Derived.Lib.UnsafeStr
import Derived.Laws.Externs
import Derived.ProofKit
import Derived.OpenShut
import Derived.ShutString
import Derived.ChangeOld
import Derived.Below
import Derived.Lib.AppendZerosOnto
import Derived.WideKeyRuns
import Derived.Laws.IdiomRangeMap

section
set_option linter.all false
namespace Go.Proofs
open Go.Ab
@[go_sem] theorem Tryz.aty1 : typeOf Tryz.prog 1 = some (1, false) := by kernel_rfl
@[go_sem] theorem Tryz.aze1 : zeroOf Tryz.prog 1 = some (.nilFunc) := by kernel_rfl
@[go_sem] theorem Tryz.aty2 : typeOf Tryz.prog 2 = some (1, false) := by kernel_rfl
@[go_sem] theorem Tryz.aze2 : zeroOf Tryz.prog 2 = some (.int .i64 0) := by kernel_rfl
@[go_sem] theorem Tryz.aty3 : typeOf Tryz.prog 3 = some (1, false) := by kernel_rfl
@[go_sem] theorem Tryz.api3 : appInfo Tryz.prog 3 = some (1, 8) := by kernel_rfl
@[go_sem] theorem Tryz.aze3 : zeroOf Tryz.prog 3 = some (.int .i64 0) := by kernel_rfl
@[go_sem] theorem Tryz.aty4 : typeOf Tryz.prog 4 = some (1, false) := by kernel_rfl
@[go_sem] theorem Tryz.aze4 : zeroOf Tryz.prog 4 = some (.bool false) := by kernel_rfl
@[go_sem] theorem Tryz.aty5 : typeOf Tryz.prog 5 = some (1, false) := by kernel_rfl
@[go_sem] theorem Tryz.api5 : appInfo Tryz.prog 5 = some (1, 1) := by kernel_rfl
@[go_sem] theorem Tryz.aze5 : zeroOf Tryz.prog 5 = some (.int .u8 0) := by kernel_rfl
@[go_sem] theorem Tryz.aty6 : typeOf Tryz.prog 6 = some (1, false) := by kernel_rfl
@[go_sem] theorem Tryz.aze6 : zeroOf Tryz.prog 6 = some (.int .u8 0) := by kernel_rfl
@[go_sem] theorem Tryz.aty7 : typeOf Tryz.prog 7 = some (4, true) := by kernel_rfl
@[go_sem] theorem Tryz.aze7 : zeroOf Tryz.prog 7 = some (.agg #[.int .i64 0, .int .i64 0, .bool false, .int .u8 0]) := by kernel_rfl
@[go_sem] theorem Tryz.afi7_0 : fieldInfo Tryz.prog 7 0 = some (0, 1, false) := by kernel_rfl
@[go_sem] theorem Tryz.afi7_1 : fieldInfo Tryz.prog 7 1 = some (1, 1, false) := by kernel_rfl
@[go_sem] theorem Tryz.afi7_2 : fieldInfo Tryz.prog 7 2 = some (2, 1, false) := by kernel_rfl
@[go_sem] theorem Tryz.afi7_3 : fieldInfo Tryz.prog 7 3 = some (3, 1, false) := by kernel_rfl
@[go_sem] theorem Tryz.abi7 : buildInfo Tryz.prog 7 = some ([(0, 1), (1, 1), (2, 1), (3, 1)], 0, [.int .i64 0, .int .i64 0, .bool false, .int .u8 0]) := by kernel_rfl
@[go_sem] theorem Tryz.aty8 : typeOf Tryz.prog 8 = some (4, true) := by kernel_rfl
@[go_sem] theorem Tryz.aze8 : zeroOf Tryz.prog 8 = some (.agg #[.int .i64 0, .int .i64 0, .bool false, .int .u8 0]) := by kernel_rfl
@[go_sem] theorem Tryz.afi8_0 : fieldInfo Tryz.prog 8 0 = some (0, 1, false) := by kernel_rfl
@[go_sem] theorem Tryz.afi8_1 : fieldInfo Tryz.prog 8 1 = some (1, 1, false) := by kernel_rfl
@[go_sem] theorem Tryz.afi8_2 : fieldInfo Tryz.prog 8 2 = some (2, 1, false) := by kernel_rfl
@[go_sem] theorem Tryz.afi8_3 : fieldInfo Tryz.prog 8 3 = some (3, 1, false) := by kernel_rfl
@[go_sem] theorem Tryz.abi8 : buildInfo Tryz.prog 8 = some ([(0, 1), (1, 1), (2, 1), (3, 1)], 0, [.int .i64 0, .int .i64 0, .bool false, .int .u8 0]) := by kernel_rfl
@[go_sem] theorem Tryz.aty9 : typeOf Tryz.prog 9 = some (1, false) := by kernel_rfl
@[go_sem] theorem Tryz.ais9 : isStringT Tryz.prog 9 = true := by kernel_rfl
@[go_sem] theorem Tryz.api9 : appInfo Tryz.prog 9 = some (1, 16) := by kernel_rfl
@[go_sem] theorem Tryz.aze9 : zeroOf Tryz.prog 9 = some (.string ⟨#[]⟩) := by kernel_rfl
@[go_sem] theorem Tryz.aty10 : typeOf Tryz.prog 10 = some (1, false) := by kernel_rfl
@[go_sem] theorem Tryz.ais10 : isStringT Tryz.prog 10 = true := by kernel_rfl
@[go_sem] theorem Tryz.aze10 : zeroOf Tryz.prog 10 = some (.string ⟨#[]⟩) := by kernel_rfl
@[go_sem] theorem Tryz.aty11 : typeOf Tryz.prog 11 = some (1, false) := by kernel_rfl
@[go_sem] theorem Tryz.ais11 : isStringT Tryz.prog 11 = true := by kernel_rfl
@[go_sem] theorem Tryz.aze11 : zeroOf Tryz.prog 11 = some (.string ⟨#[]⟩) := by kernel_rfl
@[go_sem] theorem Tryz.aty12 : typeOf Tryz.prog 12 = some (1, false) := by kernel_rfl
@[go_sem] theorem Tryz.aze12 : zeroOf Tryz.prog 12 = some (.int .u64 0) := by kernel_rfl
@[go_sem] theorem Tryz.aty13 : typeOf Tryz.prog 13 = some (2, true) := by kernel_rfl
@[go_sem] theorem Tryz.aze13 : zeroOf Tryz.prog 13 = some (.agg #[.string ⟨#[]⟩, .int .u64 0]) := by kernel_rfl
@[go_sem] theorem Tryz.afi13_0 : fieldInfo Tryz.prog 13 0 = some (0, 1, false) := by kernel_rfl
@[go_sem] theorem Tryz.afi13_1 : fieldInfo Tryz.prog 13 1 = some (1, 1, false) := by kernel_rfl
@[go_sem] theorem Tryz.abi13 : buildInfo Tryz.prog 13 = some ([(0, 1), (1, 1)], 0, [.string ⟨#[]⟩, .int .u64 0]) := by kernel_rfl
@[go_sem] theorem Tryz.aty14 : typeOf Tryz.prog 14 = some (2, true) := by kernel_rfl
@[go_sem] theorem Tryz.aze14 : zeroOf Tryz.prog 14 = some (.agg #[.string ⟨#[]⟩, .int .u64 0]) := by kernel_rfl
@[go_sem] theorem Tryz.afi14_0 : fieldInfo Tryz.prog 14 0 = some (0, 1, false) := by kernel_rfl
@[go_sem] theorem Tryz.afi14_1 : fieldInfo Tryz.prog 14 1 = some (1, 1, false) := by kernel_rfl
@[go_sem] theorem Tryz.abi14 : buildInfo Tryz.prog 14 = some ([(0, 1), (1, 1)], 0, [.string ⟨#[]⟩, .int .u64 0]) := by kernel_rfl
@[go_sem] theorem Tryz.aty15 : typeOf Tryz.prog 15 = some (1, false) := by kernel_rfl
@[go_sem] theorem Tryz.aze15 : zeroOf Tryz.prog 15 = some (.pointer none) := by kernel_rfl
@[go_sem] theorem Tryz.aty16 : typeOf Tryz.prog 16 = some (1, false) := by kernel_rfl
@[go_sem] theorem Tryz.aze16 : zeroOf Tryz.prog 16 = some (.pointer none) := by kernel_rfl
@[go_sem] theorem Tryz.aty17 : typeOf Tryz.prog 17 = some (1, false) := by kernel_rfl
@[go_sem] theorem Tryz.aze17 : zeroOf Tryz.prog 17 = some (.pointer none) := by kernel_rfl
@[go_sem] theorem Tryz.aty18 : typeOf Tryz.prog 18 = some (1, true) := by kernel_rfl
@[go_sem] theorem Tryz.aze18 : zeroOf Tryz.prog 18 = some (.agg #[.pointer none]) := by kernel_rfl
@[go_sem] theorem Tryz.afi18_0 : fieldInfo Tryz.prog 18 0 = some (0, 1, false) := by kernel_rfl
@[go_sem] theorem Tryz.abi18 : buildInfo Tryz.prog 18 = some ([(0, 1)], 0, [.pointer none]) := by kernel_rfl
@[go_sem] theorem Tryz.aty19 : typeOf Tryz.prog 19 = some (1, true) := by kernel_rfl
@[go_sem] theorem Tryz.aze19 : zeroOf Tryz.prog 19 = some (.agg #[.pointer none]) := by kernel_rfl
@[go_sem] theorem Tryz.afi19_0 : fieldInfo Tryz.prog 19 0 = some (0, 1, false) := by kernel_rfl
@[go_sem] theorem Tryz.abi19 : buildInfo Tryz.prog 19 = some ([(0, 1)], 0, [.pointer none]) := by kernel_rfl
@[go_sem] theorem Tryz.aty20 : typeOf Tryz.prog 20 = some (1, false) := by kernel_rfl
@[go_sem] theorem Tryz.aze20 : zeroOf Tryz.prog 20 = some (.nilIface) := by kernel_rfl
@[go_sem] theorem Tryz.aty21 : typeOf Tryz.prog 21 = some (1, false) := by kernel_rfl
@[go_sem] theorem Tryz.aze21 : zeroOf Tryz.prog 21 = some (.int .i32 0) := by kernel_rfl
@[go_sem] theorem Tryz.aty22 : typeOf Tryz.prog 22 = some (1, false) := by kernel_rfl
@[go_sem] theorem Tryz.ais22 : isStringT Tryz.prog 22 = false := by kernel_rfl
@[go_sem] theorem Tryz.ase22 : sliceElem Tryz.prog 22 = some 51 := by kernel_rfl
@[go_sem] theorem Tryz.aze22 : zeroOf Tryz.prog 22 = some (.slice none 0 0) := by kernel_rfl
@[go_sem] theorem Tryz.aty23 : typeOf Tryz.prog 23 = some (1, false) := by kernel_rfl
@[go_sem] theorem Tryz.ais23 : isStringT Tryz.prog 23 = false := by kernel_rfl
@[go_sem] theorem Tryz.ase23 : sliceElem Tryz.prog 23 = some 3 := by kernel_rfl
@[go_sem] theorem Tryz.aze23 : zeroOf Tryz.prog 23 = some (.slice none 0 0) := by kernel_rfl
@[go_sem] theorem Tryz.aty24 : typeOf Tryz.prog 24 = some (1, false) := by kernel_rfl
@[go_sem] theorem Tryz.aze24 : zeroOf Tryz.prog 24 = some (.nilFunc) := by kernel_rfl
@[go_sem] theorem Tryz.aty25 : typeOf Tryz.prog 25 = some (1, false) := by kernel_rfl
@[go_sem] theorem Tryz.aze25 : zeroOf Tryz.prog 25 = some (.nilFunc) := by kernel_rfl
@[go_sem] theorem Tryz.aty26 : typeOf Tryz.prog 26 = some (1, false) := by kernel_rfl
@[go_sem] theorem Tryz.ais26 : isStringT Tryz.prog 26 = false := by kernel_rfl
@[go_sem] theorem Tryz.ase26 : sliceElem Tryz.prog 26 = some 9 := by kernel_rfl
@[go_sem] theorem Tryz.aze26 : zeroOf Tryz.prog 26 = some (.slice none 0 0) := by kernel_rfl
@[go_sem] theorem Tryz.aty27 : typeOf Tryz.prog 27 = some (1, false) := by kernel_rfl
@[go_sem] theorem Tryz.aze27 : zeroOf Tryz.prog 27 = some (.nilFunc) := by kernel_rfl
@[go_sem] theorem Tryz.aty28 : typeOf Tryz.prog 28 = some (1, false) := by kernel_rfl
@[go_sem] theorem Tryz.aze28 : zeroOf Tryz.prog 28 = some (.nilFunc) := by kernel_rfl
@[go_sem] theorem Tryz.aty29 : typeOf Tryz.prog 29 = some (1, false) := by kernel_rfl
@[go_sem] theorem Tryz.ais29 : isStringT Tryz.prog 29 = false := by kernel_rfl
@[go_sem] theorem Tryz.ase29 : sliceElem Tryz.prog 29 = some 58 := by kernel_rfl
@[go_sem] theorem Tryz.aze29 : zeroOf Tryz.prog 29 = some (.slice none 0 0) := by kernel_rfl
@[go_sem] theorem Tryz.aty30 : typeOf Tryz.prog 30 = some (5, true) := by kernel_rfl
@[go_sem] theorem Tryz.aze30 : zeroOf Tryz.prog 30 = some (.agg #[.int .i64 0, .int .i64 0, .slice none 0 0, .int .i64 0, .int .i64 0]) := by kernel_rfl
@[go_sem] theorem Tryz.afi30_0 : fieldInfo Tryz.prog 30 0 = some (0, 1, false) := by kernel_rfl
@[go_sem] theorem Tryz.afi30_1 : fieldInfo Tryz.prog 30 1 = some (1, 1, false) := by kernel_rfl
@[go_sem] theorem Tryz.afi30_2 : fieldInfo Tryz.prog 30 2 = some (2, 1, false) := by kernel_rfl
@[go_sem] theorem Tryz.afi30_3 : fieldInfo Tryz.prog 30 3 = some (3, 1, false) := by kernel_rfl
@[go_sem] theorem Tryz.afi30_4 : fieldInfo Tryz.prog 30 4 = some (4, 1, false) := by kernel_rfl
@[go_sem] theorem Tryz.abi30 : buildInfo Tryz.prog 30 = some ([(0, 1), (1, 1), (2, 1), (3, 1), (4, 1)], 0, [.int .i64 0, .int .i64 0, .slice none 0 0, .int .i64 0, .int .i64 0]) := by kernel_rfl
@[go_sem] theorem Tryz.aty31 : typeOf Tryz.prog 31 = some (5, true) := by kernel_rfl
@[go_sem] theorem Tryz.aze31 : zeroOf Tryz.prog 31 = some (.agg #[.int .i64 0, .int .i64 0, .slice none 0 0, .int .i64 0, .int .i64 0]) := by kernel_rfl
@[go_sem] theorem Tryz.afi31_0 : fieldInfo Tryz.prog 31 0 = some (0, 1, false) := by kernel_rfl
@[go_sem] theorem Tryz.afi31_1 : fieldInfo Tryz.prog 31 1 = some (1, 1, false) := by kernel_rfl
@[go_sem] theorem Tryz.afi31_2 : fieldInfo Tryz.prog 31 2 = some (2, 1, false) := by kernel_rfl
@[go_sem] theorem Tryz.afi31_3 : fieldInfo Tryz.prog 31 3 = some (3, 1, false) := by kernel_rfl
@[go_sem] theorem Tryz.afi31_4 : fieldInfo Tryz.prog 31 4 = some (4, 1, false) := by kernel_rfl
@[go_sem] theorem Tryz.abi31 : buildInfo Tryz.prog 31 = some ([(0, 1), (1, 1), (2, 1), (3, 1), (4, 1)], 0, [.int .i64 0, .int .i64 0, .slice none 0 0, .int .i64 0, .int .i64 0]) := by kernel_rfl
@[go_sem] theorem Tryz.aty32 : typeOf Tryz.prog 32 = some (1, false) := by kernel_rfl
@[go_sem] theorem Tryz.aze32 : zeroOf Tryz.prog 32 = some (.nilFunc) := by kernel_rfl
@[go_sem] theorem Tryz.aty33 : typeOf Tryz.prog 33 = some (1, false) := by kernel_rfl
@[go_sem] theorem Tryz.aze33 : zeroOf Tryz.prog 33 = some (.nilFunc) := by kernel_rfl
@[go_sem] theorem Tryz.aty34 : typeOf Tryz.prog 34 = some (1, false) := by kernel_rfl
@[go_sem] theorem Tryz.aze34 : zeroOf Tryz.prog 34 = some (.nilFunc) := by kernel_rfl
@[go_sem] theorem Tryz.aty35 : typeOf Tryz.prog 35 = some (1, false) := by kernel_rfl
@[go_sem] theorem Tryz.aze35 : zeroOf Tryz.prog 35 = some (.nilFunc) := by kernel_rfl
@[go_sem] theorem Tryz.aty36 : typeOf Tryz.prog 36 = some (1, false) := by kernel_rfl
@[go_sem] theorem Tryz.aze36 : zeroOf Tryz.prog 36 = some (.nilFunc) := by kernel_rfl
@[go_sem] theorem Tryz.aty37 : typeOf Tryz.prog 37 = some (1, false) := by kernel_rfl
@[go_sem] theorem Tryz.aze37 : zeroOf Tryz.prog 37 = some (.nilFunc) := by kernel_rfl
@[go_sem] theorem Tryz.aty38 : typeOf Tryz.prog 38 = some (1, false) := by kernel_rfl
@[go_sem] theorem Tryz.aze38 : zeroOf Tryz.prog 38 = some (.nilFunc) := by kernel_rfl
@[go_sem] theorem Tryz.aty39 : typeOf Tryz.prog 39 = some (1, false) := by kernel_rfl
@[go_sem] theorem Tryz.aze39 : zeroOf Tryz.prog 39 = some (.nilFunc) := by kernel_rfl
@[go_sem] theorem Tryz.aty40 : typeOf Tryz.prog 40 = some (1, false) := by kernel_rfl
@[go_sem] theorem Tryz.aze40 : zeroOf Tryz.prog 40 = some (.nilFunc) := by kernel_rfl
@[go_sem] theorem Tryz.aty41 : typeOf Tryz.prog 41 = some (1, false) := by kernel_rfl
@[go_sem] theorem Tryz.ais41 : isStringT Tryz.prog 41 = false := by kernel_rfl
@[go_sem] theorem Tryz.ase41 : sliceElem Tryz.prog 41 = some 81 := by kernel_rfl
@[go_sem] theorem Tryz.aze41 : zeroOf Tryz.prog 41 = some (.slice none 0 0) := by kernel_rfl
@[go_sem] theorem Tryz.aty42 : typeOf Tryz.prog 42 = some (7, true) := by kernel_rfl
@[go_sem] theorem Tryz.aze42 : zeroOf Tryz.prog 42 = some (.agg #[.int .i64 0, .string ⟨#[]⟩, .string ⟨#[]⟩, .string ⟨#[]⟩, .string ⟨#[]⟩, .slice none 0 0, .int .i64 0]) := by kernel_rfl
@[go_sem] theorem Tryz.afi42_0 : fieldInfo Tryz.prog 42 0 = some (0, 1, false) := by kernel_rfl
@[go_sem] theorem Tryz.afi42_1 : fieldInfo Tryz.prog 42 1 = some (1, 1, false) := by kernel_rfl
@[go_sem] theorem Tryz.afi42_2 : fieldInfo Tryz.prog 42 2 = some (2, 1, false) := by kernel_rfl
@[go_sem] theorem Tryz.afi42_3 : fieldInfo Tryz.prog 42 3 = some (3, 1, false) := by kernel_rfl
@[go_sem] theorem Tryz.afi42_4 : fieldInfo Tryz.prog 42 4 = some (4, 1, false) := by kernel_rfl
@[go_sem] theorem Tryz.afi42_5 : fieldInfo Tryz.prog 42 5 = some (5, 1, false) := by kernel_rfl
@[go_sem] theorem Tryz.afi42_6 : fieldInfo Tryz.prog 42 6 = some (6, 1, false) := by kernel_rfl
@[go_sem] theorem Tryz.abi42 : buildInfo Tryz.prog 42 = some ([(0, 1), (1, 1), (2, 1), (3, 1), (4, 1), (5, 1), (6, 1)], 0, [.int .i64 0, .string ⟨#[]⟩, .string ⟨#[]⟩, .string ⟨#[]⟩, .string ⟨#[]⟩, .slice none 0 0, .int .i64 0]) := by kernel_rfl
@[go_sem] theorem Tryz.aty43 : typeOf Tryz.prog 43 = some (7, true) := by kernel_rfl
@[go_sem] theorem Tryz.aze43 : zeroOf Tryz.prog 43 = some (.agg #[.int .i64 0, .string ⟨#[]⟩, .string ⟨#[]⟩, .string ⟨#[]⟩, .string ⟨#[]⟩, .slice none 0 0, .int .i64 0]) := by kernel_rfl
@[go_sem] theorem Tryz.afi43_0 : fieldInfo Tryz.prog 43 0 = some (0, 1, false) := by kernel_rfl
@[go_sem] theorem Tryz.afi43_1 : fieldInfo Tryz.prog 43 1 = some (1, 1, false) := by kernel_rfl
@[go_sem] theorem Tryz.afi43_2 : fieldInfo Tryz.prog 43 2 = some (2, 1, false) := by kernel_rfl
@[go_sem] theorem Tryz.afi43_3 : fieldInfo Tryz.prog 43 3 = some (3, 1, false) := by kernel_rfl
@[go_sem] theorem Tryz.afi43_4 : fieldInfo Tryz.prog 43 4 = some (4, 1, false) := by kernel_rfl
@[go_sem] theorem Tryz.afi43_5 : fieldInfo Tryz.prog 43 5 = some (5, 1, false) := by kernel_rfl
@[go_sem] theorem Tryz.afi43_6 : fieldInfo Tryz.prog 43 6 = some (6, 1, false) := by kernel_rfl
@[go_sem] theorem Tryz.abi43 : buildInfo Tryz.prog 43 = some ([(0, 1), (1, 1), (2, 1), (3, 1), (4, 1), (5, 1), (6, 1)], 0, [.int .i64 0, .string ⟨#[]⟩, .string ⟨#[]⟩, .string ⟨#[]⟩, .string ⟨#[]⟩, .slice none 0 0, .int .i64 0]) := by kernel_rfl
@[go_sem] theorem Tryz.aty44 : typeOf Tryz.prog 44 = some (1, false) := by kernel_rfl
@[go_sem] theorem Tryz.aze44 : zeroOf Tryz.prog 44 = some (.int .i64 0) := by kernel_rfl
@[go_sem] theorem Tryz.aty45 : typeOf Tryz.prog 45 = some (1, false) := by kernel_rfl
@[go_sem] theorem Tryz.ais45 : isStringT Tryz.prog 45 = false := by kernel_rfl
@[go_sem] theorem Tryz.ase45 : sliceElem Tryz.prog 45 = some 163 := by kernel_rfl
@[go_sem] theorem Tryz.aze45 : zeroOf Tryz.prog 45 = some (.slice none 0 0) := by kernel_rfl
@[go_sem] theorem Tryz.aty46 : typeOf Tryz.prog 46 = some (2, true) := by kernel_rfl
@[go_sem] theorem Tryz.aze46 : zeroOf Tryz.prog 46 = some (.agg #[.string ⟨#[]⟩, .int .i64 0]) := by kernel_rfl
@[go_sem] theorem Tryz.afi46_0 : fieldInfo Tryz.prog 46 0 = some (0, 1, false) := by kernel_rfl
@[go_sem] theorem Tryz.afi46_1 : fieldInfo Tryz.prog 46 1 = some (1, 1, false) := by kernel_rfl
@[go_sem] theorem Tryz.abi46 : buildInfo Tryz.prog 46 = some ([(0, 1), (1, 1)], 0, [.string ⟨#[]⟩, .int .i64 0]) := by kernel_rfl
@[go_sem] theorem Tryz.aty47 : typeOf Tryz.prog 47 = some (2, true) := by kernel_rfl
@[go_sem] theorem Tryz.aze47 : zeroOf Tryz.prog 47 = some (.agg #[.string ⟨#[]⟩, .int .i64 0]) := by kernel_rfl
@[go_sem] theorem Tryz.afi47_0 : fieldInfo Tryz.prog 47 0 = some (0, 1, false) := by kernel_rfl
@[go_sem] theorem Tryz.afi47_1 : fieldInfo Tryz.prog 47 1 = some (1, 1, false) := by kernel_rfl
@[go_sem] theorem Tryz.abi47 : buildInfo Tryz.prog 47 = some ([(0, 1), (1, 1)], 0, [.string ⟨#[]⟩, .int .i64 0]) := by kernel_rfl
@[go_sem] theorem Tryz.aty48 : typeOf Tryz.prog 48 = some (6, true) := by kernel_rfl
@[go_sem] theorem Tryz.aze48 : zeroOf Tryz.prog 48 = some (.agg #[.int .i64 0, .slice none 0 0, .slice none 0 0, .slice none 0 0, .string ⟨#[]⟩, .int .i64 0]) := by kernel_rfl
@[go_sem] theorem Tryz.afi48_0 : fieldInfo Tryz.prog 48 0 = some (0, 1, false) := by kernel_rfl
@[go_sem] theorem Tryz.afi48_1 : fieldInfo Tryz.prog 48 1 = some (1, 1, false) := by kernel_rfl
@[go_sem] theorem Tryz.afi48_2 : fieldInfo Tryz.prog 48 2 = some (2, 1, false) := by kernel_rfl
@[go_sem] theorem Tryz.afi48_3 : fieldInfo Tryz.prog 48 3 = some (3, 1, false) := by kernel_rfl
@[go_sem] theorem Tryz.afi48_4 : fieldInfo Tryz.prog 48 4 = some (4, 2, true) := by kernel_rfl
@[go_sem] theorem Tryz.abi48 : buildInfo Tryz.prog 48 = some ([(0, 1), (1, 1), (2, 1), (3, 1), (4, 2)], 0, [.int .i64 0, .slice none 0 0, .slice none 0 0, .slice none 0 0, .string ⟨#[]⟩, .int .i64 0]) := by kernel_rfl
@[go_sem] theorem Tryz.aty49 : typeOf Tryz.prog 49 = some (6, true) := by kernel_rfl
@[go_sem] theorem Tryz.aze49 : zeroOf Tryz.prog 49 = some (.agg #[.int .i64 0, .slice none 0 0, .slice none 0 0, .slice none 0 0, .string ⟨#[]⟩, .int .i64 0]) := by kernel_rfl
@[go_sem] theorem Tryz.afi49_0 : fieldInfo Tryz.prog 49 0 = some (0, 1, false) := by kernel_rfl
@[go_sem] theorem Tryz.afi49_1 : fieldInfo Tryz.prog 49 1 = some (1, 1, false) := by kernel_rfl
@[go_sem] theorem Tryz.afi49_2 : fieldInfo Tryz.prog 49 2 = some (2, 1, false) := by kernel_rfl
@[go_sem] theorem Tryz.afi49_3 : fieldInfo Tryz.prog 49 3 = some (3, 1, false) := by kernel_rfl
@[go_sem] theorem Tryz.afi49_4 : fieldInfo Tryz.prog 49 4 = some (4, 2, true) := by kernel_rfl
@[go_sem] theorem Tryz.abi49 : buildInfo Tryz.prog 49 = some ([(0, 1), (1, 1), (2, 1), (3, 1), (4, 2)], 0, [.int .i64 0, .slice none 0 0, .slice none 0 0, .slice none 0 0, .string ⟨#[]⟩, .int .i64 0]) := by kernel_rfl
@[go_sem] theorem Tryz.aty50 : typeOf Tryz.prog 50 = some (20, true) := by kernel_rfl
@[go_sem] theorem Tryz.aze50 : zeroOf Tryz.prog 50 = some (.agg #[.string ⟨#[]⟩, .string ⟨#[]⟩, .int .i64 0, .int .i64 0, .int .i64 0, .int .i64 0, .int .i64 0, .string ⟨#[]⟩, .string ⟨#[]⟩, .string ⟨#[]⟩, .string ⟨#[]⟩, .slice none 0 0, .int .i64 0, .bool false, .int .i64 0, .slice none 0 0, .slice none 0 0, .slice none 0 0, .string ⟨#[]⟩, .int .i64 0]) := by kernel_rfl
@[go_sem] theorem Tryz.afi50_0 : fieldInfo Tryz.prog 50 0 = some (0, 1, false) := by kernel_rfl
@[go_sem] theorem Tryz.afi50_1 : fieldInfo Tryz.prog 50 1 = some (1, 1, false) := by kernel_rfl
@[go_sem] theorem Tryz.afi50_2 : fieldInfo Tryz.prog 50 2 = some (2, 1, false) := by kernel_rfl
@[go_sem] theorem Tryz.afi50_3 : fieldInfo Tryz.prog 50 3 = some (3, 1, false) := by kernel_rfl
@[go_sem] theorem Tryz.afi50_4 : fieldInfo Tryz.prog 50 4 = some (4, 1, false) := by kernel_rfl
@[go_sem] theorem Tryz.afi50_5 : fieldInfo Tryz.prog 50 5 = some (5, 1, false) := by kernel_rfl
@[go_sem] theorem Tryz.afi50_6 : fieldInfo Tryz.prog 50 6 = some (6, 7, true) := by kernel_rfl
@[go_sem] theorem Tryz.afi50_7 : fieldInfo Tryz.prog 50 7 = some (13, 1, false) := by kernel_rfl
@[go_sem] theorem Tryz.afi50_8 : fieldInfo Tryz.prog 50 8 = some (14, 6, true) := by kernel_rfl
@[go_sem] theorem Tryz.abi50 : buildInfo Tryz.prog 50 = some ([(0, 1), (1, 1), (2, 1), (3, 1), (4, 1), (5, 1), (6, 7), (13, 1), (14, 6)], 0, [.string ⟨#[]⟩, .string ⟨#[]⟩, .int .i64 0, .int .i64 0, .int .i64 0, .int .i64 0, .int .i64 0, .string ⟨#[]⟩, .string ⟨#[]⟩, .string ⟨#[]⟩, .string ⟨#[]⟩, .slice none 0 0, .int .i64 0, .bool false, .int .i64 0, .slice none 0 0, .slice none 0 0, .slice none 0 0, .string ⟨#[]⟩, .int .i64 0]) := by kernel_rfl
@[go_sem] theorem Tryz.aty51 : typeOf Tryz.prog 51 = some (20, true) := by kernel_rfl
@[go_sem] theorem Tryz.api51 : appInfo Tryz.prog 51 = some (20, 280) := by kernel_rfl
@[go_sem] theorem Tryz.aze51 : zeroOf Tryz.prog 51 = some (.agg #[.string ⟨#[]⟩, .string ⟨#[]⟩, .int .i64 0, .int .i64 0, .int .i64 0, .int .i64 0, .int .i64 0, .string ⟨#[]⟩, .string ⟨#[]⟩, .string ⟨#[]⟩, .string ⟨#[]⟩, .slice none 0 0, .int .i64 0, .bool false, .int .i64 0, .slice none 0 0, .slice none 0 0, .slice none 0 0, .string ⟨#[]⟩, .int .i64 0]) := by kernel_rfl
@[go_sem] theorem Tryz.afi51_0 : fieldInfo Tryz.prog 51 0 = some (0, 1, false) := by kernel_rfl
@[go_sem] theorem Tryz.afi51_1 : fieldInfo Tryz.prog 51 1 = some (1, 1, false) := by kernel_rfl
@[go_sem] theorem Tryz.afi51_2 : fieldInfo Tryz.prog 51 2 = some (2, 1, false) := by kernel_rfl
@[go_sem] theorem Tryz.afi51_3 : fieldInfo Tryz.prog 51 3 = some (3, 1, false) := by kernel_rfl
@[go_sem] theorem Tryz.afi51_4 : fieldInfo Tryz.prog 51 4 = some (4, 1, false) := by kernel_rfl
@[go_sem] theorem Tryz.afi51_5 : fieldInfo Tryz.prog 51 5 = some (5, 1, false) := by kernel_rfl
@[go_sem] theorem Tryz.afi51_6 : fieldInfo Tryz.prog 51 6 = some (6, 7, true) := by kernel_rfl
@[go_sem] theorem Tryz.afi51_7 : fieldInfo Tryz.prog 51 7 = some (13, 1, false) := by kernel_rfl
@[go_sem] theorem Tryz.afi51_8 : fieldInfo Tryz.prog 51 8 = some (14, 6, true) := by kernel_rfl
@[go_sem] theorem Tryz.abi51 : buildInfo Tryz.prog 51 = some ([(0, 1), (1, 1), (2, 1), (3, 1), (4, 1), (5, 1), (6, 7), (13, 1), (14, 6)], 0, [.string ⟨#[]⟩, .string ⟨#[]⟩, .int .i64 0, .int .i64 0, .int .i64 0, .int .i64 0, .int .i64 0, .string ⟨#[]⟩, .string ⟨#[]⟩, .string ⟨#[]⟩, .string ⟨#[]⟩, .slice none 0 0, .int .i64 0, .bool false, .int .i64 0, .slice none 0 0, .slice none 0 0, .slice none 0 0, .string ⟨#[]⟩, .int .i64 0]) := by kernel_rfl
@[go_sem] theorem Tryz.aty52 : typeOf Tryz.prog 52 = some (1, false) := by kernel_rfl
@[go_sem] theorem Tryz.aze52 : zeroOf Tryz.prog 52 = some (.nilFunc) := by kernel_rfl
@[go_sem] theorem Tryz.aty53 : typeOf Tryz.prog 53 = some (1, false) := by kernel_rfl
@[go_sem] theorem Tryz.aze53 : zeroOf Tryz.prog 53 = some (.nilFunc) := by kernel_rfl
@[go_sem] theorem Tryz.aty54 : typeOf Tryz.prog 54 = some (1, false) := by kernel_rfl
@[go_sem] theorem Tryz.aze54 : zeroOf Tryz.prog 54 = some (.nilFunc) := by kernel_rfl
@[go_sem] theorem Tryz.aty55 : typeOf Tryz.prog 55 = some (1, false) := by kernel_rfl
@[go_sem] theorem Tryz.aze55 : zeroOf Tryz.prog 55 = some (.nilFunc) := by kernel_rfl
@[go_sem] theorem Tryz.aty56 : typeOf Tryz.prog 56 = some (1, false) := by kernel_rfl
@[go_sem] theorem Tryz.aze56 : zeroOf Tryz.prog 56 = some (.nilFunc) := by kernel_rfl
@[go_sem] theorem Tryz.aty57 : typeOf Tryz.prog 57 = some (3, true) := by kernel_rfl
@[go_sem] theorem Tryz.aze57 : zeroOf Tryz.prog 57 = some (.agg #[.int .i64 0, .int .i64 0, .int .i64 0]) := by kernel_rfl
@[go_sem] theorem Tryz.afi57_0 : fieldInfo Tryz.prog 57 0 = some (0, 1, false) := by kernel_rfl
@[go_sem] theorem Tryz.afi57_1 : fieldInfo Tryz.prog 57 1 = some (1, 1, false) := by kernel_rfl
@[go_sem] theorem Tryz.afi57_2 : fieldInfo Tryz.prog 57 2 = some (2, 1, false) := by kernel_rfl
@[go_sem] theorem Tryz.abi57 : buildInfo Tryz.prog 57 = some ([(0, 1), (1, 1), (2, 1)], 0, [.int .i64 0, .int .i64 0, .int .i64 0]) := by kernel_rfl
@[go_sem] theorem Tryz.aty58 : typeOf Tryz.prog 58 = some (3, true) := by kernel_rfl
@[go_sem] theorem Tryz.api58 : appInfo Tryz.prog 58 = some (3, 24) := by kernel_rfl
@[go_sem] theorem Tryz.aze58 : zeroOf Tryz.prog 58 = some (.agg #[.int .i64 0, .int .i64 0, .int .i64 0]) := by kernel_rfl
@[go_sem] theorem Tryz.afi58_0 : fieldInfo Tryz.prog 58 0 = some (0, 1, false) := by kernel_rfl
@[go_sem] theorem Tryz.afi58_1 : fieldInfo Tryz.prog 58 1 = some (1, 1, false) := by kernel_rfl
@[go_sem] theorem Tryz.afi58_2 : fieldInfo Tryz.prog 58 2 = some (2, 1, false) := by kernel_rfl
@[go_sem] theorem Tryz.abi58 : buildInfo Tryz.prog 58 = some ([(0, 1), (1, 1), (2, 1)], 0, [.int .i64 0, .int .i64 0, .int .i64 0]) := by kernel_rfl
@[go_sem] theorem Tryz.aty59 : typeOf Tryz.prog 59 = some (1, false) := by kernel_rfl
@[go_sem] theorem Tryz.aze59 : zeroOf Tryz.prog 59 = some (.map none) := by kernel_rfl
@[go_sem] theorem Tryz.aty60 : typeOf Tryz.prog 60 = some (2, true) := by kernel_rfl
@[go_sem] theorem Tryz.aze60 : zeroOf Tryz.prog 60 = some (.agg #[.int .i64 0, .int .i64 0]) := by kernel_rfl
@[go_sem] theorem Tryz.afi60_0 : fieldInfo Tryz.prog 60 0 = some (0, 1, false) := by kernel_rfl
@[go_sem] theorem Tryz.afi60_1 : fieldInfo Tryz.prog 60 1 = some (1, 1, false) := by kernel_rfl
@[go_sem] theorem Tryz.abi60 : buildInfo Tryz.prog 60 = some ([(0, 1), (1, 1)], 0, [.int .i64 0, .int .i64 0]) := by kernel_rfl
@[go_sem] theorem Tryz.aty61 : typeOf Tryz.prog 61 = some (2, true) := by kernel_rfl
@[go_sem] theorem Tryz.aze61 : zeroOf Tryz.prog 61 = some (.agg #[.int .i64 0, .int .i64 0]) := by kernel_rfl
@[go_sem] theorem Tryz.afi61_0 : fieldInfo Tryz.prog 61 0 = some (0, 1, false) := by kernel_rfl
@[go_sem] theorem Tryz.afi61_1 : fieldInfo Tryz.prog 61 1 = some (1, 1, false) := by kernel_rfl
@[go_sem] theorem Tryz.abi61 : buildInfo Tryz.prog 61 = some ([(0, 1), (1, 1)], 0, [.int .i64 0, .int .i64 0]) := by kernel_rfl
@[go_sem] theorem Tryz.aty62 : typeOf Tryz.prog 62 = some (1, false) := by kernel_rfl
@[go_sem] theorem Tryz.aze62 : zeroOf Tryz.prog 62 = some (.nilFunc) := by kernel_rfl
@[go_sem] theorem Tryz.aty63 : typeOf Tryz.prog 63 = some (1, false) := by kernel_rfl
@[go_sem] theorem Tryz.aze63 : zeroOf Tryz.prog 63 = some (.nilFunc) := by kernel_rfl
@[go_sem] theorem Tryz.aty64 : typeOf Tryz.prog 64 = some (1, false) := by kernel_rfl
@[go_sem] theorem Tryz.aze64 : zeroOf Tryz.prog 64 = some (.nilFunc) := by kernel_rfl
@[go_sem] theorem Tryz.aty65 : typeOf Tryz.prog 65 = some (1, false) := by kernel_rfl
@[go_sem] theorem Tryz.aze65 : zeroOf Tryz.prog 65 = some (.nilFunc) := by kernel_rfl
@[go_sem] theorem Tryz.aty66 : typeOf Tryz.prog 66 = some (1, false) := by kernel_rfl
@[go_sem] theorem Tryz.aze66 : zeroOf Tryz.prog 66 = some (.nilFunc) := by kernel_rfl
@[go_sem] theorem Tryz.aty67 : typeOf Tryz.prog 67 = some (1, false) := by kernel_rfl
@[go_sem] theorem Tryz.aze67 : zeroOf Tryz.prog 67 = some (.nilFunc) := by kernel_rfl
@[go_sem] theorem Tryz.aty68 : typeOf Tryz.prog 68 = some (1, false) := by kernel_rfl
@[go_sem] theorem Tryz.aze68 : zeroOf Tryz.prog 68 = some (.nilFunc) := by kernel_rfl
@[go_sem] theorem Tryz.aty69 : typeOf Tryz.prog 69 = some (1, false) := by kernel_rfl
@[go_sem] theorem Tryz.aze69 : zeroOf Tryz.prog 69 = some (.nilFunc) := by kernel_rfl
@[go_sem] theorem Tryz.aty70 : typeOf Tryz.prog 70 = some (1, false) := by kernel_rfl
@[go_sem] theorem Tryz.aze70 : zeroOf Tryz.prog 70 = some (.nilFunc) := by kernel_rfl
@[go_sem] theorem Tryz.aty71 : typeOf Tryz.prog 71 = some (1, false) := by kernel_rfl
@[go_sem] theorem Tryz.aze71 : zeroOf Tryz.prog 71 = some (.pointer none) := by kernel_rfl
@[go_sem] theorem Tryz.aty72 : typeOf Tryz.prog 72 = some (1, false) := by kernel_rfl
@[go_sem] theorem Tryz.ais72 : isStringT Tryz.prog 72 = false := by kernel_rfl
@[go_sem] theorem Tryz.ase72 : sliceElem Tryz.prog 72 = some 5 := by kernel_rfl
@[go_sem] theorem Tryz.aze72 : zeroOf Tryz.prog 72 = some (.slice none 0 0) := by kernel_rfl
@[go_sem] theorem Tryz.aty73 : typeOf Tryz.prog 73 = some (2, true) := by kernel_rfl
@[go_sem] theorem Tryz.aze73 : zeroOf Tryz.prog 73 = some (.agg #[.pointer none, .slice none 0 0]) := by kernel_rfl
@[go_sem] theorem Tryz.afi73_0 : fieldInfo Tryz.prog 73 0 = some (0, 1, false) := by kernel_rfl
@[go_sem] theorem Tryz.afi73_1 : fieldInfo Tryz.prog 73 1 = some (1, 1, false) := by kernel_rfl
@[go_sem] theorem Tryz.abi73 : buildInfo Tryz.prog 73 = some ([(0, 1), (1, 1)], 0, [.pointer none, .slice none 0 0]) := by kernel_rfl
@[go_sem] theorem Tryz.aty74 : typeOf Tryz.prog 74 = some (2, true) := by kernel_rfl
@[go_sem] theorem Tryz.aze74 : zeroOf Tryz.prog 74 = some (.agg #[.pointer none, .slice none 0 0]) := by kernel_rfl
@[go_sem] theorem Tryz.afi74_0 : fieldInfo Tryz.prog 74 0 = some (0, 1, false) := by kernel_rfl
@[go_sem] theorem Tryz.afi74_1 : fieldInfo Tryz.prog 74 1 = some (1, 1, false) := by kernel_rfl
@[go_sem] theorem Tryz.abi74 : buildInfo Tryz.prog 74 = some ([(0, 1), (1, 1)], 0, [.pointer none, .slice none 0 0]) := by kernel_rfl
@[go_sem] theorem Tryz.aty75 : typeOf Tryz.prog 75 = some (2, true) := by kernel_rfl
@[go_sem] theorem Tryz.aze75 : zeroOf Tryz.prog 75 = some (.agg #[.pointer none, .slice none 0 0]) := by kernel_rfl
@[go_sem] theorem Tryz.afi75_0 : fieldInfo Tryz.prog 75 0 = some (0, 2, true) := by kernel_rfl
@[go_sem] theorem Tryz.abi75 : buildInfo Tryz.prog 75 = some ([(0, 2)], 0, [.pointer none, .slice none 0 0]) := by kernel_rfl
@[go_sem] theorem Tryz.aty76 : typeOf Tryz.prog 76 = some (2, true) := by kernel_rfl
@[go_sem] theorem Tryz.aze76 : zeroOf Tryz.prog 76 = some (.agg #[.pointer none, .slice none 0 0]) := by kernel_rfl
@[go_sem] theorem Tryz.afi76_0 : fieldInfo Tryz.prog 76 0 = some (0, 2, true) := by kernel_rfl
@[go_sem] theorem Tryz.abi76 : buildInfo Tryz.prog 76 = some ([(0, 2)], 0, [.pointer none, .slice none 0 0]) := by kernel_rfl
@[go_sem] theorem Tryz.aty77 : typeOf Tryz.prog 77 = some (1, false) := by kernel_rfl
@[go_sem] theorem Tryz.aze77 : zeroOf Tryz.prog 77 = some (.nilFunc) := by kernel_rfl
@[go_sem] theorem Tryz.aty78 : typeOf Tryz.prog 78 = some (1, false) := by kernel_rfl
@[go_sem] theorem Tryz.aze78 : zeroOf Tryz.prog 78 = some (.nilFunc) := by kernel_rfl
@[go_sem] theorem Tryz.aty79 : typeOf Tryz.prog 79 = some (1, false) := by kernel_rfl
@[go_sem] theorem Tryz.aze79 : zeroOf Tryz.prog 79 = some (.nilFunc) := by kernel_rfl
@[go_sem] theorem Tryz.aty80 : typeOf Tryz.prog 80 = some (3, true) := by kernel_rfl
@[go_sem] theorem Tryz.aze80 : zeroOf Tryz.prog 80 = some (.agg #[.string ⟨#[]⟩, .int .i64 0, .slice none 0 0]) := by kernel_rfl
@[go_sem] theorem Tryz.afi80_0 : fieldInfo Tryz.prog 80 0 = some (0, 1, false) := by kernel_rfl
@[go_sem] theorem Tryz.afi80_1 : fieldInfo Tryz.prog 80 1 = some (1, 1, false) := by kernel_rfl
@[go_sem] theorem Tryz.afi80_2 : fieldInfo Tryz.prog 80 2 = some (2, 1, false) := by kernel_rfl
@[go_sem] theorem Tryz.abi80 : buildInfo Tryz.prog 80 = some ([(0, 1), (1, 1), (2, 1)], 0, [.string ⟨#[]⟩, .int .i64 0, .slice none 0 0]) := by kernel_rfl
@[go_sem] theorem Tryz.aty81 : typeOf Tryz.prog 81 = some (3, true) := by kernel_rfl
@[go_sem] theorem Tryz.api81 : appInfo Tryz.prog 81 = some (3, 48) := by kernel_rfl
@[go_sem] theorem Tryz.aze81 : zeroOf Tryz.prog 81 = some (.agg #[.string ⟨#[]⟩, .int .i64 0, .slice none 0 0]) := by kernel_rfl
@[go_sem] theorem Tryz.afi81_0 : fieldInfo Tryz.prog 81 0 = some (0, 1, false) := by kernel_rfl
@[go_sem] theorem Tryz.afi81_1 : fieldInfo Tryz.prog 81 1 = some (1, 1, false) := by kernel_rfl
@[go_sem] theorem Tryz.afi81_2 : fieldInfo Tryz.prog 81 2 = some (2, 1, false) := by kernel_rfl
@[go_sem] theorem Tryz.abi81 : buildInfo Tryz.prog 81 = some ([(0, 1), (1, 1), (2, 1)], 0, [.string ⟨#[]⟩, .int .i64 0, .slice none 0 0]) := by kernel_rfl
@[go_sem] theorem Tryz.aty82 : typeOf Tryz.prog 82 = some (1, false) := by kernel_rfl
@[go_sem] theorem Tryz.aze82 : zeroOf Tryz.prog 82 = some (.nilFunc) := by kernel_rfl
@[go_sem] theorem Tryz.aty83 : typeOf Tryz.prog 83 = some (1, false) := by kernel_rfl
@[go_sem] theorem Tryz.aze83 : zeroOf Tryz.prog 83 = some (.nilFunc) := by kernel_rfl
@[go_sem] theorem Tryz.aty84 : typeOf Tryz.prog 84 = some (1, false) := by kernel_rfl
@[go_sem] theorem Tryz.aze84 : zeroOf Tryz.prog 84 = some (.nilFunc) := by kernel_rfl
@[go_sem] theorem Tryz.aty85 : typeOf Tryz.prog 85 = some (1, false) := by kernel_rfl
@[go_sem] theorem Tryz.aze85 : zeroOf Tryz.prog 85 = some (.int .u64 0) := by kernel_rfl
@[go_sem] theorem Tryz.aty86 : typeOf Tryz.prog 86 = some (1, false) := by kernel_rfl
@[go_sem] theorem Tryz.aze86 : zeroOf Tryz.prog 86 = some (.nilFunc) := by kernel_rfl
@[go_sem] theorem Tryz.aty87 : typeOf Tryz.prog 87 = some (1, false) := by kernel_rfl
@[go_sem] theorem Tryz.aze87 : zeroOf Tryz.prog 87 = some (.nilFunc) := by kernel_rfl
@[go_sem] theorem Tryz.aty88 : typeOf Tryz.prog 88 = some (1, false) := by kernel_rfl
@[go_sem] theorem Tryz.aze88 : zeroOf Tryz.prog 88 = some (.nilFunc) := by kernel_rfl
@[go_sem] theorem Tryz.aty89 : typeOf Tryz.prog 89 = some (1, false) := by kernel_rfl
@[go_sem] theorem Tryz.aze89 : zeroOf Tryz.prog 89 = some (.nilFunc) := by kernel_rfl
@[go_sem] theorem Tryz.aty90 : typeOf Tryz.prog 90 = some (1, false) := by kernel_rfl
@[go_sem] theorem Tryz.aze90 : zeroOf Tryz.prog 90 = some (.pointer none) := by kernel_rfl
@[go_sem] theorem Tryz.aty91 : typeOf Tryz.prog 91 = some (1, false) := by kernel_rfl
@[go_sem] theorem Tryz.aze91 : zeroOf Tryz.prog 91 = some (.nilIface) := by kernel_rfl
@[go_sem] theorem Tryz.aty92 : typeOf Tryz.prog 92 = some (1, false) := by kernel_rfl
@[go_sem] theorem Tryz.aze92 : zeroOf Tryz.prog 92 = some (.nilIface) := by kernel_rfl
@[go_sem] theorem Tryz.aty94 : typeOf Tryz.prog 94 = some (1, false) := by kernel_rfl
@[go_sem] theorem Tryz.aze94 : zeroOf Tryz.prog 94 = some (.nilFunc) := by kernel_rfl
@[go_sem] theorem Tryz.aty95 : typeOf Tryz.prog 95 = some (1, false) := by kernel_rfl
@[go_sem] theorem Tryz.aze95 : zeroOf Tryz.prog 95 = some (.pointer none) := by kernel_rfl
@[go_sem] theorem Tryz.aty96 : typeOf Tryz.prog 96 = some (1, false) := by kernel_rfl
@[go_sem] theorem Tryz.aze96 : zeroOf Tryz.prog 96 = some (.nilFunc) := by kernel_rfl
@[go_sem] theorem Tryz.aty97 : typeOf Tryz.prog 97 = some (1, false) := by kernel_rfl
@[go_sem] theorem Tryz.aze97 : zeroOf Tryz.prog 97 = some (.int .i64 0) := by kernel_rfl
@[go_sem] theorem Tryz.aty99 : typeOf Tryz.prog 99 = some (1, false) := by kernel_rfl
@[go_sem] theorem Tryz.aze99 : zeroOf Tryz.prog 99 = some (.nilFunc) := by kernel_rfl
@[go_sem] theorem Tryz.aty100 : typeOf Tryz.prog 100 = some (1, false) := by kernel_rfl
@[go_sem] theorem Tryz.aze100 : zeroOf Tryz.prog 100 = some (.nilFunc) := by kernel_rfl
@[go_sem] theorem Tryz.aty101 : typeOf Tryz.prog 101 = some (1, false) := by kernel_rfl
@[go_sem] theorem Tryz.aze101 : zeroOf Tryz.prog 101 = some (.nilFunc) := by kernel_rfl
@[go_sem] theorem Tryz.aty103 : typeOf Tryz.prog 103 = some (1, false) := by kernel_rfl
@[go_sem] theorem Tryz.aze103 : zeroOf Tryz.prog 103 = some (.nilFunc) := by kernel_rfl
@[go_sem] theorem Tryz.aty104 : typeOf Tryz.prog 104 = some (1, false) := by kernel_rfl
@[go_sem] theorem Tryz.aze104 : zeroOf Tryz.prog 104 = some (.nilFunc) := by kernel_rfl
@[go_sem] theorem Tryz.aty105 : typeOf Tryz.prog 105 = some (1, false) := by kernel_rfl
@[go_sem] theorem Tryz.aze105 : zeroOf Tryz.prog 105 = some (.int .u32 0) := by kernel_rfl
@[go_sem] theorem Tryz.aty106 : typeOf Tryz.prog 106 = some (1, false) := by kernel_rfl
@[go_sem] theorem Tryz.aze106 : zeroOf Tryz.prog 106 = some (.nilFunc) := by kernel_rfl
@[go_sem] theorem Tryz.aty107 : typeOf Tryz.prog 107 = some (1, false) := by kernel_rfl
@[go_sem] theorem Tryz.aze107 : zeroOf Tryz.prog 107 = some (.int .u64 0) := by kernel_rfl
@[go_sem] theorem Tryz.aty108 : typeOf Tryz.prog 108 = some (1, false) := by kernel_rfl
@[go_sem] theorem Tryz.aze108 : zeroOf Tryz.prog 108 = some (.nilFunc) := by kernel_rfl
@[go_sem] theorem Tryz.aty109 : typeOf Tryz.prog 109 = some (1, false) := by kernel_rfl
@[go_sem] theorem Tryz.aze109 : zeroOf Tryz.prog 109 = some (.nilFunc) := by kernel_rfl
@[go_sem] theorem Tryz.aty110 : typeOf Tryz.prog 110 = some (1, false) := by kernel_rfl
@[go_sem] theorem Tryz.aze110 : zeroOf Tryz.prog 110 = some (.nilFunc) := by kernel_rfl
@[go_sem] theorem Tryz.aty111 : typeOf Tryz.prog 111 = some (1, false) := by kernel_rfl
@[go_sem] theorem Tryz.aze111 : zeroOf Tryz.prog 111 = some (.nilFunc) := by kernel_rfl
@[go_sem] theorem Tryz.aty112 : typeOf Tryz.prog 112 = some (1, false) := by kernel_rfl
@[go_sem] theorem Tryz.aze112 : zeroOf Tryz.prog 112 = some (.nilFunc) := by kernel_rfl
@[go_sem] theorem Tryz.aty113 : typeOf Tryz.prog 113 = some (1, false) := by kernel_rfl
@[go_sem] theorem Tryz.aze113 : zeroOf Tryz.prog 113 = some (.nilFunc) := by kernel_rfl
@[go_sem] theorem Tryz.aty114 : typeOf Tryz.prog 114 = some (1, false) := by kernel_rfl
@[go_sem] theorem Tryz.aze114 : zeroOf Tryz.prog 114 = some (.nilFunc) := by kernel_rfl
@[go_sem] theorem Tryz.aty115 : typeOf Tryz.prog 115 = some (1, false) := by kernel_rfl
@[go_sem] theorem Tryz.aze115 : zeroOf Tryz.prog 115 = some (.nilFunc) := by kernel_rfl
@[go_sem] theorem Tryz.aty116 : typeOf Tryz.prog 116 = some (1, false) := by kernel_rfl
@[go_sem] theorem Tryz.aze116 : zeroOf Tryz.prog 116 = some (.nilFunc) := by kernel_rfl
@[go_sem] theorem Tryz.aty117 : typeOf Tryz.prog 117 = some (1, false) := by kernel_rfl
@[go_sem] theorem Tryz.aze117 : zeroOf Tryz.prog 117 = some (.nilFunc) := by kernel_rfl
@[go_sem] theorem Tryz.aty118 : typeOf Tryz.prog 118 = some (1, false) := by kernel_rfl
@[go_sem] theorem Tryz.aze118 : zeroOf Tryz.prog 118 = some (.nilFunc) := by kernel_rfl
@[go_sem] theorem Tryz.aty119 : typeOf Tryz.prog 119 = some (1, false) := by kernel_rfl
@[go_sem] theorem Tryz.aze119 : zeroOf Tryz.prog 119 = some (.nilFunc) := by kernel_rfl
@[go_sem] theorem Tryz.aty120 : typeOf Tryz.prog 120 = some (1, false) := by kernel_rfl
@[go_sem] theorem Tryz.aze120 : zeroOf Tryz.prog 120 = some (.int .u64 0) := by kernel_rfl
@[go_sem] theorem Tryz.aty121 : typeOf Tryz.prog 121 = some (1, false) := by kernel_rfl
@[go_sem] theorem Tryz.aze121 : zeroOf Tryz.prog 121 = some (.nilFunc) := by kernel_rfl
@[go_sem] theorem Tryz.aty122 : typeOf Tryz.prog 122 = some (1, false) := by kernel_rfl
@[go_sem] theorem Tryz.aze122 : zeroOf Tryz.prog 122 = some (.nilFunc) := by kernel_rfl
@[go_sem] theorem Tryz.aty123 : typeOf Tryz.prog 123 = some (1, false) := by kernel_rfl
@[go_sem] theorem Tryz.aze123 : zeroOf Tryz.prog 123 = some (.nilFunc) := by kernel_rfl
@[go_sem] theorem Tryz.aty124 : typeOf Tryz.prog 124 = some (1, false) := by kernel_rfl
@[go_sem] theorem Tryz.aze124 : zeroOf Tryz.prog 124 = some (.pointer none) := by kernel_rfl
@[go_sem] theorem Tryz.aty125 : typeOf Tryz.prog 125 = some (1, false) := by kernel_rfl
@[go_sem] theorem Tryz.aze125 : zeroOf Tryz.prog 125 = some (.nilFunc) := by kernel_rfl
@[go_sem] theorem Tryz.aty126 : typeOf Tryz.prog 126 = some (1, false) := by kernel_rfl
@[go_sem] theorem Tryz.aze126 : zeroOf Tryz.prog 126 = some (.nilFunc) := by kernel_rfl
@[go_sem] theorem Tryz.aty127 : typeOf Tryz.prog 127 = some (1, false) := by kernel_rfl
@[go_sem] theorem Tryz.aze127 : zeroOf Tryz.prog 127 = some (.nilFunc) := by kernel_rfl
@[go_sem] theorem Tryz.aty128 : typeOf Tryz.prog 128 = some (1, false) := by kernel_rfl
@[go_sem] theorem Tryz.aze128 : zeroOf Tryz.prog 128 = some (.nilFunc) := by kernel_rfl
@[go_sem] theorem Tryz.aty129 : typeOf Tryz.prog 129 = some (1, false) := by kernel_rfl
@[go_sem] theorem Tryz.aze129 : zeroOf Tryz.prog 129 = some (.nilFunc) := by kernel_rfl
@[go_sem] theorem Tryz.aty130 : typeOf Tryz.prog 130 = some (1, false) := by kernel_rfl
@[go_sem] theorem Tryz.aze130 : zeroOf Tryz.prog 130 = some (.nilFunc) := by kernel_rfl
@[go_sem] theorem Tryz.aty131 : typeOf Tryz.prog 131 = some (1, false) := by kernel_rfl
@[go_sem] theorem Tryz.aze131 : zeroOf Tryz.prog 131 = some (.pointer none) := by kernel_rfl
@[go_sem] theorem Tryz.aty132 : typeOf Tryz.prog 132 = some (1, false) := by kernel_rfl
@[go_sem] theorem Tryz.aze132 : zeroOf Tryz.prog 132 = some (.nilFunc) := by kernel_rfl
@[go_sem] theorem Tryz.aty133 : typeOf Tryz.prog 133 = some (1, false) := by kernel_rfl
@[go_sem] theorem Tryz.aze133 : zeroOf Tryz.prog 133 = some (.pointer none) := by kernel_rfl
@[go_sem] theorem Tryz.aty135 : typeOf Tryz.prog 135 = some (1, false) := by kernel_rfl
@[go_sem] theorem Tryz.aze135 : zeroOf Tryz.prog 135 = some (.nilFunc) := by kernel_rfl
@[go_sem] theorem Tryz.aty136 : typeOf Tryz.prog 136 = some (1, false) := by kernel_rfl
@[go_sem] theorem Tryz.aze136 : zeroOf Tryz.prog 136 = some (.nilFunc) := by kernel_rfl
@[go_sem] theorem Tryz.aty137 : typeOf Tryz.prog 137 = some (1, false) := by kernel_rfl
@[go_sem] theorem Tryz.aze137 : zeroOf Tryz.prog 137 = some (.nilFunc) := by kernel_rfl
@[go_sem] theorem Tryz.aty138 : typeOf Tryz.prog 138 = some (1, false) := by kernel_rfl
@[go_sem] theorem Tryz.aze138 : zeroOf Tryz.prog 138 = some (.nilFunc) := by kernel_rfl
@[go_sem] theorem Tryz.aty139 : typeOf Tryz.prog 139 = some (24, true) := by kernel_rfl
@[go_sem] theorem Tryz.ais139 : isStringT Tryz.prog 139 = false := by kernel_rfl
@[go_sem] theorem Tryz.aal139 : arrayLen Tryz.prog 139 = some (24, 5) := by kernel_rfl
@[go_sem] theorem Tryz.aze139 : zeroOf Tryz.prog 139 = some (.agg #[.int .u8 0, .int .u8 0, .int .u8 0, .int .u8 0, .int .u8 0, .int .u8 0, .int .u8 0, .int .u8 0, .int .u8 0, .int .u8 0, .int .u8 0, .int .u8 0, .int .u8 0, .int .u8 0, .int .u8 0, .int .u8 0, .int .u8 0, .int .u8 0, .int .u8 0, .int .u8 0, .int .u8 0, .int .u8 0, .int .u8 0, .int .u8 0]) := by kernel_rfl
@[go_sem] theorem Tryz.abi139 : buildInfo Tryz.prog 139 = some ([], 1, [.int .u8 0, .int .u8 0, .int .u8 0, .int .u8 0, .int .u8 0, .int .u8 0, .int .u8 0, .int .u8 0, .int .u8 0, .int .u8 0, .int .u8 0, .int .u8 0, .int .u8 0, .int .u8 0, .int .u8 0, .int .u8 0, .int .u8 0, .int .u8 0, .int .u8 0, .int .u8 0, .int .u8 0, .int .u8 0, .int .u8 0, .int .u8 0]) := by kernel_rfl
@[go_sem] theorem Tryz.aty140 : typeOf Tryz.prog 140 = some (1, false) := by kernel_rfl
@[go_sem] theorem Tryz.aze140 : zeroOf Tryz.prog 140 = some (.nilFunc) := by kernel_rfl
@[go_sem] theorem Tryz.aty142 : typeOf Tryz.prog 142 = some (1, false) := by kernel_rfl
@[go_sem] theorem Tryz.aze142 : zeroOf Tryz.prog 142 = some (.nilFunc) := by kernel_rfl
@[go_sem] theorem Tryz.aty143 : typeOf Tryz.prog 143 = some (1, false) := by kernel_rfl
@[go_sem] theorem Tryz.aze143 : zeroOf Tryz.prog 143 = some (.nilFunc) := by kernel_rfl
@[go_sem] theorem Tryz.aty144 : typeOf Tryz.prog 144 = some (1, false) := by kernel_rfl
@[go_sem] theorem Tryz.aze144 : zeroOf Tryz.prog 144 = some (.nilFunc) := by kernel_rfl
@[go_sem] theorem Tryz.aty145 : typeOf Tryz.prog 145 = some (20, true) := by kernel_rfl
@[go_sem] theorem Tryz.ais145 : isStringT Tryz.prog 145 = false := by kernel_rfl
@[go_sem] theorem Tryz.aal145 : arrayLen Tryz.prog 145 = some (20, 107) := by kernel_rfl
@[go_sem] theorem Tryz.aze145 : zeroOf Tryz.prog 145 = some (.agg #[.int .u64 0, .int .u64 0, .int .u64 0, .int .u64 0, .int .u64 0, .int .u64 0, .int .u64 0, .int .u64 0, .int .u64 0, .int .u64 0, .int .u64 0, .int .u64 0, .int .u64 0, .int .u64 0, .int .u64 0, .int .u64 0, .int .u64 0, .int .u64 0, .int .u64 0, .int .u64 0]) := by kernel_rfl
@[go_sem] theorem Tryz.abi145 : buildInfo Tryz.prog 145 = some ([], 1, [.int .u64 0, .int .u64 0, .int .u64 0, .int .u64 0, .int .u64 0, .int .u64 0, .int .u64 0, .int .u64 0, .int .u64 0, .int .u64 0, .int .u64 0, .int .u64 0, .int .u64 0, .int .u64 0, .int .u64 0, .int .u64 0, .int .u64 0, .int .u64 0, .int .u64 0, .int .u64 0]) := by kernel_rfl
@[go_sem] theorem Tryz.aty146 : typeOf Tryz.prog 146 = some (65, true) := by kernel_rfl
@[go_sem] theorem Tryz.ais146 : isStringT Tryz.prog 146 = false := by kernel_rfl
@[go_sem] theorem Tryz.aal146 : arrayLen Tryz.prog 146 = some (65, 5) := by kernel_rfl
@[go_sem] theorem Tryz.aze146 : zeroOf Tryz.prog 146 = some (.agg #[.int .u8 0, .int .u8 0, .int .u8 0, .int .u8 0, .int .u8 0, .int .u8 0, .int .u8 0, .int .u8 0, .int .u8 0, .int .u8 0, .int .u8 0, .int .u8 0, .int .u8 0, .int .u8 0, .int .u8 0, .int .u8 0, .int .u8 0, .int .u8 0, .int .u8 0, .int .u8 0, .int .u8 0, .int .u8 0, .int .u8 0, .int .u8 0, .int .u8 0, .int .u8 0, .int .u8 0, .int .u8 0, .int .u8 0, .int .u8 0, .int .u8 0, .int .u8 0, .int .u8 0, .int .u8 0, .int .u8 0, .int .u8 0, .int .u8 0, .int .u8 0, .int .u8 0, .int .u8 0, .int .u8 0, .int .u8 0, .int .u8 0, .int .u8 0, .int .u8 0, .int .u8 0, .int .u8 0, .int .u8 0, .int .u8 0, .int .u8 0, .int .u8 0, .int .u8 0, .int .u8 0, .int .u8 0, .int .u8 0, .int .u8 0, .int .u8 0, .int .u8 0, .int .u8 0, .int .u8 0, .int .u8 0, .int .u8 0, .int .u8 0, .int .u8 0, .int .u8 0]) := by kernel_rfl
@[go_sem] theorem Tryz.aty147 : typeOf Tryz.prog 147 = some (32, true) := by kernel_rfl
@[go_sem] theorem Tryz.ais147 : isStringT Tryz.prog 147 = false := by kernel_rfl
@[go_sem] theorem Tryz.aal147 : arrayLen Tryz.prog 147 = some (32, 5) := by kernel_rfl
@[go_sem] theorem Tryz.aze147 : zeroOf Tryz.prog 147 = some (.agg #[.int .u8 0, .int .u8 0, .int .u8 0, .int .u8 0, .int .u8 0, .int .u8 0, .int .u8 0, .int .u8 0, .int .u8 0, .int .u8 0, .int .u8 0, .int .u8 0, .int .u8 0, .int .u8 0, .int .u8 0, .int .u8 0, .int .u8 0, .int .u8 0, .int .u8 0, .int .u8 0, .int .u8 0, .int .u8 0, .int .u8 0, .int .u8 0, .int .u8 0, .int .u8 0, .int .u8 0, .int .u8 0, .int .u8 0, .int .u8 0, .int .u8 0, .int .u8 0]) := by kernel_rfl
@[go_sem] theorem Tryz.abi147 : buildInfo Tryz.prog 147 = some ([], 1, [.int .u8 0, .int .u8 0, .int .u8 0, .int .u8 0, .int .u8 0, .int .u8 0, .int .u8 0, .int .u8 0, .int .u8 0, .int .u8 0, .int .u8 0, .int .u8 0, .int .u8 0, .int .u8 0, .int .u8 0, .int .u8 0, .int .u8 0, .int .u8 0, .int .u8 0, .int .u8 0, .int .u8 0, .int .u8 0, .int .u8 0, .int .u8 0, .int .u8 0, .int .u8 0, .int .u8 0, .int .u8 0, .int .u8 0, .int .u8 0, .int .u8 0, .int .u8 0]) := by kernel_rfl
@[go_sem] theorem Tryz.aty148 : typeOf Tryz.prog 148 = some (64, true) := by kernel_rfl
@[go_sem] theorem Tryz.ais148 : isStringT Tryz.prog 148 = false := by kernel_rfl
@[go_sem] theorem Tryz.aal148 : arrayLen Tryz.prog 148 = some (64, 5) := by kernel_rfl
@[go_sem] theorem Tryz.aze148 : zeroOf Tryz.prog 148 = some (.agg #[.int .u8 0, .int .u8 0, .int .u8 0, .int .u8 0, .int .u8 0, .int .u8 0, .int .u8 0, .int .u8 0, .int .u8 0, .int .u8 0, .int .u8 0, .int .u8 0, .int .u8 0, .int .u8 0, .int .u8 0, .int .u8 0, .int .u8 0, .int .u8 0, .int .u8 0, .int .u8 0, .int .u8 0, .int .u8 0, .int .u8 0, .int .u8 0, .int .u8 0, .int .u8 0, .int .u8 0, .int .u8 0, .int .u8 0, .int .u8 0, .int .u8 0, .int .u8 0, .int .u8 0, .int .u8 0, .int .u8 0, .int .u8 0, .int .u8 0, .int .u8 0, .int .u8 0, .int .u8 0, .int .u8 0, .int .u8 0, .int .u8 0, .int .u8 0, .int .u8 0, .int .u8 0, .int .u8 0, .int .u8 0, .int .u8 0, .int .u8 0, .int .u8 0, .int .u8 0, .int .u8 0, .int .u8 0, .int .u8 0, .int .u8 0, .int .u8 0, .int .u8 0, .int .u8 0, .int .u8 0, .int .u8 0, .int .u8 0, .int .u8 0, .int .u8 0]) := by kernel_rfl
@[go_sem] theorem Tryz.abi148 : buildInfo Tryz.prog 148 = some ([], 1, [.int .u8 0, .int .u8 0, .int .u8 0, .int .u8 0, .int .u8 0, .int .u8 0, .int .u8 0, .int .u8 0, .int .u8 0, .int .u8 0, .int .u8 0, .int .u8 0, .int .u8 0, .int .u8 0, .int .u8 0, .int .u8 0, .int .u8 0, .int .u8 0, .int .u8 0, .int .u8 0, .int .u8 0, .int .u8 0, .int .u8 0, .int .u8 0, .int .u8 0, .int .u8 0, .int .u8 0, .int .u8 0, .int .u8 0, .int .u8 0, .int .u8 0, .int .u8 0, .int .u8 0, .int .u8 0, .int .u8 0, .int .u8 0, .int .u8 0, .int .u8 0, .int .u8 0, .int .u8 0, .int .u8 0, .int .u8 0, .int .u8 0, .int .u8 0, .int .u8 0, .int .u8 0, .int .u8 0, .int .u8 0, .int .u8 0, .int .u8 0, .int .u8 0, .int .u8 0, .int .u8 0, .int .u8 0, .int .u8 0, .int .u8 0, .int .u8 0, .int .u8 0, .int .u8 0, .int .u8 0, .int .u8 0, .int .u8 0, .int .u8 0, .int .u8 0]) := by kernel_rfl
@[go_sem] theorem Tryz.aty149 : typeOf Tryz.prog 149 = some (4, true) := by kernel_rfl
@[go_sem] theorem Tryz.aze149 : zeroOf Tryz.prog 149 = some (.agg #[.pointer none, .pointer none, .pointer none, .string ⟨#[]⟩]) := by kernel_rfl
@[go_sem] theorem Tryz.afi149_0 : fieldInfo Tryz.prog 149 0 = some (0, 1, false) := by kernel_rfl
@[go_sem] theorem Tryz.afi149_1 : fieldInfo Tryz.prog 149 1 = some (1, 1, false) := by kernel_rfl
@[go_sem] theorem Tryz.afi149_2 : fieldInfo Tryz.prog 149 2 = some (2, 1, false) := by kernel_rfl
@[go_sem] theorem Tryz.afi149_3 : fieldInfo Tryz.prog 149 3 = some (3, 1, false) := by kernel_rfl
@[go_sem] theorem Tryz.abi149 : buildInfo Tryz.prog 149 = some ([(0, 1), (1, 1), (2, 1), (3, 1)], 0, [.pointer none, .pointer none, .pointer none, .string ⟨#[]⟩]) := by kernel_rfl
@[go_sem] theorem Tryz.aty150 : typeOf Tryz.prog 150 = some (4, true) := by kernel_rfl
@[go_sem] theorem Tryz.aze150 : zeroOf Tryz.prog 150 = some (.agg #[.pointer none, .pointer none, .pointer none, .string ⟨#[]⟩]) := by kernel_rfl
@[go_sem] theorem Tryz.afi150_0 : fieldInfo Tryz.prog 150 0 = some (0, 1, false) := by kernel_rfl
@[go_sem] theorem Tryz.afi150_1 : fieldInfo Tryz.prog 150 1 = some (1, 1, false) := by kernel_rfl
@[go_sem] theorem Tryz.afi150_2 : fieldInfo Tryz.prog 150 2 = some (2, 1, false) := by kernel_rfl
@[go_sem] theorem Tryz.afi150_3 : fieldInfo Tryz.prog 150 3 = some (3, 1, false) := by kernel_rfl
@[go_sem] theorem Tryz.abi150 : buildInfo Tryz.prog 150 = some ([(0, 1), (1, 1), (2, 1), (3, 1)], 0, [.pointer none, .pointer none, .pointer none, .string ⟨#[]⟩]) := by kernel_rfl
@[go_sem] theorem Tryz.aty151 : typeOf Tryz.prog 151 = some (0, true) := by kernel_rfl
@[go_sem] theorem Tryz.ais151 : isStringT Tryz.prog 151 = false := by kernel_rfl
@[go_sem] theorem Tryz.aal151 : arrayLen Tryz.prog 151 = some (0, 16) := by kernel_rfl
@[go_sem] theorem Tryz.aze151 : zeroOf Tryz.prog 151 = some (.agg #[]) := by kernel_rfl
@[go_sem] theorem Tryz.abi151 : buildInfo Tryz.prog 151 = some ([], 1, []) := by kernel_rfl
@[go_sem] theorem Tryz.aty152 : typeOf Tryz.prog 152 = some (0, true) := by kernel_rfl
@[go_sem] theorem Tryz.aze152 : zeroOf Tryz.prog 152 = some (.agg #[]) := by kernel_rfl
@[go_sem] theorem Tryz.afi152_0 : fieldInfo Tryz.prog 152 0 = some (0, 0, true) := by kernel_rfl
@[go_sem] theorem Tryz.abi152 : buildInfo Tryz.prog 152 = some ([(0, 0)], 0, []) := by kernel_rfl
@[go_sem] theorem Tryz.aty153 : typeOf Tryz.prog 153 = some (0, true) := by kernel_rfl
@[go_sem] theorem Tryz.aze153 : zeroOf Tryz.prog 153 = some (.agg #[]) := by kernel_rfl
@[go_sem] theorem Tryz.afi153_0 : fieldInfo Tryz.prog 153 0 = some (0, 0, true) := by kernel_rfl
@[go_sem] theorem Tryz.abi153 : buildInfo Tryz.prog 153 = some ([(0, 0)], 0, []) := by kernel_rfl
@[go_sem] theorem Tryz.aty154 : typeOf Tryz.prog 154 = some (1, false) := by kernel_rfl
@[go_sem] theorem Tryz.aze154 : zeroOf Tryz.prog 154 = some (.nilFunc) := by kernel_rfl
@[go_sem] theorem Tryz.aty155 : typeOf Tryz.prog 155 = some (1, false) := by kernel_rfl
@[go_sem] theorem Tryz.aze155 : zeroOf Tryz.prog 155 = some (.int .u8 0) := by kernel_rfl
@[go_sem] theorem Tryz.aty156 : typeOf Tryz.prog 156 = some (1, false) := by kernel_rfl
@[go_sem] theorem Tryz.aze156 : zeroOf Tryz.prog 156 = some (.int .u8 0) := by kernel_rfl
@[go_sem] theorem Tryz.aty157 : typeOf Tryz.prog 157 = some (1, false) := by kernel_rfl
@[go_sem] theorem Tryz.aze157 : zeroOf Tryz.prog 157 = some (.nilFunc) := by kernel_rfl
@[go_sem] theorem Tryz.aty158 : typeOf Tryz.prog 158 = some (1, false) := by kernel_rfl
@[go_sem] theorem Tryz.aze158 : zeroOf Tryz.prog 158 = some (.int .i32 0) := by kernel_rfl
@[go_sem] theorem Tryz.aty159 : typeOf Tryz.prog 159 = some (1, false) := by kernel_rfl
@[go_sem] theorem Tryz.aze159 : zeroOf Tryz.prog 159 = some (.int .i32 0) := by kernel_rfl
@[go_sem] theorem Tryz.aty160 : typeOf Tryz.prog 160 = some (11, true) := by kernel_rfl
@[go_sem] theorem Tryz.aze160 : zeroOf Tryz.prog 160 = some (.agg #[.int .u64 0, .int .u64 0, .int .u32 0, .int .u8 0, .int .u8 0, .int .u8 0, .int .u8 0, .nilFunc, .pointer none, .int .i32 0, .int .i32 0]) := by kernel_rfl
@[go_sem] theorem Tryz.afi160_0 : fieldInfo Tryz.prog 160 0 = some (0, 1, false) := by kernel_rfl
@[go_sem] theorem Tryz.afi160_1 : fieldInfo Tryz.prog 160 1 = some (1, 1, false) := by kernel_rfl
@[go_sem] theorem Tryz.afi160_2 : fieldInfo Tryz.prog 160 2 = some (2, 1, false) := by kernel_rfl
@[go_sem] theorem Tryz.afi160_3 : fieldInfo Tryz.prog 160 3 = some (3, 1, false) := by kernel_rfl
@[go_sem] theorem Tryz.afi160_4 : fieldInfo Tryz.prog 160 4 = some (4, 1, false) := by kernel_rfl
@[go_sem] theorem Tryz.afi160_5 : fieldInfo Tryz.prog 160 5 = some (5, 1, false) := by kernel_rfl
@[go_sem] theorem Tryz.afi160_6 : fieldInfo Tryz.prog 160 6 = some (6, 1, false) := by kernel_rfl
@[go_sem] theorem Tryz.afi160_7 : fieldInfo Tryz.prog 160 7 = some (7, 1, false) := by kernel_rfl
@[go_sem] theorem Tryz.afi160_8 : fieldInfo Tryz.prog 160 8 = some (8, 1, false) := by kernel_rfl
@[go_sem] theorem Tryz.afi160_9 : fieldInfo Tryz.prog 160 9 = some (9, 1, false) := by kernel_rfl
@[go_sem] theorem Tryz.afi160_10 : fieldInfo Tryz.prog 160 10 = some (10, 1, false) := by kernel_rfl
@[go_sem] theorem Tryz.abi160 : buildInfo Tryz.prog 160 = some ([(0, 1), (1, 1), (2, 1), (3, 1), (4, 1), (5, 1), (6, 1), (7, 1), (8, 1), (9, 1), (10, 1)], 0, [.int .u64 0, .int .u64 0, .int .u32 0, .int .u8 0, .int .u8 0, .int .u8 0, .int .u8 0, .nilFunc, .pointer none, .int .i32 0, .int .i32 0]) := by kernel_rfl
@[go_sem] theorem Tryz.aty161 : typeOf Tryz.prog 161 = some (11, true) := by kernel_rfl
@[go_sem] theorem Tryz.aze161 : zeroOf Tryz.prog 161 = some (.agg #[.int .u64 0, .int .u64 0, .int .u32 0, .int .u8 0, .int .u8 0, .int .u8 0, .int .u8 0, .nilFunc, .pointer none, .int .i32 0, .int .i32 0]) := by kernel_rfl
@[go_sem] theorem Tryz.afi161_0 : fieldInfo Tryz.prog 161 0 = some (0, 1, false) := by kernel_rfl
@[go_sem] theorem Tryz.afi161_1 : fieldInfo Tryz.prog 161 1 = some (1, 1, false) := by kernel_rfl
@[go_sem] theorem Tryz.afi161_2 : fieldInfo Tryz.prog 161 2 = some (2, 1, false) := by kernel_rfl
@[go_sem] theorem Tryz.afi161_3 : fieldInfo Tryz.prog 161 3 = some (3, 1, false) := by kernel_rfl
@[go_sem] theorem Tryz.afi161_4 : fieldInfo Tryz.prog 161 4 = some (4, 1, false) := by kernel_rfl
@[go_sem] theorem Tryz.afi161_5 : fieldInfo Tryz.prog 161 5 = some (5, 1, false) := by kernel_rfl
@[go_sem] theorem Tryz.afi161_6 : fieldInfo Tryz.prog 161 6 = some (6, 1, false) := by kernel_rfl
@[go_sem] theorem Tryz.afi161_7 : fieldInfo Tryz.prog 161 7 = some (7, 1, false) := by kernel_rfl
@[go_sem] theorem Tryz.afi161_8 : fieldInfo Tryz.prog 161 8 = some (8, 1, false) := by kernel_rfl
@[go_sem] theorem Tryz.afi161_9 : fieldInfo Tryz.prog 161 9 = some (9, 1, false) := by kernel_rfl
@[go_sem] theorem Tryz.afi161_10 : fieldInfo Tryz.prog 161 10 = some (10, 1, false) := by kernel_rfl
@[go_sem] theorem Tryz.abi161 : buildInfo Tryz.prog 161 = some ([(0, 1), (1, 1), (2, 1), (3, 1), (4, 1), (5, 1), (6, 1), (7, 1), (8, 1), (9, 1), (10, 1)], 0, [.int .u64 0, .int .u64 0, .int .u32 0, .int .u8 0, .int .u8 0, .int .u8 0, .int .u8 0, .nilFunc, .pointer none, .int .i32 0, .int .i32 0]) := by kernel_rfl
@[go_sem] theorem Tryz.aty162 : typeOf Tryz.prog 162 = some (5, true) := by kernel_rfl
@[go_sem] theorem Tryz.aze162 : zeroOf Tryz.prog 162 = some (.agg #[.string ⟨#[]⟩, .int .i64 0, .string ⟨#[]⟩, .bool false, .int .i64 0]) := by kernel_rfl
@[go_sem] theorem Tryz.afi162_0 : fieldInfo Tryz.prog 162 0 = some (0, 2, true) := by kernel_rfl
@[go_sem] theorem Tryz.afi162_1 : fieldInfo Tryz.prog 162 1 = some (2, 1, false) := by kernel_rfl
@[go_sem] theorem Tryz.afi162_2 : fieldInfo Tryz.prog 162 2 = some (3, 1, false) := by kernel_rfl
@[go_sem] theorem Tryz.afi162_3 : fieldInfo Tryz.prog 162 3 = some (4, 1, false) := by kernel_rfl
@[go_sem] theorem Tryz.abi162 : buildInfo Tryz.prog 162 = some ([(0, 2), (2, 1), (3, 1), (4, 1)], 0, [.string ⟨#[]⟩, .int .i64 0, .string ⟨#[]⟩, .bool false, .int .i64 0]) := by kernel_rfl
@[go_sem] theorem Tryz.aty163 : typeOf Tryz.prog 163 = some (5, true) := by kernel_rfl
@[go_sem] theorem Tryz.api163 : appInfo Tryz.prog 163 = some (5, 56) := by kernel_rfl
@[go_sem] theorem Tryz.aze163 : zeroOf Tryz.prog 163 = some (.agg #[.string ⟨#[]⟩, .int .i64 0, .string ⟨#[]⟩, .bool false, .int .i64 0]) := by kernel_rfl
@[go_sem] theorem Tryz.afi163_0 : fieldInfo Tryz.prog 163 0 = some (0, 2, true) := by kernel_rfl
@[go_sem] theorem Tryz.afi163_1 : fieldInfo Tryz.prog 163 1 = some (2, 1, false) := by kernel_rfl
@[go_sem] theorem Tryz.afi163_2 : fieldInfo Tryz.prog 163 2 = some (3, 1, false) := by kernel_rfl
@[go_sem] theorem Tryz.afi163_3 : fieldInfo Tryz.prog 163 3 = some (4, 1, false) := by kernel_rfl
@[go_sem] theorem Tryz.abi163 : buildInfo Tryz.prog 163 = some ([(0, 2), (2, 1), (3, 1), (4, 1)], 0, [.string ⟨#[]⟩, .int .i64 0, .string ⟨#[]⟩, .bool false, .int .i64 0]) := by kernel_rfl
@[go_sem] theorem Tryz.aeq46 (σ : Store) (c : Bool) (a0 b0 : ByteArray) (a1 b1 : Int) : abin Tryz.prog σ .eql 46 c (.agg [.lit (.string a0), .lit (.int .i64 a1)]) (.agg [.lit (.string b0), .lit (.int .i64 b1)]) = some (.lit (.bool ((decide (a0 = b0)) && ((decide (a1 = b1)) && true)))) := by kernel_rfl
@[go_sem] theorem Tryz.aeqn46 (σ : Store) (c : Bool) (a0 b0 : ByteArray) (a1 b1 : Int) : abin Tryz.prog σ .neq 46 c (.agg [.lit (.string a0), .lit (.int .i64 a1)]) (.agg [.lit (.string b0), .lit (.int .i64 b1)]) = some (.lit (.bool !((decide (a0 = b0)) && ((decide (a1 = b1)) && true)))) := by kernel_rfl
@[go_sem] theorem Tryz.aeq47 (σ : Store) (c : Bool) (a0 b0 : ByteArray) (a1 b1 : Int) : abin Tryz.prog σ .eql 47 c (.agg [.lit (.string a0), .lit (.int .i64 a1)]) (.agg [.lit (.string b0), .lit (.int .i64 b1)]) = some (.lit (.bool ((decide (a0 = b0)) && ((decide (a1 = b1)) && true)))) := by kernel_rfl
@[go_sem] theorem Tryz.aeqn47 (σ : Store) (c : Bool) (a0 b0 : ByteArray) (a1 b1 : Int) : abin Tryz.prog σ .neq 47 c (.agg [.lit (.string a0), .lit (.int .i64 a1)]) (.agg [.lit (.string b0), .lit (.int .i64 b1)]) = some (.lit (.bool !((decide (a0 = b0)) && ((decide (a1 = b1)) && true)))) := by kernel_rfl
@[go_sem] theorem Tryz.aeq57 (σ : Store) (c : Bool) (a0 b0 : Int) (a1 b1 : Int) (a2 b2 : Int) : abin Tryz.prog σ .eql 57 c (.agg [.lit (.int .i64 a0), .lit (.int .i64 a1), .lit (.int .i64 a2)]) (.agg [.lit (.int .i64 b0), .lit (.int .i64 b1), .lit (.int .i64 b2)]) = some (.lit (.bool ((decide (a0 = b0)) && ((decide (a1 = b1)) && ((decide (a2 = b2)) && true))))) := by kernel_rfl
@[go_sem] theorem Tryz.aeqn57 (σ : Store) (c : Bool) (a0 b0 : Int) (a1 b1 : Int) (a2 b2 : Int) : abin Tryz.prog σ .neq 57 c (.agg [.lit (.int .i64 a0), .lit (.int .i64 a1), .lit (.int .i64 a2)]) (.agg [.lit (.int .i64 b0), .lit (.int .i64 b1), .lit (.int .i64 b2)]) = some (.lit (.bool !((decide (a0 = b0)) && ((decide (a1 = b1)) && ((decide (a2 = b2)) && true))))) := by kernel_rfl
@[go_sem] theorem Tryz.aeq58 (σ : Store) (c : Bool) (a0 b0 : Int) (a1 b1 : Int) (a2 b2 : Int) : abin Tryz.prog σ .eql 58 c (.agg [.lit (.int .i64 a0), .lit (.int .i64 a1), .lit (.int .i64 a2)]) (.agg [.lit (.int .i64 b0), .lit (.int .i64 b1), .lit (.int .i64 b2)]) = some (.lit (.bool ((decide (a0 = b0)) && ((decide (a1 = b1)) && ((decide (a2 = b2)) && true))))) := by kernel_rfl
@[go_sem] theorem Tryz.aeqn58 (σ : Store) (c : Bool) (a0 b0 : Int) (a1 b1 : Int) (a2 b2 : Int) : abin Tryz.prog σ .neq 58 c (.agg [.lit (.int .i64 a0), .lit (.int .i64 a1), .lit (.int .i64 a2)]) (.agg [.lit (.int .i64 b0), .lit (.int .i64 b1), .lit (.int .i64 b2)]) = some (.lit (.bool !((decide (a0 = b0)) && ((decide (a1 = b1)) && ((decide (a2 = b2)) && true))))) := by kernel_rfl
@[go_sem] theorem Tryz.aeq60 (σ : Store) (c : Bool) (a0 b0 : Int) (a1 b1 : Int) : abin Tryz.prog σ .eql 60 c (.agg [.lit (.int .i64 a0), .lit (.int .i64 a1)]) (.agg [.lit (.int .i64 b0), .lit (.int .i64 b1)]) = some (.lit (.bool ((decide (a0 = b0)) && ((decide (a1 = b1)) && true)))) := by kernel_rfl
@[go_sem] theorem Tryz.aeqn60 (σ : Store) (c : Bool) (a0 b0 : Int) (a1 b1 : Int) : abin Tryz.prog σ .neq 60 c (.agg [.lit (.int .i64 a0), .lit (.int .i64 a1)]) (.agg [.lit (.int .i64 b0), .lit (.int .i64 b1)]) = some (.lit (.bool !((decide (a0 = b0)) && ((decide (a1 = b1)) && true)))) := by kernel_rfl
@[go_sem] theorem Tryz.aeq61 (σ : Store) (c : Bool) (a0 b0 : Int) (a1 b1 : Int) : abin Tryz.prog σ .eql 61 c (.agg [.lit (.int .i64 a0), .lit (.int .i64 a1)]) (.agg [.lit (.int .i64 b0), .lit (.int .i64 b1)]) = some (.lit (.bool ((decide (a0 = b0)) && ((decide (a1 = b1)) && true)))) := by kernel_rfl
@[go_sem] theorem Tryz.aeqn61 (σ : Store) (c : Bool) (a0 b0 : Int) (a1 b1 : Int) : abin Tryz.prog σ .neq 61 c (.agg [.lit (.int .i64 a0), .lit (.int .i64 a1)]) (.agg [.lit (.int .i64 b0), .lit (.int .i64 b1)]) = some (.lit (.bool !((decide (a0 = b0)) && ((decide (a1 = b1)) && true)))) := by kernel_rfl
@[go_sem] theorem Tryz.aeq162 (σ : Store) (c : Bool) (a0 b0 : ByteArray) (a1 b1 : Int) (a2 b2 : ByteArray) (a3 b3 : Bool) (a4 b4 : Int) : abin Tryz.prog σ .eql 162 c (.agg [.lit (.string a0), .lit (.int .i64 a1), .lit (.string a2), .lit (.bool a3), .lit (.int .i64 a4)]) (.agg [.lit (.string b0), .lit (.int .i64 b1), .lit (.string b2), .lit (.bool b3), .lit (.int .i64 b4)]) = some (.lit (.bool (((decide (a0 = b0)) && ((decide (a1 = b1)) && true)) && ((decide (a2 = b2)) && ((a3 == b3) && ((decide (a4 = b4)) && true)))))) := by kernel_rfl
@[go_sem] theorem Tryz.aeqn162 (σ : Store) (c : Bool) (a0 b0 : ByteArray) (a1 b1 : Int) (a2 b2 : ByteArray) (a3 b3 : Bool) (a4 b4 : Int) : abin Tryz.prog σ .neq 162 c (.agg [.lit (.string a0), .lit (.int .i64 a1), .lit (.string a2), .lit (.bool a3), .lit (.int .i64 a4)]) (.agg [.lit (.string b0), .lit (.int .i64 b1), .lit (.string b2), .lit (.bool b3), .lit (.int .i64 b4)]) = some (.lit (.bool !(((decide (a0 = b0)) && ((decide (a1 = b1)) && true)) && ((decide (a2 = b2)) && ((a3 == b3) && ((decide (a4 = b4)) && true)))))) := by kernel_rfl
@[go_sem] theorem Tryz.aeq163 (σ : Store) (c : Bool) (a0 b0 : ByteArray) (a1 b1 : Int) (a2 b2 : ByteArray) (a3 b3 : Bool) (a4 b4 : Int) : abin Tryz.prog σ .eql 163 c (.agg [.lit (.string a0), .lit (.int .i64 a1), .lit (.string a2), .lit (.bool a3), .lit (.int .i64 a4)]) (.agg [.lit (.string b0), .lit (.int .i64 b1), .lit (.string b2), .lit (.bool b3), .lit (.int .i64 b4)]) = some (.lit (.bool (((decide (a0 = b0)) && ((decide (a1 = b1)) && true)) && ((decide (a2 = b2)) && ((a3 == b3) && ((decide (a4 = b4)) && true)))))) := by kernel_rfl
@[go_sem] theorem Tryz.aeqn163 (σ : Store) (c : Bool) (a0 b0 : ByteArray) (a1 b1 : Int) (a2 b2 : ByteArray) (a3 b3 : Bool) (a4 b4 : Int) : abin Tryz.prog σ .neq 163 c (.agg [.lit (.string a0), .lit (.int .i64 a1), .lit (.string a2), .lit (.bool a3), .lit (.int .i64 a4)]) (.agg [.lit (.string b0), .lit (.int .i64 b1), .lit (.string b2), .lit (.bool b3), .lit (.int .i64 b4)]) = some (.lit (.bool !(((decide (a0 = b0)) && ((decide (a1 = b1)) && true)) && ((decide (a2 = b2)) && ((a3 == b3) && ((decide (a4 = b4)) && true)))))) := by kernel_rfl
@[go_sem] theorem Tryz.ago3 : isGo Tryz.prog 3 = true := by kernel_rfl
@[go_sem] theorem Tryz.ago4 : isGo Tryz.prog 4 = true := by kernel_rfl
@[go_sem] theorem Tryz.ago5 : isGo Tryz.prog 5 = true := by kernel_rfl
@[go_sem] theorem Tryz.ago6 : isGo Tryz.prog 6 = true := by kernel_rfl
@[go_sem] theorem Tryz.ago7 : isGo Tryz.prog 7 = true := by kernel_rfl
@[go_sem] theorem Tryz.ago8 : isGo Tryz.prog 8 = true := by kernel_rfl
@[go_sem] theorem Tryz.ago9 : isGo Tryz.prog 9 = true := by kernel_rfl
@[go_sem] theorem Tryz.ago10 : isGo Tryz.prog 10 = true := by kernel_rfl
@[go_sem] theorem Tryz.ago11 : isGo Tryz.prog 11 = true := by kernel_rfl
@[go_sem] theorem Tryz.ago12 : isGo Tryz.prog 12 = true := by kernel_rfl
@[go_sem] theorem Tryz.ago13 : isGo Tryz.prog 13 = true := by kernel_rfl
@[go_sem] theorem Tryz.ago14 : isGo Tryz.prog 14 = true := by kernel_rfl
@[go_sem] theorem Tryz.ago15 : isGo Tryz.prog 15 = true := by kernel_rfl
@[go_sem] theorem Tryz.ago16 : isGo Tryz.prog 16 = true := by kernel_rfl
@[go_sem] theorem Tryz.ago17 : isGo Tryz.prog 17 = true := by kernel_rfl
@[go_sem] theorem Tryz.ago18 : isGo Tryz.prog 18 = true := by kernel_rfl
@[go_sem] theorem Tryz.ago19 : isGo Tryz.prog 19 = true := by kernel_rfl
@[go_sem] theorem Tryz.ago20 : isGo Tryz.prog 20 = true := by kernel_rfl
@[go_sem] theorem Tryz.ago21 : isGo Tryz.prog 21 = true := by kernel_rfl
@[go_sem] theorem Tryz.ago22 : isGo Tryz.prog 22 = true := by kernel_rfl
@[go_sem] theorem Tryz.ago23 : isGo Tryz.prog 23 = true := by kernel_rfl
@[go_sem] theorem Tryz.ago24 : isGo Tryz.prog 24 = true := by kernel_rfl
@[go_sem] theorem Tryz.ago25 : isGo Tryz.prog 25 = true := by kernel_rfl
@[go_sem] theorem Tryz.ago26 : isGo Tryz.prog 26 = true := by kernel_rfl
@[go_sem] theorem Tryz.ago27 : isGo Tryz.prog 27 = true := by kernel_rfl
@[go_sem] theorem Tryz.ago28 : isGo Tryz.prog 28 = true := by kernel_rfl
@[go_sem] theorem Tryz.ago29 : isGo Tryz.prog 29 = true := by kernel_rfl
@[go_sem] theorem Tryz.ago30 : isGo Tryz.prog 30 = true := by kernel_rfl
@[go_sem] theorem Tryz.ago31 : isGo Tryz.prog 31 = true := by kernel_rfl
@[go_sem] theorem Tryz.ago32 : isGo Tryz.prog 32 = true := by kernel_rfl
@[go_sem] theorem Tryz.ago33 : isGo Tryz.prog 33 = true := by kernel_rfl
@[go_sem] theorem Tryz.ago34 : isGo Tryz.prog 34 = true := by kernel_rfl
@[go_sem] theorem Tryz.ago35 : isGo Tryz.prog 35 = true := by kernel_rfl
@[go_sem] theorem Tryz.ago36 : isGo Tryz.prog 36 = true := by kernel_rfl
@[go_sem] theorem Tryz.ago37 : isGo Tryz.prog 37 = true := by kernel_rfl
@[go_sem] theorem Tryz.ago38 : isGo Tryz.prog 38 = true := by kernel_rfl
@[go_sem] theorem Tryz.ago39 : isGo Tryz.prog 39 = true := by kernel_rfl
@[go_sem] theorem Tryz.ago40 : isGo Tryz.prog 40 = true := by kernel_rfl
@[go_sem] theorem Tryz.ago41 : isGo Tryz.prog 41 = true := by kernel_rfl
@[go_sem] theorem Tryz.ago42 : isGo Tryz.prog 42 = true := by kernel_rfl
@[go_sem] theorem Tryz.ago43 : isGo Tryz.prog 43 = true := by kernel_rfl
@[go_sem] theorem Tryz.ago44 : isGo Tryz.prog 44 = true := by kernel_rfl
@[go_sem] theorem Tryz.ago45 : isGo Tryz.prog 45 = true := by kernel_rfl
@[go_sem] theorem Tryz.ago46 : isGo Tryz.prog 46 = true := by kernel_rfl
@[go_sem] theorem Tryz.ago47 : isGo Tryz.prog 47 = true := by kernel_rfl
@[go_sem] theorem Tryz.ago48 : isGo Tryz.prog 48 = true := by kernel_rfl
@[go_sem] theorem Tryz.ago49 : isGo Tryz.prog 49 = true := by kernel_rfl
@[go_sem] theorem Tryz.ago50 : isGo Tryz.prog 50 = true := by kernel_rfl
@[go_sem] theorem Tryz.ago51 : isGo Tryz.prog 51 = true := by kernel_rfl
@[go_sem] theorem Tryz.ago52 : isGo Tryz.prog 52 = true := by kernel_rfl
@[go_sem] theorem Tryz.ago53 : isGo Tryz.prog 53 = true := by kernel_rfl
@[go_sem] theorem Tryz.ago54 : isGo Tryz.prog 54 = true := by kernel_rfl
@[go_sem] theorem Tryz.ago55 : isGo Tryz.prog 55 = true := by kernel_rfl
@[go_sem] theorem Tryz.ago56 : isGo Tryz.prog 56 = true := by kernel_rfl
@[go_sem] theorem Tryz.ago57 : isGo Tryz.prog 57 = true := by kernel_rfl
@[go_sem] theorem Tryz.ago58 : isGo Tryz.prog 58 = true := by kernel_rfl
@[go_sem] theorem Tryz.ago59 : isGo Tryz.prog 59 = true := by kernel_rfl
@[go_sem] theorem Tryz.ago60 : isGo Tryz.prog 60 = true := by kernel_rfl
@[go_sem] theorem Tryz.ago61 : isGo Tryz.prog 61 = true := by kernel_rfl
@[go_sem] theorem Tryz.ago62 : isGo Tryz.prog 62 = true := by kernel_rfl
@[go_sem] theorem Tryz.ago63 : isGo Tryz.prog 63 = true := by kernel_rfl
@[go_sem] theorem Tryz.ago64 : isGo Tryz.prog 64 = true := by kernel_rfl
@[go_sem] theorem Tryz.ago65 : isGo Tryz.prog 65 = true := by kernel_rfl
@[go_sem] theorem Tryz.ago66 : isGo Tryz.prog 66 = true := by kernel_rfl
@[go_sem] theorem Tryz.ago67 : isGo Tryz.prog 67 = true := by kernel_rfl
@[go_sem] theorem Tryz.ago68 : isGo Tryz.prog 68 = true := by kernel_rfl
@[go_sem] theorem Tryz.ago69 : isGo Tryz.prog 69 = true := by kernel_rfl
@[go_sem] theorem Tryz.ago70 : isGo Tryz.prog 70 = true := by kernel_rfl
@[go_sem] theorem Tryz.ago71 : isGo Tryz.prog 71 = true := by kernel_rfl
@[go_sem] theorem Tryz.ago72 : isGo Tryz.prog 72 = true := by kernel_rfl
@[go_sem] theorem Tryz.ago73 : isGo Tryz.prog 73 = true := by kernel_rfl
@[go_sem] theorem Tryz.ago74 : isGo Tryz.prog 74 = true := by kernel_rfl
@[go_sem] theorem Tryz.ago75 : isGo Tryz.prog 75 = true := by kernel_rfl
@[go_sem] theorem Tryz.ago76 : isGo Tryz.prog 76 = true := by kernel_rfl
@[go_sem] theorem Tryz.ago77 : isGo Tryz.prog 77 = true := by kernel_rfl
@[go_sem] theorem Tryz.ago78 : isGo Tryz.prog 78 = true := by kernel_rfl
@[go_sem] theorem Tryz.ago79 : isGo Tryz.prog 79 = true := by kernel_rfl
@[go_sem] theorem Tryz.ago80 : isGo Tryz.prog 80 = true := by kernel_rfl
@[go_sem] theorem Tryz.ago81 : isGo Tryz.prog 81 = true := by kernel_rfl
@[go_sem] theorem Tryz.ago82 : isGo Tryz.prog 82 = true := by kernel_rfl
@[go_sem] theorem Tryz.ago83 : isGo Tryz.prog 83 = true := by kernel_rfl
@[go_sem] theorem Tryz.ago84 : isGo Tryz.prog 84 = true := by kernel_rfl
@[go_sem] theorem Tryz.ago85 : isGo Tryz.prog 85 = true := by kernel_rfl
@[go_sem] theorem Tryz.ago86 : isGo Tryz.prog 86 = true := by kernel_rfl
@[go_sem] theorem Tryz.ago87 : isGo Tryz.prog 87 = true := by kernel_rfl
@[go_sem] theorem Tryz.ago88 : isGo Tryz.prog 88 = true := by kernel_rfl
@[go_sem] theorem Tryz.ago89 : isGo Tryz.prog 89 = true := by kernel_rfl
@[go_sem] theorem Tryz.ago90 : isGo Tryz.prog 90 = true := by kernel_rfl
@[go_sem] theorem Tryz.ago92 : isGo Tryz.prog 92 = true := by kernel_rfl
@[go_sem] theorem Tryz.ago93 : isGo Tryz.prog 93 = true := by kernel_rfl
@[go_sem] theorem Tryz.ago94 : isGo Tryz.prog 94 = true := by kernel_rfl
@[go_sem] theorem Tryz.ago95 : isGo Tryz.prog 95 = true := by kernel_rfl
@[go_sem] theorem Tryz.ago96 : isGo Tryz.prog 96 = true := by kernel_rfl
@[go_sem] theorem Tryz.ago97 : isGo Tryz.prog 97 = true := by kernel_rfl
@[go_sem] theorem Tryz.ago98 : isGo Tryz.prog 98 = true := by kernel_rfl
@[go_sem] theorem Tryz.ago99 : isGo Tryz.prog 99 = true := by kernel_rfl
@[go_sem] theorem Tryz.ago100 : isGo Tryz.prog 100 = true := by kernel_rfl
@[go_sem] theorem Tryz.ago101 : isGo Tryz.prog 101 = true := by kernel_rfl
@[go_sem] theorem Tryz.ago102 : isGo Tryz.prog 102 = true := by kernel_rfl
@[go_sem] theorem Tryz.ago103 : isGo Tryz.prog 103 = true := by kernel_rfl
@[go_sem] theorem Tryz.ago104 : isGo Tryz.prog 104 = true := by kernel_rfl
@[go_sem] theorem Tryz.ago105 : isGo Tryz.prog 105 = true := by kernel_rfl
@[go_sem] theorem Tryz.ago106 : isGo Tryz.prog 106 = true := by kernel_rfl
@[go_sem] theorem Tryz.ago129 : isGo Tryz.prog 129 = true := by kernel_rfl
attribute [go_sem] Tryz.underlying1 Tryz.underlying2 Tryz.underlying3 Tryz.underlying4 Tryz.underlying5 Tryz.underlying6 Tryz.underlying9 Tryz.underlying10 Tryz.underlying11 Tryz.underlying12 Tryz.underlying15 Tryz.underlying16 Tryz.underlying17 Tryz.underlying20 Tryz.underlying21 Tryz.underlying22 Tryz.underlying23 Tryz.underlying24 Tryz.underlying25 Tryz.underlying26 Tryz.underlying27 Tryz.underlying28 Tryz.underlying29 Tryz.underlying32 Tryz.underlying33 Tryz.underlying34 Tryz.underlying35 Tryz.underlying36 Tryz.underlying37 Tryz.underlying38 Tryz.underlying39 Tryz.underlying40 Tryz.underlying41 Tryz.underlying44 Tryz.underlying45 Tryz.underlying52 Tryz.underlying53 Tryz.underlying54 Tryz.underlying55 Tryz.underlying56 Tryz.underlying59 Tryz.underlying62 Tryz.underlying63 Tryz.underlying64 Tryz.underlying65 Tryz.underlying66 Tryz.underlying67 Tryz.underlying68 Tryz.underlying69 Tryz.underlying70 Tryz.underlying71 Tryz.underlying72 Tryz.underlying77 Tryz.underlying78 Tryz.underlying79 Tryz.underlying82 Tryz.underlying83 Tryz.underlying84 Tryz.underlying85 Tryz.underlying86 Tryz.underlying87 Tryz.underlying88 Tryz.underlying89 Tryz.underlying90 Tryz.underlying91 Tryz.underlying92 Tryz.underlying94 Tryz.underlying95 Tryz.underlying96 Tryz.underlying97 Tryz.underlying99 Tryz.underlying100 Tryz.underlying101 Tryz.underlying103 Tryz.underlying104 Tryz.underlying105 Tryz.underlying106 Tryz.underlying107 Tryz.underlying108 Tryz.underlying109 Tryz.underlying110 Tryz.underlying111 Tryz.underlying112 Tryz.underlying113 Tryz.underlying114 Tryz.underlying115 Tryz.underlying116 Tryz.underlying117 Tryz.underlying118 Tryz.underlying119 Tryz.underlying120 Tryz.underlying121 Tryz.underlying122 Tryz.underlying123 Tryz.underlying124 Tryz.underlying125 Tryz.underlying126 Tryz.underlying127 Tryz.underlying128 Tryz.underlying129 Tryz.underlying130 Tryz.underlying132 Tryz.underlying133 Tryz.underlying135 Tryz.underlying136 Tryz.underlying137 Tryz.underlying138 Tryz.underlying139 Tryz.underlying140 Tryz.underlying142 Tryz.underlying143 Tryz.underlying144 Tryz.underlying145 Tryz.underlying146 Tryz.underlying147 Tryz.underlying148 Tryz.underlying151 Tryz.underlying154 Tryz.underlying155 Tryz.underlying156 Tryz.underlying157 Tryz.underlying158 Tryz.underlying159
theorem Tryz.mixed : Tryz.prog.follows .mixedOrders = true := by kernel_rfl
end Go.Proofs
end

section
set_option linter.all false
namespace Go.Ab
open Go.RowKit (Below)

section
variable {P : Program} {o : Oper} {α : Operand → AVal} {σ : Store} {Kk : AVal → Store → Prop}

theorem AOp_makeSlice {t e : TypeId} {n by_ : Nat} {x y : Operand} {z : Value} {k1 k2 : IntKind} (ho : o.op = .makeSlice t x y) (hse : sliceElem P t = some e) (hte : appInfo P e = some (1, by_)) (hz : zeroOf P e = some z) (hz1 : z.cells = #[z])
    (hx : α x = .lit (.int k1 n)) (hy : α y = .lit (.int k2 n)) (hn : by_ * n ≤ 281474976710656) (hk : ∀ i, σ.heap i = none → Kk (.msl i 1 0 n) (σ.set i (.cells (List.replicate n (.lit z))))) : AOp P o α σ Kk := by
  obtain ⟨dst, op, ty, pos, after, guard⟩ := o
  obtain rfl : op = _ := ho
  intro κ ev hI hxx
  obtain ⟨i, z', hi, hz', hisz, hiby, hzs, hsz, hby⟩ := appInfo_spec hte
  have hts : P.underlying t = some (.slice e) := by
    unfold sliceElem at hse
    split at hse
    · rename_i e' he'; obtain rfl := Option.some.inj hse; exact he'
    · cases hse
  have hvx := hxx x (by simp [Op.operands])
  have hvy := hxx y (by simp [Op.operands])
  rw [hx] at hvx
  rw [hy] at hvy
  have ezz : z' = z := by
    unfold zeroOf at hz
    rw [hi] at hz
    simpa [hz'] using hz
  subst ezz
  have h63 : n ≤ 9223372036854775807 := by
    have : n ≤ by_ * n := Nat.le_mul_of_pos_left _ hby
    omega
  have hrun := run_make_row' (P := P) t e z' by_ hts (by rw [hi]; simp [hz', hisz, hiby]) hz1 k1 k2 n hn h63 κ.w
  obtain ⟨oi, hoi, hfree⟩ := hI.fresh
  have hsize : (madeCells #[z'] n).size = n := by simp [madeCells]
  obtain ⟨κ', hw, hle, hρ, hI'⟩ := hI.alloc oi hoi (.cells (List.replicate n (.lit z'))) (.cells (madeCells #[z'] n) e) fun κ' hle hh _ => ⟨_, e, hh, by rw [hsize]; simp, fun j hj => by
    have hj' : j < n := by simpa using hj
    have : (madeCells #[z'] n).getD j undef = z' := by simp [madeCells, hj', Nat.mod_one]
    rw [this, List.getElem_replicate]
    exact .lit _⟩
  have hheap : κ'.w.heap[κ.w.heap.size]? = some (.cells (madeCells #[z'] n) e (0, 0)) := by rw [hw]; exact heap_alloc_new _ _
  refine upon_v rfl ⟨_, _, by rw [hvx.litInv, hvy.litInv]; exact hrun, κ', .msl oi 1 0 n, _, hw, hle, hI', .msl oi 1 0 n κ.w.heap.size n n e hρ (Nat.le_refl _) (by unfold World.shape?; rw [hheap]; simp [hsize]) (by omega), hk oi hfree⟩

/-- A slice that is not written any more: what it holds is for good. -/
theorem freeze {κ : K} (hI : Inv κ σ) {so sz len : Nat} {cs l : List AVal} {v : Value} (hv : Rv κ (.msl so sz 0 len) v) (hh : σ.heap so = some (.cells cs)) (hl : cs.take (len * sz) = flat l) (hn : l.length = len) (hs : ∀ x ∈ l, x.cells.length = sz) :
    ∃ κ', κ'.w = κ.w ∧ κ.Le κ' ∧ Inv κ' (σ.del so) ∧ Rv κ' (.sl sz l false) v := by
  subst hn
  have hfl := flat_length hs
  generalize v = u at hv
  cases hv with
  | msl _ _ _ _ b cap n el hb hlc hsh hcap =>
  obtain ⟨b', hb', hbase, hIb, c, el', hheap, hcl, hcv⟩ := hI.heap so _ hh
  rw [hb] at hb'
  obtain rfl := Option.some.inj hb'
  have hlen : l.length * sz ≤ cs.length := by
    have := congrArg List.length hl
    rw [List.length_take, hfl] at this
    omega
  have hle : κ.Le { κ with I := fun k => if k = b then l.length * sz else κ.I k } :=
    ⟨rfl, Below.refl _ _, fun _ _ h => h, fun _ _ h => h, fun _ _ h => h, fun k => by
      show _ ≤ (if k = b then _ else _)
      split
      · rename_i hk; rw [hk, hIb]; exact Nat.zero_le _
      · exact Nat.le_refl _, fun _ _ _ _ h => h, Nat.le_refl _⟩
  refine ⟨{ κ with I := fun k => if k = b then l.length * sz else κ.I k }, rfl, hle, ?_, ?_⟩
  · have hne : ∀ i x, (σ.del so).heap i = some x → i ≠ so ∧ σ.heap i = some x := fun i x hx => by
      by_cases hi : i = so
      · rw [hi, Store.del_get] at hx; cases hx
      · rw [Store.del_ne _ hi] at hx; exact ⟨hi, hx⟩
    refine ⟨hI.glob, hI.base, fun i x hx => ?_, fun i i' x x' k hx hx' => hI.inj i i' x x' k (hne _ _ hx).2 (hne _ _ hx').2, fun t q ht => ?_, fun t t' q q' u u' k => hI.tokinj t t' q q' u u' k, fun t q u k i x ht hu hk hx => hI.tokobj t q u k i x ht hu hk (hne _ _ hx).2, hI.frO, hI.frT, fun k hk => ?_⟩
    · obtain ⟨hi, hx'⟩ := hne _ _ hx
      obtain ⟨k, hk, hkb, hkI, hR⟩ := hI.heap i x hx'
      have hkne : k ≠ b := fun hh' => hi (hI.inj i so x _ b hx' hh (by rw [hk, hh']) hb)
      exact ⟨k, hk, hkb, by show (if k = b then _ else _) = _; rw [if_neg hkne]; exact hkI, hR.mono hle rfl⟩
    · obtain ⟨u, hu, hok⟩ := hI.tok t q ht
      refine ⟨u, hu, hok.mono hle fun k hk => ⟨rfl, ?_⟩⟩
      show (if k = b then _ else _) = _
      rw [if_neg (fun hh' => hI.tokobj t q u k so _ ht hu hk hh (by rw [hb, hh']))]
    · show (if k = b then _ else _) = _
      have : b < κ.w.heap.size := (Array.getElem?_eq_some_iff.1 hheap).1
      have hk' : κ.w.heap.size ≤ k := hk
      rw [if_neg (by omega)]
      exact hI.frI k hk
  · refine .sl sz l false b 0 cap (fun k => c.getD k undef) hlc (by simp) hs (fun k hk => ?_) (fun k hk => ?_)
    · refine ⟨?_, ?_⟩
      · show _ < (if b = b then _ else _)
        rw [if_pos rfl]; omega
      · show κ.w.cell? _ = _
        rw [cell_of_row _ _ _ _ _ _ hheap]
        simp [show k < c.size by omega]
    · have e1 : (flat l)[k] = cs[k]'(by omega) := by
        have h1 : (cs.take (l.length * sz))[k]? = (flat l)[k]? := by rw [hl]
        rw [List.getElem?_take, if_pos (by omega), List.getElem?_eq_getElem hk, List.getElem?_eq_getElem (show k < cs.length by omega)] at h1
        exact (Option.some.inj h1).symm
      rw [e1]
      exact (hcv k (by omega)).mono hle

theorem AOp_freeze {x : Operand} {so sz len : Nat} {cs l : List AVal} (ho : o.op = .assign x ∨ o.op = .move x) (hx : α x = .msl so sz 0 len) (hh : σ.heap so = some (.cells cs)) (hl : cs.take (len * sz) = flat l) (hn : l.length = len) (hs : ∀ x ∈ l, x.cells.length = sz)
    (hk : Kk (.sl sz l false) (σ.del so)) : AOp P o α σ Kk := by
  intro κ ev hI hxx
  have hv := hxx x (by rcases ho with ho | ho <;> (rw [ho]; simp [Op.operands]))
  rw [hx] at hv
  have he : (execOp ev o).run P κ.w = .ok (.value (ev x)) κ.w := by
    obtain ⟨dst, op, ty, pos, after, guard⟩ := o
    rcases ho with ho | ho <;> (obtain rfl : op = _ := ho; simp [execOp])
  rw [he]
  obtain ⟨κ', h1, h2, h3, h4⟩ := freeze hI hv hh hl hn hs
  exact ⟨κ', .sl sz l false, _, h1, h2, h3, h4, hk⟩

/-- append to a slice of nothing that has no room: a copy, to be written -/
theorem AOp_copyM {s x : Operand} {t e : TypeId} {sz by_ : Nat} {l2 : List AVal}
    (ho : o.op = .call { callee := .builtin .append, args := #[s, x], argTypes := #[t, t] }) (hse : sliceElem P t = some e) (hte : appInfo P e = some (sz, by_))
    (hs : α s = .sl sz [] true) (hx : slOf (α x) = some (sz, l2)) (hne : l2 ≠ []) (hlen : l2.length * by_ ≤ 140737488355328)
    (hk : ∀ o', σ.heap o' = none → Kk (.msl o' sz 0 l2.length) (σ.set o' (.cells (flat l2)))) : AOp P o α σ Kk := by
  obtain ⟨dst, op, ty, pos, after, guard⟩ := o
  obtain rfl : op = .call { callee := .builtin .append, args := #[s, x], argTypes := #[t, t] } := ho
  intro κ ev hI hxx
  obtain ⟨i, z, hi, hz, hisz, hiby, hzs, hsz, hby⟩ := appInfo_spec hte
  subst hisz
  subst hiby
  have hts : P.underlying t = some (.slice e) := by
    unfold sliceElem at hse
    split at hse
    · rename_i e' he'; obtain rfl := Option.some.inj hse; exact he'
    · cases hse
  have hvs := hxx s (by simp [Op.operands, Call.operands])
  have hvx := hxx x (by simp [Op.operands, Call.operands])
  have hm : 0 < l2.length := List.length_pos_iff.2 hne
  have hle47 : l2.length ≤ 140737488355328 := Nat.le_trans (Nat.le_mul_of_pos_right _ hby) hlen
  obtain ⟨ad, cap2, vs, hevx, hl2sz, hvsr, hcu⟩ : ∃ ad cap2 vs, ev x = .slice (some ad) l2.length cap2 ∧ (∀ y ∈ l2, y.cells.length = i.size) ∧ RvC κ (flat l2) vs ∧ ∀ j u, vs[j]? = some u → κ.w.cell? (ad.add j) = some u := by
    obtain ⟨a, cap, us2, hev, hsz', hr, hc⟩ := sl_vals (slOf_rv hx hvx)
    rcases hc with ⟨_, h0, _⟩ | ⟨ad, rfl, hcu⟩
    · exact absurd h0 hne
    · exact ⟨ad, cap, us2, hev, hsz', hr, hcu⟩
  have hfl2 : vs.length = l2.length * i.size := by rw [← hvsr.1, flat_length hl2sz]
  obtain ⟨o', ho', hfr⟩ := hI.fresh
  have hd := hI.drew
  have fresh : ∀ (cap' : Nat), l2.length ≤ cap' → Post κ Kk (.slice (some ⟨κ.w.heap.size, 0, none⟩) l2.length cap') (κ.w.drew.alloc (.cells (vs.toArray ++ Builtin.zeroCells z.cells (cap' - l2.length)) e)) := by
    intro cap' hcap
    have hsize : (vs.toArray ++ Builtin.zeroCells z.cells (cap' - l2.length)).size = cap' * i.size := by
      simp only [Array.size_append, List.size_toArray, size_zeroCells, hzs, hfl2, ← Nat.add_mul]
      congr 1; omega
    obtain ⟨κ', hw, hle, hρ, hI'⟩ := hd.2.alloc o' ho' (.cells (flat l2)) (.cells (vs.toArray ++ Builtin.zeroCells z.cells (cap' - l2.length)) e) fun κ' hle hh _ => by
      refine ⟨_, e, hh, ?_, fun j hj => ?_⟩
      · rw [hsize, hvsr.1, hfl2]; exact Nat.mul_le_mul_right _ hcap
      · have hj' : j < vs.length := by rw [← hvsr.1]; exact hj
        have e1 : (vs.toArray ++ Builtin.zeroCells z.cells (cap' - l2.length)).getD j undef = vs[j] := by
          simp only [Array.getD_eq_getD_getElem?]
          rw [Array.getElem?_append_left (by simpa using hj')]
          simp [hj']
        rw [e1]
        exact (hvsr.2 j hj hj').mono (hd.1.trans hle)
    have hheap : κ'.w.heap[κ.w.heap.size]? = some (.cells (vs.toArray ++ Builtin.zeroCells z.cells (cap' - l2.length)) e (0, 0)) := by
      rw [hw]; exact Go.heap_alloc_new κ.w.drew _
    exact ⟨κ', .msl o' i.size 0 l2.length, _, hw, hd.1.trans hle, hI', .msl o' i.size 0 _ κ.w.heap.size cap' _ e hρ hcap (by unfold World.shape?; rw [hheap]) (by rw [hsize]; omega), hk o' hfr⟩
  refine upon_v (s := Builtin.append_ #[t, t] ty #[ev s, ev x]) (by simp [execOp, resolve, invoke, builtin]) ?_
  rw [hs] at hvs
  have hnil : (ev s = .slice none 0 0) ∨ ∃ b, ev s = .slice (some b) 0 0 := by
    rcases hvs.slInv with ⟨a, h1, h2⟩ | ⟨b, off, cap, vals, h1, hcap, htt, _⟩
    · cases a with
      | none => exact .inl h1
      | some b => exact .inr ⟨b, h1⟩
    · right
      have := htt rfl
      simp at this
      subst this
      exact ⟨_, h1⟩
  rw [hevx]
  rcases hnil with h0 | ⟨b, h0⟩
  · rw [h0]
    have hr := run_append_nil (P := P) κ.w t ty e i z hts hi hz ad l2.length cap2 vs hfl2 hcu hm (by omega) (by omega)
    exact ⟨_, _, hr, fresh _ (grownCap_ge _ _ _ _)⟩
  · rw [h0]
    have hr := run_append_grow (P := P) κ.w t ty e i z hts hi hz b 0 0 [] (by simp) (by simp) ad l2.length cap2 vs hfl2 hcu (by omega) (by omega) (growslice_fits (by omega) (by simpa using hlen))
    simp only [Nat.zero_add] at hr
    refine ⟨_, _, hr, ?_⟩
    have := fresh (grownCap κ.w l2.length 0 e) (grownCap_ge _ _ _ _)
    simpa using this

/-- is a slice nil, of which there is something? no -/
theorem AOp_eqNil {t yt : TypeId} {x y : Operand} {sz e : Nat} {l : List AVal} (ho : o.op = .binOp .eql t x y yt) (hse : sliceElem P t = some e) (hx : slOf (α x) = some (sz, l)) (hl : l ≠ []) (hy : α y = .lit (.slice none 0 0)) (hk : Kk (.lit (.bool false)) σ) : AOp P o α σ Kk := by
  obtain ⟨dst, op, ty, pos, after, guard⟩ := o
  obtain rfl : op = _ := ho
  intro κ ev hI hxx
  have hvx := hxx x (by simp [Op.operands])
  have hvy := hxx y (by simp [Op.operands])
  rw [hy] at hvy
  have hts : P.underlying t = some (.slice e) := by
    unfold sliceElem at hse
    split at hse
    · rename_i e' he'; obtain rfl := Option.some.inj hse; exact he'
    · cases hse
  obtain ⟨a, cap, us, hev, _, _, hc⟩ := sl_vals (slOf_rv hx hvx)
  rcases hc with ⟨_, h0, _⟩ | ⟨ad, rfl, _⟩
  · exact absurd h0 hl
  · have hb : (binOp .eql t (ev x) (ev y)).run P κ.w = .ok (.bool false) κ.w := by
      have e1 : binOp .eql t (ev x) (ev y) = (do pure (.bool (← Op.equal t (ev x) (ev y)))) := by
        rw [hev, hvy.litInv]
        rfl
      rw [e1, hev, hvy.litInv]
      simp only [Sem.run_bind, run_equal_slice_nil κ.w t e (some ad) l.length cap hts, Result.andThen_ok, Sem.run_pure]
      rfl
    have hg : (eqGuard .eql t x y (ev x) (ev y)).run P κ.w = .ok () κ.w := run_eqGuard_other (by rintro u v ⟨h1, _⟩; rw [hev] at h1; cases h1) (by intro h1; rw [hev] at h1; cases h1)
    refine upon_v (s := do eqGuard .eql t x y (ev x) (ev y); binOp .eql t (ev x) (ev y)) (by simp [execOp]) ⟨.bool false, κ.w, ?_, κ, .lit (.bool false), σ, rfl, .refl κ, hI, .lit _, hk⟩
    simp only [Sem.run_bind, hg, Result.andThen_ok, hb]

end
end Go.Ab
end

section
set_option linter.all false
namespace Go.Ab

abbrev vInt (n : Int) : AVal := .lit (.int .i64 n)
abbrev vBool (b : Bool) : AVal := .lit (.bool b)
abbrev vStr (s : ByteArray) : AVal := .lit (.string s)

/-- the bits of two numbers, taken together -/
def bAnd (k : IntKind) (a b : Int) : Int := k.wrap (BitVec.ofInt k.bits a &&& BitVec.ofInt k.bits b).toNat
def bOr (k : IntKind) (a b : Int) : Int := k.wrap (BitVec.ofInt k.bits a ||| BitVec.ofInt k.bits b).toNat
def bXor (k : IntKind) (a b : Int) : Int := k.wrap (BitVec.ofInt k.bits a ^^^ BitVec.ofInt k.bits b).toNat

/-! ### reckoning -/

@[go_sem] theorem upd_at (e : Env) (d k : Nat) (a : AVal) : upd e d a k = if k = d then a else e k := rfl
@[go_sem] theorem emp_at (k : Nat) : emp k = .any := rfl
@[go_sem] theorem envOf_nil (k : Nat) : envOf k [] = emp := rfl
@[go_sem] theorem envOf_cons (k : Nat) (a : AVal) (l : List AVal) : envOf k (a :: l) = upd (envOf (k + 1) l) k a := rfl
@[go_sem] theorem aev_tmp (e : Env) (t : Tmp) : aev e (.tmp t) = e t := rfl
@[go_sem] theorem aev_int (e : Env) (k : IntKind) (n : Int) : aev e (.const (.int k n)) = .lit (.int k n) := rfl
@[go_sem] theorem aev_bool (e : Env) (b : Bool) : aev e (.const (.bool b)) = .lit (.bool b) := rfl
@[go_sem] theorem aev_str (e : Env) (s : ByteArray) : aev e (.const (.string s)) = .lit (.string s) := rfl
@[go_sem] theorem aev_ptr (e : Env) (a : Option Addr) : aev e (.const (.pointer a)) = .lit (.pointer a) := rfl
@[go_sem] theorem aev_slice (e : Env) (a : Option Addr) (n c : Nat) : aev e (.const (.slice a n c)) = .lit (.slice a n c) := rfl
@[go_sem] theorem aev_map (e : Env) (r : Option Nat) : aev e (.const (.map r)) = .lit (.map r) := rfl
@[go_sem] theorem aev_nilFunc (e : Env) : aev e (.const .nilFunc) = .lit .nilFunc := rfl
@[go_sem] theorem aev_nilIface (e : Env) : aev e (.const .nilIface) = .lit .nilIface := rfl
@[go_sem] theorem aev_func (e : Env) (f : FuncId) : aev e (.func f) = .lit (.func (.func f) #[] #[]) := rfl

section
variable (P : Program) (α : Operand → AVal) (σ : Store)
@[go_sem] theorem aval_move (x : Operand) : aval P (.move x) α σ = some (α x) := rfl
@[go_sem] theorem aval_assign (x : Operand) : aval P (.assign x) α σ = some (α x) := rfl
@[go_sem] theorem aval_pick (c a b : Operand) : aval P (.pick c a b) α σ = match α c with | .lit (.bool t) => some (apick t (α a) (α b)) | _ => none := rfl
@[go_sem] theorem aval_nilCheck (x : Operand) : aval P (.nilCheck x) α σ = anil (α x) := rfl
@[go_sem] theorem aval_binOp (op : BinOp) (t yt : TypeId) (x y : Operand) : aval P (.binOp op t x y yt) α σ = abin P σ op t (isConst x || isConst y) (α x) (α y) := rfl
@[go_sem] theorem aval_unOp (op : UnOp) (t : TypeId) (x : Operand) : aval P (.unOp op t x) α σ = aunop op (α x) := rfl
@[go_sem] theorem aval_convert (s d : TypeId) (x : Operand) : aval P (.convert s d x) α σ = aconvert P s d (α x) := rfl
@[go_sem] theorem aval_fieldAddr (s : TypeId) (x : Operand) (f : Nat) : aval P (.fieldAddr s x f) α σ = afieldAddr P s (α x) f := rfl
@[go_sem] theorem aval_field (t : TypeId) (x : Operand) (f : Nat) : aval P (.field t x f) α σ = afield P t (α x) f := rfl
@[go_sem] theorem aval_indexAddr (t : TypeId) (x i : Operand) : aval P (.indexAddr t x i) α σ = aindexAddr P t (α x) (α i) := rfl
@[go_sem] theorem aval_index (t : TypeId) (x i : Operand) : aval P (.index t x i) α σ = aindex P t (α x) (α i) := rfl
@[go_sem] theorem aval_load (t : TypeId) (x : Operand) : aval P (.load t x) α σ = aload P σ t (α x) := rfl
@[go_sem] theorem aval_extract (x : Operand) (i : Nat) : aval P (.extract x i) α σ = match α x with | .tup vs => vs[i]? | _ => none := rfl
@[go_sem] theorem aval_slice (t : TypeId) (x : Operand) (lo hi mx : Option Operand) : aval P (.slice t x lo hi mx) α σ = aslice P t (α x) (lo.map α) (hi.map α) (mx.map α) := rfl
@[go_sem] theorem aval_makeFunc (fn : Fn) (f c : Array Operand) : aval P (.makeFunc fn f c) α σ = some (.fn fn (f.toList.map α) (c.toList.map α)) := rfl
@[go_sem] theorem aval_makeInterface (t : TypeId) (x : Operand) : aval P (.makeInterface t x) α σ = match P.underlying t with | some (.interface _) => none | some _ => some (.iface t (α x)) | none => none := rfl
@[go_sem] theorem aval_build (t : TypeId) (ps : Array (Nat × Operand)) : aval P (.build t ps) α σ = abuild P t (ps.toList.map fun p => (p.1, α p.2)) := rfl
@[go_sem] theorem aval_lookup (t : TypeId) (m k : Operand) (ok : Bool) : aval P (.lookup t m k ok) α σ = alookup P σ t (α m) (α k) ok := rfl
@[go_sem] theorem aval_typeAssert (x : Operand) (xt t : TypeId) (ok : Bool) : aval P (.typeAssert x xt t ok) α σ = atypeAssert P (α x) t ok := rfl
@[go_sem] theorem aval_len (x : Operand) (t : TypeId) : aval P (.call { callee := .builtin .len, args := #[x], argTypes := #[t] }) α σ = (alen P σ t (α x)).map fun (n : Nat) => AVal.lit (.int .i64 (n : Int)) := rfl
@[go_sem] theorem aval_max (args : Array Operand) (ts : Array TypeId) : aval P (.call { callee := .builtin .max, args := args, argTypes := ts }) α σ = amaxL true (args.toList.map α) := rfl
@[go_sem] theorem aval_min (args : Array Operand) (ts : Array TypeId) : aval P (.call { callee := .builtin .min, args := args, argTypes := ts }) α σ = amaxL false (args.toList.map α) := rfl
@[go_sem] theorem amaxL_two (k k' : IntKind) (x y : Int) : amaxL true [.lit (.int k x), .lit (.int k' y)] = some (.lit (.int k (max x y))) := rfl
@[go_sem] theorem aminL_two (k k' : IntKind) (x y : Int) : amaxL false [.lit (.int k x), .lit (.int k' y)] = some (.lit (.int k (min x y))) := rfl
@[go_sem] theorem amaxL_three (k k' k'' : IntKind) (x y z : Int) : amaxL true [.lit (.int k x), .lit (.int k' y), .lit (.int k'' z)] = some (.lit (.int k (max (max x y) z))) := rfl
@[go_sem] theorem aminL_three (k k' k'' : IntKind) (x y z : Int) : amaxL false [.lit (.int k x), .lit (.int k' y), .lit (.int k'' z)] = some (.lit (.int k (min (min x y) z))) := rfl
@[go_sem] theorem abin_int (op : BinOp) (t : TypeId) (c : Bool) (k k' : IntKind) (a b : Int) : abin P σ op t c (.lit (.int k a)) (.lit (.int k' b)) = (aint op k a k' b).map .lit := rfl
@[go_sem] theorem abin_str (op : BinOp) (t : TypeId) (c : Bool) (a b : ByteArray) : abin P σ op t c (.lit (.string a)) (.lit (.string b)) = (astr op a b).map .lit := rfl
@[go_sem] theorem aint_add (k : IntKind) (a b : Int) : aint .add k a k b = some (.int k (k.wrap (a + b))) := by simp [aint]
@[go_sem] theorem aint_sub (k : IntKind) (a b : Int) : aint .sub k a k b = some (.int k (k.wrap (a - b))) := by simp [aint]
@[go_sem] theorem aint_mul (k : IntKind) (a b : Int) : aint .mul k a k b = some (.int k (k.wrap (a * b))) := by simp [aint]
@[go_sem] theorem aint_eql (k : IntKind) (a b : Int) : aint .eql k a k b = some (.bool (decide (a = b))) := by simp [aint]
@[go_sem] theorem aint_neq (k : IntKind) (a b : Int) : aint .neq k a k b = some (.bool (!decide (a = b))) := by simp [aint]
@[go_sem] theorem aint_lss (k : IntKind) (a b : Int) : aint .lss k a k b = some (.bool (decide (a < b))) := by simp [aint]
@[go_sem] theorem aint_leq (k : IntKind) (a b : Int) : aint .leq k a k b = some (.bool (decide (a ≤ b))) := by simp [aint]
@[go_sem] theorem aint_gtr (k : IntKind) (a b : Int) : aint .gtr k a k b = some (.bool (decide (b < a))) := by simp [aint]
@[go_sem] theorem aint_geq (k : IntKind) (a b : Int) : aint .geq k a k b = some (.bool (decide (b ≤ a))) := by simp [aint]
@[go_sem] theorem aint_and (k : IntKind) (a b : Int) : aint .and k a k b = some (.int k (bAnd k a b)) := by simp [aint, bAnd]
@[go_sem] theorem aint_or (k : IntKind) (a b : Int) : aint .or k a k b = some (.int k (bOr k a b)) := by simp [aint, bOr]
@[go_sem] theorem aint_xor (k : IntKind) (a b : Int) : aint .xor k a k b = some (.int k (bXor k a b)) := by simp [aint, bXor]
theorem aint_quo (k : IntKind) (a b : Int) (h : b ≠ 0) : aint .quo k a k b = some (.int k (k.wrap (a.tdiv b))) := by simp [aint, h]
theorem aint_rem (k : IntKind) (a b : Int) (h : b ≠ 0) : aint .rem k a k b = some (.int k (a.tmod b)) := by simp [aint, h]
@[go_sem] theorem astr_eql (a b : ByteArray) : astr .eql a b = some (.bool (decide (a = b))) := rfl
@[go_sem] theorem astr_neq (a b : ByteArray) : astr .neq a b = some (.bool (!decide (a = b))) := rfl
@[go_sem] theorem astr_lss (a b : ByteArray) : astr .lss a b = some (.bool (sLt a b)) := rfl
@[go_sem] theorem astr_gtr (a b : ByteArray) : astr .gtr a b = some (.bool !(sLt a b || decide (a = b))) := rfl
@[go_sem] theorem astr_leq (a b : ByteArray) : astr .leq a b = some (.bool (sLt a b || decide (a = b))) := rfl
@[go_sem] theorem astr_geq (a b : ByteArray) : astr .geq a b = some (.bool !(sLt a b)) := rfl
theorem astr_add (a b : ByteArray) (h : a.size + b.size ≤ maxText) : astr .add a b = some (.string (a ++ b)) := by simp [astr, h]
@[go_sem] theorem apick_bool (t x y : Bool) : apick t (.lit (.bool x)) (.lit (.bool y)) = .lit (.bool (bif t then x else y)) := rfl
end

theorem wrap_i64 (n : Int) (h1 : -9223372036854775808 ≤ n) (h2 : n ≤ 9223372036854775807) : IntKind.i64.wrap n = n := by
  unfold IntKind.wrap
  simp only [IntKind.bits, IntKind.signed, Bool.true_and, decide_eq_true_eq, ge_iff_le]
  have e1 : (2 : Int) ^ 64 = 18446744073709551616 := by decide
  have e2 : (2 : Int) ^ (64 - 1) = 9223372036854775808 := by decide
  simp only [e1, e2]
  split <;> omega

attribute [go_sem] arecv Store.delO Store.del_ne Store.newTok_heap Store.set_tok Store.newTok_get Store.newTok_set afieldAddr aload aindexAddr afield aindex abuild anil aunop aconvert alen apart aro placeOf afill aput slOf AVal.cells AVal.solid AVal.one ofConst zeroCells' Store.set_get Store.set_ne abound alow ahigh aret

@[go_sem] theorem toList_lit {β : Type} (l : List β) : l.toArray.toList = l := rfl
@[go_sem] theorem aresults_nil (P : Program) (e : Env) (σ : Store) : aresults P [] e σ = some [] := rfl
@[go_sem] theorem aresults_tmp (P : Program) (e : Env) (σ : Store) (t : Tmp) (rs : List ResultVar) : aresults P (.tmp t :: rs) e σ = match aresults P rs e σ with | some vs => some (e t :: vs) | none => none := by
  unfold aresults
  rw [List.mapM_cons]
  generalize hq : rs.mapM (m := Option) (fun
    | .tmp t => some (e t)
    | .cell a t => aload P σ t (e a)) = q
  cases q <;> simp [hq]
@[go_sem] theorem aresults_cell (P : Program) (e : Env) (σ : Store) (a : Tmp) (t : TypeId) (rs : List ResultVar) : aresults P (.cell a t :: rs) e σ = match aload P σ t (e a), aresults P rs e σ with | some v, some vs => some (v :: vs) | _, _ => none := by
  unfold aresults
  rw [List.mapM_cons]
  generalize hq : rs.mapM (m := Option) (fun
    | .tmp t => some (e t)
    | .cell a t => aload P σ t (e a)) = q
  cases hl : aload P σ t (e a) <;> cases q <;> simp [hq, hl]

attribute [go_sem] if_pos aslice Int.toNat_natCast List.length_map List.map_append Bool.false_eq_true ne_eq not_true_eq_false not_false_eq_true and_self and_true true_and Nat.add_zero Nat.zero_add Option.map_some Option.map_none Option.bind_some Option.isSome_some List.length_cons List.length_nil List.map_cons List.map_nil List.nil_append List.cons_append List.append_nil List.take_succ_cons List.take_zero List.drop_succ_cons List.drop_zero List.getElem?_cons_zero List.getElem?_cons_succ Int.toNat_zero Int.le_refl decide_true decide_false beq_self_eq_true Bool.and_self Bool.and_true Bool.true_and Bool.and_false Bool.false_and cond_true cond_false Bool.not_true Bool.not_false Bool.or_self Bool.or_false Bool.or_true Bool.true_or Bool.false_or

attribute [go_sem] astringOf_sl astringOf_own astringOf_nil bytesL_length bytesL_append bytesL_take_drop bytesL_take extract_all

/-! ### steps -/

section
variable {P : Program} {ops : Array Oper} {Kk : Env → Store → Prop} {o : Oper} {rest : List Oper} {e : Env} {σ : Store}

theorem aL_nil (h : Kk e σ) : aList P ops Kk [] e σ := h

/-- an operation that only looks -/
theorem aL_S {d : Tmp} {a : AVal} (hg : o.guard = none) (hd : o.dst = some d) (ha : aval P o.op (aev e) σ = some a) (h : aList P ops Kk rest (upd e d a) σ) : aList P ops Kk (o :: rest) e σ := by
  unfold aList aStep wantedA
  simp only [hg, hd, updo]
  exact AOp_val ha h

/-- another one -/
theorem aL_X {d : Tmp} (hg : o.guard = none) (hd : o.dst = some d) (h : AOp P o (aev e) σ fun a σ' => aList P ops Kk rest (upd e d a) σ') : aList P ops Kk (o :: rest) e σ := by
  unfold aList aStep wantedA
  simp only [hg, hd, updo]
  exact h

theorem aL_X0 (hg : o.guard = none) (hd : o.dst = none) (h : AOp P o (aev e) σ fun _ σ' => aList P ops Kk rest e σ') : aList P ops Kk (o :: rest) e σ := by
  unfold aList aStep wantedA
  simp only [hg, hd, updo]
  exact h

end

section
variable {P : Program} {ops : Array Oper} {s0 : Store} {Kk : Env → Store → Prop} {o : Oper} {i : Nat} {r : DT} {e : Env} {σ : Store}

theorem dR_nil (h : Kk e σ) : dRun P ops s0 Kk .nil e σ := h

/-- each of several first -/
theorem dR_alt {k : Nat} {t : DT} (h1 : dRun P ops s0 Kk (.op i (k + 1) r) e σ) (h2 : dRun P ops s0 Kk t e σ) : dRun P ops s0 Kk (.alt i (k + 1) r t) e σ := by
  cases k with
  | zero => exact ⟨h1, h2⟩
  | succ k => exact ⟨h1, h2⟩

theorem dR_S {d : Tmp} {a : AVal} (ho : ops[i]? = some o) (hg : o.guard = none) (hd : o.dst = some d) (ha : aval P o.op (aev e) s0 = some a) (h : dRun P ops s0 Kk r (upd e d a) σ) : dRun P ops s0 Kk (.op i 0 r) e σ := by
  refine ⟨o, a, ho, .inl ⟨by simp [wantedA, hg], ha⟩, ?_⟩
  rw [hd]; exact h

/-- one whose value does not hang on what is in the store -/
theorem dR_A {d : Tmp} {a : AVal} (ho : ops[i]? = some o) (hg : o.guard = none) (hd : o.dst = some d) (ha : ∀ s, aval P o.op (aev e) s = some a) (h : dRun P ops s0 Kk r (upd e d a) σ) : dRun P ops s0 Kk (.any i r) e σ := by
  refine ⟨o, a, ho, fun s => .inl ⟨by simp [wantedA, hg], ha s⟩, ?_⟩
  rw [hd]; exact h

/-- its guard says yes -/
theorem dR_SY {d : Tmp} {a : AVal} (ho : ops[i]? = some o) (hd : o.dst = some d) (hw : wantedA ops o e = some true) (ha : aval P o.op (aev e) s0 = some a) (h : dRun P ops s0 Kk r (upd e d a) σ) : dRun P ops s0 Kk (.op i 0 r) e σ := by
  refine ⟨o, a, ho, .inl ⟨hw, ha⟩, ?_⟩
  rw [hd]; exact h

/-- its guard says no -/
theorem dR_SN {d : Tmp} (ho : ops[i]? = some o) (hd : o.dst = some d) (hw : wantedA ops o e = some false) (h : dRun P ops s0 Kk r (upd e d (.lit undef)) σ) : dRun P ops s0 Kk (.op i 0 r) e σ := by
  refine ⟨o, .lit undef, ho, .inr ⟨hw, rfl⟩, ?_⟩
  rw [hd]; exact h

theorem dR_X {d : Tmp} (ho : ops[i]? = some o) (hd : o.dst = some d) (hw : wantedA ops o e = some true) (h : AOp P o (aev e) σ fun a σ' => s0.Sub σ' ∧ dRun P ops s0 Kk r (upd e d a) σ') : dRun P ops s0 Kk (.op i 1 r) e σ := by
  refine ⟨o, ho, ?_⟩
  unfold aStep
  simp only [hw, hd, updo]
  exact h

theorem dR_X0 (ho : ops[i]? = some o) (hd : o.dst = none) (hw : wantedA ops o e = some true) (h : AOp P o (aev e) σ fun a σ' => s0.Sub σ' ∧ dRun P ops s0 Kk r e σ') : dRun P ops s0 Kk (.op i 1 r) e σ := by
  refine ⟨o, ho, ?_⟩
  unfold aStep
  simp only [hw, hd, updo]
  exact h

theorem dR_XN {d : Tmp} (ho : ops[i]? = some o) (hd : o.dst = some d) (hw : wantedA ops o e = some false) (hs : s0.Sub σ) (h : dRun P ops s0 Kk r (upd e d (.lit undef)) σ) : dRun P ops s0 Kk (.op i 1 r) e σ := by
  refine ⟨o, ho, ?_⟩
  unfold aStep
  simp only [hw, hd, updo]
  exact ⟨hs, h⟩

theorem dR_T {d : Tmp} (ho : ops[i]? = some o) (hd : o.dst = some d) (hw : wantedA ops o e = some true) (h : AOp P o (aev e) σ fun a σ' => dRun P ops s0 Kk r (upd e d a) σ') : dRun P ops s0 Kk (.op i 2 r) e σ := by
  refine ⟨o, ho, ?_⟩
  unfold aStep
  simp only [hw, hd, updo]
  exact h

theorem dR_T0 (ho : ops[i]? = some o) (hd : o.dst = none) (hw : wantedA ops o e = some true) (h : AOp P o (aev e) σ fun a σ' => dRun P ops s0 Kk r e σ') : dRun P ops s0 Kk (.op i 2 r) e σ := by
  refine ⟨o, ho, ?_⟩
  unfold aStep
  simp only [hw, hd, updo]
  exact h

end

/-- a contract at a call -/
theorem AOp_use {P : Program} {o : Oper} {α : Operand → AVal} {σ : Store} {Kk : AVal → Store → Prop} {c : Call} {f : Operand} {g : FuncId} {first captured args : List AVal} {Q : AVal → Store → Prop} (ho : o.op = .call c) (hc : c.callee = .value f)
    (hf : α f = .fn (.func g) first captured ∨ (α f = .lit (.func (.func g) #[] #[]) ∧ first = [] ∧ captured = [])) (hg : isGo P g = true)
    (hargs : first ++ c.args.toList.map α ++ captured = args) (hcon : ACalls P g args σ Q) (hk : ∀ a σ', Q a σ' → Kk a σ') : AOp P o α σ Kk := by
  subst hargs
  exact AOp_call ho hc hf hg (hcon.mono hk)

/-- what a call by an interface does -/
def AInv (P : Program) (t : TypeId) (a : AVal) (name : String) (xs : List AVal) (σ : Store) (Q : AVal → Store → Prop) : Prop :=
  ∃ f ptr r, ameth P t name = some (f, ptr) ∧ arecv P σ t ptr a = some r ∧ isGo P f = true ∧ ACalls P f (r :: xs) σ Q

theorem AOp_invokeI {P : Program} {o : Oper} {α : Operand → AVal} {σ : Store} {Kk : AVal → Store → Prop} {x : Operand} {name : String} {args : Array Operand} {ts : Array TypeId} {t : TypeId} {a : AVal} {xs : List AVal} {Q : AVal → Store → Prop}
    (ho : o.op = .call { callee := .invoke x name, args := args, argTypes := ts }) (hx : α x = .iface t a) (has : args.toList.map α = xs) (h : AInv P t a name xs σ Q) (hk : ∀ v σ', Q v σ' → Kk v σ') : AOp P o α σ Kk := by
  subst has
  obtain ⟨f, ptr, r, h1, h2, h3, h4⟩ := h
  exact AOp_invoke ho hx h1 h2 h3 rfl h4 hk

theorem sub_upd {σ σ' : Store} {o : Nat} {x : AObj} (h : σ.Sub σ') (ho : σ.heap o = none) : σ.Sub (σ'.set o x) := ⟨fun i y hy => by
  by_cases hi : i = o
  · subst hi; rw [ho] at hy; cases hy
  · rw [Store.set_ne _ _ hi]; exact h.heap i y hy, h.tok⟩

theorem none_set {σ : Store} {o j : Nat} {x : AObj} (h : (σ.set o x).heap j = none) : j ≠ o ∧ σ.heap j = none := by
  by_cases hj : j = o
  · subst hj; rw [Store.set_get] at h; cases h
  · exact ⟨hj, by rw [Store.set_ne _ _ hj] at h; exact h⟩

theorem sub_set {σ : Store} {o : Nat} {x : AObj} (h : σ.heap o = none) : σ.Sub (σ.set o x) := ⟨fun i y hy => by
  by_cases hi : i = o
  · subst hi; rw [h] at hy; cases hy
  · rw [Store.set_ne _ _ hi]; exact hy, fun _ _ h => h⟩

section
variable {P : Program} {ops : Array Oper} {s0 : Store} {Kk : Env → Store → Prop} {o : Oper} {rest : List Oper} {i : Nat} {r : DT} {e : Env} {σ : Store}

theorem AOp_box' {α : Operand → AVal} {Kk : AVal → Store → Prop} {t : TypeId} {x : Operand} {a : AVal} {cs : List AVal} (ho : o.op = .box t x) (hx : α x = a) (hs : a.solid = true) (hc : a.cells = cs)
    (h : ∀ j, σ.heap j = none → Kk (.ref j 0) (σ.set j (.cells cs))) : AOp P o α σ Kk := by
  subst hx; subst hc; exact AOp_box ho hs h

theorem aL_box {d : Tmp} {t : TypeId} {x : Operand} {a : AVal} {cs : List AVal} (hg : o.guard = none) (hd : o.dst = some d) (ho : o.op = .box t x) (hx : aev e x = a) (hs : a.solid = true) (hc : a.cells = cs)
    (h : ∀ j, σ.heap j = none → aList P ops Kk rest (upd e d (.ref j 0)) (σ.set j (.cells cs))) : aList P ops Kk (o :: rest) e σ :=
  aL_X hg hd (AOp_box' ho hx hs hc h)

theorem AOp_alloc' {α : Operand → AVal} {Kk : AVal → Store → Prop} {t : TypeId} {z : Value} {cs : List AVal} (ho : o.op = .alloc t) (hz : zeroOf P t = some z) (hc : zeroCells' z = cs)
    (h : ∀ j, σ.heap j = none → Kk (.ref j 0) (σ.set j (.cells cs))) : AOp P o α σ Kk := by
  subst hc; exact AOp_alloc ho hz h

theorem aL_alloc {d : Tmp} {t : TypeId} {z : Value} {cs : List AVal} (hg : o.guard = none) (hd : o.dst = some d) (ho : o.op = .alloc t) (hz : zeroOf P t = some z) (hc : zeroCells' z = cs)
    (h : ∀ j, σ.heap j = none → aList P ops Kk rest (upd e d (.ref j 0)) (σ.set j (.cells cs))) : aList P ops Kk (o :: rest) e σ :=
  aL_X hg hd (AOp_alloc' ho hz hc h)

theorem AOp_store' {α : Operand → AVal} {Kk : AVal → Store → Prop} {t : TypeId} {ad x : Operand} {j off size : Nat} {g : Bool} {cs cs' : List AVal} {a : AVal} (ho : o.op = .store t ad x) (ha : α ad = .ref j off) (hx : α x = a) (hh : σ.heap j = some (.cells cs))
    (ht : typeOf P t = some (size, g)) (hs : a.solid = true) (hcs : a.cells = cs') (hones : ∀ c ∈ cs', c.one = true) (hsz : cs'.length = size) (hle : off + size ≤ cs.length) {cs2 : List AVal} (hp : aput cs off cs' = cs2) (h : Kk .any (σ.set j (.cells cs2))) : AOp P o α σ Kk := by
  subst hx; subst hcs; subst hp; exact AOp_store ho ha hh ht hs hones hsz hle h

theorem aL_store {t : TypeId} {ad x : Operand} {j off size : Nat} {g : Bool} {cs cs' : List AVal} {a : AVal} (hg : o.guard = none) (hd : o.dst = none) (ho : o.op = .store t ad x) (ha : aev e ad = .ref j off) (hx : aev e x = a) (hh : σ.heap j = some (.cells cs))
    (ht : typeOf P t = some (size, g)) (hs : a.solid = true) (hcs : a.cells = cs') (hones : ∀ c ∈ cs', c.one = true) (hsz : cs'.length = size) (hle : off + size ≤ cs.length) {cs2 : List AVal} (hp : aput cs off cs' = cs2)
    (h : aList P ops Kk rest e (σ.set j (.cells cs2))) : aList P ops Kk (o :: rest) e σ :=
  aL_X0 hg hd (AOp_store' ho ha hx hh ht hs hcs hones hsz hle hp h)

theorem aput_one {cs : List AVal} {k : Nat} {a : AVal} (h : k < cs.length) : aput cs k [a] = cs.set k a := by
  unfold aput
  rw [List.set_eq_take_append_cons_drop, if_pos h]
  simp

theorem dR_store {t : TypeId} {ad x : Operand} {j off size : Nat} {g : Bool} {cs cs' : List AVal} {a : AVal} (hop : ops[i]? = some o) (hd : o.dst = none) (hw : wantedA ops o e = some true) (ho : o.op = .store t ad x) (ha : aev e ad = .ref j off) (hx : aev e x = a) (hh : σ.heap j = some (.cells cs))
    (ht : typeOf P t = some (size, g)) (hs : a.solid = true) (hcs : a.cells = cs') (hones : ∀ c ∈ cs', c.one = true) (hsz : cs'.length = size) (hle : off + size ≤ cs.length) {cs2 : List AVal} (hp : aput cs off cs' = cs2)
    (h : dRun P ops s0 Kk r e (σ.set j (.cells cs2))) : dRun P ops s0 Kk (.op i 2 r) e σ :=
  dR_T0 hop hd hw (AOp_store' ho ha hx hh ht hs hcs hones hsz hle hp h)

theorem AOp_append' {α : Operand → AVal} {Kk : AVal → Store → Prop} {s x : Operand} {t el : TypeId} {sz by_ k : Nat} {l l2 : List AVal} (ho : o.op = .call { callee := .builtin .append, args := #[s, x], argTypes := #[t, t] }) (hse : sliceElem P t = some el) (hte : appInfo P el = some (sz, by_))
    (hs : α s = .own k sz l) (hk : σ.tok k = some (el, sz)) (hx : slOf (α x) = some (sz, l2)) (hone : ∀ y ∈ l2, ∀ c ∈ y.cells, c.one = true) (hlen : (l.length + l2.length) * by_ ≤ 140737488355328)
    (h : ∀ t', σ.tok t' = none → Kk (.own t' sz (l ++ l2)) (σ.newTok (some k) t' (el, sz))) : AOp P o α σ Kk :=
  AOp_append ho hse hte (.inl ⟨k, hs, hk, rfl⟩) (.inl hx) hone hlen h

theorem AOp_appendN {α : Operand → AVal} {Kk : AVal → Store → Prop} {s x : Operand} {t el : TypeId} {sz by_ : Nat} {l2 : List AVal} (ho : o.op = .call { callee := .builtin .append, args := #[s, x], argTypes := #[t, t] }) (hse : sliceElem P t = some el) (hte : appInfo P el = some (sz, by_))
    (hs : α s = .lit (.slice none 0 0)) (hx : slOf (α x) = some (sz, l2)) (hone : ∀ y ∈ l2, ∀ c ∈ y.cells, c.one = true) (hlen : l2.length * by_ ≤ 140737488355328)
    (h : ∀ t', σ.tok t' = none → Kk (.own t' sz l2) (σ.newTok none t' (el, sz))) : AOp P o α σ Kk :=
  AOp_append ho hse hte (.inr ⟨hs, rfl, rfl⟩) (.inl hx) hone (by simpa using hlen) h

theorem aL_append {d : Tmp} {s x : Operand} {t el : TypeId} {sz by_ k : Nat} {l l2 : List AVal} (hg : o.guard = none) (hd : o.dst = some d) (ho : o.op = .call { callee := .builtin .append, args := #[s, x], argTypes := #[t, t] }) (hse : sliceElem P t = some el) (hte : appInfo P el = some (sz, by_))
    (hs : aev e s = .own k sz l) (hk : σ.tok k = some (el, sz)) (hx : slOf (aev e x) = some (sz, l2)) (hone : ∀ y ∈ l2, ∀ c ∈ y.cells, c.one = true) (hlen : (l.length + l2.length) * by_ ≤ 140737488355328)
    (h : ∀ t', σ.tok t' = none → aList P ops Kk rest (upd e d (.own t' sz (l ++ l2))) (σ.newTok (some k) t' (el, sz))) : aList P ops Kk (o :: rest) e σ :=
  aL_X hg hd (AOp_append' ho hse hte hs hk hx hone hlen h)

theorem aL_appendN {d : Tmp} {s x : Operand} {t el : TypeId} {sz by_ : Nat} {l2 : List AVal} (hg : o.guard = none) (hd : o.dst = some d) (ho : o.op = .call { callee := .builtin .append, args := #[s, x], argTypes := #[t, t] }) (hse : sliceElem P t = some el) (hte : appInfo P el = some (sz, by_))
    (hs : aev e s = .lit (.slice none 0 0)) (hx : slOf (aev e x) = some (sz, l2)) (hone : ∀ y ∈ l2, ∀ c ∈ y.cells, c.one = true) (hlen : l2.length * by_ ≤ 140737488355328)
    (h : ∀ t', σ.tok t' = none → aList P ops Kk rest (upd e d (.own t' sz l2)) (σ.newTok none t' (el, sz))) : aList P ops Kk (o :: rest) e σ :=
  aL_X hg hd (AOp_appendN ho hse hte hs hx hone hlen h)

theorem AOp_bytesOf' {α : Operand → AVal} {Kk : AVal → Store → Prop} {src dst el : TypeId} {x : Operand} {s : ByteArray} (ho : o.op = .convert src dst x) (hs : P.underlying src = some .string) (hd : P.underlying dst = some (.slice el)) (he : P.underlying el = some (.int .u8)) (hx : α x = .lit (.string s))
    (h : Kk (.sl 1 (bytesL s) false) σ) : AOp P o α σ Kk := AOp_bytesOf ho hs hd he hx h

theorem aL_bytesOf {d : Tmp} {src dst el : TypeId} {x : Operand} {s : ByteArray} (hg : o.guard = none) (hd' : o.dst = some d) (ho : o.op = .convert src dst x) (hs : P.underlying src = some .string) (hd : P.underlying dst = some (.slice el)) (he : P.underlying el = some (.int .u8)) (hx : aev e x = .lit (.string s))
    (h : aList P ops Kk rest (upd e d (.sl 1 (bytesL s) false)) σ) : aList P ops Kk (o :: rest) e σ := aL_X hg hd' (AOp_bytesOf ho hs hd he hx h)

theorem dR_bytesOf {d : Tmp} {src dst el : TypeId} {x : Operand} {s : ByteArray} (hop : ops[i]? = some o) (hd' : o.dst = some d) (hw : wantedA ops o e = some true) (ho : o.op = .convert src dst x) (hs : P.underlying src = some .string) (hd : P.underlying dst = some (.slice el)) (he : P.underlying el = some (.int .u8)) (hx : aev e x = .lit (.string s))
    (hsub : s0.Sub σ) (h : dRun P ops s0 Kk r (upd e d (.sl 1 (bytesL s) false)) σ) : dRun P ops s0 Kk (.op i 1 r) e σ := dR_X hop hd' hw (AOp_bytesOf ho hs hd he hx ⟨hsub, h⟩)

theorem ASrc_sl {sz : Nat} {tx el : TypeId} {x : AVal} {l2 : List AVal} (hk : P.underlying tx = some (.slice el)) (hx : slOf x = some (sz, l2)) (hone : ∀ y ∈ l2, ∀ c ∈ y.cells, c.one = true) : ASrc P sz tx x l2 := .inl ⟨⟨el, hk⟩, .inl hx, hone⟩
theorem ASrc_str {tx : TypeId} {s : ByteArray} (hk : P.underlying tx = some .string) : ASrc P 1 tx (.lit (.string s)) (bytesL s) := .inr ⟨hk, rfl, s, rfl, rfl⟩

theorem AOp_appendT' {α : Operand → AVal} {Kk : AVal → Store → Prop} {s x : Operand} {t tx el : TypeId} {sz by_ : Nat} {l l2 : List AVal} {b : AVal} (ho : o.op = .call { callee := .builtin .append, args := #[s, x], argTypes := #[t, tx] }) (hse : sliceElem P t = some el) (hte : appInfo P el = some (sz, by_))
    (hs : α s = .sl sz l true) (hb : α x = b) (hx : ASrc P sz tx b l2) (hlen : (l.length + l2.length) * by_ ≤ 140737488355328) (h : Kk (.sl sz (l ++ l2) false) σ) : AOp P o α σ Kk := by
  subst hb; exact AOp_appendTight ho hse hte (.inl hs) hx hlen h

theorem aL_appendT {d : Tmp} {s x : Operand} {t tx el : TypeId} {sz by_ : Nat} {l l2 : List AVal} {b : AVal} (hg : o.guard = none) (hd : o.dst = some d) (ho : o.op = .call { callee := .builtin .append, args := #[s, x], argTypes := #[t, tx] }) (hse : sliceElem P t = some el) (hte : appInfo P el = some (sz, by_))
    (hs : aev e s = .sl sz l true) (hb : aev e x = b) (hx : ASrc P sz tx b l2) (hlen : (l.length + l2.length) * by_ ≤ 140737488355328) (h : aList P ops Kk rest (upd e d (.sl sz (l ++ l2) false)) σ) : aList P ops Kk (o :: rest) e σ :=
  aL_X hg hd (AOp_appendT' ho hse hte hs hb hx hlen h)

theorem dR_appendT {d : Tmp} {s x : Operand} {t tx el : TypeId} {sz by_ : Nat} {l l2 : List AVal} {b : AVal} (hop : ops[i]? = some o) (hd : o.dst = some d) (hw : wantedA ops o e = some true) (ho : o.op = .call { callee := .builtin .append, args := #[s, x], argTypes := #[t, tx] }) (hse : sliceElem P t = some el) (hte : appInfo P el = some (sz, by_))
    (hs : aev e s = .sl sz l true) (hb : aev e x = b) (hx : ASrc P sz tx b l2) (hlen : (l.length + l2.length) * by_ ≤ 140737488355328) (hsub : s0.Sub σ) (h : dRun P ops s0 Kk r (upd e d (.sl sz (l ++ l2) false)) σ) : dRun P ops s0 Kk (.op i 1 r) e σ :=
  dR_X hop hd hw (AOp_appendT' ho hse hte hs hb hx hlen ⟨hsub, h⟩)

theorem aL_nilOwn {d : Tmp} {x : Operand} (el : TypeId) (sz : Nat) (hg : o.guard = none) (hd : o.dst = some d) (ho : o.op = .assign x) (hx : aev e x = .lit (.slice none 0 0))
    (h : ∀ t', σ.tok t' = none → aList P ops Kk rest (upd e d (.own t' sz [])) (σ.newTok none t' (el, sz))) : aList P ops Kk (o :: rest) e σ :=
  aL_X hg hd (AOp_nilOwn ho hx h)

/-- nil, as a slice of nothing -/
theorem aL_nilSl {d : Tmp} {x : Operand} (sz : Nat) (hg : o.guard = none) (hd : o.dst = some d) (ho : o.op = .assign x) (hx : aev e x = .lit (.slice none 0 0)) (h : aList P ops Kk rest (upd e d (.sl sz [] false)) σ) : aList P ops Kk (o :: rest) e σ := by
  refine aL_X hg hd ?_
  obtain ⟨dst, op, ty, pos, after, guard⟩ := o
  obtain rfl : op = .assign x := ho
  intro κ ev hI hxx
  have hv := hxx x (by simp [Op.operands])
  rw [hx] at hv
  have : (execOp ev { dst := dst, op := .assign x, type := ty, pos := pos, after := after, guard := guard }).run P κ.w = .ok (.value (ev x)) κ.w := by simp [execOp]
  rw [this, hv.litInv]
  exact ⟨κ, .sl sz [] false, σ, rfl, .refl κ, hI, .slNil _ _, h⟩

theorem AOp_buildSlice' {α : Operand → AVal} {Kk : AVal → Store → Prop} {t el : TypeId} {n sz by_ : Nat} {parts : List (Nat × Operand)} {l : List AVal} (ho : o.op = .buildSlice t n parts.toArray) (hse : sliceElem P t = some el) (hte : appInfo P el = some (sz, by_)) (hn : parts.length = n)
    (hr : parts.map (·.1) = List.range' 0 parts.length) (hl : (parts.map fun p => α p.2) = l) (hs : ∀ p ∈ parts, (α p.2).solid = true ∧ (α p.2).cells.length = sz) (hbig : n * sz ≤ 16777216) (hk : Kk (.sl sz l true) σ) : AOp P o α σ Kk := by
  subst hl
  exact AOp_buildSlice ho hse hte hn hr hs hbig hk

theorem aL_buildSlice {d : Tmp} {t el : TypeId} {n sz by_ : Nat} {parts : List (Nat × Operand)} {l : List AVal} (hg : o.guard = none) (hd : o.dst = some d) (ho : o.op = .buildSlice t n parts.toArray) (hse : sliceElem P t = some el) (hte : appInfo P el = some (sz, by_)) (hn : parts.length = n)
    (hr : parts.map (·.1) = List.range' 0 parts.length) (hl : (parts.map fun p => aev e p.2) = l) (hs : ∀ p ∈ parts, (aev e p.2).solid = true ∧ (aev e p.2).cells.length = sz) (hbig : n * sz ≤ 16777216) (h : aList P ops Kk rest (upd e d (.sl sz l true)) σ) : aList P ops Kk (o :: rest) e σ :=
  aL_X hg hd (AOp_buildSlice' ho hse hte hn hr hl hs hbig h)

theorem sub_setR {σ σ' : Store} {o : Nat} {x : AObj} (h : σ.Sub σ') (ho : σ'.heap o = none) : σ.Sub (σ'.set o x) := ⟨fun i y hy => by
  by_cases hi : i = o
  · subst hi; rw [h.heap i y hy] at ho; cases ho
  · rw [Store.set_ne _ _ hi]; exact h.heap i y hy, h.tok⟩

theorem dR_box {d : Tmp} {t : TypeId} {x : Operand} {a : AVal} {cs : List AVal} (hop : ops[i]? = some o) (hd : o.dst = some d) (hw : wantedA ops o e = some true) (ho : o.op = .box t x) (hx : aev e x = a) (hs : a.solid = true) (hc : a.cells = cs) (hsub : s0.Sub σ)
    (h : ∀ j, σ.heap j = none → dRun P ops s0 Kk r (upd e d (.ref j 0)) (σ.set j (.cells cs))) : dRun P ops s0 Kk (.op i 1 r) e σ :=
  dR_X hop hd hw (AOp_box' ho hx hs hc fun j hj => ⟨sub_setR hsub hj, h j hj⟩)

theorem dR_alloc {d : Tmp} {t : TypeId} {z : Value} {cs : List AVal} (hop : ops[i]? = some o) (hd : o.dst = some d) (hw : wantedA ops o e = some true) (ho : o.op = .alloc t) (hz : zeroOf P t = some z) (hc : zeroCells' z = cs) (hsub : s0.Sub σ)
    (h : ∀ j, σ.heap j = none → dRun P ops s0 Kk r (upd e d (.ref j 0)) (σ.set j (.cells cs))) : dRun P ops s0 Kk (.op i 1 r) e σ :=
  dR_X hop hd hw (AOp_alloc' ho hz hc fun j hj => ⟨sub_setR hsub hj, h j hj⟩)

theorem aEnd_ret {rs : List ResultVar} {Q : AVal → Store → Prop} {v : AVal} {σ' : Store} (h : aret P rs e σ = some v) (hs : σ'.Wk σ) (hq : Q v σ') : aEnd P rs Q .ret e σ := ⟨v, v, σ', h, .refl _, hs, hq⟩
theorem aEnd_nor {rs : List ResultVar} {Q : AVal → Store → Prop} {v : AVal} {σ' : Store} (h : aret P rs e σ = some v) (hs : σ'.Wk σ) (hq : Q v σ') : aEnd P rs Q .normal e σ := ⟨v, v, σ', h, .refl _, hs, hq⟩
theorem aEnd_retW {rs : List ResultVar} {Q : AVal → Store → Prop} {v v' : AVal} {σ' : Store} (h : aret P rs e σ = some v') (hw : Wk v' v) (hs : σ'.Wk σ) (hq : Q v σ') : aEnd P rs Q .ret e σ := ⟨v, v', σ', h, hw, hs, hq⟩

end

end Go.Ab
end

section
set_option linter.all false
namespace Go.Ab

/-- what a guarded operation leaves -/
def gval (b : Bool) (a : AVal) : AVal := bif b then a else .lit undef
@[go_sem] theorem gval_true (a : AVal) : gval true a = a := rfl
@[go_sem] theorem gval_false (a : AVal) : gval false a = .lit undef := rfl
@[go_sem] theorem apick_and (b x y : Bool) : apick b (gval b (.lit (.bool x))) (.lit (.bool y)) = .lit (.bool (bif b then x else y)) := by cases b <;> rfl
@[go_sem] theorem apick_or (b x y : Bool) : apick b (.lit (.bool x)) (gval (!b) (.lit (.bool y))) = .lit (.bool (bif b then x else y)) := by cases b <;> rfl
@[go_sem] theorem cond_and (b x : Bool) : (bif b then x else false) = (b && x) := by cases b <;> rfl
@[go_sem] theorem cond_or (b x : Bool) : (bif b then true else x) = (b || x) := by cases b <;> rfl

theorem wantedA_is {ops : Array Oper} {o : Oper} {e : Env} {j d : Nat} {w b : Bool} (hg : o.guard = some (j, w)) (hd : (ops[j]?).bind (·.dst) = some d) (he : e d = .lit (.bool b)) : wantedA ops o e = some (b == w) := by
  unfold wantedA
  simp only [hg, hd, he]

@[go_sem] theorem gval_gval (b c : Bool) (a : AVal) : gval b (gval c a) = gval (b && c) a := by cases b <;> rfl
theorem wantedA_gg {ops : Array Oper} {o : Oper} {e : Env} {j d : Nat} {w b c : Bool} (hg : o.guard = some (j, w)) (hd : (ops[j]?).bind (·.dst) = some d) (he : e d = gval b (.lit (.bool c))) : wantedA ops o e = some (b && (c == w)) := by
  cases b with
  | true => rw [wantedA_is hg hd he]; rfl
  | false =>
    unfold wantedA
    simp only [hg, hd, he]
    rfl

theorem wantedA_not {ops : Array Oper} {o : Oper} {e : Env} {j d : Nat} {w : Bool} {x : AVal} (hg : o.guard = some (j, w)) (hd : (ops[j]?).bind (·.dst) = some d) (he : e d = x) (hx : x = .lit (.bool (!w))) : wantedA ops o e = some false := by
  subst hx
  rw [wantedA_is hg hd he]
  cases w <;> rfl

theorem wantedA_no {ops : Array Oper} {o : Oper} {e : Env} {j d : Nat} {w : Bool} {x : AVal} (hg : o.guard = some (j, w)) (hd : (ops[j]?).bind (·.dst) = some d) (he : e d = x) (hx : x = .lit undef) : wantedA ops o e = some false := by
  subst hx
  unfold wantedA
  simp only [hg, hd, he]
  rfl

theorem wantedA_yes {ops : Array Oper} {o : Oper} {e : Env} {j d : Nat} {w : Bool} {x : AVal} (hg : o.guard = some (j, w)) (hd : (ops[j]?).bind (·.dst) = some d) (he : e d = x) (hx : x = .lit (.bool w)) : wantedA ops o e = some true := by
  subst hx
  rw [wantedA_is hg hd he]
  cases w <;> rfl

section
variable {P : Program} {ops : Array Oper} {Kk : Env → Store → Prop} {o : Oper} {rest : List Oper} {e : Env} {σ : Store}

/-- a guarded one that says yes -/
theorem aL_SY {d : Nat} {a : AVal} (hw : wantedA ops o e = some true) (hd : o.dst = some d) (ha : aval P o.op (aev e) σ = some a) (h : aList P ops Kk rest (upd e d a) σ) : aList P ops Kk (o :: rest) e σ := by
  unfold aList aStep
  rw [hw, hd]; exact AOp_val ha h

/-- an operation that runs just if 'b' -/
theorem aL_GT {d j dj : Nat} {a : AVal} {b : Bool} (hg : o.guard = some (j, true)) (hj : (ops[j]?).bind (·.dst) = some dj) (he : e dj = .lit (.bool b)) (hd : o.dst = some d) (ha : b = true → aval P o.op (aev e) σ = some a)
    (h : aList P ops Kk rest (upd e d (gval b a)) σ) : aList P ops Kk (o :: rest) e σ := by
  unfold aList aStep
  rw [wantedA_is hg hj he, hd]
  cases b with
  | true => exact AOp_val (ha rfl) h
  | false => exact h

theorem aL_GF {d j dj : Nat} {a : AVal} {b : Bool} (hg : o.guard = some (j, false)) (hj : (ops[j]?).bind (·.dst) = some dj) (he : e dj = .lit (.bool b)) (hd : o.dst = some d) (ha : (!b) = true → aval P o.op (aev e) σ = some a)
    (h : aList P ops Kk rest (upd e d (gval (!b) a)) σ) : aList P ops Kk (o :: rest) e σ := by
  unfold aList aStep
  rw [wantedA_is hg hj he, hd]
  cases b with
  | true => exact h
  | false => exact AOp_val (ha rfl) h

/-- a guard that is guarded itself -/
theorem aL_GGT {d j dj : Nat} {a : AVal} {b c : Bool} (hg : o.guard = some (j, true)) (hj : (ops[j]?).bind (·.dst) = some dj) (he : e dj = gval b (.lit (.bool c))) (hd : o.dst = some d) (ha : (b && c) = true → aval P o.op (aev e) σ = some a)
    (h : aList P ops Kk rest (upd e d (gval (b && c) a)) σ) : aList P ops Kk (o :: rest) e σ := by
  unfold aList aStep
  rw [wantedA_gg hg hj he, hd]
  have e1 : (b && (c == true)) = (b && c) := by cases b <;> cases c <;> rfl
  rw [e1]
  cases hbc : (b && c) with
  | true => rw [hbc] at h; exact AOp_val (ha hbc) h
  | false => rw [hbc] at h; exact h
theorem aL_GGF {d j dj : Nat} {a : AVal} {b c : Bool} (hg : o.guard = some (j, false)) (hj : (ops[j]?).bind (·.dst) = some dj) (he : e dj = gval b (.lit (.bool c))) (hd : o.dst = some d) (ha : (b && !c) = true → aval P o.op (aev e) σ = some a)
    (h : aList P ops Kk rest (upd e d (gval (b && !c) a)) σ) : aList P ops Kk (o :: rest) e σ := by
  unfold aList aStep
  rw [wantedA_gg hg hj he, hd]
  have e1 : (b && (c == false)) = (b && !c) := by cases b <;> cases c <;> rfl
  rw [e1]
  cases hbc : (b && !c) with
  | true => rw [hbc] at h; exact AOp_val (ha hbc) h
  | false => rw [hbc] at h; exact h
theorem aL_GGTX {d j dj : Nat} {a : AVal} {b c : Bool} (hg : o.guard = some (j, true)) (hj : (ops[j]?).bind (·.dst) = some dj) (he : e dj = gval b (.lit (.bool c))) (hd : o.dst = some d) (hx : (b && c) = true → AOp P o (aev e) σ fun v σ' => v = a ∧ σ = σ')
    (h : aList P ops Kk rest (upd e d (gval (b && c) a)) σ) : aList P ops Kk (o :: rest) e σ := by
  unfold aList aStep
  rw [wantedA_gg hg hj he, hd]
  have e1 : (b && (c == true)) = (b && c) := by cases b <;> cases c <;> rfl
  rw [e1]
  cases hbc : (b && c) with
  | true => rw [hbc] at h; exact (hx hbc).mono fun v σ' ⟨h1, h2⟩ => by subst h1; subst h2; exact h
  | false => rw [hbc] at h; exact h
theorem aL_GGFX {d j dj : Nat} {a : AVal} {b c : Bool} (hg : o.guard = some (j, false)) (hj : (ops[j]?).bind (·.dst) = some dj) (he : e dj = gval b (.lit (.bool c))) (hd : o.dst = some d) (hx : (b && !c) = true → AOp P o (aev e) σ fun v σ' => v = a ∧ σ = σ')
    (h : aList P ops Kk rest (upd e d (gval (b && !c) a)) σ) : aList P ops Kk (o :: rest) e σ := by
  unfold aList aStep
  rw [wantedA_gg hg hj he, hd]
  have e1 : (b && (c == false)) = (b && !c) := by cases b <;> cases c <;> rfl
  rw [e1]
  cases hbc : (b && !c) with
  | true => rw [hbc] at h; exact (hx hbc).mono fun v σ' ⟨h1, h2⟩ => by subst h1; subst h2; exact h
  | false => rw [hbc] at h; exact h

/-- a guarded one that says no -/
theorem aL_SN {d : Nat} (hw : wantedA ops o e = some false) (hd : o.dst = some d) (h : aList P ops Kk rest (upd e d (.lit undef)) σ) : aList P ops Kk (o :: rest) e σ := by
  unfold aList aStep
  rw [hw, hd]; exact h

theorem aL_SN0 (hw : wantedA ops o e = some false) (hd : o.dst = none) (h : aList P ops Kk rest e σ) : aList P ops Kk (o :: rest) e σ := by
  unfold aList aStep
  rw [hw, hd]; exact h

/-- a guarded one that says yes -/
theorem aL_XY {d : Nat} (hw : wantedA ops o e = some true) (hd : o.dst = some d) (h : AOp P o (aev e) σ fun a σ' => aList P ops Kk rest (upd e d a) σ') : aList P ops Kk (o :: rest) e σ := by
  unfold aList aStep
  rw [hw, hd]; exact h

/-- a call that runs just if 'b', and leaves the store as it was -/
theorem aL_GTX {d j dj : Nat} {a : AVal} {b : Bool} (hg : o.guard = some (j, true)) (hj : (ops[j]?).bind (·.dst) = some dj) (he : e dj = .lit (.bool b)) (hd : o.dst = some d) (hx : b = true → AOp P o (aev e) σ fun v σ' => v = a ∧ σ = σ')
    (h : aList P ops Kk rest (upd e d (gval b a)) σ) : aList P ops Kk (o :: rest) e σ := by
  unfold aList aStep
  rw [wantedA_is hg hj he, hd]
  cases b with
  | true => exact (hx rfl).mono fun v σ' ⟨h1, h2⟩ => by subst h1; subst h2; exact h
  | false => exact h

theorem aL_GFX {d j dj : Nat} {a : AVal} {b : Bool} (hg : o.guard = some (j, false)) (hj : (ops[j]?).bind (·.dst) = some dj) (he : e dj = .lit (.bool b)) (hd : o.dst = some d) (hx : (!b) = true → AOp P o (aev e) σ fun v σ' => v = a ∧ σ = σ')
    (h : aList P ops Kk rest (upd e d (gval (!b) a)) σ) : aList P ops Kk (o :: rest) e σ := by
  unfold aList aStep
  rw [wantedA_is hg hj he, hd]
  cases b with
  | true => exact h
  | false => exact (hx rfl).mono fun v σ' ⟨h1, h2⟩ => by subst h1; subst h2; exact h

end

section
variable {P : Program} {ops : Array Oper} {s0 : Store} {Kk : Env → Store → Prop} {o : Oper} {i : Nat} {r : DT} {e : Env} {σ : Store}

theorem dR_GT {d j dj : Nat} {a : AVal} {b : Bool} (ho : ops[i]? = some o) (hg : o.guard = some (j, true)) (hj : (ops[j]?).bind (·.dst) = some dj) (he : e dj = .lit (.bool b)) (hd : o.dst = some d) (ha : b = true → aval P o.op (aev e) s0 = some a)
    (h : dRun P ops s0 Kk r (upd e d (gval b a)) σ) : dRun P ops s0 Kk (.op i 0 r) e σ := by
  have hw := wantedA_is hg hj he
  cases b with
  | true => exact dR_SY ho hd hw (ha rfl) h
  | false => exact dR_SN ho hd hw h

theorem dR_GF {d j dj : Nat} {a : AVal} {b : Bool} (ho : ops[i]? = some o) (hg : o.guard = some (j, false)) (hj : (ops[j]?).bind (·.dst) = some dj) (he : e dj = .lit (.bool b)) (hd : o.dst = some d) (ha : (!b) = true → aval P o.op (aev e) s0 = some a)
    (h : dRun P ops s0 Kk r (upd e d (gval (!b) a)) σ) : dRun P ops s0 Kk (.op i 0 r) e σ := by
  have hw := wantedA_is hg hj he
  cases b with
  | true => exact dR_SN ho hd hw h
  | false => exact dR_SY ho hd hw (ha rfl) h

theorem dR_GTX {d j dj : Nat} {a : AVal} {b : Bool} (ho : ops[i]? = some o) (hg : o.guard = some (j, true)) (hj : (ops[j]?).bind (·.dst) = some dj) (he : e dj = .lit (.bool b)) (hd : o.dst = some d) (hs : s0.Sub σ) (hx : b = true → AOp P o (aev e) σ fun v σ' => v = a ∧ σ = σ')
    (h : dRun P ops s0 Kk r (upd e d (gval b a)) σ) : dRun P ops s0 Kk (.op i 1 r) e σ := by
  have hw := wantedA_is hg hj he
  cases b with
  | true => exact dR_X ho hd hw ((hx rfl).mono fun v σ' ⟨h1, h2⟩ => by subst h1; subst h2; exact ⟨hs, h⟩)
  | false => exact dR_XN ho hd hw hs h

theorem dR_GFX {d j dj : Nat} {a : AVal} {b : Bool} (ho : ops[i]? = some o) (hg : o.guard = some (j, false)) (hj : (ops[j]?).bind (·.dst) = some dj) (he : e dj = .lit (.bool b)) (hd : o.dst = some d) (hs : s0.Sub σ) (hx : (!b) = true → AOp P o (aev e) σ fun v σ' => v = a ∧ σ = σ')
    (h : dRun P ops s0 Kk r (upd e d (gval (!b) a)) σ) : dRun P ops s0 Kk (.op i 1 r) e σ := by
  have hw := wantedA_is hg hj he
  cases b with
  | true => exact dR_XN ho hd hw hs h
  | false => exact dR_X ho hd hw ((hx rfl).mono fun v σ' ⟨h1, h2⟩ => by subst h1; subst h2; exact ⟨hs, h⟩)

end

section
variable {P : Program} {ops : Array Oper} {s0 : Store} {Kk : Env → Store → Prop} {o : Oper} {i : Nat} {r : DT} {e : Env} {σ : Store}
theorem dR_GGT {d j dj : Nat} {a : AVal} {b c : Bool} (ho : ops[i]? = some o) (hg : o.guard = some (j, true)) (hj : (ops[j]?).bind (·.dst) = some dj) (he : e dj = gval b (.lit (.bool c))) (hd : o.dst = some d) (ha : (b && c) = true → aval P o.op (aev e) s0 = some a)
    (h : dRun P ops s0 Kk r (upd e d (gval (b && c) a)) σ) : dRun P ops s0 Kk (.op i 0 r) e σ := by
  have hw := wantedA_gg hg hj he
  have e1 : (b && (c == true)) = (b && c) := by cases b <;> cases c <;> rfl
  rw [e1] at hw
  cases hbc : (b && c) with
  | true => rw [hbc] at h hw; exact dR_SY ho hd hw (ha hbc) h
  | false => rw [hbc] at h hw; exact dR_SN ho hd hw h
theorem dR_GGF {d j dj : Nat} {a : AVal} {b c : Bool} (ho : ops[i]? = some o) (hg : o.guard = some (j, false)) (hj : (ops[j]?).bind (·.dst) = some dj) (he : e dj = gval b (.lit (.bool c))) (hd : o.dst = some d) (ha : (b && !c) = true → aval P o.op (aev e) s0 = some a)
    (h : dRun P ops s0 Kk r (upd e d (gval (b && !c) a)) σ) : dRun P ops s0 Kk (.op i 0 r) e σ := by
  have hw := wantedA_gg hg hj he
  have e1 : (b && (c == false)) = (b && !c) := by cases b <;> cases c <;> rfl
  rw [e1] at hw
  cases hbc : (b && !c) with
  | true => rw [hbc] at h hw; exact dR_SY ho hd hw (ha hbc) h
  | false => rw [hbc] at h hw; exact dR_SN ho hd hw h
theorem dR_GGTX {d j dj : Nat} {a : AVal} {b c : Bool} (ho : ops[i]? = some o) (hg : o.guard = some (j, true)) (hj : (ops[j]?).bind (·.dst) = some dj) (he : e dj = gval b (.lit (.bool c))) (hd : o.dst = some d) (hs : s0.Sub σ) (hx : (b && c) = true → AOp P o (aev e) σ fun v σ' => v = a ∧ σ = σ')
    (h : dRun P ops s0 Kk r (upd e d (gval (b && c) a)) σ) : dRun P ops s0 Kk (.op i 1 r) e σ := by
  have hw := wantedA_gg hg hj he
  have e1 : (b && (c == true)) = (b && c) := by cases b <;> cases c <;> rfl
  rw [e1] at hw
  cases hbc : (b && c) with
  | true => rw [hbc] at h hw; exact dR_X ho hd hw ((hx hbc).mono fun v σ' ⟨h1, h2⟩ => by subst h1; subst h2; exact ⟨hs, h⟩)
  | false => rw [hbc] at h hw; exact dR_XN ho hd hw hs h
theorem dR_GGFX {d j dj : Nat} {a : AVal} {b c : Bool} (ho : ops[i]? = some o) (hg : o.guard = some (j, false)) (hj : (ops[j]?).bind (·.dst) = some dj) (he : e dj = gval b (.lit (.bool c))) (hd : o.dst = some d) (hs : s0.Sub σ) (hx : (b && !c) = true → AOp P o (aev e) σ fun v σ' => v = a ∧ σ = σ')
    (h : dRun P ops s0 Kk r (upd e d (gval (b && !c) a)) σ) : dRun P ops s0 Kk (.op i 1 r) e σ := by
  have hw := wantedA_gg hg hj he
  have e1 : (b && (c == false)) = (b && !c) := by cases b <;> cases c <;> rfl
  rw [e1] at hw
  cases hbc : (b && !c) with
  | true => rw [hbc] at h hw; exact dR_X ho hd hw ((hx hbc).mono fun v σ' ⟨h1, h2⟩ => by subst h1; subst h2; exact ⟨hs, h⟩)
  | false => rw [hbc] at h hw; exact dR_XN ho hd hw hs h
end

/-- a contract that leaves the store as it was, at a call of which just the value is asked -/
theorem AOp_useV {P : Program} {o : Oper} {α : Operand → AVal} {σ : Store} {a : AVal} {c : Call} {f : Operand} {g : FuncId} {first captured args : List AVal} (ho : o.op = .call c) (hc : c.callee = .value f)
    (hf : α f = .fn (.func g) first captured ∨ (α f = .lit (.func (.func g) #[] #[]) ∧ first = [] ∧ captured = [])) (hg : isGo P g = true)
    (hargs : first ++ c.args.toList.map α ++ captured = args) (hcon : ACalls P g args σ (fun v σ' => v = a ∧ σ = σ')) : AOp P o α σ fun v σ' => v = a ∧ σ = σ' :=
  AOp_use ho hc hf hg hargs hcon fun _ _ h => h

/-! ### what lives -/

def envL : List (Nat × AVal) → Env
  | [] => emp
  | (k, a) :: l => upd (envL l) k a

@[go_sem] theorem envL_nil : envL [] = emp := rfl
@[go_sem] theorem envL_cons (k : Nat) (a : AVal) (l : List (Nat × AVal)) : envL ((k, a) :: l) = upd (envL l) k a := rfl

def covers (e : Env) : List (Nat × AVal) → Prop
  | [] => True
  | (k, a) :: l => Wk (e k) a ∧ covers e l

theorem covers.nil {e : Env} : covers e [] := trivial
theorem covers.eq {e : Env} {k : Nat} {a : AVal} {l : List (Nat × AVal)} (h : e k = a) (hl : covers e l) : covers e ((k, a) :: l) := ⟨by rw [h]; exact .refl _, hl⟩
theorem covers.wk {e : Env} {k : Nat} {a b : AVal} {l : List (Nat × AVal)} (h : e k = b) (hw : Wk b a) (hl : covers e l) : covers e ((k, a) :: l) := ⟨by rw [h]; exact hw, hl⟩

theorem covers.all {e : Env} : ∀ {l : List (Nat × AVal)}, covers e l → ∀ k, Wk (e k) (envL l k)
  | [], _, k => .any _
  | (j, a) :: l, h, k => by
    simp only [envL, upd]
    by_cases hk : k = j
    · subst hk; rw [if_pos rfl]; exact h.1
    · rw [if_neg hk]; exact h.2.all k

/-- some cells, off which the rest may hang -/
theorem awp_seq_mid {P : Program} {n : Nat} {x y : Code} {Q : Exit → Env → Store → Prop} {e : Env} {σ : Store} {ι : Type} (I : ι → Prop) (E : ι → List (Nat × AVal)) (S : ι → Store)
    (h1 : awp P n x (aThen (fun e' σ' => ∃ i, I i ∧ covers e' (E i) ∧ (S i).Wk σ') Q) e σ) (h2 : ∀ i, I i → awp P n y Q (envL (E i)) (S i)) : awp P n (.seq x y) Q e σ :=
  awp_seq (h1.mono fun ex e' σ' hq => by
    cases ex with
    | normal => obtain ⟨i, hi, hc, hs⟩ := hq; exact (h2 i hi).wk hc.all hs
    | _ => exact hq)

/-- A loop, by what lives at its head, and a number that goes down. -/
theorem awp_loop_env {P : Program} {n : Nat} {c : Code} {Q : Exit → Env → Store → Prop} {e : Env} {σ : Store} {ι : Type} (μ : ι → Nat) (I : ι → Prop) (E : ι → List (Nat × AVal)) (S : ι → Store) (i0 : ι)
    (hI : I i0) (hc : covers e (E i0)) (hs : (S i0).Wk σ)
    (round : ∀ i, I i → awp P n c (aThen (fun e' σ' => ∃ i', μ i' < μ i ∧ I i' ∧ covers e' (E i') ∧ (S i').Wk σ') Q) (envL (E i)) (S i)) : awp P n (.loop c) Q e σ :=
  awp_loop (fun m e σ => ∃ i, μ i = m ∧ I i ∧ covers e (E i) ∧ (S i).Wk σ) (m := μ i0) ⟨i0, rfl, hI, hc, hs⟩ fun m e σ ⟨i, hm, hi, hc, hs⟩ =>
    ((round i hi).wk hc.all hs).mono fun ex e' σ' hq => by
      cases ex with
      | normal => obtain ⟨i', hlt, h1, h2, h3⟩ := hq; exact ⟨μ i', by omega, i', rfl, h1, h2, h3⟩
      | _ => exact hq

/-- what a round leaves for the next one -/
theorem aNext {ι : Type} {μ : ι → Nat} {I : ι → Prop} {E : ι → List (Nat × AVal)} {S : ι → Store} {i : ι} {e : Env} {σ : Store} (i' : ι) (h1 : μ i' < μ i) (h2 : I i') (h3 : covers e (E i')) (h4 : (S i').Wk σ) :
    ∃ i', μ i' < μ i ∧ I i' ∧ covers e (E i') ∧ (S i').Wk σ := ⟨i', h1, h2, h3, h4⟩

theorem aThen_exit {K : Env → Store → Prop} {Q : Exit → Env → Store → Prop} {i : Nat} {e : Env} {σ : Store} (h : Q (.exit i) e σ) : aThen K Q (.exit i) e σ := h
theorem aBlock_hit {Q : Exit → Env → Store → Prop} {i : Nat} {e : Env} {σ : Store} (h : Q .normal e σ) : aBlock i Q (.exit i) e σ := by simpa [aBlock] using h
theorem aBlock_miss {Q : Exit → Env → Store → Prop} {i j : Nat} {e : Env} {σ : Store} (hj : j ≠ i) (h : Q (.exit j) e σ) : aBlock i Q (.exit j) e σ := by simpa [aBlock, hj] using h

theorem none_set_iff {σ : Store} {o j : Nat} {x : AObj} : (σ.set o x).heap j = none ↔ j ≠ o ∧ σ.heap j = none := ⟨none_set, fun ⟨h1, h2⟩ => by rw [Store.set_ne _ _ h1]; exact h2⟩

/-! ### fewer things known -/

def SubX (l : List Nat) (σ τ : Store) : Prop := (∀ i x, i ∉ l → σ.heap i = some x → τ.heap i = some x) ∧ ∀ t n, σ.tok t = some n → τ.tok t = some n
theorem subx_start {σ τ : Store} (h : SubX [] σ τ) : σ.Wk τ := Store.Sub.wk ⟨fun i x hx => h.1 i x (by simp) hx, h.2⟩
theorem subx_startS {σ τ : Store} (h : SubX [] σ τ) : σ.Sub τ := ⟨fun i x hx => h.1 i x (by simp) hx, h.2⟩

/-- an object's cells, less of them said -/
def WkL : List AVal → List AVal → Prop
  | [], [] => True
  | a :: l, b :: l' => Wk a b ∧ WkL l l'
  | _, _ => False
theorem WkL.at_ : ∀ {l l' : List AVal}, WkL l l' → l.length = l'.length ∧ ∀ i (hi : i < l.length) (hj : i < l'.length), Wk l[i] l'[i]
  | [], [], _ => ⟨rfl, fun i hi => by simp at hi⟩
  | a :: l, b :: l', h => by
    obtain ⟨h1, h2⟩ := WkL.at_ h.2
    refine ⟨by simp [h1], fun i hi hj => ?_⟩
    cases i with
    | zero => exact h.1
    | succ i => exact h2 i (by simpa using hi) (by simpa using hj)
  | [], _ :: _, h => h.elim
  | _ :: _, [], h => h.elim
theorem Store.wkCells {τ : Store} {o : Nat} {cs cs' : List AVal} (ho : τ.heap o = some (.cells cs)) (h : WkL cs cs') : (τ.set o (.cells cs')).Wk τ := by
  intro κ hI
  obtain ⟨hl, hw⟩ := h.at_
  obtain ⟨b, hb, hbase, hIb, c, el, hh, hn, hv⟩ := hI.heap o _ ho
  exact hI.step (κ' := κ) (.refl κ) rfl rfl hI.frO b hbase hIb (fun _ _ _ => rfl) o (.cells cs') (fun _ _ => rfl) hb ⟨c, el, hh, by omega, fun i hi => (hv i (by omega)).wk (hw i (by omega) hi)⟩
    (fun o' x hx hne hh => hne (hI.inj o' o x _ b hx ho hh hb))
    (fun t sz v ht hv hh => hI.tokobj t sz v b o _ ht hv hh ho hb)

theorem Store.Wk.refl' {σ τ : Store} (h : σ = τ) : σ.Wk τ := h ▸ Store.Wk.refl σ
theorem Store.wkTake {τ : Store} {o n : Nat} {cs : List AVal} (ho : τ.heap o = some (.cells cs)) : (τ.set o (.cells (cs.take n))).Wk τ := by
  intro κ hI
  obtain ⟨b, hb, hbase, hIb, c, el, hh, hn, hv⟩ := hI.heap o _ ho
  exact hI.step (κ' := κ) (.refl κ) rfl rfl hI.frO b hbase hIb (fun _ _ _ => rfl) o (.cells (cs.take n)) (fun _ _ => rfl) hb ⟨c, el, hh, by simp; omega, fun i hi => by
      rw [List.length_take] at hi
      rw [List.getElem_take]
      exact hv i (by omega)⟩
    (fun o' x hx hne hh => hne (hI.inj o' o x _ b hx ho hh hb))
    (fun t sz v ht hv hh => hI.tokobj t sz v b o _ ht hv hh ho hb)

theorem awp_wkCells {P : Program} {n : Nat} {c : Code} {Q : Exit → Env → Store → Prop} {e : Env} {σ : Store} (o : Nat) {cs : List AVal} (cs' : List AVal) (ho : σ.heap o = some (.cells cs)) (h : WkL cs cs') (hk : awp P n c Q e (σ.set o (.cells cs'))) : awp P n c Q e σ :=
  hk.wk (fun k => .refl _) (Store.wkCells ho h)

theorem subx_refl {l : List Nat} {σ : Store} : SubX l σ σ := ⟨fun _ _ _ h => h, fun _ _ h => h⟩
theorem subx_left {l : List Nat} {σ τ : Store} {o : Nat} {x : AObj} (hx : τ.heap o = some x) (h : SubX (o :: l) σ τ) : SubX l (σ.set o x) τ := ⟨fun i y hi hy => by
  by_cases ho : i = o
  · subst ho; rw [Store.set_get] at hy; rw [hx]; exact hy
  · rw [Store.set_ne _ _ ho] at hy; exact h.1 i y (by simp [ho, hi]) hy, h.2⟩
theorem subx_skip {l : List Nat} {σ τ : Store} {o : Nat} {x : AObj} (ho : o ∈ l) (h : SubX l σ τ) : SubX l (σ.set o x) τ := ⟨fun i y hi hy => by
  by_cases hio : i = o
  · subst hio; exact absurd ho hi
  · rw [Store.set_ne _ _ hio] at hy; exact h.1 i y hi hy, h.2⟩
theorem subx_in {l : List Nat} {σ τ : Store} {o : Nat} {x : AObj} (ho : o ∈ l) (h : SubX l σ τ) : SubX l σ (τ.set o x) := ⟨fun i y hi hy => by
  by_cases hio : i = o
  · subst hio; exact absurd ho hi
  · rw [Store.set_ne _ _ hio]; exact h.1 i y hi hy, h.2⟩
theorem subx_new {l : List Nat} {σ τ : Store} {o : Nat} {x : AObj} (ho : σ.heap o = none) (h : SubX l σ τ) : SubX l σ (τ.set o x) := ⟨fun i y hi hy => by
  by_cases hio : i = o
  · subst hio; rw [ho] at hy; cases hy
  · rw [Store.set_ne _ _ hio]; exact h.1 i y hi hy, h.2⟩
theorem subx_tok {l : List Nat} {σ τ : Store} {k : Nat} {p : TypeId × Nat} (h : SubX l σ τ) : SubX l (σ.newTok none k p) (τ.newTok none k p) := ⟨h.1, fun t n ht => by
  simp only [Store.newTok] at ht ⊢
  split
  · rename_i hh; rw [if_pos hh] at ht; exact ht
  · rename_i hh; rw [if_neg hh] at ht; simp at ht ⊢; exact h.2 t n ht⟩
theorem subx_newTok {l : List Nat} {σ τ : Store} {k : Nat} {p : TypeId × Nat} (hk : σ.tok k = none) (h : SubX l σ τ) : SubX l σ (τ.newTok none k p) := ⟨h.1, fun t n ht => by
  simp only [Store.newTok]
  split
  · rename_i hh; rw [hh, hk] at ht; cases ht
  · simp; exact h.2 t n ht⟩

/-- from one store to a later one: what is not of the footprint stays, and what is new in the footprint was not there -/
structure Fr (σ : Store) (S : List Nat) (σ' : Store) (S' : List Nat) : Prop where
  sub : SubX S σ σ'
  new : ∀ o ∈ S', o ∈ S ∨ σ.heap o = none
theorem Fr.refl (σ : Store) (S : List Nat) : Fr σ S σ S := ⟨subx_refl, fun o h => .inl h⟩
theorem Fr.trans {σ τ υ : Store} {S T U : List Nat} (h : Fr σ S τ T) (k : Fr τ T υ U) : Fr σ S υ U where
  sub := by
    refine ⟨fun i x hi hx => k.sub.1 i x (fun hT => ?_) (h.sub.1 i x hi hx), fun t n ht => k.sub.2 t n (h.sub.2 t n ht)⟩
    rcases h.new i hT with h1 | h1
    · exact hi h1
    · rw [h1] at hx; cases hx
  new := fun o ho => by
    rcases k.new o ho with h1 | h1
    · exact h.new o h1
    · by_cases hS : o ∈ S
      · exact .inl hS
      · right
        cases hx : σ.heap o with
        | none => rfl
        | some x => rw [h.sub.1 o x hS hx] at h1; cases h1
/-- what stands apart from a footprint, stands apart from what comes of it -/
theorem Fr.apart {σ σ' : Store} {S S' : List Nat} (h : Fr σ S σ' S') {o : Nat} {x : AObj} (ho : σ.heap o = some x) (hS : o ∉ S) : o ∉ S' ∧ σ'.heap o = some x :=
  ⟨fun hh => (h.new o hh).elim hS (fun h1 => absurd (h1.symm.trans ho) (fun h2 => nomatch h2)), h.sub.1 o x hS ho⟩
theorem Fr.set {σ τ : Store} {S T : List Nat} (h : Fr σ S τ T) {o : Nat} {x : AObj} (ho : o ∈ T) : Fr σ S (τ.set o x) T :=
  h.trans ⟨subx_in ho subx_refl, fun o h => .inl h⟩
theorem Fr.setNew {σ τ : Store} {S T : List Nat} (h : Fr σ S τ T) {o : Nat} {x : AObj} (ho : τ.heap o = none) : Fr σ S (τ.set o x) (o :: T) :=
  h.trans ⟨subx_new ho subx_refl, fun i hi => by
    rcases List.mem_cons.1 hi with rfl | hi
    · exact .inr ho
    · exact .inl hi⟩
theorem Fr.del {σ τ : Store} {S T : List Nat} (h : Fr σ S τ T) {o : Nat} (ho : o ∈ T) : Fr σ S (τ.del o) T :=
  h.trans ⟨⟨fun i x hi hx => by rw [Store.del_ne _ (fun hh => hi (by rw [hh]; exact ho))]; exact hx, fun _ _ h => h⟩, fun o h => .inl h⟩
theorem Fr.less {σ τ : Store} {S T U : List Nat} (h : Fr σ S τ T) (hU : ∀ o ∈ U, o ∈ T) : Fr σ S τ U := ⟨h.sub, fun o ho => h.new o (hU o ho)⟩
theorem Fr.from_ {σ τ : Store} {S T U : List Nat} (h : Fr σ S τ T) (hU : ∀ o ∈ S, o ∈ U) : Fr σ U τ T :=
  ⟨⟨fun i x hi hx => h.sub.1 i x (fun hh => hi (hU i hh)) hx, h.sub.2⟩, fun o ho => (h.new o ho).imp (hU o) id⟩
theorem Fr.newTok {σ τ : Store} {S T : List Nat} (h : Fr σ S τ T) {old : Option Nat} {k : Nat} {p : TypeId × Nat} (ho : ∀ j, old = some j → σ.tok j = none) (hk : τ.tok k = none) : Fr σ S (τ.newTok old k p) T :=
  ⟨⟨h.sub.1, fun t n ht => by
    have h1 := h.sub.2 t n ht
    simp only [Store.newTok]
    rw [if_neg (fun hh => by rw [hh, hk] at h1; cases h1), if_neg (fun hh => by rw [ho t hh.symm] at ht; cases ht)]
    exact h1⟩, h.new⟩
theorem Fr.noTok {σ τ : Store} {S T : List Nat} (h : Fr σ S τ T) {k : Nat} (hk : τ.tok k = none) : σ.tok k = none := by
  cases ht : σ.tok k with
  | none => rfl
  | some n => have := h.sub.2 k n ht; rw [hk] at this; cases this
theorem Fr.alloc {σ τ : Store} {S T : List Nat} (h : Fr σ S τ T) {o : Nat} {x : AObj} (ho : τ.heap o = none) : Fr σ S (τ.set o x) T :=
  h.trans ⟨subx_new ho subx_refl, fun o h => .inl h⟩
/-- what was not there at first may be written, and forgotten -/
theorem Fr.setOwn {σ τ : Store} {S T : List Nat} (h : Fr σ S τ T) {o : Nat} {x : AObj} (ho : σ.heap o = none) : Fr σ S (τ.set o x) T :=
  ⟨⟨fun i y hi hy => by rw [Store.set_ne _ _ (fun hh => by rw [hh, ho] at hy; cases hy)]; exact h.sub.1 i y hi hy, h.sub.2⟩, h.new⟩
theorem Fr.delOwn {σ τ : Store} {S T : List Nat} (h : Fr σ S τ T) {o : Nat} (ho : σ.heap o = none) : Fr σ S (τ.del o) T :=
  ⟨⟨fun i y hi hy => by rw [Store.del_ne _ (fun hh => by rw [hh, ho] at hy; cases hy)]; exact h.sub.1 i y hi hy, h.sub.2⟩, h.new⟩
/-- what comes of a footprint that was not there at first -/
theorem Fr.ownOf {σ τ τ' : Store} {S S' : List Nat} (h : Fr σ [] τ []) (k : Fr τ S τ' S') (hS : ∀ o ∈ S, σ.heap o = none) : Fr σ [] τ' [] ∧ ∀ o ∈ S', σ.heap o = none := by
  refine ⟨⟨⟨fun i x _ hx => ?_, fun t n ht => k.sub.2 t n (h.sub.2 t n ht)⟩, fun o ho => by cases ho⟩, fun o ho => ?_⟩
  · exact k.sub.1 i x (fun hh => by rw [hS i hh] at hx; cases hx) (h.sub.1 i x (by simp) hx)
  · rcases k.new o ho with h1 | h1
    · exact hS o h1
    · cases hx : σ.heap o with
      | none => rfl
      | some x => have := h.sub.1 o x (by simp) hx; rw [h1] at this; cases this
/-- what is not there later on was not there at first -/
theorem Fr.noObj {σ τ : Store} {T : List Nat} (h : Fr σ [] τ T) {o : Nat} (ho : τ.heap o = none) : σ.heap o = none := by
  cases hx : σ.heap o with
  | none => rfl
  | some x => have := h.sub.1 o x (by simp) hx; rw [ho] at this; cases this
theorem heap_alloc_keep {σ : Store} {o i : Nat} {x y : AObj} (ho : σ.heap o = none) (hx : σ.heap i = some y) : (σ.set o x).heap i = some y := by
  rw [Store.set_ne _ _ (fun hh => by rw [hh, ho] at hx; cases hx)]; exact hx
/-- a greater footprint, of what is known or not there -/
theorem Fr.more {σ τ : Store} {S T : List Nat} (h : Fr σ S τ T) (U : List Nat) : Fr σ (U ++ S) τ (U ++ T) :=
  ⟨⟨fun i x hi hx => h.sub.1 i x (fun hh => hi (List.mem_append_right _ hh)) hx, h.sub.2⟩, fun o ho => by
    rcases List.mem_append.1 ho with h1 | h1
    · exact .inl (List.mem_append_left _ h1)
    · rcases h.new o h1 with h2 | h2
      · exact .inl (List.mem_append_right _ h2)
      · exact .inr h2⟩

theorem newTok_none {σ : Store} {k k' : Nat} {p : TypeId × Nat} (h : (σ.newTok none k p).tok k' = none) : k' ≠ k ∧ σ.tok k' = none := by
  simp only [Store.newTok] at h
  split at h
  · cases h
  · rename_i hh; simp at h; exact ⟨hh, h⟩

theorem ne_of_heap {σ : Store} {o i : Nat} {x : AObj} (h : σ.heap o = some x) (h' : σ.heap i = none) : o ≠ i := fun hh => by rw [hh, h'] at h; cases h
theorem Store.set_self {σ : Store} {o : Nat} {x : AObj} (h : σ.heap o = some x) : σ.set o x = σ := by
  unfold Store.set
  have : (fun i => if i = o then some x else σ.heap i) = σ.heap := by
    funext i
    split
    · rename_i hh; rw [hh, h]
    · rfl
  rw [this]
theorem Store.wkNew {σ : Store} {o : Nat} {cs cs' : List AVal} (h : WkL cs cs') : (σ.set o (.cells cs')).Wk (σ.set o (.cells cs)) := by
  have := Store.wkCells (τ := σ.set o (.cells cs)) (o := o) (cs' := cs') (Store.set_get ..) h
  rwa [Store.set_set] at this
theorem astr_add' (a b : ByteArray) (h : a.size + b.size ≤ 1000000000) : astr .add a b = some (.string (a ++ b)) := astr_add a b (by unfold maxText; omega)

theorem ACalls.wkS {P : Program} {f : FuncId} {args : List AVal} {σ : Store} {Q Q' : AVal → Store → Prop} (h : ACalls P f args σ Q) (hq : ∀ a σ', Q a σ' → ∃ a' σ'', Wk a a' ∧ σ''.Wk σ' ∧ Q' a' σ'') : ACalls P f args σ Q' :=
  fun κ vs hI hn hv => (h κ vs hI hn hv).mono fun _ _ ⟨cv, he, κ', a, σ', h1, h2, h3, h4, h5⟩ => by
    obtain ⟨a', σ'', hwk, hsub, hQ⟩ := hq a σ' h5
    exact ⟨cv, he, κ', a', σ'', h1, h2, hsub κ' h3, h4.wk hwk, hQ⟩

/-! ### struct values compared -/

theorem abin_eqAgg {P : Program} {σ : Store} {t : TypeId} {c : Bool} {xs ys : List AVal} (h : P.eqGuardType P.depth t = false) : abin P σ .eql t c (.agg xs) (.agg ys) = (aeqIn P Op.maxDepth t (.agg xs) (.agg ys)).map fun r => .lit (.bool r) := by
  simp [abin, aeq, h]
theorem abin_neAgg {P : Program} {σ : Store} {t : TypeId} {c : Bool} {xs ys : List AVal} (h : P.eqGuardType P.depth t = false) : abin P σ .neq t c (.agg xs) (.agg ys) = (aeqIn P Op.maxDepth t (.agg xs) (.agg ys)).map fun r => .lit (.bool !r) := by
  simp [abin, aeq, h]

end Go.Ab
end

section
set_option linter.all false
namespace Go.Ab

theorem ACalls.still {P : Program} {f : FuncId} {args : List AVal} {σ : Store} {a : AVal} (h : ACalls P f args σ fun v σ' => v = a ∧ Fr σ [] σ' []) : ACalls P f args σ fun v σ' => v = a ∧ σ = σ' :=
  h.wkS fun v σ' hh => ⟨v, σ, .refl _, subx_start hh.2.sub, hh.1, rfl⟩

theorem AOp.after {P : Program} {o : Oper} {α : Operand → AVal} {σ : Store} {K1 K2 : AVal → Store → Prop} (h : AOp P o α σ K1)
    (hk : ∀ (κ : K) a σ' cv, Inv κ σ' → Rv κ a cv → K1 a σ' → ∃ κ' a' σ'', κ'.w = κ.w ∧ κ.Le κ' ∧ Inv κ' σ'' ∧ Rv κ' a' cv ∧ K2 a' σ'') : AOp P o α σ K2 :=
  fun κ ev hI hx => (h κ ev hI hx).mono fun cv w ⟨κ1, a, σ', h1, h2, h3, h4, h5⟩ => by
    obtain ⟨κ2, a', σ'', g1, g2, g3, g4, g5⟩ := hk κ1 a σ' cv h3 h4 h5
    exact ⟨κ2, a', σ'', g1.trans h1, h2.trans g2, g3, g4, g5⟩
theorem Store.set_del {σ : Store} {i : Nat} {x : AObj} (h : σ.heap i = none) : (σ.set i x).del i = σ := by
  unfold Store.set Store.del
  cases σ with
  | mk hp tk =>
    congr 1
    funext j
    by_cases hj : j = i
    · subst hj; simp; exact h.symm
    · simp [hj]
theorem flat_one {l : List AVal} (h : ∀ x ∈ l, x.cells = [x]) : flat l = l := by
  induction l with
  | nil => rfl
  | cons x l ih => rw [flat_cons, h x (List.mem_cons_self ..), ih fun y hy => h y (List.mem_cons_of_mem _ hy)]; rfl
/-- make, of what is not written later -/
theorem AOp_makeSl {P : Program} {o : Oper} {α : Operand → AVal} {σ : Store} {Kk : AVal → Store → Prop} {t e : TypeId} {n by_ : Nat} {x y : Operand} {z : Value} {k1 k2 : IntKind} (ho : o.op = .makeSlice t x y) (hse : sliceElem P t = some e) (hte : appInfo P e = some (1, by_)) (hz : zeroOf P e = some z) (hz1 : z.cells = #[z])
    (hx : α x = .lit (.int k1 n)) (hy : α y = .lit (.int k2 n)) (hn : by_ * n ≤ 281474976710656) (hk : Kk (.sl 1 (List.replicate n (.lit z)) false) σ) : AOp P o α σ Kk := by
  refine AOp.after (AOp_makeSlice ho hse hte hz hz1 hx hy hn (Kk := fun a σ' => ∃ i, σ.heap i = none ∧ a = .msl i 1 0 n ∧ σ' = σ.set i (.cells (List.replicate n (.lit z)))) fun i hi => ⟨i, hi, rfl, rfl⟩) ?_
  rintro κ _ _ cv hI hr ⟨i, hi, rfl, rfl⟩
  have hc : ∀ x ∈ List.replicate n (AVal.lit z), x.cells = [x] := fun x hx => by
    rw [List.eq_of_mem_replicate hx]; rfl
  obtain ⟨κ', h1, h2, h3, h4⟩ := freeze hI hr (Store.set_get ..) (l := List.replicate n (.lit z)) (by rw [flat_one hc]; simp) (by simp) fun x hx => by rw [hc x hx]; rfl
  rw [Store.set_del hi] at h3
  exact ⟨κ', _, _, h1, h2, h3, h4, hk⟩
end Go.Ab
end

section
set_option linter.all false
namespace Go.Ab
open Go.RowKit (Below)

section
variable {P : Program} {o : Oper} {α : Operand → AVal} {σ : Store} {Kk : AVal → Store → Prop}

/-- A plain block is written anew. -/
theorem Inv.setRaw {κ : K} {σ : Store} (h : Inv κ σ) {i : Nat} {x y : Obj} (hi : σ.heap i = some (.raw x)) (hy : ∀ c e f, y ≠ .cells c e f) :
    ∃ b, κ.ρ i = some b ∧ κ.w.heap[b]? = some x ∧ κ.Le { κ with w := { κ.w with heap := κ.w.heap.setIfInBounds b y } } ∧ Inv { κ with w := { κ.w with heap := κ.w.heap.setIfInBounds b y } } (σ.set i (.raw y)) := by
  obtain ⟨b, hb, hbase, hIb, hh, hx⟩ := h.heap i _ hi
  have hle : κ.Le { κ with w := { κ.w with heap := κ.w.heap.setIfInBounds b y } } := by
    refine ⟨rfl, ⟨rfl, rfl, rfl, by simp, fun k hk => heap_setBlock_ne _ (by omega)⟩, fun b' s e' => ?_, fun _ _ e' => e', fun _ _ e' => e', fun _ => Nat.le_refl _, fun b' off' u hi e' => ?_, Nat.le_refl _⟩
    · have hne : b' ≠ b := fun hh' => by
        subst hh'
        unfold World.shape? at e'
        rw [hh] at e'
        cases x <;> first | (cases e'; done) | exact hx _ _ _ rfl
      unfold World.shape? at e' ⊢
      dsimp only
      rw [heap_setBlock_ne _ hne]; exact e'
    · have hne : b' ≠ b := fun hh' => by rw [hh', hIb] at hi; omega
      simp only [World.cell?] at e' ⊢
      rw [heap_setBlock_ne _ hne]; exact e'
  refine ⟨b, hb, hh, hle, h.step hle rfl rfl h.frO b hbase hIb (fun b' hne _ => heap_setBlock_ne _ hne) i _ (fun _ _ => rfl) hb ⟨heap_setBlock _ hh, hy⟩ ?_ ?_⟩
  · intro j z hz hne hh'
    exact hne (h.inj j i _ _ b hz hi hh' hb)
  · intro t sz u ht hu hh'
    exact h.tokobj t sz u b i _ ht hu hh' hi hb

theorem AOp_rangeS {t : TypeId} {x : Operand} {s : ByteArray} (ho : o.op = .range t x) (ht : P.underlying t = some .string) (hx : α x = .lit (.string s)) (hk : ∀ i, σ.heap i = none → Kk (.ref i 0) (σ.set i (.raw (.stringIter s 0)))) : AOp P o α σ Kk := by
  obtain ⟨dst, op, ty, pos, after, guard⟩ := o
  obtain rfl : op = _ := ho
  intro κ ev hI hxx
  have hv := hxx x (by simp [Op.operands])
  rw [hx] at hv
  obtain ⟨i, hi, hfree⟩ := hI.fresh
  obtain ⟨κ', hw, hle, hρ, hI'⟩ := hI.alloc i hi (.raw (.stringIter s 0)) (.stringIter s 0) fun κ' hle hh _ => ⟨hh, fun _ _ _ h => by cases h⟩
  refine upon_v rfl ⟨.pointer (some ⟨κ.w.heap.size, 0, none⟩), κ.w.alloc (.stringIter s 0), ?_, κ', .ref i 0, _, hw, hle, hI', .ref i 0 _ hρ, hk i hfree⟩
  rw [hv.litInv]
  exact run_range_string κ.w t s ht

/-- how far a rune of a string goes -/
def runeAt (s : ByteArray) (p : Nat) : Int := (Utf8.decode s p).1
def runeW (s : ByteArray) (p : Nat) : Nat := (Utf8.decode s p).2

theorem AOp_nextS {x : Operand} {s : ByteArray} {i p : Nat} (ho : o.op = .next x true) (hx : α x = .ref i 0) (hh : σ.heap i = some (.raw (.stringIter s p)))
    (hy : p < s.size → Kk (.tup [.lit (.bool true), .lit (.int .i64 p), .lit (.int .i32 (runeAt s p))]) (σ.set i (.raw (.stringIter s (p + runeW s p)))))
    (hn : ¬ p < s.size → Kk (.tup [.lit (.bool false)]) σ) : AOp P o α σ Kk := by
  obtain ⟨dst, op, ty, pos, after, guard⟩ := o
  obtain rfl : op = _ := ho
  intro κ ev hI hxx
  have hv := hxx x (by simp [Op.operands])
  rw [hx] at hv
  obtain ⟨b, hb, hheap, hle, hI'⟩ := hI.setRaw (y := .stringIter s (p + runeW s p)) hh (fun _ _ _ h => by cases h)
  have he : ev x = .pointer (some ⟨b, 0, none⟩) := by
    generalize ev x = u at hv
    cases hv with
    | ref _ _ b' hb' => rw [hb] at hb'; obtain rfl := Option.some.inj hb'; rfl
  have tup : ∀ (κ : K) (l : List AVal) (vs : List Value), l.length = vs.length → (∀ j (h1 : j < l.length) (h2 : j < vs.length), l[j] = .lit vs[j]) → Rv κ (.tup l) (.tuple vs.toArray) := fun κ l vs h1 h2 =>
    .tup _ _ (by simp [h1]) fun j hj => by
      have : (vs.toArray.getD j undef) = vs[j]'(by omega) := by simp [show j < vs.length by omega]
      rw [h2 j hj (by omega), this]
      exact .lit _
  by_cases hp : p < s.size
  · refine upon_v rfl ⟨.tuple #[.bool true, .int .i64 p, .int .i32 (runeAt s p)], _, ?_, _, _, _, rfl, hle, hI', tup _ _ [.bool true, .int .i64 p, .int .i32 (runeAt s p)] rfl (fun j h1 h2 => by match j, h1 with | 0, _ => rfl | 1, _ => rfl | 2, _ => rfl), hy hp⟩
    rw [he]
    simp [Instr.next, getObj, setObj, Sem.run, hheap, hp, Result.andThen, goInt, runeAt, runeW]
  · refine upon_v rfl ⟨.tuple #[.bool false], κ.w, ?_, κ, _, σ, rfl, K.Le.refl _, hI, tup _ _ [.bool false] rfl (fun j h1 h2 => by match j, h1 with | 0, _ => rfl), hn hp⟩
    rw [he]
    simp [Instr.next, getObj, Sem.run, hheap, hp, Result.andThen]
end
end Go.Ab
end

section
set_option linter.all false
namespace Go.Ab
open Go.RowKit (Below)

section
variable {P : Program} {o : Oper} {α : Operand → AVal} {σ : Store} {Kk : AVal → Store → Prop}

/-- append of whatever may be appended, to a slice of one's own -/
theorem AOp_appendS {s x : Operand} {t tx e : TypeId} {sz by_ : Nat} {l l2 : List AVal} {old : Option Nat}
    (ho : o.op = .call { callee := .builtin .append, args := #[s, x], argTypes := #[t, tx] }) (hse : sliceElem P t = some e) (hte : appInfo P e = some (sz, by_))
    (hs : (∃ k, α s = .own k sz l ∧ σ.tok k = some (e, sz) ∧ old = some k) ∨ (α s = .lit (.slice none 0 0) ∧ l = [] ∧ old = none))
    (hx : ASrc P sz tx (α x) l2) (hlen : (l.length + l2.length) * by_ ≤ 140737488355328)
    (hk : ∀ t', σ.tok t' = none → Kk (.own t' sz (l ++ l2)) (σ.newTok old t' (e, sz))) : AOp P o α σ Kk := by
  obtain ⟨dst, op, ty, pos, after, guard⟩ := o
  obtain rfl : op = .call { callee := .builtin .append, args := #[s, x], argTypes := #[t, tx] } := ho
  intro κ ev hI hxx
  obtain ⟨i, z, hi, hz, hisz, hiby, hzs, hsz, hby⟩ := appInfo_spec hte
  have hts : P.underlying t = some (.slice e) := by
    unfold sliceElem at hse
    split at hse
    · rename_i e' he'; obtain rfl := Option.some.inj hse; exact he'
    · cases hse
  have hvs := hxx s (by simp [Op.operands, Call.operands])
  have hvx := hxx x (by simp [Op.operands, Call.operands])
  have hle47 : l.length + l2.length ≤ 140737488355328 := Nat.le_trans (Nat.le_mul_of_pos_right _ hby) hlen
  obtain ⟨us, hlsz, hown, hus, hIold, hfreeold⟩ := append_base hI hvs hs
  obtain ⟨vs, hl2sz, hvsr, hsrc⟩ := hx.spec hvx
  have hfl2 : vs.length = l2.length * sz := by rw [← hvsr.1, flat_length hl2sz]
  obtain ⟨v', w', hrun, hown', hcase⟩ := append_casesS (P := P) κ.w κ.base t tx ty e i z sz by_ hts hi hz hisz hiby hzs hsz (ev s) l.length us hown (ev x) l2.length vs hfl2 hsrc (by simp only [maxLen]; omega) hlen hI.base
  obtain ⟨κ', t', rfl, hle, hI', hr', htok'⟩ := append_post hI hlsz hl2sz hus hvsr hIold hfreeold hown' hcase
  exact upon_v (s := Builtin.append_ #[t, tx] ty #[ev s, ev x]) (by simp [execOp, resolve, invoke, builtin]) ⟨v', κ'.w, hrun, κ', .own t' sz (l ++ l2), σ.newTok old t' (e, sz), rfl, hle, hI', hr', hk t' htok'⟩

/-- '[]byte(s)', to be appended to -/
theorem AOp_bytesOwn {src dst e : TypeId} {x : Operand} {s : ByteArray} (ho : o.op = .convert src dst x) (hs : P.underlying src = some .string) (hd : P.underlying dst = some (.slice e)) (he : P.underlying e = some (.int .u8)) (hx : α x = .lit (.string s)) (hsz : s.size ≤ 1099511627776)
    (hk : ∀ t', σ.tok t' = none → Kk (.own t' 1 (bytesL s)) (σ.newTok none t' (e, 1))) : AOp P o α σ Kk := by
  obtain ⟨dst', op, ty, pos, after, guard⟩ := o
  obtain rfl : op = .convert src dst x := ho
  intro κ ev hI hxx
  have hv := hxx x (by simp [Op.operands])
  rw [hx] at hv
  have hr := run_bytes_of_string (P := P) κ.w src dst e s hs hd he
  have hge := grownCap_ge κ.w s.size 0 e
  have hcm := grownCap_le_maxLen κ.w s.size 0 e (by simp only [maxLen]; omega)
  have hl : (bytesL s).length = s.size := bytesL_length s
  have hcl : (Go.byteCells s).length = s.size := byteCells_length s
  have hrow : (bytesRow s (grownCap κ.w s.size 0 e)).size = grownCap κ.w s.size 0 e := by
    have : s.data.size = s.size := rfl
    simp [bytesRow, this]; omega
  obtain ⟨κ', t', hw, hle, hI', hr', htok'⟩ := append_post (e := e) (sz := 1) (l := []) (l2 := bytesL s) (us := []) (vs := Go.byteCells s) (v0 := .slice none 0 0) (old := none) hI (by simp) (bytesL_cells s) .nil (by rw [flat_bytesL]; exact RvC.byteCells s) (by simp [tokBlock]) (by simp [tokBlock])
    (v' := .slice (some ⟨κ.w.heap.size, 0, none⟩) s.size (grownCap κ.w s.size 0 e))
    (w' := κ.w.drew.alloc (.cells (bytesRow s (grownCap κ.w s.size 0 e)) e ((bytesRow s (grownCap κ.w s.size 0 e)).size, (bytesRow s (grownCap κ.w s.size 0 e)).size + 1)))
    ⟨by simp [hl, hcl], .inr ⟨κ.w.heap.size, grownCap κ.w s.size 0 e, _, _, by simp [hl], hI.base, heap_alloc_new κ.w.drew _, .inr (Nat.le_refl _), by simpa [hl] using hge, hcm, by simpa using hrow, by
      have hm : (s.data.map fun b => Value.int .u8 b.toNat).toList.length = s.size := by simp
      simp only [List.length_nil, Nat.zero_add, hl, Nat.mul_one, List.nil_append, bytesRow, Array.toList_append]
      rw [List.take_append_of_le_length (by omega), List.take_of_length_le (by omega)]
      simp [Go.byteCells]⟩⟩
    (.inr (.inr ⟨_, grownCap κ.w s.size 0 e, _, rfl, by simp [hl]⟩))
  refine upon_v (s := Go.convert src dst (ev x)) rfl ⟨_, _, by rw [hv.litInv]; exact hr, κ', .own t' 1 (bytesL s), _, hw, hle, hI', by simpa using hr', hk t' htok'⟩

/-- an object whose first cell is a pointer that is nil: its shape is told there -/
theorem AOp_allocP {t : TypeId} {z : Value} {r : List Value} (ho : o.op = .alloc t) (hz : zeroOf P t = some z) (hc : z.cells.toList = .pointer none :: r) (hk : ∀ i, σ.heap i = none → Kk (.ref i 0) (σ.set i (.cells (.nilp i t (r.length + 1) :: r.map .lit)))) : AOp P o α σ Kk := by
  obtain ⟨dst, op, ty, pos, after, guard⟩ := o
  obtain rfl : op = .alloc t := ho
  intro κ ev hI hx
  obtain ⟨i, hi, hfree⟩ := hI.fresh
  have hsz : z.cells.size = r.length + 1 := by rw [← Array.length_toList, hc]; rfl
  obtain ⟨κ', hw, hle, hρ, hI'⟩ := hI.alloc i hi (.cells (.nilp i t (r.length + 1) :: r.map .lit)) (.cells z.cells t) fun κ' hle hh hρ' =>
    ⟨z.cells, t, hh, by simp [hsz], fun j hj => by
      have e1 : z.cells.getD j undef = (.pointer none :: r)[j]'(by simpa using hj) := by
        have : j < z.cells.size := by rw [hsz]; simpa using hj
        simp only [Array.getD_eq_getD_getElem?, ← Array.getElem?_toList, hc]
        rw [List.getElem?_eq_getElem (by simpa using hj)]; rfl
      rw [e1]
      cases j with
      | zero => exact .nilp i t _ κ.w.heap.size (by rw [hρ']; simp) (by unfold World.shape?; rw [hh]; simp [hsz])
      | succ j => simp only [List.getElem_cons_succ, List.getElem_map]; exact .lit _⟩
  refine upon_v rfl ⟨.pointer (some ⟨κ.w.heap.size, 0, none⟩), κ.w.alloc (.cells z.cells t), ?_, κ', .ref i 0, _, hw, hle, hI', .ref i 0 _ hρ, hk i hfree⟩
  simp only [Instr.alloc, Sem.run_bind, run_zeroValue' hz, Result.andThen_ok, newVar, newRow, run_newObj, Sem.run_pure, World.alloc_eq]

/-- a value in a box, whose first cell is a pointer that is nil -/
theorem AOp_boxP {t : TypeId} {x : Operand} {r : List AVal} (ho : o.op = .box t x) (hx : α x = .agg (.lit (.pointer none) :: r)) (hk : ∀ i, σ.heap i = none → Kk (.ref i 0) (σ.set i (.cells (.nilp i t (r.length + 1) :: r)))) : AOp P o α σ Kk := by
  obtain ⟨dst, op, ty, pos, after, guard⟩ := o
  obtain rfl : op = .box t x := ho
  intro κ ev hI hxx
  have hv := hxx x (by simp [Op.operands])
  rw [hx] at hv
  obtain ⟨vs, hvs, hn, hR⟩ := hv.aggInv
  obtain ⟨i, hi, hfree⟩ := hI.fresh
  have hsz : vs.size = r.length + 1 := by rw [hn]; rfl
  obtain ⟨κ', hw, hle, hρ, hI'⟩ := hI.alloc i hi (.cells (.nilp i t (r.length + 1) :: r)) (.cells vs t) fun κ' hle hh hρ' =>
    ⟨vs, t, hh, by simp [hsz], fun j hj => by
      have h1 := hR j (by simpa using hj)
      cases j with
      | zero =>
        simp only [List.getElem_cons_zero] at h1 ⊢
        rw [h1.litInv]
        exact .nilp i t _ κ.w.heap.size (by rw [hρ']; simp) (by unfold World.shape?; rw [hh]; simp [hsz])
      | succ j =>
        simp only [List.getElem_cons_succ] at h1 ⊢
        exact h1.mono hle⟩
  refine upon_v (s := Instr.box t (ev x)) rfl ⟨.pointer (some ⟨κ.w.heap.size, 0, none⟩), κ.w.alloc (.cells vs t), ?_, κ', .ref i 0, _, hw, hle, hI', .ref i 0 _ hρ, hk i hfree⟩
  rw [hvs]
  simp [Instr.box, newVar, newRow, Value.cells]

theorem shape_of_nilp {κ : K} (hI : Inv κ σ) {i n b : Nat} {e : TypeId} {r : List AVal} (hh : σ.heap i = some (.cells (.nilp i e n :: r))) (hb : κ.ρ i = some b) : κ.w.shape? b = some (e, n) := by
  obtain ⟨b', hb', _, _, c, e', hheap, hlen, hR⟩ := hI.heap i _ hh
  rw [hb] at hb'
  obtain rfl := Option.some.inj hb'
  have := hR 0 (by simp)
  generalize c.getD 0 undef = u at this
  simp only [List.getElem_cons_zero] at this
  cases this with
  | nilp _ _ _ b2 hb2 hs => rw [hb] at hb2; obtain rfl := Option.some.inj hb2; exact hs

theorem rv_ref {κ : K} {i b off : Nat} {v : Value} (h : Rv κ (.ref i off) v) (hb : κ.ρ i = some b) : v = .pointer (some ⟨b, off, none⟩) := by
  cases h with
  | ref _ _ b' hb' => rw [hb] at hb'; obtain rfl := Option.some.inj hb'; rfl

/-- a pointer as one without a type -/
theorem AOp_toUnsafe {src dst t e : TypeId} {x : Operand} {i n : Nat} {r : List AVal} (ho : o.op = .convert src dst x) (hs : P.underlying src = some (.pointer t)) (hd : P.underlying dst = some .unsafePointer) (ht : ((P.info? t).map fun j => j.size == 0) = some false)
    (hx : α x = .ref i 0) (hh : σ.heap i = some (.cells (.nilp i e n :: r))) (hn : 0 < n) (hk : Kk (.ref i 0) σ) : AOp P o α σ Kk := by
  obtain ⟨dst', op, ty, pos, after, guard⟩ := o
  obtain rfl : op = _ := ho
  intro κ ev hI hxx
  have hv := hxx x (by simp [Op.operands])
  rw [hx] at hv
  obtain ⟨b, hb, _⟩ := hI.heap i _ hh
  have he := rv_ref hv hb
  refine upon_v (s := convert src dst (ev x)) rfl ⟨.pointer (some ⟨b, 0, none⟩), κ.w, ?_, κ, _, σ, rfl, .refl κ, hI, .ref i 0 b hb, hk⟩
  rw [he]
  obtain ⟨j, ht, hj⟩ := Option.map_eq_some_iff.1 ht
  exact Lib.run_to_unsafe κ.w ⟨b, 0, none⟩ hs hd ht (by simpa using hj) (shape_of_nilp hI hh hb) hn

theorem AOp_fromUnsafe {src dst u e : TypeId} {x : Operand} {i n : Nat} {r : List AVal} (ho : o.op = .convert src dst x) (hs : P.underlying src = some .unsafePointer) (hd : P.underlying dst = some (.pointer u)) (hu : (P.info? u).isSome = true)
    (hx : α x = .ref i 0) (hh : σ.heap i = some (.cells (.nilp i e n :: r))) (hl : liesAt P P.depth e (n / P.cellsOf e) 0 u 1 = true) (hk : Kk (.ref i 0) σ) : AOp P o α σ Kk := by
  obtain ⟨dst', op, ty, pos, after, guard⟩ := o
  obtain rfl : op = _ := ho
  intro κ ev hI hxx
  have hv := hxx x (by simp [Op.operands])
  rw [hx] at hv
  obtain ⟨b, hb, _⟩ := hI.heap i _ hh
  have he := rv_ref hv hb
  refine upon_v (s := convert src dst (ev x)) rfl ⟨.pointer (some ⟨b, 0, none⟩), κ.w, ?_, κ, _, σ, rfl, .refl κ, hI, .ref i 0 b hb, hk⟩
  rw [he]
  obtain ⟨j, hu⟩ := Option.isSome_iff_exists.1 hu
  exact Lib.run_from_unsafe κ.w ⟨b, 0, none⟩ hs hd hu (shape_of_nilp hI hh hb) hl

/-- a function of the model's own, that reckons -/
def externOf (P : Program) (f : FuncId) : Option (Array Value → Sem Value) :=
  match P.funcs[f]? with
  | some fn => if !(fn.name == "runtime.NumGoroutine") && fn.body.isNone && (Extern.findNext fn).isNone then Extern.find fn else none
  | none => none
theorem run_extern {f : FuncId} {e : Array Value → Sem Value} (h : externOf P f = some e) (args : Array Value) (w : World) : (callFunc f args).run P w = ((e args).run P w).andThen fun v w' => .ok (.value v) w' := by
  unfold externOf at h
  split at h
  · rename_i fn hf
    split at h
    · rename_i hc
      simp only [Bool.and_eq_true, Bool.not_eq_true', Option.isNone_iff_eq_none] at hc
      exact run_callFunc_extern hf hc.1.1 (by simpa using hc.1.2) hc.2 h args w
    · cases h
  · cases h

theorem AOp_extern {f : FuncId} {args : Array Operand} {ts : Array TypeId} {e : Array Value → Sem Value} {a : AVal} (ho : o.op = .call { callee := .value (.func f), args := args, argTypes := ts }) (he : externOf P f = some e)
    (hf : α (.func f) = .lit (.func (.func f) #[] #[])) (h : ∀ κ (ev : Operand → Value), Inv κ σ → (∀ x ∈ args, Rv κ (α x) (ev x)) → ∃ cv, (e (args.map ev)).run P κ.w = .ok cv κ.w ∧ Rv κ a cv) (hk : Kk a σ) : AOp P o α σ Kk := by
  obtain ⟨dst', op, ty, pos, after, guard⟩ := o
  obtain rfl : op = _ := ho
  intro κ ev hI hxx
  obtain ⟨cv, h1, h2⟩ := h κ ev hI fun x hx => hxx x (by simp [Op.operands, Call.operands, hx])
  have hfv : Rv κ (α (.func f)) (ev (.func f)) := hxx (.func f) (by simp [Op.operands, Call.operands])
  rw [hf] at hfv
  have hr : (execOp ev ⟨dst', .call { callee := .value (.func f), args := args, argTypes := ts }, ty, pos, after, guard⟩).run P κ.w = .ok (.value cv) κ.w := by
    simp only [execOp, resolve, Sem.run_bind, hfv.litInv, Deferred.ofValue, Sem.run_pure, Result.andThen_ok, invoke]
    rw [run_extern he]
    simp [h1]
  rw [hr]
  exact ⟨κ, a, σ, rfl, .refl κ, hI, h2, hk⟩

theorem same_rv {κ : K} {α : Operand → AVal} {x : Operand} {ev : Operand → Value} (h : Rv κ (α x) (ev x)) : ∃ cv, (Extern.AbiNoEscape.same (#[x].map ev)).run P κ.w = .ok cv κ.w ∧ Rv κ (α x) cv := ⟨ev x, by rw [show #[x].map ev = #[ev x] from by simp]; exact Lib.run_noEscape κ.w (ev x), h⟩

/-- where a slice of bytes lies -/
theorem AOp_sliceData {x : Operand} {t e : TypeId} {k : Nat} {l : List AVal} {e0 : TypeId} (ho : o.op = .call { callee := .builtin .unsafeSliceData, args := #[x], argTypes := #[t] }) (hty : P.underlying o.type = some (.pointer e))
    (hx : (α x = .own k 1 l ∧ σ.tok k = some (e0, 1)) ∨ (α x = .lit (.slice none 0 0) ∧ l = [])) (hk : Kk (.sdp k l) σ) : AOp P o α σ Kk := by
  obtain ⟨dst', op, ty, pos, after, guard⟩ := o
  obtain rfl : op = _ := ho
  intro κ ev hI hxx
  have hv := hxx x (by simp [Op.operands, Call.operands])
  have fin : ∀ (cv : Value) κ', (Builtin.unsafeSliceData_ #[t] ty #[ev x]).run P κ.w = .ok cv κ'.w → κ.Le κ' → Inv κ' σ → Rv κ' (.sdp k l) cv → Upon P (Post κ Kk) ((execOp ev ⟨dst', .call { callee := .builtin .unsafeSliceData, args := #[x], argTypes := #[t] }, ty, pos, after, guard⟩).run P κ.w) := fun cv κ' h1 h2 h3 h4 =>
    upon_v (s := Builtin.unsafeSliceData_ #[t] ty #[ev x]) (by simp [execOp, resolve, invoke, builtin]) ⟨cv, κ'.w, h1, κ', .sdp k l, σ, rfl, h2, h3, h4, hk⟩
  rcases hx with ⟨hx, htok⟩ | ⟨hx, rfl⟩
  · rw [hx] at hv
    obtain ⟨v, hτ, n, xs, how, _⟩ := hI.tok k _ htok
    dsimp only at how
    generalize ev x = u at hv fin
    cases hv with
    | own _ _ _ _ h0 hτ' =>
      rw [hτ] at hτ'
      obtain rfl := Option.some.inj hτ'
      obtain ⟨a, cap, us, hev, _, _, _⟩ := sl_vals h0
      rcases how.2 with ⟨h1, h2⟩ | ⟨g, cap', cur, fr, h1, hbg, hg, hfr, hnc, hcm, hcs, htk⟩
      · rw [hev] at h1
        simp only [Value.slice.injEq] at h1
        obtain rfl : l = [] := List.eq_nil_of_length_eq_zero h1.2.1
        rw [hev, h1.1] at fin
        exact fin (.pointer none) κ (Lib.run_unsafeSliceData_nil κ.w _ _ _ _) (.refl κ) hI (.sdp0 k none)
      · rw [hev] at h1
        simp only [Value.slice.injEq] at h1
        obtain ⟨rfl, hnl, rfl⟩ := h1
        subst hev
        by_cases hc : cap = 0
        · subst hc
          obtain rfl : l = [] := List.eq_nil_of_length_eq_zero (by omega)
          obtain ⟨κ', hw, hle, _, hI'⟩ := new_imm hI (w1 := κ.w) (.inl rfl) (.view ⟨g, 0, none⟩ e) 0
          exact fin (.pointer (some ⟨κ.w.heap.size, 0, none⟩)) κ' (by rw [hw]; exact Lib.run_unsafeSliceData_zero κ.w _ ty e hty _ _ (e0, cur.size) (by unfold World.shape?; rw [hg])) hle hI' (.sdp0 k _)
        · exact fin (.pointer (some ⟨g, 0, none⟩)) κ (Lib.run_unsafeSliceData_row κ.w _ _ _ _ _ hc) (.refl κ) hI (.sdp k l g cap h0 hτ)
  · rw [hx] at hv
    rw [hv.litInv] at fin
    exact fin (.pointer none) κ (Lib.run_unsafeSliceData_nil κ.w _ _ _ _) (.refl κ) hI (.sdp0 k none)

theorem Store.delTok_sub (σ : Store) (k : Nat) : (σ.delTok k).Sub σ := ⟨fun _ _ h => h, fun t n h => by
  by_cases ht : t = k
  · subst ht; simp [Store.delTok] at h
  · simpa [Store.delTok, ht] using h⟩

theorem heap_freeze_ne (w : World) {g b : Nat} (n : Nat) (h : b ≠ g) : (w.freeze ⟨g, 0, none⟩ n).heap[b]? = w.heap[b]? := by
  unfold World.freeze
  split
  · rfl
  · simp only [Array.getElem?_modify]; rw [if_neg (Ne.symm h)]
theorem shape_freeze (w : World) (a : Addr) (n b : Nat) : (w.freeze a n).shape? b = w.shape? b := by
  by_cases h0 : n = 0
  · simp [World.freeze, h0]
  · simp only [World.freeze, World.shape?, h0, if_false, Array.getElem?_modify]
    by_cases hb : a.block = b
    · rw [if_pos hb]
      cases w.heap[b]? with
      | none => rfl
      | some x => cases x <;> rfl
    · rw [if_neg hb]
theorem cell_freeze (w : World) (a : Addr) (n : Nat) (p : Addr) : (w.freeze a n).cell? p = w.cell? p := by
  by_cases h0 : n = 0
  · simp [World.freeze, h0]
  · simp only [World.freeze, World.cell?, h0, if_false, Array.getElem?_modify]
    by_cases hb : a.block = p.block
    · rw [if_pos hb]
      cases w.heap[p.block]? with
      | none => rfl
      | some x => cases x <;> rfl
    · rw [if_neg hb]

/-- the string of bytes that lie somewhere: they are not written any more -/
theorem AOp_unsafeString {x y : Operand} {t t2 e : TypeId} {k : Nat} {s : ByteArray} (ho : o.op = .call { callee := .builtin .unsafeString, args := #[x, y], argTypes := #[t, t2] }) (ht : P.underlying t = some (.pointer e)) (hc : P.cellsOf e = 1)
    (hx : α x = .sdp k (bytesL s)) (hy : α y = .lit (.int .i64 (s.size : Int))) (htok : s.size = 0 ∨ σ.tok k = some (e, 1)) (h63 : s.size ≤ 9223372036854775807) (hk : Kk (.lit (.string s)) (σ.delTok k)) : AOp P o α σ Kk := by
  obtain ⟨dst', op, ty, pos, after, guard⟩ := o
  obtain rfl : op = _ := ho
  intro κ ev hI hxx
  have hvx := hxx x (by simp [Op.operands, Call.operands])
  have hvy := hxx y (by simp [Op.operands, Call.operands])
  rw [hx] at hvx
  rw [hy] at hvy
  have hey := hvy.litInv
  have fin : ∀ κ', (Builtin.unsafeString_ #[t, t2] ty #[ev x, .int .i64 (s.size : Int)]).run P κ.w = .ok (.string s) κ'.w → κ.Le κ' → Inv κ' (σ.delTok k) → Upon P (Post κ Kk) ((execOp ev ⟨dst', .call { callee := .builtin .unsafeString, args := #[x, y], argTypes := #[t, t2] }, ty, pos, after, guard⟩).run P κ.w) := fun κ' h1 h2 h3 =>
    upon_v (s := Builtin.unsafeString_ #[t, t2] ty #[ev x, ev y]) (by simp [execOp, resolve, invoke, builtin]) ⟨.string s, κ'.w, by rw [hey]; exact h1, κ', .lit (.string s), _, rfl, h2, h3, .lit _, hk⟩
  by_cases h0 : s.size = 0
  · have hs : s = .empty := by
      apply ByteArray.ext
      exact Array.eq_empty_of_size_eq_zero h0
    subst hs
    obtain ⟨a, ha⟩ : ∃ a, ev x = .pointer a := by
      generalize ev x = u at hvx
      cases hvx with
      | sdp0 => exact ⟨_, rfl⟩
      | sdp => exact ⟨_, rfl⟩
    exact fin κ (by rw [ha]; exact Lib.run_unsafeString_none κ.w t t2 ty a) (.refl κ) (hI.sub (Store.delTok_sub σ k))
  · have htk : σ.tok k = some (e, 1) := htok.resolve_left h0
    generalize hu : ev x = u at hvx fin
    generalize hl : bytesL s = l at hvx
    cases hvx with
    | sdp0 => exact absurd (by have := bytesL_length s; rw [hl] at this; simpa using this.symm) h0
    | sdp _ _ g c hsl hτ =>
      subst hl
      obtain ⟨v, hτ', n, xs, how, hIb⟩ := hI.tok k _ htk
      rw [hτ] at hτ'
      obtain rfl := Option.some.inj hτ'
      rcases how.2 with ⟨h1, _⟩ | ⟨g', cap', cur, fr, h1, hbg, hg, hfr, hnc, hcm, hcs, htkk⟩
      · cases h1
      simp only [Value.slice.injEq, Option.some.injEq, Addr.mk.injEq, and_true] at h1
      obtain ⟨rfl, hnl, rfl⟩ := h1
      rw [bytesL_length] at hnl
      obtain ⟨a, cap, us, hev, _, hr, hcells⟩ := sl_vals hsl
      have hsl' : s.data.toList.length = s.size := by show _ = s.data.size; simp
      have hcell : ∀ (j : Nat) x, s.data.toList[j]? = some x → κ.w.cell? ((⟨g, 0, none⟩ : Addr).add j) = some (.int .u8 x.toNat) := by
        intro j x hj
        simp only [Value.slice.injEq] at hev
        obtain ⟨rfl, _, rfl⟩ := hev
        rcases hcells with ⟨h1, _⟩ | ⟨ad, h1, hcu⟩
        · cases h1
        · obtain rfl := Option.some.inj h1
          have hj' : j < s.data.toList.length := (List.getElem?_eq_some_iff.1 hj).1
          have hjl : j < (flat (bytesL s)).length := by rw [flat_bytesL, bytesL_length]; exact hsl' ▸ hj'
          have hju : j < us.length := by rw [← hr.1]; exact hjl
          have h2 := hr.2 j hjl hju
          have e3 : (flat (bytesL s))[j] = .lit (.int .u8 x.toNat) := by
            simp only [flat_bytesL]
            simp only [bytesL, List.getElem_map]
            rw [(List.getElem?_eq_some_iff.1 hj).2]
          rw [e3] at h2
          have := hcu j us[j] (by simp [hju])
          rw [this, h2.litInv]
      have hrun := Lib.run_unsafeString_row (P := P) κ.w t t2 ty e ht hc g cur.size (by unfold World.shape?; rw [hg]) s.data.toList (by intro hh; apply h0; rw [← hsl', hh]; rfl) (by rw [hsl']; omega) (by rw [hsl']; exact h63) hcell
      have e1 : (s.data.toList.length : Int) = (s.size : Int) := by rw [hsl']
      have e2 : (⟨s.data.toList.toArray⟩ : ByteArray) = s := by cases s; simp
      rw [e1, e2] at hrun
      have hle : κ.Le { κ with w := κ.w.freeze ⟨g, 0, none⟩ s.data.toList.length } :=
        ⟨rfl, Lib.below_freeze (Below.refl _ _) hbg _, fun b sh h => by rw [shape_freeze]; exact h, fun _ _ h => h, fun _ _ h => h, fun _ => Nat.le_refl _, fun b off v _ h => by rw [cell_freeze]; exact h, by
          show _ ≤ (World.freeze _ _ _).drawn
          unfold World.freeze; split <;> exact Nat.le_refl _⟩
      refine fin { κ with w := κ.w.freeze ⟨g, 0, none⟩ s.data.toList.length } hrun hle ?_
      have sz : (κ.w.freeze ⟨g, 0, none⟩ s.data.toList.length).heap.size = κ.w.heap.size := by unfold World.freeze; split <;> simp
      have hI1 := hI.sub (Store.delTok_sub σ k)
      have tokne : ∀ t q, (σ.delTok k).tok t = some q → t ≠ k ∧ σ.tok t = some q := fun t q h => by
        by_cases ht : t = k
        · subst ht; simp [Store.delTok] at h
        · exact ⟨ht, by simpa [Store.delTok, ht] using h⟩
      exact {
        glob := hI.glob.le hle
        base := by rw [hle.base]; exact Nat.le_trans hI.base hle.below.size
        heap := fun i x hx => by
          obtain ⟨b, hb, hbase, hIb', hR⟩ := hI.heap i x hx
          have hne : b ≠ g := fun hh => hI.tokobj k _ _ g i x htk hτ rfl hx (by rw [hb, hh])
          exact ⟨b, hb, hbase, hIb', hR.mono hle (heap_freeze_ne _ _ hne)⟩
        inj := hI1.inj
        tok := fun t q ht => by
          obtain ⟨hne, ht'⟩ := tokne t q ht
          obtain ⟨v, hv, hok⟩ := hI.tok t q ht'
          exact ⟨v, hv, hok.mono hle fun b hb => ⟨heap_freeze_ne _ _ (fun hh => hne (hI.tokinj t k _ _ v _ g ht' htk hv hτ (by rw [hb, hh]) rfl)), rfl⟩⟩
        tokinj := hI1.tokinj
        tokobj := hI1.tokobj
        frO := hI.frO
        frT := hI.frT
        frI := fun b hb => hI.frI b (by rw [← sz]; exact hb) }
/-- the string of no bytes -/
theorem AOp_unsafeString0 {x y : Operand} {t t2 : TypeId} {k : Nat} (ho : o.op = .call { callee := .builtin .unsafeString, args := #[x, y], argTypes := #[t, t2] })
    (hx : α x = .sdp k []) (hy : α y = .lit (.int .i64 0)) (hk : Kk (.lit (.string ⟨#[]⟩)) σ) : AOp P o α σ Kk := by
  obtain ⟨dst', op, ty, pos, after, guard⟩ := o
  obtain rfl : op = _ := ho
  intro κ ev hI hxx
  have hvx := hxx x (by simp [Op.operands, Call.operands])
  have hvy := hxx y (by simp [Op.operands, Call.operands])
  rw [hx] at hvx
  rw [hy] at hvy
  obtain ⟨a, ha⟩ : ∃ a, ev x = .pointer a := by
    generalize ev x = u at hvx
    cases hvx with
    | sdp0 => exact ⟨_, rfl⟩
    | sdp => exact ⟨_, rfl⟩
  exact upon_v (s := Builtin.unsafeString_ #[t, t2] ty #[ev x, ev y]) (by simp [execOp, resolve, invoke, builtin]) ⟨.string ⟨#[]⟩, κ.w, by rw [hvy.litInv, ha]; exact Lib.run_unsafeString_none κ.w t t2 ty a, κ, .lit (.string ⟨#[]⟩), _, rfl, .refl κ, hI, .lit _, hk⟩
end
end Go.Ab
end

section
set_option linter.all false
set_option maxRecDepth 100000
namespace Go.Proofs.YtbjloippgpilcaaGreatDoor
open Go.Ab

theorem o_ {p : Prop} (h : p := by simp only [List.getElem?_toArray, List.getElem?_cons_zero, List.getElem?_cons_succ]; rfl) : p := h
theorem v_ {p : Prop} (h : p := by first | (simp (disch := omega) only [go_sem, wrap_i64, ↓reduceIte, Nat.reduceEqDiff, Nat.reduceAdd, Nat.reduceSub, Nat.reduceMul, Nat.reduceLeDiff, reduceCtorEq, Int.reduceToNat, Int.reduceLE, Int.reduceLT, List.getElem?_map, Nat.mul_one, R]; rfl) | (simp (disch := omega) only [go_sem, wrap_i64, ↓reduceIte, Nat.reduceEqDiff, Nat.reduceAdd, Nat.reduceSub, Nat.reduceMul, Nat.reduceLeDiff, reduceCtorEq, Int.reduceToNat, Int.reduceLE, Int.reduceLT, List.getElem?_map, Nat.mul_one]; rfl)) : p := h
theorem va_ {p : Prop} (h : p := by first | (simp (disch := omega) only [go_sem, wrap_i64, ↓reduceIte, Nat.reduceEqDiff, Nat.reduceAdd, Nat.reduceSub, Nat.reduceMul, Nat.reduceLeDiff, reduceCtorEq, Int.reduceToNat, Int.reduceLE, Int.reduceLT, List.getElem?_map, Nat.mul_one, R]; rfl) | (simp (disch := omega) only [go_sem, wrap_i64, ↓reduceIte, Nat.reduceEqDiff, Nat.reduceAdd, Nat.reduceSub, Nat.reduceMul, Nat.reduceLeDiff, reduceCtorEq, Int.reduceToNat, Int.reduceLE, Int.reduceLT, List.getElem?_map, Nat.mul_one, R]; done) | (simp (disch := omega) only [go_sem, wrap_i64, ↓reduceIte, Nat.reduceEqDiff, Nat.reduceAdd, Nat.reduceSub, Nat.reduceMul, Nat.reduceLeDiff, reduceCtorEq, Int.reduceToNat, Int.reduceLE, Int.reduceLT, List.getElem?_map, Nat.mul_one]; rfl) | (simp (disch := omega) only [go_sem, wrap_i64, ↓reduceIte, Nat.reduceEqDiff, Nat.reduceAdd, Nat.reduceSub, Nat.reduceMul, Nat.reduceLeDiff, reduceCtorEq, Int.reduceToNat, Int.reduceLE, Int.reduceLT, List.getElem?_map, Nat.mul_one]; done) | rfl) : p := h
theorem h_ {p : Prop} (h : p := by first | (simp (disch := omega) only [go_sem, ↓reduceIte, Nat.reduceEqDiff, Nat.reduceAdd, Nat.reduceSub, Nat.reduceMul, Nat.reduceLeDiff, reduceCtorEq, Int.reduceToNat, Int.reduceLE, Int.reduceLT, List.getElem?_map, Nat.mul_one, R]; rfl) | (simp (disch := omega) only [go_sem, ↓reduceIte, Nat.reduceEqDiff, Nat.reduceAdd, Nat.reduceSub, Nat.reduceMul, Nat.reduceLeDiff, reduceCtorEq, Int.reduceToNat, Int.reduceLE, Int.reduceLT, List.getElem?_map, Nat.mul_one, R]; done) | (simp (disch := omega) only [go_sem, ↓reduceIte, Nat.reduceEqDiff, Nat.reduceAdd, Nat.reduceSub, Nat.reduceMul, Nat.reduceLeDiff, reduceCtorEq, Int.reduceToNat, Int.reduceLE, Int.reduceLT, List.getElem?_map, Nat.mul_one]; rfl) | (simp (disch := omega) only [go_sem, ↓reduceIte, Nat.reduceEqDiff, Nat.reduceAdd, Nat.reduceSub, Nat.reduceMul, Nat.reduceLeDiff, reduceCtorEq, Int.reduceToNat, Int.reduceLE, Int.reduceLT, List.getElem?_map, Nat.mul_one]; done)) : p := h
theorem g_ {p : Prop} (h : p := by first | (simp only [go_sem]; rfl) | (simp only [go_sem]; done) | assumption) : p := h
theorem gl_ {p : Prop} (h : p := by simp only [go_sem, ↓reduceIte, Nat.reduceEqDiff, Nat.reduceAdd, Nat.reduceSub, Nat.reduceMul, Nat.reduceLeDiff, reduceCtorEq, Int.reduceToNat, Int.reduceLE, Int.reduceLT]; rfl) : p := h
theorem c_ {p : Prop} (h : p := by simp [AVal.one, AVal.cells]) : p := h
theorem c2_ {p : Prop} (h : p := by simp [go_sem, AVal.one, AVal.cells, AVal.solid]) : p := h
theorem le_ {p : Prop} (h : p := by first | (simp; done) | (simp; omega) | omega) : p := h
theorem ne_ {p : Prop} (h : p := by first | (simp; done) | (simp; assumption)) : p := h
theorem key_ {p : Prop} (h : p := by first | rfl | trivial | simp [Go.MapKept.IsKey]) : p := h
theorem sub_ {p : Prop} (h : p := by first | exact Store.Wk.refl _ | exact Store.Sub.refl _ | ((try dsimp only); (try simp (disch := assumption) only [Store.newTok_set, Store.newTok_step]); (first | refine subx_start ?_ | refine subx_startS ?_ | skip); (repeat (first | refine subx_skip (.head _) ?_ | refine subx_skip (.tail _ (.head _)) ?_ | refine subx_skip (.tail _ (.tail _ (.head _))) ?_ | refine subx_skip (.tail _ (.tail _ (.tail _ (.head _)))) ?_ | refine subx_left h_ ?_)); (repeat (first | exact subx_refl | refine subx_in (.head _) ?_ | refine subx_in (.tail _ (.head _)) ?_ | refine subx_in (.tail _ (.tail _ (.head _))) ?_ | refine subx_in (.tail _ (.tail _ (.tail _ (.head _)))) ?_ | refine subx_new (by first | assumption | (simp only [Store.newTok_heap]; assumption)) ?_ | refine subx_tok ?_ | refine subx_newTok (by assumption) ?_)))) : p := h
theorem vg_ {p : Prop} (h : p := by intro hb; have hb' := hb; (try simp only [decide_eq_true_eq, decide_eq_false_iff_not, Bool.not_eq_true', Bool.not_eq_false', Bool.and_eq_true, Bool.or_eq_true, Bool.and_eq_false_iff, Bool.or_eq_false_iff, Bool.not_eq_eq_eq_not, Bool.not_true, Bool.not_false, Int.not_le, Int.not_lt, beq_iff_eq] at hb'); (try simp only [Bool.and_eq_true] at hb); first | (simp (disch := omega) only [go_sem, wrap_i64, ↓reduceIte, Nat.reduceEqDiff, Nat.reduceAdd, Nat.reduceSub, Nat.reduceMul, Nat.reduceLeDiff, reduceCtorEq, Int.reduceToNat, Int.reduceLE, Int.reduceLT, List.getElem?_map, Nat.mul_one, R]; rfl) | (simp (disch := omega) only [go_sem, wrap_i64, ↓reduceIte, Nat.reduceEqDiff, Nat.reduceAdd, Nat.reduceSub, Nat.reduceMul, Nat.reduceLeDiff, reduceCtorEq, Int.reduceToNat, Int.reduceLE, Int.reduceLT, List.getElem?_map, Nat.mul_one, hb, R]; rfl) | (simp (disch := omega) only [go_sem, wrap_i64, ↓reduceIte, Nat.reduceEqDiff, Nat.reduceAdd, Nat.reduceSub, Nat.reduceMul, Nat.reduceLeDiff, reduceCtorEq, Int.reduceToNat, Int.reduceLE, Int.reduceLT, List.getElem?_map, Nat.mul_one]; rfl) | (simp (disch := omega) only [go_sem, wrap_i64, ↓reduceIte, Nat.reduceEqDiff, Nat.reduceAdd, Nat.reduceSub, Nat.reduceMul, Nat.reduceLeDiff, reduceCtorEq, Int.reduceToNat, Int.reduceLE, Int.reduceLT, List.getElem?_map, Nat.mul_one, hb]; rfl)) : p := h
theorem vh_ {p : Prop} (h : p := by (try simp only [Bool.and_eq_true] at hb); first | (simp (disch := omega) only [go_sem, wrap_i64, ↓reduceIte, Nat.reduceEqDiff, Nat.reduceAdd, Nat.reduceSub, Nat.reduceMul, Nat.reduceLeDiff, reduceCtorEq, Int.reduceToNat, Int.reduceLE, Int.reduceLT, List.getElem?_map, Nat.mul_one, hb, R]; rfl) | (simp (disch := omega) only [go_sem, wrap_i64, ↓reduceIte, Nat.reduceEqDiff, Nat.reduceAdd, Nat.reduceSub, Nat.reduceMul, Nat.reduceLeDiff, reduceCtorEq, Int.reduceToNat, Int.reduceLE, Int.reduceLT, List.getElem?_map, Nat.mul_one, hb, R]; done) | (simp (disch := omega) only [go_sem, wrap_i64, ↓reduceIte, Nat.reduceEqDiff, Nat.reduceAdd, Nat.reduceSub, Nat.reduceMul, Nat.reduceLeDiff, reduceCtorEq, Int.reduceToNat, Int.reduceLE, Int.reduceLT, List.getElem?_map, Nat.mul_one, hb]; rfl) | (simp (disch := omega) only [go_sem, wrap_i64, ↓reduceIte, Nat.reduceEqDiff, Nat.reduceAdd, Nat.reduceSub, Nat.reduceMul, Nat.reduceLeDiff, reduceCtorEq, Int.reduceToNat, Int.reduceLE, Int.reduceLT, List.getElem?_map, Nat.mul_one, hb]; done)) : p := h
theorem cg_ {p : Prop} (h : p := by have hb' := hb; (try simp only [decide_eq_true_eq, decide_eq_false_iff_not, Bool.not_eq_true', Bool.not_eq_false', Bool.and_eq_true, Bool.or_eq_true, Bool.and_eq_false_iff, Bool.or_eq_false_iff, Bool.not_eq_eq_eq_not, Bool.not_true, Bool.not_false, Int.not_le, Int.not_lt, beq_iff_eq] at hb'); (try simp only [Bool.and_eq_true] at hb); first | (simp (disch := omega) only [go_sem, wrap_i64, ↓reduceIte, Nat.reduceEqDiff, Nat.reduceAdd, Nat.reduceSub, Nat.reduceMul, Nat.reduceLeDiff, reduceCtorEq, Int.reduceToNat, Int.reduceLE, Int.reduceLT, List.getElem?_map, Nat.mul_one, R]; rfl) | (simp (disch := omega) only [go_sem, wrap_i64, ↓reduceIte, Nat.reduceEqDiff, Nat.reduceAdd, Nat.reduceSub, Nat.reduceMul, Nat.reduceLeDiff, reduceCtorEq, Int.reduceToNat, Int.reduceLE, Int.reduceLT, List.getElem?_map, Nat.mul_one, R]; done) | (simp (disch := omega) only [go_sem, wrap_i64, ↓reduceIte, Nat.reduceEqDiff, Nat.reduceAdd, Nat.reduceSub, Nat.reduceMul, Nat.reduceLeDiff, reduceCtorEq, Int.reduceToNat, Int.reduceLE, Int.reduceLT, List.getElem?_map, Nat.mul_one, hb, R]; rfl) | (simp (disch := omega) only [go_sem, wrap_i64, ↓reduceIte, Nat.reduceEqDiff, Nat.reduceAdd, Nat.reduceSub, Nat.reduceMul, Nat.reduceLeDiff, reduceCtorEq, Int.reduceToNat, Int.reduceLE, Int.reduceLT, List.getElem?_map, Nat.mul_one, hb, R]; done) | (simp (disch := omega) only [go_sem, wrap_i64, ↓reduceIte, Nat.reduceEqDiff, Nat.reduceAdd, Nat.reduceSub, Nat.reduceMul, Nat.reduceLeDiff, reduceCtorEq, Int.reduceToNat, Int.reduceLE, Int.reduceLT, List.getElem?_map, Nat.mul_one]; rfl) | (simp (disch := omega) only [go_sem, wrap_i64, ↓reduceIte, Nat.reduceEqDiff, Nat.reduceAdd, Nat.reduceSub, Nat.reduceMul, Nat.reduceLeDiff, reduceCtorEq, Int.reduceToNat, Int.reduceLE, Int.reduceLT, List.getElem?_map, Nat.mul_one]; done) | (simp (disch := omega) only [go_sem, wrap_i64, ↓reduceIte, Nat.reduceEqDiff, Nat.reduceAdd, Nat.reduceSub, Nat.reduceMul, Nat.reduceLeDiff, reduceCtorEq, Int.reduceToNat, Int.reduceLE, Int.reduceLT, List.getElem?_map, Nat.mul_one, hb]; rfl) | (simp (disch := omega) only [go_sem, wrap_i64, ↓reduceIte, Nat.reduceEqDiff, Nat.reduceAdd, Nat.reduceSub, Nat.reduceMul, Nat.reduceLeDiff, reduceCtorEq, Int.reduceToNat, Int.reduceLE, Int.reduceLT, List.getElem?_map, Nat.mul_one, hb]; done)) : p := h
theorem vb_ {p : Prop} (h : p := by first | (simp (disch := omega) only [go_sem, wrap_i64, ↓reduceIte, Nat.reduceEqDiff, Nat.reduceAdd, Nat.reduceSub, Nat.reduceMul, Nat.reduceLeDiff, reduceCtorEq, Int.reduceToNat, Int.reduceLE, Int.reduceLT, List.getElem?_map, Nat.mul_one, List.map_append, List.map_cons, List.map_nil, R]; done) | (simp (disch := omega) only [go_sem, wrap_i64, ↓reduceIte, Nat.reduceEqDiff, Nat.reduceAdd, Nat.reduceSub, Nat.reduceMul, Nat.reduceLeDiff, reduceCtorEq, Int.reduceToNat, Int.reduceLE, Int.reduceLT, List.getElem?_map, Nat.mul_one, List.map_append, List.map_cons, List.map_nil]; done)) : p := h
theorem cv_ {p : Prop} (h : p := by (repeat (refine covers.eq (by first | with_reducible rfl | exact va_ | exact vb_ | rfl) ?_)); exact covers.nil) : p := h
theorem nm_ {p q : Prop} (h : p) (e : p = q := by (try simp only [decide_eq_true_eq, decide_eq_false_iff_not, Bool.not_eq_true', Bool.not_eq_false', Bool.and_eq_true, Bool.or_eq_true, Bool.and_eq_false_iff, Bool.or_eq_false_iff, Bool.not_eq_eq_eq_not, Bool.not_true, Bool.not_false, Int.not_le, Int.not_lt, beq_iff_eq]); rfl) : q := e ▸ h
theorem wn_ {p : Prop} (h : p := by first | exact wantedA_no (by rfl) (by rfl) v_ (by rfl) | exact wantedA_not (by rfl) (by rfl) v_ (by rfl)) : p := h
end Go.Proofs.YtbjloippgpilcaaGreatDoor
end

section
set_option linter.all false
namespace Go.Ab
open Go.RowKit (Below)
open Go.ChangeShapes Go.WideShapes

/-- the shape of a type of data -/
inductive Sh where
  | int (k : IntKind)
  | bool
  | str
  | sl (g : Bool) (e : Sh)
  | unit
  | pair (a b : Sh)

def Sh.size : Sh → Nat
  | .unit => 0
  | .pair a b => a.size + b.size
  | _ => 1

/-- cells of a shape -/
def Sh.ok : Sh → List AVal → Prop
  | .int k, cs => ∃ n, cs = [.lit (.int k n)] ∧ (Lit.int k n).wf = true
  | .bool, cs => ∃ b, cs = [.lit (.bool b)]
  | .str, cs => ∃ s, cs = [.lit (.string s)] ∧ s.size ≤ maxLen
  | .sl g e, cs => ∃ l : List AVal, cs = [.sl e.size l false] ∧ l.length ≤ maxLen ∧ ∀ x ∈ l, ∃ c, e.ok c ∧ (if g then x = .agg c else c = [x])
  | .unit, cs => cs = []
  | .pair a b, cs => ∃ c d, cs = c ++ d ∧ a.ok c ∧ b.ok d

def Sh.okv (s : Sh) (g : Bool) (a : AVal) : Prop := ∃ c, s.ok c ∧ (if g then a = .agg c else c = [a])

def fieldsSh (sh : TypeId → Option Sh) (P : Program) : List Field → Nat → Option Sh
  | [], _ => some .unit
  | f :: fs, off => if f.offset = off then match sh f.type with
      | some s => if s.size = P.cellsOf f.type then (fieldsSh sh P fs (off + s.size)).map (.pair s) else none
      | none => none
    else none

def repSh (s : Sh) : Nat → Sh
  | 0 => .unit
  | n + 1 => .pair s (repSh s n)

def shapeOf (P : Program) : Nat → TypeId → Option Sh
  | 0, _ => none
  | d + 1, t => match P.underlying t with
    | some .bool => some .bool
    | some (.int k) => some (.int k)
    | some .string => some .str
    | some (.slice e) => match shapeOf P d e with
      | some s => if s.size = P.cellsOf e ∧ 0 < s.size ∧ (aggB P e = false → s.size = 1) then some (.sl (aggB P e) s) else none
      | none => none
    | some (.struct fs) => match fieldsSh (shapeOf P d) P fs.toList 0 with
      | some s => if s.size = P.cellsOf t then some s else none
      | none => none
    | some (.array n e) => match shapeOf P d e with
      | some s => if s.size = P.cellsOf e ∧ P.cellsOf t = n * s.size then some (repSh s n) else none
      | none => none
    | _ => none

theorem Sh.ok_length : ∀ {s : Sh} {cs : List AVal}, s.ok cs → cs.length = s.size
  | .int k, cs, h => by obtain ⟨n, rfl, _⟩ := h; rfl
  | .bool, cs, h => by obtain ⟨n, rfl⟩ := h; rfl
  | .str, cs, h => by obtain ⟨n, rfl, _⟩ := h; rfl
  | .sl g e, cs, h => by obtain ⟨n, rfl, _⟩ := h; rfl
  | .unit, cs, h => by obtain rfl : cs = [] := h; rfl
  | .pair a b, cs, h => by
    obtain ⟨c, d, rfl, h1, h2⟩ := h
    simp [Sh.size, Sh.ok_length h1, Sh.ok_length h2]

theorem repSh_size (s : Sh) (n : Nat) : (repSh s n).size = n * s.size := by
  induction n with
  | zero => simp [repSh, Sh.size]
  | succ n ih => simp [repSh, Sh.size, ih, Nat.succ_mul, Nat.add_comm]

theorem pickList {p : Nat → AVal → Prop} : ∀ (n : Nat), (∀ i, i < n → ∃ x, p i x) → ∃ l : List AVal, l.length = n ∧ ∀ i (hi : i < l.length), p i l[i]
  | 0, _ => ⟨[], rfl, fun i hi => by simp at hi⟩
  | n + 1, h => by
    obtain ⟨l, hl, hp⟩ := pickList n fun i hi => h i (by omega)
    obtain ⟨x, hx⟩ := h n (by omega)
    refine ⟨l ++ [x], by simp [hl], fun i hi => ?_⟩
    by_cases hlt : i < l.length
    · rw [List.getElem_append_left hlt]; exact hp i hlt
    · have : i = n := by simp at hi; omega
      subst this
      rw [List.getElem_append_right (by omega)]
      simpa [hl] using hx

section
variable {H : Type} {enc : TypeId × Value → H} {P : Program} {κ : K} {held : Bool}

theorem cells?_at {w : World} {base : Nat} {a : Addr} {n : Nat} {cs : List Value} (h : w.cells? base a n = some cs) : cs.length = n ∧ ∀ i (hi : i < cs.length), w.cell? (a.add i) = some cs[i] := by
  unfold World.cells? at h
  split at h
  · have hl : cs.length = n := by
      have := mapM_len h
      simpa using this
    refine ⟨hl, fun i hi => ?_⟩
    have := mapM_at h i (by simpa [hl] using hi) hi
    simpa using this
  · cases h
where
  mapM_len {α β : Type} {f : α → Option β} : ∀ {l : List α} {r : List β}, l.mapM f = some r → r.length = l.length
    | [], r, h => by simp at h; subst h; rfl
    | x :: l, r, h => by
      rw [List.mapM_cons] at h
      obtain ⟨y, _, h2⟩ := Option.bind_eq_some_iff.1 h
      obtain ⟨ys, h3, h4⟩ := Option.bind_eq_some_iff.1 h2
      obtain rfl := Option.some.inj h4
      simp [mapM_len h3]
  mapM_at {α β : Type} {f : α → Option β} : ∀ {l : List α} {r : List β}, l.mapM f = some r → ∀ i (hi : i < l.length) (hj : i < r.length), f l[i] = some r[i]
    | [], r, h, i, hi, _ => by simp at hi
    | x :: l, r, h, i, hi, hj => by
      rw [List.mapM_cons] at h
      obtain ⟨y, h1, h2⟩ := Option.bind_eq_some_iff.1 h
      obtain ⟨ys, h3, h4⟩ := Option.bind_eq_some_iff.1 h2
      obtain rfl := Option.some.inj h4
      cases i with
      | zero => simpa using h1
      | succ i => simpa using mapM_at h3 i (by simpa using hi) (by simpa using hj)

def Reads (enc : TypeId × Value → H) (P : Program) (κ : K) (held : Bool) (d : Nat) : Prop :=
  ∀ (t : TypeId) (s : Sh) (fuel : Nat) (cs : List Value) (x : DataW H × List MemPlace), shapeOf P d t = some s → DataW.trod enc P κ.w 0 (fun _ => true) held fuel t cs = some x → ∃ av, s.ok av ∧ RvC κ av cs

theorem read_fields {d : Nat} (ih : Reads enc P κ held d) {n : Nat} {cs : List Value} : ∀ (fs : List Field) (off : Nat) (s : Sh), fieldsSh (shapeOf P d) P fs off = some s → off + s.size ≤ cs.length →
    (∀ (i : Nat) (f : Field), fs[i]? = some f → ∃ y, DataW.trod enc P κ.w 0 (fun _ => true) held n f.type ((cs.drop f.offset).take (P.cellsOf f.type)) = some y) → ∃ av, s.ok av ∧ RvC κ av ((cs.drop off).take s.size)
  | [], off, s, hs, _, _ => by
    obtain rfl := Option.some.inj hs
    exact ⟨[], rfl, by simp [Sh.size], fun i hi => by simp at hi⟩
  | f :: fs, off, s, hs, hle, hf => by
    unfold fieldsSh at hs
    split at hs
    · rename_i ho
      split at hs
      · rename_i s1 h1
        split at hs
        · rename_i hsz
          obtain ⟨s2, h2, rfl⟩ := Option.map_eq_some_iff.1 hs
          simp only [Sh.size] at hle ⊢
          obtain ⟨y, hy⟩ := hf 0 f rfl
          obtain ⟨av, ha1, ha2⟩ := ih f.type s1 n _ y h1 hy
          obtain ⟨bs, hb1, hb2⟩ := read_fields ih fs (off + s1.size) s2 h2 (by omega) fun i g hg => hf (i + 1) g (by simpa using hg)
          refine ⟨av ++ bs, ⟨av, bs, rfl, ha1, hb1⟩, ?_⟩
          have e : (cs.drop off).take (s1.size + s2.size) = (cs.drop f.offset).take (P.cellsOf f.type) ++ (cs.drop (off + s1.size)).take s2.size := by
            rw [List.take_add, ho, ← hsz, List.drop_drop]
          rw [e]
          exact ha2.append hb2
        · cases hs
      · cases hs
    · cases hs

theorem read_rep {s : Sh} {cs : List Value} : ∀ (n off : Nat), (∀ i, i < n → ∃ av, s.ok av ∧ RvC κ av ((cs.drop (off + i * s.size)).take s.size)) → ∃ av, (repSh s n).ok av ∧ RvC κ av ((cs.drop off).take (n * s.size))
  | 0, off, _ => ⟨[], rfl, by simp, fun i hi => by simp at hi⟩
  | n + 1, off, h => by
    obtain ⟨av, ha1, ha2⟩ := h 0 (by omega)
    obtain ⟨bs, hb1, hb2⟩ := read_rep n (off + s.size) fun i hi => by
      have := h (i + 1) (by omega)
      rwa [show off + (i + 1) * s.size = off + s.size + i * s.size by rw [Nat.succ_mul]; omega] at this
    refine ⟨av ++ bs, ⟨av, bs, rfl, ha1, hb1⟩, ?_⟩
    have e : (cs.drop off).take ((n + 1) * s.size) = (cs.drop (off + 0 * s.size)).take s.size ++ (cs.drop (off + s.size)).take (n * s.size) := by
      rw [show (n + 1) * s.size = s.size + n * s.size by rw [Nat.succ_mul]; omega, List.take_add, List.drop_drop]; simp
    rw [e]
    exact ha2.append hb2

theorem Sh.ok_one {d : Nat} {t : TypeId} {s : Sh} {av : List AVal} (hs : shapeOf P d t = some s) (hg : aggB P t = false) (h : s.ok av) : ∃ x, av = [x] ∧ x.cells = [x] := by
  cases d with
  | zero => cases hs
  | succ d =>
    unfold shapeOf at hs
    split at hs
    · obtain rfl := Option.some.inj hs; obtain ⟨b, rfl⟩ := h; exact ⟨_, rfl, rfl⟩
    · obtain rfl := Option.some.inj hs; obtain ⟨b, rfl, _⟩ := h; exact ⟨_, rfl, rfl⟩
    · obtain rfl := Option.some.inj hs; obtain ⟨b, rfl, _⟩ := h; exact ⟨_, rfl, rfl⟩
    · split at hs
      · split at hs
        · obtain rfl := Option.some.inj hs; obtain ⟨b, rfl, _⟩ := h; exact ⟨_, rfl, rfl⟩
        · cases hs
      · cases hs
    · rename_i fs ht; simp [aggB, ht] at hg
    · rename_i fs ht; simp [aggB, ht] at hg
    · cases hs

theorem reads (hI : ∀ b off v, κ.w.cell? ⟨b, off, none⟩ = some v → off < κ.I b) : ∀ d, Reads enc P κ held d
  | 0 => fun t s fuel cs x hs _ => by cases hs
  | d + 1 => fun t s fuel cs x hs hx => by
    have ih := reads hI d
    have hs0 := hs
    unfold shapeOf at hs
    split at hs
    · rename_i ht
      obtain rfl := Option.some.inj hs
      obtain ⟨b, rfl, _⟩ := DataW.trod_bool ht hx
      exact ⟨_, ⟨b, rfl⟩, .one (.lit _)⟩
    · rename_i k ht
      obtain rfl := Option.some.inj hs
      obtain ⟨b, rfl, _, hw⟩ := DataW.trod_int ht hx
      exact ⟨_, ⟨b, rfl, hw⟩, .one (.lit _)⟩
    · rename_i ht
      obtain rfl := Option.some.inj hs
      obtain ⟨b, rfl, _, hw⟩ := DataW.trod_string ht hx
      exact ⟨_, ⟨b, rfl, hw⟩, .one (.lit _)⟩
    · rename_i e ht
      split at hs
      · rename_i s1 h1
        split at hs
        · rename_i hc
          obtain ⟨hsz, hpos, hone⟩ := hc
          obtain rfl := Option.some.inj hs
          rcases DataW.trod_slice ht hx with ⟨rfl, _⟩ | ⟨a, len, cap, elems, rest, n, _, rfl, _, _, hl, hm, hlen, hel, hsp, _⟩
          · exact ⟨_, ⟨[], rfl, by simp, by simp⟩, .one (.slNil _ _)⟩
          · have each : ∀ i, i < cap → ∃ cs' y, κ.w.cells? 0 (a.add (i * P.cellsOf e)) (P.cellsOf e) = some cs' ∧ DataW.trod enc P κ.w 0 (fun _ => true) held n e cs' = some y := by
              intro i hi
              by_cases hil : i < len
              · have := hel i hil
                rw [List.getElem?_eq_getElem (by omega)] at this
                obtain ⟨cs', q1, q2⟩ := Option.bind_eq_some_iff.1 this
                exact ⟨cs', _, q1, q2⟩
              · obtain ⟨hr, hj⟩ := hsp rfl
                have := hj (i - len) (by omega)
                rw [show len + (i - len) = i by omega, List.getElem?_eq_getElem (by omega)] at this
                obtain ⟨cs', q1, q2⟩ := Option.bind_eq_some_iff.1 this
                exact ⟨cs', _, q1, q2⟩
            by_cases hcap : cap = 0
            · subst hcap
              obtain rfl : len = 0 := by omega
              exact ⟨_, ⟨[], rfl, by simp, by simp⟩, .one (.slE _ _ a)⟩
            · have hspot : a.spot = none := by
                obtain ⟨cs', y, q1, _⟩ := each 0 (by omega)
                obtain ⟨r1, r2⟩ := cells?_at q1
                have := r2 0 (by omega)
                rw [Nat.zero_mul] at this
                exact World.cell?_spot (by simpa [Addr.add] using this)
              obtain ⟨b, off, spot⟩ := a
              subst hspot
              have each' : ∀ i, i < len → ∃ x : AVal, x.cells.length = s1.size ∧ (∃ c, s1.ok c ∧ (if aggB P e then x = .agg c else c = [x])) ∧
                  ∀ j (hj : j < x.cells.length), ∃ v, κ.w.cell? ⟨b, off + (i * s1.size + j), none⟩ = some v ∧ Rv κ x.cells[j] v := by
                intro i hi
                obtain ⟨cs', y, q1, q2⟩ := each i (by omega)
                obtain ⟨r1, r2⟩ := cells?_at q1
                obtain ⟨av, ha, hr⟩ := ih e s1 n cs' y h1 q2
                have hal := Sh.ok_length ha
                obtain ⟨x, hxc, hxo⟩ : ∃ x : AVal, x.cells = av ∧ (∃ c, s1.ok c ∧ (if aggB P e then x = .agg c else c = [x])) := by
                  cases hg : aggB P e with
                  | true => exact ⟨.agg av, rfl, av, ha, by simp⟩
                  | false =>
                    obtain ⟨x, rfl, hx⟩ := Sh.ok_one h1 hg ha
                    exact ⟨x, hx, [x], ha, by simp⟩
                refine ⟨x, by rw [hxc]; exact hal, hxo, fun j hj => ?_⟩
                have hj' : j < cs'.length := by rw [← hr.1, ← hxc]; exact hj
                refine ⟨cs'[j], ?_, ?_⟩
                · have := r2 j hj'
                  rw [← hsz] at this
                  rw [← this]
                  simp only [Addr.add]
                  congr 1
                  by_cases h0 : i * s1.size = 0
                  · rw [if_pos h0, h0]
                    by_cases hj0 : j = 0
                    · simp [hj0]
                    · simp [hj0]
                  · rw [if_neg h0]
                    by_cases hj0 : j = 0
                    · simp [hj0]
                    · simp [hj0]; omega
                · have := hr.2 j (by rw [← hxc]; exact hj) hj'
                  simp only [hxc]
                  exact this
              obtain ⟨l, hll, hlp⟩ := pickList len each'
              have hszl : ∀ x ∈ l, x.cells.length = s1.size := fun x hx => by
                obtain ⟨i, hi, rfl⟩ := List.getElem_of_mem hx
                exact (hlp i hi).1
              refine ⟨[.sl s1.size l false], ⟨l, rfl, by omega, fun x hx => ?_⟩, .one ?_⟩
              · obtain ⟨i, hi, rfl⟩ := List.getElem_of_mem hx
                exact (hlp i hi).2.1
              · have at_ : ∀ k (hk : k < (flat l).length), ∃ v, κ.w.cell? ⟨b, off + k, none⟩ = some v ∧ Rv κ (flat l)[k] v := by
                  intro k hk
                  obtain ⟨hi, hj, e1⟩ := flat_at hszl k hk
                  obtain ⟨v, hv1, hv2⟩ := (hlp _ hi).2.2 _ hj
                  rw [show k / s1.size * s1.size + k % s1.size = k by rw [Nat.mul_comm]; exact Nat.div_add_mod k s1.size] at hv1
                  exact ⟨v, hv1, by rw [e1]; exact hv2⟩
                have := Rv.sl (κ := κ) s1.size l false b off cap (fun k => (κ.w.cell? ⟨b, off + k, none⟩).getD undef) (by omega) (by simp) hszl
                  (fun k hk => by obtain ⟨v, hv1, _⟩ := at_ k hk; exact ⟨hI _ _ _ hv1, by simp [hv1]⟩)
                  (fun k hk => by obtain ⟨v, hv1, hv2⟩ := at_ k hk; simpa [hv1] using hv2)
                rwa [hll] at this
        · cases hs
      · cases hs
    · rename_i fs ht
      split at hs
      · rename_i s1 h1
        split at hs
        · rename_i hc
          obtain rfl := Option.some.inj hs
          obtain ⟨xs, n, _, _, hcl, hxl, hf⟩ := DataW.trod_struct ht hx
          obtain ⟨av, ha, hr⟩ := read_fields (cs := cs) (n := n) ih fs.toList 0 s1 h1 (by omega) fun i f hfi => by
            have hfi' : fs[i]? = some f := by simpa using hfi
            have := hf i f hfi'
            have hlt : i < xs.length := by rw [hxl]; exact (Array.getElem?_eq_some_iff.1 hfi').1
            rw [List.getElem?_eq_getElem hlt] at this
            exact ⟨_, this⟩
          refine ⟨av, ha, ?_⟩
          rw [List.drop_zero, List.take_of_length_le (by omega)] at hr
          exact hr
        · cases hs
      · cases hs
    · rename_i n e ht
      split at hs
      · rename_i s1 h1
        split at hs
        · rename_i hc
          obtain rfl := Option.some.inj hs
          obtain ⟨xs, m, _, _, hcl, hxl, hf⟩ := DataW.trod_array ht hx
          obtain ⟨av, ha, hr⟩ := read_rep (κ := κ) (s := s1) (cs := cs) n 0 fun i hi => by
            have := hf i hi
            rw [List.getElem?_eq_getElem (by omega), ← hc.1] at this
            rw [Nat.zero_add]
            exact ih e s1 m _ _ h1 this
          refine ⟨av, ha, ?_⟩
          rw [List.drop_zero, List.take_of_length_le (by rw [hcl, hc.2]; omega)] at hr
          exact hr
        · cases hs
      · cases hs
    · cases hs

/-- an argument -/
theorem read_arg (hI : ∀ b off v, κ.w.cell? ⟨b, off, none⟩ = some v → off < κ.I b) {d base : Nat} {r : Reach} {W : World} {t : TypeId} {s : Sh} {g : Bool} {v : Value} {x : DataW H} {ps : List MemPlace} (hs : shapeOf P d t = some s) (hg : aggB P t = g)
    (hval : Value.okWide P W r base t v) (h : DataW.Trod enc P κ.w 0 (fun _ => true) held t v x ps) : ∃ a, Rv κ a v ∧ s.okv g a := by
  subst hg
  obtain ⟨fuel, hf⟩ := h
  obtain ⟨av, ha, hr⟩ := reads hI d t s fuel _ _ hs hf
  cases hg : aggB P t with
  | true =>
    have : ∃ cs, v = .agg cs := by
      unfold Value.okWide at hval
      unfold aggB at hg
      split at hval <;> simp_all
      · obtain ⟨cs, rfl, _⟩ := hval; exact ⟨cs, rfl⟩
      · obtain ⟨cs, rfl, _⟩ := hval; exact ⟨cs, rfl⟩
    obtain ⟨cs, rfl⟩ := this
    refine ⟨.agg av, .agg av cs ?_ fun i hi => ?_, av, ha, by simp⟩
    · have := hr.1; simpa [Value.cells] using this.symm
    · have hl : av.length = cs.size := by have := hr.1; simpa [Value.cells] using this
      have := hr.2 i hi (by simp [Value.cells]; omega)
      simpa [Value.cells, show i < cs.size by omega] using this
  | false =>
    obtain ⟨x, rfl, hx⟩ := Sh.ok_one hs hg ha
    have hv : v.cells = #[v] := by
      unfold Value.okWide at hval
      unfold aggB at hg
      split at hval
      · simp_all
      · simp_all
      · unfold Cell.okWide at hval
        split at hval <;> first | rfl | skip
        unfold Cell.ok at hval
        split at hval <;> first | rfl | exact hval.elim
    refine ⟨x, ?_, [x], ha, by simp⟩
    have := hr.2 0 (by simp) (by rw [hv]; simp)
    simpa [hv] using this

/-- at the beginning nothing is written -/
def kOf (W : World) : K := { w := W, base := W.heap.size, ρ := fun _ => none, τ := fun _ => none, I := fun b => match W.heap[b]? with | some (.cells c _ _) => c.size | _ => 0 }

def s0 : Store := { heap := fun _ => none, tok := fun _ => none }

theorem kOf_imm (W : World) : ∀ b off v, (kOf W).w.cell? ⟨b, off, none⟩ = some v → off < (kOf W).I b := by
  intro b off v h
  simp only [kOf, World.cell?] at *
  cases hb : W.heap[b]? with
  | none => simp [hb] at h
  | some o =>
    rw [hb] at h
    cases o <;> simp_all
    have := (Array.getElem?_eq_some_iff.1 h).1
    omega

theorem kOf_inv (W : World) (hG : Glob W W.heap.size) : Inv (kOf W) s0 where
  glob := hG
  base := Nat.le_refl _
  heap o x e := by cases e
  inj o o' x x' b e := by cases e
  tok t sz e := by cases e
  tokinj t t' sz sz' v v' b e := by cases e
  tokobj t sz v b o x e := by cases e
  frO := ⟨0, fun _ _ => rfl⟩
  frT := ⟨0, fun _ _ => rfl⟩
  frI b hb := by
    have hb' : W.heap.size ≤ b := hb
    simp [kOf, Array.getElem?_eq_none hb']

/-- A law's contract, av the row's step wants it. -/
theorem calls_of_law {f : FuncId} {av : List AVal} {vs : Array Value} {W : World} (h : ACalls P f av s0 fun v _ => v = vBool true) (hn : vs.size = av.length) (hr : ∀ i (hi : i < av.length), Rv (kOf W) av[i] (vs.getD i undef))
    (hG : Glob W W.heap.size := by intro p hp; cases hp) : Calls P f vs W (fun e w' => e = .returned (.bool true) ∧ Below W.heap.size W w') := by
  have := h (kOf W) vs (kOf_inv W hG) hn hr
  refine this.mono fun e w' ⟨cv, he, κ', a, σ', hw, hle, _, hv, ha⟩ => ?_
  subst ha
  obtain rfl := hv.litInv
  subst hw
  exact ⟨he, hle.below⟩

end

/-- a slice of numbers -/
theorem lits_of {k : IntKind} : ∀ {l : List AVal}, (∀ x ∈ l, ∃ c, (Sh.int k).ok c ∧ (if false = true then x = .agg c else c = [x])) → ∃ zs : List Int, l = zs.map fun n => .lit (.int k n)
  | [], _ => ⟨[], rfl⟩
  | x :: l, h => by
    obtain ⟨zs, rfl⟩ := lits_of fun y hy => h y (List.mem_cons_of_mem _ hy)
    obtain ⟨c, ⟨n, rfl, _⟩, e⟩ := h x (List.mem_cons_self ..)
    simp only [Bool.false_eq_true, if_false, List.cons.injEq, and_true] at e
    subst e
    exact ⟨n :: zs, rfl⟩

/-- a slice of whatever is read one by one -/
theorem list_of {α : Type} (f : α → AVal) : ∀ {l : List AVal}, (∀ x ∈ l, ∃ a, x = f a) → ∃ zs : List α, l = zs.map f
  | [], _ => ⟨[], rfl⟩
  | x :: l, h => by
    obtain ⟨zs, rfl⟩ := list_of f fun y hy => h y (List.mem_cons_of_mem _ hy)
    obtain ⟨a, rfl⟩ := h x (List.mem_cons_self ..)
    exact ⟨a :: zs, rfl⟩

end Go.Ab
end

section
set_option linter.all false
namespace Go.Ab
section
variable {P : Program} {ops : Array Oper} {s0 : Store} {Kk : Env → Store → Prop} {o : Oper} {i : Nat} {r : DT} {e : Env} {σ : Store}
theorem dR_TGT {d j dj : Nat} {a : AVal} {b : Bool} (ho : ops[i]? = some o) (hg : o.guard = some (j, true)) (hj : (ops[j]?).bind (·.dst) = some dj) (he : e dj = .lit (.bool b)) (hd : o.dst = some d) (ha : b = true → aval P o.op (aev e) σ = some a)
    (h : dRun P ops s0 Kk r (upd e d (gval b a)) σ) : dRun P ops s0 Kk (.op i 2 r) e σ := by
  have hw := wantedA_is hg hj he
  refine ⟨o, ho, ?_⟩
  unfold aStep
  cases b with
  | true => simp only [hw, hd, updo, beq_self_eq_true]; exact AOp_val (ha rfl) h
  | false => simp only [hw, hd, updo]; exact h
theorem dR_TGF {d j dj : Nat} {a : AVal} {b : Bool} (ho : ops[i]? = some o) (hg : o.guard = some (j, false)) (hj : (ops[j]?).bind (·.dst) = some dj) (he : e dj = .lit (.bool b)) (hd : o.dst = some d) (ha : b = false → aval P o.op (aev e) σ = some a)
    (h : dRun P ops s0 Kk r (upd e d (gval (!b) a)) σ) : dRun P ops s0 Kk (.op i 2 r) e σ := by
  have hw := wantedA_is hg hj he
  refine ⟨o, ho, ?_⟩
  unfold aStep
  cases b with
  | false => simp only [hw, hd, updo, beq_self_eq_true]; exact AOp_val (ha rfl) h
  | true => simp only [hw, hd, updo]; exact h
theorem dR_TGTX {d j dj : Nat} {a : AVal} {b : Bool} (ho : ops[i]? = some o) (hg : o.guard = some (j, true)) (hj : (ops[j]?).bind (·.dst) = some dj) (he : e dj = .lit (.bool b)) (hd : o.dst = some d) (hx : b = true → AOp P o (aev e) σ fun v σ' => v = a ∧ σ = σ')
    (h : dRun P ops s0 Kk r (upd e d (gval b a)) σ) : dRun P ops s0 Kk (.op i 2 r) e σ := by
  have hw := wantedA_is hg hj he
  refine ⟨o, ho, ?_⟩
  unfold aStep
  cases b with
  | true => simp only [hw, hd, updo, beq_self_eq_true]; exact (hx rfl).mono fun v σ' ⟨h1, h2⟩ => by subst h1; subst h2; exact h
  | false => simp only [hw, hd, updo]; exact h
theorem dR_TGFX {d j dj : Nat} {a : AVal} {b : Bool} (ho : ops[i]? = some o) (hg : o.guard = some (j, false)) (hj : (ops[j]?).bind (·.dst) = some dj) (he : e dj = .lit (.bool b)) (hd : o.dst = some d) (hx : b = false → AOp P o (aev e) σ fun v σ' => v = a ∧ σ = σ')
    (h : dRun P ops s0 Kk r (upd e d (gval (!b) a)) σ) : dRun P ops s0 Kk (.op i 2 r) e σ := by
  have hw := wantedA_is hg hj he
  refine ⟨o, ho, ?_⟩
  unfold aStep
  cases b with
  | false => simp only [hw, hd, updo, beq_self_eq_true]; exact (hx rfl).mono fun v σ' ⟨h1, h2⟩ => by subst h1; subst h2; exact h
  | true => simp only [hw, hd, updo]; exact h
end
end Go.Ab
end

section
set_option linter.all false
namespace Go.Ab
open Go.RowKit (Below)

section
variable {P : Program} {o : Oper} {α : Operand → AVal} {σ : Store} {Kk : AVal → Store → Prop}

theorem AOp_capNil {x : Operand} {t e : TypeId} (ho : o.op = .call { callee := .builtin .cap, args := #[x], argTypes := #[t] }) (ht : P.underlying t = some (.slice e)) (hx : α x = .lit (.slice none 0 0)) (hk : Kk (.lit (.int .i64 0)) σ) : AOp P o α σ Kk := by
  obtain ⟨dst, op, ty, pos, after, guard⟩ := o
  obtain rfl : op = _ := ho
  intro κ ev hI hxx
  have hv := hxx x (by simp [Op.operands, Call.operands])
  rw [hx] at hv
  refine upon_v (s := Builtin.cap_ #[t] ty #[ev x]) (by simp [execOp, resolve, invoke, builtin]) ⟨.int .i64 0, κ.w, ?_, κ, .lit (.int .i64 0), σ, rfl, .refl κ, hI, .lit _, hk⟩
  rw [hv.litInv]
  simp [Builtin.cap_, run_underlying ht, goInt]

theorem AOp_appendMake {s x : Operand} {t tx e : TypeId} {sz by_ n : Nat} {k0 kx : IntKind}
    (ho : o.op = .call { callee := .builtin .append, args := #[s, x], argTypes := #[t, tx] }) (hse : sliceElem P t = some e) (hte : appInfo P e = some (sz, by_)) (htx : P.underlying tx = some (.int kx))
    (hs : α s = .lit (.slice none 0 0)) (hx : α x = .lit (.int k0 (n : Int))) (hn : 0 < n) (hlen : n * by_ ≤ 140737488355328)
    (hk : ∀ o', σ.heap o' = none → Kk (.msl o' sz 0 n) (σ.set o' (.cells []))) : AOp P o α σ Kk := by
  obtain ⟨dst, op, ty, pos, after, guard⟩ := o
  obtain rfl : op = .call { callee := .builtin .append, args := #[s, x], argTypes := #[t, tx] } := ho
  intro κ ev hI hxx
  obtain ⟨i, z, hi, hz, hisz, hiby, hzs, hsz, hby⟩ := appInfo_spec hte
  subst hisz
  subst hiby
  have hts : P.underlying t = some (.slice e) := by
    unfold sliceElem at hse
    split at hse
    · rename_i e' he'; obtain rfl := Option.some.inj hse; exact he'
    · cases hse
  have hvs := hxx s (by simp [Op.operands, Call.operands])
  have hvx := hxx x (by simp [Op.operands, Call.operands])
  rw [hs] at hvs
  rw [hx] at hvx
  have hle47 : n ≤ 140737488355328 := Nat.le_trans (Nat.le_mul_of_pos_right _ hby) hlen
  have hold : (Builtin.firstCells i.size 0 (.slice none 0 0)).run P κ.w.drew = .ok ([] : List Value).toArray κ.w.drew := by simp [Builtin.firstCells]
  have hrun := Lib.run_append_grow_zeros κ.w t tx ty e i z k0 kx hts htx hi hz none 0 0 [] hold n hn hsz (by omega) (by omega) (by omega) (growslice_fits (by omega) (by simpa using hlen))
  simp only [Nat.zero_add] at hrun
  obtain ⟨o', ho', hfr⟩ := hI.fresh
  have hd := hI.drew
  have hge := grownCap_ge κ.w n 0 e
  obtain ⟨cap', hcap'⟩ : ∃ c, grownCap κ.w n 0 e = c := ⟨_, rfl⟩
  rw [hcap'] at hrun hge
  generalize hcc : (([] : List Value).toArray ++ Builtin.zeroCells z.cells n ++ Builtin.zeroCells z.cells (cap' - n)) = cc at hrun
  have hsize : cc.size = cap' * i.size := by
    rw [← hcc]
    simp only [Array.size_append, List.size_toArray, size_zeroCells, hzs, List.length_nil, Nat.zero_add, ← Nat.add_mul]
    congr 1; omega
  obtain ⟨κ', hw, hle, hρ, hI'⟩ := hd.2.alloc o' ho' (.cells []) (.cells cc e) fun κ' hle hh _ => ⟨_, e, hh, by simp, fun j hj => by simp at hj⟩
  have hheap : κ'.w.heap[κ.w.heap.size]? = some (.cells cc e (0, 0)) := by rw [hw]; exact Go.heap_alloc_new κ.w.drew _
  refine upon_v (s := Builtin.append_ #[t, tx] ty #[ev s, ev x]) (by simp [execOp, resolve, invoke, builtin]) ⟨_, _, by rw [hvs.litInv, hvx.litInv]; exact hrun, κ', .msl o' i.size 0 n, _, hw, hd.1.trans hle, hI', .msl o' i.size 0 n κ.w.heap.size cap' _ e hρ hge (by unfold World.shape?; rw [hheap]) (by rw [hsize]; omega), hk o' hfr⟩

/-- append of nothing -/
theorem AOp_append0 {s x : Operand} {t tx e : TypeId} {sz by_ : Nat}
    (ho : o.op = .call { callee := .builtin .append, args := #[s, x], argTypes := #[t, tx] }) (hse : sliceElem P t = some e) (hte : appInfo P e = some (sz, by_))
    (hs : (∃ so len, α s = .msl so sz 0 len) ∨ α s = .lit (.slice none 0 0)) (hx : ASrc P sz tx (α x) []) (hk : Kk (α s) σ) : AOp P o α σ Kk := by
  obtain ⟨dst, op, ty, pos, after, guard⟩ := o
  obtain rfl : op = .call { callee := .builtin .append, args := #[s, x], argTypes := #[t, tx] } := ho
  intro κ ev hI hxx
  obtain ⟨i, z, hi, hz, hisz, hiby, hzs, hsz, hby⟩ := appInfo_spec hte
  have hts : P.underlying t = some (.slice e) := by
    unfold sliceElem at hse
    split at hse
    · rename_i e' he'; obtain rfl := Option.some.inj hse; exact he'
    · cases hse
  have hvs := hxx s (by simp [Op.operands, Call.operands])
  have hvx := hxx x (by simp [Op.operands, Call.operands])
  obtain ⟨vs, _, hvsr, hsrc⟩ := hx.spec hvx
  have hv0 : vs = [] := List.eq_nil_of_length_eq_zero (by rw [← hvsr.1]; rfl)
  subst hv0
  obtain ⟨a, n, cap, he, hnc⟩ : ∃ a n cap, ev s = .slice a n cap ∧ n ≤ cap := by
    rcases hs with ⟨so, len, hs⟩ | hs
    · rw [hs] at hvs
      generalize ev s = u at hvs
      cases hvs with
      | msl _ _ _ _ b cap n e hb hlen hs hn => exact ⟨_, _, _, rfl, hlen⟩
    · rw [hs] at hvs
      exact ⟨none, 0, 0, hvs.litInv, Nat.le_refl _⟩
  refine upon_v (s := Builtin.append_ #[t, tx] ty #[ev s, ev x]) (by simp [execOp, resolve, invoke, builtin]) ⟨ev s, κ.w, ?_, κ, α s, σ, rfl, .refl κ, hI, hvs, hk⟩
  rw [he]
  exact run_append_zero hts hi hisz hsrc a n cap hnc

/-- a row that grows: nothing yet, or one new object -/
def CBp (σ0 σ : Store) (sz : Nat) (l : List AVal) (a : AVal) : Prop := (a = .lit (.slice none 0 0) ∧ l = [] ∧ σ = σ0) ∨ ∃ o, σ0.heap o = none ∧ a = .msl o sz 0 l.length ∧ σ = σ0.set o (.cells (flat l))
theorem CBp.sub {σ0 σ : Store} {sz : Nat} {l : List AVal} {a : AVal} (h : CBp σ0 σ sz l a) : σ0.Sub σ := by
  rcases h with ⟨_, _, rfl⟩ | ⟨o, ho, _, rfl⟩
  · exact .refl _
  · exact ⟨fun i x hx => by rw [Store.set_ne _ _ (fun hh => by rw [hh, ho] at hx; cases hx)]; exact hx, fun _ _ h => h⟩
theorem delO_set {σ0 : Store} {o o' : Nat} {x y : AObj} (ho : σ0.heap o = none) : ((σ0.set o x).delO (some o)).set o' y = σ0.set o' y := by
  show ((σ0.set o x).del o).set o' y = _
  rw [Store.set_del ho]
theorem AOp_appendC {σ0 : Store} {s x : Operand} {t e : TypeId} {sz by_ : Nat} {l l2 : List AVal} {b : AVal}
    (ho : o.op = .call { callee := .builtin .append, args := #[s, x], argTypes := #[t, t] }) (hse : sliceElem P t = some e) (hte : appInfo P e = some (sz, by_)) (hb : CBp σ0 σ sz l b) (hs : α s = b) (hsz : ∀ y ∈ l, y.cells.length = sz)
    (hx : slOf (α x) = some (sz, l2)) (hone : ∀ y ∈ l2, ∀ c ∈ y.cells, c.one = true) (hlen : (l.length + l2.length) * by_ ≤ 140737488355328)
    (hk : ∀ a' σ', CBp σ0 σ' sz (l ++ l2) a' → Kk a' σ') : AOp P o α σ Kk := by
  subst hs
  have hts : P.underlying t = some (.slice e) := by
    unfold sliceElem at hse
    split at hse
    · rename_i e' he'; obtain rfl := Option.some.inj hse; exact he'
    · cases hse
  by_cases hne : l2 = []
  · subst hne
    refine AOp_append0 ho hse hte ?_ (.inl ⟨⟨_, hts⟩, .inl hx, hone⟩) (hk _ _ (by rwa [List.append_nil]))
    rcases hb with ⟨h, _⟩ | ⟨o, _, h, _⟩
    · exact .inr h
    · exact .inl ⟨o, _, h⟩
  · have hfl := flat_length hsz
    rcases hb with ⟨h, rfl, rfl⟩ | ⟨ob, hob, h, rfl⟩
    · refine AOp_appendM ho hse hte (len := 0) (.inr ⟨h, rfl, rfl, rfl⟩) hx hne hone (by simpa using hlen) fun o' ho' => hk _ _ (.inr ⟨o', ho', by simp, ?_⟩)
      simp [Store.delO]
    · refine AOp_appendM ho hse hte (.inl ⟨ob, flat l, h, Store.set_get .., rfl, rfl, by rw [hfl]; exact Nat.le_refl _⟩) hx hne hone hlen fun o' ho' => hk _ _ (.inr ⟨o', ?_, by simp, ?_⟩)
      · by_cases hh : o' = ob
        · rw [hh]; exact hob
        · rwa [Store.set_ne _ _ hh] at ho'
      · rw [delO_set hob, List.take_of_length_le (by rw [hfl]; exact Nat.le_refl _), flat_append]
theorem ACalls.wkA {f : FuncId} {args args' : List AVal} {Q : AVal → Store → Prop} (h : ACalls P f args' σ Q) (hn : args.length = args'.length) (hw : ∀ i (hi : i < args.length) (hi' : i < args'.length), Wk args[i] args'[i]) : ACalls P f args σ Q :=
  fun κ vs hI hs hv => h κ vs hI (hs.trans hn) fun i hi => (hv i (by omega)).wk (hw i (by omega) hi)
end
end Go.Ab
end

section
set_option linter.all false
namespace Go.Ab
open Go.RowKit (Below)

section
variable {P : Program} {o : Oper} {α : Operand → AVal} {σ : Store} {Kk : AVal → Store → Prop}
theorem Store.set_same {o : Nat} {x : AObj} (h : σ.heap o = some x) : σ.set o x = σ := by
  unfold Store.set
  have : (fun k => if k = o then some x else σ.heap k) = σ.heap := by
    funext k
    split
    · rename_i hk; subst hk; exact h.symm
    · rfl
  rw [this]
theorem AOp_clear {x : Operand} {t e : TypeId} {so sz off len : Nat} {z : Value} {cs : List AVal} (ho : o.op = .call { callee := .builtin .clear, args := #[x], argTypes := #[t] }) (hse : sliceElem P t = some e) (hz : zeroOf P e = some z)
    (hzs : z.cells.size = sz) (hzo : ∀ j, j < z.cells.size → (AVal.lit z.cells[j]!).one = true) (hx : α x = .msl so sz off len) (hh : σ.heap so = some (.cells cs)) (hle : off + len * sz ≤ cs.length)
    (hk : ∀ zs : List AVal, zs.length = len * sz → Kk (.tup []) (σ.set so (.cells (aput cs off zs)))) : AOp P o α σ Kk := by
  obtain ⟨dst, op, ty, pos, after, guard⟩ := o
  obtain rfl : op = _ := ho
  intro κ ev hI hxx
  have hts : P.underlying t = some (.slice e) := by
    unfold sliceElem at hse
    split at hse
    · rename_i e' he'; obtain rfl := Option.some.inj hse; exact he'
    · cases hse
  have hv := hxx x (by simp [Op.operands, Call.operands])
  rw [hx] at hv
  obtain ⟨b, cap, hev, hb⟩ : ∃ b cap, ev x = .slice (some ⟨b, off, none⟩) len cap ∧ κ.ρ so = some b := by
    generalize ev x = u at hv
    cases hv with
    | msl _ _ _ _ b cap n el hb hlc hsh hcap => exact ⟨b, cap, rfl, hb⟩
  have hnil : ∀ κ' : K, Rv κ' (.tup []) (.tuple #[]) := fun κ' => .tup [] #[] rfl (fun i hi => by simp at hi)
  by_cases h0 : len = 0
  · subst h0
    refine upon_v (s := Builtin.clear_ #[t] ty #[ev x]) (by simp [execOp, resolve, invoke, builtin]) ⟨.tuple #[], κ.w, ?_, κ, .tup [], σ, rfl, .refl κ, hI, hnil κ, ?_⟩
    · rw [hev]; simp [Builtin.clear_, run_underlying hts]
    · have := hk [] (by simp)
      rw [aput_nil _ _ (by omega), Store.set_same hh] at this
      exact this
  · have hzl : (Builtin.zeroCells z.cells len).size = len * z.cells.size := by simp [Builtin.zeroCells]
    obtain ⟨w', h1, h2, h3⟩ := run_storeCells_obj (P := P) (b := b) (off := off) (i := so) ((Builtin.zeroCells z.cells len).toList.map .lit) (Builtin.zeroCells z.cells len).toList 0 κ σ cs hI hh hb (by simp) (fun k hk hk' => by
      rw [List.getElem_map]; exact .lit _) (fun a ha => by
      obtain ⟨c, hc, rfl⟩ := List.mem_map.1 ha
      rw [Array.mem_toList_iff] at hc
      obtain ⟨k, hk, rfl⟩ := Array.mem_iff_getElem.1 hc
      rw [hzl] at hk
      have hpos : 0 < z.cells.size := by rcases Nat.eq_zero_or_pos z.cells.size with h | h; rw [h] at hk; simp at hk; exact h
      have : (Builtin.zeroCells z.cells len)[k]'(by rw [hzl]; exact hk) = z.cells[k % z.cells.size]! := by simp [Builtin.zeroCells]
      rw [this]
      exact hzo _ (Nat.mod_lt _ hpos)) (by simp [hzl, hzs]; omega)
    refine upon_v (s := Builtin.clear_ #[t] ty #[ev x]) (by simp [execOp, resolve, invoke, builtin]) ⟨.tuple #[], w', ?_, { κ with w := w' }, .tup [], _, rfl, h2, h3, hnil _, ?_⟩
    · rw [hev]
      obtain ⟨m, rfl⟩ := Nat.exists_eq_succ_of_ne_zero h0
      simp only [Builtin.clear_, Sem.run_bind, List.getElem?_toArray, List.getElem?_cons_zero, Sem.run_pure, Result.andThen_ok, run_underlying hts, run_zeroValue' hz]
      simp only [Nat.succ_eq_add_one] at h1
      simp [h1]
    · rw [Nat.add_zero]
      exact hk _ (by simp [hzl, hzs])
end
end Go.Ab
end

section
set_option linter.all false
namespace Go.Ab
open Go.RowKit (Below)
section
variable {P : Program} {o : Oper} {α : Operand → AVal} {σ : Store} {Kk : AVal → Store → Prop} {β : Type} [DecidableEq β] {enc : β → Value}

/-- keys that are structs -/
structure WKey (P : Program) (kt : TypeId) {β : Type} [DecidableEq β] (enc : β → Value) : Prop where
  wide : (match P.underlying kt with | some (.array _ _) | some (.struct _) => true | _ => false) = true
  eq : ∀ a b w, (Op.equal kt (enc a) (enc b)).run P w = .ok (decide (a = b)) w
  check : ∀ a e w, (Instr.checkKey e 10000 kt (enc a)).run P w = .ok () w
  stays : ∀ a w, (Instr.keyThatStays (enc a) (enc a)).run P w = .ok (enc a) w

def wGet {γ : Type} (k : β) : List (β × γ) → Option γ
  | [] => none
  | e :: es => if k = e.1 then some e.2 else wGet k es
def wPut {γ : Type} (k : β) (a : γ) : List (β × γ) → List (β × γ)
  | [] => [(k, a)]
  | e :: es => if k = e.1 then (k, a) :: es else e :: wPut k a es
def wMap {γ : Type} (enc : β → Value) (kvs : List (β × γ)) : List (Value × γ) := kvs.map fun p => (enc p.1, p.2)
def litM {α : Type} (kvs : List (α × Value)) : List (α × AVal) := kvs.map fun p => (p.1, .lit p.2)
theorem litM_inj {α : Type} : ∀ {a c : List (α × Value)}, litM a = litM c → a = c
  | [], [], _ => rfl
  | [], _ :: _, h => by simp [litM] at h
  | _ :: _, [], h => by simp [litM] at h
  | p :: a, q :: c, h => by
    obtain ⟨p1, p2⟩ := p; obtain ⟨q1, q2⟩ := q
    simp only [litM, List.map_cons, List.cons.injEq, Prod.mk.injEq, AVal.lit.injEq] at h
    obtain ⟨⟨rfl, rfl⟩, h⟩ := h
    rw [litM_inj (a := a) (c := c) h]
theorem wMap_litM (enc : β → Value) (kvs : List (β × Value)) : wMap enc (litM kvs) = litM (wMap enc kvs) := by simp [wMap, litM]
theorem wGet_litM (k : β) : ∀ (kvs : List (β × Value)), wGet k (litM kvs) = (wGet k kvs).map .lit
  | [] => rfl
  | e :: es => by
    have := wGet_litM k es
    simp only [litM, List.map_cons, wGet] at *
    split
    · rfl
    · exact this
theorem wPut_litM (k : β) (v : Value) : ∀ (kvs : List (β × Value)), wPut k (.lit v) (litM kvs) = litM (wPut k v kvs)
  | [] => rfl
  | e :: es => by
    have := wPut_litM k v es
    simp only [litM, List.map_cons, wPut] at *
    split
    · rfl
    · rw [this]; rfl

theorem wPut_get {γ : Type} {k : β} {v : γ} : ∀ (kvs : List (β × γ)), wGet k kvs = some v → wPut k v kvs = kvs
  | [], h => by cases h
  | e :: es, h => by
    unfold wGet at h
    unfold wPut
    by_cases hk : k = e.1
    · rw [if_pos hk] at h ⊢
      obtain rfl := Option.some.inj h
      rw [hk]
    · rw [if_neg hk] at h ⊢
      rw [wPut_get es h]
theorem wGet_put {γ : Type} {k : β} {v : γ} : ∀ (kvs : List (β × γ)), wGet k (wPut k v kvs) = some v
  | [] => by simp [wPut, wGet]
  | e :: es => by
    unfold wPut
    by_cases hk : k = e.1
    · rw [if_pos hk]; simp [wGet]
    · rw [if_neg hk, wGet, if_neg hk]
      exact wGet_put es
theorem findW {κ : K} {kt : TypeId} (hW : WKey P kt enc) (k : β) : ∀ (l : List MapEntry) (q : List (β × AVal)) (j : Nat), l.length = q.length → (∀ i (hi : i < q.length) (hj : i < l.length), l[i].key = enc q[i].1 ∧ Rv κ q[i].2 l[i].val) →
    ((Instr.findAsking kt (enc k) l j).run P κ.w = .ok none κ.w ∧ wGet k q = none ∧ ∀ a, wPut k a q = q ++ [(k, a)]) ∨
    ∃ i v x, (Instr.findAsking kt (enc k) l j).run P κ.w = .ok (some (j + i, v)) κ.w ∧ i < l.length ∧ (∃ h : i < l.length, l[i].key = enc k) ∧ wGet k q = some x ∧ Rv κ x v ∧ ∀ a, wPut k a q = q.set i (k, a)
  | [], q, j, hl, _ => by
    obtain rfl : q = [] := List.eq_nil_of_length_eq_zero hl.symm
    exact .inl ⟨by simp [Instr.findAsking], rfl, fun _ => rfl⟩
  | e :: l, [], j, hl, _ => by simp at hl
  | e :: l, p :: q, j, hl, hq => by
    have h0 := hq 0 (by simp) (by simp)
    simp only [List.getElem_cons_zero] at h0
    unfold Instr.findAsking
    simp only [Sem.run_bind, h0.1, hW.eq, Result.andThen_ok]
    by_cases hke : k = p.1
    · refine .inr ⟨0, e.val, p.2, by simp [hke], by simp, ⟨by simp, by simp [h0.1, hke]⟩, by simp [wGet, hke], h0.2, fun a => by simp [wPut, hke]⟩
    · rw [decide_eq_false hke]
      simp only [Bool.false_eq_true, if_false]
      rcases findW hW k l q (j + 1) (by simpa using hl) (fun i hi hj => by
        have := hq (i + 1) (by simpa using hi) (by simpa using hj)
        simpa using this) with ⟨h1, h2, h3⟩ | ⟨i, v, x, h1, h2, ⟨h2', h3⟩, h4, h5, h6⟩
      · exact .inl ⟨h1, by simp [wGet, hke, h2], fun a => by simp [wPut, hke, h3]⟩
      · refine .inr ⟨i + 1, v, x, ?_, by simpa using h2, ⟨by simpa using h2, by simpa using h3⟩, by simp [wGet, hke, h4], h5, fun a => by simp [wPut, hke, h6]⟩
        rw [h1]
        congr 3; omega

theorem AOp_lookupW {t kt et : TypeId} {m k : Operand} {mo : Nat} {ok : Bool} {kb : β} {kvs : List (β × AVal)} {z : Value} (ho : o.op = .lookup t m k ok) (ht : P.underlying t = some (.map kt et)) (hW : WKey P kt enc) (hz : zeroOf P et = some z)
    (hm : α m = .map mo) (hh : σ.heap mo = some (.map (wMap enc kvs))) (hkv : ∀ (κ : K) v, Rv κ (α k) v → v = enc kb) (hk : Kk (lookupRes z ok (wGet kb kvs)) σ) : AOp P o α σ Kk := by
  obtain ⟨dst, op, ty, pos, after, guard⟩ := o
  obtain rfl : op = _ := ho
  intro κ ev hI hxx
  have hvm := hxx m (by simp [Op.operands])
  have hek := hkv κ _ (hxx k (by simp [Op.operands]))
  rw [hm] at hvm
  obtain ⟨b, hb, hbase, hIb, es, clock, hheap, hn, hborn, hnd, hall⟩ := hI.heap mo _ hh
  have hem : ev m = .map (some b) := by
    generalize ev m = u at hvm
    cases hvm with
    | map _ b' hb' => rw [hb] at hb'; obtain rfl := Option.some.inj hb'; rfl
  have hlist : ∀ i (hi : i < kvs.length) (hj : i < es.toList.length), es.toList[i].key = enc kvs[i].1 ∧ Rv κ kvs[i].2 es.toList[i].val := fun i hi hj => by
    have := hall i (by simpa [wMap] using hi) (by simpa using hj)
    simpa [wMap] using this
  have hfind := findW hW kb es.toList kvs 0 (by simpa [wMap] using hn) hlist
  have key : ∃ cv, (Instr.lookup t (ev m) (ev k) ok).run P κ.w = .ok cv κ.w ∧ Rv κ (lookupRes z ok (wGet kb kvs)) cv := by
    rw [hem, hek, lookup_map ht hheap]
    unfold lookupCore
    simp only [Sem.run_bind, hW.check, Result.andThen_ok, run_findKey_eq κ.w hW.wide]
    rcases hfind with ⟨h1, h2, _⟩ | ⟨i, v, x, h1, _, _, h2, h3, _⟩
    · rw [h1, h2]
      simp only [Result.andThen_ok, Sem.run_bind, run_zeroValue' hz, Sem.run_pure]
      cases ok
      · exact ⟨z, rfl, .ofConst z⟩
      · refine ⟨_, rfl, .tup _ _ rfl fun i hi => ?_⟩
        match i, hi with
        | 0, _ => exact .ofConst z
        | 1, _ => exact .lit _
    · rw [h1, h2]
      simp only [Result.andThen_ok, Sem.run_pure]
      cases ok
      · exact ⟨v, rfl, h3⟩
      · refine ⟨_, rfl, .tup _ _ rfl fun i hi => ?_⟩
        match i, hi with
        | 0, _ => exact h3
        | 1, _ => exact .lit _
  obtain ⟨cv, h1, h2⟩ := key
  exact upon_v (s := Instr.lookup t (ev m) (ev k) ok) rfl ⟨cv, κ.w, h1, κ, _, σ, rfl, .refl κ, hI, h2, hk⟩

theorem AOp_mapUpdateW {t kt et : TypeId} {m k x : Operand} {mo : Nat} {kb : β} {kvs : List (β × AVal)} {a : AVal} (ho : o.op = .mapUpdate t m k x) (ht : P.underlying t = some (.map kt et)) (hW : WKey P kt enc)
    (hm : α m = .map mo) (hh : σ.heap mo = some (.map (wMap enc kvs))) (hkv : ∀ (κ : K) v, Rv κ (α k) v → v = enc kb) (hx : α x = a) (hk : Kk .any (σ.set mo (.map (wMap enc (wPut kb a kvs))))) : AOp P o α σ Kk := by
  subst hx
  obtain ⟨dst, op, ty, pos, after, guard⟩ := o
  obtain rfl : op = _ := ho
  intro κ ev hI hxx
  have hvm := hxx m (by simp [Op.operands])
  have hek := hkv κ _ (hxx k (by simp [Op.operands]))
  have hvx := hxx x (by simp [Op.operands])
  rw [hm] at hvm
  obtain ⟨b, hb, hbase, hIb, es, clock, hheap, hn, hborn, hnd, hall⟩ := hI.heap mo _ hh
  have hem : ev m = .map (some b) := by
    generalize ev m = u at hvm
    cases hvm with
    | map _ b' hb' => rw [hb] at hb'; obtain rfl := Option.some.inj hb'; rfl
  have hn' : es.size = kvs.length := by simpa [wMap] using hn
  have hall' : ∀ i (hi : i < kvs.length) (hj : i < es.size), es[i].key = enc kvs[i].1 ∧ Rv κ kvs[i].2 es[i].val := fun i hi hj => by
    have := hall i (by simpa [wMap] using hi) hj
    simpa [wMap] using this
  have hfind := findW hW kb es.toList kvs 0 (by simpa using hn') fun i hi hj => by simpa using hall' i hi (by simpa using hj)
  rcases hfind with ⟨h1, _, h2⟩ | ⟨i, v, x0, h1, h2, ⟨h2', h3⟩, _, _, h4⟩
  · obtain ⟨hle, hI'⟩ := hI.setMap hh hb hheap hbase hIb (es' := es.push { key := enc kb, val := ev x, born := clock }) (clock' := clock + 1) (kvs' := wMap enc (kvs ++ [(kb, α x)])) (by simp [hn', wMap]) (by
        intro e he
        rcases Array.mem_push.1 he with he | rfl
        · exact Nat.lt_succ_of_lt (hborn e he)
        · exact Nat.lt_succ_self _) (by
        simp only [Array.toList_push, List.map_append, List.map_cons, List.map_nil]
        refine List.pairwise_append.2 ⟨hnd, List.pairwise_singleton _ _, fun y hy z hz => ?_⟩
        obtain rfl := List.mem_singleton.1 hz
        obtain ⟨e, he, rfl⟩ := List.mem_map.1 hy
        exact Nat.ne_of_lt (hborn e (by simpa using he))) (by
        intro j hj hj'
        simp only [wMap, List.getElem_map]
        by_cases hlt : j < es.size
        · rw [Array.getElem_push_lt hlt, List.getElem_append_left (by omega)]
          exact hall' j (by omega) hlt
        · have : j = es.size := by simp at hj'; omega
          subst this
          rw [Array.getElem_push_eq, List.getElem_append_right (by omega)]
          simp only [hn', Nat.sub_self, List.getElem_cons_zero]
          exact ⟨trivial, hvx⟩)
    refine upon_u (s := Instr.mapUpdate t (ev m) (ev k) (ev x)) rfl ⟨_, ?_, _, .any, _, rfl, hle, hI', .any _, by rw [← h2]; exact hk⟩
    rw [hem, hek]
    unfold Instr.mapUpdate
    simp only [Sem.run_bind, run_underlying ht, Result.andThen_ok, Go.MapKept.run_getObj_map hheap, hW.check, run_findKey_eq κ.w hW.wide, h1, Go.MapKept.run_setObj_map _ hheap]
  · rw [Nat.zero_add] at h1
    have hi : i < es.size := by simpa using h2
    have hkeep : (Instr.keyThatStays (((es[i]?).map (·.key)).getD (enc kb)) (enc kb)).run P κ.w = .ok (enc kb) κ.w := by
      have : ((es[i]?).map (·.key)).getD (enc kb) = enc kb := by
        simp only [Array.getElem?_eq_getElem hi, Option.map_some, Option.getD_some]
        simpa using h3
      rw [this]
      exact hW.stays _ _
    obtain ⟨hle, hI'⟩ := hI.setMap hh hb hheap hbase hIb (es' := es.modify i fun e => { e with key := enc kb, val := ev x }) (clock' := clock) (kvs' := wMap enc (kvs.set i (kb, α x))) (by simp [hn', wMap]) (by
        intro e he
        obtain ⟨j, hj, rfl⟩ := Array.getElem_of_mem he
        have hj' : j < es.size := by simpa using hj
        have hb0 := hborn es[j] (Array.getElem_mem _)
        rw [Array.getElem_modify]
        split
        · exact hb0
        · exact hb0) (by
        have : ((es.modify i fun e => { e with key := enc kb, val := ev x }).toList.map (·.born)) = es.toList.map (·.born) := by
          apply List.ext_getElem (by simp)
          intro j h1 h2
          simp only [List.getElem_map, Array.getElem_toList, Array.getElem_modify]
          split <;> rfl
        rw [this]; exact hnd) (by
        intro j hj hj'
        simp only [wMap, List.getElem_map]
        rw [Array.getElem_modify, List.getElem_set]
        split
        · exact ⟨rfl, hvx⟩
        · exact hall' j (by simpa [wMap] using hj) _)
    refine upon_u (s := Instr.mapUpdate t (ev m) (ev k) (ev x)) rfl ⟨_, ?_, _, .any, _, rfl, hle, hI', .any _, by rw [← h4]; exact hk⟩
    rw [hem, hek]
    unfold Instr.mapUpdate
    simp only [Sem.run_bind, run_underlying ht, Result.andThen_ok, Go.MapKept.run_getObj_map hheap, hW.check, run_findKey_eq κ.w hW.wide, h1, hkeep, Go.MapKept.run_setObj_map _ hheap]

/-! ### 'm[k] op= v': the entry is found or laid, and stored into by its stamp -/
/-- a map's block is written, and known anew -/
theorem Inv.setMapX {κ : K} {σ : Store} (h : Inv κ σ) {o : Nat} {x : AObj} (ho : σ.heap o = some x) {b : Nat} (hb : κ.ρ o = some b) {es es' : Array MapEntry} {clock clock' : Nat} (hh : κ.w.heap[b]? = some (.map es clock))
    (hbase : κ.base ≤ b) (hIb : κ.I b = 0) (x' : AObj) (hx' : ∀ κ', κ.Le κ' → κ'.w.heap[b]? = some (.map es' clock') → ORel κ' x' b) :
    κ.Le { κ with w := { κ.w with heap := κ.w.heap.setIfInBounds b (.map es' clock') } } ∧ Inv { κ with w := { κ.w with heap := κ.w.heap.setIfInBounds b (.map es' clock') } } (σ.set o x') := by
  have hle : κ.Le { κ with w := { κ.w with heap := κ.w.heap.setIfInBounds b (.map es' clock') } } := by
    refine ⟨rfl, ⟨rfl, rfl, rfl, by simp, fun k hk => heap_setBlock_ne _ (by omega)⟩, fun b' s e' => ?_, fun _ _ e' => e', fun _ _ e' => e', fun _ => Nat.le_refl _, fun b' off' u hi e' => ?_, Nat.le_refl _⟩
    · have hne : b' ≠ b := fun hh' => by
        subst hh'
        unfold World.shape? at e'
        rw [hh] at e'; cases e'
      unfold World.shape? at e' ⊢
      dsimp only
      rw [heap_setBlock_ne _ hne]; exact e'
    · have hne : b' ≠ b := fun hh' => by rw [hh', hIb] at hi; omega
      simp only [World.cell?] at e' ⊢
      rw [heap_setBlock_ne _ hne]; exact e'
  refine ⟨hle, h.step hle rfl rfl h.frO b hbase hIb (fun b' hne _ => heap_setBlock_ne _ hne) o _ (fun _ _ => rfl) hb (hx' _ hle (heap_setBlock _ hh)) ?_ ?_⟩
  · intro i y hy hne hh'
    exact hne (h.inj i o _ _ b hy ho hh' hb)
  · intro t sz u ht hu hh'
    exact h.tokobj t sz u b o _ ht hu hh' ho hb
def entryKV (e : MapEntry) : Value × Value := (e.key, e.val)
/-- the entry of a stamp stands at a place; what the map is when it is stored into -/
def StampAt (es : Array MapEntry) (clk born : Nat) (f : Value → List (Value × Value)) : Prop :=
  (∀ e ∈ es, e.born < clk) ∧ (es.toList.map (·.born)).Pairwise (· ≠ ·) ∧ ∃ i, ∃ h : i < es.size, es[i].born = born ∧ ∀ x, ((es.modify i fun e => { e with val := x }).toList.map entryKV) = f x

theorem modify_kv {es : Array MapEntry} {i : Nat} (hi : i < es.size) (x : Value) : ((es.modify i fun e => { e with val := x }).toList.map entryKV) = (es.toList.map entryKV).set i (es[i].key, x) := by
  apply List.ext_getElem (by simp)
  intro j h1 h2
  simp only [List.getElem_map, Array.getElem_toList, Array.getElem_modify, List.getElem_set]
  split
  · rename_i hij; subst hij; rfl
  · rfl

theorem AOp_mapEntryW {t kt et : TypeId} {m k : Operand} {mo : Nat} {kb : β} {kvs : List (β × Value)} {z : Value} (ho : o.op = .mapEntry t m k) (ht : P.underlying t = some (.map kt et)) (hW : WKey P kt enc) (hz : zeroOf P et = some z)
    (hm : α m = .map mo) (hh : σ.heap mo = some (.map (wMap enc (litM kvs)))) (hkv : ∀ (κ : K) v, Rv κ (α k) v → v = enc kb)
    (hk : ∀ es clk born, StampAt es clk born (fun x => wMap enc (wPut kb x kvs)) → es.toList.map entryKV = wMap enc (wPut kb ((wGet kb kvs).getD z) kvs) → Kk (.tup [.any, .lit (.int .i64 born)]) (σ.set mo (.raw (.map es clk)))) : AOp P o α σ Kk := by
  obtain ⟨dst, op, ty, pos, after, guard⟩ := o
  obtain rfl : op = _ := ho
  intro κ ev hI hxx
  have hvm := hxx m (by simp [Op.operands])
  have hek := hkv κ _ (hxx k (by simp [Op.operands]))
  rw [hm] at hvm
  obtain ⟨b, hb, hbase, hIb, es, clock, hheap, hn, hborn, hnd, hall⟩ := hI.heap mo _ hh
  have hem : ev m = .map (some b) := by
    generalize ev m = u at hvm
    cases hvm with
    | map _ b' hb' => rw [hb] at hb'; obtain rfl := Option.some.inj hb'; rfl
  have hn' : es.size = (litM kvs).length := by simpa [wMap] using hn
  have hn2 : es.size = kvs.length := by simpa [litM] using hn'
  have hall' : ∀ i (hi : i < (litM kvs).length) (hj : i < es.size), es[i].key = enc (litM kvs)[i].1 ∧ Rv κ (litM kvs)[i].2 es[i].val := fun i hi hj => by
    have := hall i (by simpa [wMap] using hi) hj
    simpa [wMap] using this
  have hkv' : es.toList.map entryKV = wMap enc kvs := by
    apply List.ext_getElem (by simp [wMap, hn2])
    intro i h1 h2
    have h3 : i < es.size := by simpa using h1
    have h4 := hall' i (by rw [← hn']; exact h3) h3
    simp only [litM, List.getElem_map] at h4
    simp only [List.getElem_map, Array.getElem_toList, wMap]
    exact Prod.ext h4.1 h4.2.litInv
  have hfind := findW hW kb es.toList (litM kvs) 0 (by simpa using hn') fun i hi hj => by simpa using hall' i hi (by simpa using hj)
  rcases hfind with ⟨h1, hg, h2⟩ | ⟨i, v, x0, h1, h2, ⟨h2', h3⟩, hg, hrv, h4⟩
  · have hp : ∀ x, wPut kb x kvs = kvs ++ [(kb, x)] := fun x => by
      have := h2 (.lit x)
      rw [wPut_litM] at this
      have e2 : litM kvs ++ [(kb, AVal.lit x)] = litM (kvs ++ [(kb, x)]) := by simp [litM]
      rw [e2] at this
      exact litM_inj this
    obtain ⟨hle, hI'⟩ := hI.setMapX hh hb hheap hbase hIb (es' := es.push { key := enc kb, val := z, born := clock }) (clock' := clock + 1) (.raw (.map (es.push { key := enc kb, val := z, born := clock }) (clock + 1))) fun κ' _ hh' => ⟨hh', fun _ _ _ h => by cases h⟩
    refine upon_v (s := Instr.mapEntry t (ev m) (ev k)) rfl ⟨.tuple #[z, .int .i64 clock], _, ?_, _, .tup [.any, .lit (.int .i64 clock)], _, rfl, hle, hI', .tup _ _ rfl (fun j hj => ?_), hk _ _ _ ⟨?_, ?_, es.size, by simp, by simp, fun x => ?_⟩ ?_⟩
    · rw [hem, hek]
      unfold Instr.mapEntry
      simp only [Sem.run_bind, run_underlying ht, Result.andThen_ok, Go.MapKept.run_getObj_map hheap, hW.check, run_findKey_eq κ.w hW.wide, h1, run_zeroValue' hz, Go.MapKept.run_setObj_map _ hheap, Sem.run_pure, goInt]
    · match j, hj with
      | 0, _ => exact .any _
      | 1, _ => exact .lit _
    · intro e he
      rcases Array.mem_push.1 he with he | rfl
      · exact Nat.lt_succ_of_lt (hborn e he)
      · exact Nat.lt_succ_self _
    · simp only [Array.toList_push, List.map_append, List.map_cons, List.map_nil]
      refine List.pairwise_append.2 ⟨hnd, List.pairwise_singleton _ _, fun y hy z hz => ?_⟩
      obtain rfl := List.mem_singleton.1 hz
      obtain ⟨e, he, rfl⟩ := List.mem_map.1 hy
      exact Nat.ne_of_lt (hborn e (by simpa using he))
    · show _ = wMap enc (wPut kb x kvs)
      rw [modify_kv (by simp), hp]
      simp only [Array.toList_push, List.map_append, List.map_cons, List.map_nil, hkv', Array.getElem_push_eq]
      rw [List.set_append_right _ _ (by simp [wMap, hn2])]
      simp [wMap, hn2, entryKV]
    · rw [wGet_litM] at hg
      have hg' : wGet kb kvs = none := by simpa using hg
      rw [hg', hp]
      simp only [Array.toList_push, List.map_append, List.map_cons, List.map_nil, hkv']
      simp [wMap, entryKV]
  · rw [Nat.zero_add] at h1
    have hi : i < es.size := by simpa using h2
    have hi2 : i < kvs.length := by omega
    have hki : es[i].key = enc kb := by simpa using h3
    have hkeep : (Instr.keyThatStays (((es[i]?).map (·.key)).getD (enc kb)) (enc kb)).run P κ.w = .ok (enc kb) κ.w := by
      have : ((es[i]?).map (·.key)).getD (enc kb) = enc kb := by
        simp only [Array.getElem?_eq_getElem hi, Option.map_some, Option.getD_some]
        exact hki
      rw [this]
      exact hW.stays _ _
    have hp : ∀ x, wPut kb x kvs = kvs.set i (kb, x) := fun x => by
      have := h4 (.lit x)
      rw [wPut_litM] at this
      have e2 : (litM kvs).set i (kb, AVal.lit x) = litM (kvs.set i (kb, x)) := by simp [litM, List.map_set]
      rw [e2] at this
      exact litM_inj this
    have hsame : (es.modify i fun e => { e with key := enc kb }) = es := by
      apply Array.ext (by simp)
      intro j h1 h2
      rw [Array.getElem_modify]
      split
      · rename_i hij
        subst hij
        have hsm : ∀ e : MapEntry, e.key = enc kb → ({ e with key := enc kb } : MapEntry) = e := fun e he => by rw [← he]
        exact hsm _ hki
      · rfl
    obtain ⟨hle, hI'⟩ := hI.setMapX hh hb hheap hbase hIb (es' := es) (clock' := clock) (.raw (.map es clock)) fun κ' _ hh' => ⟨hh', fun _ _ _ h => by cases h⟩
    refine upon_v (s := Instr.mapEntry t (ev m) (ev k)) rfl ⟨.tuple #[v, .int .i64 es[i].born], _, ?_, _, .tup [.any, .lit (.int .i64 es[i].born)], _, rfl, hle, hI', .tup _ _ rfl (fun j hj => ?_), hk _ _ _ ⟨hborn, hnd, i, hi, rfl, fun x => ?_⟩ ?_⟩
    · rw [hem, hek]
      unfold Instr.mapEntry
      simp only [Sem.run_bind, run_underlying ht, Result.andThen_ok, Go.MapKept.run_getObj_map hheap, hW.check, run_findKey_eq κ.w hW.wide, h1, Array.getElem?_eq_getElem hi, Option.map_some, Option.getD_some, hki, hW.stays, hsame, Go.MapKept.run_setObj_map _ hheap, Sem.run_pure, goInt]
    · match j, hj with
      | 0, _ => exact .any _
      | 1, _ => exact .lit _
    · show _ = wMap enc (wPut kb x kvs)
      rw [modify_kv hi, hkv', hp, hki]
      simp [wMap, List.map_set]
    · rw [wGet_litM] at hg
      obtain ⟨v0, hv0, rfl⟩ := Option.map_eq_some_iff.1 hg
      rw [hv0, hp]
      have hkv0 : kvs[i] = (kb, v0) := by
        have e1 := congrArg (fun l => l[i]?) (wPut_get kvs hv0)
        simp only [hp] at e1
        rw [List.getElem?_set_self hi2, List.getElem?_eq_getElem hi2] at e1
        exact (Option.some.inj e1).symm
      show es.toList.map entryKV = wMap enc (kvs.set i (kb, v0))
      rw [hkv', ← hkv0, List.set_getElem_self]

theorem findIdx_born {es : Array MapEntry} (hnd : (es.toList.map (·.born)).Pairwise (· ≠ ·)) {i : Nat} (hi : i < es.size) : es.findIdx? (fun e => ((e.born : Int) == (es[i].born : Int))) = some i := by
  rw [Array.findIdx?_eq_some_iff_getElem]
  refine ⟨hi, by simp, fun j hj => ?_⟩
  have := List.pairwise_iff_getElem.1 hnd j i (by simp; omega) (by simpa using hi) hj
  simp only [List.getElem_map, Array.getElem_toList] at this
  simp
  omega

theorem AOp_entryStore {t : TypeId} {m s x : Operand} {mo clk born : Nat} {es : Array MapEntry} {f : Value → List (Value × Value)} {v : Value} (ho : o.op = .entryStore t m s x) (hm : α m = .map mo) (hh : σ.heap mo = some (.raw (.map es clk)))
    (hs : α s = .lit (.int .i64 born)) (hx : α x = .lit v) (hst : StampAt es clk born f) (hk : Kk .any (σ.set mo (.map (litM (f v))))) : AOp P o α σ Kk := by
  obtain ⟨dst, op, ty, pos, after, guard⟩ := o
  obtain rfl : op = _ := ho
  intro κ ev hI hxx
  have hvm := hxx m (by simp [Op.operands])
  have hvs := hxx s (by simp [Op.operands])
  have hvx := hxx x (by simp [Op.operands])
  rw [hm] at hvm
  rw [hs] at hvs
  rw [hx] at hvx
  obtain ⟨b, hb, hbase, hIb, hheap, _⟩ := hI.heap mo _ hh
  have hem : ev m = .map (some b) := by
    generalize ev m = u at hvm
    cases hvm with
    | map _ b' hb' => rw [hb] at hb'; obtain rfl := Option.some.inj hb'; rfl
  obtain ⟨hlt, hnd, i, hi, rfl, hf⟩ := hst
  have hes := hf v
  obtain ⟨hle, hI'⟩ := hI.setMapX hh hb hheap hbase hIb (es' := es.modify i fun e => { e with val := v }) (clock' := clk) (.map (litM (f v))) fun κ' _ hh' => by
    refine ⟨_, _, hh', ?_, ?_, ?_, fun j hj hj' => ?_⟩
    · have := congrArg List.length hes
      simpa [litM] using this
    · intro e he
      obtain ⟨j, hj, rfl⟩ := Array.getElem_of_mem he
      have hj' : j < es.size := by simpa using hj
      have hb0 := hlt es[j] (Array.getElem_mem hj')
      rw [Array.getElem_modify]
      split
      · exact hb0
      · exact hb0
    · have : ((es.modify i fun e => { e with val := v }).toList.map (·.born)) = es.toList.map (·.born) := by
        apply List.ext_getElem (by simp)
        intro j h1 h2
        simp only [List.getElem_map, Array.getElem_toList, Array.getElem_modify]
        split <;> rfl
      rw [this]; exact hnd
    · have h1 : j < (f v).length := by simpa [litM] using hj
      have h2 : (f v)[j] = entryKV ((es.modify i fun e => { e with val := v })[j]'hj') := by
        have h3 : ((es.modify i fun e => { e with val := v }).toList.map entryKV)[j]? = (f v)[j]? := by rw [hes]
        rw [List.getElem?_eq_getElem h1, List.getElem?_eq_getElem (by simpa using hj')] at h3
        have := Option.some.inj h3
        rw [← this]
        simp only [List.getElem_map, Array.getElem_toList]
      have e3 : (litM (f v))[j] = (((es.modify i fun e => { e with val := v })[j]'hj').key, .lit ((es.modify i fun e => { e with val := v })[j]'hj').val) := by
        simp only [litM, List.getElem_map, h2, entryKV]
      rw [e3]
      exact ⟨rfl, .lit _⟩
  refine upon_u (s := Instr.entryStore t (ev m) (ev s) (ev x)) rfl ⟨_, ?_, _, .any, _, rfl, hle, hI', .any _, hk⟩
  rw [hem, hvs.litInv, hvx.litInv]
  unfold Instr.entryStore
  simp only [Sem.run_bind, Result.andThen_ok, Go.MapKept.run_getObj_map hheap, asInt, asIntOf, Sem.run_pure, findIdx_born hnd hi, Go.MapKept.run_setObj_map _ hheap]

/-! ### loops over a map -/
/-- a map's entries, as they stand -/
structure MapIs (kvs : List (Value × Value)) (es : Array MapEntry) (clk : Nat) : Prop where
  kv : es.toList.map (fun e => (e.key, e.val)) = kvs
  lt : ∀ e ∈ es, e.born < clk
  nd : (es.toList.map (·.born)).Pairwise (· ≠ ·)

theorem AOp_range {t kt et : TypeId} {x : Operand} {mo : Nat} {kvs : List (Value × Value)} (ho : o.op = .range t x) (ht : P.underlying t = some (.map kt et)) (hm : α x = .map mo) (hh : σ.heap mo = some (.map (litM kvs)))
    (hk : ∀ es clk i, MapIs kvs es clk → σ.heap i = none → i ≠ mo → Kk (.ref i 0) ((σ.set mo (.raw (.map es clk))).set i (.mapIter (some mo) clk #[] clk))) : AOp P o α σ Kk := by
  obtain ⟨dst, op, ty, pos, after, guard⟩ := o
  obtain rfl : op = _ := ho
  intro κ ev hI hxx
  have hvm := hxx x (by simp [Op.operands])
  rw [hm] at hvm
  obtain ⟨b, hb, hbase, hIb, es, clock, hheap, hn, hborn, hnd, hall⟩ := hI.heap mo _ hh
  have hem : ev x = .map (some b) := by
    generalize ev x = u at hvm
    cases hvm with
    | map _ b' hb' => rw [hb] at hb'; obtain rfl := Option.some.inj hb'; rfl
  have hI1 : Inv κ (σ.set mo (.raw (.map es clock))) := by
    refine hI.step (.refl κ) rfl rfl hI.frO b hbase hIb (fun _ _ _ => rfl) mo _ (fun _ _ => rfl) hb ⟨hheap, fun _ _ _ h => by cases h⟩ ?_ ?_
    · intro i y hy hne hh'
      exact hne (hI.inj i mo _ _ b hy hh hh' hb)
    · intro t sz u ht hu hh'
      exact hI.tokobj t sz u b mo _ ht hu hh' hh hb
  have hmi : MapIs kvs es clock := ⟨by
    apply List.ext_getElem (by simpa [litM] using hn)
    intro i h1 h2
    have h3 : i < es.size := by simpa using h1
    have h4 := hall i (by simpa [litM] using h2) h3
    simp only [litM, List.getElem_map, Array.getElem_toList] at h4 ⊢
    exact Prod.ext h4.1 h4.2.litInv, hborn, hnd⟩
  obtain ⟨i, hi, hfree⟩ := hI1.fresh
  have hne : i ≠ mo := fun h => by rw [h, hb] at hi; cases hi
  have hfree' : σ.heap i = none := by simpa [Store.set, hne] using hfree
  obtain ⟨κ', hw, hle, hρ, hI'⟩ := hI1.alloc i hi (.mapIter (some mo) clock #[] clock) (.mapIter (some b) clock #[] clock) fun κ' hle hh _ => ⟨some b, ⟨b, hle.rho _ _ hb, rfl⟩, hh⟩
  refine upon_v (s := Instr.range t (ev x)) rfl ⟨.pointer (some ⟨κ.w.heap.size, 0, none⟩), κ.w.alloc (.mapIter (some b) clock #[] clock), ?_, κ', .ref i 0, _, hw, hle, hI', .ref i 0 _ hρ, hk es clock i hmi hfree' hne⟩
  rw [hem]
  exact run_range_map κ.w t kt et b es clock ht hheap

theorem run_choose_next (w : World) (n : Nat) (hn : 0 < n) : ∃ j w1, j < n ∧ (w1 = w ∨ w1 = w.drew) ∧ (choose (Question.mapNext n)).run P w = .ok j w1 := by
  by_cases hf : n ≤ 1
  · exact ⟨0, w, hn, .inl rfl, by simp [choose, Sem.run, Question.forced, hf]⟩
  · exact ⟨_, w.drew, Nat.mod_lt _ hn, .inr rfl, by
      simp only [choose, Sem.run, Question.forced, decide_eq_true_eq, hf, if_false, Question.cut]
      rfl⟩

theorem AOp_next {x : Operand} {mo i clk : Nat} {es : Array MapEntry} {seen : Array Nat} (ho : o.op = .next x false) (hx : α x = .ref i 0) (hi : σ.heap i = some (.mapIter (some mo) clk seen clk)) (hm : σ.heap mo = some (.raw (.map es clk)))
    (hborn : ∀ e ∈ es, e.born < clk) (h0 : (∀ e ∈ es, seen.contains e.born = true) → Kk (.tup [.lit (.bool false)]) σ)
    (h1 : ∀ e ∈ es, seen.contains e.born = false → Kk (.tup [.lit (.bool true), ofConst e.key, .lit e.val]) (σ.set i (.mapIter (some mo) clk (seen.push e.born) clk))) : AOp P o α σ Kk := by
  obtain ⟨dst, op, ty, pos, after, guard⟩ := o
  obtain rfl : op = _ := ho
  intro κ ev hI hxx
  have hvx := hxx x (by simp [Op.operands])
  rw [hx] at hvx
  obtain ⟨bi, hbi, hbase, hIb, mb, ⟨bm, hbm, rfl⟩, hit⟩ := hI.heap i _ hi
  obtain ⟨bm', hbm', _, _, hmap, _⟩ := hI.heap mo _ hm
  rw [hbm] at hbm'
  obtain rfl := Option.some.inj hbm'
  have hev : ev x = .pointer (some ⟨bi, 0, none⟩) := by
    generalize ev x = u at hvx
    cases hvx with
    | ref _ _ b' hb' => rw [hbi] at hb'; obtain rfl := Option.some.inj hb'; rfl
  have g1 : (getObj bi).run P κ.w = .ok (.mapIter (some bm) clk seen clk) κ.w := by simp [getObj, Sem.run, hit]
  have g2 : (getObj bm).run P κ.w = .ok (.map es clk) κ.w := by simp [getObj, Sem.run, hmap]
  have hrun : (Instr.next (.pointer (some ⟨bi, 0, none⟩)) false ty).run P κ.w = ((do
      let L := es.filter fun e => !seen.contains e.born
      let candidates := (if L.isEmpty then #[none] else #[]) ++ L.map some
      match candidates[← choose (.mapNext candidates.size)]? with
      | some (some e) =>
        setObj bi (.mapIter (some bm) clk (seen.push e.born) clk)
        pure (.tuple #[.bool true, e.key, e.val])
      | some none => pure (.tuple #[.bool false])
      | none => stuck "Next: no such candidate") : Sem Value).run P κ.w := by
    have hmem : ∀ x ∈ (Array.filter (fun e => !seen.contains e.born) es).toList, x.born < clk := fun x hx => hborn x (by simp at hx; exact hx.1)
    have e1 : (Array.filter (fun e => !seen.contains e.born) es).filter (fun x => decide (x.born < clk)) = Array.filter (fun e => !seen.contains e.born) es := Array.filter_eq_self.2 (fun x hx => by simpa using hmem x (by simpa using hx))
    have e2 : (Array.filter (fun e => !seen.contains e.born) es).filter (fun x => decide (x.born ≥ clk)) = #[] := by
      rw [Array.filter_eq_empty_iff]
      intro x hx
      have := hmem x (by simpa using hx)
      simp
      omega
    have tf := next_test_false seen es clk clk (fun x hx => hborn x (by simpa using hx)) (Nat.le_refl _)
    unfold Instr.next
    simp only [Sem.run_bind, g1, Result.andThen_ok, g2, tf, Bool.false_eq_true, if_false, e1, e2, Array.append_empty]
    rfl
  generalize hL : es.filter (fun e => !seen.contains e.born) = L at hrun
  have hLm : ∀ e, e ∈ L ↔ e ∈ es ∧ seen.contains e.born = false := fun e => by
    rw [← hL, Array.mem_filter]
    simp
  rcases Nat.eq_zero_or_pos L.size with h | h
  · obtain rfl : L = #[] := Array.eq_empty_of_size_eq_zero h
    refine upon_v (s := Instr.next (ev x) false ty) rfl ⟨.tuple #[.bool false], κ.w, ?_, κ, _, σ, rfl, .refl κ, hI, .tup _ _ rfl (fun j hj => ?_), h0 fun e he => ?_⟩
    · rw [hev, hrun]
      simp [choose, Sem.run, Question.forced]
    · match j, hj with
      | 0, _ => exact .lit _
    · cases hc : seen.contains e.born with
      | true => rfl
      | false => have := (hLm e).2 ⟨he, hc⟩; simp at this
  · have hne : L.isEmpty = false := by
      simp only [Array.isEmpty, decide_eq_false_iff_not]; omega
    obtain ⟨j, w1, hj, hw1, hch⟩ := run_choose_next (P := P) κ.w L.size h
    have hIw : κ.Le { κ with w := w1 } ∧ Inv { κ with w := w1 } σ := by
      rcases hw1 with rfl | rfl
      · exact ⟨.refl κ, hI⟩
      · exact hI.drew
    have hheap : w1.heap = κ.w.heap := by rcases hw1 with rfl | rfl <;> rfl
    have hit1 : w1.heap[bi]? = some (.mapIter (some bm) clk seen clk) := by rw [hheap]; exact hit
    obtain ⟨hle1, hI1⟩ := hIw
    have he := (hLm L[j]).1 (Array.getElem_mem hj)
    have hle2 : K.Le { κ with w := w1 } { κ with w := { w1 with heap := w1.heap.setIfInBounds bi (.mapIter (some bm) clk (seen.push L[j].born) clk) } } := by
      refine ⟨rfl, ⟨rfl, rfl, rfl, by simp, fun k hk => heap_setBlock_ne _ (by
        have : k < κ.base := hk
        omega)⟩, fun b' s e' => ?_, fun _ _ e' => e', fun _ _ e' => e', fun _ => Nat.le_refl _, fun b' off' u hi e' => ?_, Nat.le_refl _⟩
      · have hne : b' ≠ bi := fun hh' => by
          subst hh'
          unfold World.shape? at e'
          rw [hit1] at e'; cases e'
        unfold World.shape? at e' ⊢
        dsimp only
        rw [heap_setBlock_ne _ hne]; exact e'
      · have hne : b' ≠ bi := fun hh' => by rw [hh'] at hi; have : off' < κ.I bi := hi; rw [hIb] at this; omega
        simp only [World.cell?] at e' ⊢
        rw [heap_setBlock_ne _ hne]; exact e'
    have hI2 := hI1.step hle2 rfl rfl hI1.frO bi hbase hIb (fun b' hne _ => heap_setBlock_ne _ hne) i (.mapIter (some mo) clk (seen.push L[j].born) clk) (fun _ _ => rfl) hbi ⟨some bm, ⟨bm, hbm, rfl⟩, heap_setBlock _ hit1⟩ (by
      intro i' y hy hne hh'
      exact hne (hI.inj i' i _ _ bi hy hi hh' hbi)) (by
      intro t sz u ht hu hh'
      exact hI.tokobj t sz u bi i _ ht hu hh' hi hbi)
    refine upon_v (s := Instr.next (ev x) false ty) rfl ⟨.tuple #[.bool true, L[j].key, L[j].val], { w1 with heap := w1.heap.setIfInBounds bi (.mapIter (some bm) clk (seen.push L[j].born) clk) }, ?_, _, _, _, rfl, hle1.trans hle2, hI2, .tup _ _ rfl (fun j' hj' => ?_), h1 L[j] he.1 he.2⟩
    · rw [hev, hrun]
      have hset : ∀ o' : Obj, (setObj bi o').run P w1 = .ok () { w1 with heap := w1.heap.setIfInBounds bi o' } := fun o' => by simp [setObj, Sem.run, hit1]
      simp only [hne, Bool.false_eq_true, if_false, Array.empty_append, Array.size_map, Sem.run_bind, hch, Result.andThen_ok, Array.getElem?_map, Array.getElem?_eq_getElem hj, Option.map_some, hset, Sem.run_pure]
    · match j', hj' with
      | 0, _ => exact .lit _
      | 1, _ => exact .ofConst _
      | 2, _ => exact .lit _

theorem AOp_entry {x : Operand} {mo i clk : Nat} {es : Array MapEntry} {seen : Array Nat} {e : MapEntry} (ho : o.op = .entry x) (hx : α x = .ref i 0) (hi : σ.heap i = some (.mapIter (some mo) clk (seen.push e.born) clk)) (hm : σ.heap mo = some (.raw (.map es clk)))
    (hnd : (es.toList.map (·.born)).Pairwise (· ≠ ·)) (he : e ∈ es) (hk : Kk (.tup [ofConst e.key, .lit e.val]) σ) : AOp P o α σ Kk := by
  obtain ⟨dst, op, ty, pos, after, guard⟩ := o
  obtain rfl : op = _ := ho
  intro κ ev hI hxx
  have hvx := hxx x (by simp [Op.operands])
  rw [hx] at hvx
  obtain ⟨bi, hbi, hbase, hIb, mb, ⟨bm, hbm, rfl⟩, hit⟩ := hI.heap i _ hi
  obtain ⟨bm', hbm', _, _, hmap, _⟩ := hI.heap mo _ hm
  rw [hbm] at hbm'
  obtain rfl := Option.some.inj hbm'
  have hev : ev x = .pointer (some ⟨bi, 0, none⟩) := by
    generalize ev x = u at hvx
    cases hvx with
    | ref _ _ b' hb' => rw [hbi] at hb'; obtain rfl := Option.some.inj hb'; rfl
  have g1 : (getObj bi).run P κ.w = .ok (.mapIter (some bm) clk (seen.push e.born) clk) κ.w := by simp [getObj, Sem.run, hit]
  have g2 : (getObj bm).run P κ.w = .ok (.map es clk) κ.w := by simp [getObj, Sem.run, hmap]
  have hfind : es.find? (fun x => x.born == e.born) = some e := by
    rw [← Array.find?_toList]
    exact find_born e es.toList hnd (by simpa using he)
  refine upon_v (s := Instr.entry (ev x)) rfl ⟨.tuple #[e.key, e.val], κ.w, ?_, κ, _, σ, rfl, .refl κ, hI, .tup _ _ rfl (fun j hj => ?_), hk⟩
  · rw [hev]
    unfold Instr.entry
    simp only [Sem.run_bind, g1, Result.andThen_ok, Array.back?_push, g2, bne_self_eq_false, Bool.false_eq_true, if_false, hfind, Sem.run_pure]
  · match j, hj with
    | 0, _ => exact .ofConst _
    | 1, _ => exact .lit _

theorem AOp_lookupRaw {t kt et : TypeId} {m k : Operand} {mo clk : Nat} {ok : Bool} {kb : β} {es : Array MapEntry} {kvs : List (β × Value)} {z : Value} (ho : o.op = .lookup t m k ok) (ht : P.underlying t = some (.map kt et)) (hW : WKey P kt enc) (hz : zeroOf P et = some z)
    (hm : α m = .map mo) (hh : σ.heap mo = some (.raw (.map es clk))) (he : es.toList.map entryKV = wMap enc kvs) (hkv : ∀ (κ : K) v, Rv κ (α k) v → v = enc kb) (hk : Kk (lookupRes z ok (wGet kb (litM kvs))) σ) : AOp P o α σ Kk := by
  obtain ⟨dst, op, ty, pos, after, guard⟩ := o
  obtain rfl : op = _ := ho
  intro κ ev hI hxx
  have hvm := hxx m (by simp [Op.operands])
  have hek := hkv κ _ (hxx k (by simp [Op.operands]))
  rw [hm] at hvm
  obtain ⟨b, hb, hbase, hIb, hheap, _⟩ := hI.heap mo _ hh
  have hem : ev m = .map (some b) := by
    generalize ev m = u at hvm
    cases hvm with
    | map _ b' hb' => rw [hb] at hb'; obtain rfl := Option.some.inj hb'; rfl
  have hn : es.size = (litM kvs).length := by
    have := congrArg List.length he
    simpa [wMap, litM] using this
  have hlist : ∀ i (hi : i < (litM kvs).length) (hj : i < es.toList.length), es.toList[i].key = enc (litM kvs)[i].1 ∧ Rv κ (litM kvs)[i].2 es.toList[i].val := fun i hi hj => by
    have h1 : (es.toList.map entryKV)[i]? = (wMap enc kvs)[i]? := by rw [he]
    have hi' : i < kvs.length := by simpa [litM] using hi
    rw [List.getElem?_eq_getElem (by simpa using hj), List.getElem?_eq_getElem (by simpa [wMap] using hi')] at h1
    have h2 := Option.some.inj h1
    simp only [List.getElem_map, wMap, entryKV, Prod.mk.injEq] at h2
    refine ⟨by simp only [litM, List.getElem_map]; exact h2.1, ?_⟩
    simp only [litM, List.getElem_map]
    rw [h2.2]; exact .lit _
  have hfind := findW hW kb es.toList (litM kvs) 0 (by simpa using hn) hlist
  have key : ∃ cv, (Instr.lookup t (ev m) (ev k) ok).run P κ.w = .ok cv κ.w ∧ Rv κ (lookupRes z ok (wGet kb (litM kvs))) cv := by
    rw [hem, hek, lookup_map ht hheap]
    unfold lookupCore
    simp only [Sem.run_bind, hW.check, Result.andThen_ok, run_findKey_eq κ.w hW.wide]
    rcases hfind with ⟨h1, h2, _⟩ | ⟨i, v, x, h1, _, _, h2, h3, _⟩
    · rw [h1, h2]
      simp only [Result.andThen_ok, Sem.run_bind, run_zeroValue' hz, Sem.run_pure]
      cases ok
      · exact ⟨z, rfl, .ofConst z⟩
      · refine ⟨_, rfl, .tup _ _ rfl fun i hi => ?_⟩
        match i, hi with
        | 0, _ => exact .ofConst z
        | 1, _ => exact .lit _
    · rw [h1, h2]
      simp only [Result.andThen_ok, Sem.run_pure]
      cases ok
      · exact ⟨v, rfl, h3⟩
      · refine ⟨_, rfl, .tup _ _ rfl fun i hi => ?_⟩
        match i, hi with
        | 0, _ => exact h3
        | 1, _ => exact .lit _
  obtain ⟨cv, h1, h2⟩ := key
  exact upon_v (s := Instr.lookup t (ev m) (ev k) ok) rfl ⟨cv, κ.w, h1, κ, _, σ, rfl, .refl κ, hI, h2, hk⟩
/-- the next entry, whether there is one or not -/
theorem AOp_nextR {x : Operand} {mo i clk : Nat} {es : Array MapEntry} {seen : Array Nat} (ho : o.op = .next x false) (hx : α x = .ref i 0) (hi : σ.heap i = some (.mapIter (some mo) clk seen clk)) (hm : σ.heap mo = some (.raw (.map es clk)))
    (hborn : ∀ e ∈ es, e.born < clk) (hk : ∀ bb rest σ', ((bb = false ∧ (∀ e ∈ es, seen.contains e.born = true) ∧ σ' = σ) ∨ (bb = true ∧ ∃ e ∈ es, seen.contains e.born = false ∧ σ' = σ.set i (.mapIter (some mo) clk (seen.push e.born) clk))) → Kk (.tup (.lit (.bool bb) :: rest)) σ') : AOp P o α σ Kk :=
  AOp_next ho hx hi hm hborn (fun h => hk false [] σ (.inl ⟨rfl, h, rfl⟩)) fun e he hs => hk true _ _ (.inr ⟨rfl, e, he, hs, rfl⟩)
end
end Go.Ab
end
