/-
  WHAT THE TABLES OF TYPES SAY, a closed fact each. Printed by a program of one's own (wip/tools/gen_types.py) off this seat's translation.; SLICES MADE, TAKEN FOR GOOD, COPIED TO BE WRITTEN; THE LAYER IN USE: one step at a time; the rules by which 'aval' is reckoned. Own work (an AI agent).
-/
import Derived.Test.YtkcmbjodladflaaGreatDoorGB
import Derived.Test.YtkcmbjodladflaaGreatDoorProg
import Derived.KernelRfl
import Derived.Deep.OwnRows
import Derived.Laws.Cover3

section
set_option linter.all false
namespace Go.Proofs
open Go.Ab
@[go_sem] theorem Tryz.aty1 : typeOf Tryz.prog 1 = some (1, false) := by kernel_rfl
@[go_sem] theorem Tryz.aze1 : zeroOf Tryz.prog 1 = some (.nilFunc) := by kernel_rfl
@[go_sem] theorem Tryz.aty2 : typeOf Tryz.prog 2 = some (1, false) := by kernel_rfl
@[go_sem] theorem Tryz.aze2 : zeroOf Tryz.prog 2 = some (.int .i64 0) := by kernel_rfl
@[go_sem] theorem Tryz.aty3 : typeOf Tryz.prog 3 = some (1, false) := by kernel_rfl
@[go_sem] theorem Tryz.api3 : appInfo Tryz.prog 3 = some (1, 8) := by kernel_rfl
@[go_sem] theorem Tryz.aze3 : zeroOf Tryz.prog 3 = some (.int .i64 0) := by kernel_rfl
@[go_sem] theorem Tryz.aty4 : typeOf Tryz.prog 4 = some (1, false) := by kernel_rfl
@[go_sem] theorem Tryz.aze4 : zeroOf Tryz.prog 4 = some (.bool false) := by kernel_rfl
@[go_sem] theorem Tryz.aty5 : typeOf Tryz.prog 5 = some (1, false) := by kernel_rfl
@[go_sem] theorem Tryz.api5 : appInfo Tryz.prog 5 = some (1, 1) := by kernel_rfl
@[go_sem] theorem Tryz.aze5 : zeroOf Tryz.prog 5 = some (.int .u8 0) := by kernel_rfl
@[go_sem] theorem Tryz.aty6 : typeOf Tryz.prog 6 = some (1, false) := by kernel_rfl
@[go_sem] theorem Tryz.aze6 : zeroOf Tryz.prog 6 = some (.int .u8 0) := by kernel_rfl
@[go_sem] theorem Tryz.aty7 : typeOf Tryz.prog 7 = some (4, true) := by kernel_rfl
@[go_sem] theorem Tryz.aze7 : zeroOf Tryz.prog 7 = some (.agg #[.int .i64 0, .int .i64 0, .bool false, .int .u8 0]) := by kernel_rfl
@[go_sem] theorem Tryz.afi7_0 : fieldInfo Tryz.prog 7 0 = some (0, 1, false) := by kernel_rfl
@[go_sem] theorem Tryz.afi7_1 : fieldInfo Tryz.prog 7 1 = some (1, 1, false) := by kernel_rfl
@[go_sem] theorem Tryz.afi7_2 : fieldInfo Tryz.prog 7 2 = some (2, 1, false) := by kernel_rfl
@[go_sem] theorem Tryz.afi7_3 : fieldInfo Tryz.prog 7 3 = some (3, 1, false) := by kernel_rfl
@[go_sem] theorem Tryz.abi7 : buildInfo Tryz.prog 7 = some ([(0, 1), (1, 1), (2, 1), (3, 1)], 0, [.int .i64 0, .int .i64 0, .bool false, .int .u8 0]) := by kernel_rfl
@[go_sem] theorem Tryz.aty8 : typeOf Tryz.prog 8 = some (4, true) := by kernel_rfl
@[go_sem] theorem Tryz.aze8 : zeroOf Tryz.prog 8 = some (.agg #[.int .i64 0, .int .i64 0, .bool false, .int .u8 0]) := by kernel_rfl
@[go_sem] theorem Tryz.afi8_0 : fieldInfo Tryz.prog 8 0 = some (0, 1, false) := by kernel_rfl
@[go_sem] theorem Tryz.afi8_1 : fieldInfo Tryz.prog 8 1 = some (1, 1, false) := by kernel_rfl
@[go_sem] theorem Tryz.afi8_2 : fieldInfo Tryz.prog 8 2 = some (2, 1, false) := by kernel_rfl
@[go_sem] theorem Tryz.afi8_3 : fieldInfo Tryz.prog 8 3 = some (3, 1, false) := by kernel_rfl
@[go_sem] theorem Tryz.abi8 : buildInfo Tryz.prog 8 = some ([(0, 1), (1, 1), (2, 1), (3, 1)], 0, [.int .i64 0, .int .i64 0, .bool false, .int .u8 0]) := by kernel_rfl
@[go_sem] theorem Tryz.aty9 : typeOf Tryz.prog 9 = some (1, false) := by kernel_rfl
@[go_sem] theorem Tryz.ais9 : isStringT Tryz.prog 9 = true := by kernel_rfl
@[go_sem] theorem Tryz.api9 : appInfo Tryz.prog 9 = some (1, 16) := by kernel_rfl
@[go_sem] theorem Tryz.aze9 : zeroOf Tryz.prog 9 = some (.string ⟨#[]⟩) := by kernel_rfl
@[go_sem] theorem Tryz.aty10 : typeOf Tryz.prog 10 = some (1, false) := by kernel_rfl
@[go_sem] theorem Tryz.ais10 : isStringT Tryz.prog 10 = true := by kernel_rfl
@[go_sem] theorem Tryz.aze10 : zeroOf Tryz.prog 10 = some (.string ⟨#[]⟩) := by kernel_rfl
@[go_sem] theorem Tryz.aty11 : typeOf Tryz.prog 11 = some (1, false) := by kernel_rfl
@[go_sem] theorem Tryz.ais11 : isStringT Tryz.prog 11 = true := by kernel_rfl
@[go_sem] theorem Tryz.aze11 : zeroOf Tryz.prog 11 = some (.string ⟨#[]⟩) := by kernel_rfl
@[go_sem] theorem Tryz.aty12 : typeOf Tryz.prog 12 = some (1, false) := by kernel_rfl
@[go_sem] theorem Tryz.aze12 : zeroOf Tryz.prog 12 = some (.int .u64 0) := by kernel_rfl
@[go_sem] theorem Tryz.aty13 : typeOf Tryz.prog 13 = some (2, true) := by kernel_rfl
@[go_sem] theorem Tryz.aze13 : zeroOf Tryz.prog 13 = some (.agg #[.string ⟨#[]⟩, .int .u64 0]) := by kernel_rfl
@[go_sem] theorem Tryz.afi13_0 : fieldInfo Tryz.prog 13 0 = some (0, 1, false) := by kernel_rfl
@[go_sem] theorem Tryz.afi13_1 : fieldInfo Tryz.prog 13 1 = some (1, 1, false) := by kernel_rfl
@[go_sem] theorem Tryz.abi13 : buildInfo Tryz.prog 13 = some ([(0, 1), (1, 1)], 0, [.string ⟨#[]⟩, .int .u64 0]) := by kernel_rfl
@[go_sem] theorem Tryz.aty14 : typeOf Tryz.prog 14 = some (2, true) := by kernel_rfl
@[go_sem] theorem Tryz.aze14 : zeroOf Tryz.prog 14 = some (.agg #[.string ⟨#[]⟩, .int .u64 0]) := by kernel_rfl
@[go_sem] theorem Tryz.afi14_0 : fieldInfo Tryz.prog 14 0 = some (0, 1, false) := by kernel_rfl
@[go_sem] theorem Tryz.afi14_1 : fieldInfo Tryz.prog 14 1 = some (1, 1, false) := by kernel_rfl
@[go_sem] theorem Tryz.abi14 : buildInfo Tryz.prog 14 = some ([(0, 1), (1, 1)], 0, [.string ⟨#[]⟩, .int .u64 0]) := by kernel_rfl
@[go_sem] theorem Tryz.aty15 : typeOf Tryz.prog 15 = some (1, false) := by kernel_rfl
@[go_sem] theorem Tryz.aze15 : zeroOf Tryz.prog 15 = some (.pointer none) := by kernel_rfl
@[go_sem] theorem Tryz.aty16 : typeOf Tryz.prog 16 = some (1, false) := by kernel_rfl
@[go_sem] theorem Tryz.aze16 : zeroOf Tryz.prog 16 = some (.pointer none) := by kernel_rfl
@[go_sem] theorem Tryz.aty17 : typeOf Tryz.prog 17 = some (1, false) := by kernel_rfl
@[go_sem] theorem Tryz.aze17 : zeroOf Tryz.prog 17 = some (.pointer none) := by kernel_rfl
@[go_sem] theorem Tryz.aty18 : typeOf Tryz.prog 18 = some (1, true) := by kernel_rfl
@[go_sem] theorem Tryz.aze18 : zeroOf Tryz.prog 18 = some (.agg #[.pointer none]) := by kernel_rfl
@[go_sem] theorem Tryz.afi18_0 : fieldInfo Tryz.prog 18 0 = some (0, 1, false) := by kernel_rfl
@[go_sem] theorem Tryz.abi18 : buildInfo Tryz.prog 18 = some ([(0, 1)], 0, [.pointer none]) := by kernel_rfl
@[go_sem] theorem Tryz.aty19 : typeOf Tryz.prog 19 = some (1, true) := by kernel_rfl
@[go_sem] theorem Tryz.aze19 : zeroOf Tryz.prog 19 = some (.agg #[.pointer none]) := by kernel_rfl
@[go_sem] theorem Tryz.afi19_0 : fieldInfo Tryz.prog 19 0 = some (0, 1, false) := by kernel_rfl
@[go_sem] theorem Tryz.abi19 : buildInfo Tryz.prog 19 = some ([(0, 1)], 0, [.pointer none]) := by kernel_rfl
@[go_sem] theorem Tryz.aty20 : typeOf Tryz.prog 20 = some (1, false) := by kernel_rfl
@[go_sem] theorem Tryz.aze20 : zeroOf Tryz.prog 20 = some (.nilIface) := by kernel_rfl
@[go_sem] theorem Tryz.aty21 : typeOf Tryz.prog 21 = some (1, false) := by kernel_rfl
@[go_sem] theorem Tryz.aze21 : zeroOf Tryz.prog 21 = some (.int .i32 0) := by kernel_rfl
@[go_sem] theorem Tryz.aty22 : typeOf Tryz.prog 22 = some (1, false) := by kernel_rfl
@[go_sem] theorem Tryz.ais22 : isStringT Tryz.prog 22 = false := by kernel_rfl
@[go_sem] theorem Tryz.api22 : appInfo Tryz.prog 22 = some (1, 24) := by kernel_rfl
@[go_sem] theorem Tryz.ase22 : sliceElem Tryz.prog 22 = some 45 := by kernel_rfl
@[go_sem] theorem Tryz.aze22 : zeroOf Tryz.prog 22 = some (.slice none 0 0) := by kernel_rfl
@[go_sem] theorem Tryz.aty23 : typeOf Tryz.prog 23 = some (4, true) := by kernel_rfl
@[go_sem] theorem Tryz.aze23 : zeroOf Tryz.prog 23 = some (.agg #[.string ⟨#[]⟩, .string ⟨#[]⟩, .string ⟨#[]⟩, .bool false]) := by kernel_rfl
@[go_sem] theorem Tryz.afi23_0 : fieldInfo Tryz.prog 23 0 = some (0, 1, false) := by kernel_rfl
@[go_sem] theorem Tryz.afi23_1 : fieldInfo Tryz.prog 23 1 = some (1, 1, false) := by kernel_rfl
@[go_sem] theorem Tryz.afi23_2 : fieldInfo Tryz.prog 23 2 = some (2, 1, false) := by kernel_rfl
@[go_sem] theorem Tryz.afi23_3 : fieldInfo Tryz.prog 23 3 = some (3, 1, false) := by kernel_rfl
@[go_sem] theorem Tryz.abi23 : buildInfo Tryz.prog 23 = some ([(0, 1), (1, 1), (2, 1), (3, 1)], 0, [.string ⟨#[]⟩, .string ⟨#[]⟩, .string ⟨#[]⟩, .bool false]) := by kernel_rfl
@[go_sem] theorem Tryz.aty24 : typeOf Tryz.prog 24 = some (4, true) := by kernel_rfl
@[go_sem] theorem Tryz.api24 : appInfo Tryz.prog 24 = some (4, 56) := by kernel_rfl
@[go_sem] theorem Tryz.aze24 : zeroOf Tryz.prog 24 = some (.agg #[.string ⟨#[]⟩, .string ⟨#[]⟩, .string ⟨#[]⟩, .bool false]) := by kernel_rfl
@[go_sem] theorem Tryz.afi24_0 : fieldInfo Tryz.prog 24 0 = some (0, 1, false) := by kernel_rfl
@[go_sem] theorem Tryz.afi24_1 : fieldInfo Tryz.prog 24 1 = some (1, 1, false) := by kernel_rfl
@[go_sem] theorem Tryz.afi24_2 : fieldInfo Tryz.prog 24 2 = some (2, 1, false) := by kernel_rfl
@[go_sem] theorem Tryz.afi24_3 : fieldInfo Tryz.prog 24 3 = some (3, 1, false) := by kernel_rfl
@[go_sem] theorem Tryz.abi24 : buildInfo Tryz.prog 24 = some ([(0, 1), (1, 1), (2, 1), (3, 1)], 0, [.string ⟨#[]⟩, .string ⟨#[]⟩, .string ⟨#[]⟩, .bool false]) := by kernel_rfl
@[go_sem] theorem Tryz.aty25 : typeOf Tryz.prog 25 = some (10, true) := by kernel_rfl
@[go_sem] theorem Tryz.aze25 : zeroOf Tryz.prog 25 = some (.agg #[.int .i64 0, .string ⟨#[]⟩, .string ⟨#[]⟩, .string ⟨#[]⟩, .string ⟨#[]⟩, .int .i64 0, .string ⟨#[]⟩, .string ⟨#[]⟩, .string ⟨#[]⟩, .bool false]) := by kernel_rfl
@[go_sem] theorem Tryz.afi25_0 : fieldInfo Tryz.prog 25 0 = some (0, 1, false) := by kernel_rfl
@[go_sem] theorem Tryz.afi25_1 : fieldInfo Tryz.prog 25 1 = some (1, 1, false) := by kernel_rfl
@[go_sem] theorem Tryz.afi25_2 : fieldInfo Tryz.prog 25 2 = some (2, 1, false) := by kernel_rfl
@[go_sem] theorem Tryz.afi25_3 : fieldInfo Tryz.prog 25 3 = some (3, 1, false) := by kernel_rfl
@[go_sem] theorem Tryz.afi25_4 : fieldInfo Tryz.prog 25 4 = some (4, 1, false) := by kernel_rfl
@[go_sem] theorem Tryz.afi25_5 : fieldInfo Tryz.prog 25 5 = some (5, 1, false) := by kernel_rfl
@[go_sem] theorem Tryz.afi25_6 : fieldInfo Tryz.prog 25 6 = some (6, 4, true) := by kernel_rfl
@[go_sem] theorem Tryz.abi25 : buildInfo Tryz.prog 25 = some ([(0, 1), (1, 1), (2, 1), (3, 1), (4, 1), (5, 1), (6, 4)], 0, [.int .i64 0, .string ⟨#[]⟩, .string ⟨#[]⟩, .string ⟨#[]⟩, .string ⟨#[]⟩, .int .i64 0, .string ⟨#[]⟩, .string ⟨#[]⟩, .string ⟨#[]⟩, .bool false]) := by kernel_rfl
@[go_sem] theorem Tryz.aty26 : typeOf Tryz.prog 26 = some (10, true) := by kernel_rfl
@[go_sem] theorem Tryz.aze26 : zeroOf Tryz.prog 26 = some (.agg #[.int .i64 0, .string ⟨#[]⟩, .string ⟨#[]⟩, .string ⟨#[]⟩, .string ⟨#[]⟩, .int .i64 0, .string ⟨#[]⟩, .string ⟨#[]⟩, .string ⟨#[]⟩, .bool false]) := by kernel_rfl
@[go_sem] theorem Tryz.afi26_0 : fieldInfo Tryz.prog 26 0 = some (0, 1, false) := by kernel_rfl
@[go_sem] theorem Tryz.afi26_1 : fieldInfo Tryz.prog 26 1 = some (1, 1, false) := by kernel_rfl
@[go_sem] theorem Tryz.afi26_2 : fieldInfo Tryz.prog 26 2 = some (2, 1, false) := by kernel_rfl
@[go_sem] theorem Tryz.afi26_3 : fieldInfo Tryz.prog 26 3 = some (3, 1, false) := by kernel_rfl
@[go_sem] theorem Tryz.afi26_4 : fieldInfo Tryz.prog 26 4 = some (4, 1, false) := by kernel_rfl
@[go_sem] theorem Tryz.afi26_5 : fieldInfo Tryz.prog 26 5 = some (5, 1, false) := by kernel_rfl
@[go_sem] theorem Tryz.afi26_6 : fieldInfo Tryz.prog 26 6 = some (6, 4, true) := by kernel_rfl
@[go_sem] theorem Tryz.abi26 : buildInfo Tryz.prog 26 = some ([(0, 1), (1, 1), (2, 1), (3, 1), (4, 1), (5, 1), (6, 4)], 0, [.int .i64 0, .string ⟨#[]⟩, .string ⟨#[]⟩, .string ⟨#[]⟩, .string ⟨#[]⟩, .int .i64 0, .string ⟨#[]⟩, .string ⟨#[]⟩, .string ⟨#[]⟩, .bool false]) := by kernel_rfl
@[go_sem] theorem Tryz.aty28 : typeOf Tryz.prog 28 = some (1, false) := by kernel_rfl
@[go_sem] theorem Tryz.aze28 : zeroOf Tryz.prog 28 = some (.nilFunc) := by kernel_rfl
@[go_sem] theorem Tryz.aty29 : typeOf Tryz.prog 29 = some (1, false) := by kernel_rfl
@[go_sem] theorem Tryz.aze29 : zeroOf Tryz.prog 29 = some (.nilFunc) := by kernel_rfl
@[go_sem] theorem Tryz.aty30 : typeOf Tryz.prog 30 = some (1, false) := by kernel_rfl
@[go_sem] theorem Tryz.aze30 : zeroOf Tryz.prog 30 = some (.int .i64 0) := by kernel_rfl
@[go_sem] theorem Tryz.aty32 : typeOf Tryz.prog 32 = some (1, false) := by kernel_rfl
@[go_sem] theorem Tryz.aze32 : zeroOf Tryz.prog 32 = some (.nilFunc) := by kernel_rfl
@[go_sem] theorem Tryz.aty33 : typeOf Tryz.prog 33 = some (1, false) := by kernel_rfl
@[go_sem] theorem Tryz.aze33 : zeroOf Tryz.prog 33 = some (.nilFunc) := by kernel_rfl
@[go_sem] theorem Tryz.aty34 : typeOf Tryz.prog 34 = some (1, false) := by kernel_rfl
@[go_sem] theorem Tryz.aze34 : zeroOf Tryz.prog 34 = some (.nilFunc) := by kernel_rfl
@[go_sem] theorem Tryz.aty35 : typeOf Tryz.prog 35 = some (1, false) := by kernel_rfl
@[go_sem] theorem Tryz.ais35 : isStringT Tryz.prog 35 = false := by kernel_rfl
@[go_sem] theorem Tryz.ase35 : sliceElem Tryz.prog 35 = some 24 := by kernel_rfl
@[go_sem] theorem Tryz.aze35 : zeroOf Tryz.prog 35 = some (.slice none 0 0) := by kernel_rfl
@[go_sem] theorem Tryz.aty36 : typeOf Tryz.prog 36 = some (1, false) := by kernel_rfl
@[go_sem] theorem Tryz.aze36 : zeroOf Tryz.prog 36 = some (.nilFunc) := by kernel_rfl
@[go_sem] theorem Tryz.aty37 : typeOf Tryz.prog 37 = some (1, false) := by kernel_rfl
@[go_sem] theorem Tryz.aze37 : zeroOf Tryz.prog 37 = some (.nilFunc) := by kernel_rfl
@[go_sem] theorem Tryz.aty38 : typeOf Tryz.prog 38 = some (1, false) := by kernel_rfl
@[go_sem] theorem Tryz.aze38 : zeroOf Tryz.prog 38 = some (.nilFunc) := by kernel_rfl
@[go_sem] theorem Tryz.aty39 : typeOf Tryz.prog 39 = some (1, false) := by kernel_rfl
@[go_sem] theorem Tryz.aze39 : zeroOf Tryz.prog 39 = some (.nilFunc) := by kernel_rfl
@[go_sem] theorem Tryz.aty40 : typeOf Tryz.prog 40 = some (1, false) := by kernel_rfl
@[go_sem] theorem Tryz.aze40 : zeroOf Tryz.prog 40 = some (.nilFunc) := by kernel_rfl
@[go_sem] theorem Tryz.aty42 : typeOf Tryz.prog 42 = some (3, true) := by kernel_rfl
@[go_sem] theorem Tryz.aze42 : zeroOf Tryz.prog 42 = some (.agg #[.int .i64 0, .string ⟨#[]⟩, .string ⟨#[]⟩]) := by kernel_rfl
@[go_sem] theorem Tryz.afi42_0 : fieldInfo Tryz.prog 42 0 = some (0, 1, false) := by kernel_rfl
@[go_sem] theorem Tryz.afi42_1 : fieldInfo Tryz.prog 42 1 = some (1, 1, false) := by kernel_rfl
@[go_sem] theorem Tryz.afi42_2 : fieldInfo Tryz.prog 42 2 = some (2, 1, false) := by kernel_rfl
@[go_sem] theorem Tryz.abi42 : buildInfo Tryz.prog 42 = some ([(0, 1), (1, 1), (2, 1)], 0, [.int .i64 0, .string ⟨#[]⟩, .string ⟨#[]⟩]) := by kernel_rfl
@[go_sem] theorem Tryz.aty43 : typeOf Tryz.prog 43 = some (3, true) := by kernel_rfl
@[go_sem] theorem Tryz.aze43 : zeroOf Tryz.prog 43 = some (.agg #[.int .i64 0, .string ⟨#[]⟩, .string ⟨#[]⟩]) := by kernel_rfl
@[go_sem] theorem Tryz.afi43_0 : fieldInfo Tryz.prog 43 0 = some (0, 1, false) := by kernel_rfl
@[go_sem] theorem Tryz.afi43_1 : fieldInfo Tryz.prog 43 1 = some (1, 1, false) := by kernel_rfl
@[go_sem] theorem Tryz.afi43_2 : fieldInfo Tryz.prog 43 2 = some (2, 1, false) := by kernel_rfl
@[go_sem] theorem Tryz.abi43 : buildInfo Tryz.prog 43 = some ([(0, 1), (1, 1), (2, 1)], 0, [.int .i64 0, .string ⟨#[]⟩, .string ⟨#[]⟩]) := by kernel_rfl
@[go_sem] theorem Tryz.aty44 : typeOf Tryz.prog 44 = some (4, true) := by kernel_rfl
@[go_sem] theorem Tryz.aze44 : zeroOf Tryz.prog 44 = some (.agg #[.string ⟨#[]⟩, .int .i64 0, .string ⟨#[]⟩, .string ⟨#[]⟩]) := by kernel_rfl
@[go_sem] theorem Tryz.afi44_0 : fieldInfo Tryz.prog 44 0 = some (0, 1, false) := by kernel_rfl
@[go_sem] theorem Tryz.afi44_1 : fieldInfo Tryz.prog 44 1 = some (1, 3, true) := by kernel_rfl
@[go_sem] theorem Tryz.abi44 : buildInfo Tryz.prog 44 = some ([(0, 1), (1, 3)], 0, [.string ⟨#[]⟩, .int .i64 0, .string ⟨#[]⟩, .string ⟨#[]⟩]) := by kernel_rfl
@[go_sem] theorem Tryz.aty45 : typeOf Tryz.prog 45 = some (4, true) := by kernel_rfl
@[go_sem] theorem Tryz.api45 : appInfo Tryz.prog 45 = some (4, 56) := by kernel_rfl
@[go_sem] theorem Tryz.aze45 : zeroOf Tryz.prog 45 = some (.agg #[.string ⟨#[]⟩, .int .i64 0, .string ⟨#[]⟩, .string ⟨#[]⟩]) := by kernel_rfl
@[go_sem] theorem Tryz.afi45_0 : fieldInfo Tryz.prog 45 0 = some (0, 1, false) := by kernel_rfl
@[go_sem] theorem Tryz.afi45_1 : fieldInfo Tryz.prog 45 1 = some (1, 3, true) := by kernel_rfl
@[go_sem] theorem Tryz.abi45 : buildInfo Tryz.prog 45 = some ([(0, 1), (1, 3)], 0, [.string ⟨#[]⟩, .int .i64 0, .string ⟨#[]⟩, .string ⟨#[]⟩]) := by kernel_rfl
@[go_sem] theorem Tryz.aty46 : typeOf Tryz.prog 46 = some (1, false) := by kernel_rfl
@[go_sem] theorem Tryz.aze46 : zeroOf Tryz.prog 46 = some (.nilFunc) := by kernel_rfl
@[go_sem] theorem Tryz.aty47 : typeOf Tryz.prog 47 = some (1, false) := by kernel_rfl
@[go_sem] theorem Tryz.aze47 : zeroOf Tryz.prog 47 = some (.nilFunc) := by kernel_rfl
@[go_sem] theorem Tryz.aty48 : typeOf Tryz.prog 48 = some (1, false) := by kernel_rfl
@[go_sem] theorem Tryz.aze48 : zeroOf Tryz.prog 48 = some (.nilFunc) := by kernel_rfl
@[go_sem] theorem Tryz.aty49 : typeOf Tryz.prog 49 = some (1, false) := by kernel_rfl
@[go_sem] theorem Tryz.aze49 : zeroOf Tryz.prog 49 = some (.nilFunc) := by kernel_rfl
@[go_sem] theorem Tryz.aty50 : typeOf Tryz.prog 50 = some (1, false) := by kernel_rfl
@[go_sem] theorem Tryz.ais50 : isStringT Tryz.prog 50 = false := by kernel_rfl
@[go_sem] theorem Tryz.ase50 : sliceElem Tryz.prog 50 = some 9 := by kernel_rfl
@[go_sem] theorem Tryz.aze50 : zeroOf Tryz.prog 50 = some (.slice none 0 0) := by kernel_rfl
@[go_sem] theorem Tryz.aty51 : typeOf Tryz.prog 51 = some (1, false) := by kernel_rfl
@[go_sem] theorem Tryz.ais51 : isStringT Tryz.prog 51 = false := by kernel_rfl
@[go_sem] theorem Tryz.ase51 : sliceElem Tryz.prog 51 = some 3 := by kernel_rfl
@[go_sem] theorem Tryz.aze51 : zeroOf Tryz.prog 51 = some (.slice none 0 0) := by kernel_rfl
@[go_sem] theorem Tryz.aty52 : typeOf Tryz.prog 52 = some (1, false) := by kernel_rfl
@[go_sem] theorem Tryz.aze52 : zeroOf Tryz.prog 52 = some (.nilFunc) := by kernel_rfl
@[go_sem] theorem Tryz.aty53 : typeOf Tryz.prog 53 = some (1, false) := by kernel_rfl
@[go_sem] theorem Tryz.aze53 : zeroOf Tryz.prog 53 = some (.nilFunc) := by kernel_rfl
@[go_sem] theorem Tryz.aty54 : typeOf Tryz.prog 54 = some (1, false) := by kernel_rfl
@[go_sem] theorem Tryz.aze54 : zeroOf Tryz.prog 54 = some (.nilFunc) := by kernel_rfl
@[go_sem] theorem Tryz.aty55 : typeOf Tryz.prog 55 = some (1, false) := by kernel_rfl
@[go_sem] theorem Tryz.ais55 : isStringT Tryz.prog 55 = false := by kernel_rfl
@[go_sem] theorem Tryz.ase55 : sliceElem Tryz.prog 55 = some 58 := by kernel_rfl
@[go_sem] theorem Tryz.aze55 : zeroOf Tryz.prog 55 = some (.slice none 0 0) := by kernel_rfl
@[go_sem] theorem Tryz.aty56 : typeOf Tryz.prog 56 = some (1, false) := by kernel_rfl
@[go_sem] theorem Tryz.aze56 : zeroOf Tryz.prog 56 = some (.nilFunc) := by kernel_rfl
@[go_sem] theorem Tryz.aty57 : typeOf Tryz.prog 57 = some (2, true) := by kernel_rfl
@[go_sem] theorem Tryz.aze57 : zeroOf Tryz.prog 57 = some (.agg #[.int .i64 0, .string ⟨#[]⟩]) := by kernel_rfl
@[go_sem] theorem Tryz.afi57_0 : fieldInfo Tryz.prog 57 0 = some (0, 1, false) := by kernel_rfl
@[go_sem] theorem Tryz.afi57_1 : fieldInfo Tryz.prog 57 1 = some (1, 1, false) := by kernel_rfl
@[go_sem] theorem Tryz.abi57 : buildInfo Tryz.prog 57 = some ([(0, 1), (1, 1)], 0, [.int .i64 0, .string ⟨#[]⟩]) := by kernel_rfl
@[go_sem] theorem Tryz.aty58 : typeOf Tryz.prog 58 = some (2, true) := by kernel_rfl
@[go_sem] theorem Tryz.api58 : appInfo Tryz.prog 58 = some (2, 24) := by kernel_rfl
@[go_sem] theorem Tryz.aze58 : zeroOf Tryz.prog 58 = some (.agg #[.int .i64 0, .string ⟨#[]⟩]) := by kernel_rfl
@[go_sem] theorem Tryz.afi58_0 : fieldInfo Tryz.prog 58 0 = some (0, 1, false) := by kernel_rfl
@[go_sem] theorem Tryz.afi58_1 : fieldInfo Tryz.prog 58 1 = some (1, 1, false) := by kernel_rfl
@[go_sem] theorem Tryz.abi58 : buildInfo Tryz.prog 58 = some ([(0, 1), (1, 1)], 0, [.int .i64 0, .string ⟨#[]⟩]) := by kernel_rfl
@[go_sem] theorem Tryz.aty59 : typeOf Tryz.prog 59 = some (1, false) := by kernel_rfl
@[go_sem] theorem Tryz.aze59 : zeroOf Tryz.prog 59 = some (.nilFunc) := by kernel_rfl
@[go_sem] theorem Tryz.aty60 : typeOf Tryz.prog 60 = some (1, false) := by kernel_rfl
@[go_sem] theorem Tryz.aze60 : zeroOf Tryz.prog 60 = some (.nilFunc) := by kernel_rfl
@[go_sem] theorem Tryz.aty61 : typeOf Tryz.prog 61 = some (1, false) := by kernel_rfl
@[go_sem] theorem Tryz.aze61 : zeroOf Tryz.prog 61 = some (.nilFunc) := by kernel_rfl
@[go_sem] theorem Tryz.aty62 : typeOf Tryz.prog 62 = some (1, false) := by kernel_rfl
@[go_sem] theorem Tryz.aze62 : zeroOf Tryz.prog 62 = some (.nilFunc) := by kernel_rfl
@[go_sem] theorem Tryz.aty63 : typeOf Tryz.prog 63 = some (1, false) := by kernel_rfl
@[go_sem] theorem Tryz.aze63 : zeroOf Tryz.prog 63 = some (.pointer none) := by kernel_rfl
@[go_sem] theorem Tryz.aty64 : typeOf Tryz.prog 64 = some (4, true) := by kernel_rfl
@[go_sem] theorem Tryz.aze64 : zeroOf Tryz.prog 64 = some (.agg #[.slice none 0 0, .string ⟨#[]⟩, .slice none 0 0, .int .i64 0]) := by kernel_rfl
@[go_sem] theorem Tryz.afi64_0 : fieldInfo Tryz.prog 64 0 = some (0, 1, false) := by kernel_rfl
@[go_sem] theorem Tryz.afi64_1 : fieldInfo Tryz.prog 64 1 = some (1, 1, false) := by kernel_rfl
@[go_sem] theorem Tryz.afi64_2 : fieldInfo Tryz.prog 64 2 = some (2, 1, false) := by kernel_rfl
@[go_sem] theorem Tryz.afi64_3 : fieldInfo Tryz.prog 64 3 = some (3, 1, false) := by kernel_rfl
@[go_sem] theorem Tryz.abi64 : buildInfo Tryz.prog 64 = some ([(0, 1), (1, 1), (2, 1), (3, 1)], 0, [.slice none 0 0, .string ⟨#[]⟩, .slice none 0 0, .int .i64 0]) := by kernel_rfl
@[go_sem] theorem Tryz.aty65 : typeOf Tryz.prog 65 = some (4, true) := by kernel_rfl
@[go_sem] theorem Tryz.aze65 : zeroOf Tryz.prog 65 = some (.agg #[.slice none 0 0, .string ⟨#[]⟩, .slice none 0 0, .int .i64 0]) := by kernel_rfl
@[go_sem] theorem Tryz.afi65_0 : fieldInfo Tryz.prog 65 0 = some (0, 1, false) := by kernel_rfl
@[go_sem] theorem Tryz.afi65_1 : fieldInfo Tryz.prog 65 1 = some (1, 1, false) := by kernel_rfl
@[go_sem] theorem Tryz.afi65_2 : fieldInfo Tryz.prog 65 2 = some (2, 1, false) := by kernel_rfl
@[go_sem] theorem Tryz.afi65_3 : fieldInfo Tryz.prog 65 3 = some (3, 1, false) := by kernel_rfl
@[go_sem] theorem Tryz.abi65 : buildInfo Tryz.prog 65 = some ([(0, 1), (1, 1), (2, 1), (3, 1)], 0, [.slice none 0 0, .string ⟨#[]⟩, .slice none 0 0, .int .i64 0]) := by kernel_rfl
@[go_sem] theorem Tryz.aty66 : typeOf Tryz.prog 66 = some (1, false) := by kernel_rfl
@[go_sem] theorem Tryz.aze66 : zeroOf Tryz.prog 66 = some (.nilFunc) := by kernel_rfl
@[go_sem] theorem Tryz.aty70 : typeOf Tryz.prog 70 = some (1, false) := by kernel_rfl
@[go_sem] theorem Tryz.aze70 : zeroOf Tryz.prog 70 = some (.nilFunc) := by kernel_rfl
@[go_sem] theorem Tryz.aty71 : typeOf Tryz.prog 71 = some (1, false) := by kernel_rfl
@[go_sem] theorem Tryz.aze71 : zeroOf Tryz.prog 71 = some (.nilFunc) := by kernel_rfl
@[go_sem] theorem Tryz.aty72 : typeOf Tryz.prog 72 = some (1, false) := by kernel_rfl
@[go_sem] theorem Tryz.aze72 : zeroOf Tryz.prog 72 = some (.nilFunc) := by kernel_rfl
@[go_sem] theorem Tryz.aty73 : typeOf Tryz.prog 73 = some (1, false) := by kernel_rfl
@[go_sem] theorem Tryz.aze73 : zeroOf Tryz.prog 73 = some (.nilFunc) := by kernel_rfl
@[go_sem] theorem Tryz.aty74 : typeOf Tryz.prog 74 = some (1, false) := by kernel_rfl
@[go_sem] theorem Tryz.aze74 : zeroOf Tryz.prog 74 = some (.nilFunc) := by kernel_rfl
@[go_sem] theorem Tryz.aty76 : typeOf Tryz.prog 76 = some (1, false) := by kernel_rfl
@[go_sem] theorem Tryz.aze76 : zeroOf Tryz.prog 76 = some (.nilFunc) := by kernel_rfl
@[go_sem] theorem Tryz.aty78 : typeOf Tryz.prog 78 = some (1, false) := by kernel_rfl
@[go_sem] theorem Tryz.aze78 : zeroOf Tryz.prog 78 = some (.nilFunc) := by kernel_rfl
@[go_sem] theorem Tryz.aty80 : typeOf Tryz.prog 80 = some (1, false) := by kernel_rfl
@[go_sem] theorem Tryz.aze80 : zeroOf Tryz.prog 80 = some (.nilFunc) := by kernel_rfl
@[go_sem] theorem Tryz.aty81 : typeOf Tryz.prog 81 = some (1, false) := by kernel_rfl
@[go_sem] theorem Tryz.aze81 : zeroOf Tryz.prog 81 = some (.nilFunc) := by kernel_rfl
@[go_sem] theorem Tryz.aty82 : typeOf Tryz.prog 82 = some (1, false) := by kernel_rfl
@[go_sem] theorem Tryz.aze82 : zeroOf Tryz.prog 82 = some (.nilFunc) := by kernel_rfl
@[go_sem] theorem Tryz.aty83 : typeOf Tryz.prog 83 = some (1, false) := by kernel_rfl
@[go_sem] theorem Tryz.aze83 : zeroOf Tryz.prog 83 = some (.nilFunc) := by kernel_rfl
@[go_sem] theorem Tryz.aty84 : typeOf Tryz.prog 84 = some (1, false) := by kernel_rfl
@[go_sem] theorem Tryz.aze84 : zeroOf Tryz.prog 84 = some (.nilFunc) := by kernel_rfl
@[go_sem] theorem Tryz.aty85 : typeOf Tryz.prog 85 = some (1, false) := by kernel_rfl
@[go_sem] theorem Tryz.aze85 : zeroOf Tryz.prog 85 = some (.nilFunc) := by kernel_rfl
@[go_sem] theorem Tryz.aty86 : typeOf Tryz.prog 86 = some (1, false) := by kernel_rfl
@[go_sem] theorem Tryz.aze86 : zeroOf Tryz.prog 86 = some (.nilFunc) := by kernel_rfl
@[go_sem] theorem Tryz.aty87 : typeOf Tryz.prog 87 = some (1, false) := by kernel_rfl
@[go_sem] theorem Tryz.aze87 : zeroOf Tryz.prog 87 = some (.nilFunc) := by kernel_rfl
@[go_sem] theorem Tryz.aty88 : typeOf Tryz.prog 88 = some (1, false) := by kernel_rfl
@[go_sem] theorem Tryz.aze88 : zeroOf Tryz.prog 88 = some (.nilFunc) := by kernel_rfl
@[go_sem] theorem Tryz.aty89 : typeOf Tryz.prog 89 = some (1, false) := by kernel_rfl
@[go_sem] theorem Tryz.aze89 : zeroOf Tryz.prog 89 = some (.nilFunc) := by kernel_rfl
@[go_sem] theorem Tryz.aty91 : typeOf Tryz.prog 91 = some (1, false) := by kernel_rfl
@[go_sem] theorem Tryz.aze91 : zeroOf Tryz.prog 91 = some (.nilFunc) := by kernel_rfl
@[go_sem] theorem Tryz.aty92 : typeOf Tryz.prog 92 = some (1, false) := by kernel_rfl
@[go_sem] theorem Tryz.aze92 : zeroOf Tryz.prog 92 = some (.nilFunc) := by kernel_rfl
@[go_sem] theorem Tryz.aty93 : typeOf Tryz.prog 93 = some (1, false) := by kernel_rfl
@[go_sem] theorem Tryz.aze93 : zeroOf Tryz.prog 93 = some (.nilFunc) := by kernel_rfl
@[go_sem] theorem Tryz.aty94 : typeOf Tryz.prog 94 = some (1, false) := by kernel_rfl
@[go_sem] theorem Tryz.aze94 : zeroOf Tryz.prog 94 = some (.nilFunc) := by kernel_rfl
@[go_sem] theorem Tryz.aty95 : typeOf Tryz.prog 95 = some (1, false) := by kernel_rfl
@[go_sem] theorem Tryz.aze95 : zeroOf Tryz.prog 95 = some (.nilFunc) := by kernel_rfl
@[go_sem] theorem Tryz.aty96 : typeOf Tryz.prog 96 = some (1, false) := by kernel_rfl
@[go_sem] theorem Tryz.aze96 : zeroOf Tryz.prog 96 = some (.nilFunc) := by kernel_rfl
@[go_sem] theorem Tryz.aty97 : typeOf Tryz.prog 97 = some (1, false) := by kernel_rfl
@[go_sem] theorem Tryz.aze97 : zeroOf Tryz.prog 97 = some (.nilFunc) := by kernel_rfl
@[go_sem] theorem Tryz.aty99 : typeOf Tryz.prog 99 = some (1, false) := by kernel_rfl
@[go_sem] theorem Tryz.aze99 : zeroOf Tryz.prog 99 = some (.nilFunc) := by kernel_rfl
@[go_sem] theorem Tryz.aty100 : typeOf Tryz.prog 100 = some (1, false) := by kernel_rfl
@[go_sem] theorem Tryz.aze100 : zeroOf Tryz.prog 100 = some (.pointer none) := by kernel_rfl
@[go_sem] theorem Tryz.aty101 : typeOf Tryz.prog 101 = some (2, true) := by kernel_rfl
@[go_sem] theorem Tryz.aze101 : zeroOf Tryz.prog 101 = some (.agg #[.slice none 0 0, .slice none 0 0]) := by kernel_rfl
@[go_sem] theorem Tryz.afi101_0 : fieldInfo Tryz.prog 101 0 = some (0, 1, false) := by kernel_rfl
@[go_sem] theorem Tryz.afi101_1 : fieldInfo Tryz.prog 101 1 = some (1, 1, false) := by kernel_rfl
@[go_sem] theorem Tryz.abi101 : buildInfo Tryz.prog 101 = some ([(0, 1), (1, 1)], 0, [.slice none 0 0, .slice none 0 0]) := by kernel_rfl
@[go_sem] theorem Tryz.aty102 : typeOf Tryz.prog 102 = some (2, true) := by kernel_rfl
@[go_sem] theorem Tryz.aze102 : zeroOf Tryz.prog 102 = some (.agg #[.slice none 0 0, .slice none 0 0]) := by kernel_rfl
@[go_sem] theorem Tryz.afi102_0 : fieldInfo Tryz.prog 102 0 = some (0, 1, false) := by kernel_rfl
@[go_sem] theorem Tryz.afi102_1 : fieldInfo Tryz.prog 102 1 = some (1, 1, false) := by kernel_rfl
@[go_sem] theorem Tryz.abi102 : buildInfo Tryz.prog 102 = some ([(0, 1), (1, 1)], 0, [.slice none 0 0, .slice none 0 0]) := by kernel_rfl
@[go_sem] theorem Tryz.aty103 : typeOf Tryz.prog 103 = some (6, true) := by kernel_rfl
@[go_sem] theorem Tryz.aze103 : zeroOf Tryz.prog 103 = some (.agg #[.string ⟨#[]⟩, .string ⟨#[]⟩, .int .i64 0, .int .i64 0, .int .i64 0, .int .i64 0]) := by kernel_rfl
@[go_sem] theorem Tryz.afi103_0 : fieldInfo Tryz.prog 103 0 = some (0, 1, false) := by kernel_rfl
@[go_sem] theorem Tryz.afi103_1 : fieldInfo Tryz.prog 103 1 = some (1, 1, false) := by kernel_rfl
@[go_sem] theorem Tryz.afi103_2 : fieldInfo Tryz.prog 103 2 = some (2, 1, false) := by kernel_rfl
@[go_sem] theorem Tryz.afi103_3 : fieldInfo Tryz.prog 103 3 = some (3, 1, false) := by kernel_rfl
@[go_sem] theorem Tryz.afi103_4 : fieldInfo Tryz.prog 103 4 = some (4, 1, false) := by kernel_rfl
@[go_sem] theorem Tryz.afi103_5 : fieldInfo Tryz.prog 103 5 = some (5, 1, false) := by kernel_rfl
@[go_sem] theorem Tryz.abi103 : buildInfo Tryz.prog 103 = some ([(0, 1), (1, 1), (2, 1), (3, 1), (4, 1), (5, 1)], 0, [.string ⟨#[]⟩, .string ⟨#[]⟩, .int .i64 0, .int .i64 0, .int .i64 0, .int .i64 0]) := by kernel_rfl
@[go_sem] theorem Tryz.aty104 : typeOf Tryz.prog 104 = some (6, true) := by kernel_rfl
@[go_sem] theorem Tryz.aze104 : zeroOf Tryz.prog 104 = some (.agg #[.string ⟨#[]⟩, .string ⟨#[]⟩, .int .i64 0, .int .i64 0, .int .i64 0, .int .i64 0]) := by kernel_rfl
@[go_sem] theorem Tryz.afi104_0 : fieldInfo Tryz.prog 104 0 = some (0, 1, false) := by kernel_rfl
@[go_sem] theorem Tryz.afi104_1 : fieldInfo Tryz.prog 104 1 = some (1, 1, false) := by kernel_rfl
@[go_sem] theorem Tryz.afi104_2 : fieldInfo Tryz.prog 104 2 = some (2, 1, false) := by kernel_rfl
@[go_sem] theorem Tryz.afi104_3 : fieldInfo Tryz.prog 104 3 = some (3, 1, false) := by kernel_rfl
@[go_sem] theorem Tryz.afi104_4 : fieldInfo Tryz.prog 104 4 = some (4, 1, false) := by kernel_rfl
@[go_sem] theorem Tryz.afi104_5 : fieldInfo Tryz.prog 104 5 = some (5, 1, false) := by kernel_rfl
@[go_sem] theorem Tryz.abi104 : buildInfo Tryz.prog 104 = some ([(0, 1), (1, 1), (2, 1), (3, 1), (4, 1), (5, 1)], 0, [.string ⟨#[]⟩, .string ⟨#[]⟩, .int .i64 0, .int .i64 0, .int .i64 0, .int .i64 0]) := by kernel_rfl
@[go_sem] theorem Tryz.aty106 : typeOf Tryz.prog 106 = some (1, false) := by kernel_rfl
@[go_sem] theorem Tryz.aze106 : zeroOf Tryz.prog 106 = some (.nilFunc) := by kernel_rfl
@[go_sem] theorem Tryz.aty107 : typeOf Tryz.prog 107 = some (1, false) := by kernel_rfl
@[go_sem] theorem Tryz.aze107 : zeroOf Tryz.prog 107 = some (.nilFunc) := by kernel_rfl
@[go_sem] theorem Tryz.aty108 : typeOf Tryz.prog 108 = some (1, false) := by kernel_rfl
@[go_sem] theorem Tryz.aze108 : zeroOf Tryz.prog 108 = some (.nilFunc) := by kernel_rfl
@[go_sem] theorem Tryz.aty109 : typeOf Tryz.prog 109 = some (1, false) := by kernel_rfl
@[go_sem] theorem Tryz.aze109 : zeroOf Tryz.prog 109 = some (.nilFunc) := by kernel_rfl
@[go_sem] theorem Tryz.aty110 : typeOf Tryz.prog 110 = some (1, false) := by kernel_rfl
@[go_sem] theorem Tryz.aze110 : zeroOf Tryz.prog 110 = some (.nilFunc) := by kernel_rfl
@[go_sem] theorem Tryz.aty111 : typeOf Tryz.prog 111 = some (2, true) := by kernel_rfl
@[go_sem] theorem Tryz.aze111 : zeroOf Tryz.prog 111 = some (.agg #[.int .i64 0, .int .i64 0]) := by kernel_rfl
@[go_sem] theorem Tryz.afi111_0 : fieldInfo Tryz.prog 111 0 = some (0, 1, false) := by kernel_rfl
@[go_sem] theorem Tryz.afi111_1 : fieldInfo Tryz.prog 111 1 = some (1, 1, false) := by kernel_rfl
@[go_sem] theorem Tryz.abi111 : buildInfo Tryz.prog 111 = some ([(0, 1), (1, 1)], 0, [.int .i64 0, .int .i64 0]) := by kernel_rfl
@[go_sem] theorem Tryz.aty112 : typeOf Tryz.prog 112 = some (2, true) := by kernel_rfl
@[go_sem] theorem Tryz.aze112 : zeroOf Tryz.prog 112 = some (.agg #[.int .i64 0, .int .i64 0]) := by kernel_rfl
@[go_sem] theorem Tryz.afi112_0 : fieldInfo Tryz.prog 112 0 = some (0, 1, false) := by kernel_rfl
@[go_sem] theorem Tryz.afi112_1 : fieldInfo Tryz.prog 112 1 = some (1, 1, false) := by kernel_rfl
@[go_sem] theorem Tryz.abi112 : buildInfo Tryz.prog 112 = some ([(0, 1), (1, 1)], 0, [.int .i64 0, .int .i64 0]) := by kernel_rfl
@[go_sem] theorem Tryz.aty114 : typeOf Tryz.prog 114 = some (1, false) := by kernel_rfl
@[go_sem] theorem Tryz.aze114 : zeroOf Tryz.prog 114 = some (.nilFunc) := by kernel_rfl
@[go_sem] theorem Tryz.aty115 : typeOf Tryz.prog 115 = some (1, false) := by kernel_rfl
@[go_sem] theorem Tryz.aze115 : zeroOf Tryz.prog 115 = some (.nilFunc) := by kernel_rfl
@[go_sem] theorem Tryz.aty116 : typeOf Tryz.prog 116 = some (1, false) := by kernel_rfl
@[go_sem] theorem Tryz.aze116 : zeroOf Tryz.prog 116 = some (.nilFunc) := by kernel_rfl
@[go_sem] theorem Tryz.aty117 : typeOf Tryz.prog 117 = some (1, false) := by kernel_rfl
@[go_sem] theorem Tryz.aze117 : zeroOf Tryz.prog 117 = some (.nilFunc) := by kernel_rfl
@[go_sem] theorem Tryz.aty118 : typeOf Tryz.prog 118 = some (1, false) := by kernel_rfl
@[go_sem] theorem Tryz.ais118 : isStringT Tryz.prog 118 = false := by kernel_rfl
@[go_sem] theorem Tryz.ase118 : sliceElem Tryz.prog 118 = some 121 := by kernel_rfl
@[go_sem] theorem Tryz.aze118 : zeroOf Tryz.prog 118 = some (.slice none 0 0) := by kernel_rfl
@[go_sem] theorem Tryz.aty119 : typeOf Tryz.prog 119 = some (1, false) := by kernel_rfl
@[go_sem] theorem Tryz.aze119 : zeroOf Tryz.prog 119 = some (.nilFunc) := by kernel_rfl
@[go_sem] theorem Tryz.aty120 : typeOf Tryz.prog 120 = some (3, true) := by kernel_rfl
@[go_sem] theorem Tryz.aze120 : zeroOf Tryz.prog 120 = some (.agg #[.int .i64 0, .string ⟨#[]⟩, .string ⟨#[]⟩]) := by kernel_rfl
@[go_sem] theorem Tryz.afi120_0 : fieldInfo Tryz.prog 120 0 = some (0, 1, false) := by kernel_rfl
@[go_sem] theorem Tryz.afi120_1 : fieldInfo Tryz.prog 120 1 = some (1, 1, false) := by kernel_rfl
@[go_sem] theorem Tryz.afi120_2 : fieldInfo Tryz.prog 120 2 = some (2, 1, false) := by kernel_rfl
@[go_sem] theorem Tryz.abi120 : buildInfo Tryz.prog 120 = some ([(0, 1), (1, 1), (2, 1)], 0, [.int .i64 0, .string ⟨#[]⟩, .string ⟨#[]⟩]) := by kernel_rfl
@[go_sem] theorem Tryz.aty121 : typeOf Tryz.prog 121 = some (3, true) := by kernel_rfl
@[go_sem] theorem Tryz.api121 : appInfo Tryz.prog 121 = some (3, 40) := by kernel_rfl
@[go_sem] theorem Tryz.aze121 : zeroOf Tryz.prog 121 = some (.agg #[.int .i64 0, .string ⟨#[]⟩, .string ⟨#[]⟩]) := by kernel_rfl
@[go_sem] theorem Tryz.afi121_0 : fieldInfo Tryz.prog 121 0 = some (0, 1, false) := by kernel_rfl
@[go_sem] theorem Tryz.afi121_1 : fieldInfo Tryz.prog 121 1 = some (1, 1, false) := by kernel_rfl
@[go_sem] theorem Tryz.afi121_2 : fieldInfo Tryz.prog 121 2 = some (2, 1, false) := by kernel_rfl
@[go_sem] theorem Tryz.abi121 : buildInfo Tryz.prog 121 = some ([(0, 1), (1, 1), (2, 1)], 0, [.int .i64 0, .string ⟨#[]⟩, .string ⟨#[]⟩]) := by kernel_rfl
@[go_sem] theorem Tryz.aty123 : typeOf Tryz.prog 123 = some (1, false) := by kernel_rfl
@[go_sem] theorem Tryz.aze123 : zeroOf Tryz.prog 123 = some (.nilFunc) := by kernel_rfl
@[go_sem] theorem Tryz.aty125 : typeOf Tryz.prog 125 = some (1, false) := by kernel_rfl
@[go_sem] theorem Tryz.ais125 : isStringT Tryz.prog 125 = false := by kernel_rfl
@[go_sem] theorem Tryz.ase125 : sliceElem Tryz.prog 125 = some 129 := by kernel_rfl
@[go_sem] theorem Tryz.aze125 : zeroOf Tryz.prog 125 = some (.slice none 0 0) := by kernel_rfl
@[go_sem] theorem Tryz.aty126 : typeOf Tryz.prog 126 = some (1, false) := by kernel_rfl
@[go_sem] theorem Tryz.aze126 : zeroOf Tryz.prog 126 = some (.map none) := by kernel_rfl
@[go_sem] theorem Tryz.aty128 : typeOf Tryz.prog 128 = some (1, false) := by kernel_rfl
@[go_sem] theorem Tryz.aze128 : zeroOf Tryz.prog 128 = some (.nilFunc) := by kernel_rfl
@[go_sem] theorem Tryz.aty129 : typeOf Tryz.prog 129 = some (1, false) := by kernel_rfl
@[go_sem] theorem Tryz.api129 : appInfo Tryz.prog 129 = some (1, 8) := by kernel_rfl
@[go_sem] theorem Tryz.aze129 : zeroOf Tryz.prog 129 = some (.pointer none) := by kernel_rfl
@[go_sem] theorem Tryz.aty130 : typeOf Tryz.prog 130 = some (4, true) := by kernel_rfl
@[go_sem] theorem Tryz.aze130 : zeroOf Tryz.prog 130 = some (.agg #[.string ⟨#[]⟩, .int .i64 0, .int .i64 0, .int .i64 0]) := by kernel_rfl
@[go_sem] theorem Tryz.afi130_0 : fieldInfo Tryz.prog 130 0 = some (0, 1, false) := by kernel_rfl
@[go_sem] theorem Tryz.afi130_1 : fieldInfo Tryz.prog 130 1 = some (1, 1, false) := by kernel_rfl
@[go_sem] theorem Tryz.afi130_2 : fieldInfo Tryz.prog 130 2 = some (2, 1, false) := by kernel_rfl
@[go_sem] theorem Tryz.afi130_3 : fieldInfo Tryz.prog 130 3 = some (3, 1, false) := by kernel_rfl
@[go_sem] theorem Tryz.abi130 : buildInfo Tryz.prog 130 = some ([(0, 1), (1, 1), (2, 1), (3, 1)], 0, [.string ⟨#[]⟩, .int .i64 0, .int .i64 0, .int .i64 0]) := by kernel_rfl
@[go_sem] theorem Tryz.aty131 : typeOf Tryz.prog 131 = some (4, true) := by kernel_rfl
@[go_sem] theorem Tryz.aze131 : zeroOf Tryz.prog 131 = some (.agg #[.string ⟨#[]⟩, .int .i64 0, .int .i64 0, .int .i64 0]) := by kernel_rfl
@[go_sem] theorem Tryz.afi131_0 : fieldInfo Tryz.prog 131 0 = some (0, 1, false) := by kernel_rfl
@[go_sem] theorem Tryz.afi131_1 : fieldInfo Tryz.prog 131 1 = some (1, 1, false) := by kernel_rfl
@[go_sem] theorem Tryz.afi131_2 : fieldInfo Tryz.prog 131 2 = some (2, 1, false) := by kernel_rfl
@[go_sem] theorem Tryz.afi131_3 : fieldInfo Tryz.prog 131 3 = some (3, 1, false) := by kernel_rfl
@[go_sem] theorem Tryz.abi131 : buildInfo Tryz.prog 131 = some ([(0, 1), (1, 1), (2, 1), (3, 1)], 0, [.string ⟨#[]⟩, .int .i64 0, .int .i64 0, .int .i64 0]) := by kernel_rfl
@[go_sem] theorem Tryz.aty132 : typeOf Tryz.prog 132 = some (1, false) := by kernel_rfl
@[go_sem] theorem Tryz.ais132 : isStringT Tryz.prog 132 = false := by kernel_rfl
@[go_sem] theorem Tryz.ase132 : sliceElem Tryz.prog 132 = some 129 := by kernel_rfl
@[go_sem] theorem Tryz.aze132 : zeroOf Tryz.prog 132 = some (.slice none 0 0) := by kernel_rfl
@[go_sem] theorem Tryz.aty133 : typeOf Tryz.prog 133 = some (1, false) := by kernel_rfl
@[go_sem] theorem Tryz.aze133 : zeroOf Tryz.prog 133 = some (.nilFunc) := by kernel_rfl
@[go_sem] theorem Tryz.aty134 : typeOf Tryz.prog 134 = some (1, false) := by kernel_rfl
@[go_sem] theorem Tryz.aze134 : zeroOf Tryz.prog 134 = some (.pointer none) := by kernel_rfl
@[go_sem] theorem Tryz.aty139 : typeOf Tryz.prog 139 = some (1, false) := by kernel_rfl
@[go_sem] theorem Tryz.aze139 : zeroOf Tryz.prog 139 = some (.int .u64 0) := by kernel_rfl
@[go_sem] theorem Tryz.aty142 : typeOf Tryz.prog 142 = some (1, false) := by kernel_rfl
@[go_sem] theorem Tryz.aze142 : zeroOf Tryz.prog 142 = some (.nilFunc) := by kernel_rfl
@[go_sem] theorem Tryz.aty144 : typeOf Tryz.prog 144 = some (1, false) := by kernel_rfl
@[go_sem] theorem Tryz.aze144 : zeroOf Tryz.prog 144 = some (.nilFunc) := by kernel_rfl
@[go_sem] theorem Tryz.aty145 : typeOf Tryz.prog 145 = some (1, false) := by kernel_rfl
@[go_sem] theorem Tryz.aze145 : zeroOf Tryz.prog 145 = some (.nilFunc) := by kernel_rfl
@[go_sem] theorem Tryz.aty146 : typeOf Tryz.prog 146 = some (1, false) := by kernel_rfl
@[go_sem] theorem Tryz.aze146 : zeroOf Tryz.prog 146 = some (.nilIface) := by kernel_rfl
@[go_sem] theorem Tryz.aty147 : typeOf Tryz.prog 147 = some (1, false) := by kernel_rfl
@[go_sem] theorem Tryz.aze147 : zeroOf Tryz.prog 147 = some (.nilIface) := by kernel_rfl
@[go_sem] theorem Tryz.aty149 : typeOf Tryz.prog 149 = some (1, false) := by kernel_rfl
@[go_sem] theorem Tryz.aze149 : zeroOf Tryz.prog 149 = some (.nilFunc) := by kernel_rfl
@[go_sem] theorem Tryz.aty150 : typeOf Tryz.prog 150 = some (1, false) := by kernel_rfl
@[go_sem] theorem Tryz.aze150 : zeroOf Tryz.prog 150 = some (.nilFunc) := by kernel_rfl
@[go_sem] theorem Tryz.aty152 : typeOf Tryz.prog 152 = some (1, false) := by kernel_rfl
@[go_sem] theorem Tryz.aze152 : zeroOf Tryz.prog 152 = some (.nilFunc) := by kernel_rfl
@[go_sem] theorem Tryz.aty153 : typeOf Tryz.prog 153 = some (8, true) := by kernel_rfl
@[go_sem] theorem Tryz.aze153 : zeroOf Tryz.prog 153 = some (.agg #[.int .i64 0, .int .i64 0, .int .i64 0, .int .i64 0, .int .i64 0, .bool false, .bool false, .bool false]) := by kernel_rfl
@[go_sem] theorem Tryz.afi153_0 : fieldInfo Tryz.prog 153 0 = some (0, 1, false) := by kernel_rfl
@[go_sem] theorem Tryz.afi153_1 : fieldInfo Tryz.prog 153 1 = some (1, 1, false) := by kernel_rfl
@[go_sem] theorem Tryz.afi153_2 : fieldInfo Tryz.prog 153 2 = some (2, 1, false) := by kernel_rfl
@[go_sem] theorem Tryz.afi153_3 : fieldInfo Tryz.prog 153 3 = some (3, 1, false) := by kernel_rfl
@[go_sem] theorem Tryz.afi153_4 : fieldInfo Tryz.prog 153 4 = some (4, 1, false) := by kernel_rfl
@[go_sem] theorem Tryz.afi153_5 : fieldInfo Tryz.prog 153 5 = some (5, 1, false) := by kernel_rfl
@[go_sem] theorem Tryz.afi153_6 : fieldInfo Tryz.prog 153 6 = some (6, 1, false) := by kernel_rfl
@[go_sem] theorem Tryz.afi153_7 : fieldInfo Tryz.prog 153 7 = some (7, 1, false) := by kernel_rfl
@[go_sem] theorem Tryz.abi153 : buildInfo Tryz.prog 153 = some ([(0, 1), (1, 1), (2, 1), (3, 1), (4, 1), (5, 1), (6, 1), (7, 1)], 0, [.int .i64 0, .int .i64 0, .int .i64 0, .int .i64 0, .int .i64 0, .bool false, .bool false, .bool false]) := by kernel_rfl
@[go_sem] theorem Tryz.aty154 : typeOf Tryz.prog 154 = some (8, true) := by kernel_rfl
@[go_sem] theorem Tryz.aze154 : zeroOf Tryz.prog 154 = some (.agg #[.int .i64 0, .int .i64 0, .int .i64 0, .int .i64 0, .int .i64 0, .bool false, .bool false, .bool false]) := by kernel_rfl
@[go_sem] theorem Tryz.afi154_0 : fieldInfo Tryz.prog 154 0 = some (0, 1, false) := by kernel_rfl
@[go_sem] theorem Tryz.afi154_1 : fieldInfo Tryz.prog 154 1 = some (1, 1, false) := by kernel_rfl
@[go_sem] theorem Tryz.afi154_2 : fieldInfo Tryz.prog 154 2 = some (2, 1, false) := by kernel_rfl
@[go_sem] theorem Tryz.afi154_3 : fieldInfo Tryz.prog 154 3 = some (3, 1, false) := by kernel_rfl
@[go_sem] theorem Tryz.afi154_4 : fieldInfo Tryz.prog 154 4 = some (4, 1, false) := by kernel_rfl
@[go_sem] theorem Tryz.afi154_5 : fieldInfo Tryz.prog 154 5 = some (5, 1, false) := by kernel_rfl
@[go_sem] theorem Tryz.afi154_6 : fieldInfo Tryz.prog 154 6 = some (6, 1, false) := by kernel_rfl
@[go_sem] theorem Tryz.afi154_7 : fieldInfo Tryz.prog 154 7 = some (7, 1, false) := by kernel_rfl
@[go_sem] theorem Tryz.abi154 : buildInfo Tryz.prog 154 = some ([(0, 1), (1, 1), (2, 1), (3, 1), (4, 1), (5, 1), (6, 1), (7, 1)], 0, [.int .i64 0, .int .i64 0, .int .i64 0, .int .i64 0, .int .i64 0, .bool false, .bool false, .bool false]) := by kernel_rfl
@[go_sem] theorem Tryz.aty155 : typeOf Tryz.prog 155 = some (1, false) := by kernel_rfl
@[go_sem] theorem Tryz.aze155 : zeroOf Tryz.prog 155 = some (.nilFunc) := by kernel_rfl
@[go_sem] theorem Tryz.aty156 : typeOf Tryz.prog 156 = some (1, false) := by kernel_rfl
@[go_sem] theorem Tryz.aze156 : zeroOf Tryz.prog 156 = some (.nilFunc) := by kernel_rfl
@[go_sem] theorem Tryz.aty157 : typeOf Tryz.prog 157 = some (1, false) := by kernel_rfl
@[go_sem] theorem Tryz.aze157 : zeroOf Tryz.prog 157 = some (.nilFunc) := by kernel_rfl
@[go_sem] theorem Tryz.aty158 : typeOf Tryz.prog 158 = some (1, false) := by kernel_rfl
@[go_sem] theorem Tryz.aze158 : zeroOf Tryz.prog 158 = some (.nilFunc) := by kernel_rfl
@[go_sem] theorem Tryz.aty159 : typeOf Tryz.prog 159 = some (1, false) := by kernel_rfl
@[go_sem] theorem Tryz.aze159 : zeroOf Tryz.prog 159 = some (.nilFunc) := by kernel_rfl
@[go_sem] theorem Tryz.aty161 : typeOf Tryz.prog 161 = some (1, false) := by kernel_rfl
@[go_sem] theorem Tryz.aze161 : zeroOf Tryz.prog 161 = some (.nilFunc) := by kernel_rfl
@[go_sem] theorem Tryz.aty163 : typeOf Tryz.prog 163 = some (1, false) := by kernel_rfl
@[go_sem] theorem Tryz.aze163 : zeroOf Tryz.prog 163 = some (.nilFunc) := by kernel_rfl
@[go_sem] theorem Tryz.aty164 : typeOf Tryz.prog 164 = some (3, true) := by kernel_rfl
@[go_sem] theorem Tryz.ais164 : isStringT Tryz.prog 164 = false := by kernel_rfl
@[go_sem] theorem Tryz.aal164 : arrayLen Tryz.prog 164 = some (3, 9) := by kernel_rfl
@[go_sem] theorem Tryz.aze164 : zeroOf Tryz.prog 164 = some (.agg #[.string ⟨#[]⟩, .string ⟨#[]⟩, .string ⟨#[]⟩]) := by kernel_rfl
@[go_sem] theorem Tryz.abi164 : buildInfo Tryz.prog 164 = some ([], 1, [.string ⟨#[]⟩, .string ⟨#[]⟩, .string ⟨#[]⟩]) := by kernel_rfl
@[go_sem] theorem Tryz.aty165 : typeOf Tryz.prog 165 = some (1, false) := by kernel_rfl
@[go_sem] theorem Tryz.aze165 : zeroOf Tryz.prog 165 = some (.nilFunc) := by kernel_rfl
@[go_sem] theorem Tryz.aty166 : typeOf Tryz.prog 166 = some (1, false) := by kernel_rfl
@[go_sem] theorem Tryz.aze166 : zeroOf Tryz.prog 166 = some (.nilFunc) := by kernel_rfl
@[go_sem] theorem Tryz.aty167 : typeOf Tryz.prog 167 = some (1, false) := by kernel_rfl
@[go_sem] theorem Tryz.aze167 : zeroOf Tryz.prog 167 = some (.nilFunc) := by kernel_rfl
@[go_sem] theorem Tryz.aty168 : typeOf Tryz.prog 168 = some (1, false) := by kernel_rfl
@[go_sem] theorem Tryz.aze168 : zeroOf Tryz.prog 168 = some (.nilFunc) := by kernel_rfl
@[go_sem] theorem Tryz.aty169 : typeOf Tryz.prog 169 = some (1, false) := by kernel_rfl
@[go_sem] theorem Tryz.aze169 : zeroOf Tryz.prog 169 = some (.nilFunc) := by kernel_rfl
@[go_sem] theorem Tryz.aty170 : typeOf Tryz.prog 170 = some (1, false) := by kernel_rfl
@[go_sem] theorem Tryz.aze170 : zeroOf Tryz.prog 170 = some (.nilIface) := by kernel_rfl
@[go_sem] theorem Tryz.aty171 : typeOf Tryz.prog 171 = some (1, false) := by kernel_rfl
@[go_sem] theorem Tryz.aze171 : zeroOf Tryz.prog 171 = some (.nilIface) := by kernel_rfl
@[go_sem] theorem Tryz.aty172 : typeOf Tryz.prog 172 = some (1, false) := by kernel_rfl
@[go_sem] theorem Tryz.aze172 : zeroOf Tryz.prog 172 = some (.nilFunc) := by kernel_rfl
@[go_sem] theorem Tryz.aty173 : typeOf Tryz.prog 173 = some (1, false) := by kernel_rfl
@[go_sem] theorem Tryz.aze173 : zeroOf Tryz.prog 173 = some (.nilFunc) := by kernel_rfl
@[go_sem] theorem Tryz.aty174 : typeOf Tryz.prog 174 = some (1, false) := by kernel_rfl
@[go_sem] theorem Tryz.aze174 : zeroOf Tryz.prog 174 = some (.nilFunc) := by kernel_rfl
@[go_sem] theorem Tryz.aty176 : typeOf Tryz.prog 176 = some (1, false) := by kernel_rfl
@[go_sem] theorem Tryz.aze176 : zeroOf Tryz.prog 176 = some (.nilFunc) := by kernel_rfl
@[go_sem] theorem Tryz.aty178 : typeOf Tryz.prog 178 = some (1, false) := by kernel_rfl
@[go_sem] theorem Tryz.aze178 : zeroOf Tryz.prog 178 = some (.int .i64 0) := by kernel_rfl
@[go_sem] theorem Tryz.aty180 : typeOf Tryz.prog 180 = some (1, false) := by kernel_rfl
@[go_sem] theorem Tryz.aze180 : zeroOf Tryz.prog 180 = some (.nilFunc) := by kernel_rfl
@[go_sem] theorem Tryz.aty185 : typeOf Tryz.prog 185 = some (1, false) := by kernel_rfl
@[go_sem] theorem Tryz.aze185 : zeroOf Tryz.prog 185 = some (.int .u32 0) := by kernel_rfl
@[go_sem] theorem Tryz.aty186 : typeOf Tryz.prog 186 = some (1, false) := by kernel_rfl
@[go_sem] theorem Tryz.aze186 : zeroOf Tryz.prog 186 = some (.nilFunc) := by kernel_rfl
@[go_sem] theorem Tryz.aty187 : typeOf Tryz.prog 187 = some (1, false) := by kernel_rfl
@[go_sem] theorem Tryz.aze187 : zeroOf Tryz.prog 187 = some (.int .u64 0) := by kernel_rfl
@[go_sem] theorem Tryz.aty188 : typeOf Tryz.prog 188 = some (1, false) := by kernel_rfl
@[go_sem] theorem Tryz.ais188 : isStringT Tryz.prog 188 = false := by kernel_rfl
@[go_sem] theorem Tryz.ase188 : sliceElem Tryz.prog 188 = some 22 := by kernel_rfl
@[go_sem] theorem Tryz.aze188 : zeroOf Tryz.prog 188 = some (.slice none 0 0) := by kernel_rfl
@[go_sem] theorem Tryz.aty190 : typeOf Tryz.prog 190 = some (1, false) := by kernel_rfl
@[go_sem] theorem Tryz.aze190 : zeroOf Tryz.prog 190 = some (.nilFunc) := by kernel_rfl
@[go_sem] theorem Tryz.aty191 : typeOf Tryz.prog 191 = some (1, false) := by kernel_rfl
@[go_sem] theorem Tryz.aze191 : zeroOf Tryz.prog 191 = some (.nilFunc) := by kernel_rfl
@[go_sem] theorem Tryz.aty192 : typeOf Tryz.prog 192 = some (1, false) := by kernel_rfl
@[go_sem] theorem Tryz.aze192 : zeroOf Tryz.prog 192 = some (.nilFunc) := by kernel_rfl
@[go_sem] theorem Tryz.aty193 : typeOf Tryz.prog 193 = some (1, false) := by kernel_rfl
@[go_sem] theorem Tryz.aze193 : zeroOf Tryz.prog 193 = some (.nilFunc) := by kernel_rfl
@[go_sem] theorem Tryz.aty194 : typeOf Tryz.prog 194 = some (1, false) := by kernel_rfl
@[go_sem] theorem Tryz.aze194 : zeroOf Tryz.prog 194 = some (.nilFunc) := by kernel_rfl
@[go_sem] theorem Tryz.aty195 : typeOf Tryz.prog 195 = some (1, false) := by kernel_rfl
@[go_sem] theorem Tryz.aze195 : zeroOf Tryz.prog 195 = some (.nilFunc) := by kernel_rfl
@[go_sem] theorem Tryz.aty196 : typeOf Tryz.prog 196 = some (1, false) := by kernel_rfl
@[go_sem] theorem Tryz.aze196 : zeroOf Tryz.prog 196 = some (.nilFunc) := by kernel_rfl
@[go_sem] theorem Tryz.aty197 : typeOf Tryz.prog 197 = some (1, false) := by kernel_rfl
@[go_sem] theorem Tryz.aze197 : zeroOf Tryz.prog 197 = some (.map none) := by kernel_rfl
@[go_sem] theorem Tryz.aty198 : typeOf Tryz.prog 198 = some (1, false) := by kernel_rfl
@[go_sem] theorem Tryz.aze198 : zeroOf Tryz.prog 198 = some (.nilFunc) := by kernel_rfl
@[go_sem] theorem Tryz.aty199 : typeOf Tryz.prog 199 = some (1, false) := by kernel_rfl
@[go_sem] theorem Tryz.aze199 : zeroOf Tryz.prog 199 = some (.nilFunc) := by kernel_rfl
@[go_sem] theorem Tryz.aty200 : typeOf Tryz.prog 200 = some (1, false) := by kernel_rfl
@[go_sem] theorem Tryz.aze200 : zeroOf Tryz.prog 200 = some (.nilFunc) := by kernel_rfl
@[go_sem] theorem Tryz.aty201 : typeOf Tryz.prog 201 = some (1, false) := by kernel_rfl
@[go_sem] theorem Tryz.aze201 : zeroOf Tryz.prog 201 = some (.nilFunc) := by kernel_rfl
@[go_sem] theorem Tryz.aty202 : typeOf Tryz.prog 202 = some (4, true) := by kernel_rfl
@[go_sem] theorem Tryz.aze202 : zeroOf Tryz.prog 202 = some (.agg #[.string ⟨#[]⟩, .string ⟨#[]⟩, .string ⟨#[]⟩, .bool false]) := by kernel_rfl
@[go_sem] theorem Tryz.afi202_0 : fieldInfo Tryz.prog 202 0 = some (0, 1, false) := by kernel_rfl
@[go_sem] theorem Tryz.afi202_1 : fieldInfo Tryz.prog 202 1 = some (1, 1, false) := by kernel_rfl
@[go_sem] theorem Tryz.afi202_2 : fieldInfo Tryz.prog 202 2 = some (2, 1, false) := by kernel_rfl
@[go_sem] theorem Tryz.afi202_3 : fieldInfo Tryz.prog 202 3 = some (3, 1, false) := by kernel_rfl
@[go_sem] theorem Tryz.abi202 : buildInfo Tryz.prog 202 = some ([(0, 1), (1, 1), (2, 1), (3, 1)], 0, [.string ⟨#[]⟩, .string ⟨#[]⟩, .string ⟨#[]⟩, .bool false]) := by kernel_rfl
@[go_sem] theorem Tryz.aty203 : typeOf Tryz.prog 203 = some (1, false) := by kernel_rfl
@[go_sem] theorem Tryz.aze203 : zeroOf Tryz.prog 203 = some (.nilFunc) := by kernel_rfl
@[go_sem] theorem Tryz.aty206 : typeOf Tryz.prog 206 = some (1, false) := by kernel_rfl
@[go_sem] theorem Tryz.aze206 : zeroOf Tryz.prog 206 = some (.pointer none) := by kernel_rfl
@[go_sem] theorem Tryz.aty207 : typeOf Tryz.prog 207 = some (1, false) := by kernel_rfl
@[go_sem] theorem Tryz.ais207 : isStringT Tryz.prog 207 = false := by kernel_rfl
@[go_sem] theorem Tryz.ase207 : sliceElem Tryz.prog 207 = some 5 := by kernel_rfl
@[go_sem] theorem Tryz.aze207 : zeroOf Tryz.prog 207 = some (.slice none 0 0) := by kernel_rfl
@[go_sem] theorem Tryz.aty208 : typeOf Tryz.prog 208 = some (2, true) := by kernel_rfl
@[go_sem] theorem Tryz.aze208 : zeroOf Tryz.prog 208 = some (.agg #[.pointer none, .slice none 0 0]) := by kernel_rfl
@[go_sem] theorem Tryz.afi208_0 : fieldInfo Tryz.prog 208 0 = some (0, 1, false) := by kernel_rfl
@[go_sem] theorem Tryz.afi208_1 : fieldInfo Tryz.prog 208 1 = some (1, 1, false) := by kernel_rfl
@[go_sem] theorem Tryz.abi208 : buildInfo Tryz.prog 208 = some ([(0, 1), (1, 1)], 0, [.pointer none, .slice none 0 0]) := by kernel_rfl
@[go_sem] theorem Tryz.aty209 : typeOf Tryz.prog 209 = some (2, true) := by kernel_rfl
@[go_sem] theorem Tryz.aze209 : zeroOf Tryz.prog 209 = some (.agg #[.pointer none, .slice none 0 0]) := by kernel_rfl
@[go_sem] theorem Tryz.afi209_0 : fieldInfo Tryz.prog 209 0 = some (0, 1, false) := by kernel_rfl
@[go_sem] theorem Tryz.afi209_1 : fieldInfo Tryz.prog 209 1 = some (1, 1, false) := by kernel_rfl
@[go_sem] theorem Tryz.abi209 : buildInfo Tryz.prog 209 = some ([(0, 1), (1, 1)], 0, [.pointer none, .slice none 0 0]) := by kernel_rfl
@[go_sem] theorem Tryz.aty213 : typeOf Tryz.prog 213 = some (1, false) := by kernel_rfl
@[go_sem] theorem Tryz.aze213 : zeroOf Tryz.prog 213 = some (.int .u64 0) := by kernel_rfl
@[go_sem] theorem Tryz.aty214 : typeOf Tryz.prog 214 = some (1, false) := by kernel_rfl
@[go_sem] theorem Tryz.aze214 : zeroOf Tryz.prog 214 = some (.nilFunc) := by kernel_rfl
@[go_sem] theorem Tryz.aty215 : typeOf Tryz.prog 215 = some (1, false) := by kernel_rfl
@[go_sem] theorem Tryz.aze215 : zeroOf Tryz.prog 215 = some (.nilFunc) := by kernel_rfl
@[go_sem] theorem Tryz.aty216 : typeOf Tryz.prog 216 = some (1, false) := by kernel_rfl
@[go_sem] theorem Tryz.aze216 : zeroOf Tryz.prog 216 = some (.nilFunc) := by kernel_rfl
@[go_sem] theorem Tryz.aty217 : typeOf Tryz.prog 217 = some (1, false) := by kernel_rfl
@[go_sem] theorem Tryz.aze217 : zeroOf Tryz.prog 217 = some (.pointer none) := by kernel_rfl
@[go_sem] theorem Tryz.aty219 : typeOf Tryz.prog 219 = some (1, false) := by kernel_rfl
@[go_sem] theorem Tryz.aze219 : zeroOf Tryz.prog 219 = some (.nilFunc) := by kernel_rfl
@[go_sem] theorem Tryz.aty221 : typeOf Tryz.prog 221 = some (3, true) := by kernel_rfl
@[go_sem] theorem Tryz.aze221 : zeroOf Tryz.prog 221 = some (.agg #[.int .i64 0, .string ⟨#[]⟩, .string ⟨#[]⟩]) := by kernel_rfl
@[go_sem] theorem Tryz.afi221_0 : fieldInfo Tryz.prog 221 0 = some (0, 1, false) := by kernel_rfl
@[go_sem] theorem Tryz.afi221_1 : fieldInfo Tryz.prog 221 1 = some (1, 1, false) := by kernel_rfl
@[go_sem] theorem Tryz.afi221_2 : fieldInfo Tryz.prog 221 2 = some (2, 1, false) := by kernel_rfl
@[go_sem] theorem Tryz.abi221 : buildInfo Tryz.prog 221 = some ([(0, 1), (1, 1), (2, 1)], 0, [.int .i64 0, .string ⟨#[]⟩, .string ⟨#[]⟩]) := by kernel_rfl
@[go_sem] theorem Tryz.aty222 : typeOf Tryz.prog 222 = some (1, false) := by kernel_rfl
@[go_sem] theorem Tryz.aze222 : zeroOf Tryz.prog 222 = some (.nilFunc) := by kernel_rfl
@[go_sem] theorem Tryz.aty223 : typeOf Tryz.prog 223 = some (1, false) := by kernel_rfl
@[go_sem] theorem Tryz.aze223 : zeroOf Tryz.prog 223 = some (.nilFunc) := by kernel_rfl
@[go_sem] theorem Tryz.aty224 : typeOf Tryz.prog 224 = some (1, false) := by kernel_rfl
@[go_sem] theorem Tryz.aze224 : zeroOf Tryz.prog 224 = some (.nilFunc) := by kernel_rfl
@[go_sem] theorem Tryz.aty225 : typeOf Tryz.prog 225 = some (1, false) := by kernel_rfl
@[go_sem] theorem Tryz.aze225 : zeroOf Tryz.prog 225 = some (.nilFunc) := by kernel_rfl
@[go_sem] theorem Tryz.aty226 : typeOf Tryz.prog 226 = some (1, false) := by kernel_rfl
@[go_sem] theorem Tryz.aze226 : zeroOf Tryz.prog 226 = some (.nilFunc) := by kernel_rfl
@[go_sem] theorem Tryz.aty227 : typeOf Tryz.prog 227 = some (1, false) := by kernel_rfl
@[go_sem] theorem Tryz.aze227 : zeroOf Tryz.prog 227 = some (.nilFunc) := by kernel_rfl
@[go_sem] theorem Tryz.aty228 : typeOf Tryz.prog 228 = some (1, false) := by kernel_rfl
@[go_sem] theorem Tryz.aze228 : zeroOf Tryz.prog 228 = some (.int .i64 0) := by kernel_rfl
@[go_sem] theorem Tryz.aty231 : typeOf Tryz.prog 231 = some (1, false) := by kernel_rfl
@[go_sem] theorem Tryz.aze231 : zeroOf Tryz.prog 231 = some (.pointer none) := by kernel_rfl
@[go_sem] theorem Tryz.aty234 : typeOf Tryz.prog 234 = some (1, false) := by kernel_rfl
@[go_sem] theorem Tryz.aze234 : zeroOf Tryz.prog 234 = some (.nilFunc) := by kernel_rfl
@[go_sem] theorem Tryz.aty235 : typeOf Tryz.prog 235 = some (1, false) := by kernel_rfl
@[go_sem] theorem Tryz.aze235 : zeroOf Tryz.prog 235 = some (.pointer none) := by kernel_rfl
@[go_sem] theorem Tryz.aty236 : typeOf Tryz.prog 236 = some (1, false) := by kernel_rfl
@[go_sem] theorem Tryz.aze236 : zeroOf Tryz.prog 236 = some (.nilFunc) := by kernel_rfl
@[go_sem] theorem Tryz.aty238 : typeOf Tryz.prog 238 = some (1, false) := by kernel_rfl
@[go_sem] theorem Tryz.aze238 : zeroOf Tryz.prog 238 = some (.pointer none) := by kernel_rfl
@[go_sem] theorem Tryz.aty240 : typeOf Tryz.prog 240 = some (1, false) := by kernel_rfl
@[go_sem] theorem Tryz.aze240 : zeroOf Tryz.prog 240 = some (.nilFunc) := by kernel_rfl
@[go_sem] theorem Tryz.aty241 : typeOf Tryz.prog 241 = some (1, false) := by kernel_rfl
@[go_sem] theorem Tryz.aze241 : zeroOf Tryz.prog 241 = some (.nilFunc) := by kernel_rfl
@[go_sem] theorem Tryz.aty242 : typeOf Tryz.prog 242 = some (1, false) := by kernel_rfl
@[go_sem] theorem Tryz.aze242 : zeroOf Tryz.prog 242 = some (.nilFunc) := by kernel_rfl
@[go_sem] theorem Tryz.aty243 : typeOf Tryz.prog 243 = some (1, false) := by kernel_rfl
@[go_sem] theorem Tryz.aze243 : zeroOf Tryz.prog 243 = some (.nilFunc) := by kernel_rfl
@[go_sem] theorem Tryz.aty245 : typeOf Tryz.prog 245 = some (1, false) := by kernel_rfl
@[go_sem] theorem Tryz.aze245 : zeroOf Tryz.prog 245 = some (.nilFunc) := by kernel_rfl
@[go_sem] theorem Tryz.aty246 : typeOf Tryz.prog 246 = some (1, false) := by kernel_rfl
@[go_sem] theorem Tryz.aze246 : zeroOf Tryz.prog 246 = some (.nilFunc) := by kernel_rfl
@[go_sem] theorem Tryz.aty248 : typeOf Tryz.prog 248 = some (1, false) := by kernel_rfl
@[go_sem] theorem Tryz.aze248 : zeroOf Tryz.prog 248 = some (.nilFunc) := by kernel_rfl
@[go_sem] theorem Tryz.aty249 : typeOf Tryz.prog 249 = some (3, true) := by kernel_rfl
@[go_sem] theorem Tryz.aze249 : zeroOf Tryz.prog 249 = some (.agg #[.string ⟨#[]⟩, .string ⟨#[]⟩, .nilIface]) := by kernel_rfl
@[go_sem] theorem Tryz.afi249_0 : fieldInfo Tryz.prog 249 0 = some (0, 1, false) := by kernel_rfl
@[go_sem] theorem Tryz.afi249_1 : fieldInfo Tryz.prog 249 1 = some (1, 1, false) := by kernel_rfl
@[go_sem] theorem Tryz.afi249_2 : fieldInfo Tryz.prog 249 2 = some (2, 1, false) := by kernel_rfl
@[go_sem] theorem Tryz.abi249 : buildInfo Tryz.prog 249 = some ([(0, 1), (1, 1), (2, 1)], 0, [.string ⟨#[]⟩, .string ⟨#[]⟩, .nilIface]) := by kernel_rfl
@[go_sem] theorem Tryz.aty250 : typeOf Tryz.prog 250 = some (3, true) := by kernel_rfl
@[go_sem] theorem Tryz.aze250 : zeroOf Tryz.prog 250 = some (.agg #[.string ⟨#[]⟩, .string ⟨#[]⟩, .nilIface]) := by kernel_rfl
@[go_sem] theorem Tryz.afi250_0 : fieldInfo Tryz.prog 250 0 = some (0, 1, false) := by kernel_rfl
@[go_sem] theorem Tryz.afi250_1 : fieldInfo Tryz.prog 250 1 = some (1, 1, false) := by kernel_rfl
@[go_sem] theorem Tryz.afi250_2 : fieldInfo Tryz.prog 250 2 = some (2, 1, false) := by kernel_rfl
@[go_sem] theorem Tryz.abi250 : buildInfo Tryz.prog 250 = some ([(0, 1), (1, 1), (2, 1)], 0, [.string ⟨#[]⟩, .string ⟨#[]⟩, .nilIface]) := by kernel_rfl
@[go_sem] theorem Tryz.aty251 : typeOf Tryz.prog 251 = some (1, false) := by kernel_rfl
@[go_sem] theorem Tryz.aze251 : zeroOf Tryz.prog 251 = some (.nilFunc) := by kernel_rfl
@[go_sem] theorem Tryz.aty252 : typeOf Tryz.prog 252 = some (24, true) := by kernel_rfl
@[go_sem] theorem Tryz.ais252 : isStringT Tryz.prog 252 = false := by kernel_rfl
@[go_sem] theorem Tryz.aal252 : arrayLen Tryz.prog 252 = some (24, 5) := by kernel_rfl
@[go_sem] theorem Tryz.aze252 : zeroOf Tryz.prog 252 = some (.agg #[.int .u8 0, .int .u8 0, .int .u8 0, .int .u8 0, .int .u8 0, .int .u8 0, .int .u8 0, .int .u8 0, .int .u8 0, .int .u8 0, .int .u8 0, .int .u8 0, .int .u8 0, .int .u8 0, .int .u8 0, .int .u8 0, .int .u8 0, .int .u8 0, .int .u8 0, .int .u8 0, .int .u8 0, .int .u8 0, .int .u8 0, .int .u8 0]) := by kernel_rfl
@[go_sem] theorem Tryz.abi252 : buildInfo Tryz.prog 252 = some ([], 1, [.int .u8 0, .int .u8 0, .int .u8 0, .int .u8 0, .int .u8 0, .int .u8 0, .int .u8 0, .int .u8 0, .int .u8 0, .int .u8 0, .int .u8 0, .int .u8 0, .int .u8 0, .int .u8 0, .int .u8 0, .int .u8 0, .int .u8 0, .int .u8 0, .int .u8 0, .int .u8 0, .int .u8 0, .int .u8 0, .int .u8 0, .int .u8 0]) := by kernel_rfl
@[go_sem] theorem Tryz.aty253 : typeOf Tryz.prog 253 = some (1, false) := by kernel_rfl
@[go_sem] theorem Tryz.aze253 : zeroOf Tryz.prog 253 = some (.nilFunc) := by kernel_rfl
@[go_sem] theorem Tryz.aty255 : typeOf Tryz.prog 255 = some (1, false) := by kernel_rfl
@[go_sem] theorem Tryz.aze255 : zeroOf Tryz.prog 255 = some (.nilFunc) := by kernel_rfl
@[go_sem] theorem Tryz.aty256 : typeOf Tryz.prog 256 = some (1, false) := by kernel_rfl
@[go_sem] theorem Tryz.aze256 : zeroOf Tryz.prog 256 = some (.nilFunc) := by kernel_rfl
@[go_sem] theorem Tryz.aty257 : typeOf Tryz.prog 257 = some (1, false) := by kernel_rfl
@[go_sem] theorem Tryz.aze257 : zeroOf Tryz.prog 257 = some (.pointer none) := by kernel_rfl
@[go_sem] theorem Tryz.aty258 : typeOf Tryz.prog 258 = some (1, false) := by kernel_rfl
@[go_sem] theorem Tryz.aze258 : zeroOf Tryz.prog 258 = some (.nilFunc) := by kernel_rfl
@[go_sem] theorem Tryz.aty259 : typeOf Tryz.prog 259 = some (1, false) := by kernel_rfl
@[go_sem] theorem Tryz.aze259 : zeroOf Tryz.prog 259 = some (.nilFunc) := by kernel_rfl
@[go_sem] theorem Tryz.aty260 : typeOf Tryz.prog 260 = some (1, false) := by kernel_rfl
@[go_sem] theorem Tryz.aze260 : zeroOf Tryz.prog 260 = some (.nilFunc) := by kernel_rfl
@[go_sem] theorem Tryz.aty261 : typeOf Tryz.prog 261 = some (1, false) := by kernel_rfl
@[go_sem] theorem Tryz.aze261 : zeroOf Tryz.prog 261 = some (.nilFunc) := by kernel_rfl
@[go_sem] theorem Tryz.aty262 : typeOf Tryz.prog 262 = some (1, false) := by kernel_rfl
@[go_sem] theorem Tryz.aze262 : zeroOf Tryz.prog 262 = some (.pointer none) := by kernel_rfl
@[go_sem] theorem Tryz.aty263 : typeOf Tryz.prog 263 = some (1, true) := by kernel_rfl
@[go_sem] theorem Tryz.aze263 : zeroOf Tryz.prog 263 = some (.agg #[.string ⟨#[]⟩]) := by kernel_rfl
@[go_sem] theorem Tryz.afi263_0 : fieldInfo Tryz.prog 263 0 = some (0, 1, false) := by kernel_rfl
@[go_sem] theorem Tryz.abi263 : buildInfo Tryz.prog 263 = some ([(0, 1)], 0, [.string ⟨#[]⟩]) := by kernel_rfl
@[go_sem] theorem Tryz.aty264 : typeOf Tryz.prog 264 = some (1, true) := by kernel_rfl
@[go_sem] theorem Tryz.aze264 : zeroOf Tryz.prog 264 = some (.agg #[.string ⟨#[]⟩]) := by kernel_rfl
@[go_sem] theorem Tryz.afi264_0 : fieldInfo Tryz.prog 264 0 = some (0, 1, false) := by kernel_rfl
@[go_sem] theorem Tryz.abi264 : buildInfo Tryz.prog 264 = some ([(0, 1)], 0, [.string ⟨#[]⟩]) := by kernel_rfl
@[go_sem] theorem Tryz.aty266 : typeOf Tryz.prog 266 = some (20, true) := by kernel_rfl
@[go_sem] theorem Tryz.ais266 : isStringT Tryz.prog 266 = false := by kernel_rfl
@[go_sem] theorem Tryz.aal266 : arrayLen Tryz.prog 266 = some (20, 187) := by kernel_rfl
@[go_sem] theorem Tryz.aze266 : zeroOf Tryz.prog 266 = some (.agg #[.int .u64 0, .int .u64 0, .int .u64 0, .int .u64 0, .int .u64 0, .int .u64 0, .int .u64 0, .int .u64 0, .int .u64 0, .int .u64 0, .int .u64 0, .int .u64 0, .int .u64 0, .int .u64 0, .int .u64 0, .int .u64 0, .int .u64 0, .int .u64 0, .int .u64 0, .int .u64 0]) := by kernel_rfl
@[go_sem] theorem Tryz.abi266 : buildInfo Tryz.prog 266 = some ([], 1, [.int .u64 0, .int .u64 0, .int .u64 0, .int .u64 0, .int .u64 0, .int .u64 0, .int .u64 0, .int .u64 0, .int .u64 0, .int .u64 0, .int .u64 0, .int .u64 0, .int .u64 0, .int .u64 0, .int .u64 0, .int .u64 0, .int .u64 0, .int .u64 0, .int .u64 0, .int .u64 0]) := by kernel_rfl
@[go_sem] theorem Tryz.aty267 : typeOf Tryz.prog 267 = some (65, true) := by kernel_rfl
@[go_sem] theorem Tryz.ais267 : isStringT Tryz.prog 267 = false := by kernel_rfl
@[go_sem] theorem Tryz.aal267 : arrayLen Tryz.prog 267 = some (65, 5) := by kernel_rfl
@[go_sem] theorem Tryz.aze267 : zeroOf Tryz.prog 267 = some (.agg #[.int .u8 0, .int .u8 0, .int .u8 0, .int .u8 0, .int .u8 0, .int .u8 0, .int .u8 0, .int .u8 0, .int .u8 0, .int .u8 0, .int .u8 0, .int .u8 0, .int .u8 0, .int .u8 0, .int .u8 0, .int .u8 0, .int .u8 0, .int .u8 0, .int .u8 0, .int .u8 0, .int .u8 0, .int .u8 0, .int .u8 0, .int .u8 0, .int .u8 0, .int .u8 0, .int .u8 0, .int .u8 0, .int .u8 0, .int .u8 0, .int .u8 0, .int .u8 0, .int .u8 0, .int .u8 0, .int .u8 0, .int .u8 0, .int .u8 0, .int .u8 0, .int .u8 0, .int .u8 0, .int .u8 0, .int .u8 0, .int .u8 0, .int .u8 0, .int .u8 0, .int .u8 0, .int .u8 0, .int .u8 0, .int .u8 0, .int .u8 0, .int .u8 0, .int .u8 0, .int .u8 0, .int .u8 0, .int .u8 0, .int .u8 0, .int .u8 0, .int .u8 0, .int .u8 0, .int .u8 0, .int .u8 0, .int .u8 0, .int .u8 0, .int .u8 0, .int .u8 0]) := by kernel_rfl
@[go_sem] theorem Tryz.aty269 : typeOf Tryz.prog 269 = some (1, false) := by kernel_rfl
@[go_sem] theorem Tryz.aze269 : zeroOf Tryz.prog 269 = some (.nilFunc) := by kernel_rfl
@[go_sem] theorem Tryz.aty270 : typeOf Tryz.prog 270 = some (256, true) := by kernel_rfl
@[go_sem] theorem Tryz.ais270 : isStringT Tryz.prog 270 = false := by kernel_rfl
@[go_sem] theorem Tryz.aal270 : arrayLen Tryz.prog 270 = some (256, 5) := by kernel_rfl
@[go_sem] theorem Tryz.aty271 : typeOf Tryz.prog 271 = some (2, true) := by kernel_rfl
@[go_sem] theorem Tryz.aze271 : zeroOf Tryz.prog 271 = some (.agg #[.int .u8 0, .int .u8 0]) := by kernel_rfl
@[go_sem] theorem Tryz.afi271_0 : fieldInfo Tryz.prog 271 0 = some (0, 1, false) := by kernel_rfl
@[go_sem] theorem Tryz.afi271_1 : fieldInfo Tryz.prog 271 1 = some (1, 1, false) := by kernel_rfl
@[go_sem] theorem Tryz.abi271 : buildInfo Tryz.prog 271 = some ([(0, 1), (1, 1)], 0, [.int .u8 0, .int .u8 0]) := by kernel_rfl
@[go_sem] theorem Tryz.aty272 : typeOf Tryz.prog 272 = some (2, true) := by kernel_rfl
@[go_sem] theorem Tryz.aze272 : zeroOf Tryz.prog 272 = some (.agg #[.int .u8 0, .int .u8 0]) := by kernel_rfl
@[go_sem] theorem Tryz.afi272_0 : fieldInfo Tryz.prog 272 0 = some (0, 1, false) := by kernel_rfl
@[go_sem] theorem Tryz.afi272_1 : fieldInfo Tryz.prog 272 1 = some (1, 1, false) := by kernel_rfl
@[go_sem] theorem Tryz.abi272 : buildInfo Tryz.prog 272 = some ([(0, 1), (1, 1)], 0, [.int .u8 0, .int .u8 0]) := by kernel_rfl
@[go_sem] theorem Tryz.aty273 : typeOf Tryz.prog 273 = some (32, true) := by kernel_rfl
@[go_sem] theorem Tryz.ais273 : isStringT Tryz.prog 273 = false := by kernel_rfl
@[go_sem] theorem Tryz.aal273 : arrayLen Tryz.prog 273 = some (16, 272) := by kernel_rfl
@[go_sem] theorem Tryz.aze273 : zeroOf Tryz.prog 273 = some (.agg #[.int .u8 0, .int .u8 0, .int .u8 0, .int .u8 0, .int .u8 0, .int .u8 0, .int .u8 0, .int .u8 0, .int .u8 0, .int .u8 0, .int .u8 0, .int .u8 0, .int .u8 0, .int .u8 0, .int .u8 0, .int .u8 0, .int .u8 0, .int .u8 0, .int .u8 0, .int .u8 0, .int .u8 0, .int .u8 0, .int .u8 0, .int .u8 0, .int .u8 0, .int .u8 0, .int .u8 0, .int .u8 0, .int .u8 0, .int .u8 0, .int .u8 0, .int .u8 0]) := by kernel_rfl
@[go_sem] theorem Tryz.abi273 : buildInfo Tryz.prog 273 = some ([], 2, [.int .u8 0, .int .u8 0, .int .u8 0, .int .u8 0, .int .u8 0, .int .u8 0, .int .u8 0, .int .u8 0, .int .u8 0, .int .u8 0, .int .u8 0, .int .u8 0, .int .u8 0, .int .u8 0, .int .u8 0, .int .u8 0, .int .u8 0, .int .u8 0, .int .u8 0, .int .u8 0, .int .u8 0, .int .u8 0, .int .u8 0, .int .u8 0, .int .u8 0, .int .u8 0, .int .u8 0, .int .u8 0, .int .u8 0, .int .u8 0, .int .u8 0, .int .u8 0]) := by kernel_rfl
@[go_sem] theorem Tryz.aty274 : typeOf Tryz.prog 274 = some (32, true) := by kernel_rfl
@[go_sem] theorem Tryz.ais274 : isStringT Tryz.prog 274 = false := by kernel_rfl
@[go_sem] theorem Tryz.aal274 : arrayLen Tryz.prog 274 = some (32, 5) := by kernel_rfl
@[go_sem] theorem Tryz.aze274 : zeroOf Tryz.prog 274 = some (.agg #[.int .u8 0, .int .u8 0, .int .u8 0, .int .u8 0, .int .u8 0, .int .u8 0, .int .u8 0, .int .u8 0, .int .u8 0, .int .u8 0, .int .u8 0, .int .u8 0, .int .u8 0, .int .u8 0, .int .u8 0, .int .u8 0, .int .u8 0, .int .u8 0, .int .u8 0, .int .u8 0, .int .u8 0, .int .u8 0, .int .u8 0, .int .u8 0, .int .u8 0, .int .u8 0, .int .u8 0, .int .u8 0, .int .u8 0, .int .u8 0, .int .u8 0, .int .u8 0]) := by kernel_rfl
@[go_sem] theorem Tryz.abi274 : buildInfo Tryz.prog 274 = some ([], 1, [.int .u8 0, .int .u8 0, .int .u8 0, .int .u8 0, .int .u8 0, .int .u8 0, .int .u8 0, .int .u8 0, .int .u8 0, .int .u8 0, .int .u8 0, .int .u8 0, .int .u8 0, .int .u8 0, .int .u8 0, .int .u8 0, .int .u8 0, .int .u8 0, .int .u8 0, .int .u8 0, .int .u8 0, .int .u8 0, .int .u8 0, .int .u8 0, .int .u8 0, .int .u8 0, .int .u8 0, .int .u8 0, .int .u8 0, .int .u8 0, .int .u8 0, .int .u8 0]) := by kernel_rfl
@[go_sem] theorem Tryz.aty275 : typeOf Tryz.prog 275 = some (64, true) := by kernel_rfl
@[go_sem] theorem Tryz.ais275 : isStringT Tryz.prog 275 = false := by kernel_rfl
@[go_sem] theorem Tryz.aal275 : arrayLen Tryz.prog 275 = some (64, 5) := by kernel_rfl
@[go_sem] theorem Tryz.aze275 : zeroOf Tryz.prog 275 = some (.agg #[.int .u8 0, .int .u8 0, .int .u8 0, .int .u8 0, .int .u8 0, .int .u8 0, .int .u8 0, .int .u8 0, .int .u8 0, .int .u8 0, .int .u8 0, .int .u8 0, .int .u8 0, .int .u8 0, .int .u8 0, .int .u8 0, .int .u8 0, .int .u8 0, .int .u8 0, .int .u8 0, .int .u8 0, .int .u8 0, .int .u8 0, .int .u8 0, .int .u8 0, .int .u8 0, .int .u8 0, .int .u8 0, .int .u8 0, .int .u8 0, .int .u8 0, .int .u8 0, .int .u8 0, .int .u8 0, .int .u8 0, .int .u8 0, .int .u8 0, .int .u8 0, .int .u8 0, .int .u8 0, .int .u8 0, .int .u8 0, .int .u8 0, .int .u8 0, .int .u8 0, .int .u8 0, .int .u8 0, .int .u8 0, .int .u8 0, .int .u8 0, .int .u8 0, .int .u8 0, .int .u8 0, .int .u8 0, .int .u8 0, .int .u8 0, .int .u8 0, .int .u8 0, .int .u8 0, .int .u8 0, .int .u8 0, .int .u8 0, .int .u8 0, .int .u8 0]) := by kernel_rfl
@[go_sem] theorem Tryz.abi275 : buildInfo Tryz.prog 275 = some ([], 1, [.int .u8 0, .int .u8 0, .int .u8 0, .int .u8 0, .int .u8 0, .int .u8 0, .int .u8 0, .int .u8 0, .int .u8 0, .int .u8 0, .int .u8 0, .int .u8 0, .int .u8 0, .int .u8 0, .int .u8 0, .int .u8 0, .int .u8 0, .int .u8 0, .int .u8 0, .int .u8 0, .int .u8 0, .int .u8 0, .int .u8 0, .int .u8 0, .int .u8 0, .int .u8 0, .int .u8 0, .int .u8 0, .int .u8 0, .int .u8 0, .int .u8 0, .int .u8 0, .int .u8 0, .int .u8 0, .int .u8 0, .int .u8 0, .int .u8 0, .int .u8 0, .int .u8 0, .int .u8 0, .int .u8 0, .int .u8 0, .int .u8 0, .int .u8 0, .int .u8 0, .int .u8 0, .int .u8 0, .int .u8 0, .int .u8 0, .int .u8 0, .int .u8 0, .int .u8 0, .int .u8 0, .int .u8 0, .int .u8 0, .int .u8 0, .int .u8 0, .int .u8 0, .int .u8 0, .int .u8 0, .int .u8 0, .int .u8 0, .int .u8 0, .int .u8 0]) := by kernel_rfl
@[go_sem] theorem Tryz.aty276 : typeOf Tryz.prog 276 = some (4, true) := by kernel_rfl
@[go_sem] theorem Tryz.aze276 : zeroOf Tryz.prog 276 = some (.agg #[.pointer none, .pointer none, .pointer none, .string ⟨#[]⟩]) := by kernel_rfl
@[go_sem] theorem Tryz.afi276_0 : fieldInfo Tryz.prog 276 0 = some (0, 1, false) := by kernel_rfl
@[go_sem] theorem Tryz.afi276_1 : fieldInfo Tryz.prog 276 1 = some (1, 1, false) := by kernel_rfl
@[go_sem] theorem Tryz.afi276_2 : fieldInfo Tryz.prog 276 2 = some (2, 1, false) := by kernel_rfl
@[go_sem] theorem Tryz.afi276_3 : fieldInfo Tryz.prog 276 3 = some (3, 1, false) := by kernel_rfl
@[go_sem] theorem Tryz.abi276 : buildInfo Tryz.prog 276 = some ([(0, 1), (1, 1), (2, 1), (3, 1)], 0, [.pointer none, .pointer none, .pointer none, .string ⟨#[]⟩]) := by kernel_rfl
@[go_sem] theorem Tryz.aty277 : typeOf Tryz.prog 277 = some (4, true) := by kernel_rfl
@[go_sem] theorem Tryz.aze277 : zeroOf Tryz.prog 277 = some (.agg #[.pointer none, .pointer none, .pointer none, .string ⟨#[]⟩]) := by kernel_rfl
@[go_sem] theorem Tryz.afi277_0 : fieldInfo Tryz.prog 277 0 = some (0, 1, false) := by kernel_rfl
@[go_sem] theorem Tryz.afi277_1 : fieldInfo Tryz.prog 277 1 = some (1, 1, false) := by kernel_rfl
@[go_sem] theorem Tryz.afi277_2 : fieldInfo Tryz.prog 277 2 = some (2, 1, false) := by kernel_rfl
@[go_sem] theorem Tryz.afi277_3 : fieldInfo Tryz.prog 277 3 = some (3, 1, false) := by kernel_rfl
@[go_sem] theorem Tryz.abi277 : buildInfo Tryz.prog 277 = some ([(0, 1), (1, 1), (2, 1), (3, 1)], 0, [.pointer none, .pointer none, .pointer none, .string ⟨#[]⟩]) := by kernel_rfl
@[go_sem] theorem Tryz.aty278 : typeOf Tryz.prog 278 = some (0, true) := by kernel_rfl
@[go_sem] theorem Tryz.ais278 : isStringT Tryz.prog 278 = false := by kernel_rfl
@[go_sem] theorem Tryz.aal278 : arrayLen Tryz.prog 278 = some (0, 16) := by kernel_rfl
@[go_sem] theorem Tryz.aze278 : zeroOf Tryz.prog 278 = some (.agg #[]) := by kernel_rfl
@[go_sem] theorem Tryz.abi278 : buildInfo Tryz.prog 278 = some ([], 1, []) := by kernel_rfl
@[go_sem] theorem Tryz.aty279 : typeOf Tryz.prog 279 = some (0, true) := by kernel_rfl
@[go_sem] theorem Tryz.aze279 : zeroOf Tryz.prog 279 = some (.agg #[]) := by kernel_rfl
@[go_sem] theorem Tryz.afi279_0 : fieldInfo Tryz.prog 279 0 = some (0, 0, true) := by kernel_rfl
@[go_sem] theorem Tryz.abi279 : buildInfo Tryz.prog 279 = some ([(0, 0)], 0, []) := by kernel_rfl
@[go_sem] theorem Tryz.aty280 : typeOf Tryz.prog 280 = some (0, true) := by kernel_rfl
@[go_sem] theorem Tryz.aze280 : zeroOf Tryz.prog 280 = some (.agg #[]) := by kernel_rfl
@[go_sem] theorem Tryz.afi280_0 : fieldInfo Tryz.prog 280 0 = some (0, 0, true) := by kernel_rfl
@[go_sem] theorem Tryz.abi280 : buildInfo Tryz.prog 280 = some ([(0, 0)], 0, []) := by kernel_rfl
@[go_sem] theorem Tryz.aty281 : typeOf Tryz.prog 281 = some (1, false) := by kernel_rfl
@[go_sem] theorem Tryz.aze281 : zeroOf Tryz.prog 281 = some (.int .u8 0) := by kernel_rfl
@[go_sem] theorem Tryz.aty282 : typeOf Tryz.prog 282 = some (1, false) := by kernel_rfl
@[go_sem] theorem Tryz.aze282 : zeroOf Tryz.prog 282 = some (.int .u8 0) := by kernel_rfl
@[go_sem] theorem Tryz.aty283 : typeOf Tryz.prog 283 = some (1, false) := by kernel_rfl
@[go_sem] theorem Tryz.aze283 : zeroOf Tryz.prog 283 = some (.nilFunc) := by kernel_rfl
@[go_sem] theorem Tryz.aty284 : typeOf Tryz.prog 284 = some (1, false) := by kernel_rfl
@[go_sem] theorem Tryz.aze284 : zeroOf Tryz.prog 284 = some (.int .i32 0) := by kernel_rfl
@[go_sem] theorem Tryz.aty285 : typeOf Tryz.prog 285 = some (1, false) := by kernel_rfl
@[go_sem] theorem Tryz.aze285 : zeroOf Tryz.prog 285 = some (.int .i32 0) := by kernel_rfl
@[go_sem] theorem Tryz.aty286 : typeOf Tryz.prog 286 = some (11, true) := by kernel_rfl
@[go_sem] theorem Tryz.aze286 : zeroOf Tryz.prog 286 = some (.agg #[.int .u64 0, .int .u64 0, .int .u32 0, .int .u8 0, .int .u8 0, .int .u8 0, .int .u8 0, .nilFunc, .pointer none, .int .i32 0, .int .i32 0]) := by kernel_rfl
@[go_sem] theorem Tryz.afi286_0 : fieldInfo Tryz.prog 286 0 = some (0, 1, false) := by kernel_rfl
@[go_sem] theorem Tryz.afi286_1 : fieldInfo Tryz.prog 286 1 = some (1, 1, false) := by kernel_rfl
@[go_sem] theorem Tryz.afi286_2 : fieldInfo Tryz.prog 286 2 = some (2, 1, false) := by kernel_rfl
@[go_sem] theorem Tryz.afi286_3 : fieldInfo Tryz.prog 286 3 = some (3, 1, false) := by kernel_rfl
@[go_sem] theorem Tryz.afi286_4 : fieldInfo Tryz.prog 286 4 = some (4, 1, false) := by kernel_rfl
@[go_sem] theorem Tryz.afi286_5 : fieldInfo Tryz.prog 286 5 = some (5, 1, false) := by kernel_rfl
@[go_sem] theorem Tryz.afi286_6 : fieldInfo Tryz.prog 286 6 = some (6, 1, false) := by kernel_rfl
@[go_sem] theorem Tryz.afi286_7 : fieldInfo Tryz.prog 286 7 = some (7, 1, false) := by kernel_rfl
@[go_sem] theorem Tryz.afi286_8 : fieldInfo Tryz.prog 286 8 = some (8, 1, false) := by kernel_rfl
@[go_sem] theorem Tryz.afi286_9 : fieldInfo Tryz.prog 286 9 = some (9, 1, false) := by kernel_rfl
@[go_sem] theorem Tryz.afi286_10 : fieldInfo Tryz.prog 286 10 = some (10, 1, false) := by kernel_rfl
@[go_sem] theorem Tryz.abi286 : buildInfo Tryz.prog 286 = some ([(0, 1), (1, 1), (2, 1), (3, 1), (4, 1), (5, 1), (6, 1), (7, 1), (8, 1), (9, 1), (10, 1)], 0, [.int .u64 0, .int .u64 0, .int .u32 0, .int .u8 0, .int .u8 0, .int .u8 0, .int .u8 0, .nilFunc, .pointer none, .int .i32 0, .int .i32 0]) := by kernel_rfl
@[go_sem] theorem Tryz.aty287 : typeOf Tryz.prog 287 = some (11, true) := by kernel_rfl
@[go_sem] theorem Tryz.aze287 : zeroOf Tryz.prog 287 = some (.agg #[.int .u64 0, .int .u64 0, .int .u32 0, .int .u8 0, .int .u8 0, .int .u8 0, .int .u8 0, .nilFunc, .pointer none, .int .i32 0, .int .i32 0]) := by kernel_rfl
@[go_sem] theorem Tryz.afi287_0 : fieldInfo Tryz.prog 287 0 = some (0, 1, false) := by kernel_rfl
@[go_sem] theorem Tryz.afi287_1 : fieldInfo Tryz.prog 287 1 = some (1, 1, false) := by kernel_rfl
@[go_sem] theorem Tryz.afi287_2 : fieldInfo Tryz.prog 287 2 = some (2, 1, false) := by kernel_rfl
@[go_sem] theorem Tryz.afi287_3 : fieldInfo Tryz.prog 287 3 = some (3, 1, false) := by kernel_rfl
@[go_sem] theorem Tryz.afi287_4 : fieldInfo Tryz.prog 287 4 = some (4, 1, false) := by kernel_rfl
@[go_sem] theorem Tryz.afi287_5 : fieldInfo Tryz.prog 287 5 = some (5, 1, false) := by kernel_rfl
@[go_sem] theorem Tryz.afi287_6 : fieldInfo Tryz.prog 287 6 = some (6, 1, false) := by kernel_rfl
@[go_sem] theorem Tryz.afi287_7 : fieldInfo Tryz.prog 287 7 = some (7, 1, false) := by kernel_rfl
@[go_sem] theorem Tryz.afi287_8 : fieldInfo Tryz.prog 287 8 = some (8, 1, false) := by kernel_rfl
@[go_sem] theorem Tryz.afi287_9 : fieldInfo Tryz.prog 287 9 = some (9, 1, false) := by kernel_rfl
@[go_sem] theorem Tryz.afi287_10 : fieldInfo Tryz.prog 287 10 = some (10, 1, false) := by kernel_rfl
@[go_sem] theorem Tryz.abi287 : buildInfo Tryz.prog 287 = some ([(0, 1), (1, 1), (2, 1), (3, 1), (4, 1), (5, 1), (6, 1), (7, 1), (8, 1), (9, 1), (10, 1)], 0, [.int .u64 0, .int .u64 0, .int .u32 0, .int .u8 0, .int .u8 0, .int .u8 0, .int .u8 0, .nilFunc, .pointer none, .int .i32 0, .int .i32 0]) := by kernel_rfl
@[go_sem] theorem Tryz.aeq23 (σ : Store) (c : Bool) (a0 b0 : ByteArray) (a1 b1 : ByteArray) (a2 b2 : ByteArray) (a3 b3 : Bool) : abin Tryz.prog σ .eql 23 c (.agg [.lit (.string a0), .lit (.string a1), .lit (.string a2), .lit (.bool a3)]) (.agg [.lit (.string b0), .lit (.string b1), .lit (.string b2), .lit (.bool b3)]) = some (.lit (.bool ((decide (a0 = b0)) && ((decide (a1 = b1)) && ((decide (a2 = b2)) && ((a3 == b3) && true)))))) := by kernel_rfl
@[go_sem] theorem Tryz.aeqn23 (σ : Store) (c : Bool) (a0 b0 : ByteArray) (a1 b1 : ByteArray) (a2 b2 : ByteArray) (a3 b3 : Bool) : abin Tryz.prog σ .neq 23 c (.agg [.lit (.string a0), .lit (.string a1), .lit (.string a2), .lit (.bool a3)]) (.agg [.lit (.string b0), .lit (.string b1), .lit (.string b2), .lit (.bool b3)]) = some (.lit (.bool !((decide (a0 = b0)) && ((decide (a1 = b1)) && ((decide (a2 = b2)) && ((a3 == b3) && true)))))) := by kernel_rfl
@[go_sem] theorem Tryz.aeq24 (σ : Store) (c : Bool) (a0 b0 : ByteArray) (a1 b1 : ByteArray) (a2 b2 : ByteArray) (a3 b3 : Bool) : abin Tryz.prog σ .eql 24 c (.agg [.lit (.string a0), .lit (.string a1), .lit (.string a2), .lit (.bool a3)]) (.agg [.lit (.string b0), .lit (.string b1), .lit (.string b2), .lit (.bool b3)]) = some (.lit (.bool ((decide (a0 = b0)) && ((decide (a1 = b1)) && ((decide (a2 = b2)) && ((a3 == b3) && true)))))) := by kernel_rfl
@[go_sem] theorem Tryz.aeqn24 (σ : Store) (c : Bool) (a0 b0 : ByteArray) (a1 b1 : ByteArray) (a2 b2 : ByteArray) (a3 b3 : Bool) : abin Tryz.prog σ .neq 24 c (.agg [.lit (.string a0), .lit (.string a1), .lit (.string a2), .lit (.bool a3)]) (.agg [.lit (.string b0), .lit (.string b1), .lit (.string b2), .lit (.bool b3)]) = some (.lit (.bool !((decide (a0 = b0)) && ((decide (a1 = b1)) && ((decide (a2 = b2)) && ((a3 == b3) && true)))))) := by kernel_rfl
@[go_sem] theorem Tryz.aeq25 (σ : Store) (c : Bool) (a0 b0 : Int) (a1 b1 : ByteArray) (a2 b2 : ByteArray) (a3 b3 : ByteArray) (a4 b4 : ByteArray) (a5 b5 : Int) (a6 b6 : ByteArray) (a7 b7 : ByteArray) (a8 b8 : ByteArray) (a9 b9 : Bool) : abin Tryz.prog σ .eql 25 c (.agg [.lit (.int .i64 a0), .lit (.string a1), .lit (.string a2), .lit (.string a3), .lit (.string a4), .lit (.int .i64 a5), .lit (.string a6), .lit (.string a7), .lit (.string a8), .lit (.bool a9)]) (.agg [.lit (.int .i64 b0), .lit (.string b1), .lit (.string b2), .lit (.string b3), .lit (.string b4), .lit (.int .i64 b5), .lit (.string b6), .lit (.string b7), .lit (.string b8), .lit (.bool b9)]) = some (.lit (.bool ((decide (a0 = b0)) && ((decide (a1 = b1)) && ((decide (a2 = b2)) && ((decide (a3 = b3)) && ((decide (a4 = b4)) && ((decide (a5 = b5)) && (((decide (a6 = b6)) && ((decide (a7 = b7)) && ((decide (a8 = b8)) && ((a9 == b9) && true)))) && true))))))))) := by kernel_rfl
@[go_sem] theorem Tryz.aeqn25 (σ : Store) (c : Bool) (a0 b0 : Int) (a1 b1 : ByteArray) (a2 b2 : ByteArray) (a3 b3 : ByteArray) (a4 b4 : ByteArray) (a5 b5 : Int) (a6 b6 : ByteArray) (a7 b7 : ByteArray) (a8 b8 : ByteArray) (a9 b9 : Bool) : abin Tryz.prog σ .neq 25 c (.agg [.lit (.int .i64 a0), .lit (.string a1), .lit (.string a2), .lit (.string a3), .lit (.string a4), .lit (.int .i64 a5), .lit (.string a6), .lit (.string a7), .lit (.string a8), .lit (.bool a9)]) (.agg [.lit (.int .i64 b0), .lit (.string b1), .lit (.string b2), .lit (.string b3), .lit (.string b4), .lit (.int .i64 b5), .lit (.string b6), .lit (.string b7), .lit (.string b8), .lit (.bool b9)]) = some (.lit (.bool !((decide (a0 = b0)) && ((decide (a1 = b1)) && ((decide (a2 = b2)) && ((decide (a3 = b3)) && ((decide (a4 = b4)) && ((decide (a5 = b5)) && (((decide (a6 = b6)) && ((decide (a7 = b7)) && ((decide (a8 = b8)) && ((a9 == b9) && true)))) && true))))))))) := by kernel_rfl
@[go_sem] theorem Tryz.aeq26 (σ : Store) (c : Bool) (a0 b0 : Int) (a1 b1 : ByteArray) (a2 b2 : ByteArray) (a3 b3 : ByteArray) (a4 b4 : ByteArray) (a5 b5 : Int) (a6 b6 : ByteArray) (a7 b7 : ByteArray) (a8 b8 : ByteArray) (a9 b9 : Bool) : abin Tryz.prog σ .eql 26 c (.agg [.lit (.int .i64 a0), .lit (.string a1), .lit (.string a2), .lit (.string a3), .lit (.string a4), .lit (.int .i64 a5), .lit (.string a6), .lit (.string a7), .lit (.string a8), .lit (.bool a9)]) (.agg [.lit (.int .i64 b0), .lit (.string b1), .lit (.string b2), .lit (.string b3), .lit (.string b4), .lit (.int .i64 b5), .lit (.string b6), .lit (.string b7), .lit (.string b8), .lit (.bool b9)]) = some (.lit (.bool ((decide (a0 = b0)) && ((decide (a1 = b1)) && ((decide (a2 = b2)) && ((decide (a3 = b3)) && ((decide (a4 = b4)) && ((decide (a5 = b5)) && (((decide (a6 = b6)) && ((decide (a7 = b7)) && ((decide (a8 = b8)) && ((a9 == b9) && true)))) && true))))))))) := by kernel_rfl
@[go_sem] theorem Tryz.aeqn26 (σ : Store) (c : Bool) (a0 b0 : Int) (a1 b1 : ByteArray) (a2 b2 : ByteArray) (a3 b3 : ByteArray) (a4 b4 : ByteArray) (a5 b5 : Int) (a6 b6 : ByteArray) (a7 b7 : ByteArray) (a8 b8 : ByteArray) (a9 b9 : Bool) : abin Tryz.prog σ .neq 26 c (.agg [.lit (.int .i64 a0), .lit (.string a1), .lit (.string a2), .lit (.string a3), .lit (.string a4), .lit (.int .i64 a5), .lit (.string a6), .lit (.string a7), .lit (.string a8), .lit (.bool a9)]) (.agg [.lit (.int .i64 b0), .lit (.string b1), .lit (.string b2), .lit (.string b3), .lit (.string b4), .lit (.int .i64 b5), .lit (.string b6), .lit (.string b7), .lit (.string b8), .lit (.bool b9)]) = some (.lit (.bool !((decide (a0 = b0)) && ((decide (a1 = b1)) && ((decide (a2 = b2)) && ((decide (a3 = b3)) && ((decide (a4 = b4)) && ((decide (a5 = b5)) && (((decide (a6 = b6)) && ((decide (a7 = b7)) && ((decide (a8 = b8)) && ((a9 == b9) && true)))) && true))))))))) := by kernel_rfl
@[go_sem] theorem Tryz.aeq42 (σ : Store) (c : Bool) (a0 b0 : Int) (a1 b1 : ByteArray) (a2 b2 : ByteArray) : abin Tryz.prog σ .eql 42 c (.agg [.lit (.int .i64 a0), .lit (.string a1), .lit (.string a2)]) (.agg [.lit (.int .i64 b0), .lit (.string b1), .lit (.string b2)]) = some (.lit (.bool ((decide (a0 = b0)) && ((decide (a1 = b1)) && ((decide (a2 = b2)) && true))))) := by kernel_rfl
@[go_sem] theorem Tryz.aeqn42 (σ : Store) (c : Bool) (a0 b0 : Int) (a1 b1 : ByteArray) (a2 b2 : ByteArray) : abin Tryz.prog σ .neq 42 c (.agg [.lit (.int .i64 a0), .lit (.string a1), .lit (.string a2)]) (.agg [.lit (.int .i64 b0), .lit (.string b1), .lit (.string b2)]) = some (.lit (.bool !((decide (a0 = b0)) && ((decide (a1 = b1)) && ((decide (a2 = b2)) && true))))) := by kernel_rfl
@[go_sem] theorem Tryz.aeq43 (σ : Store) (c : Bool) (a0 b0 : Int) (a1 b1 : ByteArray) (a2 b2 : ByteArray) : abin Tryz.prog σ .eql 43 c (.agg [.lit (.int .i64 a0), .lit (.string a1), .lit (.string a2)]) (.agg [.lit (.int .i64 b0), .lit (.string b1), .lit (.string b2)]) = some (.lit (.bool ((decide (a0 = b0)) && ((decide (a1 = b1)) && ((decide (a2 = b2)) && true))))) := by kernel_rfl
@[go_sem] theorem Tryz.aeqn43 (σ : Store) (c : Bool) (a0 b0 : Int) (a1 b1 : ByteArray) (a2 b2 : ByteArray) : abin Tryz.prog σ .neq 43 c (.agg [.lit (.int .i64 a0), .lit (.string a1), .lit (.string a2)]) (.agg [.lit (.int .i64 b0), .lit (.string b1), .lit (.string b2)]) = some (.lit (.bool !((decide (a0 = b0)) && ((decide (a1 = b1)) && ((decide (a2 = b2)) && true))))) := by kernel_rfl
@[go_sem] theorem Tryz.aeq44 (σ : Store) (c : Bool) (a0 b0 : ByteArray) (a1 b1 : Int) (a2 b2 : ByteArray) (a3 b3 : ByteArray) : abin Tryz.prog σ .eql 44 c (.agg [.lit (.string a0), .lit (.int .i64 a1), .lit (.string a2), .lit (.string a3)]) (.agg [.lit (.string b0), .lit (.int .i64 b1), .lit (.string b2), .lit (.string b3)]) = some (.lit (.bool ((decide (a0 = b0)) && (((decide (a1 = b1)) && ((decide (a2 = b2)) && ((decide (a3 = b3)) && true))) && true)))) := by kernel_rfl
@[go_sem] theorem Tryz.aeqn44 (σ : Store) (c : Bool) (a0 b0 : ByteArray) (a1 b1 : Int) (a2 b2 : ByteArray) (a3 b3 : ByteArray) : abin Tryz.prog σ .neq 44 c (.agg [.lit (.string a0), .lit (.int .i64 a1), .lit (.string a2), .lit (.string a3)]) (.agg [.lit (.string b0), .lit (.int .i64 b1), .lit (.string b2), .lit (.string b3)]) = some (.lit (.bool !((decide (a0 = b0)) && (((decide (a1 = b1)) && ((decide (a2 = b2)) && ((decide (a3 = b3)) && true))) && true)))) := by kernel_rfl
@[go_sem] theorem Tryz.aeq45 (σ : Store) (c : Bool) (a0 b0 : ByteArray) (a1 b1 : Int) (a2 b2 : ByteArray) (a3 b3 : ByteArray) : abin Tryz.prog σ .eql 45 c (.agg [.lit (.string a0), .lit (.int .i64 a1), .lit (.string a2), .lit (.string a3)]) (.agg [.lit (.string b0), .lit (.int .i64 b1), .lit (.string b2), .lit (.string b3)]) = some (.lit (.bool ((decide (a0 = b0)) && (((decide (a1 = b1)) && ((decide (a2 = b2)) && ((decide (a3 = b3)) && true))) && true)))) := by kernel_rfl
@[go_sem] theorem Tryz.aeqn45 (σ : Store) (c : Bool) (a0 b0 : ByteArray) (a1 b1 : Int) (a2 b2 : ByteArray) (a3 b3 : ByteArray) : abin Tryz.prog σ .neq 45 c (.agg [.lit (.string a0), .lit (.int .i64 a1), .lit (.string a2), .lit (.string a3)]) (.agg [.lit (.string b0), .lit (.int .i64 b1), .lit (.string b2), .lit (.string b3)]) = some (.lit (.bool !((decide (a0 = b0)) && (((decide (a1 = b1)) && ((decide (a2 = b2)) && ((decide (a3 = b3)) && true))) && true)))) := by kernel_rfl
@[go_sem] theorem Tryz.aeq57 (σ : Store) (c : Bool) (a0 b0 : Int) (a1 b1 : ByteArray) : abin Tryz.prog σ .eql 57 c (.agg [.lit (.int .i64 a0), .lit (.string a1)]) (.agg [.lit (.int .i64 b0), .lit (.string b1)]) = some (.lit (.bool ((decide (a0 = b0)) && ((decide (a1 = b1)) && true)))) := by kernel_rfl
@[go_sem] theorem Tryz.aeqn57 (σ : Store) (c : Bool) (a0 b0 : Int) (a1 b1 : ByteArray) : abin Tryz.prog σ .neq 57 c (.agg [.lit (.int .i64 a0), .lit (.string a1)]) (.agg [.lit (.int .i64 b0), .lit (.string b1)]) = some (.lit (.bool !((decide (a0 = b0)) && ((decide (a1 = b1)) && true)))) := by kernel_rfl
@[go_sem] theorem Tryz.aeq58 (σ : Store) (c : Bool) (a0 b0 : Int) (a1 b1 : ByteArray) : abin Tryz.prog σ .eql 58 c (.agg [.lit (.int .i64 a0), .lit (.string a1)]) (.agg [.lit (.int .i64 b0), .lit (.string b1)]) = some (.lit (.bool ((decide (a0 = b0)) && ((decide (a1 = b1)) && true)))) := by kernel_rfl
@[go_sem] theorem Tryz.aeqn58 (σ : Store) (c : Bool) (a0 b0 : Int) (a1 b1 : ByteArray) : abin Tryz.prog σ .neq 58 c (.agg [.lit (.int .i64 a0), .lit (.string a1)]) (.agg [.lit (.int .i64 b0), .lit (.string b1)]) = some (.lit (.bool !((decide (a0 = b0)) && ((decide (a1 = b1)) && true)))) := by kernel_rfl
@[go_sem] theorem Tryz.aeq103 (σ : Store) (c : Bool) (a0 b0 : ByteArray) (a1 b1 : ByteArray) (a2 b2 : Int) (a3 b3 : Int) (a4 b4 : Int) (a5 b5 : Int) : abin Tryz.prog σ .eql 103 c (.agg [.lit (.string a0), .lit (.string a1), .lit (.int .i64 a2), .lit (.int .i64 a3), .lit (.int .i64 a4), .lit (.int .i64 a5)]) (.agg [.lit (.string b0), .lit (.string b1), .lit (.int .i64 b2), .lit (.int .i64 b3), .lit (.int .i64 b4), .lit (.int .i64 b5)]) = some (.lit (.bool ((decide (a0 = b0)) && ((decide (a1 = b1)) && ((decide (a2 = b2)) && ((decide (a3 = b3)) && ((decide (a4 = b4)) && ((decide (a5 = b5)) && true)))))))) := by kernel_rfl
@[go_sem] theorem Tryz.aeqn103 (σ : Store) (c : Bool) (a0 b0 : ByteArray) (a1 b1 : ByteArray) (a2 b2 : Int) (a3 b3 : Int) (a4 b4 : Int) (a5 b5 : Int) : abin Tryz.prog σ .neq 103 c (.agg [.lit (.string a0), .lit (.string a1), .lit (.int .i64 a2), .lit (.int .i64 a3), .lit (.int .i64 a4), .lit (.int .i64 a5)]) (.agg [.lit (.string b0), .lit (.string b1), .lit (.int .i64 b2), .lit (.int .i64 b3), .lit (.int .i64 b4), .lit (.int .i64 b5)]) = some (.lit (.bool !((decide (a0 = b0)) && ((decide (a1 = b1)) && ((decide (a2 = b2)) && ((decide (a3 = b3)) && ((decide (a4 = b4)) && ((decide (a5 = b5)) && true)))))))) := by kernel_rfl
@[go_sem] theorem Tryz.aeq104 (σ : Store) (c : Bool) (a0 b0 : ByteArray) (a1 b1 : ByteArray) (a2 b2 : Int) (a3 b3 : Int) (a4 b4 : Int) (a5 b5 : Int) : abin Tryz.prog σ .eql 104 c (.agg [.lit (.string a0), .lit (.string a1), .lit (.int .i64 a2), .lit (.int .i64 a3), .lit (.int .i64 a4), .lit (.int .i64 a5)]) (.agg [.lit (.string b0), .lit (.string b1), .lit (.int .i64 b2), .lit (.int .i64 b3), .lit (.int .i64 b4), .lit (.int .i64 b5)]) = some (.lit (.bool ((decide (a0 = b0)) && ((decide (a1 = b1)) && ((decide (a2 = b2)) && ((decide (a3 = b3)) && ((decide (a4 = b4)) && ((decide (a5 = b5)) && true)))))))) := by kernel_rfl
@[go_sem] theorem Tryz.aeqn104 (σ : Store) (c : Bool) (a0 b0 : ByteArray) (a1 b1 : ByteArray) (a2 b2 : Int) (a3 b3 : Int) (a4 b4 : Int) (a5 b5 : Int) : abin Tryz.prog σ .neq 104 c (.agg [.lit (.string a0), .lit (.string a1), .lit (.int .i64 a2), .lit (.int .i64 a3), .lit (.int .i64 a4), .lit (.int .i64 a5)]) (.agg [.lit (.string b0), .lit (.string b1), .lit (.int .i64 b2), .lit (.int .i64 b3), .lit (.int .i64 b4), .lit (.int .i64 b5)]) = some (.lit (.bool !((decide (a0 = b0)) && ((decide (a1 = b1)) && ((decide (a2 = b2)) && ((decide (a3 = b3)) && ((decide (a4 = b4)) && ((decide (a5 = b5)) && true)))))))) := by kernel_rfl
@[go_sem] theorem Tryz.aeq111 (σ : Store) (c : Bool) (a0 b0 : Int) (a1 b1 : Int) : abin Tryz.prog σ .eql 111 c (.agg [.lit (.int .i64 a0), .lit (.int .i64 a1)]) (.agg [.lit (.int .i64 b0), .lit (.int .i64 b1)]) = some (.lit (.bool ((decide (a0 = b0)) && ((decide (a1 = b1)) && true)))) := by kernel_rfl
@[go_sem] theorem Tryz.aeqn111 (σ : Store) (c : Bool) (a0 b0 : Int) (a1 b1 : Int) : abin Tryz.prog σ .neq 111 c (.agg [.lit (.int .i64 a0), .lit (.int .i64 a1)]) (.agg [.lit (.int .i64 b0), .lit (.int .i64 b1)]) = some (.lit (.bool !((decide (a0 = b0)) && ((decide (a1 = b1)) && true)))) := by kernel_rfl
@[go_sem] theorem Tryz.aeq112 (σ : Store) (c : Bool) (a0 b0 : Int) (a1 b1 : Int) : abin Tryz.prog σ .eql 112 c (.agg [.lit (.int .i64 a0), .lit (.int .i64 a1)]) (.agg [.lit (.int .i64 b0), .lit (.int .i64 b1)]) = some (.lit (.bool ((decide (a0 = b0)) && ((decide (a1 = b1)) && true)))) := by kernel_rfl
@[go_sem] theorem Tryz.aeqn112 (σ : Store) (c : Bool) (a0 b0 : Int) (a1 b1 : Int) : abin Tryz.prog σ .neq 112 c (.agg [.lit (.int .i64 a0), .lit (.int .i64 a1)]) (.agg [.lit (.int .i64 b0), .lit (.int .i64 b1)]) = some (.lit (.bool !((decide (a0 = b0)) && ((decide (a1 = b1)) && true)))) := by kernel_rfl
@[go_sem] theorem Tryz.aeq120 (σ : Store) (c : Bool) (a0 b0 : Int) (a1 b1 : ByteArray) (a2 b2 : ByteArray) : abin Tryz.prog σ .eql 120 c (.agg [.lit (.int .i64 a0), .lit (.string a1), .lit (.string a2)]) (.agg [.lit (.int .i64 b0), .lit (.string b1), .lit (.string b2)]) = some (.lit (.bool ((decide (a0 = b0)) && ((decide (a1 = b1)) && ((decide (a2 = b2)) && true))))) := by kernel_rfl
@[go_sem] theorem Tryz.aeqn120 (σ : Store) (c : Bool) (a0 b0 : Int) (a1 b1 : ByteArray) (a2 b2 : ByteArray) : abin Tryz.prog σ .neq 120 c (.agg [.lit (.int .i64 a0), .lit (.string a1), .lit (.string a2)]) (.agg [.lit (.int .i64 b0), .lit (.string b1), .lit (.string b2)]) = some (.lit (.bool !((decide (a0 = b0)) && ((decide (a1 = b1)) && ((decide (a2 = b2)) && true))))) := by kernel_rfl
@[go_sem] theorem Tryz.aeq121 (σ : Store) (c : Bool) (a0 b0 : Int) (a1 b1 : ByteArray) (a2 b2 : ByteArray) : abin Tryz.prog σ .eql 121 c (.agg [.lit (.int .i64 a0), .lit (.string a1), .lit (.string a2)]) (.agg [.lit (.int .i64 b0), .lit (.string b1), .lit (.string b2)]) = some (.lit (.bool ((decide (a0 = b0)) && ((decide (a1 = b1)) && ((decide (a2 = b2)) && true))))) := by kernel_rfl
@[go_sem] theorem Tryz.aeqn121 (σ : Store) (c : Bool) (a0 b0 : Int) (a1 b1 : ByteArray) (a2 b2 : ByteArray) : abin Tryz.prog σ .neq 121 c (.agg [.lit (.int .i64 a0), .lit (.string a1), .lit (.string a2)]) (.agg [.lit (.int .i64 b0), .lit (.string b1), .lit (.string b2)]) = some (.lit (.bool !((decide (a0 = b0)) && ((decide (a1 = b1)) && ((decide (a2 = b2)) && true))))) := by kernel_rfl
@[go_sem] theorem Tryz.aeq130 (σ : Store) (c : Bool) (a0 b0 : ByteArray) (a1 b1 : Int) (a2 b2 : Int) (a3 b3 : Int) : abin Tryz.prog σ .eql 130 c (.agg [.lit (.string a0), .lit (.int .i64 a1), .lit (.int .i64 a2), .lit (.int .i64 a3)]) (.agg [.lit (.string b0), .lit (.int .i64 b1), .lit (.int .i64 b2), .lit (.int .i64 b3)]) = some (.lit (.bool ((decide (a0 = b0)) && ((decide (a1 = b1)) && ((decide (a2 = b2)) && ((decide (a3 = b3)) && true)))))) := by kernel_rfl
@[go_sem] theorem Tryz.aeqn130 (σ : Store) (c : Bool) (a0 b0 : ByteArray) (a1 b1 : Int) (a2 b2 : Int) (a3 b3 : Int) : abin Tryz.prog σ .neq 130 c (.agg [.lit (.string a0), .lit (.int .i64 a1), .lit (.int .i64 a2), .lit (.int .i64 a3)]) (.agg [.lit (.string b0), .lit (.int .i64 b1), .lit (.int .i64 b2), .lit (.int .i64 b3)]) = some (.lit (.bool !((decide (a0 = b0)) && ((decide (a1 = b1)) && ((decide (a2 = b2)) && ((decide (a3 = b3)) && true)))))) := by kernel_rfl
@[go_sem] theorem Tryz.aeq131 (σ : Store) (c : Bool) (a0 b0 : ByteArray) (a1 b1 : Int) (a2 b2 : Int) (a3 b3 : Int) : abin Tryz.prog σ .eql 131 c (.agg [.lit (.string a0), .lit (.int .i64 a1), .lit (.int .i64 a2), .lit (.int .i64 a3)]) (.agg [.lit (.string b0), .lit (.int .i64 b1), .lit (.int .i64 b2), .lit (.int .i64 b3)]) = some (.lit (.bool ((decide (a0 = b0)) && ((decide (a1 = b1)) && ((decide (a2 = b2)) && ((decide (a3 = b3)) && true)))))) := by kernel_rfl
@[go_sem] theorem Tryz.aeqn131 (σ : Store) (c : Bool) (a0 b0 : ByteArray) (a1 b1 : Int) (a2 b2 : Int) (a3 b3 : Int) : abin Tryz.prog σ .neq 131 c (.agg [.lit (.string a0), .lit (.int .i64 a1), .lit (.int .i64 a2), .lit (.int .i64 a3)]) (.agg [.lit (.string b0), .lit (.int .i64 b1), .lit (.int .i64 b2), .lit (.int .i64 b3)]) = some (.lit (.bool !((decide (a0 = b0)) && ((decide (a1 = b1)) && ((decide (a2 = b2)) && ((decide (a3 = b3)) && true)))))) := by kernel_rfl
@[go_sem] theorem Tryz.aeq153 (σ : Store) (c : Bool) (a0 b0 : Int) (a1 b1 : Int) (a2 b2 : Int) (a3 b3 : Int) (a4 b4 : Int) (a5 b5 : Bool) (a6 b6 : Bool) (a7 b7 : Bool) : abin Tryz.prog σ .eql 153 c (.agg [.lit (.int .i64 a0), .lit (.int .i64 a1), .lit (.int .i64 a2), .lit (.int .i64 a3), .lit (.int .i64 a4), .lit (.bool a5), .lit (.bool a6), .lit (.bool a7)]) (.agg [.lit (.int .i64 b0), .lit (.int .i64 b1), .lit (.int .i64 b2), .lit (.int .i64 b3), .lit (.int .i64 b4), .lit (.bool b5), .lit (.bool b6), .lit (.bool b7)]) = some (.lit (.bool ((decide (a0 = b0)) && ((decide (a1 = b1)) && ((decide (a2 = b2)) && ((decide (a3 = b3)) && ((decide (a4 = b4)) && ((a5 == b5) && ((a6 == b6) && ((a7 == b7) && true)))))))))) := by kernel_rfl
@[go_sem] theorem Tryz.aeqn153 (σ : Store) (c : Bool) (a0 b0 : Int) (a1 b1 : Int) (a2 b2 : Int) (a3 b3 : Int) (a4 b4 : Int) (a5 b5 : Bool) (a6 b6 : Bool) (a7 b7 : Bool) : abin Tryz.prog σ .neq 153 c (.agg [.lit (.int .i64 a0), .lit (.int .i64 a1), .lit (.int .i64 a2), .lit (.int .i64 a3), .lit (.int .i64 a4), .lit (.bool a5), .lit (.bool a6), .lit (.bool a7)]) (.agg [.lit (.int .i64 b0), .lit (.int .i64 b1), .lit (.int .i64 b2), .lit (.int .i64 b3), .lit (.int .i64 b4), .lit (.bool b5), .lit (.bool b6), .lit (.bool b7)]) = some (.lit (.bool !((decide (a0 = b0)) && ((decide (a1 = b1)) && ((decide (a2 = b2)) && ((decide (a3 = b3)) && ((decide (a4 = b4)) && ((a5 == b5) && ((a6 == b6) && ((a7 == b7) && true)))))))))) := by kernel_rfl
@[go_sem] theorem Tryz.aeq154 (σ : Store) (c : Bool) (a0 b0 : Int) (a1 b1 : Int) (a2 b2 : Int) (a3 b3 : Int) (a4 b4 : Int) (a5 b5 : Bool) (a6 b6 : Bool) (a7 b7 : Bool) : abin Tryz.prog σ .eql 154 c (.agg [.lit (.int .i64 a0), .lit (.int .i64 a1), .lit (.int .i64 a2), .lit (.int .i64 a3), .lit (.int .i64 a4), .lit (.bool a5), .lit (.bool a6), .lit (.bool a7)]) (.agg [.lit (.int .i64 b0), .lit (.int .i64 b1), .lit (.int .i64 b2), .lit (.int .i64 b3), .lit (.int .i64 b4), .lit (.bool b5), .lit (.bool b6), .lit (.bool b7)]) = some (.lit (.bool ((decide (a0 = b0)) && ((decide (a1 = b1)) && ((decide (a2 = b2)) && ((decide (a3 = b3)) && ((decide (a4 = b4)) && ((a5 == b5) && ((a6 == b6) && ((a7 == b7) && true)))))))))) := by kernel_rfl
@[go_sem] theorem Tryz.aeqn154 (σ : Store) (c : Bool) (a0 b0 : Int) (a1 b1 : Int) (a2 b2 : Int) (a3 b3 : Int) (a4 b4 : Int) (a5 b5 : Bool) (a6 b6 : Bool) (a7 b7 : Bool) : abin Tryz.prog σ .neq 154 c (.agg [.lit (.int .i64 a0), .lit (.int .i64 a1), .lit (.int .i64 a2), .lit (.int .i64 a3), .lit (.int .i64 a4), .lit (.bool a5), .lit (.bool a6), .lit (.bool a7)]) (.agg [.lit (.int .i64 b0), .lit (.int .i64 b1), .lit (.int .i64 b2), .lit (.int .i64 b3), .lit (.int .i64 b4), .lit (.bool b5), .lit (.bool b6), .lit (.bool b7)]) = some (.lit (.bool !((decide (a0 = b0)) && ((decide (a1 = b1)) && ((decide (a2 = b2)) && ((decide (a3 = b3)) && ((decide (a4 = b4)) && ((a5 == b5) && ((a6 == b6) && ((a7 == b7) && true)))))))))) := by kernel_rfl
@[go_sem] theorem Tryz.aeq202 (σ : Store) (c : Bool) (a0 b0 : ByteArray) (a1 b1 : ByteArray) (a2 b2 : ByteArray) (a3 b3 : Bool) : abin Tryz.prog σ .eql 202 c (.agg [.lit (.string a0), .lit (.string a1), .lit (.string a2), .lit (.bool a3)]) (.agg [.lit (.string b0), .lit (.string b1), .lit (.string b2), .lit (.bool b3)]) = some (.lit (.bool ((decide (a0 = b0)) && ((decide (a1 = b1)) && ((decide (a2 = b2)) && ((a3 == b3) && true)))))) := by kernel_rfl
@[go_sem] theorem Tryz.aeqn202 (σ : Store) (c : Bool) (a0 b0 : ByteArray) (a1 b1 : ByteArray) (a2 b2 : ByteArray) (a3 b3 : Bool) : abin Tryz.prog σ .neq 202 c (.agg [.lit (.string a0), .lit (.string a1), .lit (.string a2), .lit (.bool a3)]) (.agg [.lit (.string b0), .lit (.string b1), .lit (.string b2), .lit (.bool b3)]) = some (.lit (.bool !((decide (a0 = b0)) && ((decide (a1 = b1)) && ((decide (a2 = b2)) && ((a3 == b3) && true)))))) := by kernel_rfl
@[go_sem] theorem Tryz.aeq221 (σ : Store) (c : Bool) (a0 b0 : Int) (a1 b1 : ByteArray) (a2 b2 : ByteArray) : abin Tryz.prog σ .eql 221 c (.agg [.lit (.int .i64 a0), .lit (.string a1), .lit (.string a2)]) (.agg [.lit (.int .i64 b0), .lit (.string b1), .lit (.string b2)]) = some (.lit (.bool ((decide (a0 = b0)) && ((decide (a1 = b1)) && ((decide (a2 = b2)) && true))))) := by kernel_rfl
@[go_sem] theorem Tryz.aeqn221 (σ : Store) (c : Bool) (a0 b0 : Int) (a1 b1 : ByteArray) (a2 b2 : ByteArray) : abin Tryz.prog σ .neq 221 c (.agg [.lit (.int .i64 a0), .lit (.string a1), .lit (.string a2)]) (.agg [.lit (.int .i64 b0), .lit (.string b1), .lit (.string b2)]) = some (.lit (.bool !((decide (a0 = b0)) && ((decide (a1 = b1)) && ((decide (a2 = b2)) && true))))) := by kernel_rfl
@[go_sem] theorem Tryz.aeq263 (σ : Store) (c : Bool) (a0 b0 : ByteArray) : abin Tryz.prog σ .eql 263 c (.agg [.lit (.string a0)]) (.agg [.lit (.string b0)]) = some (.lit (.bool ((decide (a0 = b0)) && true))) := by kernel_rfl
@[go_sem] theorem Tryz.aeqn263 (σ : Store) (c : Bool) (a0 b0 : ByteArray) : abin Tryz.prog σ .neq 263 c (.agg [.lit (.string a0)]) (.agg [.lit (.string b0)]) = some (.lit (.bool !((decide (a0 = b0)) && true))) := by kernel_rfl
@[go_sem] theorem Tryz.aeq264 (σ : Store) (c : Bool) (a0 b0 : ByteArray) : abin Tryz.prog σ .eql 264 c (.agg [.lit (.string a0)]) (.agg [.lit (.string b0)]) = some (.lit (.bool ((decide (a0 = b0)) && true))) := by kernel_rfl
@[go_sem] theorem Tryz.aeqn264 (σ : Store) (c : Bool) (a0 b0 : ByteArray) : abin Tryz.prog σ .neq 264 c (.agg [.lit (.string a0)]) (.agg [.lit (.string b0)]) = some (.lit (.bool !((decide (a0 = b0)) && true))) := by kernel_rfl
@[go_sem] theorem Tryz.aeq271 (σ : Store) (c : Bool) (a0 b0 : Int) (a1 b1 : Int) : abin Tryz.prog σ .eql 271 c (.agg [.lit (.int .u8 a0), .lit (.int .u8 a1)]) (.agg [.lit (.int .u8 b0), .lit (.int .u8 b1)]) = some (.lit (.bool ((decide (a0 = b0)) && ((decide (a1 = b1)) && true)))) := by kernel_rfl
@[go_sem] theorem Tryz.aeqn271 (σ : Store) (c : Bool) (a0 b0 : Int) (a1 b1 : Int) : abin Tryz.prog σ .neq 271 c (.agg [.lit (.int .u8 a0), .lit (.int .u8 a1)]) (.agg [.lit (.int .u8 b0), .lit (.int .u8 b1)]) = some (.lit (.bool !((decide (a0 = b0)) && ((decide (a1 = b1)) && true)))) := by kernel_rfl
@[go_sem] theorem Tryz.aeq272 (σ : Store) (c : Bool) (a0 b0 : Int) (a1 b1 : Int) : abin Tryz.prog σ .eql 272 c (.agg [.lit (.int .u8 a0), .lit (.int .u8 a1)]) (.agg [.lit (.int .u8 b0), .lit (.int .u8 b1)]) = some (.lit (.bool ((decide (a0 = b0)) && ((decide (a1 = b1)) && true)))) := by kernel_rfl
@[go_sem] theorem Tryz.aeqn272 (σ : Store) (c : Bool) (a0 b0 : Int) (a1 b1 : Int) : abin Tryz.prog σ .neq 272 c (.agg [.lit (.int .u8 a0), .lit (.int .u8 a1)]) (.agg [.lit (.int .u8 b0), .lit (.int .u8 b1)]) = some (.lit (.bool !((decide (a0 = b0)) && ((decide (a1 = b1)) && true)))) := by kernel_rfl
@[go_sem] theorem Tryz.ago3 : isGo Tryz.prog 3 = true := by kernel_rfl
@[go_sem] theorem Tryz.ago4 : isGo Tryz.prog 4 = true := by kernel_rfl
@[go_sem] theorem Tryz.ago5 : isGo Tryz.prog 5 = true := by kernel_rfl
@[go_sem] theorem Tryz.ago6 : isGo Tryz.prog 6 = true := by kernel_rfl
@[go_sem] theorem Tryz.ago7 : isGo Tryz.prog 7 = true := by kernel_rfl
@[go_sem] theorem Tryz.ago8 : isGo Tryz.prog 8 = true := by kernel_rfl
@[go_sem] theorem Tryz.ago9 : isGo Tryz.prog 9 = true := by kernel_rfl
@[go_sem] theorem Tryz.ago10 : isGo Tryz.prog 10 = true := by kernel_rfl
@[go_sem] theorem Tryz.ago11 : isGo Tryz.prog 11 = true := by kernel_rfl
@[go_sem] theorem Tryz.ago12 : isGo Tryz.prog 12 = true := by kernel_rfl
@[go_sem] theorem Tryz.ago13 : isGo Tryz.prog 13 = true := by kernel_rfl
@[go_sem] theorem Tryz.ago14 : isGo Tryz.prog 14 = true := by kernel_rfl
@[go_sem] theorem Tryz.ago15 : isGo Tryz.prog 15 = true := by kernel_rfl
@[go_sem] theorem Tryz.ago16 : isGo Tryz.prog 16 = true := by kernel_rfl
@[go_sem] theorem Tryz.ago17 : isGo Tryz.prog 17 = true := by kernel_rfl
@[go_sem] theorem Tryz.ago18 : isGo Tryz.prog 18 = true := by kernel_rfl
@[go_sem] theorem Tryz.ago19 : isGo Tryz.prog 19 = true := by kernel_rfl
@[go_sem] theorem Tryz.ago20 : isGo Tryz.prog 20 = true := by kernel_rfl
@[go_sem] theorem Tryz.ago21 : isGo Tryz.prog 21 = true := by kernel_rfl
@[go_sem] theorem Tryz.ago22 : isGo Tryz.prog 22 = true := by kernel_rfl
@[go_sem] theorem Tryz.ago23 : isGo Tryz.prog 23 = true := by kernel_rfl
@[go_sem] theorem Tryz.ago24 : isGo Tryz.prog 24 = true := by kernel_rfl
@[go_sem] theorem Tryz.ago25 : isGo Tryz.prog 25 = true := by kernel_rfl
@[go_sem] theorem Tryz.ago26 : isGo Tryz.prog 26 = true := by kernel_rfl
@[go_sem] theorem Tryz.ago28 : isGo Tryz.prog 28 = true := by kernel_rfl
@[go_sem] theorem Tryz.ago29 : isGo Tryz.prog 29 = true := by kernel_rfl
@[go_sem] theorem Tryz.ago30 : isGo Tryz.prog 30 = true := by kernel_rfl
@[go_sem] theorem Tryz.ago31 : isGo Tryz.prog 31 = true := by kernel_rfl
@[go_sem] theorem Tryz.ago32 : isGo Tryz.prog 32 = true := by kernel_rfl
@[go_sem] theorem Tryz.ago33 : isGo Tryz.prog 33 = true := by kernel_rfl
@[go_sem] theorem Tryz.ago34 : isGo Tryz.prog 34 = true := by kernel_rfl
@[go_sem] theorem Tryz.ago35 : isGo Tryz.prog 35 = true := by kernel_rfl
@[go_sem] theorem Tryz.ago36 : isGo Tryz.prog 36 = true := by kernel_rfl
@[go_sem] theorem Tryz.ago37 : isGo Tryz.prog 37 = true := by kernel_rfl
@[go_sem] theorem Tryz.ago38 : isGo Tryz.prog 38 = true := by kernel_rfl
@[go_sem] theorem Tryz.ago39 : isGo Tryz.prog 39 = true := by kernel_rfl
@[go_sem] theorem Tryz.ago40 : isGo Tryz.prog 40 = true := by kernel_rfl
@[go_sem] theorem Tryz.ago42 : isGo Tryz.prog 42 = true := by kernel_rfl
@[go_sem] theorem Tryz.ago43 : isGo Tryz.prog 43 = true := by kernel_rfl
@[go_sem] theorem Tryz.ago44 : isGo Tryz.prog 44 = true := by kernel_rfl
@[go_sem] theorem Tryz.ago45 : isGo Tryz.prog 45 = true := by kernel_rfl
@[go_sem] theorem Tryz.ago46 : isGo Tryz.prog 46 = true := by kernel_rfl
@[go_sem] theorem Tryz.ago47 : isGo Tryz.prog 47 = true := by kernel_rfl
@[go_sem] theorem Tryz.ago48 : isGo Tryz.prog 48 = true := by kernel_rfl
@[go_sem] theorem Tryz.ago49 : isGo Tryz.prog 49 = true := by kernel_rfl
@[go_sem] theorem Tryz.ago50 : isGo Tryz.prog 50 = true := by kernel_rfl
@[go_sem] theorem Tryz.ago51 : isGo Tryz.prog 51 = true := by kernel_rfl
@[go_sem] theorem Tryz.ago52 : isGo Tryz.prog 52 = true := by kernel_rfl
@[go_sem] theorem Tryz.ago53 : isGo Tryz.prog 53 = true := by kernel_rfl
@[go_sem] theorem Tryz.ago54 : isGo Tryz.prog 54 = true := by kernel_rfl
@[go_sem] theorem Tryz.ago55 : isGo Tryz.prog 55 = true := by kernel_rfl
@[go_sem] theorem Tryz.ago56 : isGo Tryz.prog 56 = true := by kernel_rfl
@[go_sem] theorem Tryz.ago57 : isGo Tryz.prog 57 = true := by kernel_rfl
@[go_sem] theorem Tryz.ago58 : isGo Tryz.prog 58 = true := by kernel_rfl
@[go_sem] theorem Tryz.ago59 : isGo Tryz.prog 59 = true := by kernel_rfl
@[go_sem] theorem Tryz.ago60 : isGo Tryz.prog 60 = true := by kernel_rfl
@[go_sem] theorem Tryz.ago61 : isGo Tryz.prog 61 = true := by kernel_rfl
@[go_sem] theorem Tryz.ago62 : isGo Tryz.prog 62 = true := by kernel_rfl
@[go_sem] theorem Tryz.ago63 : isGo Tryz.prog 63 = true := by kernel_rfl
@[go_sem] theorem Tryz.ago64 : isGo Tryz.prog 64 = true := by kernel_rfl
@[go_sem] theorem Tryz.ago65 : isGo Tryz.prog 65 = true := by kernel_rfl
@[go_sem] theorem Tryz.ago66 : isGo Tryz.prog 66 = true := by kernel_rfl
@[go_sem] theorem Tryz.ago67 : isGo Tryz.prog 67 = true := by kernel_rfl
@[go_sem] theorem Tryz.ago70 : isGo Tryz.prog 70 = true := by kernel_rfl
@[go_sem] theorem Tryz.ago71 : isGo Tryz.prog 71 = true := by kernel_rfl
@[go_sem] theorem Tryz.ago72 : isGo Tryz.prog 72 = true := by kernel_rfl
@[go_sem] theorem Tryz.ago73 : isGo Tryz.prog 73 = true := by kernel_rfl
@[go_sem] theorem Tryz.ago74 : isGo Tryz.prog 74 = true := by kernel_rfl
@[go_sem] theorem Tryz.ago76 : isGo Tryz.prog 76 = true := by kernel_rfl
@[go_sem] theorem Tryz.ago77 : isGo Tryz.prog 77 = true := by kernel_rfl
@[go_sem] theorem Tryz.ago78 : isGo Tryz.prog 78 = true := by kernel_rfl
@[go_sem] theorem Tryz.ago80 : isGo Tryz.prog 80 = true := by kernel_rfl
@[go_sem] theorem Tryz.ago81 : isGo Tryz.prog 81 = true := by kernel_rfl
@[go_sem] theorem Tryz.ago82 : isGo Tryz.prog 82 = true := by kernel_rfl
@[go_sem] theorem Tryz.ago83 : isGo Tryz.prog 83 = true := by kernel_rfl
@[go_sem] theorem Tryz.ago84 : isGo Tryz.prog 84 = true := by kernel_rfl
@[go_sem] theorem Tryz.ago85 : isGo Tryz.prog 85 = true := by kernel_rfl
@[go_sem] theorem Tryz.ago86 : isGo Tryz.prog 86 = true := by kernel_rfl
@[go_sem] theorem Tryz.ago87 : isGo Tryz.prog 87 = true := by kernel_rfl
@[go_sem] theorem Tryz.ago88 : isGo Tryz.prog 88 = true := by kernel_rfl
@[go_sem] theorem Tryz.ago89 : isGo Tryz.prog 89 = true := by kernel_rfl
@[go_sem] theorem Tryz.ago90 : isGo Tryz.prog 90 = true := by kernel_rfl
@[go_sem] theorem Tryz.ago91 : isGo Tryz.prog 91 = true := by kernel_rfl
@[go_sem] theorem Tryz.ago92 : isGo Tryz.prog 92 = true := by kernel_rfl
@[go_sem] theorem Tryz.ago93 : isGo Tryz.prog 93 = true := by kernel_rfl
@[go_sem] theorem Tryz.ago94 : isGo Tryz.prog 94 = true := by kernel_rfl
@[go_sem] theorem Tryz.ago95 : isGo Tryz.prog 95 = true := by kernel_rfl
@[go_sem] theorem Tryz.ago96 : isGo Tryz.prog 96 = true := by kernel_rfl
@[go_sem] theorem Tryz.ago97 : isGo Tryz.prog 97 = true := by kernel_rfl
@[go_sem] theorem Tryz.ago98 : isGo Tryz.prog 98 = true := by kernel_rfl
@[go_sem] theorem Tryz.ago99 : isGo Tryz.prog 99 = true := by kernel_rfl
@[go_sem] theorem Tryz.ago100 : isGo Tryz.prog 100 = true := by kernel_rfl
@[go_sem] theorem Tryz.ago101 : isGo Tryz.prog 101 = true := by kernel_rfl
@[go_sem] theorem Tryz.ago102 : isGo Tryz.prog 102 = true := by kernel_rfl
@[go_sem] theorem Tryz.ago103 : isGo Tryz.prog 103 = true := by kernel_rfl
@[go_sem] theorem Tryz.ago104 : isGo Tryz.prog 104 = true := by kernel_rfl
@[go_sem] theorem Tryz.ago105 : isGo Tryz.prog 105 = true := by kernel_rfl
@[go_sem] theorem Tryz.ago106 : isGo Tryz.prog 106 = true := by kernel_rfl
@[go_sem] theorem Tryz.ago107 : isGo Tryz.prog 107 = true := by kernel_rfl
@[go_sem] theorem Tryz.ago108 : isGo Tryz.prog 108 = true := by kernel_rfl
@[go_sem] theorem Tryz.ago109 : isGo Tryz.prog 109 = true := by kernel_rfl
@[go_sem] theorem Tryz.ago110 : isGo Tryz.prog 110 = true := by kernel_rfl
@[go_sem] theorem Tryz.ago111 : isGo Tryz.prog 111 = true := by kernel_rfl
@[go_sem] theorem Tryz.ago112 : isGo Tryz.prog 112 = true := by kernel_rfl
@[go_sem] theorem Tryz.ago113 : isGo Tryz.prog 113 = true := by kernel_rfl
@[go_sem] theorem Tryz.ago114 : isGo Tryz.prog 114 = true := by kernel_rfl
@[go_sem] theorem Tryz.ago115 : isGo Tryz.prog 115 = true := by kernel_rfl
@[go_sem] theorem Tryz.ago116 : isGo Tryz.prog 116 = true := by kernel_rfl
@[go_sem] theorem Tryz.ago117 : isGo Tryz.prog 117 = true := by kernel_rfl
@[go_sem] theorem Tryz.ago118 : isGo Tryz.prog 118 = true := by kernel_rfl
@[go_sem] theorem Tryz.ago119 : isGo Tryz.prog 119 = true := by kernel_rfl
@[go_sem] theorem Tryz.ago120 : isGo Tryz.prog 120 = true := by kernel_rfl
@[go_sem] theorem Tryz.ago121 : isGo Tryz.prog 121 = true := by kernel_rfl
@[go_sem] theorem Tryz.ago122 : isGo Tryz.prog 122 = true := by kernel_rfl
@[go_sem] theorem Tryz.ago123 : isGo Tryz.prog 123 = true := by kernel_rfl
@[go_sem] theorem Tryz.ago125 : isGo Tryz.prog 125 = true := by kernel_rfl
@[go_sem] theorem Tryz.ago126 : isGo Tryz.prog 126 = true := by kernel_rfl
@[go_sem] theorem Tryz.ago127 : isGo Tryz.prog 127 = true := by kernel_rfl
@[go_sem] theorem Tryz.ago128 : isGo Tryz.prog 128 = true := by kernel_rfl
@[go_sem] theorem Tryz.ago129 : isGo Tryz.prog 129 = true := by kernel_rfl
@[go_sem] theorem Tryz.ago130 : isGo Tryz.prog 130 = true := by kernel_rfl
@[go_sem] theorem Tryz.ago131 : isGo Tryz.prog 131 = true := by kernel_rfl
@[go_sem] theorem Tryz.ago132 : isGo Tryz.prog 132 = true := by kernel_rfl
@[go_sem] theorem Tryz.ago133 : isGo Tryz.prog 133 = true := by kernel_rfl
@[go_sem] theorem Tryz.ago134 : isGo Tryz.prog 134 = true := by kernel_rfl
@[go_sem] theorem Tryz.ago139 : isGo Tryz.prog 139 = true := by kernel_rfl
@[go_sem] theorem Tryz.ago142 : isGo Tryz.prog 142 = true := by kernel_rfl
@[go_sem] theorem Tryz.ago144 : isGo Tryz.prog 144 = true := by kernel_rfl
@[go_sem] theorem Tryz.ago145 : isGo Tryz.prog 145 = true := by kernel_rfl
@[go_sem] theorem Tryz.ago146 : isGo Tryz.prog 146 = true := by kernel_rfl
@[go_sem] theorem Tryz.ago147 : isGo Tryz.prog 147 = true := by kernel_rfl
@[go_sem] theorem Tryz.ago148 : isGo Tryz.prog 148 = true := by kernel_rfl
@[go_sem] theorem Tryz.ago149 : isGo Tryz.prog 149 = true := by kernel_rfl
@[go_sem] theorem Tryz.ago150 : isGo Tryz.prog 150 = true := by kernel_rfl
@[go_sem] theorem Tryz.ago151 : isGo Tryz.prog 151 = true := by kernel_rfl
@[go_sem] theorem Tryz.ago152 : isGo Tryz.prog 152 = true := by kernel_rfl
@[go_sem] theorem Tryz.ago153 : isGo Tryz.prog 153 = true := by kernel_rfl
@[go_sem] theorem Tryz.ago154 : isGo Tryz.prog 154 = true := by kernel_rfl
@[go_sem] theorem Tryz.ago155 : isGo Tryz.prog 155 = true := by kernel_rfl
@[go_sem] theorem Tryz.ago156 : isGo Tryz.prog 156 = true := by kernel_rfl
@[go_sem] theorem Tryz.ago157 : isGo Tryz.prog 157 = true := by kernel_rfl
@[go_sem] theorem Tryz.ago158 : isGo Tryz.prog 158 = true := by kernel_rfl
@[go_sem] theorem Tryz.ago159 : isGo Tryz.prog 159 = true := by kernel_rfl
@[go_sem] theorem Tryz.ago160 : isGo Tryz.prog 160 = true := by kernel_rfl
@[go_sem] theorem Tryz.ago161 : isGo Tryz.prog 161 = true := by kernel_rfl
@[go_sem] theorem Tryz.ago162 : isGo Tryz.prog 162 = true := by kernel_rfl
@[go_sem] theorem Tryz.ago163 : isGo Tryz.prog 163 = true := by kernel_rfl
@[go_sem] theorem Tryz.ago164 : isGo Tryz.prog 164 = true := by kernel_rfl
@[go_sem] theorem Tryz.ago165 : isGo Tryz.prog 165 = true := by kernel_rfl
@[go_sem] theorem Tryz.ago166 : isGo Tryz.prog 166 = true := by kernel_rfl
@[go_sem] theorem Tryz.ago167 : isGo Tryz.prog 167 = true := by kernel_rfl
@[go_sem] theorem Tryz.ago169 : isGo Tryz.prog 169 = true := by kernel_rfl
@[go_sem] theorem Tryz.ago170 : isGo Tryz.prog 170 = true := by kernel_rfl
@[go_sem] theorem Tryz.ago171 : isGo Tryz.prog 171 = true := by kernel_rfl
@[go_sem] theorem Tryz.ago172 : isGo Tryz.prog 172 = true := by kernel_rfl
@[go_sem] theorem Tryz.ago173 : isGo Tryz.prog 173 = true := by kernel_rfl
@[go_sem] theorem Tryz.ago174 : isGo Tryz.prog 174 = true := by kernel_rfl
@[go_sem] theorem Tryz.ago176 : isGo Tryz.prog 176 = true := by kernel_rfl
@[go_sem] theorem Tryz.ago178 : isGo Tryz.prog 178 = true := by kernel_rfl
@[go_sem] theorem Tryz.ago179 : isGo Tryz.prog 179 = true := by kernel_rfl
@[go_sem] theorem Tryz.ago180 : isGo Tryz.prog 180 = true := by kernel_rfl
@[go_sem] theorem Tryz.ago185 : isGo Tryz.prog 185 = true := by kernel_rfl
@[go_sem] theorem Tryz.ago186 : isGo Tryz.prog 186 = true := by kernel_rfl
@[go_sem] theorem Tryz.ago187 : isGo Tryz.prog 187 = true := by kernel_rfl
@[go_sem] theorem Tryz.ago188 : isGo Tryz.prog 188 = true := by kernel_rfl
@[go_sem] theorem Tryz.ago190 : isGo Tryz.prog 190 = true := by kernel_rfl
@[go_sem] theorem Tryz.ago191 : isGo Tryz.prog 191 = true := by kernel_rfl
@[go_sem] theorem Tryz.ago192 : isGo Tryz.prog 192 = true := by kernel_rfl
@[go_sem] theorem Tryz.ago193 : isGo Tryz.prog 193 = true := by kernel_rfl
@[go_sem] theorem Tryz.ago194 : isGo Tryz.prog 194 = true := by kernel_rfl
@[go_sem] theorem Tryz.ago195 : isGo Tryz.prog 195 = true := by kernel_rfl
@[go_sem] theorem Tryz.ago196 : isGo Tryz.prog 196 = true := by kernel_rfl
@[go_sem] theorem Tryz.ago197 : isGo Tryz.prog 197 = true := by kernel_rfl
@[go_sem] theorem Tryz.ago198 : isGo Tryz.prog 198 = true := by kernel_rfl
@[go_sem] theorem Tryz.ago199 : isGo Tryz.prog 199 = true := by kernel_rfl
@[go_sem] theorem Tryz.ago200 : isGo Tryz.prog 200 = true := by kernel_rfl
@[go_sem] theorem Tryz.ago201 : isGo Tryz.prog 201 = true := by kernel_rfl
@[go_sem] theorem Tryz.ago202 : isGo Tryz.prog 202 = true := by kernel_rfl
@[go_sem] theorem Tryz.ago203 : isGo Tryz.prog 203 = true := by kernel_rfl
@[go_sem] theorem Tryz.ago206 : isGo Tryz.prog 206 = true := by kernel_rfl
@[go_sem] theorem Tryz.ago207 : isGo Tryz.prog 207 = true := by kernel_rfl
@[go_sem] theorem Tryz.ago208 : isGo Tryz.prog 208 = true := by kernel_rfl
@[go_sem] theorem Tryz.ago209 : isGo Tryz.prog 209 = true := by kernel_rfl
@[go_sem] theorem Tryz.ago213 : isGo Tryz.prog 213 = true := by kernel_rfl
@[go_sem] theorem Tryz.ago214 : isGo Tryz.prog 214 = true := by kernel_rfl
@[go_sem] theorem Tryz.ago215 : isGo Tryz.prog 215 = true := by kernel_rfl
@[go_sem] theorem Tryz.ago216 : isGo Tryz.prog 216 = true := by kernel_rfl
@[go_sem] theorem Tryz.ago217 : isGo Tryz.prog 217 = true := by kernel_rfl
@[go_sem] theorem Tryz.ago219 : isGo Tryz.prog 219 = true := by kernel_rfl
@[go_sem] theorem Tryz.ago221 : isGo Tryz.prog 221 = true := by kernel_rfl
@[go_sem] theorem Tryz.ago222 : isGo Tryz.prog 222 = true := by kernel_rfl
@[go_sem] theorem Tryz.ago223 : isGo Tryz.prog 223 = true := by kernel_rfl
@[go_sem] theorem Tryz.ago224 : isGo Tryz.prog 224 = true := by kernel_rfl
@[go_sem] theorem Tryz.ago225 : isGo Tryz.prog 225 = true := by kernel_rfl
@[go_sem] theorem Tryz.ago226 : isGo Tryz.prog 226 = true := by kernel_rfl
@[go_sem] theorem Tryz.ago227 : isGo Tryz.prog 227 = true := by kernel_rfl
@[go_sem] theorem Tryz.ago228 : isGo Tryz.prog 228 = true := by kernel_rfl
@[go_sem] theorem Tryz.ago229 : isGo Tryz.prog 229 = true := by kernel_rfl
@[go_sem] theorem Tryz.ago231 : isGo Tryz.prog 231 = true := by kernel_rfl
@[go_sem] theorem Tryz.ago234 : isGo Tryz.prog 234 = true := by kernel_rfl
@[go_sem] theorem Tryz.ago235 : isGo Tryz.prog 235 = true := by kernel_rfl
@[go_sem] theorem Tryz.ago238 : isGo Tryz.prog 238 = true := by kernel_rfl
@[go_sem] theorem Tryz.ago240 : isGo Tryz.prog 240 = true := by kernel_rfl
@[go_sem] theorem Tryz.ago241 : isGo Tryz.prog 241 = true := by kernel_rfl
@[go_sem] theorem Tryz.ago242 : isGo Tryz.prog 242 = true := by kernel_rfl
@[go_sem] theorem Tryz.ago243 : isGo Tryz.prog 243 = true := by kernel_rfl
@[go_sem] theorem Tryz.ago244 : isGo Tryz.prog 244 = true := by kernel_rfl
@[go_sem] theorem Tryz.ago246 : isGo Tryz.prog 246 = true := by kernel_rfl
@[go_sem] theorem Tryz.ago247 : isGo Tryz.prog 247 = true := by kernel_rfl
@[go_sem] theorem Tryz.ago250 : isGo Tryz.prog 250 = true := by kernel_rfl
@[go_sem] theorem Tryz.ago251 : isGo Tryz.prog 251 = true := by kernel_rfl
@[go_sem] theorem Tryz.ago252 : isGo Tryz.prog 252 = true := by kernel_rfl
@[go_sem] theorem Tryz.ago253 : isGo Tryz.prog 253 = true := by kernel_rfl
@[go_sem] theorem Tryz.ago254 : isGo Tryz.prog 254 = true := by kernel_rfl
@[go_sem] theorem Tryz.ago255 : isGo Tryz.prog 255 = true := by kernel_rfl
@[go_sem] theorem Tryz.ago256 : isGo Tryz.prog 256 = true := by kernel_rfl
@[go_sem] theorem Tryz.ago257 : isGo Tryz.prog 257 = true := by kernel_rfl
@[go_sem] theorem Tryz.ago258 : isGo Tryz.prog 258 = true := by kernel_rfl
@[go_sem] theorem Tryz.ago259 : isGo Tryz.prog 259 = true := by kernel_rfl
@[go_sem] theorem Tryz.ago261 : isGo Tryz.prog 261 = true := by kernel_rfl
@[go_sem] theorem Tryz.ago262 : isGo Tryz.prog 262 = true := by kernel_rfl
@[go_sem] theorem Tryz.ago263 : isGo Tryz.prog 263 = true := by kernel_rfl
@[go_sem] theorem Tryz.ago264 : isGo Tryz.prog 264 = true := by kernel_rfl
@[go_sem] theorem Tryz.ago281 : isGo Tryz.prog 281 = true := by kernel_rfl
@[go_sem] theorem Tryz.ago282 : isGo Tryz.prog 282 = true := by kernel_rfl
@[go_sem] theorem Tryz.ago283 : isGo Tryz.prog 283 = true := by kernel_rfl
@[go_sem] theorem Tryz.ago284 : isGo Tryz.prog 284 = true := by kernel_rfl
@[go_sem] theorem Tryz.ago285 : isGo Tryz.prog 285 = true := by kernel_rfl
@[go_sem] theorem Tryz.ago286 : isGo Tryz.prog 286 = true := by kernel_rfl
attribute [go_sem] Tryz.underlying1 Tryz.underlying2 Tryz.underlying3 Tryz.underlying4 Tryz.underlying5 Tryz.underlying6 Tryz.underlying9 Tryz.underlying10 Tryz.underlying11 Tryz.underlying12 Tryz.underlying15 Tryz.underlying16 Tryz.underlying17 Tryz.underlying20 Tryz.underlying21 Tryz.underlying22 Tryz.underlying27 Tryz.underlying28 Tryz.underlying29 Tryz.underlying30 Tryz.underlying32 Tryz.underlying33 Tryz.underlying34 Tryz.underlying35 Tryz.underlying36 Tryz.underlying37 Tryz.underlying38 Tryz.underlying39 Tryz.underlying40 Tryz.underlying41 Tryz.underlying46 Tryz.underlying47 Tryz.underlying48 Tryz.underlying49 Tryz.underlying50 Tryz.underlying51 Tryz.underlying52 Tryz.underlying53 Tryz.underlying54 Tryz.underlying55 Tryz.underlying56 Tryz.underlying59 Tryz.underlying60 Tryz.underlying61 Tryz.underlying62 Tryz.underlying63 Tryz.underlying66 Tryz.underlying68 Tryz.underlying69 Tryz.underlying70 Tryz.underlying71 Tryz.underlying72 Tryz.underlying73 Tryz.underlying74 Tryz.underlying75 Tryz.underlying76 Tryz.underlying78 Tryz.underlying79 Tryz.underlying80 Tryz.underlying81 Tryz.underlying82 Tryz.underlying83 Tryz.underlying84 Tryz.underlying85 Tryz.underlying86 Tryz.underlying87 Tryz.underlying88 Tryz.underlying89 Tryz.underlying91 Tryz.underlying92 Tryz.underlying93 Tryz.underlying94 Tryz.underlying95 Tryz.underlying96 Tryz.underlying97 Tryz.underlying99 Tryz.underlying100 Tryz.underlying106 Tryz.underlying107 Tryz.underlying108 Tryz.underlying109 Tryz.underlying110 Tryz.underlying114 Tryz.underlying115 Tryz.underlying116 Tryz.underlying117 Tryz.underlying118 Tryz.underlying119 Tryz.underlying123 Tryz.underlying124 Tryz.underlying125 Tryz.underlying126 Tryz.underlying128 Tryz.underlying129 Tryz.underlying132 Tryz.underlying133 Tryz.underlying134 Tryz.underlying135 Tryz.underlying136 Tryz.underlying137 Tryz.underlying138 Tryz.underlying139 Tryz.underlying140 Tryz.underlying141 Tryz.underlying142 Tryz.underlying143 Tryz.underlying144 Tryz.underlying145 Tryz.underlying146 Tryz.underlying147 Tryz.underlying149 Tryz.underlying150 Tryz.underlying152 Tryz.underlying155 Tryz.underlying156 Tryz.underlying157 Tryz.underlying158 Tryz.underlying159 Tryz.underlying161 Tryz.underlying163 Tryz.underlying164 Tryz.underlying165 Tryz.underlying166 Tryz.underlying167 Tryz.underlying168 Tryz.underlying169 Tryz.underlying170 Tryz.underlying171 Tryz.underlying172 Tryz.underlying173 Tryz.underlying174 Tryz.underlying175 Tryz.underlying176 Tryz.underlying177 Tryz.underlying178 Tryz.underlying180 Tryz.underlying181 Tryz.underlying182 Tryz.underlying183 Tryz.underlying184 Tryz.underlying185 Tryz.underlying186 Tryz.underlying187 Tryz.underlying188 Tryz.underlying189 Tryz.underlying190 Tryz.underlying191 Tryz.underlying192 Tryz.underlying193 Tryz.underlying194 Tryz.underlying195 Tryz.underlying196 Tryz.underlying197 Tryz.underlying198 Tryz.underlying199 Tryz.underlying200 Tryz.underlying201 Tryz.underlying203 Tryz.underlying204 Tryz.underlying205 Tryz.underlying206 Tryz.underlying207 Tryz.underlying210 Tryz.underlying211 Tryz.underlying212 Tryz.underlying213 Tryz.underlying214 Tryz.underlying215 Tryz.underlying216 Tryz.underlying217 Tryz.underlying218 Tryz.underlying219 Tryz.underlying220 Tryz.underlying222 Tryz.underlying223 Tryz.underlying224 Tryz.underlying225 Tryz.underlying226 Tryz.underlying227 Tryz.underlying228 Tryz.underlying230 Tryz.underlying231 Tryz.underlying232 Tryz.underlying233 Tryz.underlying234 Tryz.underlying235 Tryz.underlying236 Tryz.underlying237 Tryz.underlying238 Tryz.underlying239 Tryz.underlying240 Tryz.underlying241 Tryz.underlying242 Tryz.underlying243 Tryz.underlying245 Tryz.underlying246 Tryz.underlying248 Tryz.underlying251 Tryz.underlying252 Tryz.underlying253 Tryz.underlying255 Tryz.underlying256 Tryz.underlying258 Tryz.underlying259 Tryz.underlying260 Tryz.underlying261 Tryz.underlying262 Tryz.underlying265 Tryz.underlying266 Tryz.underlying267 Tryz.underlying269 Tryz.underlying270 Tryz.underlying273 Tryz.underlying274 Tryz.underlying275 Tryz.underlying278 Tryz.underlying281 Tryz.underlying282 Tryz.underlying283 Tryz.underlying284 Tryz.underlying285
theorem Tryz.mixed : Tryz.prog.follows .mixedOrders = true := by kernel_rfl
end Go.Proofs
end

section
set_option linter.all false
namespace Go.Ab
open Go.RowKit (Below)

section
variable {P : Program} {o : Oper} {α : Operand → AVal} {σ : Store} {Kk : AVal → Store → Prop}

theorem AOp_makeSlice {t e : TypeId} {n by_ : Nat} {x y : Operand} {z : Value} {k1 k2 : IntKind} (ho : o.op = .makeSlice t x y) (hse : sliceElem P t = some e) (hte : appInfo P e = some (1, by_)) (hz : zeroOf P e = some z) (hz1 : z.cells = #[z])
    (hx : α x = .lit (.int k1 n)) (hy : α y = .lit (.int k2 n)) (hn : by_ * n ≤ 281474976710656) (hk : ∀ i, σ.heap i = none → Kk (.msl i 1 0 n) (σ.set i (.cells (List.replicate n (.lit z))))) : AOp P o α σ Kk := by
  obtain ⟨dst, op, ty, pos, after, guard⟩ := o
  obtain rfl : op = _ := ho
  intro κ ev hI hxx
  obtain ⟨i, z', hi, hz', hisz, hiby, hzs, hsz, hby⟩ := appInfo_spec hte
  have hts : P.underlying t = some (.slice e) := by
    unfold sliceElem at hse
    split at hse
    · rename_i e' he'; obtain rfl := Option.some.inj hse; exact he'
    · cases hse
  have hvx := hxx x (by simp [Op.operands])
  have hvy := hxx y (by simp [Op.operands])
  rw [hx] at hvx
  rw [hy] at hvy
  have ezz : z' = z := by
    unfold zeroOf at hz
    rw [hi] at hz
    simpa [hz'] using hz
  subst ezz
  have h63 : n ≤ 9223372036854775807 := by
    have : n ≤ by_ * n := Nat.le_mul_of_pos_left _ hby
    omega
  have hrun := run_make_row' (P := P) t e z' by_ hts (by rw [hi]; simp [hz', hisz, hiby]) hz1 k1 k2 n hn h63 κ.w
  obtain ⟨oi, hoi, hfree⟩ := hI.fresh
  have hsize : (madeCells #[z'] n).size = n := by simp [madeCells]
  obtain ⟨κ', hw, hle, hρ, hI'⟩ := hI.alloc oi hoi (.cells (List.replicate n (.lit z'))) (.cells (madeCells #[z'] n) e) fun κ' hle hh _ => ⟨_, e, hh, by rw [hsize]; simp, fun j hj => by
    have hj' : j < n := by simpa using hj
    have : (madeCells #[z'] n).getD j undef = z' := by simp [madeCells, hj', Nat.mod_one]
    rw [this, List.getElem_replicate]
    exact .lit _⟩
  have hheap : κ'.w.heap[κ.w.heap.size]? = some (.cells (madeCells #[z'] n) e (0, 0)) := by rw [hw]; exact heap_alloc_new _ _
  refine upon_v rfl ⟨_, _, by rw [hvx.litInv, hvy.litInv]; exact hrun, κ', .msl oi 1 0 n, _, hw, hle, hI', .msl oi 1 0 n κ.w.heap.size n n e hρ (Nat.le_refl _) (by unfold World.shape?; rw [hheap]; simp [hsize]) (by omega), hk oi hfree⟩

/-- A slice that is not written any more: what it holds is for good. -/
theorem freeze {κ : K} (hI : Inv κ σ) {so sz len : Nat} {cs l : List AVal} {v : Value} (hv : Rv κ (.msl so sz 0 len) v) (hh : σ.heap so = some (.cells cs)) (hl : cs.take (len * sz) = flat l) (hn : l.length = len) (hs : ∀ x ∈ l, x.cells.length = sz) :
    ∃ κ', κ'.w = κ.w ∧ κ.Le κ' ∧ Inv κ' (σ.del so) ∧ Rv κ' (.sl sz l false) v := by
  subst hn
  have hfl := flat_length hs
  generalize v = u at hv
  cases hv with
  | msl _ _ _ _ b cap n el hb hlc hsh hcap =>
  obtain ⟨b', hb', hbase, hIb, c, el', hheap, hcl, hcv⟩ := hI.heap so _ hh
  rw [hb] at hb'
  obtain rfl := Option.some.inj hb'
  have hlen : l.length * sz ≤ cs.length := by
    have := congrArg List.length hl
    rw [List.length_take, hfl] at this
    omega
  have hle : κ.Le { κ with I := fun k => if k = b then l.length * sz else κ.I k } :=
    ⟨rfl, Below.refl _ _, fun _ _ h => h, fun _ _ h => h, fun _ _ h => h, fun k => by
      show _ ≤ (if k = b then _ else _)
      split
      · rename_i hk; rw [hk, hIb]; exact Nat.zero_le _
      · exact Nat.le_refl _, fun _ _ _ _ h => h, Nat.le_refl _⟩
  refine ⟨{ κ with I := fun k => if k = b then l.length * sz else κ.I k }, rfl, hle, ?_, ?_⟩
  · have hne : ∀ i x, (σ.del so).heap i = some x → i ≠ so ∧ σ.heap i = some x := fun i x hx => by
      by_cases hi : i = so
      · rw [hi, Store.del_get] at hx; cases hx
      · rw [Store.del_ne _ hi] at hx; exact ⟨hi, hx⟩
    refine ⟨hI.glob, hI.base, fun i x hx => ?_, fun i i' x x' k hx hx' => hI.inj i i' x x' k (hne _ _ hx).2 (hne _ _ hx').2, fun t q ht => ?_, fun t t' q q' u u' k => hI.tokinj t t' q q' u u' k, fun t q u k i x ht hu hk hx => hI.tokobj t q u k i x ht hu hk (hne _ _ hx).2, hI.frO, hI.frT, fun k hk => ?_⟩
    · obtain ⟨hi, hx'⟩ := hne _ _ hx
      obtain ⟨k, hk, hkb, hkI, hR⟩ := hI.heap i x hx'
      have hkne : k ≠ b := fun hh' => hi (hI.inj i so x _ b hx' hh (by rw [hk, hh']) hb)
      exact ⟨k, hk, hkb, by show (if k = b then _ else _) = _; rw [if_neg hkne]; exact hkI, hR.mono hle rfl⟩
    · obtain ⟨u, hu, hok⟩ := hI.tok t q ht
      refine ⟨u, hu, hok.mono hle fun k hk => ⟨rfl, ?_⟩⟩
      show (if k = b then _ else _) = _
      rw [if_neg (fun hh' => hI.tokobj t q u k so _ ht hu hk hh (by rw [hb, hh']))]
    · show (if k = b then _ else _) = _
      have : b < κ.w.heap.size := (Array.getElem?_eq_some_iff.1 hheap).1
      have hk' : κ.w.heap.size ≤ k := hk
      rw [if_neg (by omega)]
      exact hI.frI k hk
  · refine .sl sz l false b 0 cap (fun k => c.getD k undef) hlc (by simp) hs (fun k hk => ?_) (fun k hk => ?_)
    · refine ⟨?_, ?_⟩
      · show _ < (if b = b then _ else _)
        rw [if_pos rfl]; omega
      · show κ.w.cell? _ = _
        rw [cell_of_row _ _ _ _ _ _ hheap]
        simp [show k < c.size by omega]
    · have e1 : (flat l)[k] = cs[k]'(by omega) := by
        have h1 : (cs.take (l.length * sz))[k]? = (flat l)[k]? := by rw [hl]
        rw [List.getElem?_take, if_pos (by omega), List.getElem?_eq_getElem hk, List.getElem?_eq_getElem (show k < cs.length by omega)] at h1
        exact (Option.some.inj h1).symm
      rw [e1]
      exact (hcv k (by omega)).mono hle

theorem AOp_freeze {x : Operand} {so sz len : Nat} {cs l : List AVal} (ho : o.op = .assign x ∨ o.op = .move x) (hx : α x = .msl so sz 0 len) (hh : σ.heap so = some (.cells cs)) (hl : cs.take (len * sz) = flat l) (hn : l.length = len) (hs : ∀ x ∈ l, x.cells.length = sz)
    (hk : Kk (.sl sz l false) (σ.del so)) : AOp P o α σ Kk := by
  intro κ ev hI hxx
  have hv := hxx x (by rcases ho with ho | ho <;> (rw [ho]; simp [Op.operands]))
  rw [hx] at hv
  have he : (execOp ev o).run P κ.w = .ok (.value (ev x)) κ.w := by
    obtain ⟨dst, op, ty, pos, after, guard⟩ := o
    rcases ho with ho | ho <;> (obtain rfl : op = _ := ho; simp [execOp])
  rw [he]
  obtain ⟨κ', h1, h2, h3, h4⟩ := freeze hI hv hh hl hn hs
  exact ⟨κ', .sl sz l false, _, h1, h2, h3, h4, hk⟩

/-- append to a slice of nothing that has no room: a copy, to be written -/
theorem AOp_copyM {s x : Operand} {t e : TypeId} {sz by_ : Nat} {l2 : List AVal}
    (ho : o.op = .call { callee := .builtin .append, args := #[s, x], argTypes := #[t, t] }) (hse : sliceElem P t = some e) (hte : appInfo P e = some (sz, by_))
    (hs : α s = .sl sz [] true) (hx : slOf (α x) = some (sz, l2)) (hne : l2 ≠ []) (hlen : l2.length * by_ ≤ 140737488355328)
    (hk : ∀ o', σ.heap o' = none → Kk (.msl o' sz 0 l2.length) (σ.set o' (.cells (flat l2)))) : AOp P o α σ Kk := by
  obtain ⟨dst, op, ty, pos, after, guard⟩ := o
  obtain rfl : op = .call { callee := .builtin .append, args := #[s, x], argTypes := #[t, t] } := ho
  intro κ ev hI hxx
  obtain ⟨i, z, hi, hz, hisz, hiby, hzs, hsz, hby⟩ := appInfo_spec hte
  subst hisz
  subst hiby
  have hts : P.underlying t = some (.slice e) := by
    unfold sliceElem at hse
    split at hse
    · rename_i e' he'; obtain rfl := Option.some.inj hse; exact he'
    · cases hse
  have hvs := hxx s (by simp [Op.operands, Call.operands])
  have hvx := hxx x (by simp [Op.operands, Call.operands])
  have hm : 0 < l2.length := List.length_pos_iff.2 hne
  have hle47 : l2.length ≤ 140737488355328 := Nat.le_trans (Nat.le_mul_of_pos_right _ hby) hlen
  obtain ⟨ad, cap2, vs, hevx, hl2sz, hvsr, hcu⟩ : ∃ ad cap2 vs, ev x = .slice (some ad) l2.length cap2 ∧ (∀ y ∈ l2, y.cells.length = i.size) ∧ RvC κ (flat l2) vs ∧ ∀ j u, vs[j]? = some u → κ.w.cell? (ad.add j) = some u := by
    obtain ⟨a, cap, us2, hev, hsz', hr, hc⟩ := sl_vals (slOf_rv hx hvx)
    rcases hc with ⟨_, h0, _⟩ | ⟨ad, rfl, hcu⟩
    · exact absurd h0 hne
    · exact ⟨ad, cap, us2, hev, hsz', hr, hcu⟩
  have hfl2 : vs.length = l2.length * i.size := by rw [← hvsr.1, flat_length hl2sz]
  obtain ⟨o', ho', hfr⟩ := hI.fresh
  have hd := hI.drew
  have fresh : ∀ (cap' : Nat), l2.length ≤ cap' → Post κ Kk (.slice (some ⟨κ.w.heap.size, 0, none⟩) l2.length cap') (κ.w.drew.alloc (.cells (vs.toArray ++ Builtin.zeroCells z.cells (cap' - l2.length)) e)) := by
    intro cap' hcap
    have hsize : (vs.toArray ++ Builtin.zeroCells z.cells (cap' - l2.length)).size = cap' * i.size := by
      simp only [Array.size_append, List.size_toArray, size_zeroCells, hzs, hfl2, ← Nat.add_mul]
      congr 1; omega
    obtain ⟨κ', hw, hle, hρ, hI'⟩ := hd.2.alloc o' ho' (.cells (flat l2)) (.cells (vs.toArray ++ Builtin.zeroCells z.cells (cap' - l2.length)) e) fun κ' hle hh _ => by
      refine ⟨_, e, hh, ?_, fun j hj => ?_⟩
      · rw [hsize, hvsr.1, hfl2]; exact Nat.mul_le_mul_right _ hcap
      · have hj' : j < vs.length := by rw [← hvsr.1]; exact hj
        have e1 : (vs.toArray ++ Builtin.zeroCells z.cells (cap' - l2.length)).getD j undef = vs[j] := by
          simp only [Array.getD_eq_getD_getElem?]
          rw [Array.getElem?_append_left (by simpa using hj')]
          simp [hj']
        rw [e1]
        exact (hvsr.2 j hj hj').mono (hd.1.trans hle)
    have hheap : κ'.w.heap[κ.w.heap.size]? = some (.cells (vs.toArray ++ Builtin.zeroCells z.cells (cap' - l2.length)) e (0, 0)) := by
      rw [hw]; exact Go.heap_alloc_new κ.w.drew _
    exact ⟨κ', .msl o' i.size 0 l2.length, _, hw, hd.1.trans hle, hI', .msl o' i.size 0 _ κ.w.heap.size cap' _ e hρ hcap (by unfold World.shape?; rw [hheap]) (by rw [hsize]; omega), hk o' hfr⟩
  refine upon_v (s := Builtin.append_ #[t, t] ty #[ev s, ev x]) (by simp [execOp, resolve, invoke, builtin]) ?_
  rw [hs] at hvs
  have hnil : (ev s = .slice none 0 0) ∨ ∃ b, ev s = .slice (some b) 0 0 := by
    rcases hvs.slInv with ⟨a, h1, h2⟩ | ⟨b, off, cap, vals, h1, hcap, htt, _⟩
    · cases a with
      | none => exact .inl h1
      | some b => exact .inr ⟨b, h1⟩
    · right
      have := htt rfl
      simp at this
      subst this
      exact ⟨_, h1⟩
  rw [hevx]
  rcases hnil with h0 | ⟨b, h0⟩
  · rw [h0]
    have hr := run_append_nil (P := P) κ.w t ty e i z hts hi hz ad l2.length cap2 vs hfl2 hcu hm (by omega) (by omega)
    exact ⟨_, _, hr, fresh _ (grownCap_ge _ _ _ _)⟩
  · rw [h0]
    have hr := run_append_grow (P := P) κ.w t ty e i z hts hi hz b 0 0 [] (by simp) (by simp) ad l2.length cap2 vs hfl2 hcu (by omega) (by omega) (growslice_fits (by omega) (by simpa using hlen))
    simp only [Nat.zero_add] at hr
    refine ⟨_, _, hr, ?_⟩
    have := fresh (grownCap κ.w l2.length 0 e) (grownCap_ge _ _ _ _)
    simpa using this

/-- is a slice nil, of which there is something? no -/
theorem AOp_eqNil {t yt : TypeId} {x y : Operand} {sz e : Nat} {l : List AVal} (ho : o.op = .binOp .eql t x y yt) (hse : sliceElem P t = some e) (hx : slOf (α x) = some (sz, l)) (hl : l ≠ []) (hy : α y = .lit (.slice none 0 0)) (hk : Kk (.lit (.bool false)) σ) : AOp P o α σ Kk := by
  obtain ⟨dst, op, ty, pos, after, guard⟩ := o
  obtain rfl : op = _ := ho
  intro κ ev hI hxx
  have hvx := hxx x (by simp [Op.operands])
  have hvy := hxx y (by simp [Op.operands])
  rw [hy] at hvy
  have hts : P.underlying t = some (.slice e) := by
    unfold sliceElem at hse
    split at hse
    · rename_i e' he'; obtain rfl := Option.some.inj hse; exact he'
    · cases hse
  obtain ⟨a, cap, us, hev, _, _, hc⟩ := sl_vals (slOf_rv hx hvx)
  rcases hc with ⟨_, h0, _⟩ | ⟨ad, rfl, _⟩
  · exact absurd h0 hl
  · have hb : (binOp .eql t (ev x) (ev y)).run P κ.w = .ok (.bool false) κ.w := by
      have e1 : binOp .eql t (ev x) (ev y) = (do pure (.bool (← Op.equal t (ev x) (ev y)))) := by
        rw [hev, hvy.litInv]
        rfl
      rw [e1, hev, hvy.litInv]
      simp only [Sem.run_bind, run_equal_slice_nil κ.w t e (some ad) l.length cap hts, Result.andThen_ok, Sem.run_pure]
      rfl
    have hg : (eqGuard .eql t x y (ev x) (ev y)).run P κ.w = .ok () κ.w := run_eqGuard_other (by rintro u v ⟨h1, _⟩; rw [hev] at h1; cases h1) (by intro h1; rw [hev] at h1; cases h1)
    refine upon_v (s := do eqGuard .eql t x y (ev x) (ev y); binOp .eql t (ev x) (ev y)) (by simp [execOp]) ⟨.bool false, κ.w, ?_, κ, .lit (.bool false), σ, rfl, .refl κ, hI, .lit _, hk⟩
    simp only [Sem.run_bind, hg, Result.andThen_ok, hb]

end
end Go.Ab
end

section
set_option linter.all false
namespace Go.Ab

abbrev vInt (n : Int) : AVal := .lit (.int .i64 n)
abbrev vBool (b : Bool) : AVal := .lit (.bool b)
abbrev vStr (s : ByteArray) : AVal := .lit (.string s)

/-- the bits of two numbers, taken together -/
def bAnd (k : IntKind) (a b : Int) : Int := k.wrap (BitVec.ofInt k.bits a &&& BitVec.ofInt k.bits b).toNat
def bOr (k : IntKind) (a b : Int) : Int := k.wrap (BitVec.ofInt k.bits a ||| BitVec.ofInt k.bits b).toNat
def bXor (k : IntKind) (a b : Int) : Int := k.wrap (BitVec.ofInt k.bits a ^^^ BitVec.ofInt k.bits b).toNat

/-! ### reckoning -/

@[go_sem] theorem upd_at (e : Env) (d k : Nat) (a : AVal) : upd e d a k = if k = d then a else e k := rfl
@[go_sem] theorem emp_at (k : Nat) : emp k = .any := rfl
@[go_sem] theorem envOf_nil (k : Nat) : envOf k [] = emp := rfl
@[go_sem] theorem envOf_cons (k : Nat) (a : AVal) (l : List AVal) : envOf k (a :: l) = upd (envOf (k + 1) l) k a := rfl
@[go_sem] theorem aev_tmp (e : Env) (t : Tmp) : aev e (.tmp t) = e t := rfl
@[go_sem] theorem aev_int (e : Env) (k : IntKind) (n : Int) : aev e (.const (.int k n)) = .lit (.int k n) := rfl
@[go_sem] theorem aev_bool (e : Env) (b : Bool) : aev e (.const (.bool b)) = .lit (.bool b) := rfl
@[go_sem] theorem aev_str (e : Env) (s : ByteArray) : aev e (.const (.string s)) = .lit (.string s) := rfl
@[go_sem] theorem aev_ptr (e : Env) (a : Option Addr) : aev e (.const (.pointer a)) = .lit (.pointer a) := rfl
@[go_sem] theorem aev_slice (e : Env) (a : Option Addr) (n c : Nat) : aev e (.const (.slice a n c)) = .lit (.slice a n c) := rfl
@[go_sem] theorem aev_map (e : Env) (r : Option Nat) : aev e (.const (.map r)) = .lit (.map r) := rfl
@[go_sem] theorem aev_nilFunc (e : Env) : aev e (.const .nilFunc) = .lit .nilFunc := rfl
@[go_sem] theorem aev_nilIface (e : Env) : aev e (.const .nilIface) = .lit .nilIface := rfl
@[go_sem] theorem aev_func (e : Env) (f : FuncId) : aev e (.func f) = .lit (.func (.func f) #[] #[]) := rfl

section
variable (P : Program) (α : Operand → AVal) (σ : Store)
@[go_sem] theorem aval_move (x : Operand) : aval P (.move x) α σ = some (α x) := rfl
@[go_sem] theorem aval_assign (x : Operand) : aval P (.assign x) α σ = some (α x) := rfl
@[go_sem] theorem aval_pick (c a b : Operand) : aval P (.pick c a b) α σ = match α c with | .lit (.bool t) => some (apick t (α a) (α b)) | _ => none := rfl
@[go_sem] theorem aval_nilCheck (x : Operand) : aval P (.nilCheck x) α σ = anil (α x) := rfl
@[go_sem] theorem aval_binOp (op : BinOp) (t yt : TypeId) (x y : Operand) : aval P (.binOp op t x y yt) α σ = abin P σ op t (isConst x || isConst y) (α x) (α y) := rfl
@[go_sem] theorem aval_unOp (op : UnOp) (t : TypeId) (x : Operand) : aval P (.unOp op t x) α σ = aunop op (α x) := rfl
@[go_sem] theorem aval_convert (s d : TypeId) (x : Operand) : aval P (.convert s d x) α σ = aconvert P s d (α x) := rfl
@[go_sem] theorem aval_fieldAddr (s : TypeId) (x : Operand) (f : Nat) : aval P (.fieldAddr s x f) α σ = afieldAddr P s (α x) f := rfl
@[go_sem] theorem aval_field (t : TypeId) (x : Operand) (f : Nat) : aval P (.field t x f) α σ = afield P t (α x) f := rfl
@[go_sem] theorem aval_indexAddr (t : TypeId) (x i : Operand) : aval P (.indexAddr t x i) α σ = aindexAddr P t (α x) (α i) := rfl
@[go_sem] theorem aval_index (t : TypeId) (x i : Operand) : aval P (.index t x i) α σ = aindex P t (α x) (α i) := rfl
@[go_sem] theorem aval_load (t : TypeId) (x : Operand) : aval P (.load t x) α σ = aload P σ t (α x) := rfl
@[go_sem] theorem aval_extract (x : Operand) (i : Nat) : aval P (.extract x i) α σ = match α x with | .tup vs => vs[i]? | _ => none := rfl
@[go_sem] theorem aval_slice (t : TypeId) (x : Operand) (lo hi mx : Option Operand) : aval P (.slice t x lo hi mx) α σ = aslice P t (α x) (lo.map α) (hi.map α) (mx.map α) := rfl
@[go_sem] theorem aval_makeFunc (fn : Fn) (f c : Array Operand) : aval P (.makeFunc fn f c) α σ = some (.fn fn (f.toList.map α) (c.toList.map α)) := rfl
@[go_sem] theorem aval_makeInterface (t : TypeId) (x : Operand) : aval P (.makeInterface t x) α σ = match P.underlying t with | some (.interface _) => none | some _ => some (.iface t (α x)) | none => none := rfl
@[go_sem] theorem aval_build (t : TypeId) (ps : Array (Nat × Operand)) : aval P (.build t ps) α σ = abuild P t (ps.toList.map fun p => (p.1, α p.2)) := rfl
@[go_sem] theorem aval_lookup (t : TypeId) (m k : Operand) (ok : Bool) : aval P (.lookup t m k ok) α σ = alookup P σ t (α m) (α k) ok := rfl
@[go_sem] theorem aval_typeAssert (x : Operand) (xt t : TypeId) (ok : Bool) : aval P (.typeAssert x xt t ok) α σ = atypeAssert P (α x) t ok := rfl
@[go_sem] theorem aval_len (x : Operand) (t : TypeId) : aval P (.call { callee := .builtin .len, args := #[x], argTypes := #[t] }) α σ = (alen P σ t (α x)).map fun (n : Nat) => AVal.lit (.int .i64 (n : Int)) := rfl
@[go_sem] theorem aval_max (args : Array Operand) (ts : Array TypeId) : aval P (.call { callee := .builtin .max, args := args, argTypes := ts }) α σ = amaxL true (args.toList.map α) := rfl
@[go_sem] theorem aval_min (args : Array Operand) (ts : Array TypeId) : aval P (.call { callee := .builtin .min, args := args, argTypes := ts }) α σ = amaxL false (args.toList.map α) := rfl
@[go_sem] theorem amaxL_two (k k' : IntKind) (x y : Int) : amaxL true [.lit (.int k x), .lit (.int k' y)] = some (.lit (.int k (max x y))) := rfl
@[go_sem] theorem aminL_two (k k' : IntKind) (x y : Int) : amaxL false [.lit (.int k x), .lit (.int k' y)] = some (.lit (.int k (min x y))) := rfl
@[go_sem] theorem amaxL_three (k k' k'' : IntKind) (x y z : Int) : amaxL true [.lit (.int k x), .lit (.int k' y), .lit (.int k'' z)] = some (.lit (.int k (max (max x y) z))) := rfl
@[go_sem] theorem aminL_three (k k' k'' : IntKind) (x y z : Int) : amaxL false [.lit (.int k x), .lit (.int k' y), .lit (.int k'' z)] = some (.lit (.int k (min (min x y) z))) := rfl
@[go_sem] theorem abin_int (op : BinOp) (t : TypeId) (c : Bool) (k k' : IntKind) (a b : Int) : abin P σ op t c (.lit (.int k a)) (.lit (.int k' b)) = (aint op k a k' b).map .lit := rfl
@[go_sem] theorem abin_str (op : BinOp) (t : TypeId) (c : Bool) (a b : ByteArray) : abin P σ op t c (.lit (.string a)) (.lit (.string b)) = (astr op a b).map .lit := rfl
@[go_sem] theorem aint_add (k : IntKind) (a b : Int) : aint .add k a k b = some (.int k (k.wrap (a + b))) := by simp [aint]
@[go_sem] theorem aint_sub (k : IntKind) (a b : Int) : aint .sub k a k b = some (.int k (k.wrap (a - b))) := by simp [aint]
@[go_sem] theorem aint_mul (k : IntKind) (a b : Int) : aint .mul k a k b = some (.int k (k.wrap (a * b))) := by simp [aint]
@[go_sem] theorem aint_eql (k : IntKind) (a b : Int) : aint .eql k a k b = some (.bool (decide (a = b))) := by simp [aint]
@[go_sem] theorem aint_neq (k : IntKind) (a b : Int) : aint .neq k a k b = some (.bool (!decide (a = b))) := by simp [aint]
@[go_sem] theorem aint_lss (k : IntKind) (a b : Int) : aint .lss k a k b = some (.bool (decide (a < b))) := by simp [aint]
@[go_sem] theorem aint_leq (k : IntKind) (a b : Int) : aint .leq k a k b = some (.bool (decide (a ≤ b))) := by simp [aint]
@[go_sem] theorem aint_gtr (k : IntKind) (a b : Int) : aint .gtr k a k b = some (.bool (decide (b < a))) := by simp [aint]
@[go_sem] theorem aint_geq (k : IntKind) (a b : Int) : aint .geq k a k b = some (.bool (decide (b ≤ a))) := by simp [aint]
@[go_sem] theorem aint_and (k : IntKind) (a b : Int) : aint .and k a k b = some (.int k (bAnd k a b)) := by simp [aint, bAnd]
@[go_sem] theorem aint_or (k : IntKind) (a b : Int) : aint .or k a k b = some (.int k (bOr k a b)) := by simp [aint, bOr]
@[go_sem] theorem aint_xor (k : IntKind) (a b : Int) : aint .xor k a k b = some (.int k (bXor k a b)) := by simp [aint, bXor]
theorem aint_quo (k : IntKind) (a b : Int) (h : b ≠ 0) : aint .quo k a k b = some (.int k (k.wrap (a.tdiv b))) := by simp [aint, h]
theorem aint_rem (k : IntKind) (a b : Int) (h : b ≠ 0) : aint .rem k a k b = some (.int k (a.tmod b)) := by simp [aint, h]
@[go_sem] theorem astr_eql (a b : ByteArray) : astr .eql a b = some (.bool (decide (a = b))) := rfl
@[go_sem] theorem astr_neq (a b : ByteArray) : astr .neq a b = some (.bool (!decide (a = b))) := rfl
@[go_sem] theorem astr_lss (a b : ByteArray) : astr .lss a b = some (.bool (sLt a b)) := rfl
@[go_sem] theorem astr_gtr (a b : ByteArray) : astr .gtr a b = some (.bool !(sLt a b || decide (a = b))) := rfl
@[go_sem] theorem astr_leq (a b : ByteArray) : astr .leq a b = some (.bool (sLt a b || decide (a = b))) := rfl
@[go_sem] theorem astr_geq (a b : ByteArray) : astr .geq a b = some (.bool !(sLt a b)) := rfl
theorem astr_add (a b : ByteArray) (h : a.size + b.size ≤ maxText) : astr .add a b = some (.string (a ++ b)) := by simp [astr, h]
@[go_sem] theorem apick_bool (t x y : Bool) : apick t (.lit (.bool x)) (.lit (.bool y)) = .lit (.bool (bif t then x else y)) := rfl
end

theorem wrap_i64 (n : Int) (h1 : -9223372036854775808 ≤ n) (h2 : n ≤ 9223372036854775807) : IntKind.i64.wrap n = n := by
  unfold IntKind.wrap
  simp only [IntKind.bits, IntKind.signed, Bool.true_and, decide_eq_true_eq, ge_iff_le]
  have e1 : (2 : Int) ^ 64 = 18446744073709551616 := by decide
  have e2 : (2 : Int) ^ (64 - 1) = 9223372036854775808 := by decide
  simp only [e1, e2]
  split <;> omega

attribute [go_sem] arecv Store.delO Store.del_ne Store.newTok_heap Store.set_tok Store.newTok_get Store.newTok_set afieldAddr aload aindexAddr afield aindex abuild anil aunop aconvert alen apart aro placeOf afill aput slOf AVal.cells AVal.solid AVal.one ofConst zeroCells' Store.set_get Store.set_ne abound alow ahigh aret

@[go_sem] theorem toList_lit {β : Type} (l : List β) : l.toArray.toList = l := rfl
@[go_sem] theorem aresults_nil (P : Program) (e : Env) (σ : Store) : aresults P [] e σ = some [] := rfl
@[go_sem] theorem aresults_tmp (P : Program) (e : Env) (σ : Store) (t : Tmp) (rs : List ResultVar) : aresults P (.tmp t :: rs) e σ = match aresults P rs e σ with | some vs => some (e t :: vs) | none => none := by
  unfold aresults
  rw [List.mapM_cons]
  generalize hq : rs.mapM (m := Option) (fun
    | .tmp t => some (e t)
    | .cell a t => aload P σ t (e a)) = q
  cases q <;> simp [hq]
@[go_sem] theorem aresults_cell (P : Program) (e : Env) (σ : Store) (a : Tmp) (t : TypeId) (rs : List ResultVar) : aresults P (.cell a t :: rs) e σ = match aload P σ t (e a), aresults P rs e σ with | some v, some vs => some (v :: vs) | _, _ => none := by
  unfold aresults
  rw [List.mapM_cons]
  generalize hq : rs.mapM (m := Option) (fun
    | .tmp t => some (e t)
    | .cell a t => aload P σ t (e a)) = q
  cases hl : aload P σ t (e a) <;> cases q <;> simp [hq, hl]

attribute [go_sem] if_pos aslice Int.toNat_natCast List.length_map List.map_append Bool.false_eq_true ne_eq not_true_eq_false not_false_eq_true and_self and_true true_and Nat.add_zero Nat.zero_add Option.map_some Option.map_none Option.bind_some Option.isSome_some List.length_cons List.length_nil List.map_cons List.map_nil List.nil_append List.cons_append List.append_nil List.take_succ_cons List.take_zero List.drop_succ_cons List.drop_zero List.getElem?_cons_zero List.getElem?_cons_succ Int.toNat_zero Int.le_refl decide_true decide_false beq_self_eq_true Bool.and_self Bool.and_true Bool.true_and Bool.and_false Bool.false_and cond_true cond_false Bool.not_true Bool.not_false Bool.or_self Bool.or_false Bool.or_true Bool.true_or Bool.false_or

attribute [go_sem] astringOf_sl astringOf_own astringOf_nil bytesL_length bytesL_append bytesL_take_drop bytesL_take extract_all

/-! ### steps -/

section
variable {P : Program} {ops : Array Oper} {Kk : Env → Store → Prop} {o : Oper} {rest : List Oper} {e : Env} {σ : Store}

theorem aL_nil (h : Kk e σ) : aList P ops Kk [] e σ := h

/-- an operation that only looks -/
theorem aL_S {d : Tmp} {a : AVal} (hg : o.guard = none) (hd : o.dst = some d) (ha : aval P o.op (aev e) σ = some a) (h : aList P ops Kk rest (upd e d a) σ) : aList P ops Kk (o :: rest) e σ := by
  unfold aList aStep wantedA
  simp only [hg, hd, updo]
  exact AOp_val ha h

/-- another one -/
theorem aL_X {d : Tmp} (hg : o.guard = none) (hd : o.dst = some d) (h : AOp P o (aev e) σ fun a σ' => aList P ops Kk rest (upd e d a) σ') : aList P ops Kk (o :: rest) e σ := by
  unfold aList aStep wantedA
  simp only [hg, hd, updo]
  exact h

theorem aL_X0 (hg : o.guard = none) (hd : o.dst = none) (h : AOp P o (aev e) σ fun _ σ' => aList P ops Kk rest e σ') : aList P ops Kk (o :: rest) e σ := by
  unfold aList aStep wantedA
  simp only [hg, hd, updo]
  exact h

end

section
variable {P : Program} {ops : Array Oper} {s0 : Store} {Kk : Env → Store → Prop} {o : Oper} {i : Nat} {r : DT} {e : Env} {σ : Store}

theorem dR_nil (h : Kk e σ) : dRun P ops s0 Kk .nil e σ := h

/-- each of several first -/
theorem dR_alt {k : Nat} {t : DT} (h1 : dRun P ops s0 Kk (.op i (k + 1) r) e σ) (h2 : dRun P ops s0 Kk t e σ) : dRun P ops s0 Kk (.alt i (k + 1) r t) e σ := by
  cases k with
  | zero => exact ⟨h1, h2⟩
  | succ k => exact ⟨h1, h2⟩

theorem dR_S {d : Tmp} {a : AVal} (ho : ops[i]? = some o) (hg : o.guard = none) (hd : o.dst = some d) (ha : aval P o.op (aev e) s0 = some a) (h : dRun P ops s0 Kk r (upd e d a) σ) : dRun P ops s0 Kk (.op i 0 r) e σ := by
  refine ⟨o, a, ho, .inl ⟨by simp [wantedA, hg], ha⟩, ?_⟩
  rw [hd]; exact h

/-- one whose value does not hang on what is in the store -/
theorem dR_A {d : Tmp} {a : AVal} (ho : ops[i]? = some o) (hg : o.guard = none) (hd : o.dst = some d) (ha : ∀ s, aval P o.op (aev e) s = some a) (h : dRun P ops s0 Kk r (upd e d a) σ) : dRun P ops s0 Kk (.any i r) e σ := by
  refine ⟨o, a, ho, fun s => .inl ⟨by simp [wantedA, hg], ha s⟩, ?_⟩
  rw [hd]; exact h

/-- its guard says yes -/
theorem dR_SY {d : Tmp} {a : AVal} (ho : ops[i]? = some o) (hd : o.dst = some d) (hw : wantedA ops o e = some true) (ha : aval P o.op (aev e) s0 = some a) (h : dRun P ops s0 Kk r (upd e d a) σ) : dRun P ops s0 Kk (.op i 0 r) e σ := by
  refine ⟨o, a, ho, .inl ⟨hw, ha⟩, ?_⟩
  rw [hd]; exact h

/-- its guard says no -/
theorem dR_SN {d : Tmp} (ho : ops[i]? = some o) (hd : o.dst = some d) (hw : wantedA ops o e = some false) (h : dRun P ops s0 Kk r (upd e d (.lit undef)) σ) : dRun P ops s0 Kk (.op i 0 r) e σ := by
  refine ⟨o, .lit undef, ho, .inr ⟨hw, rfl⟩, ?_⟩
  rw [hd]; exact h

theorem dR_X {d : Tmp} (ho : ops[i]? = some o) (hd : o.dst = some d) (hw : wantedA ops o e = some true) (h : AOp P o (aev e) σ fun a σ' => s0.Sub σ' ∧ dRun P ops s0 Kk r (upd e d a) σ') : dRun P ops s0 Kk (.op i 1 r) e σ := by
  refine ⟨o, ho, ?_⟩
  unfold aStep
  simp only [hw, hd, updo]
  exact h

theorem dR_XN {d : Tmp} (ho : ops[i]? = some o) (hd : o.dst = some d) (hw : wantedA ops o e = some false) (hs : s0.Sub σ) (h : dRun P ops s0 Kk r (upd e d (.lit undef)) σ) : dRun P ops s0 Kk (.op i 1 r) e σ := by
  refine ⟨o, ho, ?_⟩
  unfold aStep
  simp only [hw, hd, updo]
  exact ⟨hs, h⟩

theorem dR_T {d : Tmp} (ho : ops[i]? = some o) (hd : o.dst = some d) (hw : wantedA ops o e = some true) (h : AOp P o (aev e) σ fun a σ' => dRun P ops s0 Kk r (upd e d a) σ') : dRun P ops s0 Kk (.op i 2 r) e σ := by
  refine ⟨o, ho, ?_⟩
  unfold aStep
  simp only [hw, hd, updo]
  exact h

theorem dR_T0 (ho : ops[i]? = some o) (hd : o.dst = none) (hw : wantedA ops o e = some true) (h : AOp P o (aev e) σ fun a σ' => dRun P ops s0 Kk r e σ') : dRun P ops s0 Kk (.op i 2 r) e σ := by
  refine ⟨o, ho, ?_⟩
  unfold aStep
  simp only [hw, hd, updo]
  exact h

end

/-- a contract at a call -/
theorem AOp_use {P : Program} {o : Oper} {α : Operand → AVal} {σ : Store} {Kk : AVal → Store → Prop} {c : Call} {f : Operand} {g : FuncId} {first captured args : List AVal} {Q : AVal → Store → Prop} (ho : o.op = .call c) (hc : c.callee = .value f)
    (hf : α f = .fn (.func g) first captured ∨ (α f = .lit (.func (.func g) #[] #[]) ∧ first = [] ∧ captured = [])) (hg : isGo P g = true)
    (hargs : first ++ c.args.toList.map α ++ captured = args) (hcon : ACalls P g args σ Q) (hk : ∀ a σ', Q a σ' → Kk a σ') : AOp P o α σ Kk := by
  subst hargs
  exact AOp_call ho hc hf hg (hcon.mono hk)

/-- what a call by an interface does -/
def AInv (P : Program) (t : TypeId) (a : AVal) (name : String) (xs : List AVal) (σ : Store) (Q : AVal → Store → Prop) : Prop :=
  ∃ f ptr r, ameth P t name = some (f, ptr) ∧ arecv P σ t ptr a = some r ∧ isGo P f = true ∧ ACalls P f (r :: xs) σ Q

theorem AOp_invokeI {P : Program} {o : Oper} {α : Operand → AVal} {σ : Store} {Kk : AVal → Store → Prop} {x : Operand} {name : String} {args : Array Operand} {ts : Array TypeId} {t : TypeId} {a : AVal} {xs : List AVal} {Q : AVal → Store → Prop}
    (ho : o.op = .call { callee := .invoke x name, args := args, argTypes := ts }) (hx : α x = .iface t a) (has : args.toList.map α = xs) (h : AInv P t a name xs σ Q) (hk : ∀ v σ', Q v σ' → Kk v σ') : AOp P o α σ Kk := by
  subst has
  obtain ⟨f, ptr, r, h1, h2, h3, h4⟩ := h
  exact AOp_invoke ho hx h1 h2 h3 rfl h4 hk

theorem none_set {σ : Store} {o j : Nat} {x : AObj} (h : (σ.set o x).heap j = none) : j ≠ o ∧ σ.heap j = none := by
  by_cases hj : j = o
  · subst hj; rw [Store.set_get] at h; cases h
  · exact ⟨hj, by rw [Store.set_ne _ _ hj] at h; exact h⟩

section
variable {P : Program} {ops : Array Oper} {s0 : Store} {Kk : Env → Store → Prop} {o : Oper} {rest : List Oper} {i : Nat} {r : DT} {e : Env} {σ : Store}

theorem AOp_box' {α : Operand → AVal} {Kk : AVal → Store → Prop} {t : TypeId} {x : Operand} {a : AVal} {cs : List AVal} (ho : o.op = .box t x) (hx : α x = a) (hs : a.solid = true) (hc : a.cells = cs)
    (h : ∀ j, σ.heap j = none → Kk (.ref j 0) (σ.set j (.cells cs))) : AOp P o α σ Kk := by
  subst hx; subst hc; exact AOp_box ho hs h

theorem aL_box {d : Tmp} {t : TypeId} {x : Operand} {a : AVal} {cs : List AVal} (hg : o.guard = none) (hd : o.dst = some d) (ho : o.op = .box t x) (hx : aev e x = a) (hs : a.solid = true) (hc : a.cells = cs)
    (h : ∀ j, σ.heap j = none → aList P ops Kk rest (upd e d (.ref j 0)) (σ.set j (.cells cs))) : aList P ops Kk (o :: rest) e σ :=
  aL_X hg hd (AOp_box' ho hx hs hc h)

theorem AOp_alloc' {α : Operand → AVal} {Kk : AVal → Store → Prop} {t : TypeId} {z : Value} {cs : List AVal} (ho : o.op = .alloc t) (hz : zeroOf P t = some z) (hc : zeroCells' z = cs)
    (h : ∀ j, σ.heap j = none → Kk (.ref j 0) (σ.set j (.cells cs))) : AOp P o α σ Kk := by
  subst hc; exact AOp_alloc ho hz h

theorem aL_alloc {d : Tmp} {t : TypeId} {z : Value} {cs : List AVal} (hg : o.guard = none) (hd : o.dst = some d) (ho : o.op = .alloc t) (hz : zeroOf P t = some z) (hc : zeroCells' z = cs)
    (h : ∀ j, σ.heap j = none → aList P ops Kk rest (upd e d (.ref j 0)) (σ.set j (.cells cs))) : aList P ops Kk (o :: rest) e σ :=
  aL_X hg hd (AOp_alloc' ho hz hc h)

theorem AOp_store' {α : Operand → AVal} {Kk : AVal → Store → Prop} {t : TypeId} {ad x : Operand} {j off size : Nat} {g : Bool} {cs cs' : List AVal} {a : AVal} (ho : o.op = .store t ad x) (ha : α ad = .ref j off) (hx : α x = a) (hh : σ.heap j = some (.cells cs))
    (ht : typeOf P t = some (size, g)) (hs : a.solid = true) (hcs : a.cells = cs') (hones : ∀ c ∈ cs', c.one = true) (hsz : cs'.length = size) (hle : off + size ≤ cs.length) {cs2 : List AVal} (hp : aput cs off cs' = cs2) (h : Kk .any (σ.set j (.cells cs2))) : AOp P o α σ Kk := by
  subst hx; subst hcs; subst hp; exact AOp_store ho ha hh ht hs hones hsz hle h

theorem aL_store {t : TypeId} {ad x : Operand} {j off size : Nat} {g : Bool} {cs cs' : List AVal} {a : AVal} (hg : o.guard = none) (hd : o.dst = none) (ho : o.op = .store t ad x) (ha : aev e ad = .ref j off) (hx : aev e x = a) (hh : σ.heap j = some (.cells cs))
    (ht : typeOf P t = some (size, g)) (hs : a.solid = true) (hcs : a.cells = cs') (hones : ∀ c ∈ cs', c.one = true) (hsz : cs'.length = size) (hle : off + size ≤ cs.length) {cs2 : List AVal} (hp : aput cs off cs' = cs2)
    (h : aList P ops Kk rest e (σ.set j (.cells cs2))) : aList P ops Kk (o :: rest) e σ :=
  aL_X0 hg hd (AOp_store' ho ha hx hh ht hs hcs hones hsz hle hp h)

theorem aput_one {cs : List AVal} {k : Nat} {a : AVal} (h : k < cs.length) : aput cs k [a] = cs.set k a := by
  unfold aput
  rw [List.set_eq_take_append_cons_drop, if_pos h]
  simp

theorem dR_store {t : TypeId} {ad x : Operand} {j off size : Nat} {g : Bool} {cs cs' : List AVal} {a : AVal} (hop : ops[i]? = some o) (hd : o.dst = none) (hw : wantedA ops o e = some true) (ho : o.op = .store t ad x) (ha : aev e ad = .ref j off) (hx : aev e x = a) (hh : σ.heap j = some (.cells cs))
    (ht : typeOf P t = some (size, g)) (hs : a.solid = true) (hcs : a.cells = cs') (hones : ∀ c ∈ cs', c.one = true) (hsz : cs'.length = size) (hle : off + size ≤ cs.length) {cs2 : List AVal} (hp : aput cs off cs' = cs2)
    (h : dRun P ops s0 Kk r e (σ.set j (.cells cs2))) : dRun P ops s0 Kk (.op i 2 r) e σ :=
  dR_T0 hop hd hw (AOp_store' ho ha hx hh ht hs hcs hones hsz hle hp h)

theorem AOp_append' {α : Operand → AVal} {Kk : AVal → Store → Prop} {s x : Operand} {t el : TypeId} {sz by_ k : Nat} {l l2 : List AVal} (ho : o.op = .call { callee := .builtin .append, args := #[s, x], argTypes := #[t, t] }) (hse : sliceElem P t = some el) (hte : appInfo P el = some (sz, by_))
    (hs : α s = .own k sz l) (hk : σ.tok k = some (el, sz)) (hx : slOf (α x) = some (sz, l2)) (hone : ∀ y ∈ l2, ∀ c ∈ y.cells, c.one = true) (hlen : (l.length + l2.length) * by_ ≤ 140737488355328)
    (h : ∀ t', σ.tok t' = none → Kk (.own t' sz (l ++ l2)) (σ.newTok (some k) t' (el, sz))) : AOp P o α σ Kk :=
  AOp_append ho hse hte (.inl ⟨k, hs, hk, rfl⟩) (.inl hx) hone hlen h

theorem aL_append {d : Tmp} {s x : Operand} {t el : TypeId} {sz by_ k : Nat} {l l2 : List AVal} (hg : o.guard = none) (hd : o.dst = some d) (ho : o.op = .call { callee := .builtin .append, args := #[s, x], argTypes := #[t, t] }) (hse : sliceElem P t = some el) (hte : appInfo P el = some (sz, by_))
    (hs : aev e s = .own k sz l) (hk : σ.tok k = some (el, sz)) (hx : slOf (aev e x) = some (sz, l2)) (hone : ∀ y ∈ l2, ∀ c ∈ y.cells, c.one = true) (hlen : (l.length + l2.length) * by_ ≤ 140737488355328)
    (h : ∀ t', σ.tok t' = none → aList P ops Kk rest (upd e d (.own t' sz (l ++ l2))) (σ.newTok (some k) t' (el, sz))) : aList P ops Kk (o :: rest) e σ :=
  aL_X hg hd (AOp_append' ho hse hte hs hk hx hone hlen h)

theorem ASrc_sl {sz : Nat} {tx el : TypeId} {x : AVal} {l2 : List AVal} (hk : P.underlying tx = some (.slice el)) (hx : slOf x = some (sz, l2)) (hone : ∀ y ∈ l2, ∀ c ∈ y.cells, c.one = true) : ASrc P sz tx x l2 := .inl ⟨⟨el, hk⟩, .inl hx, hone⟩
theorem ASrc_str {tx : TypeId} {s : ByteArray} (hk : P.underlying tx = some .string) : ASrc P 1 tx (.lit (.string s)) (bytesL s) := .inr ⟨hk, rfl, s, rfl, rfl⟩

theorem aL_nilOwn {d : Tmp} {x : Operand} (el : TypeId) (sz : Nat) (hg : o.guard = none) (hd : o.dst = some d) (ho : o.op = .assign x) (hx : aev e x = .lit (.slice none 0 0))
    (h : ∀ t', σ.tok t' = none → aList P ops Kk rest (upd e d (.own t' sz [])) (σ.newTok none t' (el, sz))) : aList P ops Kk (o :: rest) e σ :=
  aL_X hg hd (AOp_nilOwn ho hx h)

theorem AOp_buildSlice' {α : Operand → AVal} {Kk : AVal → Store → Prop} {t el : TypeId} {n sz by_ : Nat} {parts : List (Nat × Operand)} {l : List AVal} (ho : o.op = .buildSlice t n parts.toArray) (hse : sliceElem P t = some el) (hte : appInfo P el = some (sz, by_)) (hn : parts.length = n)
    (hr : parts.map (·.1) = List.range' 0 parts.length) (hl : (parts.map fun p => α p.2) = l) (hs : ∀ p ∈ parts, (α p.2).solid = true ∧ (α p.2).cells.length = sz) (hbig : n * sz ≤ 16777216) (hk : Kk (.sl sz l true) σ) : AOp P o α σ Kk := by
  subst hl
  exact AOp_buildSlice ho hse hte hn hr hs hbig hk

theorem aL_buildSlice {d : Tmp} {t el : TypeId} {n sz by_ : Nat} {parts : List (Nat × Operand)} {l : List AVal} (hg : o.guard = none) (hd : o.dst = some d) (ho : o.op = .buildSlice t n parts.toArray) (hse : sliceElem P t = some el) (hte : appInfo P el = some (sz, by_)) (hn : parts.length = n)
    (hr : parts.map (·.1) = List.range' 0 parts.length) (hl : (parts.map fun p => aev e p.2) = l) (hs : ∀ p ∈ parts, (aev e p.2).solid = true ∧ (aev e p.2).cells.length = sz) (hbig : n * sz ≤ 16777216) (h : aList P ops Kk rest (upd e d (.sl sz l true)) σ) : aList P ops Kk (o :: rest) e σ :=
  aL_X hg hd (AOp_buildSlice' ho hse hte hn hr hl hs hbig h)

theorem sub_setR {σ σ' : Store} {o : Nat} {x : AObj} (h : σ.Sub σ') (ho : σ'.heap o = none) : σ.Sub (σ'.set o x) := ⟨fun i y hy => by
  by_cases hi : i = o
  · subst hi; rw [h.heap i y hy] at ho; cases ho
  · rw [Store.set_ne _ _ hi]; exact h.heap i y hy, h.tok⟩

theorem dR_alloc {d : Tmp} {t : TypeId} {z : Value} {cs : List AVal} (hop : ops[i]? = some o) (hd : o.dst = some d) (hw : wantedA ops o e = some true) (ho : o.op = .alloc t) (hz : zeroOf P t = some z) (hc : zeroCells' z = cs) (hsub : s0.Sub σ)
    (h : ∀ j, σ.heap j = none → dRun P ops s0 Kk r (upd e d (.ref j 0)) (σ.set j (.cells cs))) : dRun P ops s0 Kk (.op i 1 r) e σ :=
  dR_X hop hd hw (AOp_alloc' ho hz hc fun j hj => ⟨sub_setR hsub hj, h j hj⟩)

theorem aEnd_ret {rs : List ResultVar} {Q : AVal → Store → Prop} {v : AVal} {σ' : Store} (h : aret P rs e σ = some v) (hs : σ'.Wk σ) (hq : Q v σ') : aEnd P rs Q .ret e σ := ⟨v, v, σ', h, .refl _, hs, hq⟩
theorem aEnd_nor {rs : List ResultVar} {Q : AVal → Store → Prop} {v : AVal} {σ' : Store} (h : aret P rs e σ = some v) (hs : σ'.Wk σ) (hq : Q v σ') : aEnd P rs Q .normal e σ := ⟨v, v, σ', h, .refl _, hs, hq⟩
theorem aEnd_retW {rs : List ResultVar} {Q : AVal → Store → Prop} {v v' : AVal} {σ' : Store} (h : aret P rs e σ = some v') (hw : Wk v' v) (hs : σ'.Wk σ) (hq : Q v σ') : aEnd P rs Q .ret e σ := ⟨v, v', σ', h, hw, hs, hq⟩

end

end Go.Ab
end
