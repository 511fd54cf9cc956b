/-
  WHAT THE TABLES OF TYPES SAY, a closed fact each. Printed by a program of one's own (wip/tools/gen_types.py) off this seat's translation.
-/
import Derived.Test.YtdedpamcpgbgmaaAbDraw
import Derived.Test.YtdedpamcpgbgmaaProg
import Derived.KernelRfl
set_option linter.all false
namespace Go.Proofs
open Go.Ab
@[go_sem] theorem Try.aty1 : typeOf Try.prog 1 = some (1, false) := by kernel_rfl
@[go_sem] theorem Try.aze1 : zeroOf Try.prog 1 = some (.nilFunc) := by kernel_rfl
@[go_sem] theorem Try.aty2 : typeOf Try.prog 2 = some (1, false) := by kernel_rfl
@[go_sem] theorem Try.aze2 : zeroOf Try.prog 2 = some (.int .i64 0) := by kernel_rfl
@[go_sem] theorem Try.aty3 : typeOf Try.prog 3 = some (1, false) := by kernel_rfl
@[go_sem] theorem Try.api3 : appInfo Try.prog 3 = some (1, 8) := by kernel_rfl
@[go_sem] theorem Try.aze3 : zeroOf Try.prog 3 = some (.int .i64 0) := by kernel_rfl
@[go_sem] theorem Try.aty4 : typeOf Try.prog 4 = some (1, false) := by kernel_rfl
@[go_sem] theorem Try.aze4 : zeroOf Try.prog 4 = some (.bool false) := by kernel_rfl
@[go_sem] theorem Try.aty5 : typeOf Try.prog 5 = some (1, false) := by kernel_rfl
@[go_sem] theorem Try.api5 : appInfo Try.prog 5 = some (1, 1) := by kernel_rfl
@[go_sem] theorem Try.aze5 : zeroOf Try.prog 5 = some (.int .u8 0) := by kernel_rfl
@[go_sem] theorem Try.aty6 : typeOf Try.prog 6 = some (1, false) := by kernel_rfl
@[go_sem] theorem Try.aze6 : zeroOf Try.prog 6 = some (.int .u8 0) := by kernel_rfl
@[go_sem] theorem Try.aty7 : typeOf Try.prog 7 = some (4, true) := by kernel_rfl
@[go_sem] theorem Try.aze7 : zeroOf Try.prog 7 = some (.agg #[.int .i64 0, .int .i64 0, .bool false, .int .u8 0]) := by kernel_rfl
@[go_sem] theorem Try.afi7_0 : fieldInfo Try.prog 7 0 = some (0, 1, false) := by kernel_rfl
@[go_sem] theorem Try.afi7_1 : fieldInfo Try.prog 7 1 = some (1, 1, false) := by kernel_rfl
@[go_sem] theorem Try.afi7_2 : fieldInfo Try.prog 7 2 = some (2, 1, false) := by kernel_rfl
@[go_sem] theorem Try.afi7_3 : fieldInfo Try.prog 7 3 = some (3, 1, false) := by kernel_rfl
@[go_sem] theorem Try.abi7 : buildInfo Try.prog 7 = some ([(0, 1), (1, 1), (2, 1), (3, 1)], 0, [.int .i64 0, .int .i64 0, .bool false, .int .u8 0]) := by kernel_rfl
@[go_sem] theorem Try.aty8 : typeOf Try.prog 8 = some (4, true) := by kernel_rfl
@[go_sem] theorem Try.aze8 : zeroOf Try.prog 8 = some (.agg #[.int .i64 0, .int .i64 0, .bool false, .int .u8 0]) := by kernel_rfl
@[go_sem] theorem Try.afi8_0 : fieldInfo Try.prog 8 0 = some (0, 1, false) := by kernel_rfl
@[go_sem] theorem Try.afi8_1 : fieldInfo Try.prog 8 1 = some (1, 1, false) := by kernel_rfl
@[go_sem] theorem Try.afi8_2 : fieldInfo Try.prog 8 2 = some (2, 1, false) := by kernel_rfl
@[go_sem] theorem Try.afi8_3 : fieldInfo Try.prog 8 3 = some (3, 1, false) := by kernel_rfl
@[go_sem] theorem Try.abi8 : buildInfo Try.prog 8 = some ([(0, 1), (1, 1), (2, 1), (3, 1)], 0, [.int .i64 0, .int .i64 0, .bool false, .int .u8 0]) := by kernel_rfl
@[go_sem] theorem Try.aty9 : typeOf Try.prog 9 = some (1, false) := by kernel_rfl
@[go_sem] theorem Try.ais9 : isStringT Try.prog 9 = true := by kernel_rfl
@[go_sem] theorem Try.api9 : appInfo Try.prog 9 = some (1, 16) := by kernel_rfl
@[go_sem] theorem Try.aze9 : zeroOf Try.prog 9 = some (.string ⟨#[]⟩) := by kernel_rfl
@[go_sem] theorem Try.aty10 : typeOf Try.prog 10 = some (1, false) := by kernel_rfl
@[go_sem] theorem Try.ais10 : isStringT Try.prog 10 = true := by kernel_rfl
@[go_sem] theorem Try.aze10 : zeroOf Try.prog 10 = some (.string ⟨#[]⟩) := by kernel_rfl
@[go_sem] theorem Try.aty11 : typeOf Try.prog 11 = some (1, false) := by kernel_rfl
@[go_sem] theorem Try.ais11 : isStringT Try.prog 11 = true := by kernel_rfl
@[go_sem] theorem Try.aze11 : zeroOf Try.prog 11 = some (.string ⟨#[]⟩) := by kernel_rfl
@[go_sem] theorem Try.aty12 : typeOf Try.prog 12 = some (1, false) := by kernel_rfl
@[go_sem] theorem Try.aze12 : zeroOf Try.prog 12 = some (.int .u64 0) := by kernel_rfl
@[go_sem] theorem Try.aty13 : typeOf Try.prog 13 = some (2, true) := by kernel_rfl
@[go_sem] theorem Try.aze13 : zeroOf Try.prog 13 = some (.agg #[.string ⟨#[]⟩, .int .u64 0]) := by kernel_rfl
@[go_sem] theorem Try.afi13_0 : fieldInfo Try.prog 13 0 = some (0, 1, false) := by kernel_rfl
@[go_sem] theorem Try.afi13_1 : fieldInfo Try.prog 13 1 = some (1, 1, false) := by kernel_rfl
@[go_sem] theorem Try.abi13 : buildInfo Try.prog 13 = some ([(0, 1), (1, 1)], 0, [.string ⟨#[]⟩, .int .u64 0]) := by kernel_rfl
@[go_sem] theorem Try.aty14 : typeOf Try.prog 14 = some (2, true) := by kernel_rfl
@[go_sem] theorem Try.aze14 : zeroOf Try.prog 14 = some (.agg #[.string ⟨#[]⟩, .int .u64 0]) := by kernel_rfl
@[go_sem] theorem Try.afi14_0 : fieldInfo Try.prog 14 0 = some (0, 1, false) := by kernel_rfl
@[go_sem] theorem Try.afi14_1 : fieldInfo Try.prog 14 1 = some (1, 1, false) := by kernel_rfl
@[go_sem] theorem Try.abi14 : buildInfo Try.prog 14 = some ([(0, 1), (1, 1)], 0, [.string ⟨#[]⟩, .int .u64 0]) := by kernel_rfl
@[go_sem] theorem Try.aty15 : typeOf Try.prog 15 = some (1, false) := by kernel_rfl
@[go_sem] theorem Try.aze15 : zeroOf Try.prog 15 = some (.pointer none) := by kernel_rfl
@[go_sem] theorem Try.aty16 : typeOf Try.prog 16 = some (1, false) := by kernel_rfl
@[go_sem] theorem Try.aze16 : zeroOf Try.prog 16 = some (.pointer none) := by kernel_rfl
@[go_sem] theorem Try.aty17 : typeOf Try.prog 17 = some (1, false) := by kernel_rfl
@[go_sem] theorem Try.aze17 : zeroOf Try.prog 17 = some (.pointer none) := by kernel_rfl
@[go_sem] theorem Try.aty18 : typeOf Try.prog 18 = some (1, true) := by kernel_rfl
@[go_sem] theorem Try.aze18 : zeroOf Try.prog 18 = some (.agg #[.pointer none]) := by kernel_rfl
@[go_sem] theorem Try.afi18_0 : fieldInfo Try.prog 18 0 = some (0, 1, false) := by kernel_rfl
@[go_sem] theorem Try.abi18 : buildInfo Try.prog 18 = some ([(0, 1)], 0, [.pointer none]) := by kernel_rfl
@[go_sem] theorem Try.aty19 : typeOf Try.prog 19 = some (1, true) := by kernel_rfl
@[go_sem] theorem Try.aze19 : zeroOf Try.prog 19 = some (.agg #[.pointer none]) := by kernel_rfl
@[go_sem] theorem Try.afi19_0 : fieldInfo Try.prog 19 0 = some (0, 1, false) := by kernel_rfl
@[go_sem] theorem Try.abi19 : buildInfo Try.prog 19 = some ([(0, 1)], 0, [.pointer none]) := by kernel_rfl
@[go_sem] theorem Try.aty20 : typeOf Try.prog 20 = some (1, false) := by kernel_rfl
@[go_sem] theorem Try.aze20 : zeroOf Try.prog 20 = some (.nilIface) := by kernel_rfl
@[go_sem] theorem Try.aty21 : typeOf Try.prog 21 = some (1, false) := by kernel_rfl
@[go_sem] theorem Try.aze21 : zeroOf Try.prog 21 = some (.int .i32 0) := by kernel_rfl
@[go_sem] theorem Try.aty22 : typeOf Try.prog 22 = some (2, true) := by kernel_rfl
@[go_sem] theorem Try.aze22 : zeroOf Try.prog 22 = some (.agg #[.int .i64 0, .int .i64 0]) := by kernel_rfl
@[go_sem] theorem Try.afi22_0 : fieldInfo Try.prog 22 0 = some (0, 1, false) := by kernel_rfl
@[go_sem] theorem Try.afi22_1 : fieldInfo Try.prog 22 1 = some (1, 1, false) := by kernel_rfl
@[go_sem] theorem Try.abi22 : buildInfo Try.prog 22 = some ([(0, 1), (1, 1)], 0, [.int .i64 0, .int .i64 0]) := by kernel_rfl
@[go_sem] theorem Try.aty23 : typeOf Try.prog 23 = some (2, true) := by kernel_rfl
@[go_sem] theorem Try.aze23 : zeroOf Try.prog 23 = some (.agg #[.int .i64 0, .int .i64 0]) := by kernel_rfl
@[go_sem] theorem Try.afi23_0 : fieldInfo Try.prog 23 0 = some (0, 1, false) := by kernel_rfl
@[go_sem] theorem Try.afi23_1 : fieldInfo Try.prog 23 1 = some (1, 1, false) := by kernel_rfl
@[go_sem] theorem Try.abi23 : buildInfo Try.prog 23 = some ([(0, 1), (1, 1)], 0, [.int .i64 0, .int .i64 0]) := by kernel_rfl
@[go_sem] theorem Try.aty24 : typeOf Try.prog 24 = some (4, true) := by kernel_rfl
@[go_sem] theorem Try.ais24 : isStringT Try.prog 24 = false := by kernel_rfl
@[go_sem] theorem Try.aal24 : arrayLen Try.prog 24 = some (4, 3) := by kernel_rfl
@[go_sem] theorem Try.aze24 : zeroOf Try.prog 24 = some (.agg #[.int .i64 0, .int .i64 0, .int .i64 0, .int .i64 0]) := by kernel_rfl
@[go_sem] theorem Try.abi24 : buildInfo Try.prog 24 = some ([], 1, [.int .i64 0, .int .i64 0, .int .i64 0, .int .i64 0]) := by kernel_rfl
@[go_sem] theorem Try.aty26 : typeOf Try.prog 26 = some (1, false) := by kernel_rfl
@[go_sem] theorem Try.aze26 : zeroOf Try.prog 26 = some (.nilFunc) := by kernel_rfl
@[go_sem] theorem Try.aty27 : typeOf Try.prog 27 = some (1, false) := by kernel_rfl
@[go_sem] theorem Try.aze27 : zeroOf Try.prog 27 = some (.nilFunc) := by kernel_rfl
@[go_sem] theorem Try.aty28 : typeOf Try.prog 28 = some (1, false) := by kernel_rfl
@[go_sem] theorem Try.aze28 : zeroOf Try.prog 28 = some (.nilFunc) := by kernel_rfl
@[go_sem] theorem Try.aty29 : typeOf Try.prog 29 = some (1, false) := by kernel_rfl
@[go_sem] theorem Try.aze29 : zeroOf Try.prog 29 = some (.nilFunc) := by kernel_rfl
@[go_sem] theorem Try.aty30 : typeOf Try.prog 30 = some (1, false) := by kernel_rfl
@[go_sem] theorem Try.aze30 : zeroOf Try.prog 30 = some (.nilFunc) := by kernel_rfl
@[go_sem] theorem Try.aty31 : typeOf Try.prog 31 = some (1, false) := by kernel_rfl
@[go_sem] theorem Try.aze31 : zeroOf Try.prog 31 = some (.nilFunc) := by kernel_rfl
@[go_sem] theorem Try.aty32 : typeOf Try.prog 32 = some (1, false) := by kernel_rfl
@[go_sem] theorem Try.ais32 : isStringT Try.prog 32 = false := by kernel_rfl
@[go_sem] theorem Try.ase32 : sliceElem Try.prog 32 = some 5 := by kernel_rfl
@[go_sem] theorem Try.aze32 : zeroOf Try.prog 32 = some (.slice none 0 0) := by kernel_rfl
@[go_sem] theorem Try.aty33 : typeOf Try.prog 33 = some (1, false) := by kernel_rfl
@[go_sem] theorem Try.ais33 : isStringT Try.prog 33 = false := by kernel_rfl
@[go_sem] theorem Try.ase33 : sliceElem Try.prog 33 = some 3 := by kernel_rfl
@[go_sem] theorem Try.aze33 : zeroOf Try.prog 33 = some (.slice none 0 0) := by kernel_rfl
@[go_sem] theorem Try.aty34 : typeOf Try.prog 34 = some (1, false) := by kernel_rfl
@[go_sem] theorem Try.aze34 : zeroOf Try.prog 34 = some (.nilFunc) := by kernel_rfl
@[go_sem] theorem Try.aty35 : typeOf Try.prog 35 = some (1, false) := by kernel_rfl
@[go_sem] theorem Try.ais35 : isStringT Try.prog 35 = false := by kernel_rfl
@[go_sem] theorem Try.ase35 : sliceElem Try.prog 35 = some 46 := by kernel_rfl
@[go_sem] theorem Try.aze35 : zeroOf Try.prog 35 = some (.slice none 0 0) := by kernel_rfl
@[go_sem] theorem Try.aty36 : typeOf Try.prog 36 = some (1, false) := by kernel_rfl
@[go_sem] theorem Try.aze36 : zeroOf Try.prog 36 = some (.nilFunc) := by kernel_rfl
@[go_sem] theorem Try.aty37 : typeOf Try.prog 37 = some (1, false) := by kernel_rfl
@[go_sem] theorem Try.aze37 : zeroOf Try.prog 37 = some (.pointer none) := by kernel_rfl
@[go_sem] theorem Try.aty38 : typeOf Try.prog 38 = some (1, false) := by kernel_rfl
@[go_sem] theorem Try.aze38 : zeroOf Try.prog 38 = some (.nilFunc) := by kernel_rfl
@[go_sem] theorem Try.aty39 : typeOf Try.prog 39 = some (2, true) := by kernel_rfl
@[go_sem] theorem Try.aze39 : zeroOf Try.prog 39 = some (.agg #[.slice none 0 0, .int .i64 0]) := by kernel_rfl
@[go_sem] theorem Try.afi39_0 : fieldInfo Try.prog 39 0 = some (0, 1, false) := by kernel_rfl
@[go_sem] theorem Try.afi39_1 : fieldInfo Try.prog 39 1 = some (1, 1, false) := by kernel_rfl
@[go_sem] theorem Try.abi39 : buildInfo Try.prog 39 = some ([(0, 1), (1, 1)], 0, [.slice none 0 0, .int .i64 0]) := by kernel_rfl
@[go_sem] theorem Try.aty40 : typeOf Try.prog 40 = some (2, true) := by kernel_rfl
@[go_sem] theorem Try.aze40 : zeroOf Try.prog 40 = some (.agg #[.slice none 0 0, .int .i64 0]) := by kernel_rfl
@[go_sem] theorem Try.afi40_0 : fieldInfo Try.prog 40 0 = some (0, 1, false) := by kernel_rfl
@[go_sem] theorem Try.afi40_1 : fieldInfo Try.prog 40 1 = some (1, 1, false) := by kernel_rfl
@[go_sem] theorem Try.abi40 : buildInfo Try.prog 40 = some ([(0, 1), (1, 1)], 0, [.slice none 0 0, .int .i64 0]) := by kernel_rfl
@[go_sem] theorem Try.aty41 : typeOf Try.prog 41 = some (1, false) := by kernel_rfl
@[go_sem] theorem Try.aze41 : zeroOf Try.prog 41 = some (.pointer none) := by kernel_rfl
@[go_sem] theorem Try.aty42 : typeOf Try.prog 42 = some (2, true) := by kernel_rfl
@[go_sem] theorem Try.aze42 : zeroOf Try.prog 42 = some (.agg #[.string ⟨#[]⟩, .string ⟨#[]⟩]) := by kernel_rfl
@[go_sem] theorem Try.afi42_0 : fieldInfo Try.prog 42 0 = some (0, 1, false) := by kernel_rfl
@[go_sem] theorem Try.afi42_1 : fieldInfo Try.prog 42 1 = some (1, 1, false) := by kernel_rfl
@[go_sem] theorem Try.abi42 : buildInfo Try.prog 42 = some ([(0, 1), (1, 1)], 0, [.string ⟨#[]⟩, .string ⟨#[]⟩]) := by kernel_rfl
@[go_sem] theorem Try.aty43 : typeOf Try.prog 43 = some (2, true) := by kernel_rfl
@[go_sem] theorem Try.aze43 : zeroOf Try.prog 43 = some (.agg #[.string ⟨#[]⟩, .string ⟨#[]⟩]) := by kernel_rfl
@[go_sem] theorem Try.afi43_0 : fieldInfo Try.prog 43 0 = some (0, 1, false) := by kernel_rfl
@[go_sem] theorem Try.afi43_1 : fieldInfo Try.prog 43 1 = some (1, 1, false) := by kernel_rfl
@[go_sem] theorem Try.abi43 : buildInfo Try.prog 43 = some ([(0, 1), (1, 1)], 0, [.string ⟨#[]⟩, .string ⟨#[]⟩]) := by kernel_rfl
@[go_sem] theorem Try.aty44 : typeOf Try.prog 44 = some (1, false) := by kernel_rfl
@[go_sem] theorem Try.aze44 : zeroOf Try.prog 44 = some (.nilFunc) := by kernel_rfl
@[go_sem] theorem Try.aty45 : typeOf Try.prog 45 = some (3, true) := by kernel_rfl
@[go_sem] theorem Try.aze45 : zeroOf Try.prog 45 = some (.agg #[.int .i64 0, .string ⟨#[]⟩, .int .i64 0]) := by kernel_rfl
@[go_sem] theorem Try.afi45_0 : fieldInfo Try.prog 45 0 = some (0, 1, false) := by kernel_rfl
@[go_sem] theorem Try.afi45_1 : fieldInfo Try.prog 45 1 = some (1, 1, false) := by kernel_rfl
@[go_sem] theorem Try.afi45_2 : fieldInfo Try.prog 45 2 = some (2, 1, false) := by kernel_rfl
@[go_sem] theorem Try.abi45 : buildInfo Try.prog 45 = some ([(0, 1), (1, 1), (2, 1)], 0, [.int .i64 0, .string ⟨#[]⟩, .int .i64 0]) := by kernel_rfl
@[go_sem] theorem Try.aty46 : typeOf Try.prog 46 = some (3, true) := by kernel_rfl
@[go_sem] theorem Try.api46 : appInfo Try.prog 46 = some (3, 32) := by kernel_rfl
@[go_sem] theorem Try.aze46 : zeroOf Try.prog 46 = some (.agg #[.int .i64 0, .string ⟨#[]⟩, .int .i64 0]) := by kernel_rfl
@[go_sem] theorem Try.afi46_0 : fieldInfo Try.prog 46 0 = some (0, 1, false) := by kernel_rfl
@[go_sem] theorem Try.afi46_1 : fieldInfo Try.prog 46 1 = some (1, 1, false) := by kernel_rfl
@[go_sem] theorem Try.afi46_2 : fieldInfo Try.prog 46 2 = some (2, 1, false) := by kernel_rfl
@[go_sem] theorem Try.abi46 : buildInfo Try.prog 46 = some ([(0, 1), (1, 1), (2, 1)], 0, [.int .i64 0, .string ⟨#[]⟩, .int .i64 0]) := by kernel_rfl
@[go_sem] theorem Try.aty47 : typeOf Try.prog 47 = some (1, false) := by kernel_rfl
@[go_sem] theorem Try.aze47 : zeroOf Try.prog 47 = some (.nilFunc) := by kernel_rfl
@[go_sem] theorem Try.aty48 : typeOf Try.prog 48 = some (1, false) := by kernel_rfl
@[go_sem] theorem Try.aze48 : zeroOf Try.prog 48 = some (.nilFunc) := by kernel_rfl
@[go_sem] theorem Try.aty49 : typeOf Try.prog 49 = some (1, false) := by kernel_rfl
@[go_sem] theorem Try.aze49 : zeroOf Try.prog 49 = some (.nilFunc) := by kernel_rfl
@[go_sem] theorem Try.aty50 : typeOf Try.prog 50 = some (1, false) := by kernel_rfl
@[go_sem] theorem Try.ais50 : isStringT Try.prog 50 = false := by kernel_rfl
@[go_sem] theorem Try.ase50 : sliceElem Try.prog 50 = some 64 := by kernel_rfl
@[go_sem] theorem Try.aze50 : zeroOf Try.prog 50 = some (.slice none 0 0) := by kernel_rfl
@[go_sem] theorem Try.aty51 : typeOf Try.prog 51 = some (1, false) := by kernel_rfl
@[go_sem] theorem Try.aze51 : zeroOf Try.prog 51 = some (.pointer none) := by kernel_rfl
@[go_sem] theorem Try.aty52 : typeOf Try.prog 52 = some (1, false) := by kernel_rfl
@[go_sem] theorem Try.aze52 : zeroOf Try.prog 52 = some (.nilFunc) := by kernel_rfl
@[go_sem] theorem Try.aty53 : typeOf Try.prog 53 = some (1, false) := by kernel_rfl
@[go_sem] theorem Try.ais53 : isStringT Try.prog 53 = false := by kernel_rfl
@[go_sem] theorem Try.ase53 : sliceElem Try.prog 53 = some 91 := by kernel_rfl
@[go_sem] theorem Try.aze53 : zeroOf Try.prog 53 = some (.slice none 0 0) := by kernel_rfl
@[go_sem] theorem Try.aty54 : typeOf Try.prog 54 = some (1, false) := by kernel_rfl
@[go_sem] theorem Try.ais54 : isStringT Try.prog 54 = false := by kernel_rfl
@[go_sem] theorem Try.ase54 : sliceElem Try.prog 54 = some 91 := by kernel_rfl
@[go_sem] theorem Try.aze54 : zeroOf Try.prog 54 = some (.slice none 0 0) := by kernel_rfl
@[go_sem] theorem Try.aty55 : typeOf Try.prog 55 = some (1, false) := by kernel_rfl
@[go_sem] theorem Try.aze55 : zeroOf Try.prog 55 = some (.map none) := by kernel_rfl
@[go_sem] theorem Try.aty56 : typeOf Try.prog 56 = some (2, true) := by kernel_rfl
@[go_sem] theorem Try.aze56 : zeroOf Try.prog 56 = some (.agg #[.slice none 0 0, .map none]) := by kernel_rfl
@[go_sem] theorem Try.afi56_0 : fieldInfo Try.prog 56 0 = some (0, 1, false) := by kernel_rfl
@[go_sem] theorem Try.afi56_1 : fieldInfo Try.prog 56 1 = some (1, 1, false) := by kernel_rfl
@[go_sem] theorem Try.abi56 : buildInfo Try.prog 56 = some ([(0, 1), (1, 1)], 0, [.slice none 0 0, .map none]) := by kernel_rfl
@[go_sem] theorem Try.aty57 : typeOf Try.prog 57 = some (2, true) := by kernel_rfl
@[go_sem] theorem Try.aze57 : zeroOf Try.prog 57 = some (.agg #[.slice none 0 0, .map none]) := by kernel_rfl
@[go_sem] theorem Try.afi57_0 : fieldInfo Try.prog 57 0 = some (0, 1, false) := by kernel_rfl
@[go_sem] theorem Try.afi57_1 : fieldInfo Try.prog 57 1 = some (1, 1, false) := by kernel_rfl
@[go_sem] theorem Try.abi57 : buildInfo Try.prog 57 = some ([(0, 1), (1, 1)], 0, [.slice none 0 0, .map none]) := by kernel_rfl
@[go_sem] theorem Try.aty58 : typeOf Try.prog 58 = some (1, false) := by kernel_rfl
@[go_sem] theorem Try.aze58 : zeroOf Try.prog 58 = some (.pointer none) := by kernel_rfl
@[go_sem] theorem Try.aty59 : typeOf Try.prog 59 = some (1, false) := by kernel_rfl
@[go_sem] theorem Try.ais59 : isStringT Try.prog 59 = false := by kernel_rfl
@[go_sem] theorem Try.ase59 : sliceElem Try.prog 59 = some 88 := by kernel_rfl
@[go_sem] theorem Try.aze59 : zeroOf Try.prog 59 = some (.slice none 0 0) := by kernel_rfl
@[go_sem] theorem Try.aty60 : typeOf Try.prog 60 = some (1, true) := by kernel_rfl
@[go_sem] theorem Try.aze60 : zeroOf Try.prog 60 = some (.agg #[.slice none 0 0]) := by kernel_rfl
@[go_sem] theorem Try.afi60_0 : fieldInfo Try.prog 60 0 = some (0, 1, false) := by kernel_rfl
@[go_sem] theorem Try.abi60 : buildInfo Try.prog 60 = some ([(0, 1)], 0, [.slice none 0 0]) := by kernel_rfl
@[go_sem] theorem Try.aty61 : typeOf Try.prog 61 = some (1, true) := by kernel_rfl
@[go_sem] theorem Try.aze61 : zeroOf Try.prog 61 = some (.agg #[.slice none 0 0]) := by kernel_rfl
@[go_sem] theorem Try.afi61_0 : fieldInfo Try.prog 61 0 = some (0, 1, false) := by kernel_rfl
@[go_sem] theorem Try.abi61 : buildInfo Try.prog 61 = some ([(0, 1)], 0, [.slice none 0 0]) := by kernel_rfl
@[go_sem] theorem Try.aty62 : typeOf Try.prog 62 = some (1, false) := by kernel_rfl
@[go_sem] theorem Try.aze62 : zeroOf Try.prog 62 = some (.nilFunc) := by kernel_rfl
@[go_sem] theorem Try.aty63 : typeOf Try.prog 63 = some (3, true) := by kernel_rfl
@[go_sem] theorem Try.aze63 : zeroOf Try.prog 63 = some (.agg #[.int .i64 0, .int .i64 0, .int .i64 0]) := by kernel_rfl
@[go_sem] theorem Try.afi63_0 : fieldInfo Try.prog 63 0 = some (0, 1, false) := by kernel_rfl
@[go_sem] theorem Try.afi63_1 : fieldInfo Try.prog 63 1 = some (1, 1, false) := by kernel_rfl
@[go_sem] theorem Try.afi63_2 : fieldInfo Try.prog 63 2 = some (2, 1, false) := by kernel_rfl
@[go_sem] theorem Try.abi63 : buildInfo Try.prog 63 = some ([(0, 1), (1, 1), (2, 1)], 0, [.int .i64 0, .int .i64 0, .int .i64 0]) := by kernel_rfl
@[go_sem] theorem Try.aty64 : typeOf Try.prog 64 = some (3, true) := by kernel_rfl
@[go_sem] theorem Try.api64 : appInfo Try.prog 64 = some (3, 24) := by kernel_rfl
@[go_sem] theorem Try.aze64 : zeroOf Try.prog 64 = some (.agg #[.int .i64 0, .int .i64 0, .int .i64 0]) := by kernel_rfl
@[go_sem] theorem Try.afi64_0 : fieldInfo Try.prog 64 0 = some (0, 1, false) := by kernel_rfl
@[go_sem] theorem Try.afi64_1 : fieldInfo Try.prog 64 1 = some (1, 1, false) := by kernel_rfl
@[go_sem] theorem Try.afi64_2 : fieldInfo Try.prog 64 2 = some (2, 1, false) := by kernel_rfl
@[go_sem] theorem Try.abi64 : buildInfo Try.prog 64 = some ([(0, 1), (1, 1), (2, 1)], 0, [.int .i64 0, .int .i64 0, .int .i64 0]) := by kernel_rfl
@[go_sem] theorem Try.aty65 : typeOf Try.prog 65 = some (1, false) := by kernel_rfl
@[go_sem] theorem Try.aze65 : zeroOf Try.prog 65 = some (.nilFunc) := by kernel_rfl
@[go_sem] theorem Try.aty66 : typeOf Try.prog 66 = some (1, false) := by kernel_rfl
@[go_sem] theorem Try.aze66 : zeroOf Try.prog 66 = some (.nilFunc) := by kernel_rfl
@[go_sem] theorem Try.aty67 : typeOf Try.prog 67 = some (1, false) := by kernel_rfl
@[go_sem] theorem Try.aze67 : zeroOf Try.prog 67 = some (.nilFunc) := by kernel_rfl
@[go_sem] theorem Try.aty69 : typeOf Try.prog 69 = some (1, false) := by kernel_rfl
@[go_sem] theorem Try.aze69 : zeroOf Try.prog 69 = some (.nilFunc) := by kernel_rfl
@[go_sem] theorem Try.aty70 : typeOf Try.prog 70 = some (1, false) := by kernel_rfl
@[go_sem] theorem Try.aze70 : zeroOf Try.prog 70 = some (.nilFunc) := by kernel_rfl
@[go_sem] theorem Try.aty71 : typeOf Try.prog 71 = some (1, false) := by kernel_rfl
@[go_sem] theorem Try.aze71 : zeroOf Try.prog 71 = some (.nilFunc) := by kernel_rfl
@[go_sem] theorem Try.aty72 : typeOf Try.prog 72 = some (8, true) := by kernel_rfl
@[go_sem] theorem Try.ais72 : isStringT Try.prog 72 = false := by kernel_rfl
@[go_sem] theorem Try.aal72 : arrayLen Try.prog 72 = some (8, 3) := by kernel_rfl
@[go_sem] theorem Try.aze72 : zeroOf Try.prog 72 = some (.agg #[.int .i64 0, .int .i64 0, .int .i64 0, .int .i64 0, .int .i64 0, .int .i64 0, .int .i64 0, .int .i64 0]) := by kernel_rfl
@[go_sem] theorem Try.abi72 : buildInfo Try.prog 72 = some ([], 1, [.int .i64 0, .int .i64 0, .int .i64 0, .int .i64 0, .int .i64 0, .int .i64 0, .int .i64 0, .int .i64 0]) := by kernel_rfl
@[go_sem] theorem Try.aty73 : typeOf Try.prog 73 = some (1, false) := by kernel_rfl
@[go_sem] theorem Try.aze73 : zeroOf Try.prog 73 = some (.int .u64 0) := by kernel_rfl
@[go_sem] theorem Try.aty74 : typeOf Try.prog 74 = some (1, false) := by kernel_rfl
@[go_sem] theorem Try.aze74 : zeroOf Try.prog 74 = some (.nilFunc) := by kernel_rfl
@[go_sem] theorem Try.aty75 : typeOf Try.prog 75 = some (1, false) := by kernel_rfl
@[go_sem] theorem Try.ais75 : isStringT Try.prog 75 = false := by kernel_rfl
@[go_sem] theorem Try.ase75 : sliceElem Try.prog 75 = some 9 := by kernel_rfl
@[go_sem] theorem Try.aze75 : zeroOf Try.prog 75 = some (.slice none 0 0) := by kernel_rfl
@[go_sem] theorem Try.aty76 : typeOf Try.prog 76 = some (1, false) := by kernel_rfl
@[go_sem] theorem Try.aze76 : zeroOf Try.prog 76 = some (.nilFunc) := by kernel_rfl
@[go_sem] theorem Try.aty77 : typeOf Try.prog 77 = some (1, false) := by kernel_rfl
@[go_sem] theorem Try.aze77 : zeroOf Try.prog 77 = some (.nilFunc) := by kernel_rfl
@[go_sem] theorem Try.aty78 : typeOf Try.prog 78 = some (1, false) := by kernel_rfl
@[go_sem] theorem Try.aze78 : zeroOf Try.prog 78 = some (.nilFunc) := by kernel_rfl
@[go_sem] theorem Try.aty79 : typeOf Try.prog 79 = some (1, false) := by kernel_rfl
@[go_sem] theorem Try.aze79 : zeroOf Try.prog 79 = some (.nilFunc) := by kernel_rfl
@[go_sem] theorem Try.aty80 : typeOf Try.prog 80 = some (1, false) := by kernel_rfl
@[go_sem] theorem Try.aze80 : zeroOf Try.prog 80 = some (.nilFunc) := by kernel_rfl
@[go_sem] theorem Try.aty81 : typeOf Try.prog 81 = some (1, false) := by kernel_rfl
@[go_sem] theorem Try.aze81 : zeroOf Try.prog 81 = some (.nilFunc) := by kernel_rfl
@[go_sem] theorem Try.aty82 : typeOf Try.prog 82 = some (1, false) := by kernel_rfl
@[go_sem] theorem Try.aze82 : zeroOf Try.prog 82 = some (.nilFunc) := by kernel_rfl
@[go_sem] theorem Try.aty83 : typeOf Try.prog 83 = some (1, false) := by kernel_rfl
@[go_sem] theorem Try.aze83 : zeroOf Try.prog 83 = some (.nilFunc) := by kernel_rfl
@[go_sem] theorem Try.aty84 : typeOf Try.prog 84 = some (1, false) := by kernel_rfl
@[go_sem] theorem Try.aze84 : zeroOf Try.prog 84 = some (.nilFunc) := by kernel_rfl
@[go_sem] theorem Try.aty85 : typeOf Try.prog 85 = some (1, false) := by kernel_rfl
@[go_sem] theorem Try.aze85 : zeroOf Try.prog 85 = some (.nilFunc) := by kernel_rfl
@[go_sem] theorem Try.aty86 : typeOf Try.prog 86 = some (1, false) := by kernel_rfl
@[go_sem] theorem Try.aze86 : zeroOf Try.prog 86 = some (.nilFunc) := by kernel_rfl
@[go_sem] theorem Try.aty87 : typeOf Try.prog 87 = some (2, true) := by kernel_rfl
@[go_sem] theorem Try.aze87 : zeroOf Try.prog 87 = some (.agg #[.int .i64 0, .int .i64 0]) := by kernel_rfl
@[go_sem] theorem Try.afi87_0 : fieldInfo Try.prog 87 0 = some (0, 1, false) := by kernel_rfl
@[go_sem] theorem Try.afi87_1 : fieldInfo Try.prog 87 1 = some (1, 1, false) := by kernel_rfl
@[go_sem] theorem Try.abi87 : buildInfo Try.prog 87 = some ([(0, 1), (1, 1)], 0, [.int .i64 0, .int .i64 0]) := by kernel_rfl
@[go_sem] theorem Try.aty88 : typeOf Try.prog 88 = some (2, true) := by kernel_rfl
@[go_sem] theorem Try.api88 : appInfo Try.prog 88 = some (2, 16) := by kernel_rfl
@[go_sem] theorem Try.aze88 : zeroOf Try.prog 88 = some (.agg #[.int .i64 0, .int .i64 0]) := by kernel_rfl
@[go_sem] theorem Try.afi88_0 : fieldInfo Try.prog 88 0 = some (0, 1, false) := by kernel_rfl
@[go_sem] theorem Try.afi88_1 : fieldInfo Try.prog 88 1 = some (1, 1, false) := by kernel_rfl
@[go_sem] theorem Try.abi88 : buildInfo Try.prog 88 = some ([(0, 1), (1, 1)], 0, [.int .i64 0, .int .i64 0]) := by kernel_rfl
@[go_sem] theorem Try.aty89 : typeOf Try.prog 89 = some (3, true) := by kernel_rfl
@[go_sem] theorem Try.aze89 : zeroOf Try.prog 89 = some (.agg #[.int .i64 0, .int .i64 0, .int .i64 0]) := by kernel_rfl
@[go_sem] theorem Try.afi89_0 : fieldInfo Try.prog 89 0 = some (0, 1, false) := by kernel_rfl
@[go_sem] theorem Try.afi89_1 : fieldInfo Try.prog 89 1 = some (1, 1, false) := by kernel_rfl
@[go_sem] theorem Try.afi89_2 : fieldInfo Try.prog 89 2 = some (2, 1, false) := by kernel_rfl
@[go_sem] theorem Try.abi89 : buildInfo Try.prog 89 = some ([(0, 1), (1, 1), (2, 1)], 0, [.int .i64 0, .int .i64 0, .int .i64 0]) := by kernel_rfl
@[go_sem] theorem Try.aty90 : typeOf Try.prog 90 = some (3, true) := by kernel_rfl
@[go_sem] theorem Try.aze90 : zeroOf Try.prog 90 = some (.agg #[.int .i64 0, .int .i64 0, .int .i64 0]) := by kernel_rfl
@[go_sem] theorem Try.afi90_0 : fieldInfo Try.prog 90 0 = some (0, 1, false) := by kernel_rfl
@[go_sem] theorem Try.afi90_1 : fieldInfo Try.prog 90 1 = some (1, 1, false) := by kernel_rfl
@[go_sem] theorem Try.afi90_2 : fieldInfo Try.prog 90 2 = some (2, 1, false) := by kernel_rfl
@[go_sem] theorem Try.abi90 : buildInfo Try.prog 90 = some ([(0, 1), (1, 1), (2, 1)], 0, [.int .i64 0, .int .i64 0, .int .i64 0]) := by kernel_rfl
@[go_sem] theorem Try.aty91 : typeOf Try.prog 91 = some (1, false) := by kernel_rfl
@[go_sem] theorem Try.api91 : appInfo Try.prog 91 = some (1, 8) := by kernel_rfl
@[go_sem] theorem Try.aze91 : zeroOf Try.prog 91 = some (.pointer none) := by kernel_rfl
@[go_sem] theorem Try.aty92 : typeOf Try.prog 92 = some (1, false) := by kernel_rfl
@[go_sem] theorem Try.aze92 : zeroOf Try.prog 92 = some (.nilFunc) := by kernel_rfl
@[go_sem] theorem Try.aty93 : typeOf Try.prog 93 = some (1, false) := by kernel_rfl
@[go_sem] theorem Try.aze93 : zeroOf Try.prog 93 = some (.pointer none) := by kernel_rfl
@[go_sem] theorem Try.aty94 : typeOf Try.prog 94 = some (1, false) := by kernel_rfl
@[go_sem] theorem Try.aze94 : zeroOf Try.prog 94 = some (.nilFunc) := by kernel_rfl
@[go_sem] theorem Try.aty95 : typeOf Try.prog 95 = some (1, false) := by kernel_rfl
@[go_sem] theorem Try.ais95 : isStringT Try.prog 95 = false := by kernel_rfl
@[go_sem] theorem Try.ase95 : sliceElem Try.prog 95 = some 99 := by kernel_rfl
@[go_sem] theorem Try.aze95 : zeroOf Try.prog 95 = some (.slice none 0 0) := by kernel_rfl
@[go_sem] theorem Try.aty96 : typeOf Try.prog 96 = some (1, false) := by kernel_rfl
@[go_sem] theorem Try.aze96 : zeroOf Try.prog 96 = some (.map none) := by kernel_rfl
@[go_sem] theorem Try.aty98 : typeOf Try.prog 98 = some (1, false) := by kernel_rfl
@[go_sem] theorem Try.aze98 : zeroOf Try.prog 98 = some (.nilFunc) := by kernel_rfl
@[go_sem] theorem Try.aty99 : typeOf Try.prog 99 = some (1, false) := by kernel_rfl
@[go_sem] theorem Try.api99 : appInfo Try.prog 99 = some (1, 8) := by kernel_rfl
@[go_sem] theorem Try.aze99 : zeroOf Try.prog 99 = some (.pointer none) := by kernel_rfl
@[go_sem] theorem Try.aty100 : typeOf Try.prog 100 = some (4, true) := by kernel_rfl
@[go_sem] theorem Try.aze100 : zeroOf Try.prog 100 = some (.agg #[.string ⟨#[]⟩, .int .i64 0, .int .i64 0, .int .i64 0]) := by kernel_rfl
@[go_sem] theorem Try.afi100_0 : fieldInfo Try.prog 100 0 = some (0, 1, false) := by kernel_rfl
@[go_sem] theorem Try.afi100_1 : fieldInfo Try.prog 100 1 = some (1, 1, false) := by kernel_rfl
@[go_sem] theorem Try.afi100_2 : fieldInfo Try.prog 100 2 = some (2, 1, false) := by kernel_rfl
@[go_sem] theorem Try.afi100_3 : fieldInfo Try.prog 100 3 = some (3, 1, false) := by kernel_rfl
@[go_sem] theorem Try.abi100 : buildInfo Try.prog 100 = some ([(0, 1), (1, 1), (2, 1), (3, 1)], 0, [.string ⟨#[]⟩, .int .i64 0, .int .i64 0, .int .i64 0]) := by kernel_rfl
@[go_sem] theorem Try.aty101 : typeOf Try.prog 101 = some (4, true) := by kernel_rfl
@[go_sem] theorem Try.aze101 : zeroOf Try.prog 101 = some (.agg #[.string ⟨#[]⟩, .int .i64 0, .int .i64 0, .int .i64 0]) := by kernel_rfl
@[go_sem] theorem Try.afi101_0 : fieldInfo Try.prog 101 0 = some (0, 1, false) := by kernel_rfl
@[go_sem] theorem Try.afi101_1 : fieldInfo Try.prog 101 1 = some (1, 1, false) := by kernel_rfl
@[go_sem] theorem Try.afi101_2 : fieldInfo Try.prog 101 2 = some (2, 1, false) := by kernel_rfl
@[go_sem] theorem Try.afi101_3 : fieldInfo Try.prog 101 3 = some (3, 1, false) := by kernel_rfl
@[go_sem] theorem Try.abi101 : buildInfo Try.prog 101 = some ([(0, 1), (1, 1), (2, 1), (3, 1)], 0, [.string ⟨#[]⟩, .int .i64 0, .int .i64 0, .int .i64 0]) := by kernel_rfl
@[go_sem] theorem Try.aty102 : typeOf Try.prog 102 = some (1, false) := by kernel_rfl
@[go_sem] theorem Try.ais102 : isStringT Try.prog 102 = false := by kernel_rfl
@[go_sem] theorem Try.ase102 : sliceElem Try.prog 102 = some 99 := by kernel_rfl
@[go_sem] theorem Try.aze102 : zeroOf Try.prog 102 = some (.slice none 0 0) := by kernel_rfl
@[go_sem] theorem Try.aty103 : typeOf Try.prog 103 = some (1, false) := by kernel_rfl
@[go_sem] theorem Try.aze103 : zeroOf Try.prog 103 = some (.pointer none) := by kernel_rfl
@[go_sem] theorem Try.aty104 : typeOf Try.prog 104 = some (1, false) := by kernel_rfl
@[go_sem] theorem Try.aze104 : zeroOf Try.prog 104 = some (.nilFunc) := by kernel_rfl
@[go_sem] theorem Try.aty105 : typeOf Try.prog 105 = some (1, false) := by kernel_rfl
@[go_sem] theorem Try.aze105 : zeroOf Try.prog 105 = some (.nilFunc) := by kernel_rfl
@[go_sem] theorem Try.aty106 : typeOf Try.prog 106 = some (1, false) := by kernel_rfl
@[go_sem] theorem Try.aze106 : zeroOf Try.prog 106 = some (.map none) := by kernel_rfl
@[go_sem] theorem Try.aty107 : typeOf Try.prog 107 = some (2, true) := by kernel_rfl
@[go_sem] theorem Try.aze107 : zeroOf Try.prog 107 = some (.agg #[.int .i64 0, .int .i64 0]) := by kernel_rfl
@[go_sem] theorem Try.afi107_0 : fieldInfo Try.prog 107 0 = some (0, 1, false) := by kernel_rfl
@[go_sem] theorem Try.afi107_1 : fieldInfo Try.prog 107 1 = some (1, 1, false) := by kernel_rfl
@[go_sem] theorem Try.abi107 : buildInfo Try.prog 107 = some ([(0, 1), (1, 1)], 0, [.int .i64 0, .int .i64 0]) := by kernel_rfl
@[go_sem] theorem Try.aty108 : typeOf Try.prog 108 = some (2, true) := by kernel_rfl
@[go_sem] theorem Try.aze108 : zeroOf Try.prog 108 = some (.agg #[.int .i64 0, .int .i64 0]) := by kernel_rfl
@[go_sem] theorem Try.afi108_0 : fieldInfo Try.prog 108 0 = some (0, 1, false) := by kernel_rfl
@[go_sem] theorem Try.afi108_1 : fieldInfo Try.prog 108 1 = some (1, 1, false) := by kernel_rfl
@[go_sem] theorem Try.abi108 : buildInfo Try.prog 108 = some ([(0, 1), (1, 1)], 0, [.int .i64 0, .int .i64 0]) := by kernel_rfl
@[go_sem] theorem Try.aty109 : typeOf Try.prog 109 = some (1, false) := by kernel_rfl
@[go_sem] theorem Try.aze109 : zeroOf Try.prog 109 = some (.nilFunc) := by kernel_rfl
@[go_sem] theorem Try.aty110 : typeOf Try.prog 110 = some (1, false) := by kernel_rfl
@[go_sem] theorem Try.aze110 : zeroOf Try.prog 110 = some (.nilIface) := by kernel_rfl
@[go_sem] theorem Try.aty111 : typeOf Try.prog 111 = some (1, false) := by kernel_rfl
@[go_sem] theorem Try.aze111 : zeroOf Try.prog 111 = some (.nilIface) := by kernel_rfl
@[go_sem] theorem Try.aty112 : typeOf Try.prog 112 = some (1, false) := by kernel_rfl
@[go_sem] theorem Try.aze112 : zeroOf Try.prog 112 = some (.nilFunc) := by kernel_rfl
@[go_sem] theorem Try.aty113 : typeOf Try.prog 113 = some (1, false) := by kernel_rfl
@[go_sem] theorem Try.aze113 : zeroOf Try.prog 113 = some (.nilFunc) := by kernel_rfl
@[go_sem] theorem Try.aty114 : typeOf Try.prog 114 = some (1, false) := by kernel_rfl
@[go_sem] theorem Try.aze114 : zeroOf Try.prog 114 = some (.nilFunc) := by kernel_rfl
@[go_sem] theorem Try.aty115 : typeOf Try.prog 115 = some (1, false) := by kernel_rfl
@[go_sem] theorem Try.aze115 : zeroOf Try.prog 115 = some (.nilFunc) := by kernel_rfl
@[go_sem] theorem Try.aty116 : typeOf Try.prog 116 = some (1, false) := by kernel_rfl
@[go_sem] theorem Try.aze116 : zeroOf Try.prog 116 = some (.nilFunc) := by kernel_rfl
@[go_sem] theorem Try.aty117 : typeOf Try.prog 117 = some (1, false) := by kernel_rfl
@[go_sem] theorem Try.aze117 : zeroOf Try.prog 117 = some (.nilFunc) := by kernel_rfl
@[go_sem] theorem Try.aty118 : typeOf Try.prog 118 = some (1, false) := by kernel_rfl
@[go_sem] theorem Try.aze118 : zeroOf Try.prog 118 = some (.nilFunc) := by kernel_rfl
@[go_sem] theorem Try.aty119 : typeOf Try.prog 119 = some (1, false) := by kernel_rfl
@[go_sem] theorem Try.aze119 : zeroOf Try.prog 119 = some (.nilFunc) := by kernel_rfl
@[go_sem] theorem Try.aty120 : typeOf Try.prog 120 = some (1, false) := by kernel_rfl
@[go_sem] theorem Try.aze120 : zeroOf Try.prog 120 = some (.nilFunc) := by kernel_rfl
@[go_sem] theorem Try.aty121 : typeOf Try.prog 121 = some (1, false) := by kernel_rfl
@[go_sem] theorem Try.aze121 : zeroOf Try.prog 121 = some (.nilFunc) := by kernel_rfl
@[go_sem] theorem Try.aty122 : typeOf Try.prog 122 = some (4, true) := by kernel_rfl
@[go_sem] theorem Try.aze122 : zeroOf Try.prog 122 = some (.agg #[.pointer none, .pointer none, .pointer none, .string ⟨#[]⟩]) := by kernel_rfl
@[go_sem] theorem Try.afi122_0 : fieldInfo Try.prog 122 0 = some (0, 1, false) := by kernel_rfl
@[go_sem] theorem Try.afi122_1 : fieldInfo Try.prog 122 1 = some (1, 1, false) := by kernel_rfl
@[go_sem] theorem Try.afi122_2 : fieldInfo Try.prog 122 2 = some (2, 1, false) := by kernel_rfl
@[go_sem] theorem Try.afi122_3 : fieldInfo Try.prog 122 3 = some (3, 1, false) := by kernel_rfl
@[go_sem] theorem Try.abi122 : buildInfo Try.prog 122 = some ([(0, 1), (1, 1), (2, 1), (3, 1)], 0, [.pointer none, .pointer none, .pointer none, .string ⟨#[]⟩]) := by kernel_rfl
@[go_sem] theorem Try.aty123 : typeOf Try.prog 123 = some (4, true) := by kernel_rfl
@[go_sem] theorem Try.aze123 : zeroOf Try.prog 123 = some (.agg #[.pointer none, .pointer none, .pointer none, .string ⟨#[]⟩]) := by kernel_rfl
@[go_sem] theorem Try.afi123_0 : fieldInfo Try.prog 123 0 = some (0, 1, false) := by kernel_rfl
@[go_sem] theorem Try.afi123_1 : fieldInfo Try.prog 123 1 = some (1, 1, false) := by kernel_rfl
@[go_sem] theorem Try.afi123_2 : fieldInfo Try.prog 123 2 = some (2, 1, false) := by kernel_rfl
@[go_sem] theorem Try.afi123_3 : fieldInfo Try.prog 123 3 = some (3, 1, false) := by kernel_rfl
@[go_sem] theorem Try.abi123 : buildInfo Try.prog 123 = some ([(0, 1), (1, 1), (2, 1), (3, 1)], 0, [.pointer none, .pointer none, .pointer none, .string ⟨#[]⟩]) := by kernel_rfl
@[go_sem] theorem Try.aty124 : typeOf Try.prog 124 = some (0, true) := by kernel_rfl
@[go_sem] theorem Try.ais124 : isStringT Try.prog 124 = false := by kernel_rfl
@[go_sem] theorem Try.aal124 : arrayLen Try.prog 124 = some (0, 16) := by kernel_rfl
@[go_sem] theorem Try.aze124 : zeroOf Try.prog 124 = some (.agg #[]) := by kernel_rfl
@[go_sem] theorem Try.abi124 : buildInfo Try.prog 124 = some ([], 1, []) := by kernel_rfl
@[go_sem] theorem Try.aty125 : typeOf Try.prog 125 = some (0, true) := by kernel_rfl
@[go_sem] theorem Try.aze125 : zeroOf Try.prog 125 = some (.agg #[]) := by kernel_rfl
@[go_sem] theorem Try.afi125_0 : fieldInfo Try.prog 125 0 = some (0, 0, true) := by kernel_rfl
@[go_sem] theorem Try.abi125 : buildInfo Try.prog 125 = some ([(0, 0)], 0, []) := by kernel_rfl
@[go_sem] theorem Try.aty126 : typeOf Try.prog 126 = some (0, true) := by kernel_rfl
@[go_sem] theorem Try.aze126 : zeroOf Try.prog 126 = some (.agg #[]) := by kernel_rfl
@[go_sem] theorem Try.afi126_0 : fieldInfo Try.prog 126 0 = some (0, 0, true) := by kernel_rfl
@[go_sem] theorem Try.abi126 : buildInfo Try.prog 126 = some ([(0, 0)], 0, []) := by kernel_rfl
@[go_sem] theorem Try.aty127 : typeOf Try.prog 127 = some (1, false) := by kernel_rfl
@[go_sem] theorem Try.aze127 : zeroOf Try.prog 127 = some (.int .u32 0) := by kernel_rfl
@[go_sem] theorem Try.aty128 : typeOf Try.prog 128 = some (1, false) := by kernel_rfl
@[go_sem] theorem Try.aze128 : zeroOf Try.prog 128 = some (.int .u8 0) := by kernel_rfl
@[go_sem] theorem Try.aty129 : typeOf Try.prog 129 = some (1, false) := by kernel_rfl
@[go_sem] theorem Try.aze129 : zeroOf Try.prog 129 = some (.int .u8 0) := by kernel_rfl
@[go_sem] theorem Try.aty130 : typeOf Try.prog 130 = some (1, false) := by kernel_rfl
@[go_sem] theorem Try.aze130 : zeroOf Try.prog 130 = some (.nilFunc) := by kernel_rfl
@[go_sem] theorem Try.aty131 : typeOf Try.prog 131 = some (1, false) := by kernel_rfl
@[go_sem] theorem Try.aze131 : zeroOf Try.prog 131 = some (.pointer none) := by kernel_rfl
@[go_sem] theorem Try.aty132 : typeOf Try.prog 132 = some (1, false) := by kernel_rfl
@[go_sem] theorem Try.aze132 : zeroOf Try.prog 132 = some (.int .i32 0) := by kernel_rfl
@[go_sem] theorem Try.aty133 : typeOf Try.prog 133 = some (1, false) := by kernel_rfl
@[go_sem] theorem Try.aze133 : zeroOf Try.prog 133 = some (.int .i32 0) := by kernel_rfl
@[go_sem] theorem Try.aty134 : typeOf Try.prog 134 = some (11, true) := by kernel_rfl
@[go_sem] theorem Try.aze134 : zeroOf Try.prog 134 = some (.agg #[.int .u64 0, .int .u64 0, .int .u32 0, .int .u8 0, .int .u8 0, .int .u8 0, .int .u8 0, .nilFunc, .pointer none, .int .i32 0, .int .i32 0]) := by kernel_rfl
@[go_sem] theorem Try.afi134_0 : fieldInfo Try.prog 134 0 = some (0, 1, false) := by kernel_rfl
@[go_sem] theorem Try.afi134_1 : fieldInfo Try.prog 134 1 = some (1, 1, false) := by kernel_rfl
@[go_sem] theorem Try.afi134_2 : fieldInfo Try.prog 134 2 = some (2, 1, false) := by kernel_rfl
@[go_sem] theorem Try.afi134_3 : fieldInfo Try.prog 134 3 = some (3, 1, false) := by kernel_rfl
@[go_sem] theorem Try.afi134_4 : fieldInfo Try.prog 134 4 = some (4, 1, false) := by kernel_rfl
@[go_sem] theorem Try.afi134_5 : fieldInfo Try.prog 134 5 = some (5, 1, false) := by kernel_rfl
@[go_sem] theorem Try.afi134_6 : fieldInfo Try.prog 134 6 = some (6, 1, false) := by kernel_rfl
@[go_sem] theorem Try.afi134_7 : fieldInfo Try.prog 134 7 = some (7, 1, false) := by kernel_rfl
@[go_sem] theorem Try.afi134_8 : fieldInfo Try.prog 134 8 = some (8, 1, false) := by kernel_rfl
@[go_sem] theorem Try.afi134_9 : fieldInfo Try.prog 134 9 = some (9, 1, false) := by kernel_rfl
@[go_sem] theorem Try.afi134_10 : fieldInfo Try.prog 134 10 = some (10, 1, false) := by kernel_rfl
@[go_sem] theorem Try.abi134 : buildInfo Try.prog 134 = some ([(0, 1), (1, 1), (2, 1), (3, 1), (4, 1), (5, 1), (6, 1), (7, 1), (8, 1), (9, 1), (10, 1)], 0, [.int .u64 0, .int .u64 0, .int .u32 0, .int .u8 0, .int .u8 0, .int .u8 0, .int .u8 0, .nilFunc, .pointer none, .int .i32 0, .int .i32 0]) := by kernel_rfl
@[go_sem] theorem Try.aty135 : typeOf Try.prog 135 = some (11, true) := by kernel_rfl
@[go_sem] theorem Try.aze135 : zeroOf Try.prog 135 = some (.agg #[.int .u64 0, .int .u64 0, .int .u32 0, .int .u8 0, .int .u8 0, .int .u8 0, .int .u8 0, .nilFunc, .pointer none, .int .i32 0, .int .i32 0]) := by kernel_rfl
@[go_sem] theorem Try.afi135_0 : fieldInfo Try.prog 135 0 = some (0, 1, false) := by kernel_rfl
@[go_sem] theorem Try.afi135_1 : fieldInfo Try.prog 135 1 = some (1, 1, false) := by kernel_rfl
@[go_sem] theorem Try.afi135_2 : fieldInfo Try.prog 135 2 = some (2, 1, false) := by kernel_rfl
@[go_sem] theorem Try.afi135_3 : fieldInfo Try.prog 135 3 = some (3, 1, false) := by kernel_rfl
@[go_sem] theorem Try.afi135_4 : fieldInfo Try.prog 135 4 = some (4, 1, false) := by kernel_rfl
@[go_sem] theorem Try.afi135_5 : fieldInfo Try.prog 135 5 = some (5, 1, false) := by kernel_rfl
@[go_sem] theorem Try.afi135_6 : fieldInfo Try.prog 135 6 = some (6, 1, false) := by kernel_rfl
@[go_sem] theorem Try.afi135_7 : fieldInfo Try.prog 135 7 = some (7, 1, false) := by kernel_rfl
@[go_sem] theorem Try.afi135_8 : fieldInfo Try.prog 135 8 = some (8, 1, false) := by kernel_rfl
@[go_sem] theorem Try.afi135_9 : fieldInfo Try.prog 135 9 = some (9, 1, false) := by kernel_rfl
@[go_sem] theorem Try.afi135_10 : fieldInfo Try.prog 135 10 = some (10, 1, false) := by kernel_rfl
@[go_sem] theorem Try.abi135 : buildInfo Try.prog 135 = some ([(0, 1), (1, 1), (2, 1), (3, 1), (4, 1), (5, 1), (6, 1), (7, 1), (8, 1), (9, 1), (10, 1)], 0, [.int .u64 0, .int .u64 0, .int .u32 0, .int .u8 0, .int .u8 0, .int .u8 0, .int .u8 0, .nilFunc, .pointer none, .int .i32 0, .int .i32 0]) := by kernel_rfl
@[go_sem] theorem Try.aty136 : typeOf Try.prog 136 = some (1, false) := by kernel_rfl
@[go_sem] theorem Try.aze136 : zeroOf Try.prog 136 = some (.nilFunc) := by kernel_rfl
@[go_sem] theorem Try.aty137 : typeOf Try.prog 137 = some (1, false) := by kernel_rfl
@[go_sem] theorem Try.aze137 : zeroOf Try.prog 137 = some (.nilFunc) := by kernel_rfl
@[go_sem] theorem Try.aty140 : typeOf Try.prog 140 = some (1, false) := by kernel_rfl
@[go_sem] theorem Try.aze140 : zeroOf Try.prog 140 = some (.pointer none) := by kernel_rfl
@[go_sem] theorem Try.aeq22 (σ : Store) (c : Bool) (a0 b0 : Int) (a1 b1 : Int) : abin Try.prog σ .eql 22 c (.agg [.lit (.int .i64 a0), .lit (.int .i64 a1)]) (.agg [.lit (.int .i64 b0), .lit (.int .i64 b1)]) = some (.lit (.bool ((decide (a0 = b0)) && ((decide (a1 = b1)) && true)))) := by kernel_rfl
@[go_sem] theorem Try.aeqn22 (σ : Store) (c : Bool) (a0 b0 : Int) (a1 b1 : Int) : abin Try.prog σ .neq 22 c (.agg [.lit (.int .i64 a0), .lit (.int .i64 a1)]) (.agg [.lit (.int .i64 b0), .lit (.int .i64 b1)]) = some (.lit (.bool !((decide (a0 = b0)) && ((decide (a1 = b1)) && true)))) := by kernel_rfl
@[go_sem] theorem Try.aeq23 (σ : Store) (c : Bool) (a0 b0 : Int) (a1 b1 : Int) : abin Try.prog σ .eql 23 c (.agg [.lit (.int .i64 a0), .lit (.int .i64 a1)]) (.agg [.lit (.int .i64 b0), .lit (.int .i64 b1)]) = some (.lit (.bool ((decide (a0 = b0)) && ((decide (a1 = b1)) && true)))) := by kernel_rfl
@[go_sem] theorem Try.aeqn23 (σ : Store) (c : Bool) (a0 b0 : Int) (a1 b1 : Int) : abin Try.prog σ .neq 23 c (.agg [.lit (.int .i64 a0), .lit (.int .i64 a1)]) (.agg [.lit (.int .i64 b0), .lit (.int .i64 b1)]) = some (.lit (.bool !((decide (a0 = b0)) && ((decide (a1 = b1)) && true)))) := by kernel_rfl
@[go_sem] theorem Try.aeq42 (σ : Store) (c : Bool) (a0 b0 : ByteArray) (a1 b1 : ByteArray) : abin Try.prog σ .eql 42 c (.agg [.lit (.string a0), .lit (.string a1)]) (.agg [.lit (.string b0), .lit (.string b1)]) = some (.lit (.bool ((decide (a0 = b0)) && ((decide (a1 = b1)) && true)))) := by kernel_rfl
@[go_sem] theorem Try.aeqn42 (σ : Store) (c : Bool) (a0 b0 : ByteArray) (a1 b1 : ByteArray) : abin Try.prog σ .neq 42 c (.agg [.lit (.string a0), .lit (.string a1)]) (.agg [.lit (.string b0), .lit (.string b1)]) = some (.lit (.bool !((decide (a0 = b0)) && ((decide (a1 = b1)) && true)))) := by kernel_rfl
@[go_sem] theorem Try.aeq43 (σ : Store) (c : Bool) (a0 b0 : ByteArray) (a1 b1 : ByteArray) : abin Try.prog σ .eql 43 c (.agg [.lit (.string a0), .lit (.string a1)]) (.agg [.lit (.string b0), .lit (.string b1)]) = some (.lit (.bool ((decide (a0 = b0)) && ((decide (a1 = b1)) && true)))) := by kernel_rfl
@[go_sem] theorem Try.aeqn43 (σ : Store) (c : Bool) (a0 b0 : ByteArray) (a1 b1 : ByteArray) : abin Try.prog σ .neq 43 c (.agg [.lit (.string a0), .lit (.string a1)]) (.agg [.lit (.string b0), .lit (.string b1)]) = some (.lit (.bool !((decide (a0 = b0)) && ((decide (a1 = b1)) && true)))) := by kernel_rfl
@[go_sem] theorem Try.aeq45 (σ : Store) (c : Bool) (a0 b0 : Int) (a1 b1 : ByteArray) (a2 b2 : Int) : abin Try.prog σ .eql 45 c (.agg [.lit (.int .i64 a0), .lit (.string a1), .lit (.int .i64 a2)]) (.agg [.lit (.int .i64 b0), .lit (.string b1), .lit (.int .i64 b2)]) = some (.lit (.bool ((decide (a0 = b0)) && ((decide (a1 = b1)) && ((decide (a2 = b2)) && true))))) := by kernel_rfl
@[go_sem] theorem Try.aeqn45 (σ : Store) (c : Bool) (a0 b0 : Int) (a1 b1 : ByteArray) (a2 b2 : Int) : abin Try.prog σ .neq 45 c (.agg [.lit (.int .i64 a0), .lit (.string a1), .lit (.int .i64 a2)]) (.agg [.lit (.int .i64 b0), .lit (.string b1), .lit (.int .i64 b2)]) = some (.lit (.bool !((decide (a0 = b0)) && ((decide (a1 = b1)) && ((decide (a2 = b2)) && true))))) := by kernel_rfl
@[go_sem] theorem Try.aeq46 (σ : Store) (c : Bool) (a0 b0 : Int) (a1 b1 : ByteArray) (a2 b2 : Int) : abin Try.prog σ .eql 46 c (.agg [.lit (.int .i64 a0), .lit (.string a1), .lit (.int .i64 a2)]) (.agg [.lit (.int .i64 b0), .lit (.string b1), .lit (.int .i64 b2)]) = some (.lit (.bool ((decide (a0 = b0)) && ((decide (a1 = b1)) && ((decide (a2 = b2)) && true))))) := by kernel_rfl
@[go_sem] theorem Try.aeqn46 (σ : Store) (c : Bool) (a0 b0 : Int) (a1 b1 : ByteArray) (a2 b2 : Int) : abin Try.prog σ .neq 46 c (.agg [.lit (.int .i64 a0), .lit (.string a1), .lit (.int .i64 a2)]) (.agg [.lit (.int .i64 b0), .lit (.string b1), .lit (.int .i64 b2)]) = some (.lit (.bool !((decide (a0 = b0)) && ((decide (a1 = b1)) && ((decide (a2 = b2)) && true))))) := by kernel_rfl
@[go_sem] theorem Try.aeq63 (σ : Store) (c : Bool) (a0 b0 : Int) (a1 b1 : Int) (a2 b2 : Int) : abin Try.prog σ .eql 63 c (.agg [.lit (.int .i64 a0), .lit (.int .i64 a1), .lit (.int .i64 a2)]) (.agg [.lit (.int .i64 b0), .lit (.int .i64 b1), .lit (.int .i64 b2)]) = some (.lit (.bool ((decide (a0 = b0)) && ((decide (a1 = b1)) && ((decide (a2 = b2)) && true))))) := by kernel_rfl
@[go_sem] theorem Try.aeqn63 (σ : Store) (c : Bool) (a0 b0 : Int) (a1 b1 : Int) (a2 b2 : Int) : abin Try.prog σ .neq 63 c (.agg [.lit (.int .i64 a0), .lit (.int .i64 a1), .lit (.int .i64 a2)]) (.agg [.lit (.int .i64 b0), .lit (.int .i64 b1), .lit (.int .i64 b2)]) = some (.lit (.bool !((decide (a0 = b0)) && ((decide (a1 = b1)) && ((decide (a2 = b2)) && true))))) := by kernel_rfl
@[go_sem] theorem Try.aeq64 (σ : Store) (c : Bool) (a0 b0 : Int) (a1 b1 : Int) (a2 b2 : Int) : abin Try.prog σ .eql 64 c (.agg [.lit (.int .i64 a0), .lit (.int .i64 a1), .lit (.int .i64 a2)]) (.agg [.lit (.int .i64 b0), .lit (.int .i64 b1), .lit (.int .i64 b2)]) = some (.lit (.bool ((decide (a0 = b0)) && ((decide (a1 = b1)) && ((decide (a2 = b2)) && true))))) := by kernel_rfl
@[go_sem] theorem Try.aeqn64 (σ : Store) (c : Bool) (a0 b0 : Int) (a1 b1 : Int) (a2 b2 : Int) : abin Try.prog σ .neq 64 c (.agg [.lit (.int .i64 a0), .lit (.int .i64 a1), .lit (.int .i64 a2)]) (.agg [.lit (.int .i64 b0), .lit (.int .i64 b1), .lit (.int .i64 b2)]) = some (.lit (.bool !((decide (a0 = b0)) && ((decide (a1 = b1)) && ((decide (a2 = b2)) && true))))) := by kernel_rfl
@[go_sem] theorem Try.aeq87 (σ : Store) (c : Bool) (a0 b0 : Int) (a1 b1 : Int) : abin Try.prog σ .eql 87 c (.agg [.lit (.int .i64 a0), .lit (.int .i64 a1)]) (.agg [.lit (.int .i64 b0), .lit (.int .i64 b1)]) = some (.lit (.bool ((decide (a0 = b0)) && ((decide (a1 = b1)) && true)))) := by kernel_rfl
@[go_sem] theorem Try.aeqn87 (σ : Store) (c : Bool) (a0 b0 : Int) (a1 b1 : Int) : abin Try.prog σ .neq 87 c (.agg [.lit (.int .i64 a0), .lit (.int .i64 a1)]) (.agg [.lit (.int .i64 b0), .lit (.int .i64 b1)]) = some (.lit (.bool !((decide (a0 = b0)) && ((decide (a1 = b1)) && true)))) := by kernel_rfl
@[go_sem] theorem Try.aeq88 (σ : Store) (c : Bool) (a0 b0 : Int) (a1 b1 : Int) : abin Try.prog σ .eql 88 c (.agg [.lit (.int .i64 a0), .lit (.int .i64 a1)]) (.agg [.lit (.int .i64 b0), .lit (.int .i64 b1)]) = some (.lit (.bool ((decide (a0 = b0)) && ((decide (a1 = b1)) && true)))) := by kernel_rfl
@[go_sem] theorem Try.aeqn88 (σ : Store) (c : Bool) (a0 b0 : Int) (a1 b1 : Int) : abin Try.prog σ .neq 88 c (.agg [.lit (.int .i64 a0), .lit (.int .i64 a1)]) (.agg [.lit (.int .i64 b0), .lit (.int .i64 b1)]) = some (.lit (.bool !((decide (a0 = b0)) && ((decide (a1 = b1)) && true)))) := by kernel_rfl
@[go_sem] theorem Try.aeq89 (σ : Store) (c : Bool) (a0 b0 : Int) (a1 b1 : Int) (a2 b2 : Int) : abin Try.prog σ .eql 89 c (.agg [.lit (.int .i64 a0), .lit (.int .i64 a1), .lit (.int .i64 a2)]) (.agg [.lit (.int .i64 b0), .lit (.int .i64 b1), .lit (.int .i64 b2)]) = some (.lit (.bool ((decide (a0 = b0)) && ((decide (a1 = b1)) && ((decide (a2 = b2)) && true))))) := by kernel_rfl
@[go_sem] theorem Try.aeqn89 (σ : Store) (c : Bool) (a0 b0 : Int) (a1 b1 : Int) (a2 b2 : Int) : abin Try.prog σ .neq 89 c (.agg [.lit (.int .i64 a0), .lit (.int .i64 a1), .lit (.int .i64 a2)]) (.agg [.lit (.int .i64 b0), .lit (.int .i64 b1), .lit (.int .i64 b2)]) = some (.lit (.bool !((decide (a0 = b0)) && ((decide (a1 = b1)) && ((decide (a2 = b2)) && true))))) := by kernel_rfl
@[go_sem] theorem Try.aeq90 (σ : Store) (c : Bool) (a0 b0 : Int) (a1 b1 : Int) (a2 b2 : Int) : abin Try.prog σ .eql 90 c (.agg [.lit (.int .i64 a0), .lit (.int .i64 a1), .lit (.int .i64 a2)]) (.agg [.lit (.int .i64 b0), .lit (.int .i64 b1), .lit (.int .i64 b2)]) = some (.lit (.bool ((decide (a0 = b0)) && ((decide (a1 = b1)) && ((decide (a2 = b2)) && true))))) := by kernel_rfl
@[go_sem] theorem Try.aeqn90 (σ : Store) (c : Bool) (a0 b0 : Int) (a1 b1 : Int) (a2 b2 : Int) : abin Try.prog σ .neq 90 c (.agg [.lit (.int .i64 a0), .lit (.int .i64 a1), .lit (.int .i64 a2)]) (.agg [.lit (.int .i64 b0), .lit (.int .i64 b1), .lit (.int .i64 b2)]) = some (.lit (.bool !((decide (a0 = b0)) && ((decide (a1 = b1)) && ((decide (a2 = b2)) && true))))) := by kernel_rfl
@[go_sem] theorem Try.aeq100 (σ : Store) (c : Bool) (a0 b0 : ByteArray) (a1 b1 : Int) (a2 b2 : Int) (a3 b3 : Int) : abin Try.prog σ .eql 100 c (.agg [.lit (.string a0), .lit (.int .i64 a1), .lit (.int .i64 a2), .lit (.int .i64 a3)]) (.agg [.lit (.string b0), .lit (.int .i64 b1), .lit (.int .i64 b2), .lit (.int .i64 b3)]) = some (.lit (.bool ((decide (a0 = b0)) && ((decide (a1 = b1)) && ((decide (a2 = b2)) && ((decide (a3 = b3)) && true)))))) := by kernel_rfl
@[go_sem] theorem Try.aeqn100 (σ : Store) (c : Bool) (a0 b0 : ByteArray) (a1 b1 : Int) (a2 b2 : Int) (a3 b3 : Int) : abin Try.prog σ .neq 100 c (.agg [.lit (.string a0), .lit (.int .i64 a1), .lit (.int .i64 a2), .lit (.int .i64 a3)]) (.agg [.lit (.string b0), .lit (.int .i64 b1), .lit (.int .i64 b2), .lit (.int .i64 b3)]) = some (.lit (.bool !((decide (a0 = b0)) && ((decide (a1 = b1)) && ((decide (a2 = b2)) && ((decide (a3 = b3)) && true)))))) := by kernel_rfl
@[go_sem] theorem Try.aeq101 (σ : Store) (c : Bool) (a0 b0 : ByteArray) (a1 b1 : Int) (a2 b2 : Int) (a3 b3 : Int) : abin Try.prog σ .eql 101 c (.agg [.lit (.string a0), .lit (.int .i64 a1), .lit (.int .i64 a2), .lit (.int .i64 a3)]) (.agg [.lit (.string b0), .lit (.int .i64 b1), .lit (.int .i64 b2), .lit (.int .i64 b3)]) = some (.lit (.bool ((decide (a0 = b0)) && ((decide (a1 = b1)) && ((decide (a2 = b2)) && ((decide (a3 = b3)) && true)))))) := by kernel_rfl
@[go_sem] theorem Try.aeqn101 (σ : Store) (c : Bool) (a0 b0 : ByteArray) (a1 b1 : Int) (a2 b2 : Int) (a3 b3 : Int) : abin Try.prog σ .neq 101 c (.agg [.lit (.string a0), .lit (.int .i64 a1), .lit (.int .i64 a2), .lit (.int .i64 a3)]) (.agg [.lit (.string b0), .lit (.int .i64 b1), .lit (.int .i64 b2), .lit (.int .i64 b3)]) = some (.lit (.bool !((decide (a0 = b0)) && ((decide (a1 = b1)) && ((decide (a2 = b2)) && ((decide (a3 = b3)) && true)))))) := by kernel_rfl
@[go_sem] theorem Try.aeq107 (σ : Store) (c : Bool) (a0 b0 : Int) (a1 b1 : Int) : abin Try.prog σ .eql 107 c (.agg [.lit (.int .i64 a0), .lit (.int .i64 a1)]) (.agg [.lit (.int .i64 b0), .lit (.int .i64 b1)]) = some (.lit (.bool ((decide (a0 = b0)) && ((decide (a1 = b1)) && true)))) := by kernel_rfl
@[go_sem] theorem Try.aeqn107 (σ : Store) (c : Bool) (a0 b0 : Int) (a1 b1 : Int) : abin Try.prog σ .neq 107 c (.agg [.lit (.int .i64 a0), .lit (.int .i64 a1)]) (.agg [.lit (.int .i64 b0), .lit (.int .i64 b1)]) = some (.lit (.bool !((decide (a0 = b0)) && ((decide (a1 = b1)) && true)))) := by kernel_rfl
@[go_sem] theorem Try.aeq108 (σ : Store) (c : Bool) (a0 b0 : Int) (a1 b1 : Int) : abin Try.prog σ .eql 108 c (.agg [.lit (.int .i64 a0), .lit (.int .i64 a1)]) (.agg [.lit (.int .i64 b0), .lit (.int .i64 b1)]) = some (.lit (.bool ((decide (a0 = b0)) && ((decide (a1 = b1)) && true)))) := by kernel_rfl
@[go_sem] theorem Try.aeqn108 (σ : Store) (c : Bool) (a0 b0 : Int) (a1 b1 : Int) : abin Try.prog σ .neq 108 c (.agg [.lit (.int .i64 a0), .lit (.int .i64 a1)]) (.agg [.lit (.int .i64 b0), .lit (.int .i64 b1)]) = some (.lit (.bool !((decide (a0 = b0)) && ((decide (a1 = b1)) && true)))) := by kernel_rfl
@[go_sem] theorem Try.ago3 : isGo Try.prog 3 = true := by kernel_rfl
@[go_sem] theorem Try.ago4 : isGo Try.prog 4 = true := by kernel_rfl
@[go_sem] theorem Try.ago5 : isGo Try.prog 5 = true := by kernel_rfl
@[go_sem] theorem Try.ago6 : isGo Try.prog 6 = true := by kernel_rfl
@[go_sem] theorem Try.ago7 : isGo Try.prog 7 = true := by kernel_rfl
@[go_sem] theorem Try.ago8 : isGo Try.prog 8 = true := by kernel_rfl
@[go_sem] theorem Try.ago9 : isGo Try.prog 9 = true := by kernel_rfl
@[go_sem] theorem Try.ago10 : isGo Try.prog 10 = true := by kernel_rfl
@[go_sem] theorem Try.ago11 : isGo Try.prog 11 = true := by kernel_rfl
@[go_sem] theorem Try.ago12 : isGo Try.prog 12 = true := by kernel_rfl
@[go_sem] theorem Try.ago13 : isGo Try.prog 13 = true := by kernel_rfl
@[go_sem] theorem Try.ago14 : isGo Try.prog 14 = true := by kernel_rfl
@[go_sem] theorem Try.ago15 : isGo Try.prog 15 = true := by kernel_rfl
@[go_sem] theorem Try.ago16 : isGo Try.prog 16 = true := by kernel_rfl
@[go_sem] theorem Try.ago17 : isGo Try.prog 17 = true := by kernel_rfl
@[go_sem] theorem Try.ago18 : isGo Try.prog 18 = true := by kernel_rfl
@[go_sem] theorem Try.ago19 : isGo Try.prog 19 = true := by kernel_rfl
@[go_sem] theorem Try.ago20 : isGo Try.prog 20 = true := by kernel_rfl
@[go_sem] theorem Try.ago21 : isGo Try.prog 21 = true := by kernel_rfl
@[go_sem] theorem Try.ago22 : isGo Try.prog 22 = true := by kernel_rfl
@[go_sem] theorem Try.ago23 : isGo Try.prog 23 = true := by kernel_rfl
@[go_sem] theorem Try.ago24 : isGo Try.prog 24 = true := by kernel_rfl
@[go_sem] theorem Try.ago25 : isGo Try.prog 25 = true := by kernel_rfl
@[go_sem] theorem Try.ago26 : isGo Try.prog 26 = true := by kernel_rfl
@[go_sem] theorem Try.ago27 : isGo Try.prog 27 = true := by kernel_rfl
@[go_sem] theorem Try.ago28 : isGo Try.prog 28 = true := by kernel_rfl
@[go_sem] theorem Try.ago29 : isGo Try.prog 29 = true := by kernel_rfl
@[go_sem] theorem Try.ago30 : isGo Try.prog 30 = true := by kernel_rfl
@[go_sem] theorem Try.ago31 : isGo Try.prog 31 = true := by kernel_rfl
@[go_sem] theorem Try.ago32 : isGo Try.prog 32 = true := by kernel_rfl
@[go_sem] theorem Try.ago33 : isGo Try.prog 33 = true := by kernel_rfl
@[go_sem] theorem Try.ago34 : isGo Try.prog 34 = true := by kernel_rfl
@[go_sem] theorem Try.ago35 : isGo Try.prog 35 = true := by kernel_rfl
@[go_sem] theorem Try.ago36 : isGo Try.prog 36 = true := by kernel_rfl
@[go_sem] theorem Try.ago37 : isGo Try.prog 37 = true := by kernel_rfl
@[go_sem] theorem Try.ago38 : isGo Try.prog 38 = true := by kernel_rfl
@[go_sem] theorem Try.ago39 : isGo Try.prog 39 = true := by kernel_rfl
@[go_sem] theorem Try.ago40 : isGo Try.prog 40 = true := by kernel_rfl
@[go_sem] theorem Try.ago41 : isGo Try.prog 41 = true := by kernel_rfl
@[go_sem] theorem Try.ago42 : isGo Try.prog 42 = true := by kernel_rfl
@[go_sem] theorem Try.ago43 : isGo Try.prog 43 = true := by kernel_rfl
@[go_sem] theorem Try.ago44 : isGo Try.prog 44 = true := by kernel_rfl
@[go_sem] theorem Try.ago45 : isGo Try.prog 45 = true := by kernel_rfl
@[go_sem] theorem Try.ago46 : isGo Try.prog 46 = true := by kernel_rfl
@[go_sem] theorem Try.ago47 : isGo Try.prog 47 = true := by kernel_rfl
@[go_sem] theorem Try.ago48 : isGo Try.prog 48 = true := by kernel_rfl
@[go_sem] theorem Try.ago49 : isGo Try.prog 49 = true := by kernel_rfl
@[go_sem] theorem Try.ago50 : isGo Try.prog 50 = true := by kernel_rfl
@[go_sem] theorem Try.ago51 : isGo Try.prog 51 = true := by kernel_rfl
@[go_sem] theorem Try.ago52 : isGo Try.prog 52 = true := by kernel_rfl
@[go_sem] theorem Try.ago53 : isGo Try.prog 53 = true := by kernel_rfl
@[go_sem] theorem Try.ago54 : isGo Try.prog 54 = true := by kernel_rfl
@[go_sem] theorem Try.ago55 : isGo Try.prog 55 = true := by kernel_rfl
@[go_sem] theorem Try.ago56 : isGo Try.prog 56 = true := by kernel_rfl
@[go_sem] theorem Try.ago57 : isGo Try.prog 57 = true := by kernel_rfl
@[go_sem] theorem Try.ago58 : isGo Try.prog 58 = true := by kernel_rfl
@[go_sem] theorem Try.ago59 : isGo Try.prog 59 = true := by kernel_rfl
@[go_sem] theorem Try.ago60 : isGo Try.prog 60 = true := by kernel_rfl
@[go_sem] theorem Try.ago61 : isGo Try.prog 61 = true := by kernel_rfl
@[go_sem] theorem Try.ago62 : isGo Try.prog 62 = true := by kernel_rfl
@[go_sem] theorem Try.ago63 : isGo Try.prog 63 = true := by kernel_rfl
@[go_sem] theorem Try.ago64 : isGo Try.prog 64 = true := by kernel_rfl
@[go_sem] theorem Try.ago65 : isGo Try.prog 65 = true := by kernel_rfl
@[go_sem] theorem Try.ago66 : isGo Try.prog 66 = true := by kernel_rfl
@[go_sem] theorem Try.ago67 : isGo Try.prog 67 = true := by kernel_rfl
@[go_sem] theorem Try.ago68 : isGo Try.prog 68 = true := by kernel_rfl
@[go_sem] theorem Try.ago69 : isGo Try.prog 69 = true := by kernel_rfl
@[go_sem] theorem Try.ago70 : isGo Try.prog 70 = true := by kernel_rfl
@[go_sem] theorem Try.ago71 : isGo Try.prog 71 = true := by kernel_rfl
@[go_sem] theorem Try.ago72 : isGo Try.prog 72 = true := by kernel_rfl
@[go_sem] theorem Try.ago73 : isGo Try.prog 73 = true := by kernel_rfl
@[go_sem] theorem Try.ago74 : isGo Try.prog 74 = true := by kernel_rfl
@[go_sem] theorem Try.ago75 : isGo Try.prog 75 = true := by kernel_rfl
@[go_sem] theorem Try.ago76 : isGo Try.prog 76 = true := by kernel_rfl
@[go_sem] theorem Try.ago77 : isGo Try.prog 77 = true := by kernel_rfl
@[go_sem] theorem Try.ago78 : isGo Try.prog 78 = true := by kernel_rfl
@[go_sem] theorem Try.ago79 : isGo Try.prog 79 = true := by kernel_rfl
@[go_sem] theorem Try.ago96 : isGo Try.prog 96 = true := by kernel_rfl
@[go_sem] theorem Try.ago97 : isGo Try.prog 97 = true := by kernel_rfl
@[go_sem] theorem Try.ago98 : isGo Try.prog 98 = true := by kernel_rfl
@[go_sem] theorem Try.ago99 : isGo Try.prog 99 = true := by kernel_rfl
@[go_sem] theorem Try.ago100 : isGo Try.prog 100 = true := by kernel_rfl
@[go_sem] theorem Try.ago101 : isGo Try.prog 101 = true := by kernel_rfl
@[go_sem] theorem Try.ago102 : isGo Try.prog 102 = true := by kernel_rfl
@[go_sem] theorem Try.ago103 : isGo Try.prog 103 = true := by kernel_rfl
@[go_sem] theorem Try.ago104 : isGo Try.prog 104 = true := by kernel_rfl
@[go_sem] theorem Try.ago105 : isGo Try.prog 105 = true := by kernel_rfl
@[go_sem] theorem Try.ago106 : isGo Try.prog 106 = true := by kernel_rfl
@[go_sem] theorem Try.ago107 : isGo Try.prog 107 = true := by kernel_rfl
@[go_sem] theorem Try.ago108 : isGo Try.prog 108 = true := by kernel_rfl
attribute [go_sem] Try.underlying1 Try.underlying2 Try.underlying3 Try.underlying4 Try.underlying5 Try.underlying6 Try.underlying9 Try.underlying10 Try.underlying11 Try.underlying12 Try.underlying15 Try.underlying16 Try.underlying17 Try.underlying20 Try.underlying21 Try.underlying24 Try.underlying26 Try.underlying27 Try.underlying28 Try.underlying29 Try.underlying30 Try.underlying31 Try.underlying32 Try.underlying33 Try.underlying34 Try.underlying35 Try.underlying36 Try.underlying37 Try.underlying38 Try.underlying41 Try.underlying44 Try.underlying47 Try.underlying48 Try.underlying49 Try.underlying50 Try.underlying51 Try.underlying52 Try.underlying53 Try.underlying54 Try.underlying55 Try.underlying58 Try.underlying59 Try.underlying62 Try.underlying65 Try.underlying66 Try.underlying67 Try.underlying69 Try.underlying70 Try.underlying71 Try.underlying72 Try.underlying73 Try.underlying74 Try.underlying75 Try.underlying76 Try.underlying77 Try.underlying78 Try.underlying79 Try.underlying80 Try.underlying81 Try.underlying82 Try.underlying83 Try.underlying84 Try.underlying85 Try.underlying86 Try.underlying91 Try.underlying92 Try.underlying93 Try.underlying94 Try.underlying95 Try.underlying96 Try.underlying98 Try.underlying99 Try.underlying102 Try.underlying103 Try.underlying104 Try.underlying105 Try.underlying106 Try.underlying109 Try.underlying110 Try.underlying111 Try.underlying112 Try.underlying113 Try.underlying114 Try.underlying115 Try.underlying116 Try.underlying117 Try.underlying118 Try.underlying119 Try.underlying120 Try.underlying121 Try.underlying124 Try.underlying127 Try.underlying128 Try.underlying129 Try.underlying130 Try.underlying131 Try.underlying132 Try.underlying133 Try.underlying136 Try.underlying137
theorem Try.mixed : Try.prog.follows .mixedOrders = true := by kernel_rfl
end Go.Proofs
