/-
  WHAT THE TABLES OF TYPES SAY, a closed fact each. Printed by a program of one's own (wip/tools/gen_types.py) off this seat's translation.; SLICES MADE, TAKEN FOR GOOD, COPIED TO BE WRITTEN; THE LAYER IN USE: one step at a time; the rules by which 'aval' is reckoned. Own work (an AI agent).
-/
import Derived.Test.YtkcmbjodladflaaGreatDoorGB
import Derived.Test.YtkcmbjodladflaaGreatDoorProg
import Derived.KernelRfl
import Derived.Deep.OwnRows
import Derived.Laws.Cover3

section
set_option linter.all false
namespace Go.Proofs
open Go.Ab
abbrev yT (n a : Nat) (b : Bool) : Prop := cn_ Tryz.prog n = some (a, b)
abbrev yZ (n : Nat) (v : Value) : Prop := b9_ Tryz.prog n = some v
abbrev yF (n k a b : Nat) (c : Bool) : Prop := dE_ Tryz.prog n k = some (a, b, c)
abbrev yG (n : Nat) : Prop := isGo Tryz.prog n = true
theorem yP {p q : Prop} (a : p) (b : q) : p ∧ q := ⟨a, b⟩
@[go_sem] theorem yy1 : yT 1 1 false∧yT 2 1 false∧yT 3 1 false∧yT 4 1 false∧yT 5 1 false∧yT 6 1 false∧yT 7 4 true∧yT 8 4 true∧yT 9 1 false∧yT 10 1 false∧yT 11 1 false∧yT 12 1 false∧yT 13 2 true∧yT 14 2 true∧yT 15 1 false∧yT 16 1 false∧yT 17 1 false∧yT 18 1 true∧yT 19 1 true∧yT 20 1 false∧yT 21 1 false∧yT 22 1 false∧yT 23 4 true∧yT 24 4 true∧yT 25 10 true∧yT 26 10 true∧yT 27 1 false∧yT 28 1 false∧yT 29 1 false∧yT 30 1 false := by repeat' (first | refine yP ?_ ?_ | (show _ = _; kernel_rfl))
@[go_sem] theorem yy2 : yT 32 1 false∧yT 33 1 false∧yT 34 1 false∧yT 35 1 false∧yT 36 1 false∧yT 37 1 false∧yT 38 1 false∧yT 39 1 false∧yT 40 1 false∧yT 42 3 true∧yT 43 3 true∧yT 44 4 true∧yT 45 4 true∧yT 46 1 false∧yT 47 1 false∧yT 48 1 false∧yT 49 1 false∧yT 50 1 false∧yT 51 1 false∧yT 52 1 false∧yT 53 1 false∧yT 54 1 false∧yT 55 1 false∧yT 56 1 false∧yT 57 2 true∧yT 58 2 true∧yT 59 1 false∧yT 60 1 false∧yT 61 1 false∧yT 62 1 false := by repeat' (first | refine yP ?_ ?_ | (show _ = _; kernel_rfl))
@[go_sem] theorem yy3 : yT 63 1 false∧yT 64 4 true∧yT 65 4 true∧yT 66 1 false∧yT 68 1 false∧yT 69 1 false∧yT 70 1 false∧yT 71 1 false∧yT 72 1 false∧yT 73 1 false∧yT 74 1 false∧yT 75 1 false∧yT 76 1 false∧yT 78 1 false∧yT 79 1 false∧yT 80 1 false∧yT 81 1 false∧yT 82 1 false∧yT 83 1 false∧yT 84 1 false∧yT 85 1 false∧yT 86 1 false∧yT 87 1 false∧yT 88 1 false∧yT 89 1 false∧yT 91 1 false∧yT 92 1 false∧yT 93 1 false∧yT 94 1 false∧yT 95 1 false := by repeat' (first | refine yP ?_ ?_ | (show _ = _; kernel_rfl))
@[go_sem] theorem yy4 : yT 96 1 false∧yT 97 1 false∧yT 99 1 false∧yT 100 1 false∧yT 101 2 true∧yT 102 2 true∧yT 103 6 true∧yT 104 6 true∧yT 106 1 false∧yT 107 1 false∧yT 108 1 false∧yT 109 1 false∧yT 110 1 false∧yT 111 2 true∧yT 112 2 true∧yT 114 1 false∧yT 115 1 false∧yT 116 1 false∧yT 117 1 false∧yT 118 1 false∧yT 119 1 false∧yT 120 3 true∧yT 121 3 true∧yT 123 1 false∧yT 124 1 false∧yT 125 1 false∧yT 126 1 false∧yT 128 1 false∧yT 129 1 false∧yT 130 4 true := by repeat' (first | refine yP ?_ ?_ | (show _ = _; kernel_rfl))
@[go_sem] theorem yy5 : yT 131 4 true∧yT 132 1 false∧yT 133 1 false∧yT 134 1 false∧yT 135 1 false∧yT 136 1 false∧yT 137 1 false∧yT 138 1 false∧yT 139 1 false∧yT 140 1 false∧yT 141 1 false∧yT 142 1 false∧yT 143 1 false∧yT 144 1 false∧yT 145 1 false∧yT 146 1 false∧yT 147 1 false∧yT 149 1 false∧yT 150 1 false∧yT 152 1 false∧yT 153 8 true∧yT 154 8 true∧yT 155 1 false∧yT 156 1 false∧yT 157 1 false∧yT 164 3 true∧yT 166 1 false∧yT 167 1 false∧yT 169 1 false∧yT 170 1 false := by repeat' (first | refine yP ?_ ?_ | (show _ = _; kernel_rfl))
@[go_sem] theorem yy6 : yT 171 1 false∧yT 172 1 false∧yT 173 1 false∧yT 174 1 false∧yT 175 1 false∧yT 176 1 false∧yT 177 1 false∧yT 178 1 false∧yT 180 1 false∧yT 181 1 false∧yT 182 1 false∧yT 183 1 false∧yT 184 1 false∧yT 185 1 false∧yT 186 1 false∧yT 187 1 false∧yT 188 1 false∧yT 189 1 false∧yT 190 1 false∧yT 191 1 false∧yT 192 1 false∧yT 193 1 false∧yT 194 1 false∧yT 195 1 false∧yT 196 1 false∧yT 197 1 false∧yT 198 1 false∧yT 199 1 false∧yT 200 1 false∧yT 201 1 false := by repeat' (first | refine yP ?_ ?_ | (show _ = _; kernel_rfl))
@[go_sem] theorem yy7 : yT 202 4 true∧yT 203 1 false∧yT 204 1 false∧yT 205 1 false∧yT 206 1 false∧yT 207 1 false∧yT 208 2 true∧yT 209 2 true∧yT 210 1 false∧yT 211 1 false∧yT 212 1 false∧yT 213 1 false∧yT 214 1 false∧yT 215 1 false∧yT 216 1 false∧yT 217 1 false∧yT 218 1 false∧yT 219 1 false∧yT 220 1 false∧yT 221 3 true∧yT 222 1 false∧yT 223 1 false∧yT 224 1 false∧yT 225 1 false∧yT 226 1 false∧yT 228 1 false∧yT 230 1 false∧yT 231 1 false∧yT 232 1 false∧yT 233 1 false := by repeat' (first | refine yP ?_ ?_ | (show _ = _; kernel_rfl))
@[go_sem] theorem yy8 : yT 234 1 false∧yT 235 1 false∧yT 236 1 false∧yT 237 1 false∧yT 238 1 false∧yT 239 1 false∧yT 240 1 false∧yT 241 1 false∧yT 242 1 false∧yT 243 1 false∧yT 245 1 false∧yT 246 1 false∧yT 248 1 false∧yT 249 3 true∧yT 250 3 true∧yT 252 24 true∧yT 253 1 false∧yT 255 1 false∧yT 256 1 false∧yT 257 1 false∧yT 258 1 false∧yT 259 1 false∧yT 260 1 false∧yT 261 1 false∧yT 262 1 false∧yT 263 1 true∧yT 264 1 true∧yT 266 20 true∧yT 267 65 true∧yT 269 1 false := by repeat' (first | refine yP ?_ ?_ | (show _ = _; kernel_rfl))
@[go_sem] theorem yy9 : yT 270 256 true∧yT 271 2 true∧yT 272 2 true∧yT 273 32 true∧yT 274 32 true∧yT 275 64 true∧yT 276 4 true∧yT 277 4 true∧yT 278 0 true∧yT 279 0 true∧yT 280 0 true∧yT 281 1 false∧yT 282 1 false∧yT 283 1 false∧yT 284 1 false∧yT 285 1 false∧yT 286 11 true∧yT 287 11 true := by repeat' (first | refine yP ?_ ?_ | (show _ = _; kernel_rfl))
@[go_sem] theorem yy10 : yZ 1 (.nilFunc)∧yZ 2 (.int .i64 0)∧yZ 3 (.int .i64 0)∧yZ 4 (.bool false)∧yZ 5 (.int .u8 0)∧yZ 6 (.int .u8 0)∧yZ 7 (.agg #[.int .i64 0, .int .i64 0, .bool false, .int .u8 0])∧yZ 8 (.agg #[.int .i64 0, .int .i64 0, .bool false, .int .u8 0])∧yZ 9 (.string ⟨#[]⟩)∧yZ 10 (.string ⟨#[]⟩)∧yZ 11 (.string ⟨#[]⟩)∧yZ 12 (.int .u64 0)∧yZ 13 (.agg #[.string ⟨#[]⟩, .int .u64 0])∧yZ 14 (.agg #[.string ⟨#[]⟩, .int .u64 0])∧yZ 15 (.pointer none)∧yZ 16 (.pointer none)∧yZ 17 (.pointer none)∧yZ 18 (.agg #[.pointer none])∧yZ 19 (.agg #[.pointer none])∧yZ 20 (.nilIface)∧yZ 21 (.int .i32 0)∧yZ 22 (.slice none 0 0)∧yZ 23 (.agg #[.string ⟨#[]⟩, .string ⟨#[]⟩, .string ⟨#[]⟩, .bool false])∧yZ 24 (.agg #[.string ⟨#[]⟩, .string ⟨#[]⟩, .string ⟨#[]⟩, .bool false])∧yZ 25 (.agg #[.int .i64 0, .string ⟨#[]⟩, .string ⟨#[]⟩, .string ⟨#[]⟩, .string ⟨#[]⟩, .int .i64 0, .string ⟨#[]⟩, .string ⟨#[]⟩, .string ⟨#[]⟩, .bool false])∧yZ 26 (.agg #[.int .i64 0, .string ⟨#[]⟩, .string ⟨#[]⟩, .string ⟨#[]⟩, .string ⟨#[]⟩, .int .i64 0, .string ⟨#[]⟩, .string ⟨#[]⟩, .string ⟨#[]⟩, .bool false])∧yZ 27 (.nilFunc)∧yZ 28 (.nilFunc)∧yZ 29 (.nilFunc)∧yZ 30 (.int .i64 0) := by repeat' (first | refine yP ?_ ?_ | (show _ = _; kernel_rfl))
@[go_sem] theorem yy11 : yZ 32 (.nilFunc)∧yZ 33 (.nilFunc)∧yZ 34 (.nilFunc)∧yZ 35 (.slice none 0 0)∧yZ 36 (.nilFunc)∧yZ 37 (.nilFunc)∧yZ 38 (.nilFunc)∧yZ 39 (.nilFunc)∧yZ 40 (.nilFunc)∧yZ 42 (.agg #[.int .i64 0, .string ⟨#[]⟩, .string ⟨#[]⟩])∧yZ 43 (.agg #[.int .i64 0, .string ⟨#[]⟩, .string ⟨#[]⟩])∧yZ 44 (.agg #[.string ⟨#[]⟩, .int .i64 0, .string ⟨#[]⟩, .string ⟨#[]⟩])∧yZ 45 (.agg #[.string ⟨#[]⟩, .int .i64 0, .string ⟨#[]⟩, .string ⟨#[]⟩])∧yZ 46 (.nilFunc)∧yZ 47 (.nilFunc)∧yZ 48 (.nilFunc)∧yZ 49 (.nilFunc)∧yZ 50 (.slice none 0 0)∧yZ 51 (.slice none 0 0)∧yZ 52 (.nilFunc)∧yZ 53 (.nilFunc)∧yZ 54 (.nilFunc)∧yZ 55 (.slice none 0 0)∧yZ 56 (.nilFunc)∧yZ 57 (.agg #[.int .i64 0, .string ⟨#[]⟩])∧yZ 58 (.agg #[.int .i64 0, .string ⟨#[]⟩])∧yZ 59 (.nilFunc)∧yZ 60 (.nilFunc)∧yZ 61 (.nilFunc)∧yZ 62 (.nilFunc) := by repeat' (first | refine yP ?_ ?_ | (show _ = _; kernel_rfl))
@[go_sem] theorem yy12 : yZ 63 (.pointer none)∧yZ 64 (.agg #[.slice none 0 0, .string ⟨#[]⟩, .slice none 0 0, .int .i64 0])∧yZ 65 (.agg #[.slice none 0 0, .string ⟨#[]⟩, .slice none 0 0, .int .i64 0])∧yZ 66 (.nilFunc)∧yZ 68 (.nilFunc)∧yZ 69 (.nilFunc)∧yZ 70 (.nilFunc)∧yZ 71 (.nilFunc)∧yZ 72 (.nilFunc)∧yZ 73 (.nilFunc)∧yZ 74 (.nilFunc)∧yZ 75 (.nilFunc)∧yZ 76 (.nilFunc)∧yZ 78 (.nilFunc)∧yZ 79 (.nilFunc)∧yZ 80 (.nilFunc)∧yZ 81 (.nilFunc)∧yZ 82 (.nilFunc)∧yZ 83 (.nilFunc)∧yZ 84 (.nilFunc)∧yZ 85 (.nilFunc)∧yZ 86 (.nilFunc)∧yZ 87 (.nilFunc)∧yZ 88 (.nilFunc)∧yZ 89 (.nilFunc)∧yZ 91 (.nilFunc)∧yZ 92 (.nilFunc)∧yZ 93 (.nilFunc)∧yZ 94 (.nilFunc)∧yZ 95 (.nilFunc) := by repeat' (first | refine yP ?_ ?_ | (show _ = _; kernel_rfl))
@[go_sem] theorem yy13 : yZ 96 (.nilFunc)∧yZ 97 (.nilFunc)∧yZ 99 (.nilFunc)∧yZ 100 (.pointer none)∧yZ 101 (.agg #[.slice none 0 0, .slice none 0 0])∧yZ 102 (.agg #[.slice none 0 0, .slice none 0 0])∧yZ 103 (.agg #[.string ⟨#[]⟩, .string ⟨#[]⟩, .int .i64 0, .int .i64 0, .int .i64 0, .int .i64 0])∧yZ 104 (.agg #[.string ⟨#[]⟩, .string ⟨#[]⟩, .int .i64 0, .int .i64 0, .int .i64 0, .int .i64 0])∧yZ 106 (.nilFunc)∧yZ 107 (.nilFunc)∧yZ 108 (.nilFunc)∧yZ 109 (.nilFunc)∧yZ 110 (.nilFunc)∧yZ 111 (.agg #[.int .i64 0, .int .i64 0])∧yZ 112 (.agg #[.int .i64 0, .int .i64 0])∧yZ 114 (.nilFunc)∧yZ 115 (.nilFunc)∧yZ 116 (.nilFunc)∧yZ 117 (.nilFunc)∧yZ 118 (.slice none 0 0)∧yZ 119 (.nilFunc)∧yZ 120 (.agg #[.int .i64 0, .string ⟨#[]⟩, .string ⟨#[]⟩])∧yZ 121 (.agg #[.int .i64 0, .string ⟨#[]⟩, .string ⟨#[]⟩])∧yZ 123 (.nilFunc)∧yZ 124 (.nilFunc)∧yZ 125 (.slice none 0 0)∧yZ 126 (.map none)∧yZ 128 (.nilFunc)∧yZ 129 (.pointer none)∧yZ 130 (.agg #[.string ⟨#[]⟩, .int .i64 0, .int .i64 0, .int .i64 0]) := by repeat' (first | refine yP ?_ ?_ | (show _ = _; kernel_rfl))
@[go_sem] theorem yy14 : yZ 131 (.agg #[.string ⟨#[]⟩, .int .i64 0, .int .i64 0, .int .i64 0])∧yZ 132 (.slice none 0 0)∧yZ 133 (.nilFunc)∧yZ 134 (.pointer none)∧yZ 135 (.nilFunc)∧yZ 136 (.nilFunc)∧yZ 137 (.nilFunc)∧yZ 138 (.nilFunc)∧yZ 139 (.int .u64 0)∧yZ 140 (.nilFunc)∧yZ 141 (.nilFunc)∧yZ 142 (.nilFunc)∧yZ 143 (.nilFunc)∧yZ 144 (.nilFunc)∧yZ 145 (.nilFunc)∧yZ 146 (.nilIface)∧yZ 147 (.nilIface)∧yZ 149 (.nilFunc)∧yZ 150 (.nilFunc)∧yZ 152 (.nilFunc)∧yZ 153 (.agg #[.int .i64 0, .int .i64 0, .int .i64 0, .int .i64 0, .int .i64 0, .bool false, .bool false, .bool false])∧yZ 154 (.agg #[.int .i64 0, .int .i64 0, .int .i64 0, .int .i64 0, .int .i64 0, .bool false, .bool false, .bool false])∧yZ 155 (.nilFunc)∧yZ 156 (.nilFunc)∧yZ 157 (.nilFunc)∧yZ 164 (.agg #[.string ⟨#[]⟩, .string ⟨#[]⟩, .string ⟨#[]⟩])∧yZ 166 (.nilFunc)∧yZ 167 (.nilFunc)∧yZ 169 (.nilFunc)∧yZ 170 (.nilIface) := by repeat' (first | refine yP ?_ ?_ | (show _ = _; kernel_rfl))
@[go_sem] theorem yy15 : yZ 171 (.nilIface)∧yZ 172 (.nilFunc)∧yZ 173 (.nilFunc)∧yZ 174 (.nilFunc)∧yZ 175 (.nilFunc)∧yZ 176 (.nilFunc)∧yZ 177 (.nilFunc)∧yZ 178 (.int .i64 0)∧yZ 180 (.nilFunc)∧yZ 181 (.nilFunc)∧yZ 182 (.nilFunc)∧yZ 183 (.nilFunc)∧yZ 184 (.nilFunc)∧yZ 185 (.int .u32 0)∧yZ 186 (.nilFunc)∧yZ 187 (.int .u64 0)∧yZ 188 (.slice none 0 0)∧yZ 189 (.nilFunc)∧yZ 190 (.nilFunc)∧yZ 191 (.nilFunc)∧yZ 192 (.nilFunc)∧yZ 193 (.nilFunc)∧yZ 194 (.nilFunc)∧yZ 195 (.nilFunc)∧yZ 196 (.nilFunc)∧yZ 197 (.map none)∧yZ 198 (.nilFunc)∧yZ 199 (.nilFunc)∧yZ 200 (.nilFunc)∧yZ 201 (.nilFunc) := by repeat' (first | refine yP ?_ ?_ | (show _ = _; kernel_rfl))
@[go_sem] theorem yy16 : yZ 202 (.agg #[.string ⟨#[]⟩, .string ⟨#[]⟩, .string ⟨#[]⟩, .bool false])∧yZ 203 (.nilFunc)∧yZ 204 (.nilFunc)∧yZ 205 (.nilFunc)∧yZ 206 (.pointer none)∧yZ 207 (.slice none 0 0)∧yZ 208 (.agg #[.pointer none, .slice none 0 0])∧yZ 209 (.agg #[.pointer none, .slice none 0 0])∧yZ 210 (.nilFunc)∧yZ 211 (.nilFunc)∧yZ 212 (.nilFunc)∧yZ 213 (.int .u64 0)∧yZ 214 (.nilFunc)∧yZ 215 (.nilFunc)∧yZ 216 (.nilFunc)∧yZ 217 (.pointer none)∧yZ 218 (.nilFunc)∧yZ 219 (.nilFunc)∧yZ 220 (.nilFunc)∧yZ 221 (.agg #[.int .i64 0, .string ⟨#[]⟩, .string ⟨#[]⟩])∧yZ 222 (.nilFunc)∧yZ 223 (.nilFunc)∧yZ 224 (.nilFunc)∧yZ 225 (.nilFunc)∧yZ 226 (.nilFunc)∧yZ 228 (.int .i64 0)∧yZ 230 (.nilFunc)∧yZ 231 (.pointer none)∧yZ 232 (.nilFunc)∧yZ 233 (.nilFunc) := by repeat' (first | refine yP ?_ ?_ | (show _ = _; kernel_rfl))
@[go_sem] theorem yy17 : yZ 234 (.nilFunc)∧yZ 235 (.pointer none)∧yZ 236 (.nilFunc)∧yZ 237 (.nilFunc)∧yZ 238 (.pointer none)∧yZ 239 (.nilFunc)∧yZ 240 (.nilFunc)∧yZ 241 (.nilFunc)∧yZ 242 (.nilFunc)∧yZ 243 (.nilFunc)∧yZ 245 (.nilFunc)∧yZ 246 (.nilFunc)∧yZ 248 (.nilFunc)∧yZ 249 (.agg #[.string ⟨#[]⟩, .string ⟨#[]⟩, .nilIface])∧yZ 250 (.agg #[.string ⟨#[]⟩, .string ⟨#[]⟩, .nilIface])∧yZ 252 (.agg #[.int .u8 0, .int .u8 0, .int .u8 0, .int .u8 0, .int .u8 0, .int .u8 0, .int .u8 0, .int .u8 0, .int .u8 0, .int .u8 0, .int .u8 0, .int .u8 0, .int .u8 0, .int .u8 0, .int .u8 0, .int .u8 0, .int .u8 0, .int .u8 0, .int .u8 0, .int .u8 0, .int .u8 0, .int .u8 0, .int .u8 0, .int .u8 0])∧yZ 253 (.nilFunc)∧yZ 255 (.nilFunc)∧yZ 256 (.nilFunc)∧yZ 257 (.pointer none)∧yZ 258 (.nilFunc)∧yZ 259 (.nilFunc)∧yZ 260 (.nilFunc)∧yZ 261 (.nilFunc)∧yZ 262 (.pointer none)∧yZ 263 (.agg #[.string ⟨#[]⟩])∧yZ 264 (.agg #[.string ⟨#[]⟩])∧yZ 266 (.agg #[.int .u64 0, .int .u64 0, .int .u64 0, .int .u64 0, .int .u64 0, .int .u64 0, .int .u64 0, .int .u64 0, .int .u64 0, .int .u64 0, .int .u64 0, .int .u64 0, .int .u64 0, .int .u64 0, .int .u64 0, .int .u64 0, .int .u64 0, .int .u64 0, .int .u64 0, .int .u64 0])∧yZ 267 (.agg #[.int .u8 0, .int .u8 0, .int .u8 0, .int .u8 0, .int .u8 0, .int .u8 0, .int .u8 0, .int .u8 0, .int .u8 0, .int .u8 0, .int .u8 0, .int .u8 0, .int .u8 0, .int .u8 0, .int .u8 0, .int .u8 0, .int .u8 0, .int .u8 0, .int .u8 0, .int .u8 0, .int .u8 0, .int .u8 0, .int .u8 0, .int .u8 0, .int .u8 0, .int .u8 0, .int .u8 0, .int .u8 0, .int .u8 0, .int .u8 0, .int .u8 0, .int .u8 0, .int .u8 0, .int .u8 0, .int .u8 0, .int .u8 0, .int .u8 0, .int .u8 0, .int .u8 0, .int .u8 0, .int .u8 0, .int .u8 0, .int .u8 0, .int .u8 0, .int .u8 0, .int .u8 0, .int .u8 0, .int .u8 0, .int .u8 0, .int .u8 0, .int .u8 0, .int .u8 0, .int .u8 0, .int .u8 0, .int .u8 0, .int .u8 0, .int .u8 0, .int .u8 0, .int .u8 0, .int .u8 0, .int .u8 0, .int .u8 0, .int .u8 0, .int .u8 0, .int .u8 0])∧yZ 269 (.nilFunc) := by repeat' (first | refine yP ?_ ?_ | (show _ = _; kernel_rfl))
@[go_sem] theorem yy18 : yZ 271 (.agg #[.int .u8 0, .int .u8 0])∧yZ 272 (.agg #[.int .u8 0, .int .u8 0])∧yZ 273 (.agg #[.int .u8 0, .int .u8 0, .int .u8 0, .int .u8 0, .int .u8 0, .int .u8 0, .int .u8 0, .int .u8 0, .int .u8 0, .int .u8 0, .int .u8 0, .int .u8 0, .int .u8 0, .int .u8 0, .int .u8 0, .int .u8 0, .int .u8 0, .int .u8 0, .int .u8 0, .int .u8 0, .int .u8 0, .int .u8 0, .int .u8 0, .int .u8 0, .int .u8 0, .int .u8 0, .int .u8 0, .int .u8 0, .int .u8 0, .int .u8 0, .int .u8 0, .int .u8 0])∧yZ 274 (.agg #[.int .u8 0, .int .u8 0, .int .u8 0, .int .u8 0, .int .u8 0, .int .u8 0, .int .u8 0, .int .u8 0, .int .u8 0, .int .u8 0, .int .u8 0, .int .u8 0, .int .u8 0, .int .u8 0, .int .u8 0, .int .u8 0, .int .u8 0, .int .u8 0, .int .u8 0, .int .u8 0, .int .u8 0, .int .u8 0, .int .u8 0, .int .u8 0, .int .u8 0, .int .u8 0, .int .u8 0, .int .u8 0, .int .u8 0, .int .u8 0, .int .u8 0, .int .u8 0])∧yZ 275 (.agg #[.int .u8 0, .int .u8 0, .int .u8 0, .int .u8 0, .int .u8 0, .int .u8 0, .int .u8 0, .int .u8 0, .int .u8 0, .int .u8 0, .int .u8 0, .int .u8 0, .int .u8 0, .int .u8 0, .int .u8 0, .int .u8 0, .int .u8 0, .int .u8 0, .int .u8 0, .int .u8 0, .int .u8 0, .int .u8 0, .int .u8 0, .int .u8 0, .int .u8 0, .int .u8 0, .int .u8 0, .int .u8 0, .int .u8 0, .int .u8 0, .int .u8 0, .int .u8 0, .int .u8 0, .int .u8 0, .int .u8 0, .int .u8 0, .int .u8 0, .int .u8 0, .int .u8 0, .int .u8 0, .int .u8 0, .int .u8 0, .int .u8 0, .int .u8 0, .int .u8 0, .int .u8 0, .int .u8 0, .int .u8 0, .int .u8 0, .int .u8 0, .int .u8 0, .int .u8 0, .int .u8 0, .int .u8 0, .int .u8 0, .int .u8 0, .int .u8 0, .int .u8 0, .int .u8 0, .int .u8 0, .int .u8 0, .int .u8 0, .int .u8 0, .int .u8 0])∧yZ 276 (.agg #[.pointer none, .pointer none, .pointer none, .string ⟨#[]⟩])∧yZ 277 (.agg #[.pointer none, .pointer none, .pointer none, .string ⟨#[]⟩])∧yZ 278 (.agg #[])∧yZ 279 (.agg #[])∧yZ 280 (.agg #[])∧yZ 281 (.int .u8 0)∧yZ 282 (.int .u8 0)∧yZ 283 (.nilFunc)∧yZ 284 (.int .i32 0)∧yZ 285 (.int .i32 0)∧yZ 286 (.agg #[.int .u64 0, .int .u64 0, .int .u32 0, .int .u8 0, .int .u8 0, .int .u8 0, .int .u8 0, .nilFunc, .pointer none, .int .i32 0, .int .i32 0])∧yZ 287 (.agg #[.int .u64 0, .int .u64 0, .int .u32 0, .int .u8 0, .int .u8 0, .int .u8 0, .int .u8 0, .nilFunc, .pointer none, .int .i32 0, .int .i32 0]) := by repeat' (first | refine yP ?_ ?_ | (show _ = _; kernel_rfl))
@[go_sem] theorem yy19 : yF 7 0 0 1 false∧yF 7 1 1 1 false∧yF 7 2 2 1 false∧yF 7 3 3 1 false∧yF 8 0 0 1 false∧yF 8 1 1 1 false∧yF 8 2 2 1 false∧yF 8 3 3 1 false∧yF 13 0 0 1 false∧yF 13 1 1 1 false∧yF 14 0 0 1 false∧yF 14 1 1 1 false∧yF 18 0 0 1 false∧yF 19 0 0 1 false∧yF 23 0 0 1 false∧yF 23 1 1 1 false∧yF 23 2 2 1 false∧yF 23 3 3 1 false∧yF 24 0 0 1 false∧yF 24 1 1 1 false∧yF 24 2 2 1 false∧yF 24 3 3 1 false∧yF 25 0 0 1 false∧yF 25 1 1 1 false∧yF 25 2 2 1 false∧yF 25 3 3 1 false∧yF 25 4 4 1 false∧yF 25 5 5 1 false∧yF 25 6 6 4 true∧yF 26 0 0 1 false := by repeat' (first | refine yP ?_ ?_ | (show _ = _; kernel_rfl))
@[go_sem] theorem yy20 : yF 26 1 1 1 false∧yF 26 2 2 1 false∧yF 26 3 3 1 false∧yF 26 4 4 1 false∧yF 26 5 5 1 false∧yF 26 6 6 4 true∧yF 42 0 0 1 false∧yF 42 1 1 1 false∧yF 42 2 2 1 false∧yF 43 0 0 1 false∧yF 43 1 1 1 false∧yF 43 2 2 1 false∧yF 44 0 0 1 false∧yF 44 1 1 3 true∧yF 45 0 0 1 false∧yF 45 1 1 3 true∧yF 57 0 0 1 false∧yF 57 1 1 1 false∧yF 58 0 0 1 false∧yF 58 1 1 1 false∧yF 64 0 0 1 false∧yF 64 1 1 1 false∧yF 64 2 2 1 false∧yF 64 3 3 1 false∧yF 65 0 0 1 false∧yF 65 1 1 1 false∧yF 65 2 2 1 false∧yF 65 3 3 1 false∧yF 101 0 0 1 false∧yF 101 1 1 1 false := by repeat' (first | refine yP ?_ ?_ | (show _ = _; kernel_rfl))
@[go_sem] theorem yy21 : yF 102 0 0 1 false∧yF 102 1 1 1 false∧yF 103 0 0 1 false∧yF 103 1 1 1 false∧yF 103 2 2 1 false∧yF 103 3 3 1 false∧yF 103 4 4 1 false∧yF 103 5 5 1 false∧yF 104 0 0 1 false∧yF 104 1 1 1 false∧yF 104 2 2 1 false∧yF 104 3 3 1 false∧yF 104 4 4 1 false∧yF 104 5 5 1 false∧yF 111 0 0 1 false∧yF 111 1 1 1 false∧yF 112 0 0 1 false∧yF 112 1 1 1 false∧yF 120 0 0 1 false∧yF 120 1 1 1 false∧yF 120 2 2 1 false∧yF 121 0 0 1 false∧yF 121 1 1 1 false∧yF 121 2 2 1 false∧yF 130 0 0 1 false∧yF 130 1 1 1 false∧yF 130 2 2 1 false∧yF 130 3 3 1 false∧yF 131 0 0 1 false∧yF 131 1 1 1 false := by repeat' (first | refine yP ?_ ?_ | (show _ = _; kernel_rfl))
@[go_sem] theorem yy22 : yF 131 2 2 1 false∧yF 131 3 3 1 false∧yF 153 0 0 1 false∧yF 153 1 1 1 false∧yF 153 2 2 1 false∧yF 153 3 3 1 false∧yF 153 4 4 1 false∧yF 153 5 5 1 false∧yF 153 6 6 1 false∧yF 153 7 7 1 false∧yF 154 0 0 1 false∧yF 154 1 1 1 false∧yF 154 2 2 1 false∧yF 154 3 3 1 false∧yF 154 4 4 1 false∧yF 154 5 5 1 false∧yF 154 6 6 1 false∧yF 154 7 7 1 false∧yF 202 0 0 1 false∧yF 202 1 1 1 false∧yF 202 2 2 1 false∧yF 202 3 3 1 false∧yF 208 0 0 1 false∧yF 208 1 1 1 false∧yF 209 0 0 1 false∧yF 209 1 1 1 false∧yF 221 0 0 1 false∧yF 221 1 1 1 false∧yF 221 2 2 1 false∧yF 249 0 0 1 false := by repeat' (first | refine yP ?_ ?_ | (show _ = _; kernel_rfl))
@[go_sem] theorem yy23 : yF 249 1 1 1 false∧yF 249 2 2 1 false∧yF 250 0 0 1 false∧yF 250 1 1 1 false∧yF 250 2 2 1 false∧yF 263 0 0 1 false∧yF 264 0 0 1 false∧yF 271 0 0 1 false∧yF 271 1 1 1 false∧yF 272 0 0 1 false∧yF 272 1 1 1 false∧yF 276 0 0 1 false∧yF 276 1 1 1 false∧yF 276 2 2 1 false∧yF 276 3 3 1 false∧yF 277 0 0 1 false∧yF 277 1 1 1 false∧yF 277 2 2 1 false∧yF 277 3 3 1 false∧yF 279 0 0 0 true∧yF 280 0 0 0 true∧yF 286 0 0 1 false∧yF 286 1 1 1 false∧yF 286 2 2 1 false∧yF 286 3 3 1 false∧yF 286 4 4 1 false∧yF 286 5 5 1 false∧yF 286 6 6 1 false∧yF 286 7 7 1 false∧yF 286 8 8 1 false := by repeat' (first | refine yP ?_ ?_ | (show _ = _; kernel_rfl))
@[go_sem] theorem yy24 : yF 286 9 9 1 false∧yF 286 10 10 1 false∧yF 287 0 0 1 false∧yF 287 1 1 1 false∧yF 287 2 2 1 false∧yF 287 3 3 1 false∧yF 287 4 4 1 false∧yF 287 5 5 1 false∧yF 287 6 6 1 false∧yF 287 7 7 1 false∧yF 287 8 8 1 false∧yF 287 9 9 1 false∧yF 287 10 10 1 false := by repeat' (first | refine yP ?_ ?_ | (show _ = _; kernel_rfl))
@[go_sem] theorem yy25 : yG 3∧yG 4∧yG 5∧yG 6∧yG 7∧yG 8∧yG 9∧yG 10∧yG 11∧yG 12∧yG 13∧yG 14∧yG 15∧yG 16∧yG 17∧yG 18∧yG 19∧yG 20∧yG 21∧yG 22∧yG 23∧yG 24∧yG 25∧yG 26∧yG 27∧yG 28∧yG 29∧yG 30∧yG 31∧yG 32 := by repeat' (first | refine yP ?_ ?_ | (show _ = _; kernel_rfl))
@[go_sem] theorem yy26 : yG 33∧yG 34∧yG 35∧yG 36∧yG 37∧yG 38∧yG 39∧yG 40∧yG 42∧yG 43∧yG 44∧yG 45∧yG 46∧yG 47∧yG 48∧yG 49∧yG 50∧yG 51∧yG 52∧yG 53∧yG 54∧yG 55∧yG 56∧yG 57∧yG 58∧yG 59∧yG 60∧yG 61∧yG 62∧yG 63 := by repeat' (first | refine yP ?_ ?_ | (show _ = _; kernel_rfl))
@[go_sem] theorem yy27 : yG 64∧yG 65∧yG 66∧yG 67∧yG 68∧yG 69∧yG 70∧yG 71∧yG 72∧yG 73∧yG 74∧yG 75∧yG 76∧yG 77∧yG 78∧yG 79∧yG 80∧yG 81∧yG 82∧yG 83∧yG 84∧yG 85∧yG 86∧yG 87∧yG 88∧yG 89∧yG 90∧yG 91∧yG 92∧yG 93 := by repeat' (first | refine yP ?_ ?_ | (show _ = _; kernel_rfl))
@[go_sem] theorem yy28 : yG 94∧yG 95∧yG 96∧yG 97∧yG 98∧yG 99∧yG 100∧yG 101∧yG 102∧yG 103∧yG 104∧yG 105∧yG 106∧yG 107∧yG 108∧yG 109∧yG 110∧yG 111∧yG 112∧yG 113∧yG 114∧yG 115∧yG 116∧yG 117∧yG 118∧yG 119∧yG 120∧yG 121∧yG 122∧yG 123 := by repeat' (first | refine yP ?_ ?_ | (show _ = _; kernel_rfl))
@[go_sem] theorem yy29 : yG 124∧yG 125∧yG 126∧yG 127∧yG 128∧yG 129∧yG 130∧yG 131∧yG 132∧yG 133∧yG 134∧yG 135∧yG 136∧yG 137∧yG 138∧yG 139∧yG 140∧yG 141∧yG 142∧yG 143∧yG 144∧yG 145∧yG 146∧yG 147∧yG 148∧yG 149∧yG 150∧yG 151∧yG 152∧yG 153 := by repeat' (first | refine yP ?_ ?_ | (show _ = _; kernel_rfl))
@[go_sem] theorem yy30 : yG 154∧yG 155∧yG 156∧yG 157∧yG 160∧yG 162∧yG 164∧yG 166∧yG 167∧yG 169∧yG 170∧yG 171∧yG 172∧yG 173∧yG 174∧yG 175∧yG 176∧yG 177∧yG 178∧yG 179∧yG 180∧yG 181∧yG 182∧yG 183∧yG 184∧yG 185∧yG 186∧yG 187∧yG 188∧yG 189 := by repeat' (first | refine yP ?_ ?_ | (show _ = _; kernel_rfl))
@[go_sem] theorem yy31 : yG 190∧yG 191∧yG 192∧yG 193∧yG 194∧yG 195∧yG 196∧yG 197∧yG 198∧yG 199∧yG 200∧yG 201∧yG 202∧yG 203∧yG 204∧yG 205∧yG 206∧yG 207∧yG 208∧yG 209∧yG 210∧yG 211∧yG 212∧yG 213∧yG 214∧yG 215∧yG 216∧yG 217∧yG 218∧yG 219 := by repeat' (first | refine yP ?_ ?_ | (show _ = _; kernel_rfl))
@[go_sem] theorem yy32 : yG 220∧yG 221∧yG 222∧yG 223∧yG 224∧yG 225∧yG 226∧yG 228∧yG 229∧yG 230∧yG 231∧yG 232∧yG 233∧yG 234∧yG 235∧yG 237∧yG 238∧yG 239∧yG 240∧yG 241∧yG 242∧yG 243∧yG 244∧yG 246∧yG 247∧yG 250∧yG 251∧yG 252∧yG 253∧yG 254 := by repeat' (first | refine yP ?_ ?_ | (show _ = _; kernel_rfl))
@[go_sem] theorem yy33 : yG 255∧yG 256∧yG 257∧yG 258∧yG 259∧yG 261∧yG 262∧yG 263∧yG 264∧yG 281∧yG 282∧yG 283∧yG 284∧yG 285∧yG 286 := by repeat' (first | refine yP ?_ ?_ | (show _ = _; kernel_rfl))
@[go_sem] theorem Tryz.api3 : a5_ Tryz.prog 3 = some (1, 8) := by kernel_rfl
@[go_sem] theorem Tryz.api5 : a5_ Tryz.prog 5 = some (1, 1) := by kernel_rfl
@[go_sem] theorem Tryz.abi7 : az_ Tryz.prog 7 = some ([(0, 1), (1, 1), (2, 1), (3, 1)], 0, [.int .i64 0, .int .i64 0, .bool false, .int .u8 0]) := by kernel_rfl
@[go_sem] theorem Tryz.abi8 : az_ Tryz.prog 8 = some ([(0, 1), (1, 1), (2, 1), (3, 1)], 0, [.int .i64 0, .int .i64 0, .bool false, .int .u8 0]) := by kernel_rfl
@[go_sem] theorem Tryz.ais9 : aS_ Tryz.prog 9 = true := by kernel_rfl
@[go_sem] theorem Tryz.api9 : a5_ Tryz.prog 9 = some (1, 16) := by kernel_rfl
@[go_sem] theorem Tryz.ais10 : aS_ Tryz.prog 10 = true := by kernel_rfl
@[go_sem] theorem Tryz.ais11 : aS_ Tryz.prog 11 = true := by kernel_rfl
@[go_sem] theorem Tryz.abi13 : az_ Tryz.prog 13 = some ([(0, 1), (1, 1)], 0, [.string ⟨#[]⟩, .int .u64 0]) := by kernel_rfl
@[go_sem] theorem Tryz.abi14 : az_ Tryz.prog 14 = some ([(0, 1), (1, 1)], 0, [.string ⟨#[]⟩, .int .u64 0]) := by kernel_rfl
@[go_sem] theorem Tryz.abi18 : az_ Tryz.prog 18 = some ([(0, 1)], 0, [.pointer none]) := by kernel_rfl
@[go_sem] theorem Tryz.abi19 : az_ Tryz.prog 19 = some ([(0, 1)], 0, [.pointer none]) := by kernel_rfl
@[go_sem] theorem Tryz.ais22 : aS_ Tryz.prog 22 = false := by kernel_rfl
@[go_sem] theorem Tryz.api22 : a5_ Tryz.prog 22 = some (1, 24) := by kernel_rfl
@[go_sem] theorem Tryz.ase22 : aE_ Tryz.prog 22 = some 45 := by kernel_rfl
@[go_sem] theorem Tryz.abi23 : az_ Tryz.prog 23 = some ([(0, 1), (1, 1), (2, 1), (3, 1)], 0, [.string ⟨#[]⟩, .string ⟨#[]⟩, .string ⟨#[]⟩, .bool false]) := by kernel_rfl
@[go_sem] theorem Tryz.api24 : a5_ Tryz.prog 24 = some (4, 56) := by kernel_rfl
@[go_sem] theorem Tryz.abi24 : az_ Tryz.prog 24 = some ([(0, 1), (1, 1), (2, 1), (3, 1)], 0, [.string ⟨#[]⟩, .string ⟨#[]⟩, .string ⟨#[]⟩, .bool false]) := by kernel_rfl
@[go_sem] theorem Tryz.abi25 : az_ Tryz.prog 25 = some ([(0, 1), (1, 1), (2, 1), (3, 1), (4, 1), (5, 1), (6, 4)], 0, [.int .i64 0, .string ⟨#[]⟩, .string ⟨#[]⟩, .string ⟨#[]⟩, .string ⟨#[]⟩, .int .i64 0, .string ⟨#[]⟩, .string ⟨#[]⟩, .string ⟨#[]⟩, .bool false]) := by kernel_rfl
@[go_sem] theorem Tryz.abi26 : az_ Tryz.prog 26 = some ([(0, 1), (1, 1), (2, 1), (3, 1), (4, 1), (5, 1), (6, 4)], 0, [.int .i64 0, .string ⟨#[]⟩, .string ⟨#[]⟩, .string ⟨#[]⟩, .string ⟨#[]⟩, .int .i64 0, .string ⟨#[]⟩, .string ⟨#[]⟩, .string ⟨#[]⟩, .bool false]) := by kernel_rfl
@[go_sem] theorem Tryz.ais35 : aS_ Tryz.prog 35 = false := by kernel_rfl
@[go_sem] theorem Tryz.ase35 : aE_ Tryz.prog 35 = some 24 := by kernel_rfl
@[go_sem] theorem Tryz.abi42 : az_ Tryz.prog 42 = some ([(0, 1), (1, 1), (2, 1)], 0, [.int .i64 0, .string ⟨#[]⟩, .string ⟨#[]⟩]) := by kernel_rfl
@[go_sem] theorem Tryz.abi43 : az_ Tryz.prog 43 = some ([(0, 1), (1, 1), (2, 1)], 0, [.int .i64 0, .string ⟨#[]⟩, .string ⟨#[]⟩]) := by kernel_rfl
@[go_sem] theorem Tryz.abi44 : az_ Tryz.prog 44 = some ([(0, 1), (1, 3)], 0, [.string ⟨#[]⟩, .int .i64 0, .string ⟨#[]⟩, .string ⟨#[]⟩]) := by kernel_rfl
@[go_sem] theorem Tryz.api45 : a5_ Tryz.prog 45 = some (4, 56) := by kernel_rfl
@[go_sem] theorem Tryz.abi45 : az_ Tryz.prog 45 = some ([(0, 1), (1, 3)], 0, [.string ⟨#[]⟩, .int .i64 0, .string ⟨#[]⟩, .string ⟨#[]⟩]) := by kernel_rfl
@[go_sem] theorem Tryz.ais50 : aS_ Tryz.prog 50 = false := by kernel_rfl
@[go_sem] theorem Tryz.ase50 : aE_ Tryz.prog 50 = some 9 := by kernel_rfl
@[go_sem] theorem Tryz.ais51 : aS_ Tryz.prog 51 = false := by kernel_rfl
@[go_sem] theorem Tryz.ase51 : aE_ Tryz.prog 51 = some 3 := by kernel_rfl
@[go_sem] theorem Tryz.ais55 : aS_ Tryz.prog 55 = false := by kernel_rfl
@[go_sem] theorem Tryz.ase55 : aE_ Tryz.prog 55 = some 58 := by kernel_rfl
@[go_sem] theorem Tryz.abi57 : az_ Tryz.prog 57 = some ([(0, 1), (1, 1)], 0, [.int .i64 0, .string ⟨#[]⟩]) := by kernel_rfl
@[go_sem] theorem Tryz.api58 : a5_ Tryz.prog 58 = some (2, 24) := by kernel_rfl
@[go_sem] theorem Tryz.abi58 : az_ Tryz.prog 58 = some ([(0, 1), (1, 1)], 0, [.int .i64 0, .string ⟨#[]⟩]) := by kernel_rfl
@[go_sem] theorem Tryz.abi64 : az_ Tryz.prog 64 = some ([(0, 1), (1, 1), (2, 1), (3, 1)], 0, [.slice none 0 0, .string ⟨#[]⟩, .slice none 0 0, .int .i64 0]) := by kernel_rfl
@[go_sem] theorem Tryz.abi65 : az_ Tryz.prog 65 = some ([(0, 1), (1, 1), (2, 1), (3, 1)], 0, [.slice none 0 0, .string ⟨#[]⟩, .slice none 0 0, .int .i64 0]) := by kernel_rfl
@[go_sem] theorem Tryz.abi101 : az_ Tryz.prog 101 = some ([(0, 1), (1, 1)], 0, [.slice none 0 0, .slice none 0 0]) := by kernel_rfl
@[go_sem] theorem Tryz.abi102 : az_ Tryz.prog 102 = some ([(0, 1), (1, 1)], 0, [.slice none 0 0, .slice none 0 0]) := by kernel_rfl
@[go_sem] theorem Tryz.abi103 : az_ Tryz.prog 103 = some ([(0, 1), (1, 1), (2, 1), (3, 1), (4, 1), (5, 1)], 0, [.string ⟨#[]⟩, .string ⟨#[]⟩, .int .i64 0, .int .i64 0, .int .i64 0, .int .i64 0]) := by kernel_rfl
@[go_sem] theorem Tryz.abi104 : az_ Tryz.prog 104 = some ([(0, 1), (1, 1), (2, 1), (3, 1), (4, 1), (5, 1)], 0, [.string ⟨#[]⟩, .string ⟨#[]⟩, .int .i64 0, .int .i64 0, .int .i64 0, .int .i64 0]) := by kernel_rfl
@[go_sem] theorem Tryz.abi111 : az_ Tryz.prog 111 = some ([(0, 1), (1, 1)], 0, [.int .i64 0, .int .i64 0]) := by kernel_rfl
@[go_sem] theorem Tryz.abi112 : az_ Tryz.prog 112 = some ([(0, 1), (1, 1)], 0, [.int .i64 0, .int .i64 0]) := by kernel_rfl
@[go_sem] theorem Tryz.ais118 : aS_ Tryz.prog 118 = false := by kernel_rfl
@[go_sem] theorem Tryz.ase118 : aE_ Tryz.prog 118 = some 121 := by kernel_rfl
@[go_sem] theorem Tryz.abi120 : az_ Tryz.prog 120 = some ([(0, 1), (1, 1), (2, 1)], 0, [.int .i64 0, .string ⟨#[]⟩, .string ⟨#[]⟩]) := by kernel_rfl
@[go_sem] theorem Tryz.api121 : a5_ Tryz.prog 121 = some (3, 40) := by kernel_rfl
@[go_sem] theorem Tryz.abi121 : az_ Tryz.prog 121 = some ([(0, 1), (1, 1), (2, 1)], 0, [.int .i64 0, .string ⟨#[]⟩, .string ⟨#[]⟩]) := by kernel_rfl
@[go_sem] theorem Tryz.ais125 : aS_ Tryz.prog 125 = false := by kernel_rfl
@[go_sem] theorem Tryz.ase125 : aE_ Tryz.prog 125 = some 129 := by kernel_rfl
@[go_sem] theorem Tryz.api129 : a5_ Tryz.prog 129 = some (1, 8) := by kernel_rfl
@[go_sem] theorem Tryz.abi130 : az_ Tryz.prog 130 = some ([(0, 1), (1, 1), (2, 1), (3, 1)], 0, [.string ⟨#[]⟩, .int .i64 0, .int .i64 0, .int .i64 0]) := by kernel_rfl
@[go_sem] theorem Tryz.abi131 : az_ Tryz.prog 131 = some ([(0, 1), (1, 1), (2, 1), (3, 1)], 0, [.string ⟨#[]⟩, .int .i64 0, .int .i64 0, .int .i64 0]) := by kernel_rfl
@[go_sem] theorem Tryz.ais132 : aS_ Tryz.prog 132 = false := by kernel_rfl
@[go_sem] theorem Tryz.ase132 : aE_ Tryz.prog 132 = some 129 := by kernel_rfl
@[go_sem] theorem Tryz.abi153 : az_ Tryz.prog 153 = some ([(0, 1), (1, 1), (2, 1), (3, 1), (4, 1), (5, 1), (6, 1), (7, 1)], 0, [.int .i64 0, .int .i64 0, .int .i64 0, .int .i64 0, .int .i64 0, .bool false, .bool false, .bool false]) := by kernel_rfl
@[go_sem] theorem Tryz.abi154 : az_ Tryz.prog 154 = some ([(0, 1), (1, 1), (2, 1), (3, 1), (4, 1), (5, 1), (6, 1), (7, 1)], 0, [.int .i64 0, .int .i64 0, .int .i64 0, .int .i64 0, .int .i64 0, .bool false, .bool false, .bool false]) := by kernel_rfl
@[go_sem] theorem Tryz.ais164 : aS_ Tryz.prog 164 = false := by kernel_rfl
@[go_sem] theorem Tryz.aal164 : bG_ Tryz.prog 164 = some (3, 9) := by kernel_rfl
@[go_sem] theorem Tryz.abi164 : az_ Tryz.prog 164 = some ([], 1, [.string ⟨#[]⟩, .string ⟨#[]⟩, .string ⟨#[]⟩]) := by kernel_rfl
@[go_sem] theorem Tryz.ais188 : aS_ Tryz.prog 188 = false := by kernel_rfl
@[go_sem] theorem Tryz.ase188 : aE_ Tryz.prog 188 = some 22 := by kernel_rfl
@[go_sem] theorem Tryz.abi202 : az_ Tryz.prog 202 = some ([(0, 1), (1, 1), (2, 1), (3, 1)], 0, [.string ⟨#[]⟩, .string ⟨#[]⟩, .string ⟨#[]⟩, .bool false]) := by kernel_rfl
@[go_sem] theorem Tryz.ais207 : aS_ Tryz.prog 207 = false := by kernel_rfl
@[go_sem] theorem Tryz.ase207 : aE_ Tryz.prog 207 = some 5 := by kernel_rfl
@[go_sem] theorem Tryz.abi208 : az_ Tryz.prog 208 = some ([(0, 1), (1, 1)], 0, [.pointer none, .slice none 0 0]) := by kernel_rfl
@[go_sem] theorem Tryz.abi209 : az_ Tryz.prog 209 = some ([(0, 1), (1, 1)], 0, [.pointer none, .slice none 0 0]) := by kernel_rfl
@[go_sem] theorem Tryz.abi221 : az_ Tryz.prog 221 = some ([(0, 1), (1, 1), (2, 1)], 0, [.int .i64 0, .string ⟨#[]⟩, .string ⟨#[]⟩]) := by kernel_rfl
@[go_sem] theorem Tryz.abi249 : az_ Tryz.prog 249 = some ([(0, 1), (1, 1), (2, 1)], 0, [.string ⟨#[]⟩, .string ⟨#[]⟩, .nilIface]) := by kernel_rfl
@[go_sem] theorem Tryz.abi250 : az_ Tryz.prog 250 = some ([(0, 1), (1, 1), (2, 1)], 0, [.string ⟨#[]⟩, .string ⟨#[]⟩, .nilIface]) := by kernel_rfl
@[go_sem] theorem Tryz.ais252 : aS_ Tryz.prog 252 = false := by kernel_rfl
@[go_sem] theorem Tryz.aal252 : bG_ Tryz.prog 252 = some (24, 5) := by kernel_rfl
@[go_sem] theorem Tryz.abi252 : az_ Tryz.prog 252 = some ([], 1, [.int .u8 0, .int .u8 0, .int .u8 0, .int .u8 0, .int .u8 0, .int .u8 0, .int .u8 0, .int .u8 0, .int .u8 0, .int .u8 0, .int .u8 0, .int .u8 0, .int .u8 0, .int .u8 0, .int .u8 0, .int .u8 0, .int .u8 0, .int .u8 0, .int .u8 0, .int .u8 0, .int .u8 0, .int .u8 0, .int .u8 0, .int .u8 0]) := by kernel_rfl
@[go_sem] theorem Tryz.abi263 : az_ Tryz.prog 263 = some ([(0, 1)], 0, [.string ⟨#[]⟩]) := by kernel_rfl
@[go_sem] theorem Tryz.abi264 : az_ Tryz.prog 264 = some ([(0, 1)], 0, [.string ⟨#[]⟩]) := by kernel_rfl
@[go_sem] theorem Tryz.ais266 : aS_ Tryz.prog 266 = false := by kernel_rfl
@[go_sem] theorem Tryz.aal266 : bG_ Tryz.prog 266 = some (20, 187) := by kernel_rfl
@[go_sem] theorem Tryz.abi266 : az_ Tryz.prog 266 = some ([], 1, [.int .u64 0, .int .u64 0, .int .u64 0, .int .u64 0, .int .u64 0, .int .u64 0, .int .u64 0, .int .u64 0, .int .u64 0, .int .u64 0, .int .u64 0, .int .u64 0, .int .u64 0, .int .u64 0, .int .u64 0, .int .u64 0, .int .u64 0, .int .u64 0, .int .u64 0, .int .u64 0]) := by kernel_rfl
@[go_sem] theorem Tryz.ais267 : aS_ Tryz.prog 267 = false := by kernel_rfl
@[go_sem] theorem Tryz.aal267 : bG_ Tryz.prog 267 = some (65, 5) := by kernel_rfl
@[go_sem] theorem Tryz.ais270 : aS_ Tryz.prog 270 = false := by kernel_rfl
@[go_sem] theorem Tryz.aal270 : bG_ Tryz.prog 270 = some (256, 5) := by kernel_rfl
@[go_sem] theorem Tryz.abi271 : az_ Tryz.prog 271 = some ([(0, 1), (1, 1)], 0, [.int .u8 0, .int .u8 0]) := by kernel_rfl
@[go_sem] theorem Tryz.abi272 : az_ Tryz.prog 272 = some ([(0, 1), (1, 1)], 0, [.int .u8 0, .int .u8 0]) := by kernel_rfl
@[go_sem] theorem Tryz.ais273 : aS_ Tryz.prog 273 = false := by kernel_rfl
@[go_sem] theorem Tryz.aal273 : bG_ Tryz.prog 273 = some (16, 272) := by kernel_rfl
@[go_sem] theorem Tryz.abi273 : az_ Tryz.prog 273 = some ([], 2, [.int .u8 0, .int .u8 0, .int .u8 0, .int .u8 0, .int .u8 0, .int .u8 0, .int .u8 0, .int .u8 0, .int .u8 0, .int .u8 0, .int .u8 0, .int .u8 0, .int .u8 0, .int .u8 0, .int .u8 0, .int .u8 0, .int .u8 0, .int .u8 0, .int .u8 0, .int .u8 0, .int .u8 0, .int .u8 0, .int .u8 0, .int .u8 0, .int .u8 0, .int .u8 0, .int .u8 0, .int .u8 0, .int .u8 0, .int .u8 0, .int .u8 0, .int .u8 0]) := by kernel_rfl
@[go_sem] theorem Tryz.ais274 : aS_ Tryz.prog 274 = false := by kernel_rfl
@[go_sem] theorem Tryz.aal274 : bG_ Tryz.prog 274 = some (32, 5) := by kernel_rfl
@[go_sem] theorem Tryz.abi274 : az_ Tryz.prog 274 = some ([], 1, [.int .u8 0, .int .u8 0, .int .u8 0, .int .u8 0, .int .u8 0, .int .u8 0, .int .u8 0, .int .u8 0, .int .u8 0, .int .u8 0, .int .u8 0, .int .u8 0, .int .u8 0, .int .u8 0, .int .u8 0, .int .u8 0, .int .u8 0, .int .u8 0, .int .u8 0, .int .u8 0, .int .u8 0, .int .u8 0, .int .u8 0, .int .u8 0, .int .u8 0, .int .u8 0, .int .u8 0, .int .u8 0, .int .u8 0, .int .u8 0, .int .u8 0, .int .u8 0]) := by kernel_rfl
@[go_sem] theorem Tryz.ais275 : aS_ Tryz.prog 275 = false := by kernel_rfl
@[go_sem] theorem Tryz.aal275 : bG_ Tryz.prog 275 = some (64, 5) := by kernel_rfl
@[go_sem] theorem Tryz.abi275 : az_ Tryz.prog 275 = some ([], 1, [.int .u8 0, .int .u8 0, .int .u8 0, .int .u8 0, .int .u8 0, .int .u8 0, .int .u8 0, .int .u8 0, .int .u8 0, .int .u8 0, .int .u8 0, .int .u8 0, .int .u8 0, .int .u8 0, .int .u8 0, .int .u8 0, .int .u8 0, .int .u8 0, .int .u8 0, .int .u8 0, .int .u8 0, .int .u8 0, .int .u8 0, .int .u8 0, .int .u8 0, .int .u8 0, .int .u8 0, .int .u8 0, .int .u8 0, .int .u8 0, .int .u8 0, .int .u8 0, .int .u8 0, .int .u8 0, .int .u8 0, .int .u8 0, .int .u8 0, .int .u8 0, .int .u8 0, .int .u8 0, .int .u8 0, .int .u8 0, .int .u8 0, .int .u8 0, .int .u8 0, .int .u8 0, .int .u8 0, .int .u8 0, .int .u8 0, .int .u8 0, .int .u8 0, .int .u8 0, .int .u8 0, .int .u8 0, .int .u8 0, .int .u8 0, .int .u8 0, .int .u8 0, .int .u8 0, .int .u8 0, .int .u8 0, .int .u8 0, .int .u8 0, .int .u8 0]) := by kernel_rfl
@[go_sem] theorem Tryz.abi276 : az_ Tryz.prog 276 = some ([(0, 1), (1, 1), (2, 1), (3, 1)], 0, [.pointer none, .pointer none, .pointer none, .string ⟨#[]⟩]) := by kernel_rfl
@[go_sem] theorem Tryz.abi277 : az_ Tryz.prog 277 = some ([(0, 1), (1, 1), (2, 1), (3, 1)], 0, [.pointer none, .pointer none, .pointer none, .string ⟨#[]⟩]) := by kernel_rfl
@[go_sem] theorem Tryz.ais278 : aS_ Tryz.prog 278 = false := by kernel_rfl
@[go_sem] theorem Tryz.aal278 : bG_ Tryz.prog 278 = some (0, 16) := by kernel_rfl
@[go_sem] theorem Tryz.abi278 : az_ Tryz.prog 278 = some ([], 1, []) := by kernel_rfl
@[go_sem] theorem Tryz.abi279 : az_ Tryz.prog 279 = some ([(0, 0)], 0, []) := by kernel_rfl
@[go_sem] theorem Tryz.abi280 : az_ Tryz.prog 280 = some ([(0, 0)], 0, []) := by kernel_rfl
@[go_sem] theorem Tryz.abi286 : az_ Tryz.prog 286 = some ([(0, 1), (1, 1), (2, 1), (3, 1), (4, 1), (5, 1), (6, 1), (7, 1), (8, 1), (9, 1), (10, 1)], 0, [.int .u64 0, .int .u64 0, .int .u32 0, .int .u8 0, .int .u8 0, .int .u8 0, .int .u8 0, .nilFunc, .pointer none, .int .i32 0, .int .i32 0]) := by kernel_rfl
@[go_sem] theorem Tryz.abi287 : az_ Tryz.prog 287 = some ([(0, 1), (1, 1), (2, 1), (3, 1), (4, 1), (5, 1), (6, 1), (7, 1), (8, 1), (9, 1), (10, 1)], 0, [.int .u64 0, .int .u64 0, .int .u32 0, .int .u8 0, .int .u8 0, .int .u8 0, .int .u8 0, .nilFunc, .pointer none, .int .i32 0, .int .i32 0]) := by kernel_rfl
@[go_sem] theorem Tryz.aeq23 (σ : Store) (c : Bool) (a0 b0 : ByteArray) (a1 b1 : ByteArray) (a2 b2 : ByteArray) (a3 b3 : Bool) : abin Tryz.prog σ .eql 23 c (.agg [.lit (.string a0), .lit (.string a1), .lit (.string a2), .lit (.bool a3)]) (.agg [.lit (.string b0), .lit (.string b1), .lit (.string b2), .lit (.bool b3)]) = some (.lit (.bool ((decide (a0 = b0)) && ((decide (a1 = b1)) && ((decide (a2 = b2)) && ((a3 == b3) && true)))))) := by kernel_rfl
@[go_sem] theorem Tryz.aeqn23 (σ : Store) (c : Bool) (a0 b0 : ByteArray) (a1 b1 : ByteArray) (a2 b2 : ByteArray) (a3 b3 : Bool) : abin Tryz.prog σ .neq 23 c (.agg [.lit (.string a0), .lit (.string a1), .lit (.string a2), .lit (.bool a3)]) (.agg [.lit (.string b0), .lit (.string b1), .lit (.string b2), .lit (.bool b3)]) = some (.lit (.bool !((decide (a0 = b0)) && ((decide (a1 = b1)) && ((decide (a2 = b2)) && ((a3 == b3) && true)))))) := by kernel_rfl
@[go_sem] theorem Tryz.aeq24 (σ : Store) (c : Bool) (a0 b0 : ByteArray) (a1 b1 : ByteArray) (a2 b2 : ByteArray) (a3 b3 : Bool) : abin Tryz.prog σ .eql 24 c (.agg [.lit (.string a0), .lit (.string a1), .lit (.string a2), .lit (.bool a3)]) (.agg [.lit (.string b0), .lit (.string b1), .lit (.string b2), .lit (.bool b3)]) = some (.lit (.bool ((decide (a0 = b0)) && ((decide (a1 = b1)) && ((decide (a2 = b2)) && ((a3 == b3) && true)))))) := by kernel_rfl
@[go_sem] theorem Tryz.aeqn24 (σ : Store) (c : Bool) (a0 b0 : ByteArray) (a1 b1 : ByteArray) (a2 b2 : ByteArray) (a3 b3 : Bool) : abin Tryz.prog σ .neq 24 c (.agg [.lit (.string a0), .lit (.string a1), .lit (.string a2), .lit (.bool a3)]) (.agg [.lit (.string b0), .lit (.string b1), .lit (.string b2), .lit (.bool b3)]) = some (.lit (.bool !((decide (a0 = b0)) && ((decide (a1 = b1)) && ((decide (a2 = b2)) && ((a3 == b3) && true)))))) := by kernel_rfl
@[go_sem] theorem Tryz.aeq25 (σ : Store) (c : Bool) (a0 b0 : Int) (a1 b1 : ByteArray) (a2 b2 : ByteArray) (a3 b3 : ByteArray) (a4 b4 : ByteArray) (a5 b5 : Int) (a6 b6 : ByteArray) (a7 b7 : ByteArray) (a8 b8 : ByteArray) (a9 b9 : Bool) : abin Tryz.prog σ .eql 25 c (.agg [.lit (.int .i64 a0), .lit (.string a1), .lit (.string a2), .lit (.string a3), .lit (.string a4), .lit (.int .i64 a5), .lit (.string a6), .lit (.string a7), .lit (.string a8), .lit (.bool a9)]) (.agg [.lit (.int .i64 b0), .lit (.string b1), .lit (.string b2), .lit (.string b3), .lit (.string b4), .lit (.int .i64 b5), .lit (.string b6), .lit (.string b7), .lit (.string b8), .lit (.bool b9)]) = some (.lit (.bool ((decide (a0 = b0)) && ((decide (a1 = b1)) && ((decide (a2 = b2)) && ((decide (a3 = b3)) && ((decide (a4 = b4)) && ((decide (a5 = b5)) && (((decide (a6 = b6)) && ((decide (a7 = b7)) && ((decide (a8 = b8)) && ((a9 == b9) && true)))) && true))))))))) := by kernel_rfl
@[go_sem] theorem Tryz.aeqn25 (σ : Store) (c : Bool) (a0 b0 : Int) (a1 b1 : ByteArray) (a2 b2 : ByteArray) (a3 b3 : ByteArray) (a4 b4 : ByteArray) (a5 b5 : Int) (a6 b6 : ByteArray) (a7 b7 : ByteArray) (a8 b8 : ByteArray) (a9 b9 : Bool) : abin Tryz.prog σ .neq 25 c (.agg [.lit (.int .i64 a0), .lit (.string a1), .lit (.string a2), .lit (.string a3), .lit (.string a4), .lit (.int .i64 a5), .lit (.string a6), .lit (.string a7), .lit (.string a8), .lit (.bool a9)]) (.agg [.lit (.int .i64 b0), .lit (.string b1), .lit (.string b2), .lit (.string b3), .lit (.string b4), .lit (.int .i64 b5), .lit (.string b6), .lit (.string b7), .lit (.string b8), .lit (.bool b9)]) = some (.lit (.bool !((decide (a0 = b0)) && ((decide (a1 = b1)) && ((decide (a2 = b2)) && ((decide (a3 = b3)) && ((decide (a4 = b4)) && ((decide (a5 = b5)) && (((decide (a6 = b6)) && ((decide (a7 = b7)) && ((decide (a8 = b8)) && ((a9 == b9) && true)))) && true))))))))) := by kernel_rfl
@[go_sem] theorem Tryz.aeq26 (σ : Store) (c : Bool) (a0 b0 : Int) (a1 b1 : ByteArray) (a2 b2 : ByteArray) (a3 b3 : ByteArray) (a4 b4 : ByteArray) (a5 b5 : Int) (a6 b6 : ByteArray) (a7 b7 : ByteArray) (a8 b8 : ByteArray) (a9 b9 : Bool) : abin Tryz.prog σ .eql 26 c (.agg [.lit (.int .i64 a0), .lit (.string a1), .lit (.string a2), .lit (.string a3), .lit (.string a4), .lit (.int .i64 a5), .lit (.string a6), .lit (.string a7), .lit (.string a8), .lit (.bool a9)]) (.agg [.lit (.int .i64 b0), .lit (.string b1), .lit (.string b2), .lit (.string b3), .lit (.string b4), .lit (.int .i64 b5), .lit (.string b6), .lit (.string b7), .lit (.string b8), .lit (.bool b9)]) = some (.lit (.bool ((decide (a0 = b0)) && ((decide (a1 = b1)) && ((decide (a2 = b2)) && ((decide (a3 = b3)) && ((decide (a4 = b4)) && ((decide (a5 = b5)) && (((decide (a6 = b6)) && ((decide (a7 = b7)) && ((decide (a8 = b8)) && ((a9 == b9) && true)))) && true))))))))) := by kernel_rfl
@[go_sem] theorem Tryz.aeqn26 (σ : Store) (c : Bool) (a0 b0 : Int) (a1 b1 : ByteArray) (a2 b2 : ByteArray) (a3 b3 : ByteArray) (a4 b4 : ByteArray) (a5 b5 : Int) (a6 b6 : ByteArray) (a7 b7 : ByteArray) (a8 b8 : ByteArray) (a9 b9 : Bool) : abin Tryz.prog σ .neq 26 c (.agg [.lit (.int .i64 a0), .lit (.string a1), .lit (.string a2), .lit (.string a3), .lit (.string a4), .lit (.int .i64 a5), .lit (.string a6), .lit (.string a7), .lit (.string a8), .lit (.bool a9)]) (.agg [.lit (.int .i64 b0), .lit (.string b1), .lit (.string b2), .lit (.string b3), .lit (.string b4), .lit (.int .i64 b5), .lit (.string b6), .lit (.string b7), .lit (.string b8), .lit (.bool b9)]) = some (.lit (.bool !((decide (a0 = b0)) && ((decide (a1 = b1)) && ((decide (a2 = b2)) && ((decide (a3 = b3)) && ((decide (a4 = b4)) && ((decide (a5 = b5)) && (((decide (a6 = b6)) && ((decide (a7 = b7)) && ((decide (a8 = b8)) && ((a9 == b9) && true)))) && true))))))))) := by kernel_rfl
@[go_sem] theorem Tryz.aeq42 (σ : Store) (c : Bool) (a0 b0 : Int) (a1 b1 : ByteArray) (a2 b2 : ByteArray) : abin Tryz.prog σ .eql 42 c (.agg [.lit (.int .i64 a0), .lit (.string a1), .lit (.string a2)]) (.agg [.lit (.int .i64 b0), .lit (.string b1), .lit (.string b2)]) = some (.lit (.bool ((decide (a0 = b0)) && ((decide (a1 = b1)) && ((decide (a2 = b2)) && true))))) := by kernel_rfl
@[go_sem] theorem Tryz.aeqn42 (σ : Store) (c : Bool) (a0 b0 : Int) (a1 b1 : ByteArray) (a2 b2 : ByteArray) : abin Tryz.prog σ .neq 42 c (.agg [.lit (.int .i64 a0), .lit (.string a1), .lit (.string a2)]) (.agg [.lit (.int .i64 b0), .lit (.string b1), .lit (.string b2)]) = some (.lit (.bool !((decide (a0 = b0)) && ((decide (a1 = b1)) && ((decide (a2 = b2)) && true))))) := by kernel_rfl
@[go_sem] theorem Tryz.aeq43 (σ : Store) (c : Bool) (a0 b0 : Int) (a1 b1 : ByteArray) (a2 b2 : ByteArray) : abin Tryz.prog σ .eql 43 c (.agg [.lit (.int .i64 a0), .lit (.string a1), .lit (.string a2)]) (.agg [.lit (.int .i64 b0), .lit (.string b1), .lit (.string b2)]) = some (.lit (.bool ((decide (a0 = b0)) && ((decide (a1 = b1)) && ((decide (a2 = b2)) && true))))) := by kernel_rfl
@[go_sem] theorem Tryz.aeqn43 (σ : Store) (c : Bool) (a0 b0 : Int) (a1 b1 : ByteArray) (a2 b2 : ByteArray) : abin Tryz.prog σ .neq 43 c (.agg [.lit (.int .i64 a0), .lit (.string a1), .lit (.string a2)]) (.agg [.lit (.int .i64 b0), .lit (.string b1), .lit (.string b2)]) = some (.lit (.bool !((decide (a0 = b0)) && ((decide (a1 = b1)) && ((decide (a2 = b2)) && true))))) := by kernel_rfl
@[go_sem] theorem Tryz.aeq44 (σ : Store) (c : Bool) (a0 b0 : ByteArray) (a1 b1 : Int) (a2 b2 : ByteArray) (a3 b3 : ByteArray) : abin Tryz.prog σ .eql 44 c (.agg [.lit (.string a0), .lit (.int .i64 a1), .lit (.string a2), .lit (.string a3)]) (.agg [.lit (.string b0), .lit (.int .i64 b1), .lit (.string b2), .lit (.string b3)]) = some (.lit (.bool ((decide (a0 = b0)) && (((decide (a1 = b1)) && ((decide (a2 = b2)) && ((decide (a3 = b3)) && true))) && true)))) := by kernel_rfl
@[go_sem] theorem Tryz.aeqn44 (σ : Store) (c : Bool) (a0 b0 : ByteArray) (a1 b1 : Int) (a2 b2 : ByteArray) (a3 b3 : ByteArray) : abin Tryz.prog σ .neq 44 c (.agg [.lit (.string a0), .lit (.int .i64 a1), .lit (.string a2), .lit (.string a3)]) (.agg [.lit (.string b0), .lit (.int .i64 b1), .lit (.string b2), .lit (.string b3)]) = some (.lit (.bool !((decide (a0 = b0)) && (((decide (a1 = b1)) && ((decide (a2 = b2)) && ((decide (a3 = b3)) && true))) && true)))) := by kernel_rfl
@[go_sem] theorem Tryz.aeq45 (σ : Store) (c : Bool) (a0 b0 : ByteArray) (a1 b1 : Int) (a2 b2 : ByteArray) (a3 b3 : ByteArray) : abin Tryz.prog σ .eql 45 c (.agg [.lit (.string a0), .lit (.int .i64 a1), .lit (.string a2), .lit (.string a3)]) (.agg [.lit (.string b0), .lit (.int .i64 b1), .lit (.string b2), .lit (.string b3)]) = some (.lit (.bool ((decide (a0 = b0)) && (((decide (a1 = b1)) && ((decide (a2 = b2)) && ((decide (a3 = b3)) && true))) && true)))) := by kernel_rfl
@[go_sem] theorem Tryz.aeqn45 (σ : Store) (c : Bool) (a0 b0 : ByteArray) (a1 b1 : Int) (a2 b2 : ByteArray) (a3 b3 : ByteArray) : abin Tryz.prog σ .neq 45 c (.agg [.lit (.string a0), .lit (.int .i64 a1), .lit (.string a2), .lit (.string a3)]) (.agg [.lit (.string b0), .lit (.int .i64 b1), .lit (.string b2), .lit (.string b3)]) = some (.lit (.bool !((decide (a0 = b0)) && (((decide (a1 = b1)) && ((decide (a2 = b2)) && ((decide (a3 = b3)) && true))) && true)))) := by kernel_rfl
@[go_sem] theorem Tryz.aeq57 (σ : Store) (c : Bool) (a0 b0 : Int) (a1 b1 : ByteArray) : abin Tryz.prog σ .eql 57 c (.agg [.lit (.int .i64 a0), .lit (.string a1)]) (.agg [.lit (.int .i64 b0), .lit (.string b1)]) = some (.lit (.bool ((decide (a0 = b0)) && ((decide (a1 = b1)) && true)))) := by kernel_rfl
@[go_sem] theorem Tryz.aeqn57 (σ : Store) (c : Bool) (a0 b0 : Int) (a1 b1 : ByteArray) : abin Tryz.prog σ .neq 57 c (.agg [.lit (.int .i64 a0), .lit (.string a1)]) (.agg [.lit (.int .i64 b0), .lit (.string b1)]) = some (.lit (.bool !((decide (a0 = b0)) && ((decide (a1 = b1)) && true)))) := by kernel_rfl
@[go_sem] theorem Tryz.aeq58 (σ : Store) (c : Bool) (a0 b0 : Int) (a1 b1 : ByteArray) : abin Tryz.prog σ .eql 58 c (.agg [.lit (.int .i64 a0), .lit (.string a1)]) (.agg [.lit (.int .i64 b0), .lit (.string b1)]) = some (.lit (.bool ((decide (a0 = b0)) && ((decide (a1 = b1)) && true)))) := by kernel_rfl
@[go_sem] theorem Tryz.aeqn58 (σ : Store) (c : Bool) (a0 b0 : Int) (a1 b1 : ByteArray) : abin Tryz.prog σ .neq 58 c (.agg [.lit (.int .i64 a0), .lit (.string a1)]) (.agg [.lit (.int .i64 b0), .lit (.string b1)]) = some (.lit (.bool !((decide (a0 = b0)) && ((decide (a1 = b1)) && true)))) := by kernel_rfl
@[go_sem] theorem Tryz.aeq103 (σ : Store) (c : Bool) (a0 b0 : ByteArray) (a1 b1 : ByteArray) (a2 b2 : Int) (a3 b3 : Int) (a4 b4 : Int) (a5 b5 : Int) : abin Tryz.prog σ .eql 103 c (.agg [.lit (.string a0), .lit (.string a1), .lit (.int .i64 a2), .lit (.int .i64 a3), .lit (.int .i64 a4), .lit (.int .i64 a5)]) (.agg [.lit (.string b0), .lit (.string b1), .lit (.int .i64 b2), .lit (.int .i64 b3), .lit (.int .i64 b4), .lit (.int .i64 b5)]) = some (.lit (.bool ((decide (a0 = b0)) && ((decide (a1 = b1)) && ((decide (a2 = b2)) && ((decide (a3 = b3)) && ((decide (a4 = b4)) && ((decide (a5 = b5)) && true)))))))) := by kernel_rfl
@[go_sem] theorem Tryz.aeqn103 (σ : Store) (c : Bool) (a0 b0 : ByteArray) (a1 b1 : ByteArray) (a2 b2 : Int) (a3 b3 : Int) (a4 b4 : Int) (a5 b5 : Int) : abin Tryz.prog σ .neq 103 c (.agg [.lit (.string a0), .lit (.string a1), .lit (.int .i64 a2), .lit (.int .i64 a3), .lit (.int .i64 a4), .lit (.int .i64 a5)]) (.agg [.lit (.string b0), .lit (.string b1), .lit (.int .i64 b2), .lit (.int .i64 b3), .lit (.int .i64 b4), .lit (.int .i64 b5)]) = some (.lit (.bool !((decide (a0 = b0)) && ((decide (a1 = b1)) && ((decide (a2 = b2)) && ((decide (a3 = b3)) && ((decide (a4 = b4)) && ((decide (a5 = b5)) && true)))))))) := by kernel_rfl
@[go_sem] theorem Tryz.aeq104 (σ : Store) (c : Bool) (a0 b0 : ByteArray) (a1 b1 : ByteArray) (a2 b2 : Int) (a3 b3 : Int) (a4 b4 : Int) (a5 b5 : Int) : abin Tryz.prog σ .eql 104 c (.agg [.lit (.string a0), .lit (.string a1), .lit (.int .i64 a2), .lit (.int .i64 a3), .lit (.int .i64 a4), .lit (.int .i64 a5)]) (.agg [.lit (.string b0), .lit (.string b1), .lit (.int .i64 b2), .lit (.int .i64 b3), .lit (.int .i64 b4), .lit (.int .i64 b5)]) = some (.lit (.bool ((decide (a0 = b0)) && ((decide (a1 = b1)) && ((decide (a2 = b2)) && ((decide (a3 = b3)) && ((decide (a4 = b4)) && ((decide (a5 = b5)) && true)))))))) := by kernel_rfl
@[go_sem] theorem Tryz.aeqn104 (σ : Store) (c : Bool) (a0 b0 : ByteArray) (a1 b1 : ByteArray) (a2 b2 : Int) (a3 b3 : Int) (a4 b4 : Int) (a5 b5 : Int) : abin Tryz.prog σ .neq 104 c (.agg [.lit (.string a0), .lit (.string a1), .lit (.int .i64 a2), .lit (.int .i64 a3), .lit (.int .i64 a4), .lit (.int .i64 a5)]) (.agg [.lit (.string b0), .lit (.string b1), .lit (.int .i64 b2), .lit (.int .i64 b3), .lit (.int .i64 b4), .lit (.int .i64 b5)]) = some (.lit (.bool !((decide (a0 = b0)) && ((decide (a1 = b1)) && ((decide (a2 = b2)) && ((decide (a3 = b3)) && ((decide (a4 = b4)) && ((decide (a5 = b5)) && true)))))))) := by kernel_rfl
@[go_sem] theorem Tryz.aeq111 (σ : Store) (c : Bool) (a0 b0 : Int) (a1 b1 : Int) : abin Tryz.prog σ .eql 111 c (.agg [.lit (.int .i64 a0), .lit (.int .i64 a1)]) (.agg [.lit (.int .i64 b0), .lit (.int .i64 b1)]) = some (.lit (.bool ((decide (a0 = b0)) && ((decide (a1 = b1)) && true)))) := by kernel_rfl
@[go_sem] theorem Tryz.aeqn111 (σ : Store) (c : Bool) (a0 b0 : Int) (a1 b1 : Int) : abin Tryz.prog σ .neq 111 c (.agg [.lit (.int .i64 a0), .lit (.int .i64 a1)]) (.agg [.lit (.int .i64 b0), .lit (.int .i64 b1)]) = some (.lit (.bool !((decide (a0 = b0)) && ((decide (a1 = b1)) && true)))) := by kernel_rfl
@[go_sem] theorem Tryz.aeq112 (σ : Store) (c : Bool) (a0 b0 : Int) (a1 b1 : Int) : abin Tryz.prog σ .eql 112 c (.agg [.lit (.int .i64 a0), .lit (.int .i64 a1)]) (.agg [.lit (.int .i64 b0), .lit (.int .i64 b1)]) = some (.lit (.bool ((decide (a0 = b0)) && ((decide (a1 = b1)) && true)))) := by kernel_rfl
@[go_sem] theorem Tryz.aeqn112 (σ : Store) (c : Bool) (a0 b0 : Int) (a1 b1 : Int) : abin Tryz.prog σ .neq 112 c (.agg [.lit (.int .i64 a0), .lit (.int .i64 a1)]) (.agg [.lit (.int .i64 b0), .lit (.int .i64 b1)]) = some (.lit (.bool !((decide (a0 = b0)) && ((decide (a1 = b1)) && true)))) := by kernel_rfl
@[go_sem] theorem Tryz.aeq120 (σ : Store) (c : Bool) (a0 b0 : Int) (a1 b1 : ByteArray) (a2 b2 : ByteArray) : abin Tryz.prog σ .eql 120 c (.agg [.lit (.int .i64 a0), .lit (.string a1), .lit (.string a2)]) (.agg [.lit (.int .i64 b0), .lit (.string b1), .lit (.string b2)]) = some (.lit (.bool ((decide (a0 = b0)) && ((decide (a1 = b1)) && ((decide (a2 = b2)) && true))))) := by kernel_rfl
@[go_sem] theorem Tryz.aeqn120 (σ : Store) (c : Bool) (a0 b0 : Int) (a1 b1 : ByteArray) (a2 b2 : ByteArray) : abin Tryz.prog σ .neq 120 c (.agg [.lit (.int .i64 a0), .lit (.string a1), .lit (.string a2)]) (.agg [.lit (.int .i64 b0), .lit (.string b1), .lit (.string b2)]) = some (.lit (.bool !((decide (a0 = b0)) && ((decide (a1 = b1)) && ((decide (a2 = b2)) && true))))) := by kernel_rfl
@[go_sem] theorem Tryz.aeq121 (σ : Store) (c : Bool) (a0 b0 : Int) (a1 b1 : ByteArray) (a2 b2 : ByteArray) : abin Tryz.prog σ .eql 121 c (.agg [.lit (.int .i64 a0), .lit (.string a1), .lit (.string a2)]) (.agg [.lit (.int .i64 b0), .lit (.string b1), .lit (.string b2)]) = some (.lit (.bool ((decide (a0 = b0)) && ((decide (a1 = b1)) && ((decide (a2 = b2)) && true))))) := by kernel_rfl
@[go_sem] theorem Tryz.aeqn121 (σ : Store) (c : Bool) (a0 b0 : Int) (a1 b1 : ByteArray) (a2 b2 : ByteArray) : abin Tryz.prog σ .neq 121 c (.agg [.lit (.int .i64 a0), .lit (.string a1), .lit (.string a2)]) (.agg [.lit (.int .i64 b0), .lit (.string b1), .lit (.string b2)]) = some (.lit (.bool !((decide (a0 = b0)) && ((decide (a1 = b1)) && ((decide (a2 = b2)) && true))))) := by kernel_rfl
@[go_sem] theorem Tryz.aeq130 (σ : Store) (c : Bool) (a0 b0 : ByteArray) (a1 b1 : Int) (a2 b2 : Int) (a3 b3 : Int) : abin Tryz.prog σ .eql 130 c (.agg [.lit (.string a0), .lit (.int .i64 a1), .lit (.int .i64 a2), .lit (.int .i64 a3)]) (.agg [.lit (.string b0), .lit (.int .i64 b1), .lit (.int .i64 b2), .lit (.int .i64 b3)]) = some (.lit (.bool ((decide (a0 = b0)) && ((decide (a1 = b1)) && ((decide (a2 = b2)) && ((decide (a3 = b3)) && true)))))) := by kernel_rfl
@[go_sem] theorem Tryz.aeqn130 (σ : Store) (c : Bool) (a0 b0 : ByteArray) (a1 b1 : Int) (a2 b2 : Int) (a3 b3 : Int) : abin Tryz.prog σ .neq 130 c (.agg [.lit (.string a0), .lit (.int .i64 a1), .lit (.int .i64 a2), .lit (.int .i64 a3)]) (.agg [.lit (.string b0), .lit (.int .i64 b1), .lit (.int .i64 b2), .lit (.int .i64 b3)]) = some (.lit (.bool !((decide (a0 = b0)) && ((decide (a1 = b1)) && ((decide (a2 = b2)) && ((decide (a3 = b3)) && true)))))) := by kernel_rfl
@[go_sem] theorem Tryz.aeq131 (σ : Store) (c : Bool) (a0 b0 : ByteArray) (a1 b1 : Int) (a2 b2 : Int) (a3 b3 : Int) : abin Tryz.prog σ .eql 131 c (.agg [.lit (.string a0), .lit (.int .i64 a1), .lit (.int .i64 a2), .lit (.int .i64 a3)]) (.agg [.lit (.string b0), .lit (.int .i64 b1), .lit (.int .i64 b2), .lit (.int .i64 b3)]) = some (.lit (.bool ((decide (a0 = b0)) && ((decide (a1 = b1)) && ((decide (a2 = b2)) && ((decide (a3 = b3)) && true)))))) := by kernel_rfl
@[go_sem] theorem Tryz.aeqn131 (σ : Store) (c : Bool) (a0 b0 : ByteArray) (a1 b1 : Int) (a2 b2 : Int) (a3 b3 : Int) : abin Tryz.prog σ .neq 131 c (.agg [.lit (.string a0), .lit (.int .i64 a1), .lit (.int .i64 a2), .lit (.int .i64 a3)]) (.agg [.lit (.string b0), .lit (.int .i64 b1), .lit (.int .i64 b2), .lit (.int .i64 b3)]) = some (.lit (.bool !((decide (a0 = b0)) && ((decide (a1 = b1)) && ((decide (a2 = b2)) && ((decide (a3 = b3)) && true)))))) := by kernel_rfl
@[go_sem] theorem Tryz.aeq153 (σ : Store) (c : Bool) (a0 b0 : Int) (a1 b1 : Int) (a2 b2 : Int) (a3 b3 : Int) (a4 b4 : Int) (a5 b5 : Bool) (a6 b6 : Bool) (a7 b7 : Bool) : abin Tryz.prog σ .eql 153 c (.agg [.lit (.int .i64 a0), .lit (.int .i64 a1), .lit (.int .i64 a2), .lit (.int .i64 a3), .lit (.int .i64 a4), .lit (.bool a5), .lit (.bool a6), .lit (.bool a7)]) (.agg [.lit (.int .i64 b0), .lit (.int .i64 b1), .lit (.int .i64 b2), .lit (.int .i64 b3), .lit (.int .i64 b4), .lit (.bool b5), .lit (.bool b6), .lit (.bool b7)]) = some (.lit (.bool ((decide (a0 = b0)) && ((decide (a1 = b1)) && ((decide (a2 = b2)) && ((decide (a3 = b3)) && ((decide (a4 = b4)) && ((a5 == b5) && ((a6 == b6) && ((a7 == b7) && true)))))))))) := by kernel_rfl
@[go_sem] theorem Tryz.aeqn153 (σ : Store) (c : Bool) (a0 b0 : Int) (a1 b1 : Int) (a2 b2 : Int) (a3 b3 : Int) (a4 b4 : Int) (a5 b5 : Bool) (a6 b6 : Bool) (a7 b7 : Bool) : abin Tryz.prog σ .neq 153 c (.agg [.lit (.int .i64 a0), .lit (.int .i64 a1), .lit (.int .i64 a2), .lit (.int .i64 a3), .lit (.int .i64 a4), .lit (.bool a5), .lit (.bool a6), .lit (.bool a7)]) (.agg [.lit (.int .i64 b0), .lit (.int .i64 b1), .lit (.int .i64 b2), .lit (.int .i64 b3), .lit (.int .i64 b4), .lit (.bool b5), .lit (.bool b6), .lit (.bool b7)]) = some (.lit (.bool !((decide (a0 = b0)) && ((decide (a1 = b1)) && ((decide (a2 = b2)) && ((decide (a3 = b3)) && ((decide (a4 = b4)) && ((a5 == b5) && ((a6 == b6) && ((a7 == b7) && true)))))))))) := by kernel_rfl
@[go_sem] theorem Tryz.aeq154 (σ : Store) (c : Bool) (a0 b0 : Int) (a1 b1 : Int) (a2 b2 : Int) (a3 b3 : Int) (a4 b4 : Int) (a5 b5 : Bool) (a6 b6 : Bool) (a7 b7 : Bool) : abin Tryz.prog σ .eql 154 c (.agg [.lit (.int .i64 a0), .lit (.int .i64 a1), .lit (.int .i64 a2), .lit (.int .i64 a3), .lit (.int .i64 a4), .lit (.bool a5), .lit (.bool a6), .lit (.bool a7)]) (.agg [.lit (.int .i64 b0), .lit (.int .i64 b1), .lit (.int .i64 b2), .lit (.int .i64 b3), .lit (.int .i64 b4), .lit (.bool b5), .lit (.bool b6), .lit (.bool b7)]) = some (.lit (.bool ((decide (a0 = b0)) && ((decide (a1 = b1)) && ((decide (a2 = b2)) && ((decide (a3 = b3)) && ((decide (a4 = b4)) && ((a5 == b5) && ((a6 == b6) && ((a7 == b7) && true)))))))))) := by kernel_rfl
@[go_sem] theorem Tryz.aeqn154 (σ : Store) (c : Bool) (a0 b0 : Int) (a1 b1 : Int) (a2 b2 : Int) (a3 b3 : Int) (a4 b4 : Int) (a5 b5 : Bool) (a6 b6 : Bool) (a7 b7 : Bool) : abin Tryz.prog σ .neq 154 c (.agg [.lit (.int .i64 a0), .lit (.int .i64 a1), .lit (.int .i64 a2), .lit (.int .i64 a3), .lit (.int .i64 a4), .lit (.bool a5), .lit (.bool a6), .lit (.bool a7)]) (.agg [.lit (.int .i64 b0), .lit (.int .i64 b1), .lit (.int .i64 b2), .lit (.int .i64 b3), .lit (.int .i64 b4), .lit (.bool b5), .lit (.bool b6), .lit (.bool b7)]) = some (.lit (.bool !((decide (a0 = b0)) && ((decide (a1 = b1)) && ((decide (a2 = b2)) && ((decide (a3 = b3)) && ((decide (a4 = b4)) && ((a5 == b5) && ((a6 == b6) && ((a7 == b7) && true)))))))))) := by kernel_rfl
@[go_sem] theorem Tryz.aeq202 (σ : Store) (c : Bool) (a0 b0 : ByteArray) (a1 b1 : ByteArray) (a2 b2 : ByteArray) (a3 b3 : Bool) : abin Tryz.prog σ .eql 202 c (.agg [.lit (.string a0), .lit (.string a1), .lit (.string a2), .lit (.bool a3)]) (.agg [.lit (.string b0), .lit (.string b1), .lit (.string b2), .lit (.bool b3)]) = some (.lit (.bool ((decide (a0 = b0)) && ((decide (a1 = b1)) && ((decide (a2 = b2)) && ((a3 == b3) && true)))))) := by kernel_rfl
@[go_sem] theorem Tryz.aeqn202 (σ : Store) (c : Bool) (a0 b0 : ByteArray) (a1 b1 : ByteArray) (a2 b2 : ByteArray) (a3 b3 : Bool) : abin Tryz.prog σ .neq 202 c (.agg [.lit (.string a0), .lit (.string a1), .lit (.string a2), .lit (.bool a3)]) (.agg [.lit (.string b0), .lit (.string b1), .lit (.string b2), .lit (.bool b3)]) = some (.lit (.bool !((decide (a0 = b0)) && ((decide (a1 = b1)) && ((decide (a2 = b2)) && ((a3 == b3) && true)))))) := by kernel_rfl
@[go_sem] theorem Tryz.aeq221 (σ : Store) (c : Bool) (a0 b0 : Int) (a1 b1 : ByteArray) (a2 b2 : ByteArray) : abin Tryz.prog σ .eql 221 c (.agg [.lit (.int .i64 a0), .lit (.string a1), .lit (.string a2)]) (.agg [.lit (.int .i64 b0), .lit (.string b1), .lit (.string b2)]) = some (.lit (.bool ((decide (a0 = b0)) && ((decide (a1 = b1)) && ((decide (a2 = b2)) && true))))) := by kernel_rfl
@[go_sem] theorem Tryz.aeqn221 (σ : Store) (c : Bool) (a0 b0 : Int) (a1 b1 : ByteArray) (a2 b2 : ByteArray) : abin Tryz.prog σ .neq 221 c (.agg [.lit (.int .i64 a0), .lit (.string a1), .lit (.string a2)]) (.agg [.lit (.int .i64 b0), .lit (.string b1), .lit (.string b2)]) = some (.lit (.bool !((decide (a0 = b0)) && ((decide (a1 = b1)) && ((decide (a2 = b2)) && true))))) := by kernel_rfl
@[go_sem] theorem Tryz.aeq263 (σ : Store) (c : Bool) (a0 b0 : ByteArray) : abin Tryz.prog σ .eql 263 c (.agg [.lit (.string a0)]) (.agg [.lit (.string b0)]) = some (.lit (.bool ((decide (a0 = b0)) && true))) := by kernel_rfl
@[go_sem] theorem Tryz.aeqn263 (σ : Store) (c : Bool) (a0 b0 : ByteArray) : abin Tryz.prog σ .neq 263 c (.agg [.lit (.string a0)]) (.agg [.lit (.string b0)]) = some (.lit (.bool !((decide (a0 = b0)) && true))) := by kernel_rfl
@[go_sem] theorem Tryz.aeq264 (σ : Store) (c : Bool) (a0 b0 : ByteArray) : abin Tryz.prog σ .eql 264 c (.agg [.lit (.string a0)]) (.agg [.lit (.string b0)]) = some (.lit (.bool ((decide (a0 = b0)) && true))) := by kernel_rfl
@[go_sem] theorem Tryz.aeqn264 (σ : Store) (c : Bool) (a0 b0 : ByteArray) : abin Tryz.prog σ .neq 264 c (.agg [.lit (.string a0)]) (.agg [.lit (.string b0)]) = some (.lit (.bool !((decide (a0 = b0)) && true))) := by kernel_rfl
@[go_sem] theorem Tryz.aeq271 (σ : Store) (c : Bool) (a0 b0 : Int) (a1 b1 : Int) : abin Tryz.prog σ .eql 271 c (.agg [.lit (.int .u8 a0), .lit (.int .u8 a1)]) (.agg [.lit (.int .u8 b0), .lit (.int .u8 b1)]) = some (.lit (.bool ((decide (a0 = b0)) && ((decide (a1 = b1)) && true)))) := by kernel_rfl
@[go_sem] theorem Tryz.aeqn271 (σ : Store) (c : Bool) (a0 b0 : Int) (a1 b1 : Int) : abin Tryz.prog σ .neq 271 c (.agg [.lit (.int .u8 a0), .lit (.int .u8 a1)]) (.agg [.lit (.int .u8 b0), .lit (.int .u8 b1)]) = some (.lit (.bool !((decide (a0 = b0)) && ((decide (a1 = b1)) && true)))) := by kernel_rfl
@[go_sem] theorem Tryz.aeq272 (σ : Store) (c : Bool) (a0 b0 : Int) (a1 b1 : Int) : abin Tryz.prog σ .eql 272 c (.agg [.lit (.int .u8 a0), .lit (.int .u8 a1)]) (.agg [.lit (.int .u8 b0), .lit (.int .u8 b1)]) = some (.lit (.bool ((decide (a0 = b0)) && ((decide (a1 = b1)) && true)))) := by kernel_rfl
@[go_sem] theorem Tryz.aeqn272 (σ : Store) (c : Bool) (a0 b0 : Int) (a1 b1 : Int) : abin Tryz.prog σ .neq 272 c (.agg [.lit (.int .u8 a0), .lit (.int .u8 a1)]) (.agg [.lit (.int .u8 b0), .lit (.int .u8 b1)]) = some (.lit (.bool !((decide (a0 = b0)) && ((decide (a1 = b1)) && true)))) := by kernel_rfl
attribute [go_sem] Tryz.underlying1 Tryz.underlying2 Tryz.underlying3 Tryz.underlying4 Tryz.underlying5 Tryz.underlying6 Tryz.underlying9 Tryz.underlying10 Tryz.underlying11 Tryz.underlying12 Tryz.underlying15 Tryz.underlying16 Tryz.underlying17 Tryz.underlying20 Tryz.underlying21 Tryz.underlying22 Tryz.underlying27 Tryz.underlying28 Tryz.underlying29 Tryz.underlying30 Tryz.underlying32 Tryz.underlying33 Tryz.underlying34 Tryz.underlying35 Tryz.underlying36 Tryz.underlying37 Tryz.underlying38 Tryz.underlying39 Tryz.underlying40 Tryz.underlying41 Tryz.underlying46 Tryz.underlying47 Tryz.underlying48 Tryz.underlying49 Tryz.underlying50 Tryz.underlying51 Tryz.underlying52 Tryz.underlying53 Tryz.underlying54 Tryz.underlying55 Tryz.underlying56 Tryz.underlying59 Tryz.underlying60 Tryz.underlying61 Tryz.underlying62 Tryz.underlying63 Tryz.underlying66 Tryz.underlying68 Tryz.underlying69 Tryz.underlying70 Tryz.underlying71 Tryz.underlying72 Tryz.underlying73 Tryz.underlying74 Tryz.underlying75 Tryz.underlying76 Tryz.underlying78 Tryz.underlying79 Tryz.underlying80 Tryz.underlying81 Tryz.underlying82 Tryz.underlying83 Tryz.underlying84 Tryz.underlying85 Tryz.underlying86 Tryz.underlying87 Tryz.underlying88 Tryz.underlying89 Tryz.underlying91 Tryz.underlying92 Tryz.underlying93 Tryz.underlying94 Tryz.underlying95 Tryz.underlying96 Tryz.underlying97 Tryz.underlying99 Tryz.underlying100 Tryz.underlying106 Tryz.underlying107 Tryz.underlying108 Tryz.underlying109 Tryz.underlying110 Tryz.underlying114 Tryz.underlying115 Tryz.underlying116 Tryz.underlying117 Tryz.underlying118 Tryz.underlying119 Tryz.underlying123 Tryz.underlying124 Tryz.underlying125 Tryz.underlying126 Tryz.underlying128 Tryz.underlying129 Tryz.underlying132 Tryz.underlying133 Tryz.underlying134 Tryz.underlying135 Tryz.underlying136 Tryz.underlying137 Tryz.underlying138 Tryz.underlying139 Tryz.underlying140 Tryz.underlying141 Tryz.underlying142 Tryz.underlying143 Tryz.underlying144 Tryz.underlying145 Tryz.underlying146 Tryz.underlying147 Tryz.underlying149 Tryz.underlying150 Tryz.underlying152 Tryz.underlying155 Tryz.underlying156 Tryz.underlying157 Tryz.underlying158 Tryz.underlying159 Tryz.underlying161 Tryz.underlying163 Tryz.underlying164 Tryz.underlying165 Tryz.underlying166 Tryz.underlying167 Tryz.underlying168 Tryz.underlying169 Tryz.underlying170 Tryz.underlying171 Tryz.underlying172 Tryz.underlying173 Tryz.underlying174 Tryz.underlying175 Tryz.underlying176 Tryz.underlying177 Tryz.underlying178 Tryz.underlying180 Tryz.underlying181 Tryz.underlying182 Tryz.underlying183 Tryz.underlying184 Tryz.underlying185 Tryz.underlying186 Tryz.underlying187 Tryz.underlying188 Tryz.underlying189 Tryz.underlying190 Tryz.underlying191 Tryz.underlying192 Tryz.underlying193 Tryz.underlying194 Tryz.underlying195 Tryz.underlying196 Tryz.underlying197 Tryz.underlying198 Tryz.underlying199 Tryz.underlying200 Tryz.underlying201 Tryz.underlying203 Tryz.underlying204 Tryz.underlying205 Tryz.underlying206 Tryz.underlying207 Tryz.underlying210 Tryz.underlying211 Tryz.underlying212 Tryz.underlying213 Tryz.underlying214 Tryz.underlying215 Tryz.underlying216 Tryz.underlying217 Tryz.underlying218 Tryz.underlying219 Tryz.underlying220 Tryz.underlying222 Tryz.underlying223 Tryz.underlying224 Tryz.underlying225 Tryz.underlying226 Tryz.underlying227 Tryz.underlying228 Tryz.underlying230 Tryz.underlying231 Tryz.underlying232 Tryz.underlying233 Tryz.underlying234 Tryz.underlying235 Tryz.underlying236 Tryz.underlying237 Tryz.underlying238 Tryz.underlying239 Tryz.underlying240 Tryz.underlying241 Tryz.underlying242 Tryz.underlying243 Tryz.underlying245 Tryz.underlying246 Tryz.underlying248 Tryz.underlying251 Tryz.underlying252 Tryz.underlying253 Tryz.underlying255 Tryz.underlying256 Tryz.underlying258 Tryz.underlying259 Tryz.underlying260 Tryz.underlying261 Tryz.underlying262 Tryz.underlying265 Tryz.underlying266 Tryz.underlying267 Tryz.underlying269 Tryz.underlying270 Tryz.underlying273 Tryz.underlying274 Tryz.underlying275 Tryz.underlying278 Tryz.underlying281 Tryz.underlying282 Tryz.underlying283 Tryz.underlying284 Tryz.underlying285
theorem Tryz.mixed : Tryz.prog.follows .mixedOrders = true := by kernel_rfl
end Go.Proofs
end

section
set_option linter.all false
namespace Go.Ab
open Go.RowKit (Below)
section
variable {P : Program} {o : Oper} {α : Operand → AVal} {σ : Store} {Kk : AVal → Store → Prop}
theorem de_ {t e : TypeId} {n by_ : Nat} {x y : Operand} {z : Value} {k1 k2 : IntKind} (ho : o.op = .makeSlice t x y) (hse : aE_ P t = some e) (hte : a5_ P e = some (1, by_)) (hz : b9_ P e = some z) (hz1 : z.cells = #[z])
  (hx : α x = .lit (.int k1 n)) (hy : α y = .lit (.int k2 n)) (hn : by_ * n ≤ 281474976710656) (hk : ∀ i, σ.heap i = none → Kk (.msl i 1 0 n) (σ.set i (.cells (List.replicate n (.lit z))))) : AOp P o α σ Kk := by
 obtain ⟨dst, op, ty, pos, after, guard⟩ := o
 obtain rfl : op = _ := ho
 intro κ ev hI hxx
 obtain ⟨i, z', hi, hz', hisz, hiby, hzs, hsz, hby⟩ := a3_ hte
 have hts : P.underlying t = some (.slice e) := by
  unfold aE_ at hse
  split at hse
  ·rename_i e' he'; obtain rfl := Option.some.inj hse; exact he'
  ·cases hse
 have hvx := hxx x (by simp [Op.operands])
 have hvy := hxx y (by simp [Op.operands])
 rw [hx] at hvx
 rw [hy] at hvy
 have ezz : z' = z := by
  unfold b9_ at hz
  rw [hi] at hz
  simpa [hz'] using hz
 subst ezz
 have h63 : n ≤ 9223372036854775807 := by
  have : n ≤ by_ * n := Nat.le_mul_of_pos_left _ hby
  omega
 have hrun := run_make_row' (P := P) t e z' by_ hts (by rw [hi]; simp [hz', hisz, hiby]) hz1 k1 k2 n hn h63 κ.w
 obtain ⟨oi, hoi, hfree⟩ := hI.fresh
 have hsize : (madeCells #[z'] n).size = n := by simp [madeCells]
 obtain ⟨κ', hw, hle, hρ, hI'⟩ := hI.alloc oi hoi (.cells (List.replicate n (.lit z'))) (.cells (madeCells #[z'] n) e) fun κ' hle hh _ => ⟨_, e, hh, by rw [hsize]; simp, fun j hj => by
  have hj' : j < n := by simpa using hj
  have : (madeCells #[z'] n).getD j undef = z' := by simp [madeCells, hj', Nat.mod_one]
  rw [this, List.getElem_replicate]
  exact .lit _⟩
 have hheap : κ'.w.heap[κ.w.heap.size]? = some (.cells (madeCells #[z'] n) e (0, 0)) := by rw [hw]; exact heap_alloc_new _ _
 refine bo_ rfl ⟨_, _, by rw [hvx.litInv, hvy.litInv]; exact hrun, κ', .msl oi 1 0 n, _, hw, hle, hI', .msl oi 1 0 n κ.w.heap.size n n e hρ (Nat.le_refl _) (by unfold World.shape?; rw [hheap]; simp [hsize]) (by omega), hk oi hfree⟩
theorem freeze {κ : K} (hI : Inv κ σ) {so sz len : Nat} {cs l : List AVal} {v : Value} (hv : Rv κ (.msl so sz 0 len) v) (hh : σ.heap so = some (.cells cs)) (hl : cs.take (len * sz) = flat l) (hn : l.length = len) (hs : ∀ x ∈ l, x.cells.length = sz) :
  ∃ κ', κ'.w = κ.w ∧ κ.Le κ' ∧ Inv κ' (σ.del so) ∧ Rv κ' (.sl sz l false) v := by
 subst hn
 have hfl := aU_ hs
 generalize v = u at hv
 cases hv with
 |msl _ _ _ _ b cap n el hb hlc hsh hcap =>
 obtain ⟨b', hb', hbase, hIb, c, el', hheap, hcl, hcv⟩ := hI.heap so _ hh
 rw [hb] at hb'
 obtain rfl := Option.some.inj hb'
 have hlen : l.length * sz ≤ cs.length := by
  have := congrArg List.length hl
  rw [List.length_take, hfl] at this
  omega
 have hle : κ.Le { κ with I := fun k => if k = b then l.length * sz else κ.I k } :=
  ⟨rfl, Below.refl _ _, fun _ _ h => h, fun _ _ h => h, fun _ _ h => h, fun k => by
   show _ ≤ (if k = b then _ else _)
   split
   ·rename_i hk; rw [hk, hIb]; exact Nat.zero_le _
   ·exact Nat.le_refl _, fun _ _ _ _ h => h, Nat.le_refl _⟩
 refine ⟨{ κ with I := fun k => if k = b then l.length * sz else κ.I k }, rfl, hle, ?_, ?_⟩
 ·have hne : ∀ i x, (σ.del so).heap i = some x → i ≠ so ∧ σ.heap i = some x := fun i x hx => by
   by_cases hi : i = so
   ·rw [hi, Store.del_get] at hx; cases hx
   ·rw [Store.del_ne _ hi] at hx; exact ⟨hi, hx⟩
  refine ⟨hI.glob, hI.base, fun i x hx => ?_, fun i i' x x' k hx hx' => hI.inj i i' x x' k (hne _ _ hx).2 (hne _ _ hx').2, fun t q ht => ?_, fun t t' q q' u u' k => hI.tokinj t t' q q' u u' k, fun t q u k i x ht hu hk hx => hI.tokobj t q u k i x ht hu hk (hne _ _ hx).2, hI.frO, hI.frT, fun k hk => ?_⟩
  ·obtain ⟨hi, hx'⟩ := hne _ _ hx
   obtain ⟨k, hk, hkb, hkI, hR⟩ := hI.heap i x hx'
   have hkne : k ≠ b := fun hh' => hi (hI.inj i so x _ b hx' hh (by rw [hk, hh']) hb)
   exact ⟨k, hk, hkb, by show (if k = b then _ else _) = _; rw [if_neg hkne]; exact hkI, hR.mono hle rfl⟩
  ·obtain ⟨u, hu, hok⟩ := hI.tok t q ht
   refine ⟨u, hu, hok.mono hle fun k hk => ⟨rfl, ?_⟩⟩
   show (if k = b then _ else _) = _
   rw [if_neg (fun hh' => hI.tokobj t q u k so _ ht hu hk hh (by rw [hb, hh']))]
  ·show (if k = b then _ else _) = _
   have : b < κ.w.heap.size := (Array.getElem?_eq_some_iff.1 hheap).1
   have hk' : κ.w.heap.size ≤ k := hk
   rw [if_neg (by omega)]
   exact hI.frI k hk
 ·refine .sl sz l false b 0 cap (fun k => c.getD k undef) hlc (by simp) hs (fun k hk => ?_) (fun k hk => ?_)
  ·refine ⟨?_, ?_⟩
   ·show _ < (if b = b then _ else _)
    rw [if_pos rfl]; omega
   ·show κ.w.cell? _ = _
    rw [cell_of_row _ _ _ _ _ _ hheap]
    simp [show k < c.size by omega]
  ·have e1 : (flat l)[k] = cs[k]'(by omega) := by
    have h1 : (cs.take (l.length * sz))[k]? = (flat l)[k]? := by rw [hl]
    rw [List.getElem?_take, if_pos (by omega), List.getElem?_eq_getElem hk, List.getElem?_eq_getElem (show k < cs.length by omega)] at h1
    exact (Option.some.inj h1).symm
   rw [e1]
   exact (hcv k (by omega)).mono hle
theorem ga_ {x : Operand} {so sz len : Nat} {cs l : List AVal} (ho : o.op = .assign x ∨ o.op = .move x) (hx : α x = .msl so sz 0 len) (hh : σ.heap so = some (.cells cs)) (hl : cs.take (len * sz) = flat l) (hn : l.length = len) (hs : ∀ x ∈ l, x.cells.length = sz)
  (hk : Kk (.sl sz l false) (σ.del so)) : AOp P o α σ Kk := by
 intro κ ev hI hxx
 have hv := hxx x (by rcases ho with ho | ho <;> (rw [ho]; simp [Op.operands]))
 rw [hx] at hv
 have he : (execOp ev o).run P κ.w = .ok (.value (ev x)) κ.w := by
  obtain ⟨dst, op, ty, pos, after, guard⟩ := o
  rcases ho with ho | ho <;> (obtain rfl : op = _ := ho; simp [execOp])
 rw [he]
 obtain ⟨κ', h1, h2, h3, h4⟩ := freeze hI hv hh hl hn hs
 exact ⟨κ', .sl sz l false, _, h1, h2, h3, h4, hk⟩
theorem kI_ {s x : Operand} {t e : TypeId} {sz by_ : Nat} {l2 : List AVal}
  (ho : o.op = .call { callee := .builtin .append, args := #[s, x], argTypes := #[t, t] }) (hse : aE_ P t = some e) (hte : a5_ P e = some (sz, by_))
  (hs : α s = .sl sz [] true) (hx : slOf (α x) = some (sz, l2)) (hne : l2 ≠ []) (hlen : l2.length * by_ ≤ 140737488355328)
  (hk : ∀ o', σ.heap o' = none → Kk (.msl o' sz 0 l2.length) (σ.set o' (.cells (flat l2)))) : AOp P o α σ Kk := by
 obtain ⟨dst, op, ty, pos, after, guard⟩ := o
 obtain rfl : op = .call { callee := .builtin .append, args := #[s, x], argTypes := #[t, t] } := ho
 intro κ ev hI hxx
 obtain ⟨i, z, hi, hz, hisz, hiby, hzs, hsz, hby⟩ := a3_ hte
 subst hisz
 subst hiby
 have hts : P.underlying t = some (.slice e) := by
  unfold aE_ at hse
  split at hse
  ·rename_i e' he'; obtain rfl := Option.some.inj hse; exact he'
  ·cases hse
 have hvs := hxx s (by simp [Op.operands, Call.operands])
 have hvx := hxx x (by simp [Op.operands, Call.operands])
 have hm : 0 < l2.length := List.length_pos_iff.2 hne
 have hle47 : l2.length ≤ 140737488355328 := Nat.le_trans (Nat.le_mul_of_pos_right _ hby) hlen
 obtain ⟨ad, cap2, vs, hevx, hl2sz, hvsr, hcu⟩ : ∃ ad cap2 vs, ev x = .slice (some ad) l2.length cap2 ∧ (∀ y ∈ l2, y.cells.length = i.size) ∧ RvC κ (flat l2) vs ∧ ∀ j u, vs[j]? = some u → κ.w.cell? (ad.add j) = some u := by
  obtain ⟨a, cap, us2, hev, hsz', hr, hc⟩ := cG_ (co_ hx hvx)
  rcases hc with ⟨_, h0, _⟩ | ⟨ad, rfl, hcu⟩
  ·exact absurd h0 hne
  ·exact ⟨ad, cap, us2, hev, hsz', hr, hcu⟩
 have hfl2 : vs.length = l2.length * i.size := by rw [← hvsr.1, aU_ hl2sz]
 obtain ⟨o', ho', hfr⟩ := hI.fresh
 have hd := hI.drew
 have fresh : ∀ (cap' : Nat), l2.length ≤ cap' → Post κ Kk (.slice (some ⟨κ.w.heap.size, 0, none⟩) l2.length cap') (κ.w.drew.alloc (.cells (vs.toArray ++ Builtin.zeroCells z.cells (cap' - l2.length)) e)) := by
  intro cap' hcap
  have hsize : (vs.toArray ++ Builtin.zeroCells z.cells (cap' - l2.length)).size = cap' * i.size := by
   simp only [Array.size_append, List.size_toArray, size_zeroCells, hzs, hfl2, ← Nat.add_mul]
   congr 1; omega
  obtain ⟨κ', hw, hle, hρ, hI'⟩ := hd.2.alloc o' ho' (.cells (flat l2)) (.cells (vs.toArray ++ Builtin.zeroCells z.cells (cap' - l2.length)) e) fun κ' hle hh _ => by
   refine ⟨_, e, hh, ?_, fun j hj => ?_⟩
   ·rw [hsize, hvsr.1, hfl2]; exact Nat.mul_le_mul_right _ hcap
   ·have hj' : j < vs.length := by rw [← hvsr.1]; exact hj
    have e1 : (vs.toArray ++ Builtin.zeroCells z.cells (cap' - l2.length)).getD j undef = vs[j] := by
     simp only [Array.getD_eq_getD_getElem?]
     rw [Array.getElem?_append_left (by simpa using hj')]
     simp [hj']
    rw [e1]
    exact (hvsr.2 j hj hj').mono (hd.1.trans hle)
  have hheap : κ'.w.heap[κ.w.heap.size]? = some (.cells (vs.toArray ++ Builtin.zeroCells z.cells (cap' - l2.length)) e (0, 0)) := by
   rw [hw]; exact Go.heap_alloc_new κ.w.drew _
  exact ⟨κ', .msl o' i.size 0 l2.length, _, hw, hd.1.trans hle, hI', .msl o' i.size 0 _ κ.w.heap.size cap' _ e hρ hcap (by unfold World.shape?; rw [hheap]) (by rw [hsize]; omega), hk o' hfr⟩
 refine bo_ (s := Builtin.append_ #[t, t] ty #[ev s, ev x]) (by simp [execOp, resolve, invoke, builtin]) ?_
 rw [hs] at hvs
 have hnil : (ev s = .slice none 0 0) ∨ ∃ b, ev s = .slice (some b) 0 0 := by
  rcases hvs.slInv with ⟨a, h1, h2⟩ | ⟨b, off, cap, vals, h1, hcap, htt, _⟩
  ·cases a with
   |none => exact .inl h1
   |some b => exact .inr ⟨b, h1⟩
  ·right
   have := htt rfl
   simp at this
   subst this
   exact ⟨_, h1⟩
 rw [hevx]
 rcases hnil with h0 | ⟨b, h0⟩
 ·rw [h0]
  have hr := run_append_nil (P := P) κ.w t ty e i z hts hi hz ad l2.length cap2 vs hfl2 hcu hm (by omega) (by omega)
  exact ⟨_, _, hr, fresh _ (grownCap_ge _ _ _ _)⟩
 ·rw [h0]
  have hr := run_append_grow (P := P) κ.w t ty e i z hts hi hz b 0 0 [] (by simp) (by simp) ad l2.length cap2 vs hfl2 hcu (by omega) (by omega) (growslice_fits (by omega) (by simpa using hlen))
  simp only [Nat.zero_add] at hr
  refine ⟨_, _, hr, ?_⟩
  have := fresh (grownCap κ.w l2.length 0 e) (grownCap_ge _ _ _ _)
  simpa using this
theorem hg_ {t yt : TypeId} {x y : Operand} {sz e : Nat} {l : List AVal} (ho : o.op = .binOp .eql t x y yt) (hse : aE_ P t = some e) (hx : slOf (α x) = some (sz, l)) (hl : l ≠ []) (hy : α y = .lit (.slice none 0 0)) (hk : Kk (.lit (.bool false)) σ) : AOp P o α σ Kk := by
 obtain ⟨dst, op, ty, pos, after, guard⟩ := o
 obtain rfl : op = _ := ho
 intro κ ev hI hxx
 have hvx := hxx x (by simp [Op.operands])
 have hvy := hxx y (by simp [Op.operands])
 rw [hy] at hvy
 have hts : P.underlying t = some (.slice e) := by
  unfold aE_ at hse
  split at hse
  ·rename_i e' he'; obtain rfl := Option.some.inj hse; exact he'
  ·cases hse
 obtain ⟨a, cap, us, hev, _, _, hc⟩ := cG_ (co_ hx hvx)
 rcases hc with ⟨_, h0, _⟩ | ⟨ad, rfl, _⟩
 ·exact absurd h0 hl
 ·have hb : (binOp .eql t (ev x) (ev y)).run P κ.w = .ok (.bool false) κ.w := by
   have e1 : binOp .eql t (ev x) (ev y) = (do pure (.bool (← Op.equal t (ev x) (ev y)))) := by
    rw [hev, hvy.litInv]
    rfl
   rw [e1, hev, hvy.litInv]
   simp only [Sem.run_bind, run_equal_slice_nil κ.w t e (some ad) l.length cap hts, Result.andThen_ok, Sem.run_pure]
   rfl
  have hg : (eqGuard .eql t x y (ev x) (ev y)).run P κ.w = .ok () κ.w := bv_ (by rintro u v ⟨h1, _⟩; rw [hev] at h1; cases h1) (by intro h1; rw [hev] at h1; cases h1)
  refine bo_ (s := do eqGuard .eql t x y (ev x) (ev y); binOp .eql t (ev x) (ev y)) (by simp [execOp]) ⟨.bool false, κ.w, ?_, κ, .lit (.bool false), σ, rfl, .refl κ, hI, .lit _, hk⟩
  simp only [Sem.run_bind, hg, Result.andThen_ok, hb]
end
end Go.Ab
end

section
set_option linter.all false
namespace Go.Ab
abbrev vInt (n : Int) : AVal := .lit (.int .i64 n)
abbrev he_ (b : Bool) : AVal := .lit (.bool b)
abbrev vStr (s : ByteArray) : AVal := .lit (.string s)
def bAnd (k : IntKind) (a b : Int) : Int := k.wrap (BitVec.ofInt k.bits a &&& BitVec.ofInt k.bits b).toNat
def bOr (k : IntKind) (a b : Int) : Int := k.wrap (BitVec.ofInt k.bits a ||| BitVec.ofInt k.bits b).toNat
def bXor (k : IntKind) (a b : Int) : Int := k.wrap (BitVec.ofInt k.bits a ^^^ BitVec.ofInt k.bits b).toNat
@[go_sem] theorem tf_ (e : Env) (d k : Nat) (a : AVal) : upd e d a k = if k = d then a else e k := rfl
@[go_sem] theorem te_ (k : Nat) : emp k = .any := rfl
@[go_sem] theorem ak_ (k : Nat) : hB_ k [] = emp := rfl
@[go_sem] theorem af_ (k : Nat) (a : AVal) (l : List AVal) : hB_ k (a :: l) = upd (hB_ (k + 1) l) k a := rfl
@[go_sem] theorem sJ_ (e : Env) (t : Tmp) : aev e (.tmp t) = e t := rfl
@[go_sem] theorem sF_ (e : Env) (k : IntKind) (n : Int) : aev e (.const (.int k n)) = .lit (.int k n) := rfl
@[go_sem] theorem se_ (e : Env) (b : Bool) : aev e (.const (.bool b)) = .lit (.bool b) := rfl
@[go_sem] theorem sI_ (e : Env) (s : ByteArray) : aev e (.const (.string s)) = .lit (.string s) := rfl
@[go_sem] theorem sH_ (e : Env) (a : Option Addr) : aev e (.const (.pointer a)) = .lit (.pointer a) := rfl
@[go_sem] theorem qK_ (e : Env) (a : Option Addr) (n c : Nat) : aev e (.const (.slice a n c)) = .lit (.slice a n c) := rfl
@[go_sem] theorem sG_ (e : Env) (r : Option Nat) : aev e (.const (.map r)) = .lit (.map r) := rfl
@[go_sem] theorem o5_ (e : Env) : aev e (.const .nilFunc) = .lit .nilFunc := rfl
@[go_sem] theorem or_ (e : Env) : aev e (.const .nilIface) = .lit .nilIface := rfl
@[go_sem] theorem sf_ (e : Env) (f : FuncId) : aev e (.func f) = .lit (.func (.func f) #[] #[]) := rfl
section
variable (P : Program) (α : Operand → AVal) (σ : Store)
@[go_sem] theorem qZ_ (x : Operand) : aval P (.move x) α σ = some (α x) := rfl
@[go_sem] theorem pa_ (x : Operand) : aval P (.assign x) α σ = some (α x) := rfl
@[go_sem] theorem q0_ (c a b : Operand) : aval P (.pick c a b) α σ = match α c with | .lit (.bool t) => some (ie_ t (α a) (α b)) | _ => none := rfl
@[go_sem] theorem na_ (x : Operand) : aval P (.nilCheck x) α σ = anil (α x) := rfl
@[go_sem] theorem qB_ (op : BinOp) (t yt : TypeId) (x y : Operand) : aval P (.binOp op t x y yt) α σ = abin P σ op t (cT_ x || cT_ y) (α x) (α y) := rfl
@[go_sem] theorem q1_ (op : UnOp) (t : TypeId) (x : Operand) : aval P (.unOp op t x) α σ = m8_ op (α x) := rfl
@[go_sem] theorem oy_ (s d : TypeId) (x : Operand) : aval P (.convert s d x) α σ = fe_ P s d (α x) := rfl
@[go_sem] theorem mQ_ (s : TypeId) (x : Operand) (f : Nat) : aval P (.fieldAddr s x f) α σ = c3_ P s (α x) f := rfl
@[go_sem] theorem qD_ (t : TypeId) (x : Operand) (f : Nat) : aval P (.field t x f) α σ = hk_ P t (α x) f := rfl
@[go_sem] theorem mR_ (t : TypeId) (x i : Operand) : aval P (.indexAddr t x i) α σ = c5_ P t (α x) (α i) := rfl
@[go_sem] theorem qE_ (t : TypeId) (x i : Operand) : aval P (.index t x i) α σ = hm_ P t (α x) (α i) := rfl
@[go_sem] theorem qY_ (t : TypeId) (x : Operand) : aval P (.load t x) α σ = ee_ P σ t (α x) := rfl
@[go_sem] theorem oz_ (x : Operand) (i : Nat) : aval P (.extract x i) α σ = match α x with | .tup vs => vs[i]? | _ => none := rfl
@[go_sem] theorem qF_ (t : TypeId) (x : Operand) (lo hi mx : Option Operand) : aval P (.slice t x lo hi mx) α σ = hn_ P t (α x) (lo.map α) (hi.map α) (mx.map α) := rfl
@[go_sem] theorem m9_ (fn : Fn) (f c : Array Operand) : aval P (.makeFunc fn f c) α σ = some (.fn fn (f.toList.map α) (c.toList.map α)) := rfl
@[go_sem] theorem iU_ (t : TypeId) (x : Operand) : aval P (.makeInterface t x) α σ = match P.underlying t with | some (.interface _) => none | some _ => some (.iface t (α x)) | none => none := rfl
@[go_sem] theorem qC_ (t : TypeId) (ps : Array (Nat × Operand)) : aval P (.build t ps) α σ = hj_ P t (ps.toList.map fun p => (p.1, α p.2)) := rfl
@[go_sem] theorem pb_ (t : TypeId) (m k : Operand) (ok : Bool) : aval P (.lookup t m k ok) α σ = dA_ P σ t (α m) (α k) ok := rfl
@[go_sem] theorem kY_ (x : Operand) (xt t : TypeId) (ok : Bool) : aval P (.typeAssert x xt t ok) α σ = di_ P (α x) t ok := rfl
@[go_sem] theorem sy_ (x : Operand) (t : TypeId) : aval P (.call { callee := .builtin .len, args := #[x], argTypes := #[t] }) α σ = (alen P σ t (α x)).map fun (n : Nat) => AVal.lit (.int .i64 (n : Int)) := rfl
@[go_sem] theorem sz_ (args : Array Operand) (ts : Array TypeId) : aval P (.call { callee := .builtin .max, args := args, argTypes := ts }) α σ = f4_ true (args.toList.map α) := rfl
@[go_sem] theorem sA_ (args : Array Operand) (ts : Array TypeId) : aval P (.call { callee := .builtin .min, args := args, argTypes := ts }) α σ = f4_ false (args.toList.map α) := rfl
@[go_sem] theorem qO_ (k k' : IntKind) (x y : Int) : f4_ true [.lit (.int k x), .lit (.int k' y)] = some (.lit (.int k (max x y))) := rfl
@[go_sem] theorem qP_ (k k' : IntKind) (x y : Int) : f4_ false [.lit (.int k x), .lit (.int k' y)] = some (.lit (.int k (min x y))) := rfl
@[go_sem] theorem o7_ (k k' k'' : IntKind) (x y z : Int) : f4_ true [.lit (.int k x), .lit (.int k' y), .lit (.int k'' z)] = some (.lit (.int k (max (max x y) z))) := rfl
@[go_sem] theorem o8_ (k k' k'' : IntKind) (x y z : Int) : f4_ false [.lit (.int k x), .lit (.int k' y), .lit (.int k'' z)] = some (.lit (.int k (min (min x y) z))) := rfl
@[go_sem] theorem sc_ (op : BinOp) (t : TypeId) (c : Bool) (k k' : IntKind) (a b : Int) : abin P σ op t c (.lit (.int k a)) (.lit (.int k' b)) = (aint op k a k' b).map .lit := rfl
@[go_sem] theorem sd_ (op : BinOp) (t : TypeId) (c : Bool) (a b : ByteArray) : abin P σ op t c (.lit (.string a)) (.lit (.string b)) = (astr op a b).map .lit := rfl
@[go_sem] theorem sg_ (k : IntKind) (a b : Int) : aint .add k a k b = some (.int k (k.wrap (a + b))) := by simp [aint]
@[go_sem] theorem sp_ (k : IntKind) (a b : Int) : aint .sub k a k b = some (.int k (k.wrap (a - b))) := by simp [aint]
@[go_sem] theorem sn_ (k : IntKind) (a b : Int) : aint .mul k a k b = some (.int k (k.wrap (a * b))) := by simp [aint]
@[go_sem] theorem si_ (k : IntKind) (a b : Int) : aint .eql k a k b = some (.bool (decide (a = b))) := by simp [aint]
@[go_sem] theorem so_ (k : IntKind) (a b : Int) : aint .neq k a k b = some (.bool (!decide (a = b))) := by simp [aint]
@[go_sem] theorem sm_ (k : IntKind) (a b : Int) : aint .lss k a k b = some (.bool (decide (a < b))) := by simp [aint]
@[go_sem] theorem sl_ (k : IntKind) (a b : Int) : aint .leq k a k b = some (.bool (decide (a ≤ b))) := by simp [aint]
@[go_sem] theorem sk_ (k : IntKind) (a b : Int) : aint .gtr k a k b = some (.bool (decide (b < a))) := by simp [aint]
@[go_sem] theorem sj_ (k : IntKind) (a b : Int) : aint .geq k a k b = some (.bool (decide (b ≤ a))) := by simp [aint]
@[go_sem] theorem sh_ (k : IntKind) (a b : Int) : aint .and k a k b = some (.int k (bAnd k a b)) := by simp [aint, bAnd]
@[go_sem] theorem sK_ (k : IntKind) (a b : Int) : aint .or k a k b = some (.int k (bOr k a b)) := by simp [aint, bOr]
@[go_sem] theorem sq_ (k : IntKind) (a b : Int) : aint .xor k a k b = some (.int k (bXor k a b)) := by simp [aint, bXor]
theorem gG_ (k : IntKind) (a b : Int) (h : b ≠ 0) : aint .quo k a k b = some (.int k (k.wrap (a.tdiv b))) := by simp [aint, h]
theorem m3_ (k : IntKind) (a b : Int) (h : b ≠ 0) : aint .rem k a k b = some (.int k (a.tmod b)) := by simp [aint, h]
@[go_sem] theorem ss_ (a b : ByteArray) : astr .eql a b = some (.bool (decide (a = b))) := rfl
@[go_sem] theorem sx_ (a b : ByteArray) : astr .neq a b = some (.bool (!decide (a = b))) := rfl
@[go_sem] theorem sw_ (a b : ByteArray) : astr .lss a b = some (.bool (sLt a b)) := rfl
@[go_sem] theorem su_ (a b : ByteArray) : astr .gtr a b = some (.bool !(sLt a b || decide (a = b))) := rfl
@[go_sem] theorem sv_ (a b : ByteArray) : astr .leq a b = some (.bool (sLt a b || decide (a = b))) := rfl
@[go_sem] theorem st_ (a b : ByteArray) : astr .geq a b = some (.bool !(sLt a b)) := rfl
theorem iT_ (a b : ByteArray) (h : a.size + b.size ≤ gW_) : astr .add a b = some (.string (a ++ b)) := by simp [astr, h]
@[go_sem] theorem qA_ (t x y : Bool) : ie_ t (.lit (.bool x)) (.lit (.bool y)) = .lit (.bool (bif t then x else y)) := rfl
end
theorem wrap_i64 (n : Int) (h1 : -9223372036854775808 ≤ n) (h2 : n ≤ 9223372036854775807) : IntKind.i64.wrap n = n := by
 unfold IntKind.wrap
 simp only [IntKind.bits, IntKind.signed, Bool.true_and, decide_eq_true_eq, ge_iff_le]
 have e1 : (2 : Int) ^ 64 = 18446744073709551616 := by decide
 have e2 : (2 : Int) ^ (64 - 1) = 9223372036854775808 := by decide
 simp only [e1, e2]
 split <;> omega
attribute [go_sem] kW_ Store.delO Store.del_ne Store.newTok_heap Store.set_tok Store.newTok_get Store.newTok_set c3_ ee_ c5_ hk_ hm_ hj_ anil m8_ fe_ alen apart aro cV_ hl_ aput slOf AVal.cells AVal.solid AVal.one ofConst bx_ Store.set_get Store.set_ne e2_ alow f3_ aret
@[go_sem] theorem qH_ {β : Type} (l : List β) : l.toArray.toList = l := rfl
@[go_sem] theorem ow_ (P : Program) (e : Env) (σ : Store) : cf_ P [] e σ = some [] := rfl
@[go_sem] theorem ox_ (P : Program) (e : Env) (σ : Store) (t : Tmp) (rs : List ResultVar) : cf_ P (.tmp t :: rs) e σ = match cf_ P rs e σ with | some vs => some (e t :: vs) | none => none := by
 unfold cf_
 rw [List.mapM_cons]
 generalize hq : rs.mapM (m := Option) (fun
  |.tmp t => some (e t)
  |.cell a t => ee_ P σ t (e a)) = q
 cases q <;> simp [hq]
@[go_sem] theorem m7_ (P : Program) (e : Env) (σ : Store) (a : Tmp) (t : TypeId) (rs : List ResultVar) : cf_ P (.cell a t :: rs) e σ = match ee_ P σ t (e a), cf_ P rs e σ with | some v, some vs => some (v :: vs) | _, _ => none := by
 unfold cf_
 rw [List.mapM_cons]
 generalize hq : rs.mapM (m := Option) (fun
  |.tmp t => some (e t)
  |.cell a t => ee_ P σ t (e a)) = q
 cases hl : ee_ P σ t (e a) <;> cases q <;> simp [hq, hl]
attribute [go_sem] if_pos hn_ Int.toNat_natCast List.length_map List.map_append Bool.false_eq_true ne_eq not_true_eq_false not_false_eq_true and_self and_true true_and Nat.add_zero Nat.zero_add Option.map_some Option.map_none Option.bind_some Option.isSome_some List.length_cons List.length_nil List.map_cons List.map_nil List.nil_append List.cons_append List.append_nil List.take_succ_cons List.take_zero List.drop_succ_cons List.drop_zero List.getElem?_cons_zero List.getElem?_cons_succ Int.toNat_zero Int.le_refl decide_true decide_false beq_self_eq_true Bool.and_self Bool.and_true Bool.true_and Bool.and_false Bool.false_and cond_true cond_false Bool.not_true Bool.not_false Bool.or_self Bool.or_false Bool.or_true Bool.true_or Bool.false_or
attribute [go_sem] ho_ gJ_ gI_ a9_ eu_ dq_ ig_ in_
section
variable {P : Program} {ops : Array Oper} {Kk : Env → Store → Prop} {o : Oper} {rest : List Oper} {e : Env} {σ : Store}
theorem ac_ (h : Kk e σ) : a1_ P ops Kk [] e σ := h
theorem aL_S {d : Tmp} {a : AVal} (hg : o.guard = none) (hd : o.dst = some d) (ha : aval P o.op (aev e) σ = some a) (h : a1_ P ops Kk rest (upd e d a) σ) : a1_ P ops Kk (o :: rest) e σ := by
 unfold a1_ bY_ aZ_
 simp only [hg, hd, updo]
 exact eb_ ha h
theorem aL_X {d : Tmp} (hg : o.guard = none) (hd : o.dst = some d) (h : AOp P o (aev e) σ fun a σ' => a1_ P ops Kk rest (upd e d a) σ') : a1_ P ops Kk (o :: rest) e σ := by
 unfold a1_ bY_ aZ_
 simp only [hg, hd, updo]
 exact h
theorem j3_ (hg : o.guard = none) (hd : o.dst = none) (h : AOp P o (aev e) σ fun _ σ' => a1_ P ops Kk rest e σ') : a1_ P ops Kk (o :: rest) e σ := by
 unfold a1_ bY_ aZ_
 simp only [hg, hd, updo]
 exact h
end
section
variable {P : Program} {ops : Array Oper} {s0 : Store} {Kk : Env → Store → Prop} {o : Oper} {i : Nat} {r : DT} {e : Env} {σ : Store}
theorem aL_ (h : Kk e σ) : dRun P ops s0 Kk .nil e σ := h
theorem ck_ {k : Nat} {t : DT} (h1 : dRun P ops s0 Kk (.op i (k + 1) r) e σ) (h2 : dRun P ops s0 Kk t e σ) : dRun P ops s0 Kk (.alt i (k + 1) r t) e σ := by
 cases k with
 |zero => exact ⟨h1, h2⟩
 |succ k => exact ⟨h1, h2⟩
theorem dR_S {d : Tmp} {a : AVal} (ho : ops[i]? = some o) (hg : o.guard = none) (hd : o.dst = some d) (ha : aval P o.op (aev e) s0 = some a) (h : dRun P ops s0 Kk r (upd e d a) σ) : dRun P ops s0 Kk (.op i 0 r) e σ := by
 refine ⟨o, a, ho, .inl ⟨by simp [aZ_, hg], ha⟩, ?_⟩
 rw [hd]; exact h
theorem dR_A {d : Tmp} {a : AVal} (ho : ops[i]? = some o) (hg : o.guard = none) (hd : o.dst = some d) (ha : ∀ s, aval P o.op (aev e) s = some a) (h : dRun P ops s0 Kk r (upd e d a) σ) : dRun P ops s0 Kk (.any i r) e σ := by
 refine ⟨o, a, ho, fun s => .inl ⟨by simp [aZ_, hg], ha s⟩, ?_⟩
 rw [hd]; exact h
theorem eS_ {d : Tmp} {a : AVal} (ho : ops[i]? = some o) (hd : o.dst = some d) (hw : aZ_ ops o e = some true) (ha : aval P o.op (aev e) s0 = some a) (h : dRun P ops s0 Kk r (upd e d a) σ) : dRun P ops s0 Kk (.op i 0 r) e σ := by
 refine ⟨o, a, ho, .inl ⟨hw, ha⟩, ?_⟩
 rw [hd]; exact h
theorem bZ_ {d : Tmp} (ho : ops[i]? = some o) (hd : o.dst = some d) (hw : aZ_ ops o e = some false) (h : dRun P ops s0 Kk r (upd e d (.lit undef)) σ) : dRun P ops s0 Kk (.op i 0 r) e σ := by
 refine ⟨o, .lit undef, ho, .inr ⟨hw, rfl⟩, ?_⟩
 rw [hd]; exact h
theorem dR_X {d : Tmp} (ho : ops[i]? = some o) (hd : o.dst = some d) (hw : aZ_ ops o e = some true) (h : AOp P o (aev e) σ fun a σ' => s0.Sub σ' ∧ dRun P ops s0 Kk r (upd e d a) σ') : dRun P ops s0 Kk (.op i 1 r) e σ := by
 refine ⟨o, ho, ?_⟩
 unfold bY_
 simp only [hw, hd, updo]
 exact h
theorem pp_ {d : Tmp} (ho : ops[i]? = some o) (hd : o.dst = some d) (hw : aZ_ ops o e = some false) (hs : s0.Sub σ) (h : dRun P ops s0 Kk r (upd e d (.lit undef)) σ) : dRun P ops s0 Kk (.op i 1 r) e σ := by
 refine ⟨o, ho, ?_⟩
 unfold bY_
 simp only [hw, hd, updo]
 exact ⟨hs, h⟩
theorem dR_T {d : Tmp} (ho : ops[i]? = some o) (hd : o.dst = some d) (hw : aZ_ ops o e = some true) (h : AOp P o (aev e) σ fun a σ' => dRun P ops s0 Kk r (upd e d a) σ') : dRun P ops s0 Kk (.op i 2 r) e σ := by
 refine ⟨o, ho, ?_⟩
 unfold bY_
 simp only [hw, hd, updo]
 exact h
theorem sQ_ (ho : ops[i]? = some o) (hd : o.dst = none) (hw : aZ_ ops o e = some true) (h : AOp P o (aev e) σ fun a σ' => dRun P ops s0 Kk r e σ') : dRun P ops s0 Kk (.op i 2 r) e σ := by
 refine ⟨o, ho, ?_⟩
 unfold bY_
 simp only [hw, hd, updo]
 exact h
end
theorem ae_ {P : Program} {o : Oper} {α : Operand → AVal} {σ : Store} {Kk : AVal → Store → Prop} {c : Call} {f : Operand} {g : FuncId} {first captured args : List AVal} {Q : AVal → Store → Prop} (ho : o.op = .call c) (hc : c.callee = .value f)
  (hf : α f = .fn (.func g) first captured ∨ (α f = .lit (.func (.func g) #[] #[]) ∧ first = [] ∧ captured = [])) (hg : isGo P g = true)
  (hargs : first ++ c.args.toList.map α ++ captured = args) (hcon : ao_ P g args σ Q) (hk : ∀ a σ', Q a σ' → Kk a σ') : AOp P o α σ Kk := by
 subst hargs
 exact mT_ ho hc hf hg (hcon.mono hk)
def AInv (P : Program) (t : TypeId) (a : AVal) (name : String) (xs : List AVal) (σ : Store) (Q : AVal → Store → Prop) : Prop :=
 ∃ f ptr r, m6_ P t name = some (f, ptr) ∧ kW_ P σ t ptr a = some r ∧ isGo P f = true ∧ ao_ P f (r :: xs) σ Q
theorem bg_ {P : Program} {o : Oper} {α : Operand → AVal} {σ : Store} {Kk : AVal → Store → Prop} {x : Operand} {name : String} {args : Array Operand} {ts : Array TypeId} {t : TypeId} {a : AVal} {xs : List AVal} {Q : AVal → Store → Prop}
  (ho : o.op = .call { callee := .invoke x name, args := args, argTypes := ts }) (hx : α x = .iface t a) (has : args.toList.map α = xs) (h : AInv P t a name xs σ Q) (hk : ∀ v σ', Q v σ' → Kk v σ') : AOp P o α σ Kk := by
 subst has
 obtain ⟨f, ptr, r, h1, h2, h3, h4⟩ := h
 exact jY_ ho hx h1 h2 h3 rfl h4 hk
theorem nN_ {σ : Store} {o j : Nat} {x : AObj} (h : (σ.set o x).heap j = none) : j ≠ o ∧ σ.heap j = none := by
 by_cases hj : j = o
 ·subst hj; rw [Store.set_get] at h; cases h
 ·exact ⟨hj, by rw [Store.set_ne _ _ hj] at h; exact h⟩
section
variable {P : Program} {ops : Array Oper} {s0 : Store} {Kk : Env → Store → Prop} {o : Oper} {rest : List Oper} {i : Nat} {r : DT} {e : Env} {σ : Store}
theorem mS_ {α : Operand → AVal} {Kk : AVal → Store → Prop} {t : TypeId} {x : Operand} {a : AVal} {cs : List AVal} (ho : o.op = .box t x) (hx : α x = a) (hs : a.solid = true) (hc : a.cells = cs)
  (h : ∀ j, σ.heap j = none → Kk (.ref j 0) (σ.set j (.cells cs))) : AOp P o α σ Kk := by
 subst hx; subst hc; exact oZ_ ho hs h
theorem bb_ {d : Tmp} {t : TypeId} {x : Operand} {a : AVal} {cs : List AVal} (hg : o.guard = none) (hd : o.dst = some d) (ho : o.op = .box t x) (hx : aev e x = a) (hs : a.solid = true) (hc : a.cells = cs)
  (h : ∀ j, σ.heap j = none → a1_ P ops Kk rest (upd e d (.ref j 0)) (σ.set j (.cells cs))) : a1_ P ops Kk (o :: rest) e σ :=
 aL_X hg hd (mS_ ho hx hs hc h)
theorem f8_ {α : Operand → AVal} {Kk : AVal → Store → Prop} {t : TypeId} {z : Value} {cs : List AVal} (ho : o.op = .alloc t) (hz : b9_ P t = some z) (hc : bx_ z = cs)
  (h : ∀ j, σ.heap j = none → Kk (.ref j 0) (σ.set j (.cells cs))) : AOp P o α σ Kk := by
 subst hc; exact kE_ ho hz h
theorem aQ_ {d : Tmp} {t : TypeId} {z : Value} {cs : List AVal} (hg : o.guard = none) (hd : o.dst = some d) (ho : o.op = .alloc t) (hz : b9_ P t = some z) (hc : bx_ z = cs)
  (h : ∀ j, σ.heap j = none → a1_ P ops Kk rest (upd e d (.ref j 0)) (σ.set j (.cells cs))) : a1_ P ops Kk (o :: rest) e σ :=
 aL_X hg hd (f8_ ho hz hc h)
theorem gb_ {α : Operand → AVal} {Kk : AVal → Store → Prop} {t : TypeId} {ad x : Operand} {j off size : Nat} {g : Bool} {cs cs' : List AVal} {a : AVal} (ho : o.op = .store t ad x) (ha : α ad = .ref j off) (hx : α x = a) (hh : σ.heap j = some (.cells cs))
  (ht : cn_ P t = some (size, g)) (hs : a.solid = true) (hcs : a.cells = cs') (hones : ∀ c ∈ cs', c.one = true) (hsz : cs'.length = size) (hle : off + size ≤ cs.length) {cs2 : List AVal} (hp : aput cs off cs' = cs2) (h : Kk .any (σ.set j (.cells cs2))) : AOp P o α σ Kk := by
 subst hx; subst hcs; subst hp; exact kJ_ ho ha hh ht hs hones hsz hle h
theorem av_ {t : TypeId} {ad x : Operand} {j off size : Nat} {g : Bool} {cs cs' : List AVal} {a : AVal} (hg : o.guard = none) (hd : o.dst = none) (ho : o.op = .store t ad x) (ha : aev e ad = .ref j off) (hx : aev e x = a) (hh : σ.heap j = some (.cells cs))
  (ht : cn_ P t = some (size, g)) (hs : a.solid = true) (hcs : a.cells = cs') (hones : ∀ c ∈ cs', c.one = true) (hsz : cs'.length = size) (hle : off + size ≤ cs.length) {cs2 : List AVal} (hp : aput cs off cs' = cs2)
  (h : a1_ P ops Kk rest e (σ.set j (.cells cs2))) : a1_ P ops Kk (o :: rest) e σ :=
 j3_ hg hd (gb_ ho ha hx hh ht hs hcs hones hsz hle hp h)
theorem bs_ {cs : List AVal} {k : Nat} {a : AVal} (h : k < cs.length) : aput cs k [a] = cs.set k a := by
 unfold aput
 rw [List.set_eq_take_append_cons_drop, if_pos h]
 simp
theorem aM_ {t : TypeId} {ad x : Operand} {j off size : Nat} {g : Bool} {cs cs' : List AVal} {a : AVal} (hop : ops[i]? = some o) (hd : o.dst = none) (hw : aZ_ ops o e = some true) (ho : o.op = .store t ad x) (ha : aev e ad = .ref j off) (hx : aev e x = a) (hh : σ.heap j = some (.cells cs))
  (ht : cn_ P t = some (size, g)) (hs : a.solid = true) (hcs : a.cells = cs') (hones : ∀ c ∈ cs', c.one = true) (hsz : cs'.length = size) (hle : off + size ≤ cs.length) {cs2 : List AVal} (hp : aput cs off cs' = cs2)
  (h : dRun P ops s0 Kk r e (σ.set j (.cells cs2))) : dRun P ops s0 Kk (.op i 2 r) e σ :=
 sQ_ hop hd hw (gb_ ho ha hx hh ht hs hcs hones hsz hle hp h)
theorem h9_ {α : Operand → AVal} {Kk : AVal → Store → Prop} {s x : Operand} {t el : TypeId} {sz by_ k : Nat} {l l2 : List AVal} (ho : o.op = .call { callee := .builtin .append, args := #[s, x], argTypes := #[t, t] }) (hse : aE_ P t = some el) (hte : a5_ P el = some (sz, by_))
  (hs : α s = .own k sz l) (hk : σ.tok k = some (el, sz)) (hx : slOf (α x) = some (sz, l2)) (hone : ∀ y ∈ l2, ∀ c ∈ y.cells, c.one = true) (hlen : (l.length + l2.length) * by_ ≤ 140737488355328)
  (h : ∀ t', σ.tok t' = none → Kk (.own t' sz (l ++ l2)) (σ.newTok (some k) t' (el, sz))) : AOp P o α σ Kk :=
 jV_ ho hse hte (.inl ⟨k, hs, hk, rfl⟩) (.inl hx) hone hlen h
theorem be_ {d : Tmp} {s x : Operand} {t el : TypeId} {sz by_ k : Nat} {l l2 : List AVal} (hg : o.guard = none) (hd : o.dst = some d) (ho : o.op = .call { callee := .builtin .append, args := #[s, x], argTypes := #[t, t] }) (hse : aE_ P t = some el) (hte : a5_ P el = some (sz, by_))
  (hs : aev e s = .own k sz l) (hk : σ.tok k = some (el, sz)) (hx : slOf (aev e x) = some (sz, l2)) (hone : ∀ y ∈ l2, ∀ c ∈ y.cells, c.one = true) (hlen : (l.length + l2.length) * by_ ≤ 140737488355328)
  (h : ∀ t', σ.tok t' = none → a1_ P ops Kk rest (upd e d (.own t' sz (l ++ l2))) (σ.newTok (some k) t' (el, sz))) : a1_ P ops Kk (o :: rest) e σ :=
 aL_X hg hd (h9_ ho hse hte hs hk hx hone hlen h)
theorem o0_ {sz : Nat} {tx el : TypeId} {x : AVal} {l2 : List AVal} (hk : P.underlying tx = some (.slice el)) (hx : slOf x = some (sz, l2)) (hone : ∀ y ∈ l2, ∀ c ∈ y.cells, c.one = true) : ASrc P sz tx x l2 := .inl ⟨⟨el, hk⟩, .inl hx, hone⟩
theorem mW_ {tx : TypeId} {s : ByteArray} (hk : P.underlying tx = some .string) : ASrc P 1 tx (.lit (.string s)) (a7_ s) := .inr ⟨hk, rfl, s, rfl, rfl⟩
theorem ci_ {d : Tmp} {x : Operand} (el : TypeId) (sz : Nat) (hg : o.guard = none) (hd : o.dst = some d) (ho : o.op = .assign x) (hx : aev e x = .lit (.slice none 0 0))
  (h : ∀ t', σ.tok t' = none → a1_ P ops Kk rest (upd e d (.own t' sz [])) (σ.newTok none t' (el, sz))) : a1_ P ops Kk (o :: rest) e σ :=
 aL_X hg hd (jZ_ ho hx h)
theorem aD_ {α : Operand → AVal} {Kk : AVal → Store → Prop} {t el : TypeId} {n sz by_ : Nat} {parts : List (Nat × Operand)} {l : List AVal} (ho : o.op = .buildSlice t n parts.toArray) (hse : aE_ P t = some el) (hte : a5_ P el = some (sz, by_)) (hn : parts.length = n)
  (hr : parts.map (·.1) = List.range' 0 parts.length) (hl : (parts.map fun p => α p.2) = l) (hs : ∀ p ∈ parts, (α p.2).solid = true ∧ (α p.2).cells.length = sz) (hbig : n * sz ≤ 16777216) (hk : Kk (.sl sz l true) σ) : AOp P o α σ Kk := by
 subst hl
 exact f0_ ho hse hte hn hr hs hbig hk
theorem aw_ {d : Tmp} {t el : TypeId} {n sz by_ : Nat} {parts : List (Nat × Operand)} {l : List AVal} (hg : o.guard = none) (hd : o.dst = some d) (ho : o.op = .buildSlice t n parts.toArray) (hse : aE_ P t = some el) (hte : a5_ P el = some (sz, by_)) (hn : parts.length = n)
  (hr : parts.map (·.1) = List.range' 0 parts.length) (hl : (parts.map fun p => aev e p.2) = l) (hs : ∀ p ∈ parts, (aev e p.2).solid = true ∧ (aev e p.2).cells.length = sz) (hbig : n * sz ≤ 16777216) (h : a1_ P ops Kk rest (upd e d (.sl sz l true)) σ) : a1_ P ops Kk (o :: rest) e σ :=
 aL_X hg hd (aD_ ho hse hte hn hr hl hs hbig h)
theorem oj_ {σ σ' : Store} {o : Nat} {x : AObj} (h : σ.Sub σ') (ho : σ'.heap o = none) : σ.Sub (σ'.set o x) := ⟨fun i y hy => by
 by_cases hi : i = o
 ·subst hi; rw [h.heap i y hy] at ho; cases ho
 ·rw [Store.set_ne _ _ hi]; exact h.heap i y hy, h.tok⟩
theorem bm_ {d : Tmp} {t : TypeId} {z : Value} {cs : List AVal} (hop : ops[i]? = some o) (hd : o.dst = some d) (hw : aZ_ ops o e = some true) (ho : o.op = .alloc t) (hz : b9_ P t = some z) (hc : bx_ z = cs) (hsub : s0.Sub σ)
  (h : ∀ j, σ.heap j = none → dRun P ops s0 Kk r (upd e d (.ref j 0)) (σ.set j (.cells cs))) : dRun P ops s0 Kk (.op i 1 r) e σ :=
 dR_X hop hd hw (f8_ ho hz hc fun j hj => ⟨oj_ hsub hj, h j hj⟩)
theorem ai_ {rs : List ResultVar} {Q : AVal → Store → Prop} {v : AVal} {σ' : Store} (h : aret P rs e σ = some v) (hs : σ'.Wk σ) (hq : Q v σ') : aEnd P rs Q .ret e σ := ⟨v, v, σ', h, .refl _, hs, hq⟩
theorem aP_ {rs : List ResultVar} {Q : AVal → Store → Prop} {v : AVal} {σ' : Store} (h : aret P rs e σ = some v) (hs : σ'.Wk σ) (hq : Q v σ') : aEnd P rs Q .normal e σ := ⟨v, v, σ', h, .refl _, hs, hq⟩
theorem a6_ {rs : List ResultVar} {Q : AVal → Store → Prop} {v v' : AVal} {σ' : Store} (h : aret P rs e σ = some v') (hw : Wk v' v) (hs : σ'.Wk σ) (hq : Q v σ') : aEnd P rs Q .ret e σ := ⟨v, v', σ', h, hw, hs, hq⟩
end
end Go.Ab
end
