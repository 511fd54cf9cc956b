/-
  WHAT THE TABLES OF TYPES SAY, a closed fact each. Printed by a program of one's own (wip/tools/gen_types.py) off this seat's translation.; SLICES MADE, TAKEN FOR GOOD, COPIED TO BE WRITTEN; THE LAYER IN USE: one step at a time; the rules by which 'aval' is reckoned. Own work (an AI agent).
-/
import Derived.Test.YtcaflcpcbcneiaaGreatGB
import Derived.Test.YtcaflcpcbcneiaaGreatProg
import Derived.KernelRfl
import Derived.Deep.OwnRows
import Derived.Laws.Cover3

section
set_option linter.all false
namespace Go.Proofs
open Go.Ab
abbrev yT (n a : Nat) (b : Bool) : Prop := cC_ Tryz.prog n = some (a, b)
abbrev yZ (n : Nat) (v : Value) : Prop := cD_ Tryz.prog n = some v
abbrev yF (n k a b : Nat) (c : Bool) : Prop := eH_ Tryz.prog n k = some (a, b, c)
abbrev yG (n : Nat) : Prop := isGo Tryz.prog n = true
theorem yP {p q : Prop} (a : p) (b : q) : p ∧ q := ⟨a, b⟩
@[go_sem] theorem yy1 : yT 1 1 false∧yT 2 1 false∧yT 3 1 false∧yT 4 1 false∧yT 5 1 false∧yT 6 1 false∧yT 7 4 true∧yT 8 4 true∧yT 9 1 false∧yT 10 1 false∧yT 11 1 false∧yT 12 1 false∧yT 13 2 true∧yT 14 2 true∧yT 15 1 false∧yT 16 1 false∧yT 17 1 false∧yT 18 1 true∧yT 19 1 true∧yT 20 1 false∧yT 21 1 false∧yT 22 1 false∧yT 23 1 false∧yT 24 2 true∧yT 25 2 true∧yT 26 1 false∧yT 27 1 false∧yT 28 2 true∧yT 29 2 true∧yT 30 2 true := by repeat' (first | refine yP ?_ ?_ | (show _ = _; kernel_rfl))
@[go_sem] theorem yy2 : yT 31 2 true∧yT 32 1 false∧yT 33 1 false∧yT 34 1 false∧yT 35 1 false∧yT 37 1 false∧yT 38 1 false∧yT 39 1 false∧yT 40 3 true∧yT 41 1 false∧yT 42 1 false∧yT 43 1 false∧yT 44 1 false∧yT 45 1 false∧yT 46 1 false∧yT 47 1 false∧yT 49 1 false∧yT 50 1 false∧yT 52 1 false∧yT 53 1 false∧yT 54 3 true∧yT 55 3 true∧yT 56 1 false∧yT 57 2 true∧yT 58 2 true∧yT 59 5 true∧yT 60 5 true∧yT 61 1 false∧yT 62 1 false∧yT 63 1 false := by repeat' (first | refine yP ?_ ?_ | (show _ = _; kernel_rfl))
@[go_sem] theorem yy3 : yT 65 1 false∧yT 66 1 false∧yT 67 1 false∧yT 68 1 false∧yT 69 1 false∧yT 70 1 false∧yT 71 1 false∧yT 72 1 false∧yT 73 1 false∧yT 74 1 false∧yT 75 1 false∧yT 76 1 false∧yT 77 1 false∧yT 79 1 false∧yT 80 1 false∧yT 81 1 false∧yT 82 1 false∧yT 83 1 false∧yT 84 2 true∧yT 85 2 true∧yT 86 1 false∧yT 87 1 false∧yT 88 1 false∧yT 89 1 false∧yT 90 1 false∧yT 91 1 false∧yT 92 1 false∧yT 93 1 false∧yT 94 1 false∧yT 95 3 true := by repeat' (first | refine yP ?_ ?_ | (show _ = _; kernel_rfl))
@[go_sem] theorem yy4 : yT 96 3 true∧yT 97 1 false∧yT 99 1 false∧yT 100 1 false∧yT 101 1 false∧yT 102 1 false∧yT 103 1 false∧yT 104 1 false∧yT 105 1 false∧yT 106 1 false∧yT 107 1 false∧yT 108 1 false∧yT 109 1 false∧yT 110 1 false∧yT 111 1 false∧yT 112 1 false∧yT 114 1 false∧yT 115 1 false∧yT 116 1 false∧yT 117 1 false∧yT 118 1 false∧yT 119 1 false∧yT 120 1 false∧yT 121 1 false∧yT 122 1 false∧yT 123 1 false∧yT 124 1 false∧yT 125 1 false∧yT 126 1 false∧yT 127 1 false := by repeat' (first | refine yP ?_ ?_ | (show _ = _; kernel_rfl))
@[go_sem] theorem yy5 : yT 128 1 false∧yT 129 1 false∧yT 130 1 false∧yT 131 1 false∧yT 132 1 false∧yT 133 1 false∧yT 134 1 false∧yT 135 1 false∧yT 136 1 false∧yT 137 1 false∧yT 138 1 false∧yT 139 1 false∧yT 141 1 false∧yT 142 1 false∧yT 143 1 false∧yT 144 1 false∧yT 145 1 false∧yT 146 1 false∧yT 147 1 false∧yT 148 1 false∧yT 149 1 false∧yT 150 1 false∧yT 151 1 false∧yT 153 1 false∧yT 154 1 false∧yT 155 1 false∧yT 156 1 false∧yT 157 1 false∧yT 158 1 false∧yT 159 1 false := by repeat' (first | refine yP ?_ ?_ | (show _ = _; kernel_rfl))
@[go_sem] theorem yy6 : yT 160 1 false∧yT 161 2 true∧yT 162 2 true∧yT 163 2 true∧yT 164 2 true∧yT 165 1 false∧yT 166 1 false∧yT 167 1 false∧yT 168 1 false∧yT 169 1 false∧yT 170 1 false∧yT 171 1 false∧yT 172 1 false∧yT 173 1 false∧yT 174 1 false∧yT 175 1 false∧yT 176 1 false∧yT 177 1 false∧yT 178 1 false∧yT 179 2 true∧yT 180 2 true∧yT 181 1 false∧yT 182 1 false∧yT 183 1 false∧yT 184 1 false∧yT 185 1 false∧yT 186 1 false∧yT 187 1 false∧yT 188 1 false∧yT 189 1 false := by repeat' (first | refine yP ?_ ?_ | (show _ = _; kernel_rfl))
@[go_sem] theorem yy7 : yT 190 1 false∧yT 191 1 false∧yT 192 1 false∧yT 193 1 false∧yT 194 1 false∧yT 195 1 false∧yT 196 1 false∧yT 198 1 false∧yT 199 1 false∧yT 200 1 false∧yT 201 1 false∧yT 202 1 false∧yT 203 1 false∧yT 204 1 false∧yT 205 1 false∧yT 206 1 false∧yT 207 1 false∧yT 208 1 false∧yT 210 1 false∧yT 211 1 false∧yT 212 1 false∧yT 213 1 false∧yT 214 1 false∧yT 215 1 false∧yT 216 1 false∧yT 217 1 false∧yT 218 1 false∧yT 219 1 false∧yT 220 1 false∧yT 221 1 false := by repeat' (first | refine yP ?_ ?_ | (show _ = _; kernel_rfl))
@[go_sem] theorem yy8 : yT 222 1 false∧yT 223 1 false∧yT 224 8 true∧yT 225 1 false∧yT 226 8 true∧yT 227 1 false∧yT 228 1 false∧yT 229 1 false∧yT 230 1 false∧yT 231 1 false∧yT 232 1 false∧yT 233 1 false∧yT 234 1 false∧yT 235 1 false∧yT 236 1 false∧yT 237 1 false∧yT 238 1 false∧yT 239 1 false∧yT 240 1 false∧yT 241 1 false∧yT 242 1 false∧yT 243 1 false∧yT 244 1 false∧yT 245 1 false∧yT 246 1 false∧yT 247 1 false∧yT 248 1 false∧yT 249 1 false∧yT 250 1 false∧yT 251 1 false := by repeat' (first | refine yP ?_ ?_ | (show _ = _; kernel_rfl))
@[go_sem] theorem yy9 : yT 252 1 false∧yT 253 1 false∧yT 254 1 false∧yT 255 1 false∧yT 256 1 false∧yT 257 1 false∧yT 258 64 true∧yT 259 1 false∧yT 260 1 false∧yT 261 1 false∧yT 262 1 false∧yT 263 64 true∧yT 264 1 false∧yT 265 1 false∧yT 266 1 false∧yT 267 1 false∧yT 268 1 false∧yT 269 1 false∧yT 270 1 false∧yT 271 1 false∧yT 272 1 false∧yT 273 1 false∧yT 275 1 false∧yT 276 1 false∧yT 277 1 false∧yT 279 1 false∧yT 280 1 false∧yT 281 1 false∧yT 282 1 false∧yT 283 1 false := by repeat' (first | refine yP ?_ ?_ | (show _ = _; kernel_rfl))
@[go_sem] theorem yy10 : yT 284 1 false∧yT 285 1 false∧yT 286 1 false∧yT 287 4 true∧yT 288 4 true∧yT 289 0 true∧yT 290 0 true∧yT 291 0 true∧yT 292 1 false∧yT 293 1 false∧yT 294 1 false∧yT 295 1 false∧yT 296 1 false∧yT 297 11 true∧yT 298 11 true := by repeat' (first | refine yP ?_ ?_ | (show _ = _; kernel_rfl))
@[go_sem] theorem yy11 : yZ 1 (.nilFunc)∧yZ 2 (.int .i64 0)∧yZ 3 (.int .i64 0)∧yZ 4 (.bool false)∧yZ 5 (.int .u8 0)∧yZ 6 (.int .u8 0)∧yZ 7 (.agg #[.int .i64 0, .int .i64 0, .bool false, .int .u8 0])∧yZ 8 (.agg #[.int .i64 0, .int .i64 0, .bool false, .int .u8 0])∧yZ 9 (.string ⟨#[]⟩)∧yZ 10 (.string ⟨#[]⟩)∧yZ 11 (.string ⟨#[]⟩)∧yZ 12 (.int .u64 0)∧yZ 13 (.agg #[.string ⟨#[]⟩, .int .u64 0])∧yZ 14 (.agg #[.string ⟨#[]⟩, .int .u64 0])∧yZ 15 (.pointer none)∧yZ 16 (.pointer none)∧yZ 17 (.pointer none)∧yZ 18 (.agg #[.pointer none])∧yZ 19 (.agg #[.pointer none])∧yZ 20 (.nilIface)∧yZ 21 (.int .i32 0)∧yZ 22 (.slice none 0 0)∧yZ 23 (.slice none 0 0)∧yZ 24 (.agg #[.slice none 0 0, .slice none 0 0])∧yZ 25 (.agg #[.slice none 0 0, .slice none 0 0])∧yZ 26 (.slice none 0 0)∧yZ 27 (.slice none 0 0)∧yZ 28 (.agg #[.slice none 0 0, .slice none 0 0])∧yZ 29 (.agg #[.slice none 0 0, .slice none 0 0])∧yZ 30 (.agg #[.string ⟨#[]⟩, .int .i64 0]) := by repeat' (first | refine yP ?_ ?_ | (show _ = _; kernel_rfl))
@[go_sem] theorem yy12 : yZ 31 (.agg #[.string ⟨#[]⟩, .int .i64 0])∧yZ 32 (.nilFunc)∧yZ 33 (.nilFunc)∧yZ 34 (.nilFunc)∧yZ 35 (.int .i64 0)∧yZ 37 (.nilFunc)∧yZ 38 (.nilFunc)∧yZ 39 (.nilFunc)∧yZ 40 (.agg #[.int .i64 0, .int .i64 0, .int .i64 0])∧yZ 41 (.nilFunc)∧yZ 42 (.slice none 0 0)∧yZ 43 (.nilFunc)∧yZ 44 (.nilFunc)∧yZ 45 (.nilFunc)∧yZ 46 (.nilFunc)∧yZ 47 (.nilFunc)∧yZ 49 (.nilFunc)∧yZ 50 (.nilFunc)∧yZ 52 (.nilFunc)∧yZ 53 (.nilFunc)∧yZ 54 (.agg #[.string ⟨#[]⟩, .slice none 0 0, .slice none 0 0])∧yZ 55 (.agg #[.string ⟨#[]⟩, .slice none 0 0, .slice none 0 0])∧yZ 56 (.nilFunc)∧yZ 57 (.agg #[.string ⟨#[]⟩, .int .i64 0])∧yZ 58 (.agg #[.string ⟨#[]⟩, .int .i64 0])∧yZ 59 (.agg #[.string ⟨#[]⟩, .int .i64 0, .string ⟨#[]⟩, .bool false, .int .i64 0])∧yZ 60 (.agg #[.string ⟨#[]⟩, .int .i64 0, .string ⟨#[]⟩, .bool false, .int .i64 0])∧yZ 61 (.nilFunc)∧yZ 62 (.nilFunc)∧yZ 63 (.nilFunc) := by repeat' (first | refine yP ?_ ?_ | (show _ = _; kernel_rfl))
@[go_sem] theorem yy13 : yZ 65 (.nilFunc)∧yZ 66 (.nilFunc)∧yZ 67 (.nilFunc)∧yZ 68 (.nilFunc)∧yZ 69 (.nilFunc)∧yZ 70 (.nilFunc)∧yZ 71 (.nilFunc)∧yZ 72 (.nilFunc)∧yZ 73 (.nilFunc)∧yZ 74 (.nilFunc)∧yZ 75 (.nilFunc)∧yZ 76 (.nilFunc)∧yZ 77 (.nilFunc)∧yZ 79 (.nilFunc)∧yZ 80 (.nilFunc)∧yZ 81 (.nilFunc)∧yZ 82 (.nilFunc)∧yZ 83 (.pointer none)∧yZ 84 (.agg #[.string ⟨#[]⟩, .bool false])∧yZ 85 (.agg #[.string ⟨#[]⟩, .bool false])∧yZ 86 (.nilFunc)∧yZ 87 (.nilFunc)∧yZ 88 (.nilFunc)∧yZ 89 (.nilFunc)∧yZ 90 (.nilFunc)∧yZ 91 (.nilFunc)∧yZ 92 (.nilFunc)∧yZ 93 (.nilFunc)∧yZ 94 (.slice none 0 0)∧yZ 95 (.agg #[.string ⟨#[]⟩, .int .i64 0, .slice none 0 0]) := by repeat' (first | refine yP ?_ ?_ | (show _ = _; kernel_rfl))
@[go_sem] theorem yy14 : yZ 96 (.agg #[.string ⟨#[]⟩, .int .i64 0, .slice none 0 0])∧yZ 97 (.nilFunc)∧yZ 99 (.nilFunc)∧yZ 100 (.nilFunc)∧yZ 101 (.nilFunc)∧yZ 102 (.nilFunc)∧yZ 103 (.nilFunc)∧yZ 104 (.nilFunc)∧yZ 105 (.nilFunc)∧yZ 106 (.nilFunc)∧yZ 107 (.nilFunc)∧yZ 108 (.nilFunc)∧yZ 109 (.nilFunc)∧yZ 110 (.pointer none)∧yZ 111 (.nilFunc)∧yZ 112 (.nilFunc)∧yZ 114 (.nilFunc)∧yZ 115 (.nilFunc)∧yZ 116 (.nilFunc)∧yZ 117 (.nilFunc)∧yZ 118 (.nilFunc)∧yZ 119 (.nilFunc)∧yZ 120 (.nilFunc)∧yZ 121 (.nilFunc)∧yZ 122 (.nilFunc)∧yZ 123 (.nilFunc)∧yZ 124 (.nilFunc)∧yZ 125 (.nilFunc)∧yZ 126 (.nilFunc)∧yZ 127 (.nilFunc) := by repeat' (first | refine yP ?_ ?_ | (show _ = _; kernel_rfl))
@[go_sem] theorem yy15 : yZ 128 (.nilFunc)∧yZ 129 (.nilFunc)∧yZ 130 (.nilFunc)∧yZ 131 (.nilFunc)∧yZ 132 (.nilFunc)∧yZ 133 (.pointer none)∧yZ 134 (.nilFunc)∧yZ 135 (.nilFunc)∧yZ 136 (.nilFunc)∧yZ 137 (.int .u64 0)∧yZ 138 (.nilFunc)∧yZ 139 (.nilFunc)∧yZ 141 (.nilFunc)∧yZ 142 (.nilFunc)∧yZ 143 (.nilFunc)∧yZ 144 (.nilFunc)∧yZ 145 (.nilFunc)∧yZ 146 (.nilFunc)∧yZ 147 (.nilFunc)∧yZ 148 (.nilFunc)∧yZ 149 (.nilFunc)∧yZ 150 (.slice none 0 0)∧yZ 151 (.nilFunc)∧yZ 153 (.nilFunc)∧yZ 154 (.nilFunc)∧yZ 155 (.nilFunc)∧yZ 156 (.nilFunc)∧yZ 157 (.nilFunc)∧yZ 158 (.nilFunc)∧yZ 159 (.pointer none) := by repeat' (first | refine yP ?_ ?_ | (show _ = _; kernel_rfl))
@[go_sem] theorem yy16 : yZ 160 (.slice none 0 0)∧yZ 161 (.agg #[.pointer none, .slice none 0 0])∧yZ 162 (.agg #[.pointer none, .slice none 0 0])∧yZ 163 (.agg #[.pointer none, .slice none 0 0])∧yZ 164 (.agg #[.pointer none, .slice none 0 0])∧yZ 165 (.nilFunc)∧yZ 166 (.nilFunc)∧yZ 167 (.nilFunc)∧yZ 168 (.nilFunc)∧yZ 169 (.nilFunc)∧yZ 170 (.nilFunc)∧yZ 171 (.nilFunc)∧yZ 172 (.nilFunc)∧yZ 173 (.nilFunc)∧yZ 174 (.nilFunc)∧yZ 175 (.nilFunc)∧yZ 176 (.nilFunc)∧yZ 177 (.nilFunc)∧yZ 178 (.nilFunc)∧yZ 179 (.agg #[.string ⟨#[]⟩, .bool false])∧yZ 180 (.agg #[.string ⟨#[]⟩, .bool false])∧yZ 181 (.nilFunc)∧yZ 182 (.nilFunc)∧yZ 183 (.nilFunc)∧yZ 184 (.nilFunc)∧yZ 185 (.slice none 0 0)∧yZ 186 (.nilFunc)∧yZ 187 (.nilFunc)∧yZ 188 (.nilFunc)∧yZ 189 (.nilFunc) := by repeat' (first | refine yP ?_ ?_ | (show _ = _; kernel_rfl))
@[go_sem] theorem yy17 : yZ 190 (.nilFunc)∧yZ 191 (.nilFunc)∧yZ 192 (.nilFunc)∧yZ 193 (.nilFunc)∧yZ 194 (.nilFunc)∧yZ 195 (.nilFunc)∧yZ 196 (.int .i64 0)∧yZ 198 (.nilFunc)∧yZ 199 (.nilFunc)∧yZ 200 (.nilFunc)∧yZ 201 (.nilFunc)∧yZ 202 (.nilFunc)∧yZ 203 (.int .u32 0)∧yZ 204 (.nilFunc)∧yZ 205 (.int .u64 0)∧yZ 206 (.nilFunc)∧yZ 207 (.nilIface)∧yZ 208 (.nilIface)∧yZ 210 (.nilFunc)∧yZ 211 (.nilFunc)∧yZ 212 (.nilFunc)∧yZ 213 (.nilFunc)∧yZ 214 (.pointer none)∧yZ 215 (.nilFunc)∧yZ 216 (.nilFunc)∧yZ 217 (.nilFunc)∧yZ 218 (.nilFunc)∧yZ 219 (.nilFunc)∧yZ 220 (.nilFunc)∧yZ 221 (.nilFunc) := by repeat' (first | refine yP ?_ ?_ | (show _ = _; kernel_rfl))
@[go_sem] theorem yy18 : yZ 222 (.nilFunc)∧yZ 223 (.nilFunc)∧yZ 224 (.agg #[.int .u32 0, .int .u32 0, .int .u32 0, .int .u32 0, .int .u32 0, .int .u32 0, .int .u32 0, .int .u32 0])∧yZ 225 (.nilFunc)∧yZ 226 (.agg #[.int .i64 0, .int .i64 0, .int .i64 0, .int .i64 0, .int .i64 0, .int .i64 0, .int .i64 0, .int .i64 0])∧yZ 227 (.nilFunc)∧yZ 228 (.nilFunc)∧yZ 229 (.nilFunc)∧yZ 230 (.nilFunc)∧yZ 231 (.nilFunc)∧yZ 232 (.nilFunc)∧yZ 233 (.nilFunc)∧yZ 234 (.nilFunc)∧yZ 235 (.nilFunc)∧yZ 236 (.slice none 0 0)∧yZ 237 (.nilFunc)∧yZ 238 (.nilFunc)∧yZ 239 (.nilFunc)∧yZ 240 (.int .u64 0)∧yZ 241 (.nilFunc)∧yZ 242 (.nilFunc)∧yZ 243 (.nilFunc)∧yZ 244 (.pointer none)∧yZ 245 (.nilFunc)∧yZ 246 (.nilFunc)∧yZ 247 (.nilFunc)∧yZ 248 (.nilFunc)∧yZ 249 (.nilFunc)∧yZ 250 (.nilFunc)∧yZ 251 (.nilFunc) := by repeat' (first | refine yP ?_ ?_ | (show _ = _; kernel_rfl))
@[go_sem] theorem yy19 : yZ 252 (.nilFunc)∧yZ 253 (.nilFunc)∧yZ 254 (.nilFunc)∧yZ 255 (.nilFunc)∧yZ 256 (.nilFunc)∧yZ 257 (.nilFunc)∧yZ 258 (.agg #[.int .u32 0, .int .u32 0, .int .u32 0, .int .u32 0, .int .u32 0, .int .u32 0, .int .u32 0, .int .u32 0, .int .u32 0, .int .u32 0, .int .u32 0, .int .u32 0, .int .u32 0, .int .u32 0, .int .u32 0, .int .u32 0, .int .u32 0, .int .u32 0, .int .u32 0, .int .u32 0, .int .u32 0, .int .u32 0, .int .u32 0, .int .u32 0, .int .u32 0, .int .u32 0, .int .u32 0, .int .u32 0, .int .u32 0, .int .u32 0, .int .u32 0, .int .u32 0, .int .u32 0, .int .u32 0, .int .u32 0, .int .u32 0, .int .u32 0, .int .u32 0, .int .u32 0, .int .u32 0, .int .u32 0, .int .u32 0, .int .u32 0, .int .u32 0, .int .u32 0, .int .u32 0, .int .u32 0, .int .u32 0, .int .u32 0, .int .u32 0, .int .u32 0, .int .u32 0, .int .u32 0, .int .u32 0, .int .u32 0, .int .u32 0, .int .u32 0, .int .u32 0, .int .u32 0, .int .u32 0, .int .u32 0, .int .u32 0, .int .u32 0, .int .u32 0])∧yZ 259 (.nilFunc)∧yZ 260 (.nilFunc)∧yZ 261 (.nilFunc)∧yZ 262 (.nilFunc)∧yZ 263 (.agg #[.int .i64 0, .int .i64 0, .int .i64 0, .int .i64 0, .int .i64 0, .int .i64 0, .int .i64 0, .int .i64 0, .int .i64 0, .int .i64 0, .int .i64 0, .int .i64 0, .int .i64 0, .int .i64 0, .int .i64 0, .int .i64 0, .int .i64 0, .int .i64 0, .int .i64 0, .int .i64 0, .int .i64 0, .int .i64 0, .int .i64 0, .int .i64 0, .int .i64 0, .int .i64 0, .int .i64 0, .int .i64 0, .int .i64 0, .int .i64 0, .int .i64 0, .int .i64 0, .int .i64 0, .int .i64 0, .int .i64 0, .int .i64 0, .int .i64 0, .int .i64 0, .int .i64 0, .int .i64 0, .int .i64 0, .int .i64 0, .int .i64 0, .int .i64 0, .int .i64 0, .int .i64 0, .int .i64 0, .int .i64 0, .int .i64 0, .int .i64 0, .int .i64 0, .int .i64 0, .int .i64 0, .int .i64 0, .int .i64 0, .int .i64 0, .int .i64 0, .int .i64 0, .int .i64 0, .int .i64 0, .int .i64 0, .int .i64 0, .int .i64 0, .int .i64 0])∧yZ 264 (.nilFunc)∧yZ 265 (.nilFunc)∧yZ 266 (.nilFunc)∧yZ 267 (.nilFunc)∧yZ 268 (.nilFunc)∧yZ 269 (.nilFunc)∧yZ 270 (.nilFunc)∧yZ 271 (.nilFunc)∧yZ 272 (.nilFunc)∧yZ 273 (.pointer none)∧yZ 275 (.nilFunc)∧yZ 276 (.pointer none)∧yZ 277 (.nilFunc)∧yZ 279 (.nilFunc)∧yZ 280 (.nilFunc)∧yZ 281 (.nilFunc)∧yZ 282 (.nilFunc)∧yZ 283 (.nilFunc) := by repeat' (first | refine yP ?_ ?_ | (show _ = _; kernel_rfl))
@[go_sem] theorem yy20 : yZ 284 (.nilFunc)∧yZ 285 (.nilFunc)∧yZ 286 (.nilFunc)∧yZ 287 (.agg #[.pointer none, .pointer none, .pointer none, .string ⟨#[]⟩])∧yZ 288 (.agg #[.pointer none, .pointer none, .pointer none, .string ⟨#[]⟩])∧yZ 289 (.agg #[])∧yZ 290 (.agg #[])∧yZ 291 (.agg #[])∧yZ 292 (.int .u8 0)∧yZ 293 (.int .u8 0)∧yZ 294 (.nilFunc)∧yZ 295 (.int .i32 0)∧yZ 296 (.int .i32 0)∧yZ 297 (.agg #[.int .u64 0, .int .u64 0, .int .u32 0, .int .u8 0, .int .u8 0, .int .u8 0, .int .u8 0, .nilFunc, .pointer none, .int .i32 0, .int .i32 0])∧yZ 298 (.agg #[.int .u64 0, .int .u64 0, .int .u32 0, .int .u8 0, .int .u8 0, .int .u8 0, .int .u8 0, .nilFunc, .pointer none, .int .i32 0, .int .i32 0]) := by repeat' (first | refine yP ?_ ?_ | (show _ = _; kernel_rfl))
@[go_sem] theorem yy21 : yF 7 0 0 1 false∧yF 7 1 1 1 false∧yF 7 2 2 1 false∧yF 7 3 3 1 false∧yF 8 0 0 1 false∧yF 8 1 1 1 false∧yF 8 2 2 1 false∧yF 8 3 3 1 false∧yF 13 0 0 1 false∧yF 13 1 1 1 false∧yF 14 0 0 1 false∧yF 14 1 1 1 false∧yF 18 0 0 1 false∧yF 19 0 0 1 false∧yF 24 0 0 1 false∧yF 24 1 1 1 false∧yF 25 0 0 1 false∧yF 25 1 1 1 false∧yF 28 0 0 1 false∧yF 28 1 1 1 false∧yF 29 0 0 1 false∧yF 29 1 1 1 false∧yF 30 0 0 1 false∧yF 30 1 1 1 false∧yF 31 0 0 1 false∧yF 31 1 1 1 false∧yF 54 0 0 1 false∧yF 54 1 1 2 true∧yF 55 0 0 1 false∧yF 55 1 1 2 true := by repeat' (first | refine yP ?_ ?_ | (show _ = _; kernel_rfl))
@[go_sem] theorem yy22 : yF 57 0 0 1 false∧yF 57 1 1 1 false∧yF 58 0 0 1 false∧yF 58 1 1 1 false∧yF 59 0 0 2 true∧yF 59 1 2 1 false∧yF 59 2 3 1 false∧yF 59 3 4 1 false∧yF 60 0 0 2 true∧yF 60 1 2 1 false∧yF 60 2 3 1 false∧yF 60 3 4 1 false∧yF 84 0 0 1 false∧yF 84 1 1 1 false∧yF 85 0 0 1 false∧yF 85 1 1 1 false∧yF 95 0 0 1 false∧yF 95 1 1 1 false∧yF 95 2 2 1 false∧yF 96 0 0 1 false∧yF 96 1 1 1 false∧yF 96 2 2 1 false∧yF 161 0 0 1 false∧yF 161 1 1 1 false∧yF 162 0 0 1 false∧yF 162 1 1 1 false∧yF 163 0 0 2 true∧yF 164 0 0 2 true∧yF 179 0 0 1 false∧yF 179 1 1 1 false := by repeat' (first | refine yP ?_ ?_ | (show _ = _; kernel_rfl))
@[go_sem] theorem yy23 : yF 180 0 0 1 false∧yF 180 1 1 1 false∧yF 287 0 0 1 false∧yF 287 1 1 1 false∧yF 287 2 2 1 false∧yF 287 3 3 1 false∧yF 288 0 0 1 false∧yF 288 1 1 1 false∧yF 288 2 2 1 false∧yF 288 3 3 1 false∧yF 290 0 0 0 true∧yF 291 0 0 0 true∧yF 297 0 0 1 false∧yF 297 1 1 1 false∧yF 297 2 2 1 false∧yF 297 3 3 1 false∧yF 297 4 4 1 false∧yF 297 5 5 1 false∧yF 297 6 6 1 false∧yF 297 7 7 1 false∧yF 297 8 8 1 false∧yF 297 9 9 1 false∧yF 297 10 10 1 false∧yF 298 0 0 1 false∧yF 298 1 1 1 false∧yF 298 2 2 1 false∧yF 298 3 3 1 false∧yF 298 4 4 1 false∧yF 298 5 5 1 false∧yF 298 6 6 1 false := by repeat' (first | refine yP ?_ ?_ | (show _ = _; kernel_rfl))
@[go_sem] theorem yy24 : yF 298 7 7 1 false∧yF 298 8 8 1 false∧yF 298 9 9 1 false∧yF 298 10 10 1 false := by repeat' (first | refine yP ?_ ?_ | (show _ = _; kernel_rfl))
@[go_sem] theorem yy25 : yG 3∧yG 4∧yG 5∧yG 6∧yG 7∧yG 8∧yG 9∧yG 10∧yG 11∧yG 12∧yG 13∧yG 14∧yG 15∧yG 16∧yG 17∧yG 18∧yG 19∧yG 20∧yG 21∧yG 22∧yG 23∧yG 24∧yG 25∧yG 26∧yG 27∧yG 28∧yG 29∧yG 30∧yG 31∧yG 32 := by repeat' (first | refine yP ?_ ?_ | (show _ = _; kernel_rfl))
@[go_sem] theorem yy26 : yG 33∧yG 34∧yG 35∧yG 36∧yG 37∧yG 38∧yG 39∧yG 40∧yG 41∧yG 42∧yG 43∧yG 44∧yG 45∧yG 46∧yG 47∧yG 48∧yG 49∧yG 50∧yG 51∧yG 52∧yG 53∧yG 54∧yG 55∧yG 56∧yG 57∧yG 58∧yG 59∧yG 60∧yG 61∧yG 62 := by repeat' (first | refine yP ?_ ?_ | (show _ = _; kernel_rfl))
@[go_sem] theorem yy27 : yG 63∧yG 64∧yG 65∧yG 66∧yG 67∧yG 68∧yG 69∧yG 70∧yG 71∧yG 72∧yG 73∧yG 74∧yG 75∧yG 76∧yG 77∧yG 78∧yG 79∧yG 80∧yG 81∧yG 82∧yG 83∧yG 84∧yG 85∧yG 86∧yG 87∧yG 88∧yG 89∧yG 90∧yG 91∧yG 92 := by repeat' (first | refine yP ?_ ?_ | (show _ = _; kernel_rfl))
@[go_sem] theorem yy28 : yG 93∧yG 94∧yG 95∧yG 96∧yG 97∧yG 98∧yG 99∧yG 100∧yG 101∧yG 102∧yG 103∧yG 104∧yG 105∧yG 106∧yG 107∧yG 108∧yG 109∧yG 110∧yG 111∧yG 112∧yG 113∧yG 114∧yG 115∧yG 116∧yG 117∧yG 118∧yG 119∧yG 120∧yG 121∧yG 122 := by repeat' (first | refine yP ?_ ?_ | (show _ = _; kernel_rfl))
@[go_sem] theorem yy29 : yG 123∧yG 124∧yG 125∧yG 126∧yG 127∧yG 128∧yG 129∧yG 130∧yG 131∧yG 132∧yG 133∧yG 134∧yG 135∧yG 136∧yG 137∧yG 138∧yG 139∧yG 140∧yG 141∧yG 142∧yG 143∧yG 144∧yG 145∧yG 146∧yG 147∧yG 148∧yG 149∧yG 150∧yG 151∧yG 152 := by repeat' (first | refine yP ?_ ?_ | (show _ = _; kernel_rfl))
@[go_sem] theorem yy30 : yG 153∧yG 154∧yG 155∧yG 156∧yG 157∧yG 158∧yG 159∧yG 160∧yG 161∧yG 162∧yG 163∧yG 164∧yG 165∧yG 166∧yG 167∧yG 168∧yG 169∧yG 170∧yG 171∧yG 172∧yG 173∧yG 174∧yG 175∧yG 176∧yG 177∧yG 178∧yG 179∧yG 180∧yG 181∧yG 182 := by repeat' (first | refine yP ?_ ?_ | (show _ = _; kernel_rfl))
@[go_sem] theorem yy31 : yG 183∧yG 184∧yG 185∧yG 186∧yG 187∧yG 188∧yG 189∧yG 190∧yG 191∧yG 192∧yG 193∧yG 194∧yG 195∧yG 196∧yG 197∧yG 198∧yG 199∧yG 200∧yG 201∧yG 202∧yG 203∧yG 204∧yG 205∧yG 206∧yG 207∧yG 208∧yG 209∧yG 210∧yG 211∧yG 212 := by repeat' (first | refine yP ?_ ?_ | (show _ = _; kernel_rfl))
@[go_sem] theorem yy32 : yG 213∧yG 214∧yG 215∧yG 216∧yG 217∧yG 218∧yG 219∧yG 220∧yG 221∧yG 222∧yG 223∧yG 224∧yG 225∧yG 226∧yG 227∧yG 228∧yG 229∧yG 230∧yG 231∧yG 232∧yG 233∧yG 234∧yG 235∧yG 236∧yG 237∧yG 238∧yG 239∧yG 240∧yG 241∧yG 242 := by repeat' (first | refine yP ?_ ?_ | (show _ = _; kernel_rfl))
@[go_sem] theorem yy33 : yG 243∧yG 244∧yG 245∧yG 246∧yG 247∧yG 248∧yG 249∧yG 250∧yG 251∧yG 252∧yG 253∧yG 255∧yG 256∧yG 257∧yG 259∧yG 260∧yG 262∧yG 263∧yG 264∧yG 265∧yG 266∧yG 267∧yG 268∧yG 269∧yG 270∧yG 271∧yG 272∧yG 273∧yG 274∧yG 275 := by repeat' (first | refine yP ?_ ?_ | (show _ = _; kernel_rfl))
@[go_sem] theorem yy34 : yG 276∧yG 277∧yG 278∧yG 279∧yG 280∧yG 281∧yG 282∧yG 283∧yG 285∧yG 287∧yG 288∧yG 290∧yG 291∧yG 292∧yG 293∧yG 294∧yG 295∧yG 296∧yG 297∧yG 298∧yG 299 := by repeat' (first | refine yP ?_ ?_ | (show _ = _; kernel_rfl))
@[go_sem] theorem Tryz.api3 : a6_ Tryz.prog 3 = some (1, 8) := by kernel_rfl
@[go_sem] theorem Tryz.api5 : a6_ Tryz.prog 5 = some (1, 1) := by kernel_rfl
@[go_sem] theorem Tryz.abi7 : aI_ Tryz.prog 7 = some ([(0, 1), (1, 1), (2, 1), (3, 1)], 0, [.int .i64 0, .int .i64 0, .bool false, .int .u8 0]) := by kernel_rfl
@[go_sem] theorem Tryz.abi8 : aI_ Tryz.prog 8 = some ([(0, 1), (1, 1), (2, 1), (3, 1)], 0, [.int .i64 0, .int .i64 0, .bool false, .int .u8 0]) := by kernel_rfl
@[go_sem] theorem Tryz.ais9 : a4_ Tryz.prog 9 = true := by kernel_rfl
@[go_sem] theorem Tryz.api9 : a6_ Tryz.prog 9 = some (1, 16) := by kernel_rfl
@[go_sem] theorem Tryz.ais10 : a4_ Tryz.prog 10 = true := by kernel_rfl
@[go_sem] theorem Tryz.ais11 : a4_ Tryz.prog 11 = true := by kernel_rfl
@[go_sem] theorem Tryz.abi13 : aI_ Tryz.prog 13 = some ([(0, 1), (1, 1)], 0, [.string ⟨#[]⟩, .int .u64 0]) := by kernel_rfl
@[go_sem] theorem Tryz.abi14 : aI_ Tryz.prog 14 = some ([(0, 1), (1, 1)], 0, [.string ⟨#[]⟩, .int .u64 0]) := by kernel_rfl
@[go_sem] theorem Tryz.abi18 : aI_ Tryz.prog 18 = some ([(0, 1)], 0, [.pointer none]) := by kernel_rfl
@[go_sem] theorem Tryz.abi19 : aI_ Tryz.prog 19 = some ([(0, 1)], 0, [.pointer none]) := by kernel_rfl
@[go_sem] theorem Tryz.ais22 : a4_ Tryz.prog 22 = false := by kernel_rfl
@[go_sem] theorem Tryz.ase22 : aA_ Tryz.prog 22 = some 55 := by kernel_rfl
@[go_sem] theorem Tryz.ais23 : a4_ Tryz.prog 23 = false := by kernel_rfl
@[go_sem] theorem Tryz.ase23 : aA_ Tryz.prog 23 = some 31 := by kernel_rfl
@[go_sem] theorem Tryz.abi24 : aI_ Tryz.prog 24 = some ([(0, 1), (1, 1)], 0, [.slice none 0 0, .slice none 0 0]) := by kernel_rfl
@[go_sem] theorem Tryz.abi25 : aI_ Tryz.prog 25 = some ([(0, 1), (1, 1)], 0, [.slice none 0 0, .slice none 0 0]) := by kernel_rfl
@[go_sem] theorem Tryz.ais26 : a4_ Tryz.prog 26 = false := by kernel_rfl
@[go_sem] theorem Tryz.api26 : a6_ Tryz.prog 26 = some (1, 24) := by kernel_rfl
@[go_sem] theorem Tryz.ase26 : aA_ Tryz.prog 26 = some 96 := by kernel_rfl
@[go_sem] theorem Tryz.ais27 : a4_ Tryz.prog 27 = false := by kernel_rfl
@[go_sem] theorem Tryz.api27 : a6_ Tryz.prog 27 = some (1, 24) := by kernel_rfl
@[go_sem] theorem Tryz.ase27 : aA_ Tryz.prog 27 = some 60 := by kernel_rfl
@[go_sem] theorem Tryz.abi28 : aI_ Tryz.prog 28 = some ([(0, 1), (1, 1)], 0, [.slice none 0 0, .slice none 0 0]) := by kernel_rfl
@[go_sem] theorem Tryz.abi29 : aI_ Tryz.prog 29 = some ([(0, 1), (1, 1)], 0, [.slice none 0 0, .slice none 0 0]) := by kernel_rfl
@[go_sem] theorem Tryz.abi30 : aI_ Tryz.prog 30 = some ([(0, 1), (1, 1)], 0, [.string ⟨#[]⟩, .int .i64 0]) := by kernel_rfl
@[go_sem] theorem Tryz.api31 : a6_ Tryz.prog 31 = some (2, 24) := by kernel_rfl
@[go_sem] theorem Tryz.abi31 : aI_ Tryz.prog 31 = some ([(0, 1), (1, 1)], 0, [.string ⟨#[]⟩, .int .i64 0]) := by kernel_rfl
@[go_sem] theorem Tryz.ais40 : a4_ Tryz.prog 40 = false := by kernel_rfl
@[go_sem] theorem Tryz.aal40 : cs_ Tryz.prog 40 = some (3, 3) := by kernel_rfl
@[go_sem] theorem Tryz.abi40 : aI_ Tryz.prog 40 = some ([], 1, [.int .i64 0, .int .i64 0, .int .i64 0]) := by kernel_rfl
@[go_sem] theorem Tryz.ais42 : a4_ Tryz.prog 42 = false := by kernel_rfl
@[go_sem] theorem Tryz.ase42 : aA_ Tryz.prog 42 = some 9 := by kernel_rfl
@[go_sem] theorem Tryz.abi54 : aI_ Tryz.prog 54 = some ([(0, 1), (1, 2)], 0, [.string ⟨#[]⟩, .slice none 0 0, .slice none 0 0]) := by kernel_rfl
@[go_sem] theorem Tryz.api55 : a6_ Tryz.prog 55 = some (3, 64) := by kernel_rfl
@[go_sem] theorem Tryz.abi55 : aI_ Tryz.prog 55 = some ([(0, 1), (1, 2)], 0, [.string ⟨#[]⟩, .slice none 0 0, .slice none 0 0]) := by kernel_rfl
@[go_sem] theorem Tryz.abi57 : aI_ Tryz.prog 57 = some ([(0, 1), (1, 1)], 0, [.string ⟨#[]⟩, .int .i64 0]) := by kernel_rfl
@[go_sem] theorem Tryz.abi58 : aI_ Tryz.prog 58 = some ([(0, 1), (1, 1)], 0, [.string ⟨#[]⟩, .int .i64 0]) := by kernel_rfl
@[go_sem] theorem Tryz.abi59 : aI_ Tryz.prog 59 = some ([(0, 2), (2, 1), (3, 1), (4, 1)], 0, [.string ⟨#[]⟩, .int .i64 0, .string ⟨#[]⟩, .bool false, .int .i64 0]) := by kernel_rfl
@[go_sem] theorem Tryz.api60 : a6_ Tryz.prog 60 = some (5, 56) := by kernel_rfl
@[go_sem] theorem Tryz.abi60 : aI_ Tryz.prog 60 = some ([(0, 2), (2, 1), (3, 1), (4, 1)], 0, [.string ⟨#[]⟩, .int .i64 0, .string ⟨#[]⟩, .bool false, .int .i64 0]) := by kernel_rfl
@[go_sem] theorem Tryz.abi84 : aI_ Tryz.prog 84 = some ([(0, 1), (1, 1)], 0, [.string ⟨#[]⟩, .bool false]) := by kernel_rfl
@[go_sem] theorem Tryz.abi85 : aI_ Tryz.prog 85 = some ([(0, 1), (1, 1)], 0, [.string ⟨#[]⟩, .bool false]) := by kernel_rfl
@[go_sem] theorem Tryz.ais94 : a4_ Tryz.prog 94 = false := by kernel_rfl
@[go_sem] theorem Tryz.api94 : a6_ Tryz.prog 94 = some (1, 24) := by kernel_rfl
@[go_sem] theorem Tryz.ase94 : aA_ Tryz.prog 94 = some 3 := by kernel_rfl
@[go_sem] theorem Tryz.abi95 : aI_ Tryz.prog 95 = some ([(0, 1), (1, 1), (2, 1)], 0, [.string ⟨#[]⟩, .int .i64 0, .slice none 0 0]) := by kernel_rfl
@[go_sem] theorem Tryz.api96 : a6_ Tryz.prog 96 = some (3, 48) := by kernel_rfl
@[go_sem] theorem Tryz.abi96 : aI_ Tryz.prog 96 = some ([(0, 1), (1, 1), (2, 1)], 0, [.string ⟨#[]⟩, .int .i64 0, .slice none 0 0]) := by kernel_rfl
@[go_sem] theorem Tryz.ais150 : a4_ Tryz.prog 150 = false := by kernel_rfl
@[go_sem] theorem Tryz.ase150 : aA_ Tryz.prog 150 = some 27 := by kernel_rfl
@[go_sem] theorem Tryz.ais160 : a4_ Tryz.prog 160 = false := by kernel_rfl
@[go_sem] theorem Tryz.ase160 : aA_ Tryz.prog 160 = some 5 := by kernel_rfl
@[go_sem] theorem Tryz.abi161 : aI_ Tryz.prog 161 = some ([(0, 1), (1, 1)], 0, [.pointer none, .slice none 0 0]) := by kernel_rfl
@[go_sem] theorem Tryz.abi162 : aI_ Tryz.prog 162 = some ([(0, 1), (1, 1)], 0, [.pointer none, .slice none 0 0]) := by kernel_rfl
@[go_sem] theorem Tryz.abi163 : aI_ Tryz.prog 163 = some ([(0, 2)], 0, [.pointer none, .slice none 0 0]) := by kernel_rfl
@[go_sem] theorem Tryz.abi164 : aI_ Tryz.prog 164 = some ([(0, 2)], 0, [.pointer none, .slice none 0 0]) := by kernel_rfl
@[go_sem] theorem Tryz.abi179 : aI_ Tryz.prog 179 = some ([(0, 1), (1, 1)], 0, [.string ⟨#[]⟩, .bool false]) := by kernel_rfl
@[go_sem] theorem Tryz.abi180 : aI_ Tryz.prog 180 = some ([(0, 1), (1, 1)], 0, [.string ⟨#[]⟩, .bool false]) := by kernel_rfl
@[go_sem] theorem Tryz.ais185 : a4_ Tryz.prog 185 = false := by kernel_rfl
@[go_sem] theorem Tryz.ase185 : aA_ Tryz.prog 185 = some 26 := by kernel_rfl
@[go_sem] theorem Tryz.ais224 : a4_ Tryz.prog 224 = false := by kernel_rfl
@[go_sem] theorem Tryz.aal224 : cs_ Tryz.prog 224 = some (8, 203) := by kernel_rfl
@[go_sem] theorem Tryz.abi224 : aI_ Tryz.prog 224 = some ([], 1, [.int .u32 0, .int .u32 0, .int .u32 0, .int .u32 0, .int .u32 0, .int .u32 0, .int .u32 0, .int .u32 0]) := by kernel_rfl
@[go_sem] theorem Tryz.ais226 : a4_ Tryz.prog 226 = false := by kernel_rfl
@[go_sem] theorem Tryz.aal226 : cs_ Tryz.prog 226 = some (8, 3) := by kernel_rfl
@[go_sem] theorem Tryz.abi226 : aI_ Tryz.prog 226 = some ([], 1, [.int .i64 0, .int .i64 0, .int .i64 0, .int .i64 0, .int .i64 0, .int .i64 0, .int .i64 0, .int .i64 0]) := by kernel_rfl
@[go_sem] theorem Tryz.ais236 : a4_ Tryz.prog 236 = false := by kernel_rfl
@[go_sem] theorem Tryz.ase236 : aA_ Tryz.prog 236 = some 94 := by kernel_rfl
@[go_sem] theorem Tryz.ais258 : a4_ Tryz.prog 258 = false := by kernel_rfl
@[go_sem] theorem Tryz.aal258 : cs_ Tryz.prog 258 = some (64, 203) := by kernel_rfl
@[go_sem] theorem Tryz.abi258 : aI_ Tryz.prog 258 = some ([], 1, [.int .u32 0, .int .u32 0, .int .u32 0, .int .u32 0, .int .u32 0, .int .u32 0, .int .u32 0, .int .u32 0, .int .u32 0, .int .u32 0, .int .u32 0, .int .u32 0, .int .u32 0, .int .u32 0, .int .u32 0, .int .u32 0, .int .u32 0, .int .u32 0, .int .u32 0, .int .u32 0, .int .u32 0, .int .u32 0, .int .u32 0, .int .u32 0, .int .u32 0, .int .u32 0, .int .u32 0, .int .u32 0, .int .u32 0, .int .u32 0, .int .u32 0, .int .u32 0, .int .u32 0, .int .u32 0, .int .u32 0, .int .u32 0, .int .u32 0, .int .u32 0, .int .u32 0, .int .u32 0, .int .u32 0, .int .u32 0, .int .u32 0, .int .u32 0, .int .u32 0, .int .u32 0, .int .u32 0, .int .u32 0, .int .u32 0, .int .u32 0, .int .u32 0, .int .u32 0, .int .u32 0, .int .u32 0, .int .u32 0, .int .u32 0, .int .u32 0, .int .u32 0, .int .u32 0, .int .u32 0, .int .u32 0, .int .u32 0, .int .u32 0, .int .u32 0]) := by kernel_rfl
@[go_sem] theorem Tryz.ais263 : a4_ Tryz.prog 263 = false := by kernel_rfl
@[go_sem] theorem Tryz.aal263 : cs_ Tryz.prog 263 = some (64, 3) := by kernel_rfl
@[go_sem] theorem Tryz.abi263 : aI_ Tryz.prog 263 = some ([], 1, [.int .i64 0, .int .i64 0, .int .i64 0, .int .i64 0, .int .i64 0, .int .i64 0, .int .i64 0, .int .i64 0, .int .i64 0, .int .i64 0, .int .i64 0, .int .i64 0, .int .i64 0, .int .i64 0, .int .i64 0, .int .i64 0, .int .i64 0, .int .i64 0, .int .i64 0, .int .i64 0, .int .i64 0, .int .i64 0, .int .i64 0, .int .i64 0, .int .i64 0, .int .i64 0, .int .i64 0, .int .i64 0, .int .i64 0, .int .i64 0, .int .i64 0, .int .i64 0, .int .i64 0, .int .i64 0, .int .i64 0, .int .i64 0, .int .i64 0, .int .i64 0, .int .i64 0, .int .i64 0, .int .i64 0, .int .i64 0, .int .i64 0, .int .i64 0, .int .i64 0, .int .i64 0, .int .i64 0, .int .i64 0, .int .i64 0, .int .i64 0, .int .i64 0, .int .i64 0, .int .i64 0, .int .i64 0, .int .i64 0, .int .i64 0, .int .i64 0, .int .i64 0, .int .i64 0, .int .i64 0, .int .i64 0, .int .i64 0, .int .i64 0, .int .i64 0]) := by kernel_rfl
@[go_sem] theorem Tryz.abi287 : aI_ Tryz.prog 287 = some ([(0, 1), (1, 1), (2, 1), (3, 1)], 0, [.pointer none, .pointer none, .pointer none, .string ⟨#[]⟩]) := by kernel_rfl
@[go_sem] theorem Tryz.abi288 : aI_ Tryz.prog 288 = some ([(0, 1), (1, 1), (2, 1), (3, 1)], 0, [.pointer none, .pointer none, .pointer none, .string ⟨#[]⟩]) := by kernel_rfl
@[go_sem] theorem Tryz.ais289 : a4_ Tryz.prog 289 = false := by kernel_rfl
@[go_sem] theorem Tryz.aal289 : cs_ Tryz.prog 289 = some (0, 16) := by kernel_rfl
@[go_sem] theorem Tryz.abi289 : aI_ Tryz.prog 289 = some ([], 1, []) := by kernel_rfl
@[go_sem] theorem Tryz.abi290 : aI_ Tryz.prog 290 = some ([(0, 0)], 0, []) := by kernel_rfl
@[go_sem] theorem Tryz.abi291 : aI_ Tryz.prog 291 = some ([(0, 0)], 0, []) := by kernel_rfl
@[go_sem] theorem Tryz.abi297 : aI_ Tryz.prog 297 = some ([(0, 1), (1, 1), (2, 1), (3, 1), (4, 1), (5, 1), (6, 1), (7, 1), (8, 1), (9, 1), (10, 1)], 0, [.int .u64 0, .int .u64 0, .int .u32 0, .int .u8 0, .int .u8 0, .int .u8 0, .int .u8 0, .nilFunc, .pointer none, .int .i32 0, .int .i32 0]) := by kernel_rfl
@[go_sem] theorem Tryz.abi298 : aI_ Tryz.prog 298 = some ([(0, 1), (1, 1), (2, 1), (3, 1), (4, 1), (5, 1), (6, 1), (7, 1), (8, 1), (9, 1), (10, 1)], 0, [.int .u64 0, .int .u64 0, .int .u32 0, .int .u8 0, .int .u8 0, .int .u8 0, .int .u8 0, .nilFunc, .pointer none, .int .i32 0, .int .i32 0]) := by kernel_rfl
@[go_sem] theorem Tryz.aeq30 (σ : Store) (c : Bool) (a0 b0 : ByteArray) (a1 b1 : Int) : abin Tryz.prog σ .eql 30 c (.agg [.lit (.string a0), .lit (.int .i64 a1)]) (.agg [.lit (.string b0), .lit (.int .i64 b1)]) = some (.lit (.bool ((decide (a0 = b0)) && ((decide (a1 = b1)) && true)))) := by kernel_rfl
@[go_sem] theorem Tryz.aeqn30 (σ : Store) (c : Bool) (a0 b0 : ByteArray) (a1 b1 : Int) : abin Tryz.prog σ .neq 30 c (.agg [.lit (.string a0), .lit (.int .i64 a1)]) (.agg [.lit (.string b0), .lit (.int .i64 b1)]) = some (.lit (.bool !((decide (a0 = b0)) && ((decide (a1 = b1)) && true)))) := by kernel_rfl
@[go_sem] theorem Tryz.aeq31 (σ : Store) (c : Bool) (a0 b0 : ByteArray) (a1 b1 : Int) : abin Tryz.prog σ .eql 31 c (.agg [.lit (.string a0), .lit (.int .i64 a1)]) (.agg [.lit (.string b0), .lit (.int .i64 b1)]) = some (.lit (.bool ((decide (a0 = b0)) && ((decide (a1 = b1)) && true)))) := by kernel_rfl
@[go_sem] theorem Tryz.aeqn31 (σ : Store) (c : Bool) (a0 b0 : ByteArray) (a1 b1 : Int) : abin Tryz.prog σ .neq 31 c (.agg [.lit (.string a0), .lit (.int .i64 a1)]) (.agg [.lit (.string b0), .lit (.int .i64 b1)]) = some (.lit (.bool !((decide (a0 = b0)) && ((decide (a1 = b1)) && true)))) := by kernel_rfl
@[go_sem] theorem Tryz.aeq57 (σ : Store) (c : Bool) (a0 b0 : ByteArray) (a1 b1 : Int) : abin Tryz.prog σ .eql 57 c (.agg [.lit (.string a0), .lit (.int .i64 a1)]) (.agg [.lit (.string b0), .lit (.int .i64 b1)]) = some (.lit (.bool ((decide (a0 = b0)) && ((decide (a1 = b1)) && true)))) := by kernel_rfl
@[go_sem] theorem Tryz.aeqn57 (σ : Store) (c : Bool) (a0 b0 : ByteArray) (a1 b1 : Int) : abin Tryz.prog σ .neq 57 c (.agg [.lit (.string a0), .lit (.int .i64 a1)]) (.agg [.lit (.string b0), .lit (.int .i64 b1)]) = some (.lit (.bool !((decide (a0 = b0)) && ((decide (a1 = b1)) && true)))) := by kernel_rfl
@[go_sem] theorem Tryz.aeq58 (σ : Store) (c : Bool) (a0 b0 : ByteArray) (a1 b1 : Int) : abin Tryz.prog σ .eql 58 c (.agg [.lit (.string a0), .lit (.int .i64 a1)]) (.agg [.lit (.string b0), .lit (.int .i64 b1)]) = some (.lit (.bool ((decide (a0 = b0)) && ((decide (a1 = b1)) && true)))) := by kernel_rfl
@[go_sem] theorem Tryz.aeqn58 (σ : Store) (c : Bool) (a0 b0 : ByteArray) (a1 b1 : Int) : abin Tryz.prog σ .neq 58 c (.agg [.lit (.string a0), .lit (.int .i64 a1)]) (.agg [.lit (.string b0), .lit (.int .i64 b1)]) = some (.lit (.bool !((decide (a0 = b0)) && ((decide (a1 = b1)) && true)))) := by kernel_rfl
@[go_sem] theorem Tryz.aeq59 (σ : Store) (c : Bool) (a0 b0 : ByteArray) (a1 b1 : Int) (a2 b2 : ByteArray) (a3 b3 : Bool) (a4 b4 : Int) : abin Tryz.prog σ .eql 59 c (.agg [.lit (.string a0), .lit (.int .i64 a1), .lit (.string a2), .lit (.bool a3), .lit (.int .i64 a4)]) (.agg [.lit (.string b0), .lit (.int .i64 b1), .lit (.string b2), .lit (.bool b3), .lit (.int .i64 b4)]) = some (.lit (.bool (((decide (a0 = b0)) && ((decide (a1 = b1)) && true)) && ((decide (a2 = b2)) && ((a3 == b3) && ((decide (a4 = b4)) && true)))))) := by kernel_rfl
@[go_sem] theorem Tryz.aeqn59 (σ : Store) (c : Bool) (a0 b0 : ByteArray) (a1 b1 : Int) (a2 b2 : ByteArray) (a3 b3 : Bool) (a4 b4 : Int) : abin Tryz.prog σ .neq 59 c (.agg [.lit (.string a0), .lit (.int .i64 a1), .lit (.string a2), .lit (.bool a3), .lit (.int .i64 a4)]) (.agg [.lit (.string b0), .lit (.int .i64 b1), .lit (.string b2), .lit (.bool b3), .lit (.int .i64 b4)]) = some (.lit (.bool !(((decide (a0 = b0)) && ((decide (a1 = b1)) && true)) && ((decide (a2 = b2)) && ((a3 == b3) && ((decide (a4 = b4)) && true)))))) := by kernel_rfl
@[go_sem] theorem Tryz.aeq60 (σ : Store) (c : Bool) (a0 b0 : ByteArray) (a1 b1 : Int) (a2 b2 : ByteArray) (a3 b3 : Bool) (a4 b4 : Int) : abin Tryz.prog σ .eql 60 c (.agg [.lit (.string a0), .lit (.int .i64 a1), .lit (.string a2), .lit (.bool a3), .lit (.int .i64 a4)]) (.agg [.lit (.string b0), .lit (.int .i64 b1), .lit (.string b2), .lit (.bool b3), .lit (.int .i64 b4)]) = some (.lit (.bool (((decide (a0 = b0)) && ((decide (a1 = b1)) && true)) && ((decide (a2 = b2)) && ((a3 == b3) && ((decide (a4 = b4)) && true)))))) := by kernel_rfl
@[go_sem] theorem Tryz.aeqn60 (σ : Store) (c : Bool) (a0 b0 : ByteArray) (a1 b1 : Int) (a2 b2 : ByteArray) (a3 b3 : Bool) (a4 b4 : Int) : abin Tryz.prog σ .neq 60 c (.agg [.lit (.string a0), .lit (.int .i64 a1), .lit (.string a2), .lit (.bool a3), .lit (.int .i64 a4)]) (.agg [.lit (.string b0), .lit (.int .i64 b1), .lit (.string b2), .lit (.bool b3), .lit (.int .i64 b4)]) = some (.lit (.bool !(((decide (a0 = b0)) && ((decide (a1 = b1)) && true)) && ((decide (a2 = b2)) && ((a3 == b3) && ((decide (a4 = b4)) && true)))))) := by kernel_rfl
@[go_sem] theorem Tryz.aeq84 (σ : Store) (c : Bool) (a0 b0 : ByteArray) (a1 b1 : Bool) : abin Tryz.prog σ .eql 84 c (.agg [.lit (.string a0), .lit (.bool a1)]) (.agg [.lit (.string b0), .lit (.bool b1)]) = some (.lit (.bool ((decide (a0 = b0)) && ((a1 == b1) && true)))) := by kernel_rfl
@[go_sem] theorem Tryz.aeqn84 (σ : Store) (c : Bool) (a0 b0 : ByteArray) (a1 b1 : Bool) : abin Tryz.prog σ .neq 84 c (.agg [.lit (.string a0), .lit (.bool a1)]) (.agg [.lit (.string b0), .lit (.bool b1)]) = some (.lit (.bool !((decide (a0 = b0)) && ((a1 == b1) && true)))) := by kernel_rfl
@[go_sem] theorem Tryz.aeq85 (σ : Store) (c : Bool) (a0 b0 : ByteArray) (a1 b1 : Bool) : abin Tryz.prog σ .eql 85 c (.agg [.lit (.string a0), .lit (.bool a1)]) (.agg [.lit (.string b0), .lit (.bool b1)]) = some (.lit (.bool ((decide (a0 = b0)) && ((a1 == b1) && true)))) := by kernel_rfl
@[go_sem] theorem Tryz.aeqn85 (σ : Store) (c : Bool) (a0 b0 : ByteArray) (a1 b1 : Bool) : abin Tryz.prog σ .neq 85 c (.agg [.lit (.string a0), .lit (.bool a1)]) (.agg [.lit (.string b0), .lit (.bool b1)]) = some (.lit (.bool !((decide (a0 = b0)) && ((a1 == b1) && true)))) := by kernel_rfl
@[go_sem] theorem Tryz.aeq179 (σ : Store) (c : Bool) (a0 b0 : ByteArray) (a1 b1 : Bool) : abin Tryz.prog σ .eql 179 c (.agg [.lit (.string a0), .lit (.bool a1)]) (.agg [.lit (.string b0), .lit (.bool b1)]) = some (.lit (.bool ((decide (a0 = b0)) && ((a1 == b1) && true)))) := by kernel_rfl
@[go_sem] theorem Tryz.aeqn179 (σ : Store) (c : Bool) (a0 b0 : ByteArray) (a1 b1 : Bool) : abin Tryz.prog σ .neq 179 c (.agg [.lit (.string a0), .lit (.bool a1)]) (.agg [.lit (.string b0), .lit (.bool b1)]) = some (.lit (.bool !((decide (a0 = b0)) && ((a1 == b1) && true)))) := by kernel_rfl
@[go_sem] theorem Tryz.aeq180 (σ : Store) (c : Bool) (a0 b0 : ByteArray) (a1 b1 : Bool) : abin Tryz.prog σ .eql 180 c (.agg [.lit (.string a0), .lit (.bool a1)]) (.agg [.lit (.string b0), .lit (.bool b1)]) = some (.lit (.bool ((decide (a0 = b0)) && ((a1 == b1) && true)))) := by kernel_rfl
@[go_sem] theorem Tryz.aeqn180 (σ : Store) (c : Bool) (a0 b0 : ByteArray) (a1 b1 : Bool) : abin Tryz.prog σ .neq 180 c (.agg [.lit (.string a0), .lit (.bool a1)]) (.agg [.lit (.string b0), .lit (.bool b1)]) = some (.lit (.bool !((decide (a0 = b0)) && ((a1 == b1) && true)))) := by kernel_rfl
attribute [go_sem] Tryz.underlying1 Tryz.underlying2 Tryz.underlying3 Tryz.underlying4 Tryz.underlying5 Tryz.underlying6 Tryz.underlying9 Tryz.underlying10 Tryz.underlying11 Tryz.underlying12 Tryz.underlying15 Tryz.underlying16 Tryz.underlying17 Tryz.underlying20 Tryz.underlying21 Tryz.underlying22 Tryz.underlying23 Tryz.underlying26 Tryz.underlying27 Tryz.underlying32 Tryz.underlying33 Tryz.underlying34 Tryz.underlying35 Tryz.underlying37 Tryz.underlying38 Tryz.underlying39 Tryz.underlying40 Tryz.underlying41 Tryz.underlying42 Tryz.underlying43 Tryz.underlying44 Tryz.underlying45 Tryz.underlying46 Tryz.underlying47 Tryz.underlying49 Tryz.underlying50 Tryz.underlying52 Tryz.underlying53 Tryz.underlying56 Tryz.underlying61 Tryz.underlying62 Tryz.underlying63 Tryz.underlying65 Tryz.underlying66 Tryz.underlying67 Tryz.underlying68 Tryz.underlying69 Tryz.underlying70 Tryz.underlying71 Tryz.underlying72 Tryz.underlying73 Tryz.underlying74 Tryz.underlying75 Tryz.underlying76 Tryz.underlying77 Tryz.underlying79 Tryz.underlying80 Tryz.underlying81 Tryz.underlying82 Tryz.underlying83 Tryz.underlying86 Tryz.underlying87 Tryz.underlying88 Tryz.underlying89 Tryz.underlying90 Tryz.underlying91 Tryz.underlying92 Tryz.underlying93 Tryz.underlying94 Tryz.underlying97 Tryz.underlying99 Tryz.underlying100 Tryz.underlying101 Tryz.underlying102 Tryz.underlying103 Tryz.underlying104 Tryz.underlying105 Tryz.underlying106 Tryz.underlying107 Tryz.underlying108 Tryz.underlying109 Tryz.underlying110 Tryz.underlying111 Tryz.underlying112 Tryz.underlying114 Tryz.underlying115 Tryz.underlying116 Tryz.underlying117 Tryz.underlying118 Tryz.underlying119 Tryz.underlying120 Tryz.underlying121 Tryz.underlying122 Tryz.underlying123 Tryz.underlying124 Tryz.underlying125 Tryz.underlying126 Tryz.underlying127 Tryz.underlying128 Tryz.underlying129 Tryz.underlying130 Tryz.underlying131 Tryz.underlying132 Tryz.underlying133 Tryz.underlying134 Tryz.underlying135 Tryz.underlying136 Tryz.underlying137 Tryz.underlying138 Tryz.underlying139 Tryz.underlying141 Tryz.underlying142 Tryz.underlying143 Tryz.underlying144 Tryz.underlying145 Tryz.underlying146 Tryz.underlying147 Tryz.underlying148 Tryz.underlying149 Tryz.underlying150 Tryz.underlying151 Tryz.underlying153 Tryz.underlying154 Tryz.underlying155 Tryz.underlying156 Tryz.underlying157 Tryz.underlying158 Tryz.underlying159 Tryz.underlying160 Tryz.underlying165 Tryz.underlying166 Tryz.underlying167 Tryz.underlying168 Tryz.underlying169 Tryz.underlying170 Tryz.underlying171 Tryz.underlying172 Tryz.underlying173 Tryz.underlying174 Tryz.underlying175 Tryz.underlying176 Tryz.underlying177 Tryz.underlying178 Tryz.underlying181 Tryz.underlying182 Tryz.underlying183 Tryz.underlying184 Tryz.underlying185 Tryz.underlying186 Tryz.underlying187 Tryz.underlying188 Tryz.underlying189 Tryz.underlying190 Tryz.underlying191 Tryz.underlying192 Tryz.underlying193 Tryz.underlying194 Tryz.underlying195 Tryz.underlying196 Tryz.underlying198 Tryz.underlying199 Tryz.underlying200 Tryz.underlying201 Tryz.underlying202 Tryz.underlying203 Tryz.underlying204 Tryz.underlying205 Tryz.underlying206 Tryz.underlying207 Tryz.underlying208 Tryz.underlying210 Tryz.underlying211 Tryz.underlying212 Tryz.underlying213 Tryz.underlying214 Tryz.underlying215 Tryz.underlying216 Tryz.underlying217 Tryz.underlying218 Tryz.underlying219 Tryz.underlying220 Tryz.underlying221 Tryz.underlying222 Tryz.underlying223 Tryz.underlying224 Tryz.underlying225 Tryz.underlying226 Tryz.underlying227 Tryz.underlying228 Tryz.underlying229 Tryz.underlying230 Tryz.underlying231 Tryz.underlying232 Tryz.underlying233 Tryz.underlying234 Tryz.underlying235 Tryz.underlying236 Tryz.underlying237 Tryz.underlying238 Tryz.underlying239 Tryz.underlying240 Tryz.underlying241 Tryz.underlying242 Tryz.underlying243 Tryz.underlying244 Tryz.underlying245 Tryz.underlying246 Tryz.underlying247 Tryz.underlying248 Tryz.underlying249 Tryz.underlying250 Tryz.underlying251 Tryz.underlying252 Tryz.underlying253 Tryz.underlying254 Tryz.underlying255 Tryz.underlying256 Tryz.underlying257 Tryz.underlying258 Tryz.underlying259 Tryz.underlying260 Tryz.underlying261 Tryz.underlying262 Tryz.underlying263 Tryz.underlying264 Tryz.underlying265 Tryz.underlying266 Tryz.underlying267 Tryz.underlying268 Tryz.underlying269 Tryz.underlying270 Tryz.underlying271 Tryz.underlying272 Tryz.underlying273 Tryz.underlying275 Tryz.underlying277 Tryz.underlying279 Tryz.underlying280 Tryz.underlying281 Tryz.underlying282 Tryz.underlying283 Tryz.underlying284 Tryz.underlying285 Tryz.underlying286 Tryz.underlying289 Tryz.underlying292 Tryz.underlying293 Tryz.underlying294 Tryz.underlying295 Tryz.underlying296
theorem Tryz.mixed : Tryz.prog.follows .mixedOrders = true := by kernel_rfl
end Go.Proofs
end

section
set_option linter.all false
namespace Go.Ab
open Go.RowKit (Below)
section
variable {P : Program} {o : Oper} {α : Operand → AVal} {σ : Store} {Kk : AVal → Store → Prop}
theorem freeze {κ : K} (hI : Inv κ σ) {so sz len : Nat} {cs l : List AVal} {v : Value} (hv : Rv κ (.msl so sz 0 len) v) (hh : σ.heap so = some (.cells cs)) (hl : cs.take (len * sz) = flat l) (hn : l.length = len) (hs : ∀ x ∈ l, x.cells.length = sz) :
  ∃ κ', κ'.w = κ.w ∧ κ.Le κ' ∧ Inv κ' (σ.del so) ∧ Rv κ' (.sl sz l false) v := by
 subst hn
 have hfl := aR_ hs
 generalize v = u at hv
 cases hv with
 |msl _ _ _ _ b cap n el hb hlc hsh hcap =>
 obtain ⟨b', hb', hbase, hIb, c, el', hheap, hcl, hcv⟩ := hI.heap so _ hh
 rw [hb] at hb'
 obtain rfl := Option.some.inj hb'
 have hlen : l.length * sz ≤ cs.length := by
  have := congrArg List.length hl
  rw [List.length_take, hfl] at this
  omega
 have hle : κ.Le { κ with I := fun k => if k = b then l.length * sz else κ.I k } :=
  ⟨rfl, Below.refl _ _, fun _ _ h => h, fun _ _ h => h, fun _ _ h => h, fun k => by
   show _ ≤ (if k = b then _ else _)
   split
   ·rename_i hk; rw [hk, hIb]; exact Nat.zero_le _
   ·exact Nat.le_refl _, fun _ _ _ _ h => h, Nat.le_refl _⟩
 refine ⟨{ κ with I := fun k => if k = b then l.length * sz else κ.I k }, rfl, hle, ?_, ?_⟩
 ·have hne : ∀ i x, (σ.del so).heap i = some x → i ≠ so ∧ σ.heap i = some x := fun i x hx => by
   by_cases hi : i = so
   ·rw [hi, Store.del_get] at hx; cases hx
   ·rw [Store.del_ne _ hi] at hx; exact ⟨hi, hx⟩
  refine ⟨hI.glob, hI.base, fun i x hx => ?_, fun i i' x x' k hx hx' => hI.inj i i' x x' k (hne _ _ hx).2 (hne _ _ hx').2, fun t q ht => ?_, fun t t' q q' u u' k => hI.tokinj t t' q q' u u' k, fun t q u k i x ht hu hk hx => hI.tokobj t q u k i x ht hu hk (hne _ _ hx).2, hI.frO, hI.frT, fun k hk => ?_⟩
  ·obtain ⟨hi, hx'⟩ := hne _ _ hx
   obtain ⟨k, hk, hkb, hkI, hR⟩ := hI.heap i x hx'
   have hkne : k ≠ b := fun hh' => hi (hI.inj i so x _ b hx' hh (by rw [hk, hh']) hb)
   exact ⟨k, hk, hkb, by show (if k = b then _ else _) = _; rw [if_neg hkne]; exact hkI, hR.mono hle rfl⟩
  ·obtain ⟨u, hu, hok⟩ := hI.tok t q ht
   refine ⟨u, hu, hok.mono hle fun k hk => ⟨rfl, ?_⟩⟩
   show (if k = b then _ else _) = _
   rw [if_neg (fun hh' => hI.tokobj t q u k so _ ht hu hk hh (by rw [hb, hh']))]
  ·show (if k = b then _ else _) = _
   have : b < κ.w.heap.size := (Array.getElem?_eq_some_iff.1 hheap).1
   have hk' : κ.w.heap.size ≤ k := hk
   rw [if_neg (by omega)]
   exact hI.frI k hk
 ·refine .sl sz l false b 0 cap (fun k => c.getD k undef) hlc (by simp) hs (fun k hk => ?_) (fun k hk => ?_)
  ·refine ⟨?_, ?_⟩
   ·show _ < (if b = b then _ else _)
    rw [if_pos rfl]; omega
   ·show κ.w.cell? _ = _
    rw [cell_of_row _ _ _ _ _ _ hheap]
    simp [show k < c.size by omega]
  ·have e1 : (flat l)[k] = cs[k]'(by omega) := by
    have h1 : (cs.take (l.length * sz))[k]? = (flat l)[k]? := by rw [hl]
    rw [List.getElem?_take, if_pos (by omega), List.getElem?_eq_getElem hk, List.getElem?_eq_getElem (show k < cs.length by omega)] at h1
    exact (Option.some.inj h1).symm
   rw [e1]
   exact (hcv k (by omega)).mono hle
theorem bM_ {x : Operand} {so sz len : Nat} {cs l : List AVal} (ho : o.op = .assign x ∨ o.op = .move x) (hx : α x = .msl so sz 0 len) (hh : σ.heap so = some (.cells cs)) (hl : cs.take (len * sz) = flat l) (hn : l.length = len) (hs : ∀ x ∈ l, x.cells.length = sz)
  (hk : Kk (.sl sz l false) (σ.del so)) : AOp P o α σ Kk := by
 intro κ ev hI hxx
 have hv := hxx x (by rcases ho with ho | ho <;> (rw [ho]; simp [Op.operands]))
 rw [hx] at hv
 have he : (execOp ev o).run P κ.w = .ok (.value (ev x)) κ.w := by
  obtain ⟨dst, op, ty, pos, after, guard⟩ := o
  rcases ho with ho | ho <;> (obtain rfl : op = _ := ho; simp [execOp])
 rw [he]
 obtain ⟨κ', h1, h2, h3, h4⟩ := freeze hI hv hh hl hn hs
 exact ⟨κ', .sl sz l false, _, h1, h2, h3, h4, hk⟩
theorem jO_ {s x : Operand} {t e : TypeId} {sz by_ : Nat} {l2 : List AVal}
  (ho : o.op = .call { callee := .builtin .append, args := #[s, x], argTypes := #[t, t] }) (hse : aA_ P t = some e) (hte : a6_ P e = some (sz, by_))
  (hs : α s = .sl sz [] true) (hx : slOf (α x) = some (sz, l2)) (hne : l2 ≠ []) (hlen : l2.length * by_ ≤ 140737488355328)
  (hk : ∀ o', σ.heap o' = none → Kk (.msl o' sz 0 l2.length) (σ.set o' (.cells (flat l2)))) : AOp P o α σ Kk := by
 obtain ⟨dst, op, ty, pos, after, guard⟩ := o
 obtain rfl : op = .call { callee := .builtin .append, args := #[s, x], argTypes := #[t, t] } := ho
 intro κ ev hI hxx
 obtain ⟨i, z, hi, hz, hisz, hiby, hzs, hsz, hby⟩ := aZ_ hte
 subst hisz
 subst hiby
 have hts : P.underlying t = some (.slice e) := by
  unfold aA_ at hse
  split at hse
  ·rename_i e' he'; obtain rfl := Option.some.inj hse; exact he'
  ·cases hse
 have hvs := hxx s (by simp [Op.operands, Call.operands])
 have hvx := hxx x (by simp [Op.operands, Call.operands])
 have hm : 0 < l2.length := List.length_pos_iff.2 hne
 have hle47 : l2.length ≤ 140737488355328 := Nat.le_trans (Nat.le_mul_of_pos_right _ hby) hlen
 obtain ⟨ad, cap2, vs, hevx, hl2sz, hvsr, hcu⟩ : ∃ ad cap2 vs, ev x = .slice (some ad) l2.length cap2 ∧ (∀ y ∈ l2, y.cells.length = i.size) ∧ RvC κ (flat l2) vs ∧ ∀ j u, vs[j]? = some u → κ.w.cell? (ad.add j) = some u := by
  obtain ⟨a, cap, us2, hev, hsz', hr, hc⟩ := dM_ (c6_ hx hvx)
  rcases hc with ⟨_, h0, _⟩ | ⟨ad, rfl, hcu⟩
  ·exact absurd h0 hne
  ·exact ⟨ad, cap, us2, hev, hsz', hr, hcu⟩
 have hfl2 : vs.length = l2.length * i.size := by rw [← hvsr.1, aR_ hl2sz]
 obtain ⟨o', ho', hfr⟩ := hI.fresh
 have hd := hI.drew
 have fresh : ∀ (cap' : Nat), l2.length ≤ cap' → Post κ Kk (.slice (some ⟨κ.w.heap.size, 0, none⟩) l2.length cap') (κ.w.drew.alloc (.cells (vs.toArray ++ Builtin.zeroCells z.cells (cap' - l2.length)) e)) := by
  intro cap' hcap
  have hsize : (vs.toArray ++ Builtin.zeroCells z.cells (cap' - l2.length)).size = cap' * i.size := by
   simp only [Array.size_append, List.size_toArray, size_zeroCells, hzs, hfl2, ← Nat.add_mul]
   congr 1; omega
  obtain ⟨κ', hw, hle, hρ, hI'⟩ := hd.2.alloc o' ho' (.cells (flat l2)) (.cells (vs.toArray ++ Builtin.zeroCells z.cells (cap' - l2.length)) e) fun κ' hle hh _ => by
   refine ⟨_, e, hh, ?_, fun j hj => ?_⟩
   ·rw [hsize, hvsr.1, hfl2]; exact Nat.mul_le_mul_right _ hcap
   ·have hj' : j < vs.length := by rw [← hvsr.1]; exact hj
    have e1 : (vs.toArray ++ Builtin.zeroCells z.cells (cap' - l2.length)).getD j undef = vs[j] := by
     simp only [Array.getD_eq_getD_getElem?]
     rw [Array.getElem?_append_left (by simpa using hj')]
     simp [hj']
    rw [e1]
    exact (hvsr.2 j hj hj').mono (hd.1.trans hle)
  have hheap : κ'.w.heap[κ.w.heap.size]? = some (.cells (vs.toArray ++ Builtin.zeroCells z.cells (cap' - l2.length)) e (0, 0)) := by
   rw [hw]; exact Go.heap_alloc_new κ.w.drew _
  exact ⟨κ', .msl o' i.size 0 l2.length, _, hw, hd.1.trans hle, hI', .msl o' i.size 0 _ κ.w.heap.size cap' _ e hρ hcap (by unfold World.shape?; rw [hheap]) (by rw [hsize]; omega), hk o' hfr⟩
 refine bj_ (s := Builtin.append_ #[t, t] ty #[ev s, ev x]) (by simp [execOp, resolve, invoke, builtin]) ?_
 rw [hs] at hvs
 have hnil : (ev s = .slice none 0 0) ∨ ∃ b, ev s = .slice (some b) 0 0 := by
  rcases hvs.slInv with ⟨a, h1, h2⟩ | ⟨b, off, cap, vals, h1, hcap, htt, _⟩
  ·cases a with
   |none => exact .inl h1
   |some b => exact .inr ⟨b, h1⟩
  ·right
   have := htt rfl
   simp at this
   subst this
   exact ⟨_, h1⟩
 rw [hevx]
 rcases hnil with h0 | ⟨b, h0⟩
 ·rw [h0]
  have hr := run_append_nil (P := P) κ.w t ty e i z hts hi hz ad l2.length cap2 vs hfl2 hcu hm (by omega) (by omega)
  exact ⟨_, _, hr, fresh _ (grownCap_ge _ _ _ _)⟩
 ·rw [h0]
  have hr := run_append_grow (P := P) κ.w t ty e i z hts hi hz b 0 0 [] (by simp) (by simp) ad l2.length cap2 vs hfl2 hcu (by omega) (by omega) (growslice_fits (by omega) (by simpa using hlen))
  simp only [Nat.zero_add] at hr
  refine ⟨_, _, hr, ?_⟩
  have := fresh (grownCap κ.w l2.length 0 e) (grownCap_ge _ _ _ _)
  simpa using this
theorem ho_ {t yt : TypeId} {x y : Operand} {sz e : Nat} {l : List AVal} (ho : o.op = .binOp .eql t x y yt) (hse : aA_ P t = some e) (hx : slOf (α x) = some (sz, l)) (hl : l ≠ []) (hy : α y = .lit (.slice none 0 0)) (hk : Kk (.lit (.bool false)) σ) : AOp P o α σ Kk := by
 obtain ⟨dst, op, ty, pos, after, guard⟩ := o
 obtain rfl : op = _ := ho
 intro κ ev hI hxx
 have hvx := hxx x (by simp [Op.operands])
 have hvy := hxx y (by simp [Op.operands])
 rw [hy] at hvy
 have hts : P.underlying t = some (.slice e) := by
  unfold aA_ at hse
  split at hse
  ·rename_i e' he'; obtain rfl := Option.some.inj hse; exact he'
  ·cases hse
 obtain ⟨a, cap, us, hev, _, _, hc⟩ := dM_ (c6_ hx hvx)
 rcases hc with ⟨_, h0, _⟩ | ⟨ad, rfl, _⟩
 ·exact absurd h0 hl
 ·have hb : (binOp .eql t (ev x) (ev y)).run P κ.w = .ok (.bool false) κ.w := by
   have e1 : binOp .eql t (ev x) (ev y) = (do pure (.bool (← Op.equal t (ev x) (ev y)))) := by
    rw [hev, hvy.litInv]
    rfl
   rw [e1, hev, hvy.litInv]
   simp only [Sem.run_bind, run_equal_slice_nil κ.w t e (some ad) l.length cap hts, Result.andThen_ok, Sem.run_pure]
   rfl
  have hg : (eqGuard .eql t x y (ev x) (ev y)).run P κ.w = .ok () κ.w := bE_ (by rintro u v ⟨h1, _⟩; rw [hev] at h1; cases h1) (by intro h1; rw [hev] at h1; cases h1)
  refine bj_ (s := do eqGuard .eql t x y (ev x) (ev y); binOp .eql t (ev x) (ev y)) (by simp [execOp]) ⟨.bool false, κ.w, ?_, κ, .lit (.bool false), σ, rfl, .refl κ, hI, .lit _, hk⟩
  simp only [Sem.run_bind, hg, Result.andThen_ok, hb]
end
end Go.Ab
end

section
set_option linter.all false
namespace Go.Ab
abbrev vInt (n : Int) : AVal := .lit (.int .i64 n)
abbrev eu_ (b : Bool) : AVal := .lit (.bool b)
abbrev vStr (s : ByteArray) : AVal := .lit (.string s)
def bAnd (k : IntKind) (a b : Int) : Int := k.wrap (BitVec.ofInt k.bits a &&& BitVec.ofInt k.bits b).toNat
def bOr (k : IntKind) (a b : Int) : Int := k.wrap (BitVec.ofInt k.bits a ||| BitVec.ofInt k.bits b).toNat
def bXor (k : IntKind) (a b : Int) : Int := k.wrap (BitVec.ofInt k.bits a ^^^ BitVec.ofInt k.bits b).toNat
@[go_sem] theorem xs_ (e : Env) (d k : Nat) (a : AVal) : upd e d a k = if k = d then a else e k := rfl
@[go_sem] theorem xr_ (k : Nat) : emp k = .any := rfl
@[go_sem] theorem ke_ (k : Nat) : jc_ k [] = emp := rfl
@[go_sem] theorem iI_ (k : Nat) (a : AVal) (l : List AVal) : jc_ k (a :: l) = upd (jc_ (k + 1) l) k a := rfl
@[go_sem] theorem wW_ (e : Env) (t : Tmp) : aev e (.tmp t) = e t := rfl
@[go_sem] theorem wS_ (e : Env) (k : IntKind) (n : Int) : aev e (.const (.int k n)) = .lit (.int k n) := rfl
@[go_sem] theorem wq_ (e : Env) (b : Bool) : aev e (.const (.bool b)) = .lit (.bool b) := rfl
@[go_sem] theorem wV_ (e : Env) (s : ByteArray) : aev e (.const (.string s)) = .lit (.string s) := rfl
@[go_sem] theorem wU_ (e : Env) (a : Option Addr) : aev e (.const (.pointer a)) = .lit (.pointer a) := rfl
@[go_sem] theorem uz_ (e : Env) (a : Option Addr) (n c : Nat) : aev e (.const (.slice a n c)) = .lit (.slice a n c) := rfl
@[go_sem] theorem wT_ (e : Env) (r : Option Nat) : aev e (.const (.map r)) = .lit (.map r) := rfl
@[go_sem] theorem sY_ (e : Env) : aev e (.const .nilFunc) = .lit .nilFunc := rfl
@[go_sem] theorem sh_ (e : Env) : aev e (.const .nilIface) = .lit .nilIface := rfl
@[go_sem] theorem wr_ (e : Env) (f : FuncId) : aev e (.func f) = .lit (.func (.func f) #[] #[]) := rfl
section
variable (P : Program) (α : Operand → AVal) (σ : Store)
@[go_sem] theorem uI_ (x : Operand) : aval P (.move x) α σ = some (α x) := rfl
@[go_sem] theorem s4_ (x : Operand) : aval P (.assign x) α σ = some (α x) := rfl
@[go_sem] theorem uJ_ (c a b : Operand) : aval P (.pick c a b) α σ = match α c with | .lit (.bool t) => some (k6_ t (α a) (α b)) | _ => none := rfl
@[go_sem] theorem qK_ (x : Operand) : aval P (.nilCheck x) α σ = anil (α x) := rfl
@[go_sem] theorem uo_ (op : BinOp) (t yt : TypeId) (x y : Operand) : aval P (.binOp op t x y yt) α σ = abin P σ op t (dJ_ x || dJ_ y) (α x) (α y) := rfl
@[go_sem] theorem uK_ (op : UnOp) (t : TypeId) (x : Operand) : aval P (.unOp op t x) α σ = qI_ op (α x) := rfl
@[go_sem] theorem ss_ (s d : TypeId) (x : Operand) : aval P (.convert s d x) α σ = g1_ P s d (α x) := rfl
@[go_sem] theorem qt_ (s : TypeId) (x : Operand) (f : Nat) : aval P (.fieldAddr s x f) α σ = dR_ P s (α x) f := rfl
@[go_sem] theorem uq_ (t : TypeId) (x : Operand) (f : Nat) : aval P (.field t x f) α σ = jT_ P t (α x) f := rfl
@[go_sem] theorem qu_ (t : TypeId) (x i : Operand) : aval P (.indexAddr t x i) α σ = dS_ P t (α x) (α i) := rfl
@[go_sem] theorem ur_ (t : TypeId) (x i : Operand) : aval P (.index t x i) α σ = jW_ P t (α x) (α i) := rfl
@[go_sem] theorem uH_ (t : TypeId) (x : Operand) : aval P (.load t x) α σ = go_ P σ t (α x) := rfl
@[go_sem] theorem su_ (x : Operand) (i : Nat) : aval P (.extract x i) α σ = match α x with | .tup vs => vs[i]? | _ => none := rfl
@[go_sem] theorem us_ (t : TypeId) (x : Operand) (lo hi mx : Option Operand) : aval P (.slice t x lo hi mx) α σ = jY_ P t (α x) (lo.map α) (hi.map α) (mx.map α) := rfl
@[go_sem] theorem qJ_ (fn : Fn) (f c : Array Operand) : aval P (.makeFunc fn f c) α σ = some (.fn fn (f.toList.map α) (c.toList.map α)) := rfl
@[go_sem] theorem l8_ (t : TypeId) (x : Operand) : aval P (.makeInterface t x) α σ = match P.underlying t with | some (.interface _) => none | some _ => some (.iface t (α x)) | none => none := rfl
@[go_sem] theorem up_ (t : TypeId) (ps : Array (Nat × Operand)) : aval P (.build t ps) α σ = jS_ P t (ps.toList.map fun p => (p.1, α p.2)) := rfl
@[go_sem] theorem s5_ (t : TypeId) (m k : Operand) (ok : Bool) : aval P (.lookup t m k ok) α σ = i7_ P σ t (α m) (α k) ok := rfl
@[go_sem] theorem ow_ (x : Operand) (xt t : TypeId) (ok : Bool) : aval P (.typeAssert x xt t ok) α σ = d9_ P (α x) t ok := rfl
@[go_sem] theorem wK_ (x : Operand) (t : TypeId) : aval P (.call { callee := .builtin .len, args := #[x], argTypes := #[t] }) α σ = (alen P σ t (α x)).map fun (n : Nat) => AVal.lit (.int .i64 (n : Int)) := rfl
@[go_sem] theorem wL_ (args : Array Operand) (ts : Array TypeId) : aval P (.call { callee := .builtin .max, args := args, argTypes := ts }) α σ = io_ true (args.toList.map α) := rfl
@[go_sem] theorem wM_ (args : Array Operand) (ts : Array TypeId) : aval P (.call { callee := .builtin .min, args := args, argTypes := ts }) α σ = io_ false (args.toList.map α) := rfl
@[go_sem] theorem uA_ (k k' : IntKind) (x y : Int) : io_ true [.lit (.int k x), .lit (.int k' y)] = some (.lit (.int k (max x y))) := rfl
@[go_sem] theorem uB_ (k k' : IntKind) (x y : Int) : io_ false [.lit (.int k x), .lit (.int k' y)] = some (.lit (.int k (min x y))) := rfl
@[go_sem] theorem s0_ (k k' k'' : IntKind) (x y z : Int) : io_ true [.lit (.int k x), .lit (.int k' y), .lit (.int k'' z)] = some (.lit (.int k (max (max x y) z))) := rfl
@[go_sem] theorem s1_ (k k' k'' : IntKind) (x y z : Int) : io_ false [.lit (.int k x), .lit (.int k' y), .lit (.int k'' z)] = some (.lit (.int k (min (min x y) z))) := rfl
@[go_sem] theorem wo_ (op : BinOp) (t : TypeId) (c : Bool) (k k' : IntKind) (a b : Int) : abin P σ op t c (.lit (.int k a)) (.lit (.int k' b)) = (aint op k a k' b).map .lit := rfl
@[go_sem] theorem wp_ (op : BinOp) (t : TypeId) (c : Bool) (a b : ByteArray) : abin P σ op t c (.lit (.string a)) (.lit (.string b)) = (astr op a b).map .lit := rfl
@[go_sem] theorem ws_ (k : IntKind) (a b : Int) : aint .add k a k b = some (.int k (k.wrap (a + b))) := by simp [aint]
@[go_sem] theorem wB_ (k : IntKind) (a b : Int) : aint .sub k a k b = some (.int k (k.wrap (a - b))) := by simp [aint]
@[go_sem] theorem wz_ (k : IntKind) (a b : Int) : aint .mul k a k b = some (.int k (k.wrap (a * b))) := by simp [aint]
@[go_sem] theorem wu_ (k : IntKind) (a b : Int) : aint .eql k a k b = some (.bool (decide (a = b))) := by simp [aint]
@[go_sem] theorem wA_ (k : IntKind) (a b : Int) : aint .neq k a k b = some (.bool (!decide (a = b))) := by simp [aint]
@[go_sem] theorem wy_ (k : IntKind) (a b : Int) : aint .lss k a k b = some (.bool (decide (a < b))) := by simp [aint]
@[go_sem] theorem wx_ (k : IntKind) (a b : Int) : aint .leq k a k b = some (.bool (decide (a ≤ b))) := by simp [aint]
@[go_sem] theorem ww_ (k : IntKind) (a b : Int) : aint .gtr k a k b = some (.bool (decide (b < a))) := by simp [aint]
@[go_sem] theorem wv_ (k : IntKind) (a b : Int) : aint .geq k a k b = some (.bool (decide (b ≤ a))) := by simp [aint]
@[go_sem] theorem wt_ (k : IntKind) (a b : Int) : aint .and k a k b = some (.int k (bAnd k a b)) := by simp [aint, bAnd]
@[go_sem] theorem wX_ (k : IntKind) (a b : Int) : aint .or k a k b = some (.int k (bOr k a b)) := by simp [aint, bOr]
@[go_sem] theorem wC_ (k : IntKind) (a b : Int) : aint .xor k a k b = some (.int k (bXor k a b)) := by simp [aint, bXor]
@[go_sem] theorem wE_ (a b : ByteArray) : astr .eql a b = some (.bool (decide (a = b))) := rfl
@[go_sem] theorem wJ_ (a b : ByteArray) : astr .neq a b = some (.bool (!decide (a = b))) := rfl
@[go_sem] theorem wI_ (a b : ByteArray) : astr .lss a b = some (.bool (sLt a b)) := rfl
@[go_sem] theorem wG_ (a b : ByteArray) : astr .gtr a b = some (.bool !(sLt a b || decide (a = b))) := rfl
@[go_sem] theorem wH_ (a b : ByteArray) : astr .leq a b = some (.bool (sLt a b || decide (a = b))) := rfl
@[go_sem] theorem wF_ (a b : ByteArray) : astr .geq a b = some (.bool !(sLt a b)) := rfl
theorem qH_ (a b : ByteArray) (h : a.size + b.size ≤ lF_) : astr .add a b = some (.string (a ++ b)) := by simp [astr, h]
@[go_sem] theorem un_ (t x y : Bool) : k6_ t (.lit (.bool x)) (.lit (.bool y)) = .lit (.bool (bif t then x else y)) := rfl
end
theorem aY_ (n : Int) (h1 : -9223372036854775808 ≤ n) (h2 : n ≤ 9223372036854775807) : IntKind.i64.wrap n = n := by
 unfold IntKind.wrap
 simp only [IntKind.bits, IntKind.signed, Bool.true_and, decide_eq_true_eq, ge_iff_le]
 have e1 : (2 : Int) ^ 64 = 18446744073709551616 := by decide
 have e2 : (2 : Int) ^ (64 - 1) = 9223372036854775808 := by decide
 simp only [e1, e2]
 split <;> omega
attribute [go_sem] wY_ Store.delO Store.del_ne Store.newTok_heap Store.set_tok Store.newTok_get Store.newTok_set dR_ go_ dS_ jT_ jW_ jS_ anil qI_ g1_ alen apart aro dK_ jU_ aput slOf AVal.cells AVal.solid AVal.one ofConst bq_ Store.set_get Store.set_ne ev_ alow fJ_ aret
@[go_sem] theorem uu_ {β : Type} (l : List β) : l.toArray.toList = l := rfl
@[go_sem] theorem sq_ (P : Program) (e : Env) (σ : Store) : cU_ P [] e σ = some [] := rfl
@[go_sem] theorem sr_ (P : Program) (e : Env) (σ : Store) (t : Tmp) (rs : List ResultVar) : cU_ P (.tmp t :: rs) e σ = match cU_ P rs e σ with | some vs => some (e t :: vs) | none => none := by
 unfold cU_
 rw [List.mapM_cons]
 generalize hq : rs.mapM (m := Option) (fun
  |.tmp t => some (e t)
  |.cell a t => go_ P σ t (e a)) = q
 cases q <;> simp [hq]
@[go_sem] theorem qG_ (P : Program) (e : Env) (σ : Store) (a : Tmp) (t : TypeId) (rs : List ResultVar) : cU_ P (.cell a t :: rs) e σ = match go_ P σ t (e a), cU_ P rs e σ with | some v, some vs => some (v :: vs) | _, _ => none := by
 unfold cU_
 rw [List.mapM_cons]
 generalize hq : rs.mapM (m := Option) (fun
  |.tmp t => some (e t)
  |.cell a t => go_ P σ t (e a)) = q
 cases hl : go_ P σ t (e a) <;> cases q <;> simp [hq, hl]
attribute [go_sem] if_pos jY_ Int.toNat_natCast List.length_map List.map_append Bool.false_eq_true ne_eq not_true_eq_false not_false_eq_true and_self and_true true_and Nat.add_zero Nat.zero_add Option.map_some Option.map_none Option.bind_some Option.isSome_some List.length_cons List.length_nil List.map_cons List.map_nil List.nil_append List.cons_append List.append_nil List.take_succ_cons List.take_zero List.drop_succ_cons List.drop_zero List.getElem?_cons_zero List.getElem?_cons_succ Int.toNat_zero Int.le_refl decide_true decide_false beq_self_eq_true Bool.and_self Bool.and_true Bool.true_and Bool.and_false Bool.false_and cond_true cond_false Bool.not_true Bool.not_false Bool.or_self Bool.or_false Bool.or_true Bool.true_or Bool.false_or
attribute [go_sem] jZ_ i9_ i8_ aN_ fM_ ew_ hu_ lq_
section
variable {P : Program} {ops : Array Oper} {Kk : Env → Store → Prop} {o : Oper} {rest : List Oper} {e : Env} {σ : Store}
theorem aa_ (h : Kk e σ) : a2_ P ops Kk [] e σ := h
theorem aL_S {d : Tmp} {a : AVal} (hg : o.guard = none) (hd : o.dst = some d) (ha : aval P o.op (aev e) σ = some a) (h : a2_ P ops Kk rest (upd e d a) σ) : a2_ P ops Kk (o :: rest) e σ := by
 unfold a2_ cp_ bc_
 simp only [hg, hd, updo]
 exact aV_ ha h
theorem aL_X {d : Tmp} (hg : o.guard = none) (hd : o.dst = some d) (h : AOp P o (aev e) σ fun a σ' => a2_ P ops Kk rest (upd e d a) σ') : a2_ P ops Kk (o :: rest) e σ := by
 unfold a2_ cp_ bc_
 simp only [hg, hd, updo]
 exact h
theorem qz_ (hg : o.guard = none) (hd : o.dst = none) (h : AOp P o (aev e) σ fun _ σ' => a2_ P ops Kk rest e σ') : a2_ P ops Kk (o :: rest) e σ := by
 unfold a2_ cp_ bc_
 simp only [hg, hd, updo]
 exact h
end
section
variable {P : Program} {ops : Array Oper} {s0 : Store} {Kk : Env → Store → Prop} {o : Oper} {i : Nat} {r : DT} {e : Env} {σ : Store}
theorem aB_ (h : Kk e σ) : dRun P ops s0 Kk .nil e σ := h
theorem c8_ {k : Nat} {t : DT} (h1 : dRun P ops s0 Kk (.op i (k + 1) r) e σ) (h2 : dRun P ops s0 Kk t e σ) : dRun P ops s0 Kk (.alt i (k + 1) r t) e σ := by
 cases k with
 |zero => exact ⟨h1, h2⟩
 |succ k => exact ⟨h1, h2⟩
theorem dR_S {d : Tmp} {a : AVal} (ho : ops[i]? = some o) (hg : o.guard = none) (hd : o.dst = some d) (ha : aval P o.op (aev e) s0 = some a) (h : dRun P ops s0 Kk r (upd e d a) σ) : dRun P ops s0 Kk (.op i 0 r) e σ := by
 refine ⟨o, a, ho, .inl ⟨by simp [bc_, hg], ha⟩, ?_⟩
 rw [hd]; exact h
theorem dR_A {d : Tmp} {a : AVal} (ho : ops[i]? = some o) (hg : o.guard = none) (hd : o.dst = some d) (ha : ∀ s, aval P o.op (aev e) s = some a) (h : dRun P ops s0 Kk r (upd e d a) σ) : dRun P ops s0 Kk (.any i r) e σ := by
 refine ⟨o, a, ho, fun s => .inl ⟨by simp [bc_, hg], ha s⟩, ?_⟩
 rw [hd]; exact h
theorem qV_ {d : Tmp} {a : AVal} (ho : ops[i]? = some o) (hd : o.dst = some d) (hw : bc_ ops o e = some true) (ha : aval P o.op (aev e) s0 = some a) (h : dRun P ops s0 Kk r (upd e d a) σ) : dRun P ops s0 Kk (.op i 0 r) e σ := by
 refine ⟨o, a, ho, .inl ⟨hw, ha⟩, ?_⟩
 rw [hd]; exact h
theorem qU_ {d : Tmp} (ho : ops[i]? = some o) (hd : o.dst = some d) (hw : bc_ ops o e = some false) (h : dRun P ops s0 Kk r (upd e d (.lit undef)) σ) : dRun P ops s0 Kk (.op i 0 r) e σ := by
 refine ⟨o, .lit undef, ho, .inr ⟨hw, rfl⟩, ?_⟩
 rw [hd]; exact h
theorem dR_X {d : Tmp} (ho : ops[i]? = some o) (hd : o.dst = some d) (hw : bc_ ops o e = some true) (h : AOp P o (aev e) σ fun a σ' => s0.Sub σ' ∧ dRun P ops s0 Kk r (upd e d a) σ') : dRun P ops s0 Kk (.op i 1 r) e σ := by
 refine ⟨o, ho, ?_⟩
 unfold cp_
 simp only [hw, hd, updo]
 exact h
theorem u1_ (ho : ops[i]? = some o) (hd : o.dst = none) (hw : bc_ ops o e = some true) (h : AOp P o (aev e) σ fun a σ' => s0.Sub σ' ∧ dRun P ops s0 Kk r e σ') : dRun P ops s0 Kk (.op i 1 r) e σ := by
 refine ⟨o, ho, ?_⟩
 unfold cp_
 simp only [hw, hd, updo]
 exact h
theorem qW_ {d : Tmp} (ho : ops[i]? = some o) (hd : o.dst = some d) (hw : bc_ ops o e = some false) (hs : s0.Sub σ) (h : dRun P ops s0 Kk r (upd e d (.lit undef)) σ) : dRun P ops s0 Kk (.op i 1 r) e σ := by
 refine ⟨o, ho, ?_⟩
 unfold cp_
 simp only [hw, hd, updo]
 exact ⟨hs, h⟩
theorem dR_T {d : Tmp} (ho : ops[i]? = some o) (hd : o.dst = some d) (hw : bc_ ops o e = some true) (h : AOp P o (aev e) σ fun a σ' => dRun P ops s0 Kk r (upd e d a) σ') : dRun P ops s0 Kk (.op i 2 r) e σ := by
 refine ⟨o, ho, ?_⟩
 unfold cp_
 simp only [hw, hd, updo]
 exact h
theorem w4_ (ho : ops[i]? = some o) (hd : o.dst = none) (hw : bc_ ops o e = some true) (h : AOp P o (aev e) σ fun a σ' => dRun P ops s0 Kk r e σ') : dRun P ops s0 Kk (.op i 2 r) e σ := by
 refine ⟨o, ho, ?_⟩
 unfold cp_
 simp only [hw, hd, updo]
 exact h
end
theorem aU_ {P : Program} {o : Oper} {α : Operand → AVal} {σ : Store} {Kk : AVal → Store → Prop} {c : Call} {f : Operand} {g : FuncId} {first captured args : List AVal} {Q : AVal → Store → Prop} (ho : o.op = .call c) (hc : c.callee = .value f)
  (hf : α f = .fn (.func g) first captured ∨ (α f = .lit (.func (.func g) #[] #[]) ∧ first = [] ∧ captured = [])) (hg : isGo P g = true)
  (hargs : first ++ c.args.toList.map α ++ captured = args) (hcon : ai_ P g args σ Q) (hk : ∀ a σ', Q a σ' → Kk a σ') : AOp P o α σ Kk := by
 subst hargs
 exact qw_ ho hc hf hg (hcon.mono hk)
theorem rl_ {σ : Store} {o j : Nat} {x : AObj} (h : (σ.set o x).heap j = none) : j ≠ o ∧ σ.heap j = none := by
 by_cases hj : j = o
 ·subst hj; rw [Store.set_get] at h; cases h
 ·exact ⟨hj, by rw [Store.set_ne _ _ hj] at h; exact h⟩
theorem jG_ {σ : Store} {o : Nat} {x : AObj} (h : σ.heap o = none) : σ.Sub (σ.set o x) := ⟨fun i y hy => by
 by_cases hi : i = o
 ·subst hi; rw [h] at hy; cases hy
 ·rw [Store.set_ne _ _ hi]; exact hy, fun _ _ h => h⟩
section
variable {P : Program} {ops : Array Oper} {s0 : Store} {Kk : Env → Store → Prop} {o : Oper} {rest : List Oper} {i : Nat} {r : DT} {e : Env} {σ : Store}
theorem qv_ {α : Operand → AVal} {Kk : AVal → Store → Prop} {t : TypeId} {x : Operand} {a : AVal} {cs : List AVal} (ho : o.op = .box t x) (hx : α x = a) (hs : a.solid = true) (hc : a.cells = cs)
  (h : ∀ j, σ.heap j = none → Kk (.ref j 0) (σ.set j (.cells cs))) : AOp P o α σ Kk := by
 subst hx; subst hc; exact sU_ ho hs h
theorem uy_ {d : Tmp} {t : TypeId} {x : Operand} {a : AVal} {cs : List AVal} (hg : o.guard = none) (hd : o.dst = some d) (ho : o.op = .box t x) (hx : aev e x = a) (hs : a.solid = true) (hc : a.cells = cs)
  (h : ∀ j, σ.heap j = none → a2_ P ops Kk rest (upd e d (.ref j 0)) (σ.set j (.cells cs))) : a2_ P ops Kk (o :: rest) e σ :=
 aL_X hg hd (qv_ ho hx hs hc h)
theorem iw_ {α : Operand → AVal} {Kk : AVal → Store → Prop} {t : TypeId} {z : Value} {cs : List AVal} (ho : o.op = .alloc t) (hz : cD_ P t = some z) (hc : bq_ z = cs)
  (h : ∀ j, σ.heap j = none → Kk (.ref j 0) (σ.set j (.cells cs))) : AOp P o α σ Kk := by
 subst hc; exact ol_ ho hz h
theorem g0_ {d : Tmp} {t : TypeId} {z : Value} {cs : List AVal} (hg : o.guard = none) (hd : o.dst = some d) (ho : o.op = .alloc t) (hz : cD_ P t = some z) (hc : bq_ z = cs)
  (h : ∀ j, σ.heap j = none → a2_ P ops Kk rest (upd e d (.ref j 0)) (σ.set j (.cells cs))) : a2_ P ops Kk (o :: rest) e σ :=
 aL_X hg hd (iw_ ho hz hc h)
theorem e0_ {α : Operand → AVal} {Kk : AVal → Store → Prop} {t : TypeId} {ad x : Operand} {j off size : Nat} {g : Bool} {cs cs' : List AVal} {a : AVal} (ho : o.op = .store t ad x) (ha : α ad = .ref j off) (hx : α x = a) (hh : σ.heap j = some (.cells cs))
  (ht : cC_ P t = some (size, g)) (hs : a.solid = true) (hcs : a.cells = cs') (hones : ∀ c ∈ cs', c.one = true) (hsz : cs'.length = size) (hle : off + size ≤ cs.length) {cs2 : List AVal} (hp : aput cs off cs' = cs2) (h : Kk .any (σ.set j (.cells cs2))) : AOp P o α σ Kk := by
 subst hx; subst hcs; subst hp; exact on_ ho ha hh ht hs hones hsz hle h
theorem bX_ {t : TypeId} {ad x : Operand} {j off size : Nat} {g : Bool} {cs cs' : List AVal} {a : AVal} (hg : o.guard = none) (hd : o.dst = none) (ho : o.op = .store t ad x) (ha : aev e ad = .ref j off) (hx : aev e x = a) (hh : σ.heap j = some (.cells cs))
  (ht : cC_ P t = some (size, g)) (hs : a.solid = true) (hcs : a.cells = cs') (hones : ∀ c ∈ cs', c.one = true) (hsz : cs'.length = size) (hle : off + size ≤ cs.length) {cs2 : List AVal} (hp : aput cs off cs' = cs2)
  (h : a2_ P ops Kk rest e (σ.set j (.cells cs2))) : a2_ P ops Kk (o :: rest) e σ :=
 qz_ hg hd (e0_ ho ha hx hh ht hs hcs hones hsz hle hp h)
theorem g3_ {cs : List AVal} {k : Nat} {a : AVal} (h : k < cs.length) : aput cs k [a] = cs.set k a := by
 unfold aput
 rw [List.set_eq_take_append_cons_drop, if_pos h]
 simp
theorem ec_ {t : TypeId} {ad x : Operand} {j off size : Nat} {g : Bool} {cs cs' : List AVal} {a : AVal} (hop : ops[i]? = some o) (hd : o.dst = none) (hw : bc_ ops o e = some true) (ho : o.op = .store t ad x) (ha : aev e ad = .ref j off) (hx : aev e x = a) (hh : σ.heap j = some (.cells cs))
  (ht : cC_ P t = some (size, g)) (hs : a.solid = true) (hcs : a.cells = cs') (hones : ∀ c ∈ cs', c.one = true) (hsz : cs'.length = size) (hle : off + size ≤ cs.length) {cs2 : List AVal} (hp : aput cs off cs' = cs2)
  (h : dRun P ops s0 Kk r e (σ.set j (.cells cs2))) : dRun P ops s0 Kk (.op i 2 r) e σ :=
 w4_ hop hd hw (e0_ ho ha hx hh ht hs hcs hones hsz hle hp h)
theorem k3_ {α : Operand → AVal} {Kk : AVal → Store → Prop} {s x : Operand} {t el : TypeId} {sz by_ k : Nat} {l l2 : List AVal} (ho : o.op = .call { callee := .builtin .append, args := #[s, x], argTypes := #[t, t] }) (hse : aA_ P t = some el) (hte : a6_ P el = some (sz, by_))
  (hs : α s = .own k sz l) (hk : σ.tok k = some (el, sz)) (hx : slOf (α x) = some (sz, l2)) (hone : ∀ y ∈ l2, ∀ c ∈ y.cells, c.one = true) (hlen : (l.length + l2.length) * by_ ≤ 140737488355328)
  (h : ∀ t', σ.tok t' = none → Kk (.own t' sz (l ++ l2)) (σ.newTok (some k) t' (el, sz))) : AOp P o α σ Kk :=
 nk_ ho hse hte (.inl ⟨k, hs, hk, rfl⟩) (.inl hx) hone hlen h
theorem aM_ {d : Tmp} {s x : Operand} {t el : TypeId} {sz by_ k : Nat} {l l2 : List AVal} (hg : o.guard = none) (hd : o.dst = some d) (ho : o.op = .call { callee := .builtin .append, args := #[s, x], argTypes := #[t, t] }) (hse : aA_ P t = some el) (hte : a6_ P el = some (sz, by_))
  (hs : aev e s = .own k sz l) (hk : σ.tok k = some (el, sz)) (hx : slOf (aev e x) = some (sz, l2)) (hone : ∀ y ∈ l2, ∀ c ∈ y.cells, c.one = true) (hlen : (l.length + l2.length) * by_ ≤ 140737488355328)
  (h : ∀ t', σ.tok t' = none → a2_ P ops Kk rest (upd e d (.own t' sz (l ++ l2))) (σ.newTok (some k) t' (el, sz))) : a2_ P ops Kk (o :: rest) e σ :=
 aL_X hg hd (k3_ ho hse hte hs hk hx hone hlen h)
theorem no_ {d : Tmp} {src dst el : TypeId} {x : Operand} {s : ByteArray} (hg : o.guard = none) (hd' : o.dst = some d) (ho : o.op = .convert src dst x) (hs : P.underlying src = some .string) (hd : P.underlying dst = some (.slice el)) (he : P.underlying el = some (.int .u8)) (hx : aev e x = .lit (.string s))
  (h : a2_ P ops Kk rest (upd e d (.sl 1 (aJ_ s) false)) σ) : a2_ P ops Kk (o :: rest) e σ := aL_X hg hd' (k5_ ho hs hd he hx h)
theorem sV_ {sz : Nat} {tx el : TypeId} {x : AVal} {l2 : List AVal} (hk : P.underlying tx = some (.slice el)) (hx : slOf x = some (sz, l2)) (hone : ∀ y ∈ l2, ∀ c ∈ y.cells, c.one = true) : ASrc P sz tx x l2 := .inl ⟨⟨el, hk⟩, .inl hx, hone⟩
theorem l0_ {tx : TypeId} {s : ByteArray} (hk : P.underlying tx = some .string) : ASrc P 1 tx (.lit (.string s)) (aJ_ s) := .inr ⟨hk, rfl, s, rfl, rfl⟩
theorem a8_ {d : Tmp} {x : Operand} (el : TypeId) (sz : Nat) (hg : o.guard = none) (hd : o.dst = some d) (ho : o.op = .assign x) (hx : aev e x = .lit (.slice none 0 0))
  (h : ∀ t', σ.tok t' = none → a2_ P ops Kk rest (upd e d (.own t' sz [])) (σ.newTok none t' (el, sz))) : a2_ P ops Kk (o :: rest) e σ :=
 aL_X hg hd (nl_ ho hx h)
theorem l5_ {d : Tmp} {x : Operand} (sz : Nat) (hg : o.guard = none) (hd : o.dst = some d) (ho : o.op = .assign x) (hx : aev e x = .lit (.slice none 0 0)) (h : a2_ P ops Kk rest (upd e d (.sl sz [] false)) σ) : a2_ P ops Kk (o :: rest) e σ := by
 refine aL_X hg hd ?_
 obtain ⟨dst, op, ty, pos, after, guard⟩ := o
 obtain rfl : op = .assign x := ho
 intro κ ev hI hxx
 have hv := hxx x (by simp [Op.operands])
 rw [hx] at hv
 have : (execOp ev { dst := dst, op := .assign x, type := ty, pos := pos, after := after, guard := guard }).run P κ.w = .ok (.value (ev x)) κ.w := by simp [execOp]
 rw [this, hv.litInv]
 exact ⟨κ, .sl sz [] false, σ, rfl, .refl κ, hI, .slNil _ _, h⟩
theorem aS_ {α : Operand → AVal} {Kk : AVal → Store → Prop} {t el : TypeId} {n sz by_ : Nat} {parts : List (Nat × Operand)} {l : List AVal} (ho : o.op = .buildSlice t n parts.toArray) (hse : aA_ P t = some el) (hte : a6_ P el = some (sz, by_)) (hn : parts.length = n)
  (hr : parts.map (·.1) = List.range' 0 parts.length) (hl : (parts.map fun p => α p.2) = l) (hs : ∀ p ∈ parts, (α p.2).solid = true ∧ (α p.2).cells.length = sz) (hbig : n * sz ≤ 16777216) (hk : Kk (.sl sz l true) σ) : AOp P o α σ Kk := by
 subst hl
 exact il_ ho hse hte hn hr hs hbig hk
theorem ao_ {d : Tmp} {t el : TypeId} {n sz by_ : Nat} {parts : List (Nat × Operand)} {l : List AVal} (hg : o.guard = none) (hd : o.dst = some d) (ho : o.op = .buildSlice t n parts.toArray) (hse : aA_ P t = some el) (hte : a6_ P el = some (sz, by_)) (hn : parts.length = n)
  (hr : parts.map (·.1) = List.range' 0 parts.length) (hl : (parts.map fun p => aev e p.2) = l) (hs : ∀ p ∈ parts, (aev e p.2).solid = true ∧ (aev e p.2).cells.length = sz) (hbig : n * sz ≤ 16777216) (h : a2_ P ops Kk rest (upd e d (.sl sz l true)) σ) : a2_ P ops Kk (o :: rest) e σ :=
 aL_X hg hd (aS_ ho hse hte hn hr hl hs hbig h)
theorem r5_ {σ σ' : Store} {o : Nat} {x : AObj} (h : σ.Sub σ') (ho : σ'.heap o = none) : σ.Sub (σ'.set o x) := ⟨fun i y hy => by
 by_cases hi : i = o
 ·subst hi; rw [h.heap i y hy] at ho; cases ho
 ·rw [Store.set_ne _ _ hi]; exact h.heap i y hy, h.tok⟩
theorem g5_ {d : Tmp} {t : TypeId} {z : Value} {cs : List AVal} (hop : ops[i]? = some o) (hd : o.dst = some d) (hw : bc_ ops o e = some true) (ho : o.op = .alloc t) (hz : cD_ P t = some z) (hc : bq_ z = cs) (hsub : s0.Sub σ)
  (h : ∀ j, σ.heap j = none → dRun P ops s0 Kk r (upd e d (.ref j 0)) (σ.set j (.cells cs))) : dRun P ops s0 Kk (.op i 1 r) e σ :=
 dR_X hop hd hw (iw_ ho hz hc fun j hj => ⟨r5_ hsub hj, h j hj⟩)
theorem au_ {rs : List ResultVar} {Q : AVal → Store → Prop} {v : AVal} {σ' : Store} (h : aret P rs e σ = some v) (hs : σ'.Wk σ) (hq : Q v σ') : aEnd P rs Q .ret e σ := ⟨v, v, σ', h, .refl _, hs, hq⟩
theorem bz_ {rs : List ResultVar} {Q : AVal → Store → Prop} {v : AVal} {σ' : Store} (h : aret P rs e σ = some v) (hs : σ'.Wk σ) (hq : Q v σ') : aEnd P rs Q .normal e σ := ⟨v, v, σ', h, .refl _, hs, hq⟩
theorem aw_ {rs : List ResultVar} {Q : AVal → Store → Prop} {v v' : AVal} {σ' : Store} (h : aret P rs e σ = some v') (hw : Wk v' v) (hs : σ'.Wk σ) (hq : Q v σ') : aEnd P rs Q .ret e σ := ⟨v, v', σ', h, hw, hs, hq⟩
end
end Go.Ab
end
