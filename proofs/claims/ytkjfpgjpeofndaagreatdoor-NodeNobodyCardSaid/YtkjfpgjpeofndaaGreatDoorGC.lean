/-
  WHAT THE TABLES OF TYPES SAY,a closed fact each. Printed by a program of one's own (wip/tools/gen_types.py) off this seat's translation.; SLICES MADE,TAKEN FOR GOOD,COPIED TO BE WRITTEN; THE LAYER IN USE: one step at a time;the rules by which 'aval' is reckoned. Own work (an AI agent).
-/
import Derived.Test.YtkjfpgjpeofndaaGreatDoorGB
import Derived.Test.YtkjfpgjpeofndaaGreatDoorProg
import Derived.KernelRfl
import Derived.Deep.OwnRows
import Derived.Laws.Cover3

section
set_option linter.all false
namespace Go.Proofs
open Go.Ab
abbrev yT (n a:Nat) (b:Bool):Prop:=bj_ Tryz.prog n=some (a,b)
abbrev yZ (n:Nat) (v:Value):Prop:=bA_ Tryz.prog n=some v
abbrev yF (n k a b:Nat) (c:Bool):Prop:=dF_ Tryz.prog n k=some (a,b,c)
abbrev yG (n:Nat):Prop:=isGo Tryz.prog n=true
theorem yP {p q:Prop} (a:p) (b:q):p∧q:=⟨a,b⟩
@[go_sem] theorem yy1:yT 1 1 false∧yT 2 1 false∧yT 3 1 false∧yT 4 1 false∧yT 5 1 false∧yT 6 1 false∧yT 7 4 true∧yT 8 4 true∧yT 9 1 false∧yT 10 1 false∧yT 11 1 false∧yT 12 1 false∧yT 13 2 true∧yT 14 2 true∧yT 15 1 false∧yT 16 1 false∧yT 17 1 false∧yT 18 1 true∧yT 19 1 true∧yT 20 1 false∧yT 21 1 false∧yT 22 1 false∧yT 23 7 true∧yT 24 7 true∧yT 25 10 true∧yT 26 10 true∧yT 27 1 false∧yT 28 1 false∧yT 29 1 false∧yT 30 1 false:=by repeat' (first | refine yP ?_ ?_ | (show _=_;kernel_rfl))
@[go_sem] theorem yy2:yT 31 1 false∧yT 32 1 false∧yT 33 1 false∧yT 34 1 false∧yT 35 1 false∧yT 36 1 false∧yT 37 10 true∧yT 38 10 true∧yT 39 1 false∧yT 40 1 false∧yT 41 1 false∧yT 42 1 false∧yT 43 1 true∧yT 44 1 true∧yT 45 2 true∧yT 46 2 true∧yT 47 1 false∧yT 48 1 false∧yT 49 1 false∧yT 50 1 false∧yT 51 1 false∧yT 52 1 false∧yT 53 2 true∧yT 54 2 true∧yT 55 1 false∧yT 56 1 false∧yT 57 1 false∧yT 58 1 false∧yT 59 1 false∧yT 60 1 false:=by repeat' (first | refine yP ?_ ?_ | (show _=_;kernel_rfl))
@[go_sem] theorem yy3:yT 61 4 true∧yT 62 4 true∧yT 63 10 true∧yT 64 10 true∧yT 66 1 false∧yT 68 1 false∧yT 69 1 false∧yT 70 1 false∧yT 71 3 true∧yT 72 3 true∧yT 73 4 true∧yT 74 4 true∧yT 75 1 false∧yT 77 1 false∧yT 78 1 false∧yT 79 1 false∧yT 80 1 false∧yT 81 1 false∧yT 82 6 true∧yT 83 6 true∧yT 84 1 false∧yT 85 1 false∧yT 86 1 false∧yT 87 1 false∧yT 88 2 true∧yT 89 2 true∧yT 90 6 true∧yT 91 6 true∧yT 92 8 true∧yT 93 8 true:=by repeat' (first | refine yP ?_ ?_ | (show _=_;kernel_rfl))
@[go_sem] theorem yy4:yT 94 1 false∧yT 96 1 false∧yT 97 1 false∧yT 98 1 false∧yT 99 1 false∧yT 100 1 false∧yT 101 2 true∧yT 102 2 true∧yT 103 1 false∧yT 105 1 false∧yT 106 1 false∧yT 107 1 false∧yT 108 2 true∧yT 109 2 true∧yT 110 1 false∧yT 111 11 true∧yT 112 11 true∧yT 114 1 false∧yT 115 2 true∧yT 116 2 true∧yT 117 3 true∧yT 118 3 true∧yT 119 1 false∧yT 120 2 true∧yT 121 2 true∧yT 123 1 false∧yT 124 1 false∧yT 127 1 false∧yT 128 1 false∧yT 129 1 false:=by repeat' (first | refine yP ?_ ?_ | (show _=_;kernel_rfl))
@[go_sem] theorem yy5:yT 130 1 false∧yT 131 1 false∧yT 133 1 false∧yT 135 1 false∧yT 136 1 false∧yT 138 1 false∧yT 139 1 false∧yT 140 1 false∧yT 141 8 true∧yT 142 8 true∧yT 144 1 false∧yT 148 1 false∧yT 150 1 false∧yT 151 1 false∧yT 152 1 false∧yT 155 1 false∧yT 156 1 false∧yT 157 1 false∧yT 158 1 false∧yT 159 1 false∧yT 160 1 false∧yT 161 2 true∧yT 162 1 false∧yT 163 12 true∧yT 164 12 true∧yT 166 1 false∧yT 168 1 false∧yT 169 1 false∧yT 170 1 false∧yT 172 1 false:=by repeat' (first | refine yP ?_ ?_ | (show _=_;kernel_rfl))
@[go_sem] theorem yy6:yT 173 1 false∧yT 174 1 false∧yT 175 1 false∧yT 176 9 true∧yT 177 9 true∧yT 182 1 false∧yT 183 1 false∧yT 191 1 false∧yT 192 2 true∧yT 193 2 true∧yT 196 4 true∧yT 197 4 true∧yT 198 1 false∧yT 200 1 false∧yT 201 1 false∧yT 203 1 false∧yT 206 1 false∧yT 209 1 false∧yT 211 3 true∧yT 212 3 true∧yT 213 1 false∧yT 214 1 false∧yT 216 1 false∧yT 218 1 false∧yT 221 1 false∧yT 222 1 false∧yT 223 1 false∧yT 224 2 true∧yT 225 2 true∧yT 230 1 false:=by repeat' (first | refine yP ?_ ?_ | (show _=_;kernel_rfl))
@[go_sem] theorem yy7:yT 233 1 false∧yT 239 1 false∧yT 240 1 false∧yT 241 1 false∧yT 242 1 false∧yT 243 2 true∧yT 244 2 true∧yT 245 1 false∧yT 246 3 true∧yT 247 3 true∧yT 250 1 false∧yT 258 1 false∧yT 259 1 false∧yT 260 1 false∧yT 261 1 false∧yT 267 5 true∧yT 268 5 true∧yT 280 2 true∧yT 281 2 true∧yT 284 1 false∧yT 285 2 true∧yT 286 2 true∧yT 287 1 false∧yT 288 3 true∧yT 289 3 true∧yT 293 1 false∧yT 295 1 false∧yT 298 1 false∧yT 299 2 true∧yT 300 2 true:=by repeat' (first | refine yP ?_ ?_ | (show _=_;kernel_rfl))
@[go_sem] theorem yy8:yT 302 1 false∧yT 305 1 false∧yT 306 1 false∧yT 307 1 false∧yT 308 1 false∧yT 309 1 false∧yT 310 3 true∧yT 311 3 true∧yT 312 1 false∧yT 313 1 false∧yT 314 1 false∧yT 315 1 false∧yT 317 1 false∧yT 318 1 false∧yT 319 1 false∧yT 321 1 false∧yT 323 1 false∧yT 325 1 false∧yT 326 1 false∧yT 327 1 false∧yT 328 2 true∧yT 329 2 true∧yT 330 2 true∧yT 331 2 true∧yT 340 8 true∧yT 341 2 true∧yT 342 2 true∧yT 345 1 false∧yT 346 2 true∧yT 351 1 false:=by repeat' (first | refine yP ?_ ?_ | (show _=_;kernel_rfl))
@[go_sem] theorem yy9:yT 352 1 false∧yT 353 1 false∧yT 354 1 false∧yT 355 1 false∧yT 360 1 false∧yT 361 1 false∧yT 362 1 false∧yT 363 1 false∧yT 366 1 false∧yT 367 1 false∧yT 369 1 false∧yT 371 1 false∧yT 373 1 false∧yT 374 1 false∧yT 376 1 false∧yT 381 1 false∧yT 383 1 false∧yT 384 1 false∧yT 385 1 false∧yT 387 1 false∧yT 388 1 false∧yT 389 1 false∧yT 390 1 false∧yT 403 1 false∧yT 404 1 false∧yT 405 13 true∧yT 406 13 true∧yT 407 3 true∧yT 408 3 true∧yT 414 1 false:=by repeat' (first | refine yP ?_ ?_ | (show _=_;kernel_rfl))
@[go_sem] theorem yy10:yT 420 1 false∧yT 421 1 false∧yT 430 1 false∧yT 432 1 false∧yT 435 1 false∧yT 439 1 false∧yT 440 4 true∧yT 441 4 true∧yT 442 1 false∧yT 443 1 false∧yT 444 1 false∧yT 445 1 false∧yT 446 1 false∧yT 447 1 false∧yT 448 1 false∧yT 453 1 false∧yT 454 1 true∧yT 455 1 true∧yT 456 1 false∧yT 457 1 false∧yT 459 1 false∧yT 469 1 false∧yT 475 1 false∧yT 483 5 true∧yT 484 5 true∧yT 485 13 true∧yT 486 13 true∧yT 493 1 false∧yT 495 1 false∧yT 496 1 false:=by repeat' (first | refine yP ?_ ?_ | (show _=_;kernel_rfl))
@[go_sem] theorem yy11:yT 497 1 false∧yT 498 1 true∧yT 499 1 true∧yT 500 1 false∧yT 501 1 false∧yT 502 1 false∧yT 503 1 false∧yT 507 1 false∧yT 518 1 false∧yT 519 1 false∧yT 520 1 false∧yT 521 1 false∧yT 526 1 false∧yT 527 1 false∧yT 528 1 false∧yT 529 64 true∧yT 534 1 false∧yT 535 1 false∧yT 543 1 false∧yT 544 1 false∧yT 545 1 false∧yT 546 1 false∧yT 547 1 false∧yT 548 1 false∧yT 549 1 false∧yT 550 1 false∧yT 556 1 false∧yT 559 1 false∧yT 560 1 false∧yT 565 1 false:=by repeat' (first | refine yP ?_ ?_ | (show _=_;kernel_rfl))
@[go_sem] theorem yy12:yT 566 1 false∧yT 567 1 false∧yT 568 64 true∧yT 569 1 false∧yT 573 1 false∧yT 579 1 false∧yT 580 1 false∧yT 585 1 false∧yT 588 1 false∧yT 589 1 false∧yT 590 1 false∧yT 596 1 false∧yT 601 3 true∧yT 604 1 false∧yT 608 1 false∧yT 609 1 false∧yT 610 1 false∧yT 611 1 false∧yT 612 64 true∧yT 624 1 false∧yT 631 1 false∧yT 633 1 false∧yT 642 1 false∧yT 644 1 false∧yT 647 3 true∧yT 648 3 true∧yT 654 1 false∧yT 658 1 false∧yT 682 4 true∧yT 683 4 true:=by repeat' (first | refine yP ?_ ?_ | (show _=_;kernel_rfl))
@[go_sem] theorem yy13:yT 684 0 true∧yT 685 0 true∧yT 686 0 true∧yT 687 1 false∧yT 688 1 false∧yT 689 1 false∧yT 690 1 false∧yT 691 1 false∧yT 692 11 true∧yT 693 11 true:=by repeat' (first | refine yP ?_ ?_ | (show _=_;kernel_rfl))
@[go_sem] theorem yy14:yZ 1 (.nilFunc)∧yZ 2 (.int .i64 0)∧yZ 3 (.int .i64 0)∧yZ 4 (.bool false)∧yZ 5 (.int .u8 0)∧yZ 6 (.int .u8 0)∧yZ 7 (.agg #[.int .i64 0,.int .i64 0,.bool false,.int .u8 0])∧yZ 8 (.agg #[.int .i64 0,.int .i64 0,.bool false,.int .u8 0])∧yZ 9 (.string ⟨#[]⟩)∧yZ 10 (.string ⟨#[]⟩)∧yZ 11 (.string ⟨#[]⟩)∧yZ 12 (.int .u64 0)∧yZ 13 (.agg #[.string ⟨#[]⟩,.int .u64 0])∧yZ 14 (.agg #[.string ⟨#[]⟩,.int .u64 0])∧yZ 15 (.pointer none)∧yZ 16 (.pointer none)∧yZ 17 (.pointer none)∧yZ 18 (.agg #[.pointer none])∧yZ 19 (.agg #[.pointer none])∧yZ 20 (.nilIface)∧yZ 21 (.int .i32 0)∧yZ 22 (.slice none 0 0)∧yZ 23 (.agg #[.int .i64 0,.string ⟨#[]⟩,.string ⟨#[]⟩,.string ⟨#[]⟩,.string ⟨#[]⟩,.slice none 0 0,.int .i64 0])∧yZ 24 (.agg #[.int .i64 0,.string ⟨#[]⟩,.string ⟨#[]⟩,.string ⟨#[]⟩,.string ⟨#[]⟩,.slice none 0 0,.int .i64 0])∧yZ 25 (.agg #[.int .i64 0,.int .i64 0,.int .i64 0,.string ⟨#[]⟩,.string ⟨#[]⟩,.string ⟨#[]⟩,.string ⟨#[]⟩,.slice none 0 0,.int .i64 0,.string ⟨#[]⟩])∧yZ 26 (.agg #[.int .i64 0,.int .i64 0,.int .i64 0,.string ⟨#[]⟩,.string ⟨#[]⟩,.string ⟨#[]⟩,.string ⟨#[]⟩,.slice none 0 0,.int .i64 0,.string ⟨#[]⟩])∧yZ 27 (.slice none 0 0)∧yZ 28 (.nilFunc)∧yZ 29 (.slice none 0 0)∧yZ 30 (.nilFunc):=by repeat' (first | refine yP ?_ ?_ | (show _=_;kernel_rfl))
@[go_sem] theorem yy15:yZ 31 (.nilFunc)∧yZ 32 (.pointer none)∧yZ 33 (.pointer none)∧yZ 34 (.map none)∧yZ 35 (.slice none 0 0)∧yZ 36 (.slice none 0 0)∧yZ 37 (.agg #[.string ⟨#[]⟩,.bool false,.int .i64 0,.int .i64 0,.pointer none,.slice none 0 0,.slice none 0 0,.map none,.slice none 0 0,.slice none 0 0])∧yZ 38 (.agg #[.string ⟨#[]⟩,.bool false,.int .i64 0,.int .i64 0,.pointer none,.slice none 0 0,.slice none 0 0,.map none,.slice none 0 0,.slice none 0 0])∧yZ 39 (.slice none 0 0)∧yZ 40 (.pointer none)∧yZ 41 (.pointer none)∧yZ 42 (.slice none 0 0)∧yZ 43 (.agg #[.slice none 0 0])∧yZ 44 (.agg #[.slice none 0 0])∧yZ 45 (.agg #[.pointer none,.pointer none])∧yZ 46 (.agg #[.pointer none,.pointer none])∧yZ 47 (.nilFunc)∧yZ 48 (.nilFunc)∧yZ 49 (.nilFunc)∧yZ 50 (.nilFunc)∧yZ 51 (.slice none 0 0)∧yZ 52 (.slice none 0 0)∧yZ 53 (.agg #[.slice none 0 0,.slice none 0 0])∧yZ 54 (.agg #[.slice none 0 0,.slice none 0 0])∧yZ 55 (.nilFunc)∧yZ 56 (.nilFunc)∧yZ 57 (.nilFunc)∧yZ 58 (.nilFunc)∧yZ 59 (.int .i64 0)∧yZ 60 (.nilFunc):=by repeat' (first | refine yP ?_ ?_ | (show _=_;kernel_rfl))
@[go_sem] theorem yy16:yZ 61 (.agg #[.string ⟨#[]⟩,.string ⟨#[]⟩,.string ⟨#[]⟩,.bool false])∧yZ 62 (.agg #[.string ⟨#[]⟩,.string ⟨#[]⟩,.string ⟨#[]⟩,.bool false])∧yZ 63 (.agg #[.int .i64 0,.string ⟨#[]⟩,.string ⟨#[]⟩,.string ⟨#[]⟩,.string ⟨#[]⟩,.int .i64 0,.string ⟨#[]⟩,.string ⟨#[]⟩,.string ⟨#[]⟩,.bool false])∧yZ 64 (.agg #[.int .i64 0,.string ⟨#[]⟩,.string ⟨#[]⟩,.string ⟨#[]⟩,.string ⟨#[]⟩,.int .i64 0,.string ⟨#[]⟩,.string ⟨#[]⟩,.string ⟨#[]⟩,.bool false])∧yZ 66 (.nilFunc)∧yZ 68 (.nilFunc)∧yZ 69 (.nilFunc)∧yZ 70 (.nilFunc)∧yZ 71 (.agg #[.int .i64 0,.string ⟨#[]⟩,.string ⟨#[]⟩])∧yZ 72 (.agg #[.int .i64 0,.string ⟨#[]⟩,.string ⟨#[]⟩])∧yZ 73 (.agg #[.string ⟨#[]⟩,.int .i64 0,.string ⟨#[]⟩,.string ⟨#[]⟩])∧yZ 74 (.agg #[.string ⟨#[]⟩,.int .i64 0,.string ⟨#[]⟩,.string ⟨#[]⟩])∧yZ 75 (.nilFunc)∧yZ 77 (.nilFunc)∧yZ 78 (.slice none 0 0)∧yZ 79 (.nilFunc)∧yZ 80 (.nilFunc)∧yZ 81 (.nilFunc)∧yZ 82 (.agg #[.string ⟨#[]⟩,.string ⟨#[]⟩,.int .i64 0,.int .i64 0,.int .i64 0,.int .i64 0])∧yZ 83 (.agg #[.string ⟨#[]⟩,.string ⟨#[]⟩,.int .i64 0,.int .i64 0,.int .i64 0,.int .i64 0])∧yZ 84 (.nilFunc)∧yZ 85 (.nilFunc)∧yZ 86 (.slice none 0 0)∧yZ 87 (.slice none 0 0)∧yZ 88 (.agg #[.string ⟨#[]⟩,.int .i64 0])∧yZ 89 (.agg #[.string ⟨#[]⟩,.int .i64 0])∧yZ 90 (.agg #[.int .i64 0,.slice none 0 0,.slice none 0 0,.slice none 0 0,.string ⟨#[]⟩,.int .i64 0])∧yZ 91 (.agg #[.int .i64 0,.slice none 0 0,.slice none 0 0,.slice none 0 0,.string ⟨#[]⟩,.int .i64 0])∧yZ 92 (.agg #[.string ⟨#[]⟩,.int .i64 0,.int .i64 0,.slice none 0 0,.slice none 0 0,.slice none 0 0,.string ⟨#[]⟩,.int .i64 0])∧yZ 93 (.agg #[.string ⟨#[]⟩,.int .i64 0,.int .i64 0,.slice none 0 0,.slice none 0 0,.slice none 0 0,.string ⟨#[]⟩,.int .i64 0]):=by repeat' (first | refine yP ?_ ?_ | (show _=_;kernel_rfl))
@[go_sem] theorem yy17:yZ 94 (.nilFunc)∧yZ 96 (.nilFunc)∧yZ 97 (.nilFunc)∧yZ 98 (.nilFunc)∧yZ 99 (.nilFunc)∧yZ 100 (.nilFunc)∧yZ 101 (.agg #[.string ⟨#[]⟩,.string ⟨#[]⟩])∧yZ 102 (.agg #[.string ⟨#[]⟩,.string ⟨#[]⟩])∧yZ 103 (.pointer none)∧yZ 105 (.nilFunc)∧yZ 106 (.map none)∧yZ 107 (.pointer none)∧yZ 108 (.agg #[.int .i64 0,.int .i64 0])∧yZ 109 (.agg #[.int .i64 0,.int .i64 0])∧yZ 110 (.pointer none)∧yZ 111 (.agg #[.string ⟨#[]⟩,.pointer none,.slice none 0 0,.slice none 0 0,.map none,.int .i64 0,.pointer none,.int .i64 0,.int .i64 0,.pointer none,.slice none 0 0])∧yZ 112 (.agg #[.string ⟨#[]⟩,.pointer none,.slice none 0 0,.slice none 0 0,.map none,.int .i64 0,.pointer none,.int .i64 0,.int .i64 0,.pointer none,.slice none 0 0])∧yZ 114 (.nilFunc)∧yZ 115 (.agg #[.slice none 0 0,.slice none 0 0])∧yZ 116 (.agg #[.slice none 0 0,.slice none 0 0])∧yZ 117 (.agg #[.string ⟨#[]⟩,.slice none 0 0,.slice none 0 0])∧yZ 118 (.agg #[.string ⟨#[]⟩,.slice none 0 0,.slice none 0 0])∧yZ 119 (.nilFunc)∧yZ 120 (.agg #[.string ⟨#[]⟩,.int .i64 0])∧yZ 121 (.agg #[.string ⟨#[]⟩,.int .i64 0])∧yZ 123 (.nilFunc)∧yZ 124 (.nilFunc)∧yZ 127 (.nilFunc)∧yZ 128 (.nilFunc)∧yZ 129 (.nilFunc):=by repeat' (first | refine yP ?_ ?_ | (show _=_;kernel_rfl))
@[go_sem] theorem yy18:yZ 130 (.nilFunc)∧yZ 131 (.nilFunc)∧yZ 133 (.nilFunc)∧yZ 135 (.nilFunc)∧yZ 136 (.nilFunc)∧yZ 138 (.slice none 0 0)∧yZ 139 (.nilFunc)∧yZ 140 (.slice none 0 0)∧yZ 141 (.agg #[.int .i64 0,.int .i64 0,.int .i64 0,.int .i64 0,.int .i64 0,.bool false,.bool false,.bool false])∧yZ 142 (.agg #[.int .i64 0,.int .i64 0,.int .i64 0,.int .i64 0,.int .i64 0,.bool false,.bool false,.bool false])∧yZ 144 (.nilFunc)∧yZ 148 (.nilFunc)∧yZ 150 (.nilFunc)∧yZ 151 (.int .u64 0)∧yZ 152 (.nilFunc)∧yZ 155 (.nilFunc)∧yZ 156 (.nilFunc)∧yZ 157 (.nilFunc)∧yZ 158 (.nilFunc)∧yZ 159 (.nilFunc)∧yZ 160 (.nilFunc)∧yZ 161 (.agg #[.string ⟨#[]⟩,.string ⟨#[]⟩])∧yZ 162 (.slice none 0 0)∧yZ 163 (.agg #[.int .i64 0,.string ⟨#[]⟩,.string ⟨#[]⟩,.int .i64 0,.int .i64 0,.string ⟨#[]⟩,.slice none 0 0,.slice none 0 0,.slice none 0 0,.slice none 0 0,.slice none 0 0,.slice none 0 0])∧yZ 164 (.agg #[.int .i64 0,.string ⟨#[]⟩,.string ⟨#[]⟩,.int .i64 0,.int .i64 0,.string ⟨#[]⟩,.slice none 0 0,.slice none 0 0,.slice none 0 0,.slice none 0 0,.slice none 0 0,.slice none 0 0])∧yZ 166 (.nilFunc)∧yZ 168 (.nilFunc)∧yZ 169 (.nilFunc)∧yZ 170 (.slice none 0 0)∧yZ 172 (.pointer none):=by repeat' (first | refine yP ?_ ?_ | (show _=_;kernel_rfl))
@[go_sem] theorem yy19:yZ 173 (.pointer none)∧yZ 174 (.pointer none)∧yZ 175 (.pointer none)∧yZ 176 (.agg #[.string ⟨#[]⟩,.string ⟨#[]⟩,.int .i64 0,.slice none 0 0,.slice none 0 0,.pointer none,.pointer none,.pointer none,.bool false])∧yZ 177 (.agg #[.string ⟨#[]⟩,.string ⟨#[]⟩,.int .i64 0,.slice none 0 0,.slice none 0 0,.pointer none,.pointer none,.pointer none,.bool false])∧yZ 182 (.nilFunc)∧yZ 183 (.nilFunc)∧yZ 191 (.slice none 0 0)∧yZ 192 (.agg #[.slice none 0 0,.int .i64 0])∧yZ 193 (.agg #[.slice none 0 0,.int .i64 0])∧yZ 196 (.agg #[.slice none 0 0,.string ⟨#[]⟩,.slice none 0 0,.int .i64 0])∧yZ 197 (.agg #[.slice none 0 0,.string ⟨#[]⟩,.slice none 0 0,.int .i64 0])∧yZ 198 (.nilFunc)∧yZ 200 (.nilFunc)∧yZ 201 (.nilFunc)∧yZ 203 (.nilFunc)∧yZ 206 (.nilFunc)∧yZ 209 (.nilFunc)∧yZ 211 (.agg #[.string ⟨#[]⟩,.int .i64 0,.slice none 0 0])∧yZ 212 (.agg #[.string ⟨#[]⟩,.int .i64 0,.slice none 0 0])∧yZ 213 (.nilFunc)∧yZ 214 (.nilFunc)∧yZ 216 (.nilFunc)∧yZ 218 (.pointer none)∧yZ 221 (.nilFunc)∧yZ 222 (.nilFunc)∧yZ 223 (.nilFunc)∧yZ 224 (.agg #[.string ⟨#[]⟩,.bool false])∧yZ 225 (.agg #[.string ⟨#[]⟩,.bool false])∧yZ 230 (.nilFunc):=by repeat' (first | refine yP ?_ ?_ | (show _=_;kernel_rfl))
@[go_sem] theorem yy20:yZ 233 (.nilFunc)∧yZ 239 (.nilFunc)∧yZ 240 (.slice none 0 0)∧yZ 241 (.slice none 0 0)∧yZ 242 (.map none)∧yZ 243 (.agg #[.slice none 0 0,.map none])∧yZ 244 (.agg #[.slice none 0 0,.map none])∧yZ 245 (.pointer none)∧yZ 246 (.agg #[.int .i64 0,.int .i64 0,.int .i64 0])∧yZ 247 (.agg #[.int .i64 0,.int .i64 0,.int .i64 0])∧yZ 250 (.nilFunc)∧yZ 258 (.nilFunc)∧yZ 259 (.nilFunc)∧yZ 260 (.nilFunc)∧yZ 261 (.nilFunc)∧yZ 267 (.agg #[.string ⟨#[]⟩,.int .i64 0,.string ⟨#[]⟩,.bool false,.int .i64 0])∧yZ 268 (.agg #[.string ⟨#[]⟩,.int .i64 0,.string ⟨#[]⟩,.bool false,.int .i64 0])∧yZ 280 (.agg #[.string ⟨#[]⟩,.string ⟨#[]⟩])∧yZ 281 (.agg #[.string ⟨#[]⟩,.string ⟨#[]⟩])∧yZ 284 (.map none)∧yZ 285 (.agg #[.int .i64 0,.map none])∧yZ 286 (.agg #[.int .i64 0,.map none])∧yZ 287 (.map none)∧yZ 288 (.agg #[.int .i64 0,.string ⟨#[]⟩,.map none])∧yZ 289 (.agg #[.int .i64 0,.string ⟨#[]⟩,.map none])∧yZ 293 (.nilFunc)∧yZ 295 (.nilFunc)∧yZ 298 (.nilFunc)∧yZ 299 (.agg #[.int .i64 0,.int .i64 0])∧yZ 300 (.agg #[.int .i64 0,.int .i64 0]):=by repeat' (first | refine yP ?_ ?_ | (show _=_;kernel_rfl))
@[go_sem] theorem yy21:yZ 302 (.nilFunc)∧yZ 305 (.nilFunc)∧yZ 306 (.nilFunc)∧yZ 307 (.slice none 0 0)∧yZ 308 (.nilFunc)∧yZ 309 (.nilFunc)∧yZ 310 (.agg #[.int .i64 0,.string ⟨#[]⟩,.string ⟨#[]⟩])∧yZ 311 (.agg #[.int .i64 0,.string ⟨#[]⟩,.string ⟨#[]⟩])∧yZ 312 (.nilFunc)∧yZ 313 (.nilFunc)∧yZ 314 (.nilFunc)∧yZ 315 (.int .i64 0)∧yZ 317 (.nilFunc)∧yZ 318 (.nilFunc)∧yZ 319 (.nilFunc)∧yZ 321 (.nilFunc)∧yZ 323 (.int .u32 0)∧yZ 325 (.int .u64 0)∧yZ 326 (.pointer none)∧yZ 327 (.pointer none)∧yZ 328 (.agg #[.pointer none,.slice none 0 0])∧yZ 329 (.agg #[.pointer none,.slice none 0 0])∧yZ 330 (.agg #[.pointer none,.slice none 0 0])∧yZ 331 (.agg #[.pointer none,.slice none 0 0])∧yZ 340 (.agg #[.int .i64 0,.int .i64 0,.int .i64 0,.int .i64 0,.int .i64 0,.int .i64 0,.int .i64 0,.int .i64 0])∧yZ 341 (.agg #[.string ⟨#[]⟩,.bool false])∧yZ 342 (.agg #[.string ⟨#[]⟩,.bool false])∧yZ 345 (.slice none 0 0)∧yZ 346 (.agg #[.int .i64 0,.int .i64 0])∧yZ 351 (.nilFunc):=by repeat' (first | refine yP ?_ ?_ | (show _=_;kernel_rfl))
@[go_sem] theorem yy22:yZ 352 (.nilFunc)∧yZ 353 (.nilFunc)∧yZ 354 (.nilFunc)∧yZ 355 (.nilFunc)∧yZ 360 (.nilFunc)∧yZ 361 (.nilFunc)∧yZ 362 (.nilFunc)∧yZ 363 (.nilFunc)∧yZ 366 (.nilIface)∧yZ 367 (.nilIface)∧yZ 369 (.nilFunc)∧yZ 371 (.nilFunc)∧yZ 373 (.nilFunc)∧yZ 374 (.nilFunc)∧yZ 376 (.nilFunc)∧yZ 381 (.nilFunc)∧yZ 383 (.nilFunc)∧yZ 384 (.nilFunc)∧yZ 385 (.nilFunc)∧yZ 387 (.nilFunc)∧yZ 388 (.nilFunc)∧yZ 389 (.nilFunc)∧yZ 390 (.nilFunc)∧yZ 403 (.nilFunc)∧yZ 404 (.map none)∧yZ 405 (.agg #[.int .i64 0,.int .i64 0,.int .i64 0,.int .i64 0,.int .i64 0,.bool false,.bool false,.bool false,.slice none 0 0,.map none,.slice none 0 0,.slice none 0 0,.int .i64 0])∧yZ 406 (.agg #[.int .i64 0,.int .i64 0,.int .i64 0,.int .i64 0,.int .i64 0,.bool false,.bool false,.bool false,.slice none 0 0,.map none,.slice none 0 0,.slice none 0 0,.int .i64 0])∧yZ 407 (.agg #[.int .i64 0,.slice none 0 0,.slice none 0 0])∧yZ 408 (.agg #[.int .i64 0,.slice none 0 0,.slice none 0 0])∧yZ 414 (.nilFunc):=by repeat' (first | refine yP ?_ ?_ | (show _=_;kernel_rfl))
@[go_sem] theorem yy23:yZ 420 (.nilFunc)∧yZ 421 (.nilFunc)∧yZ 430 (.nilFunc)∧yZ 432 (.nilFunc)∧yZ 435 (.slice none 0 0)∧yZ 439 (.pointer none)∧yZ 440 (.agg #[.string ⟨#[]⟩,.int .i64 0,.int .i64 0,.int .i64 0])∧yZ 441 (.agg #[.string ⟨#[]⟩,.int .i64 0,.int .i64 0,.int .i64 0])∧yZ 442 (.slice none 0 0)∧yZ 443 (.pointer none)∧yZ 444 (.nilFunc)∧yZ 445 (.slice none 0 0)∧yZ 446 (.nilFunc)∧yZ 447 (.int .u64 0)∧yZ 448 (.nilFunc)∧yZ 453 (.nilFunc)∧yZ 454 (.agg #[.pointer none])∧yZ 455 (.agg #[.pointer none])∧yZ 456 (.nilIface)∧yZ 457 (.nilIface)∧yZ 459 (.nilFunc)∧yZ 469 (.map none)∧yZ 475 (.nilFunc)∧yZ 483 (.agg #[.string ⟨#[]⟩,.slice none 0 0,.map none,.bool false,.slice none 0 0])∧yZ 484 (.agg #[.string ⟨#[]⟩,.slice none 0 0,.map none,.bool false,.slice none 0 0])∧yZ 485 (.agg #[.int .i64 0,.int .i64 0,.int .i64 0,.int .i64 0,.int .i64 0,.bool false,.bool false,.bool false,.slice none 0 0,.map none,.bool false,.int .i64 0,.int .i64 0])∧yZ 486 (.agg #[.int .i64 0,.int .i64 0,.int .i64 0,.int .i64 0,.int .i64 0,.bool false,.bool false,.bool false,.slice none 0 0,.map none,.bool false,.int .i64 0,.int .i64 0])∧yZ 493 (.nilFunc)∧yZ 495 (.nilFunc)∧yZ 496 (.nilFunc):=by repeat' (first | refine yP ?_ ?_ | (show _=_;kernel_rfl))
@[go_sem] theorem yy24:yZ 497 (.nilFunc)∧yZ 498 (.agg #[.pointer none])∧yZ 499 (.agg #[.pointer none])∧yZ 500 (.nilFunc)∧yZ 501 (.nilFunc)∧yZ 502 (.nilFunc)∧yZ 503 (.nilFunc)∧yZ 507 (.nilFunc)∧yZ 518 (.nilFunc)∧yZ 519 (.nilFunc)∧yZ 520 (.nilFunc)∧yZ 521 (.nilFunc)∧yZ 526 (.nilFunc)∧yZ 527 (.nilFunc)∧yZ 528 (.nilFunc)∧yZ 529 (.agg #[.int .u32 0,.int .u32 0,.int .u32 0,.int .u32 0,.int .u32 0,.int .u32 0,.int .u32 0,.int .u32 0,.int .u32 0,.int .u32 0,.int .u32 0,.int .u32 0,.int .u32 0,.int .u32 0,.int .u32 0,.int .u32 0,.int .u32 0,.int .u32 0,.int .u32 0,.int .u32 0,.int .u32 0,.int .u32 0,.int .u32 0,.int .u32 0,.int .u32 0,.int .u32 0,.int .u32 0,.int .u32 0,.int .u32 0,.int .u32 0,.int .u32 0,.int .u32 0,.int .u32 0,.int .u32 0,.int .u32 0,.int .u32 0,.int .u32 0,.int .u32 0,.int .u32 0,.int .u32 0,.int .u32 0,.int .u32 0,.int .u32 0,.int .u32 0,.int .u32 0,.int .u32 0,.int .u32 0,.int .u32 0,.int .u32 0,.int .u32 0,.int .u32 0,.int .u32 0,.int .u32 0,.int .u32 0,.int .u32 0,.int .u32 0,.int .u32 0,.int .u32 0,.int .u32 0,.int .u32 0,.int .u32 0,.int .u32 0,.int .u32 0,.int .u32 0])∧yZ 534 (.nilFunc)∧yZ 535 (.nilFunc)∧yZ 543 (.nilFunc)∧yZ 544 (.nilFunc)∧yZ 545 (.nilFunc)∧yZ 546 (.nilFunc)∧yZ 547 (.pointer none)∧yZ 548 (.nilFunc)∧yZ 549 (.pointer none)∧yZ 550 (.nilFunc)∧yZ 556 (.nilFunc)∧yZ 559 (.slice none 0 0)∧yZ 560 (.nilFunc)∧yZ 565 (.nilFunc):=by repeat' (first | refine yP ?_ ?_ | (show _=_;kernel_rfl))
@[go_sem] theorem yy25:yZ 566 (.nilFunc)∧yZ 567 (.nilFunc)∧yZ 568 (.agg #[.int .i64 0,.int .i64 0,.int .i64 0,.int .i64 0,.int .i64 0,.int .i64 0,.int .i64 0,.int .i64 0,.int .i64 0,.int .i64 0,.int .i64 0,.int .i64 0,.int .i64 0,.int .i64 0,.int .i64 0,.int .i64 0,.int .i64 0,.int .i64 0,.int .i64 0,.int .i64 0,.int .i64 0,.int .i64 0,.int .i64 0,.int .i64 0,.int .i64 0,.int .i64 0,.int .i64 0,.int .i64 0,.int .i64 0,.int .i64 0,.int .i64 0,.int .i64 0,.int .i64 0,.int .i64 0,.int .i64 0,.int .i64 0,.int .i64 0,.int .i64 0,.int .i64 0,.int .i64 0,.int .i64 0,.int .i64 0,.int .i64 0,.int .i64 0,.int .i64 0,.int .i64 0,.int .i64 0,.int .i64 0,.int .i64 0,.int .i64 0,.int .i64 0,.int .i64 0,.int .i64 0,.int .i64 0,.int .i64 0,.int .i64 0,.int .i64 0,.int .i64 0,.int .i64 0,.int .i64 0,.int .i64 0,.int .i64 0,.int .i64 0,.int .i64 0])∧yZ 569 (.nilFunc)∧yZ 573 (.nilFunc)∧yZ 579 (.nilFunc)∧yZ 580 (.nilFunc)∧yZ 585 (.nilFunc)∧yZ 588 (.slice none 0 0)∧yZ 589 (.nilFunc)∧yZ 590 (.nilFunc)∧yZ 596 (.pointer none)∧yZ 601 (.agg #[.slice none 0 0,.map none,.map none])∧yZ 604 (.nilFunc)∧yZ 608 (.nilFunc)∧yZ 609 (.pointer none)∧yZ 610 (.nilFunc)∧yZ 611 (.nilFunc)∧yZ 612 (.agg #[.int .u8 0,.int .u8 0,.int .u8 0,.int .u8 0,.int .u8 0,.int .u8 0,.int .u8 0,.int .u8 0,.int .u8 0,.int .u8 0,.int .u8 0,.int .u8 0,.int .u8 0,.int .u8 0,.int .u8 0,.int .u8 0,.int .u8 0,.int .u8 0,.int .u8 0,.int .u8 0,.int .u8 0,.int .u8 0,.int .u8 0,.int .u8 0,.int .u8 0,.int .u8 0,.int .u8 0,.int .u8 0,.int .u8 0,.int .u8 0,.int .u8 0,.int .u8 0,.int .u8 0,.int .u8 0,.int .u8 0,.int .u8 0,.int .u8 0,.int .u8 0,.int .u8 0,.int .u8 0,.int .u8 0,.int .u8 0,.int .u8 0,.int .u8 0,.int .u8 0,.int .u8 0,.int .u8 0,.int .u8 0,.int .u8 0,.int .u8 0,.int .u8 0,.int .u8 0,.int .u8 0,.int .u8 0,.int .u8 0,.int .u8 0,.int .u8 0,.int .u8 0,.int .u8 0,.int .u8 0,.int .u8 0,.int .u8 0,.int .u8 0,.int .u8 0])∧yZ 624 (.slice none 0 0)∧yZ 631 (.nilFunc)∧yZ 633 (.nilFunc)∧yZ 642 (.nilFunc)∧yZ 644 (.nilFunc)∧yZ 647 (.agg #[.string ⟨#[]⟩,.string ⟨#[]⟩,.nilIface])∧yZ 648 (.agg #[.string ⟨#[]⟩,.string ⟨#[]⟩,.nilIface])∧yZ 654 (.slice none 0 0)∧yZ 658 (.nilFunc)∧yZ 682 (.agg #[.pointer none,.pointer none,.pointer none,.string ⟨#[]⟩])∧yZ 683 (.agg #[.pointer none,.pointer none,.pointer none,.string ⟨#[]⟩]):=by repeat' (first | refine yP ?_ ?_ | (show _=_;kernel_rfl))
@[go_sem] theorem yy26:yZ 684 (.agg #[])∧yZ 685 (.agg #[])∧yZ 686 (.agg #[])∧yZ 687 (.int .u8 0)∧yZ 688 (.int .u8 0)∧yZ 689 (.nilFunc)∧yZ 690 (.int .i32 0)∧yZ 691 (.int .i32 0)∧yZ 692 (.agg #[.int .u64 0,.int .u64 0,.int .u32 0,.int .u8 0,.int .u8 0,.int .u8 0,.int .u8 0,.nilFunc,.pointer none,.int .i32 0,.int .i32 0])∧yZ 693 (.agg #[.int .u64 0,.int .u64 0,.int .u32 0,.int .u8 0,.int .u8 0,.int .u8 0,.int .u8 0,.nilFunc,.pointer none,.int .i32 0,.int .i32 0]):=by repeat' (first | refine yP ?_ ?_ | (show _=_;kernel_rfl))
@[go_sem] theorem yy27:yF 7 0 0 1 false∧yF 7 1 1 1 false∧yF 7 2 2 1 false∧yF 7 3 3 1 false∧yF 8 0 0 1 false∧yF 8 1 1 1 false∧yF 8 2 2 1 false∧yF 8 3 3 1 false∧yF 13 0 0 1 false∧yF 13 1 1 1 false∧yF 14 0 0 1 false∧yF 14 1 1 1 false∧yF 18 0 0 1 false∧yF 19 0 0 1 false∧yF 23 0 0 1 false∧yF 23 1 1 1 false∧yF 23 2 2 1 false∧yF 23 3 3 1 false∧yF 23 4 4 1 false∧yF 23 5 5 1 false∧yF 23 6 6 1 false∧yF 24 0 0 1 false∧yF 24 1 1 1 false∧yF 24 2 2 1 false∧yF 24 3 3 1 false∧yF 24 4 4 1 false∧yF 24 5 5 1 false∧yF 24 6 6 1 false∧yF 25 0 0 1 false∧yF 25 1 1 1 false:=by repeat' (first | refine yP ?_ ?_ | (show _=_;kernel_rfl))
@[go_sem] theorem yy28:yF 25 2 2 7 true∧yF 25 3 9 1 false∧yF 26 0 0 1 false∧yF 26 1 1 1 false∧yF 26 2 2 7 true∧yF 26 3 9 1 false∧yF 37 0 0 1 false∧yF 37 1 1 1 false∧yF 37 2 2 1 false∧yF 37 3 3 1 false∧yF 37 4 4 1 false∧yF 37 5 5 1 false∧yF 37 6 6 1 false∧yF 37 7 7 1 false∧yF 37 8 8 1 false∧yF 37 9 9 1 false∧yF 38 0 0 1 false∧yF 38 1 1 1 false∧yF 38 2 2 1 false∧yF 38 3 3 1 false∧yF 38 4 4 1 false∧yF 38 5 5 1 false∧yF 38 6 6 1 false∧yF 38 7 7 1 false∧yF 38 8 8 1 false∧yF 38 9 9 1 false∧yF 43 0 0 1 false∧yF 44 0 0 1 false∧yF 45 0 0 1 false∧yF 45 1 1 1 false:=by repeat' (first | refine yP ?_ ?_ | (show _=_;kernel_rfl))
@[go_sem] theorem yy29:yF 46 0 0 1 false∧yF 46 1 1 1 false∧yF 53 0 0 1 false∧yF 53 1 1 1 false∧yF 54 0 0 1 false∧yF 54 1 1 1 false∧yF 61 0 0 1 false∧yF 61 1 1 1 false∧yF 61 2 2 1 false∧yF 61 3 3 1 false∧yF 62 0 0 1 false∧yF 62 1 1 1 false∧yF 62 2 2 1 false∧yF 62 3 3 1 false∧yF 63 0 0 1 false∧yF 63 1 1 1 false∧yF 63 2 2 1 false∧yF 63 3 3 1 false∧yF 63 4 4 1 false∧yF 63 5 5 1 false∧yF 63 6 6 4 true∧yF 64 0 0 1 false∧yF 64 1 1 1 false∧yF 64 2 2 1 false∧yF 64 3 3 1 false∧yF 64 4 4 1 false∧yF 64 5 5 1 false∧yF 64 6 6 4 true∧yF 71 0 0 1 false∧yF 71 1 1 1 false:=by repeat' (first | refine yP ?_ ?_ | (show _=_;kernel_rfl))
@[go_sem] theorem yy30:yF 71 2 2 1 false∧yF 72 0 0 1 false∧yF 72 1 1 1 false∧yF 72 2 2 1 false∧yF 73 0 0 1 false∧yF 73 1 1 3 true∧yF 74 0 0 1 false∧yF 74 1 1 3 true∧yF 82 0 0 1 false∧yF 82 1 1 1 false∧yF 82 2 2 1 false∧yF 82 3 3 1 false∧yF 82 4 4 1 false∧yF 82 5 5 1 false∧yF 83 0 0 1 false∧yF 83 1 1 1 false∧yF 83 2 2 1 false∧yF 83 3 3 1 false∧yF 83 4 4 1 false∧yF 83 5 5 1 false∧yF 88 0 0 1 false∧yF 88 1 1 1 false∧yF 89 0 0 1 false∧yF 89 1 1 1 false∧yF 90 0 0 1 false∧yF 90 1 1 1 false∧yF 90 2 2 1 false∧yF 90 3 3 1 false∧yF 90 4 4 2 true∧yF 91 0 0 1 false:=by repeat' (first | refine yP ?_ ?_ | (show _=_;kernel_rfl))
@[go_sem] theorem yy31:yF 91 1 1 1 false∧yF 91 2 2 1 false∧yF 91 3 3 1 false∧yF 91 4 4 2 true∧yF 92 0 0 1 false∧yF 92 1 1 1 false∧yF 92 2 2 6 true∧yF 93 0 0 1 false∧yF 93 1 1 1 false∧yF 93 2 2 6 true∧yF 101 0 0 1 false∧yF 101 1 1 1 false∧yF 102 0 0 1 false∧yF 102 1 1 1 false∧yF 108 0 0 1 false∧yF 108 1 1 1 false∧yF 109 0 0 1 false∧yF 109 1 1 1 false∧yF 111 0 0 1 false∧yF 111 1 1 1 false∧yF 111 2 2 2 true∧yF 111 3 4 1 false∧yF 111 4 5 1 false∧yF 111 5 6 1 false∧yF 111 6 7 2 true∧yF 111 7 9 1 false∧yF 111 8 10 1 false∧yF 112 0 0 1 false∧yF 112 1 1 1 false∧yF 112 2 2 2 true:=by repeat' (first | refine yP ?_ ?_ | (show _=_;kernel_rfl))
@[go_sem] theorem yy32:yF 112 3 4 1 false∧yF 112 4 5 1 false∧yF 112 5 6 1 false∧yF 112 6 7 2 true∧yF 112 7 9 1 false∧yF 112 8 10 1 false∧yF 115 0 0 1 false∧yF 115 1 1 1 false∧yF 116 0 0 1 false∧yF 116 1 1 1 false∧yF 117 0 0 1 false∧yF 117 1 1 2 true∧yF 118 0 0 1 false∧yF 118 1 1 2 true∧yF 120 0 0 1 false∧yF 120 1 1 1 false∧yF 121 0 0 1 false∧yF 121 1 1 1 false∧yF 141 0 0 1 false∧yF 141 1 1 1 false∧yF 141 2 2 1 false∧yF 141 3 3 1 false∧yF 141 4 4 1 false∧yF 141 5 5 1 false∧yF 141 6 6 1 false∧yF 141 7 7 1 false∧yF 142 0 0 1 false∧yF 142 1 1 1 false∧yF 142 2 2 1 false∧yF 142 3 3 1 false:=by repeat' (first | refine yP ?_ ?_ | (show _=_;kernel_rfl))
@[go_sem] theorem yy33:yF 142 4 4 1 false∧yF 142 5 5 1 false∧yF 142 6 6 1 false∧yF 142 7 7 1 false∧yF 161 0 0 1 false∧yF 161 1 1 1 false∧yF 163 0 0 1 false∧yF 163 1 1 1 false∧yF 163 2 2 1 false∧yF 163 3 3 1 false∧yF 163 4 4 1 false∧yF 163 5 5 1 false∧yF 163 6 6 2 true∧yF 163 7 8 1 false∧yF 163 8 9 1 false∧yF 163 9 10 1 false∧yF 163 10 11 1 false∧yF 164 0 0 1 false∧yF 164 1 1 1 false∧yF 164 2 2 1 false∧yF 164 3 3 1 false∧yF 164 4 4 1 false∧yF 164 5 5 1 false∧yF 164 6 6 2 true∧yF 164 7 8 1 false∧yF 164 8 9 1 false∧yF 164 9 10 1 false∧yF 164 10 11 1 false∧yF 176 0 0 1 false∧yF 176 1 1 2 true:=by repeat' (first | refine yP ?_ ?_ | (show _=_;kernel_rfl))
@[go_sem] theorem yy34:yF 176 2 3 2 true∧yF 176 3 5 1 false∧yF 176 4 6 1 false∧yF 176 5 7 1 false∧yF 176 6 8 1 false∧yF 177 0 0 1 false∧yF 177 1 1 2 true∧yF 177 2 3 2 true∧yF 177 3 5 1 false∧yF 177 4 6 1 false∧yF 177 5 7 1 false∧yF 177 6 8 1 false∧yF 192 0 0 1 false∧yF 192 1 1 1 false∧yF 193 0 0 1 false∧yF 193 1 1 1 false∧yF 196 0 0 1 false∧yF 196 1 1 1 false∧yF 196 2 2 1 false∧yF 196 3 3 1 false∧yF 197 0 0 1 false∧yF 197 1 1 1 false∧yF 197 2 2 1 false∧yF 197 3 3 1 false∧yF 211 0 0 1 false∧yF 211 1 1 1 false∧yF 211 2 2 1 false∧yF 212 0 0 1 false∧yF 212 1 1 1 false∧yF 212 2 2 1 false:=by repeat' (first | refine yP ?_ ?_ | (show _=_;kernel_rfl))
@[go_sem] theorem yy35:yF 224 0 0 1 false∧yF 224 1 1 1 false∧yF 225 0 0 1 false∧yF 225 1 1 1 false∧yF 243 0 0 1 false∧yF 243 1 1 1 false∧yF 244 0 0 1 false∧yF 244 1 1 1 false∧yF 246 0 0 1 false∧yF 246 1 1 1 false∧yF 246 2 2 1 false∧yF 247 0 0 1 false∧yF 247 1 1 1 false∧yF 247 2 2 1 false∧yF 267 0 0 2 true∧yF 267 1 2 1 false∧yF 267 2 3 1 false∧yF 267 3 4 1 false∧yF 268 0 0 2 true∧yF 268 1 2 1 false∧yF 268 2 3 1 false∧yF 268 3 4 1 false∧yF 280 0 0 1 false∧yF 280 1 1 1 false∧yF 281 0 0 1 false∧yF 281 1 1 1 false∧yF 285 0 0 1 false∧yF 285 1 1 1 false∧yF 286 0 0 1 false∧yF 286 1 1 1 false:=by repeat' (first | refine yP ?_ ?_ | (show _=_;kernel_rfl))
@[go_sem] theorem yy36:yF 288 0 0 1 false∧yF 288 1 1 1 false∧yF 288 2 2 1 false∧yF 289 0 0 1 false∧yF 289 1 1 1 false∧yF 289 2 2 1 false∧yF 299 0 0 1 false∧yF 299 1 1 1 false∧yF 300 0 0 1 false∧yF 300 1 1 1 false∧yF 310 0 0 1 false∧yF 310 1 1 1 false∧yF 310 2 2 1 false∧yF 311 0 0 1 false∧yF 311 1 1 1 false∧yF 311 2 2 1 false∧yF 328 0 0 1 false∧yF 328 1 1 1 false∧yF 329 0 0 1 false∧yF 329 1 1 1 false∧yF 330 0 0 2 true∧yF 331 0 0 2 true∧yF 341 0 0 1 false∧yF 341 1 1 1 false∧yF 342 0 0 1 false∧yF 342 1 1 1 false∧yF 405 0 0 8 true∧yF 405 1 8 1 false∧yF 405 2 9 1 false∧yF 405 3 10 2 true:=by repeat' (first | refine yP ?_ ?_ | (show _=_;kernel_rfl))
@[go_sem] theorem yy37:yF 405 4 12 1 false∧yF 406 0 0 8 true∧yF 406 1 8 1 false∧yF 406 2 9 1 false∧yF 406 3 10 2 true∧yF 406 4 12 1 false∧yF 407 0 0 1 false∧yF 407 1 1 2 true∧yF 408 0 0 1 false∧yF 408 1 1 2 true∧yF 440 0 0 1 false∧yF 440 1 1 1 false∧yF 440 2 2 1 false∧yF 440 3 3 1 false∧yF 441 0 0 1 false∧yF 441 1 1 1 false∧yF 441 2 2 1 false∧yF 441 3 3 1 false∧yF 454 0 0 1 false∧yF 455 0 0 1 false∧yF 483 0 0 1 false∧yF 483 1 1 1 false∧yF 483 2 2 1 false∧yF 483 3 3 1 false∧yF 483 4 4 1 false∧yF 484 0 0 1 false∧yF 484 1 1 1 false∧yF 484 2 2 1 false∧yF 484 3 3 1 false∧yF 484 4 4 1 false:=by repeat' (first | refine yP ?_ ?_ | (show _=_;kernel_rfl))
@[go_sem] theorem yy38:yF 485 0 0 8 true∧yF 485 1 8 1 false∧yF 485 2 9 1 false∧yF 485 3 10 1 false∧yF 485 4 11 1 false∧yF 485 5 12 1 false∧yF 486 0 0 8 true∧yF 486 1 8 1 false∧yF 486 2 9 1 false∧yF 486 3 10 1 false∧yF 486 4 11 1 false∧yF 486 5 12 1 false∧yF 498 0 0 1 false∧yF 499 0 0 1 false∧yF 601 0 0 1 false∧yF 601 1 1 1 false∧yF 601 2 2 1 false∧yF 647 0 0 1 false∧yF 647 1 1 1 false∧yF 647 2 2 1 false∧yF 648 0 0 1 false∧yF 648 1 1 1 false∧yF 648 2 2 1 false∧yF 682 0 0 1 false∧yF 682 1 1 1 false∧yF 682 2 2 1 false∧yF 682 3 3 1 false∧yF 683 0 0 1 false∧yF 683 1 1 1 false∧yF 683 2 2 1 false:=by repeat' (first | refine yP ?_ ?_ | (show _=_;kernel_rfl))
@[go_sem] theorem yy39:yF 683 3 3 1 false∧yF 685 0 0 0 true∧yF 686 0 0 0 true∧yF 692 0 0 1 false∧yF 692 1 1 1 false∧yF 692 2 2 1 false∧yF 692 3 3 1 false∧yF 692 4 4 1 false∧yF 692 5 5 1 false∧yF 692 6 6 1 false∧yF 692 7 7 1 false∧yF 692 8 8 1 false∧yF 692 9 9 1 false∧yF 692 10 10 1 false∧yF 693 0 0 1 false∧yF 693 1 1 1 false∧yF 693 2 2 1 false∧yF 693 3 3 1 false∧yF 693 4 4 1 false∧yF 693 5 5 1 false∧yF 693 6 6 1 false∧yF 693 7 7 1 false∧yF 693 8 8 1 false∧yF 693 9 9 1 false∧yF 693 10 10 1 false:=by repeat' (first | refine yP ?_ ?_ | (show _=_;kernel_rfl))
@[go_sem] theorem yy40:yG 3∧yG 4∧yG 5∧yG 6∧yG 7∧yG 8∧yG 9∧yG 10∧yG 11∧yG 12∧yG 13∧yG 14∧yG 15∧yG 16∧yG 17∧yG 18∧yG 19∧yG 20∧yG 21∧yG 22∧yG 23∧yG 24∧yG 25∧yG 26∧yG 27∧yG 28∧yG 29∧yG 30∧yG 31∧yG 32:=by repeat' (first | refine yP ?_ ?_ | (show _=_;kernel_rfl))
@[go_sem] theorem yy41:yG 33∧yG 34∧yG 35∧yG 36∧yG 37∧yG 38∧yG 39∧yG 40∧yG 41∧yG 42∧yG 43∧yG 44∧yG 45∧yG 46∧yG 47∧yG 48∧yG 49∧yG 50∧yG 51∧yG 52∧yG 53∧yG 54∧yG 55∧yG 56∧yG 57∧yG 58∧yG 59∧yG 60∧yG 61∧yG 62:=by repeat' (first | refine yP ?_ ?_ | (show _=_;kernel_rfl))
@[go_sem] theorem yy42:yG 63∧yG 64∧yG 65∧yG 66∧yG 68∧yG 69∧yG 70∧yG 71∧yG 72∧yG 73∧yG 74∧yG 75∧yG 76∧yG 77∧yG 78∧yG 79∧yG 80∧yG 81∧yG 82∧yG 83∧yG 84∧yG 85∧yG 86∧yG 87∧yG 88∧yG 89∧yG 90∧yG 91∧yG 92∧yG 93:=by repeat' (first | refine yP ?_ ?_ | (show _=_;kernel_rfl))
@[go_sem] theorem yy43:yG 94∧yG 95∧yG 96∧yG 97∧yG 98∧yG 99∧yG 100∧yG 101∧yG 102∧yG 103∧yG 104∧yG 105∧yG 106∧yG 107∧yG 108∧yG 109∧yG 110∧yG 111∧yG 112∧yG 114∧yG 115∧yG 116∧yG 117∧yG 118∧yG 119∧yG 120∧yG 121∧yG 122∧yG 123∧yG 124:=by repeat' (first | refine yP ?_ ?_ | (show _=_;kernel_rfl))
@[go_sem] theorem yy44:yG 126∧yG 127∧yG 128∧yG 129∧yG 130∧yG 131∧yG 132∧yG 133∧yG 135∧yG 136∧yG 138∧yG 139∧yG 140∧yG 141∧yG 142∧yG 143∧yG 144∧yG 148∧yG 150∧yG 151∧yG 152∧yG 155∧yG 156∧yG 157∧yG 158∧yG 159∧yG 160∧yG 161∧yG 162∧yG 163:=by repeat' (first | refine yP ?_ ?_ | (show _=_;kernel_rfl))
@[go_sem] theorem yy45:yG 164∧yG 165∧yG 166∧yG 168∧yG 169∧yG 170∧yG 172∧yG 173∧yG 174∧yG 175∧yG 176∧yG 177∧yG 182∧yG 183∧yG 190∧yG 191∧yG 192∧yG 193∧yG 196∧yG 197∧yG 198∧yG 199∧yG 200∧yG 201∧yG 203∧yG 206∧yG 209∧yG 211∧yG 212∧yG 213:=by repeat' (first | refine yP ?_ ?_ | (show _=_;kernel_rfl))
@[go_sem] theorem yy46:yG 214∧yG 216∧yG 218∧yG 221∧yG 222∧yG 223∧yG 224∧yG 225∧yG 230∧yG 232∧yG 233∧yG 240∧yG 241∧yG 242∧yG 243∧yG 244∧yG 245∧yG 246∧yG 247∧yG 250∧yG 258∧yG 259∧yG 260∧yG 261∧yG 267∧yG 268∧yG 280∧yG 281∧yG 284∧yG 285:=by repeat' (first | refine yP ?_ ?_ | (show _=_;kernel_rfl))
@[go_sem] theorem yy47:yG 286∧yG 287∧yG 288∧yG 289∧yG 293∧yG 295∧yG 298∧yG 299∧yG 300∧yG 301∧yG 302∧yG 305∧yG 306∧yG 307∧yG 308∧yG 309∧yG 310∧yG 311∧yG 312∧yG 313∧yG 314∧yG 315∧yG 316∧yG 317∧yG 318∧yG 319∧yG 320∧yG 321∧yG 323∧yG 325:=by repeat' (first | refine yP ?_ ?_ | (show _=_;kernel_rfl))
@[go_sem] theorem yy48:yG 326∧yG 327∧yG 328∧yG 329∧yG 330∧yG 331∧yG 340∧yG 341∧yG 342∧yG 345∧yG 346∧yG 351∧yG 352∧yG 353∧yG 354∧yG 355∧yG 356∧yG 360∧yG 361∧yG 362∧yG 363∧yG 366∧yG 367∧yG 369∧yG 371∧yG 373∧yG 374∧yG 376∧yG 381∧yG 383:=by repeat' (first | refine yP ?_ ?_ | (show _=_;kernel_rfl))
@[go_sem] theorem yy49:yG 384∧yG 385∧yG 386∧yG 387∧yG 388∧yG 389∧yG 390∧yG 403∧yG 404∧yG 405∧yG 406∧yG 407∧yG 408∧yG 412∧yG 413∧yG 414∧yG 420∧yG 421∧yG 430∧yG 431∧yG 432∧yG 435∧yG 439∧yG 440∧yG 441∧yG 442∧yG 443∧yG 444∧yG 445∧yG 446:=by repeat' (first | refine yP ?_ ?_ | (show _=_;kernel_rfl))
@[go_sem] theorem yy50:yG 447∧yG 448∧yG 453∧yG 454∧yG 455∧yG 456∧yG 457∧yG 458∧yG 459∧yG 469∧yG 475∧yG 476∧yG 483∧yG 484∧yG 485∧yG 486∧yG 488∧yG 495∧yG 496∧yG 497∧yG 498∧yG 499∧yG 500∧yG 501∧yG 502∧yG 503∧yG 507∧yG 518∧yG 520∧yG 521:=by repeat' (first | refine yP ?_ ?_ | (show _=_;kernel_rfl))
@[go_sem] theorem yy51:yG 526∧yG 527∧yG 528∧yG 529∧yG 534∧yG 535∧yG 543∧yG 544∧yG 545∧yG 546∧yG 547∧yG 548∧yG 549∧yG 550∧yG 556∧yG 559∧yG 560∧yG 565∧yG 566∧yG 567∧yG 568∧yG 569∧yG 573∧yG 588∧yG 589∧yG 590∧yG 596∧yG 601∧yG 604∧yG 608:=by repeat' (first | refine yP ?_ ?_ | (show _=_;kernel_rfl))
@[go_sem] theorem yy52:yG 609∧yG 610∧yG 611∧yG 612∧yG 624∧yG 631∧yG 642∧yG 643∧yG 644∧yG 645∧yG 647∧yG 648∧yG 654∧yG 658∧yG 692∧yG 693:=by repeat' (first | refine yP ?_ ?_ | (show _=_;kernel_rfl))
@[go_sem] theorem Tryz.api3:aC_ Tryz.prog 3=some (1,8):=by kernel_rfl
@[go_sem] theorem Tryz.api4:aC_ Tryz.prog 4=some (1,1):=by kernel_rfl
@[go_sem] theorem Tryz.api5:aC_ Tryz.prog 5=some (1,1):=by kernel_rfl
@[go_sem] theorem Tryz.abi7:ag_ Tryz.prog 7=some ([(0,1),(1,1),(2,1),(3,1)],0,[.int .i64 0,.int .i64 0,.bool false,.int .u8 0]):=by kernel_rfl
@[go_sem] theorem Tryz.abi8:ag_ Tryz.prog 8=some ([(0,1),(1,1),(2,1),(3,1)],0,[.int .i64 0,.int .i64 0,.bool false,.int .u8 0]):=by kernel_rfl
@[go_sem] theorem Tryz.ais9:aB_ Tryz.prog 9=true:=by kernel_rfl
@[go_sem] theorem Tryz.api9:aC_ Tryz.prog 9=some (1,16):=by kernel_rfl
@[go_sem] theorem Tryz.ais10:aB_ Tryz.prog 10=true:=by kernel_rfl
@[go_sem] theorem Tryz.ais11:aB_ Tryz.prog 11=true:=by kernel_rfl
@[go_sem] theorem Tryz.abi13:ag_ Tryz.prog 13=some ([(0,1),(1,1)],0,[.string ⟨#[]⟩,.int .u64 0]):=by kernel_rfl
@[go_sem] theorem Tryz.abi14:ag_ Tryz.prog 14=some ([(0,1),(1,1)],0,[.string ⟨#[]⟩,.int .u64 0]):=by kernel_rfl
@[go_sem] theorem Tryz.abi18:ag_ Tryz.prog 18=some ([(0,1)],0,[.pointer none]):=by kernel_rfl
@[go_sem] theorem Tryz.abi19:ag_ Tryz.prog 19=some ([(0,1)],0,[.pointer none]):=by kernel_rfl
@[go_sem] theorem Tryz.ais22:aB_ Tryz.prog 22=false:=by kernel_rfl
@[go_sem] theorem Tryz.api22:aC_ Tryz.prog 22=some (1,24):=by kernel_rfl
@[go_sem] theorem Tryz.ase22:aj_ Tryz.prog 22=some 212:=by kernel_rfl
@[go_sem] theorem Tryz.abi23:ag_ Tryz.prog 23=some ([(0,1),(1,1),(2,1),(3,1),(4,1),(5,1),(6,1)],0,[.int .i64 0,.string ⟨#[]⟩,.string ⟨#[]⟩,.string ⟨#[]⟩,.string ⟨#[]⟩,.slice none 0 0,.int .i64 0]):=by kernel_rfl
@[go_sem] theorem Tryz.abi24:ag_ Tryz.prog 24=some ([(0,1),(1,1),(2,1),(3,1),(4,1),(5,1),(6,1)],0,[.int .i64 0,.string ⟨#[]⟩,.string ⟨#[]⟩,.string ⟨#[]⟩,.string ⟨#[]⟩,.slice none 0 0,.int .i64 0]):=by kernel_rfl
@[go_sem] theorem Tryz.abi25:ag_ Tryz.prog 25=some ([(0,1),(1,1),(2,7),(9,1)],0,[.int .i64 0,.int .i64 0,.int .i64 0,.string ⟨#[]⟩,.string ⟨#[]⟩,.string ⟨#[]⟩,.string ⟨#[]⟩,.slice none 0 0,.int .i64 0,.string ⟨#[]⟩]):=by kernel_rfl
@[go_sem] theorem Tryz.api26:aC_ Tryz.prog 26=some (10,136):=by kernel_rfl
@[go_sem] theorem Tryz.abi26:ag_ Tryz.prog 26=some ([(0,1),(1,1),(2,7),(9,1)],0,[.int .i64 0,.int .i64 0,.int .i64 0,.string ⟨#[]⟩,.string ⟨#[]⟩,.string ⟨#[]⟩,.string ⟨#[]⟩,.slice none 0 0,.int .i64 0,.string ⟨#[]⟩]):=by kernel_rfl
@[go_sem] theorem Tryz.ais27:aB_ Tryz.prog 27=false:=by kernel_rfl
@[go_sem] theorem Tryz.api27:aC_ Tryz.prog 27=some (1,24):=by kernel_rfl
@[go_sem] theorem Tryz.ase27:aj_ Tryz.prog 27=some 74:=by kernel_rfl
@[go_sem] theorem Tryz.ais29:aB_ Tryz.prog 29=false:=by kernel_rfl
@[go_sem] theorem Tryz.ase29:aj_ Tryz.prog 29=some 26:=by kernel_rfl
@[go_sem] theorem Tryz.api31:aC_ Tryz.prog 31=some (1,8):=by kernel_rfl
@[go_sem] theorem Tryz.api32:aC_ Tryz.prog 32=some (1,8):=by kernel_rfl
@[go_sem] theorem Tryz.ais35:aB_ Tryz.prog 35=false:=by kernel_rfl
@[go_sem] theorem Tryz.ase35:aj_ Tryz.prog 35=some 102:=by kernel_rfl
@[go_sem] theorem Tryz.ais36:aB_ Tryz.prog 36=false:=by kernel_rfl
@[go_sem] theorem Tryz.ase36:aj_ Tryz.prog 36=some 93:=by kernel_rfl
@[go_sem] theorem Tryz.abi37:ag_ Tryz.prog 37=some ([(0,1),(1,1),(2,1),(3,1),(4,1),(5,1),(6,1),(7,1),(8,1),(9,1)],0,[.string ⟨#[]⟩,.bool false,.int .i64 0,.int .i64 0,.pointer none,.slice none 0 0,.slice none 0 0,.map none,.slice none 0 0,.slice none 0 0]):=by kernel_rfl
@[go_sem] theorem Tryz.abi38:ag_ Tryz.prog 38=some ([(0,1),(1,1),(2,1),(3,1),(4,1),(5,1),(6,1),(7,1),(8,1),(9,1)],0,[.string ⟨#[]⟩,.bool false,.int .i64 0,.int .i64 0,.pointer none,.slice none 0 0,.slice none 0 0,.map none,.slice none 0 0,.slice none 0 0]):=by kernel_rfl
@[go_sem] theorem Tryz.ais39:aB_ Tryz.prog 39=false:=by kernel_rfl
@[go_sem] theorem Tryz.ase39:aj_ Tryz.prog 39=some 32:=by kernel_rfl
@[go_sem] theorem Tryz.ais42:aB_ Tryz.prog 42=false:=by kernel_rfl
@[go_sem] theorem Tryz.ase42:aj_ Tryz.prog 42=some 161:=by kernel_rfl
@[go_sem] theorem Tryz.abi43:ag_ Tryz.prog 43=some ([(0,1)],0,[.slice none 0 0]):=by kernel_rfl
@[go_sem] theorem Tryz.abi44:ag_ Tryz.prog 44=some ([(0,1)],0,[.slice none 0 0]):=by kernel_rfl
@[go_sem] theorem Tryz.abi45:ag_ Tryz.prog 45=some ([(0,1),(1,1)],0,[.pointer none,.pointer none]):=by kernel_rfl
@[go_sem] theorem Tryz.abi46:ag_ Tryz.prog 46=some ([(0,1),(1,1)],0,[.pointer none,.pointer none]):=by kernel_rfl
@[go_sem] theorem Tryz.ais51:aB_ Tryz.prog 51=false:=by kernel_rfl
@[go_sem] theorem Tryz.api51:aC_ Tryz.prog 51=some (1,24):=by kernel_rfl
@[go_sem] theorem Tryz.ase51:aj_ Tryz.prog 51=some 118:=by kernel_rfl
@[go_sem] theorem Tryz.ais52:aB_ Tryz.prog 52=false:=by kernel_rfl
@[go_sem] theorem Tryz.ase52:aj_ Tryz.prog 52=some 121:=by kernel_rfl
@[go_sem] theorem Tryz.abi53:ag_ Tryz.prog 53=some ([(0,1),(1,1)],0,[.slice none 0 0,.slice none 0 0]):=by kernel_rfl
@[go_sem] theorem Tryz.abi54:ag_ Tryz.prog 54=some ([(0,1),(1,1)],0,[.slice none 0 0,.slice none 0 0]):=by kernel_rfl
@[go_sem] theorem Tryz.abi61:ag_ Tryz.prog 61=some ([(0,1),(1,1),(2,1),(3,1)],0,[.string ⟨#[]⟩,.string ⟨#[]⟩,.string ⟨#[]⟩,.bool false]):=by kernel_rfl
@[go_sem] theorem Tryz.api62:aC_ Tryz.prog 62=some (4,56):=by kernel_rfl
@[go_sem] theorem Tryz.abi62:ag_ Tryz.prog 62=some ([(0,1),(1,1),(2,1),(3,1)],0,[.string ⟨#[]⟩,.string ⟨#[]⟩,.string ⟨#[]⟩,.bool false]):=by kernel_rfl
@[go_sem] theorem Tryz.abi63:ag_ Tryz.prog 63=some ([(0,1),(1,1),(2,1),(3,1),(4,1),(5,1),(6,4)],0,[.int .i64 0,.string ⟨#[]⟩,.string ⟨#[]⟩,.string ⟨#[]⟩,.string ⟨#[]⟩,.int .i64 0,.string ⟨#[]⟩,.string ⟨#[]⟩,.string ⟨#[]⟩,.bool false]):=by kernel_rfl
@[go_sem] theorem Tryz.abi64:ag_ Tryz.prog 64=some ([(0,1),(1,1),(2,1),(3,1),(4,1),(5,1),(6,4)],0,[.int .i64 0,.string ⟨#[]⟩,.string ⟨#[]⟩,.string ⟨#[]⟩,.string ⟨#[]⟩,.int .i64 0,.string ⟨#[]⟩,.string ⟨#[]⟩,.string ⟨#[]⟩,.bool false]):=by kernel_rfl
@[go_sem] theorem Tryz.abi71:ag_ Tryz.prog 71=some ([(0,1),(1,1),(2,1)],0,[.int .i64 0,.string ⟨#[]⟩,.string ⟨#[]⟩]):=by kernel_rfl
@[go_sem] theorem Tryz.abi72:ag_ Tryz.prog 72=some ([(0,1),(1,1),(2,1)],0,[.int .i64 0,.string ⟨#[]⟩,.string ⟨#[]⟩]):=by kernel_rfl
@[go_sem] theorem Tryz.abi73:ag_ Tryz.prog 73=some ([(0,1),(1,3)],0,[.string ⟨#[]⟩,.int .i64 0,.string ⟨#[]⟩,.string ⟨#[]⟩]):=by kernel_rfl
@[go_sem] theorem Tryz.api74:aC_ Tryz.prog 74=some (4,56):=by kernel_rfl
@[go_sem] theorem Tryz.abi74:ag_ Tryz.prog 74=some ([(0,1),(1,3)],0,[.string ⟨#[]⟩,.int .i64 0,.string ⟨#[]⟩,.string ⟨#[]⟩]):=by kernel_rfl
@[go_sem] theorem Tryz.ais78:aB_ Tryz.prog 78=false:=by kernel_rfl
@[go_sem] theorem Tryz.ase78:aj_ Tryz.prog 78=some 225:=by kernel_rfl
@[go_sem] theorem Tryz.abi82:ag_ Tryz.prog 82=some ([(0,1),(1,1),(2,1),(3,1),(4,1),(5,1)],0,[.string ⟨#[]⟩,.string ⟨#[]⟩,.int .i64 0,.int .i64 0,.int .i64 0,.int .i64 0]):=by kernel_rfl
@[go_sem] theorem Tryz.api83:aC_ Tryz.prog 83=some (6,64):=by kernel_rfl
@[go_sem] theorem Tryz.abi83:ag_ Tryz.prog 83=some ([(0,1),(1,1),(2,1),(3,1),(4,1),(5,1)],0,[.string ⟨#[]⟩,.string ⟨#[]⟩,.int .i64 0,.int .i64 0,.int .i64 0,.int .i64 0]):=by kernel_rfl
@[go_sem] theorem Tryz.ais86:aB_ Tryz.prog 86=false:=by kernel_rfl
@[go_sem] theorem Tryz.api86:aC_ Tryz.prog 86=some (1,24):=by kernel_rfl
@[go_sem] theorem Tryz.ase86:aj_ Tryz.prog 86=some 268:=by kernel_rfl
@[go_sem] theorem Tryz.ais87:aB_ Tryz.prog 87=false:=by kernel_rfl
@[go_sem] theorem Tryz.api87:aC_ Tryz.prog 87=some (1,24):=by kernel_rfl
@[go_sem] theorem Tryz.ase87:aj_ Tryz.prog 87=some 9:=by kernel_rfl
@[go_sem] theorem Tryz.abi88:ag_ Tryz.prog 88=some ([(0,1),(1,1)],0,[.string ⟨#[]⟩,.int .i64 0]):=by kernel_rfl
@[go_sem] theorem Tryz.abi89:ag_ Tryz.prog 89=some ([(0,1),(1,1)],0,[.string ⟨#[]⟩,.int .i64 0]):=by kernel_rfl
@[go_sem] theorem Tryz.abi90:ag_ Tryz.prog 90=some ([(0,1),(1,1),(2,1),(3,1),(4,2)],0,[.int .i64 0,.slice none 0 0,.slice none 0 0,.slice none 0 0,.string ⟨#[]⟩,.int .i64 0]):=by kernel_rfl
@[go_sem] theorem Tryz.abi91:ag_ Tryz.prog 91=some ([(0,1),(1,1),(2,1),(3,1),(4,2)],0,[.int .i64 0,.slice none 0 0,.slice none 0 0,.slice none 0 0,.string ⟨#[]⟩,.int .i64 0]):=by kernel_rfl
@[go_sem] theorem Tryz.abi92:ag_ Tryz.prog 92=some ([(0,1),(1,1),(2,6)],0,[.string ⟨#[]⟩,.int .i64 0,.int .i64 0,.slice none 0 0,.slice none 0 0,.slice none 0 0,.string ⟨#[]⟩,.int .i64 0]):=by kernel_rfl
@[go_sem] theorem Tryz.api93:aC_ Tryz.prog 93=some (8,128):=by kernel_rfl
@[go_sem] theorem Tryz.abi93:ag_ Tryz.prog 93=some ([(0,1),(1,1),(2,6)],0,[.string ⟨#[]⟩,.int .i64 0,.int .i64 0,.slice none 0 0,.slice none 0 0,.slice none 0 0,.string ⟨#[]⟩,.int .i64 0]):=by kernel_rfl
@[go_sem] theorem Tryz.abi101:ag_ Tryz.prog 101=some ([(0,1),(1,1)],0,[.string ⟨#[]⟩,.string ⟨#[]⟩]):=by kernel_rfl
@[go_sem] theorem Tryz.api102:aC_ Tryz.prog 102=some (2,32):=by kernel_rfl
@[go_sem] theorem Tryz.abi102:ag_ Tryz.prog 102=some ([(0,1),(1,1)],0,[.string ⟨#[]⟩,.string ⟨#[]⟩]):=by kernel_rfl
@[go_sem] theorem Tryz.abi108:ag_ Tryz.prog 108=some ([(0,1),(1,1)],0,[.int .i64 0,.int .i64 0]):=by kernel_rfl
@[go_sem] theorem Tryz.abi109:ag_ Tryz.prog 109=some ([(0,1),(1,1)],0,[.int .i64 0,.int .i64 0]):=by kernel_rfl
@[go_sem] theorem Tryz.abi111:ag_ Tryz.prog 111=some ([(0,1),(1,1),(2,2),(4,1),(5,1),(6,1),(7,2),(9,1),(10,1)],0,[.string ⟨#[]⟩,.pointer none,.slice none 0 0,.slice none 0 0,.map none,.int .i64 0,.pointer none,.int .i64 0,.int .i64 0,.pointer none,.slice none 0 0]):=by kernel_rfl
@[go_sem] theorem Tryz.abi112:ag_ Tryz.prog 112=some ([(0,1),(1,1),(2,2),(4,1),(5,1),(6,1),(7,2),(9,1),(10,1)],0,[.string ⟨#[]⟩,.pointer none,.slice none 0 0,.slice none 0 0,.map none,.int .i64 0,.pointer none,.int .i64 0,.int .i64 0,.pointer none,.slice none 0 0]):=by kernel_rfl
@[go_sem] theorem Tryz.abi115:ag_ Tryz.prog 115=some ([(0,1),(1,1)],0,[.slice none 0 0,.slice none 0 0]):=by kernel_rfl
@[go_sem] theorem Tryz.abi116:ag_ Tryz.prog 116=some ([(0,1),(1,1)],0,[.slice none 0 0,.slice none 0 0]):=by kernel_rfl
@[go_sem] theorem Tryz.abi117:ag_ Tryz.prog 117=some ([(0,1),(1,2)],0,[.string ⟨#[]⟩,.slice none 0 0,.slice none 0 0]):=by kernel_rfl
@[go_sem] theorem Tryz.api118:aC_ Tryz.prog 118=some (3,64):=by kernel_rfl
@[go_sem] theorem Tryz.abi118:ag_ Tryz.prog 118=some ([(0,1),(1,2)],0,[.string ⟨#[]⟩,.slice none 0 0,.slice none 0 0]):=by kernel_rfl
@[go_sem] theorem Tryz.abi120:ag_ Tryz.prog 120=some ([(0,1),(1,1)],0,[.string ⟨#[]⟩,.int .i64 0]):=by kernel_rfl
@[go_sem] theorem Tryz.api121:aC_ Tryz.prog 121=some (2,24):=by kernel_rfl
@[go_sem] theorem Tryz.abi121:ag_ Tryz.prog 121=some ([(0,1),(1,1)],0,[.string ⟨#[]⟩,.int .i64 0]):=by kernel_rfl
@[go_sem] theorem Tryz.ais138:aB_ Tryz.prog 138=false:=by kernel_rfl
@[go_sem] theorem Tryz.ase138:aj_ Tryz.prog 138=some 62:=by kernel_rfl
@[go_sem] theorem Tryz.ais140:aB_ Tryz.prog 140=false:=by kernel_rfl
@[go_sem] theorem Tryz.ase140:aj_ Tryz.prog 140=some 83:=by kernel_rfl
@[go_sem] theorem Tryz.abi141:ag_ Tryz.prog 141=some ([(0,1),(1,1),(2,1),(3,1),(4,1),(5,1),(6,1),(7,1)],0,[.int .i64 0,.int .i64 0,.int .i64 0,.int .i64 0,.int .i64 0,.bool false,.bool false,.bool false]):=by kernel_rfl
@[go_sem] theorem Tryz.abi142:ag_ Tryz.prog 142=some ([(0,1),(1,1),(2,1),(3,1),(4,1),(5,1),(6,1),(7,1)],0,[.int .i64 0,.int .i64 0,.int .i64 0,.int .i64 0,.int .i64 0,.bool false,.bool false,.bool false]):=by kernel_rfl
@[go_sem] theorem Tryz.api161:aC_ Tryz.prog 161=some (2,32):=by kernel_rfl
@[go_sem] theorem Tryz.abi161:ag_ Tryz.prog 161=some ([(0,1),(1,1)],0,[.string ⟨#[]⟩,.string ⟨#[]⟩]):=by kernel_rfl
@[go_sem] theorem Tryz.ais162:aB_ Tryz.prog 162=false:=by kernel_rfl
@[go_sem] theorem Tryz.ase162:aj_ Tryz.prog 162=some 281:=by kernel_rfl
@[go_sem] theorem Tryz.abi163:ag_ Tryz.prog 163=some ([(0,1),(1,1),(2,1),(3,1),(4,1),(5,1),(6,2),(8,1),(9,1),(10,1),(11,1)],0,[.int .i64 0,.string ⟨#[]⟩,.string ⟨#[]⟩,.int .i64 0,.int .i64 0,.string ⟨#[]⟩,.slice none 0 0,.slice none 0 0,.slice none 0 0,.slice none 0 0,.slice none 0 0,.slice none 0 0]):=by kernel_rfl
@[go_sem] theorem Tryz.abi164:ag_ Tryz.prog 164=some ([(0,1),(1,1),(2,1),(3,1),(4,1),(5,1),(6,2),(8,1),(9,1),(10,1),(11,1)],0,[.int .i64 0,.string ⟨#[]⟩,.string ⟨#[]⟩,.int .i64 0,.int .i64 0,.string ⟨#[]⟩,.slice none 0 0,.slice none 0 0,.slice none 0 0,.slice none 0 0,.slice none 0 0,.slice none 0 0]):=by kernel_rfl
@[go_sem] theorem Tryz.ais170:aB_ Tryz.prog 170=false:=by kernel_rfl
@[go_sem] theorem Tryz.api170:aC_ Tryz.prog 170=some (1,24):=by kernel_rfl
@[go_sem] theorem Tryz.ase170:aj_ Tryz.prog 170=some 3:=by kernel_rfl
@[go_sem] theorem Tryz.abi176:ag_ Tryz.prog 176=some ([(0,1),(1,2),(3,2),(5,1),(6,1),(7,1),(8,1)],0,[.string ⟨#[]⟩,.string ⟨#[]⟩,.int .i64 0,.slice none 0 0,.slice none 0 0,.pointer none,.pointer none,.pointer none,.bool false]):=by kernel_rfl
@[go_sem] theorem Tryz.abi177:ag_ Tryz.prog 177=some ([(0,1),(1,2),(3,2),(5,1),(6,1),(7,1),(8,1)],0,[.string ⟨#[]⟩,.string ⟨#[]⟩,.int .i64 0,.slice none 0 0,.slice none 0 0,.pointer none,.pointer none,.pointer none,.bool false]):=by kernel_rfl
@[go_sem] theorem Tryz.ais191:aB_ Tryz.prog 191=false:=by kernel_rfl
@[go_sem] theorem Tryz.ase191:aj_ Tryz.prog 191=some 5:=by kernel_rfl
@[go_sem] theorem Tryz.abi192:ag_ Tryz.prog 192=some ([(0,1),(1,1)],0,[.slice none 0 0,.int .i64 0]):=by kernel_rfl
@[go_sem] theorem Tryz.abi193:ag_ Tryz.prog 193=some ([(0,1),(1,1)],0,[.slice none 0 0,.int .i64 0]):=by kernel_rfl
@[go_sem] theorem Tryz.abi196:ag_ Tryz.prog 196=some ([(0,1),(1,1),(2,1),(3,1)],0,[.slice none 0 0,.string ⟨#[]⟩,.slice none 0 0,.int .i64 0]):=by kernel_rfl
@[go_sem] theorem Tryz.abi197:ag_ Tryz.prog 197=some ([(0,1),(1,1),(2,1),(3,1)],0,[.slice none 0 0,.string ⟨#[]⟩,.slice none 0 0,.int .i64 0]):=by kernel_rfl
@[go_sem] theorem Tryz.abi211:ag_ Tryz.prog 211=some ([(0,1),(1,1),(2,1)],0,[.string ⟨#[]⟩,.int .i64 0,.slice none 0 0]):=by kernel_rfl
@[go_sem] theorem Tryz.api212:aC_ Tryz.prog 212=some (3,48):=by kernel_rfl
@[go_sem] theorem Tryz.abi212:ag_ Tryz.prog 212=some ([(0,1),(1,1),(2,1)],0,[.string ⟨#[]⟩,.int .i64 0,.slice none 0 0]):=by kernel_rfl
@[go_sem] theorem Tryz.abi224:ag_ Tryz.prog 224=some ([(0,1),(1,1)],0,[.string ⟨#[]⟩,.bool false]):=by kernel_rfl
@[go_sem] theorem Tryz.api225:aC_ Tryz.prog 225=some (2,24):=by kernel_rfl
@[go_sem] theorem Tryz.abi225:ag_ Tryz.prog 225=some ([(0,1),(1,1)],0,[.string ⟨#[]⟩,.bool false]):=by kernel_rfl
@[go_sem] theorem Tryz.ais240:aB_ Tryz.prog 240=false:=by kernel_rfl
@[go_sem] theorem Tryz.ase240:aj_ Tryz.prog 240=some 245:=by kernel_rfl
@[go_sem] theorem Tryz.ais241:aB_ Tryz.prog 241=false:=by kernel_rfl
@[go_sem] theorem Tryz.ase241:aj_ Tryz.prog 241=some 245:=by kernel_rfl
@[go_sem] theorem Tryz.abi243:ag_ Tryz.prog 243=some ([(0,1),(1,1)],0,[.slice none 0 0,.map none]):=by kernel_rfl
@[go_sem] theorem Tryz.abi244:ag_ Tryz.prog 244=some ([(0,1),(1,1)],0,[.slice none 0 0,.map none]):=by kernel_rfl
@[go_sem] theorem Tryz.api245:aC_ Tryz.prog 245=some (1,8):=by kernel_rfl
@[go_sem] theorem Tryz.abi246:ag_ Tryz.prog 246=some ([(0,1),(1,1),(2,1)],0,[.int .i64 0,.int .i64 0,.int .i64 0]):=by kernel_rfl
@[go_sem] theorem Tryz.abi247:ag_ Tryz.prog 247=some ([(0,1),(1,1),(2,1)],0,[.int .i64 0,.int .i64 0,.int .i64 0]):=by kernel_rfl
@[go_sem] theorem Tryz.abi267:ag_ Tryz.prog 267=some ([(0,2),(2,1),(3,1),(4,1)],0,[.string ⟨#[]⟩,.int .i64 0,.string ⟨#[]⟩,.bool false,.int .i64 0]):=by kernel_rfl
@[go_sem] theorem Tryz.api268:aC_ Tryz.prog 268=some (5,56):=by kernel_rfl
@[go_sem] theorem Tryz.abi268:ag_ Tryz.prog 268=some ([(0,2),(2,1),(3,1),(4,1)],0,[.string ⟨#[]⟩,.int .i64 0,.string ⟨#[]⟩,.bool false,.int .i64 0]):=by kernel_rfl
@[go_sem] theorem Tryz.abi280:ag_ Tryz.prog 280=some ([(0,1),(1,1)],0,[.string ⟨#[]⟩,.string ⟨#[]⟩]):=by kernel_rfl
@[go_sem] theorem Tryz.api281:aC_ Tryz.prog 281=some (2,32):=by kernel_rfl
@[go_sem] theorem Tryz.abi281:ag_ Tryz.prog 281=some ([(0,1),(1,1)],0,[.string ⟨#[]⟩,.string ⟨#[]⟩]):=by kernel_rfl
@[go_sem] theorem Tryz.abi285:ag_ Tryz.prog 285=some ([(0,1),(1,1)],0,[.int .i64 0,.map none]):=by kernel_rfl
@[go_sem] theorem Tryz.abi286:ag_ Tryz.prog 286=some ([(0,1),(1,1)],0,[.int .i64 0,.map none]):=by kernel_rfl
@[go_sem] theorem Tryz.abi288:ag_ Tryz.prog 288=some ([(0,1),(1,1),(2,1)],0,[.int .i64 0,.string ⟨#[]⟩,.map none]):=by kernel_rfl
@[go_sem] theorem Tryz.abi289:ag_ Tryz.prog 289=some ([(0,1),(1,1),(2,1)],0,[.int .i64 0,.string ⟨#[]⟩,.map none]):=by kernel_rfl
@[go_sem] theorem Tryz.abi299:ag_ Tryz.prog 299=some ([(0,1),(1,1)],0,[.int .i64 0,.int .i64 0]):=by kernel_rfl
@[go_sem] theorem Tryz.abi300:ag_ Tryz.prog 300=some ([(0,1),(1,1)],0,[.int .i64 0,.int .i64 0]):=by kernel_rfl
@[go_sem] theorem Tryz.ais307:aB_ Tryz.prog 307=false:=by kernel_rfl
@[go_sem] theorem Tryz.ase307:aj_ Tryz.prog 307=some 311:=by kernel_rfl
@[go_sem] theorem Tryz.abi310:ag_ Tryz.prog 310=some ([(0,1),(1,1),(2,1)],0,[.int .i64 0,.string ⟨#[]⟩,.string ⟨#[]⟩]):=by kernel_rfl
@[go_sem] theorem Tryz.api311:aC_ Tryz.prog 311=some (3,40):=by kernel_rfl
@[go_sem] theorem Tryz.abi311:ag_ Tryz.prog 311=some ([(0,1),(1,1),(2,1)],0,[.int .i64 0,.string ⟨#[]⟩,.string ⟨#[]⟩]):=by kernel_rfl
@[go_sem] theorem Tryz.abi328:ag_ Tryz.prog 328=some ([(0,1),(1,1)],0,[.pointer none,.slice none 0 0]):=by kernel_rfl
@[go_sem] theorem Tryz.abi329:ag_ Tryz.prog 329=some ([(0,1),(1,1)],0,[.pointer none,.slice none 0 0]):=by kernel_rfl
@[go_sem] theorem Tryz.abi330:ag_ Tryz.prog 330=some ([(0,2)],0,[.pointer none,.slice none 0 0]):=by kernel_rfl
@[go_sem] theorem Tryz.abi331:ag_ Tryz.prog 331=some ([(0,2)],0,[.pointer none,.slice none 0 0]):=by kernel_rfl
@[go_sem] theorem Tryz.ais340:aB_ Tryz.prog 340=false:=by kernel_rfl
@[go_sem] theorem Tryz.aal340:cb_ Tryz.prog 340=some (8,3):=by kernel_rfl
@[go_sem] theorem Tryz.abi340:ag_ Tryz.prog 340=some ([],1,[.int .i64 0,.int .i64 0,.int .i64 0,.int .i64 0,.int .i64 0,.int .i64 0,.int .i64 0,.int .i64 0]):=by kernel_rfl
@[go_sem] theorem Tryz.abi341:ag_ Tryz.prog 341=some ([(0,1),(1,1)],0,[.string ⟨#[]⟩,.bool false]):=by kernel_rfl
@[go_sem] theorem Tryz.abi342:ag_ Tryz.prog 342=some ([(0,1),(1,1)],0,[.string ⟨#[]⟩,.bool false]):=by kernel_rfl
@[go_sem] theorem Tryz.ais345:aB_ Tryz.prog 345=false:=by kernel_rfl
@[go_sem] theorem Tryz.ase345:aj_ Tryz.prog 345=some 346:=by kernel_rfl
@[go_sem] theorem Tryz.ais346:aB_ Tryz.prog 346=false:=by kernel_rfl
@[go_sem] theorem Tryz.api346:aC_ Tryz.prog 346=some (2,16):=by kernel_rfl
@[go_sem] theorem Tryz.aal346:cb_ Tryz.prog 346=some (2,3):=by kernel_rfl
@[go_sem] theorem Tryz.abi346:ag_ Tryz.prog 346=some ([],1,[.int .i64 0,.int .i64 0]):=by kernel_rfl
@[go_sem] theorem Tryz.abi405:ag_ Tryz.prog 405=some ([(0,8),(8,1),(9,1),(10,2),(12,1)],0,[.int .i64 0,.int .i64 0,.int .i64 0,.int .i64 0,.int .i64 0,.bool false,.bool false,.bool false,.slice none 0 0,.map none,.slice none 0 0,.slice none 0 0,.int .i64 0]):=by kernel_rfl
@[go_sem] theorem Tryz.abi406:ag_ Tryz.prog 406=some ([(0,8),(8,1),(9,1),(10,2),(12,1)],0,[.int .i64 0,.int .i64 0,.int .i64 0,.int .i64 0,.int .i64 0,.bool false,.bool false,.bool false,.slice none 0 0,.map none,.slice none 0 0,.slice none 0 0,.int .i64 0]):=by kernel_rfl
@[go_sem] theorem Tryz.abi407:ag_ Tryz.prog 407=some ([(0,1),(1,2)],0,[.int .i64 0,.slice none 0 0,.slice none 0 0]):=by kernel_rfl
@[go_sem] theorem Tryz.abi408:ag_ Tryz.prog 408=some ([(0,1),(1,2)],0,[.int .i64 0,.slice none 0 0,.slice none 0 0]):=by kernel_rfl
@[go_sem] theorem Tryz.ais435:aB_ Tryz.prog 435=false:=by kernel_rfl
@[go_sem] theorem Tryz.ase435:aj_ Tryz.prog 435=some 439:=by kernel_rfl
@[go_sem] theorem Tryz.api439:aC_ Tryz.prog 439=some (1,8):=by kernel_rfl
@[go_sem] theorem Tryz.abi440:ag_ Tryz.prog 440=some ([(0,1),(1,1),(2,1),(3,1)],0,[.string ⟨#[]⟩,.int .i64 0,.int .i64 0,.int .i64 0]):=by kernel_rfl
@[go_sem] theorem Tryz.abi441:ag_ Tryz.prog 441=some ([(0,1),(1,1),(2,1),(3,1)],0,[.string ⟨#[]⟩,.int .i64 0,.int .i64 0,.int .i64 0]):=by kernel_rfl
@[go_sem] theorem Tryz.ais442:aB_ Tryz.prog 442=false:=by kernel_rfl
@[go_sem] theorem Tryz.ase442:aj_ Tryz.prog 442=some 439:=by kernel_rfl
@[go_sem] theorem Tryz.ais445:aB_ Tryz.prog 445=false:=by kernel_rfl
@[go_sem] theorem Tryz.ase445:aj_ Tryz.prog 445=some 27:=by kernel_rfl
@[go_sem] theorem Tryz.abi454:ag_ Tryz.prog 454=some ([(0,1)],0,[.pointer none]):=by kernel_rfl
@[go_sem] theorem Tryz.abi455:ag_ Tryz.prog 455=some ([(0,1)],0,[.pointer none]):=by kernel_rfl
@[go_sem] theorem Tryz.abi483:ag_ Tryz.prog 483=some ([(0,1),(1,1),(2,1),(3,1),(4,1)],0,[.string ⟨#[]⟩,.slice none 0 0,.map none,.bool false,.slice none 0 0]):=by kernel_rfl
@[go_sem] theorem Tryz.abi484:ag_ Tryz.prog 484=some ([(0,1),(1,1),(2,1),(3,1),(4,1)],0,[.string ⟨#[]⟩,.slice none 0 0,.map none,.bool false,.slice none 0 0]):=by kernel_rfl
@[go_sem] theorem Tryz.abi485:ag_ Tryz.prog 485=some ([(0,8),(8,1),(9,1),(10,1),(11,1),(12,1)],0,[.int .i64 0,.int .i64 0,.int .i64 0,.int .i64 0,.int .i64 0,.bool false,.bool false,.bool false,.slice none 0 0,.map none,.bool false,.int .i64 0,.int .i64 0]):=by kernel_rfl
@[go_sem] theorem Tryz.abi486:ag_ Tryz.prog 486=some ([(0,8),(8,1),(9,1),(10,1),(11,1),(12,1)],0,[.int .i64 0,.int .i64 0,.int .i64 0,.int .i64 0,.int .i64 0,.bool false,.bool false,.bool false,.slice none 0 0,.map none,.bool false,.int .i64 0,.int .i64 0]):=by kernel_rfl
@[go_sem] theorem Tryz.abi498:ag_ Tryz.prog 498=some ([(0,1)],0,[.pointer none]):=by kernel_rfl
@[go_sem] theorem Tryz.abi499:ag_ Tryz.prog 499=some ([(0,1)],0,[.pointer none]):=by kernel_rfl
@[go_sem] theorem Tryz.ais529:aB_ Tryz.prog 529=false:=by kernel_rfl
@[go_sem] theorem Tryz.aal529:cb_ Tryz.prog 529=some (64,323):=by kernel_rfl
@[go_sem] theorem Tryz.abi529:ag_ Tryz.prog 529=some ([],1,[.int .u32 0,.int .u32 0,.int .u32 0,.int .u32 0,.int .u32 0,.int .u32 0,.int .u32 0,.int .u32 0,.int .u32 0,.int .u32 0,.int .u32 0,.int .u32 0,.int .u32 0,.int .u32 0,.int .u32 0,.int .u32 0,.int .u32 0,.int .u32 0,.int .u32 0,.int .u32 0,.int .u32 0,.int .u32 0,.int .u32 0,.int .u32 0,.int .u32 0,.int .u32 0,.int .u32 0,.int .u32 0,.int .u32 0,.int .u32 0,.int .u32 0,.int .u32 0,.int .u32 0,.int .u32 0,.int .u32 0,.int .u32 0,.int .u32 0,.int .u32 0,.int .u32 0,.int .u32 0,.int .u32 0,.int .u32 0,.int .u32 0,.int .u32 0,.int .u32 0,.int .u32 0,.int .u32 0,.int .u32 0,.int .u32 0,.int .u32 0,.int .u32 0,.int .u32 0,.int .u32 0,.int .u32 0,.int .u32 0,.int .u32 0,.int .u32 0,.int .u32 0,.int .u32 0,.int .u32 0,.int .u32 0,.int .u32 0,.int .u32 0,.int .u32 0]):=by kernel_rfl
@[go_sem] theorem Tryz.ais559:aB_ Tryz.prog 559=false:=by kernel_rfl
@[go_sem] theorem Tryz.ase559:aj_ Tryz.prog 559=some 31:=by kernel_rfl
@[go_sem] theorem Tryz.ais568:aB_ Tryz.prog 568=false:=by kernel_rfl
@[go_sem] theorem Tryz.aal568:cb_ Tryz.prog 568=some (64,3):=by kernel_rfl
@[go_sem] theorem Tryz.abi568:ag_ Tryz.prog 568=some ([],1,[.int .i64 0,.int .i64 0,.int .i64 0,.int .i64 0,.int .i64 0,.int .i64 0,.int .i64 0,.int .i64 0,.int .i64 0,.int .i64 0,.int .i64 0,.int .i64 0,.int .i64 0,.int .i64 0,.int .i64 0,.int .i64 0,.int .i64 0,.int .i64 0,.int .i64 0,.int .i64 0,.int .i64 0,.int .i64 0,.int .i64 0,.int .i64 0,.int .i64 0,.int .i64 0,.int .i64 0,.int .i64 0,.int .i64 0,.int .i64 0,.int .i64 0,.int .i64 0,.int .i64 0,.int .i64 0,.int .i64 0,.int .i64 0,.int .i64 0,.int .i64 0,.int .i64 0,.int .i64 0,.int .i64 0,.int .i64 0,.int .i64 0,.int .i64 0,.int .i64 0,.int .i64 0,.int .i64 0,.int .i64 0,.int .i64 0,.int .i64 0,.int .i64 0,.int .i64 0,.int .i64 0,.int .i64 0,.int .i64 0,.int .i64 0,.int .i64 0,.int .i64 0,.int .i64 0,.int .i64 0,.int .i64 0,.int .i64 0,.int .i64 0,.int .i64 0]):=by kernel_rfl
@[go_sem] theorem Tryz.ais588:aB_ Tryz.prog 588=false:=by kernel_rfl
@[go_sem] theorem Tryz.ase588:aj_ Tryz.prog 588=some 86:=by kernel_rfl
@[go_sem] theorem Tryz.abi601:ag_ Tryz.prog 601=some ([(0,1),(1,1),(2,1)],0,[.slice none 0 0,.map none,.map none]):=by kernel_rfl
@[go_sem] theorem Tryz.ais612:aB_ Tryz.prog 612=false:=by kernel_rfl
@[go_sem] theorem Tryz.aal612:cb_ Tryz.prog 612=some (64,5):=by kernel_rfl
@[go_sem] theorem Tryz.abi612:ag_ Tryz.prog 612=some ([],1,[.int .u8 0,.int .u8 0,.int .u8 0,.int .u8 0,.int .u8 0,.int .u8 0,.int .u8 0,.int .u8 0,.int .u8 0,.int .u8 0,.int .u8 0,.int .u8 0,.int .u8 0,.int .u8 0,.int .u8 0,.int .u8 0,.int .u8 0,.int .u8 0,.int .u8 0,.int .u8 0,.int .u8 0,.int .u8 0,.int .u8 0,.int .u8 0,.int .u8 0,.int .u8 0,.int .u8 0,.int .u8 0,.int .u8 0,.int .u8 0,.int .u8 0,.int .u8 0,.int .u8 0,.int .u8 0,.int .u8 0,.int .u8 0,.int .u8 0,.int .u8 0,.int .u8 0,.int .u8 0,.int .u8 0,.int .u8 0,.int .u8 0,.int .u8 0,.int .u8 0,.int .u8 0,.int .u8 0,.int .u8 0,.int .u8 0,.int .u8 0,.int .u8 0,.int .u8 0,.int .u8 0,.int .u8 0,.int .u8 0,.int .u8 0,.int .u8 0,.int .u8 0,.int .u8 0,.int .u8 0,.int .u8 0,.int .u8 0,.int .u8 0,.int .u8 0]):=by kernel_rfl
@[go_sem] theorem Tryz.ais624:aB_ Tryz.prog 624=false:=by kernel_rfl
@[go_sem] theorem Tryz.ase624:aj_ Tryz.prog 624=some 22:=by kernel_rfl
@[go_sem] theorem Tryz.abi647:ag_ Tryz.prog 647=some ([(0,1),(1,1),(2,1)],0,[.string ⟨#[]⟩,.string ⟨#[]⟩,.nilIface]):=by kernel_rfl
@[go_sem] theorem Tryz.abi648:ag_ Tryz.prog 648=some ([(0,1),(1,1),(2,1)],0,[.string ⟨#[]⟩,.string ⟨#[]⟩,.nilIface]):=by kernel_rfl
@[go_sem] theorem Tryz.ais654:aB_ Tryz.prog 654=false:=by kernel_rfl
@[go_sem] theorem Tryz.ase654:aj_ Tryz.prog 654=some 170:=by kernel_rfl
@[go_sem] theorem Tryz.abi682:ag_ Tryz.prog 682=some ([(0,1),(1,1),(2,1),(3,1)],0,[.pointer none,.pointer none,.pointer none,.string ⟨#[]⟩]):=by kernel_rfl
@[go_sem] theorem Tryz.abi683:ag_ Tryz.prog 683=some ([(0,1),(1,1),(2,1),(3,1)],0,[.pointer none,.pointer none,.pointer none,.string ⟨#[]⟩]):=by kernel_rfl
@[go_sem] theorem Tryz.ais684:aB_ Tryz.prog 684=false:=by kernel_rfl
@[go_sem] theorem Tryz.aal684:cb_ Tryz.prog 684=some (0,16):=by kernel_rfl
@[go_sem] theorem Tryz.abi684:ag_ Tryz.prog 684=some ([],1,[]):=by kernel_rfl
@[go_sem] theorem Tryz.abi685:ag_ Tryz.prog 685=some ([(0,0)],0,[]):=by kernel_rfl
@[go_sem] theorem Tryz.abi686:ag_ Tryz.prog 686=some ([(0,0)],0,[]):=by kernel_rfl
@[go_sem] theorem Tryz.abi692:ag_ Tryz.prog 692=some ([(0,1),(1,1),(2,1),(3,1),(4,1),(5,1),(6,1),(7,1),(8,1),(9,1),(10,1)],0,[.int .u64 0,.int .u64 0,.int .u32 0,.int .u8 0,.int .u8 0,.int .u8 0,.int .u8 0,.nilFunc,.pointer none,.int .i32 0,.int .i32 0]):=by kernel_rfl
@[go_sem] theorem Tryz.abi693:ag_ Tryz.prog 693=some ([(0,1),(1,1),(2,1),(3,1),(4,1),(5,1),(6,1),(7,1),(8,1),(9,1),(10,1)],0,[.int .u64 0,.int .u64 0,.int .u32 0,.int .u8 0,.int .u8 0,.int .u8 0,.int .u8 0,.nilFunc,.pointer none,.int .i32 0,.int .i32 0]):=by kernel_rfl
@[go_sem] theorem Tryz.aeq61 (σ:Store) (c:Bool) (a0 b0:ByteArray) (a1 b1:ByteArray) (a2 b2:ByteArray) (a3 b3:Bool):abin Tryz.prog σ .eql 61 c (.agg [.lit (.string a0),.lit (.string a1),.lit (.string a2),.lit (.bool a3)]) (.agg [.lit (.string b0),.lit (.string b1),.lit (.string b2),.lit (.bool b3)])=some (.lit (.bool ((decide (a0=b0)) && ((decide (a1=b1)) && ((decide (a2=b2)) && ((a3 == b3) && true)))))):=by kernel_rfl
@[go_sem] theorem Tryz.aeqn61 (σ:Store) (c:Bool) (a0 b0:ByteArray) (a1 b1:ByteArray) (a2 b2:ByteArray) (a3 b3:Bool):abin Tryz.prog σ .neq 61 c (.agg [.lit (.string a0),.lit (.string a1),.lit (.string a2),.lit (.bool a3)]) (.agg [.lit (.string b0),.lit (.string b1),.lit (.string b2),.lit (.bool b3)])=some (.lit (.bool !((decide (a0=b0)) && ((decide (a1=b1)) && ((decide (a2=b2)) && ((a3 == b3) && true)))))):=by kernel_rfl
@[go_sem] theorem Tryz.aeq62 (σ:Store) (c:Bool) (a0 b0:ByteArray) (a1 b1:ByteArray) (a2 b2:ByteArray) (a3 b3:Bool):abin Tryz.prog σ .eql 62 c (.agg [.lit (.string a0),.lit (.string a1),.lit (.string a2),.lit (.bool a3)]) (.agg [.lit (.string b0),.lit (.string b1),.lit (.string b2),.lit (.bool b3)])=some (.lit (.bool ((decide (a0=b0)) && ((decide (a1=b1)) && ((decide (a2=b2)) && ((a3 == b3) && true)))))):=by kernel_rfl
@[go_sem] theorem Tryz.aeqn62 (σ:Store) (c:Bool) (a0 b0:ByteArray) (a1 b1:ByteArray) (a2 b2:ByteArray) (a3 b3:Bool):abin Tryz.prog σ .neq 62 c (.agg [.lit (.string a0),.lit (.string a1),.lit (.string a2),.lit (.bool a3)]) (.agg [.lit (.string b0),.lit (.string b1),.lit (.string b2),.lit (.bool b3)])=some (.lit (.bool !((decide (a0=b0)) && ((decide (a1=b1)) && ((decide (a2=b2)) && ((a3 == b3) && true)))))):=by kernel_rfl
@[go_sem] theorem Tryz.aeq63 (σ:Store) (c:Bool) (a0 b0:Int) (a1 b1:ByteArray) (a2 b2:ByteArray) (a3 b3:ByteArray) (a4 b4:ByteArray) (a5 b5:Int) (a6 b6:ByteArray) (a7 b7:ByteArray) (a8 b8:ByteArray) (a9 b9:Bool):abin Tryz.prog σ .eql 63 c (.agg [.lit (.int .i64 a0),.lit (.string a1),.lit (.string a2),.lit (.string a3),.lit (.string a4),.lit (.int .i64 a5),.lit (.string a6),.lit (.string a7),.lit (.string a8),.lit (.bool a9)]) (.agg [.lit (.int .i64 b0),.lit (.string b1),.lit (.string b2),.lit (.string b3),.lit (.string b4),.lit (.int .i64 b5),.lit (.string b6),.lit (.string b7),.lit (.string b8),.lit (.bool b9)])=some (.lit (.bool ((decide (a0=b0)) && ((decide (a1=b1)) && ((decide (a2=b2)) && ((decide (a3=b3)) && ((decide (a4=b4)) && ((decide (a5=b5)) && (((decide (a6=b6)) && ((decide (a7=b7)) && ((decide (a8=b8)) && ((a9 == b9) && true)))) && true))))))))):=by kernel_rfl
@[go_sem] theorem Tryz.aeqn63 (σ:Store) (c:Bool) (a0 b0:Int) (a1 b1:ByteArray) (a2 b2:ByteArray) (a3 b3:ByteArray) (a4 b4:ByteArray) (a5 b5:Int) (a6 b6:ByteArray) (a7 b7:ByteArray) (a8 b8:ByteArray) (a9 b9:Bool):abin Tryz.prog σ .neq 63 c (.agg [.lit (.int .i64 a0),.lit (.string a1),.lit (.string a2),.lit (.string a3),.lit (.string a4),.lit (.int .i64 a5),.lit (.string a6),.lit (.string a7),.lit (.string a8),.lit (.bool a9)]) (.agg [.lit (.int .i64 b0),.lit (.string b1),.lit (.string b2),.lit (.string b3),.lit (.string b4),.lit (.int .i64 b5),.lit (.string b6),.lit (.string b7),.lit (.string b8),.lit (.bool b9)])=some (.lit (.bool !((decide (a0=b0)) && ((decide (a1=b1)) && ((decide (a2=b2)) && ((decide (a3=b3)) && ((decide (a4=b4)) && ((decide (a5=b5)) && (((decide (a6=b6)) && ((decide (a7=b7)) && ((decide (a8=b8)) && ((a9 == b9) && true)))) && true))))))))):=by kernel_rfl
@[go_sem] theorem Tryz.aeq64 (σ:Store) (c:Bool) (a0 b0:Int) (a1 b1:ByteArray) (a2 b2:ByteArray) (a3 b3:ByteArray) (a4 b4:ByteArray) (a5 b5:Int) (a6 b6:ByteArray) (a7 b7:ByteArray) (a8 b8:ByteArray) (a9 b9:Bool):abin Tryz.prog σ .eql 64 c (.agg [.lit (.int .i64 a0),.lit (.string a1),.lit (.string a2),.lit (.string a3),.lit (.string a4),.lit (.int .i64 a5),.lit (.string a6),.lit (.string a7),.lit (.string a8),.lit (.bool a9)]) (.agg [.lit (.int .i64 b0),.lit (.string b1),.lit (.string b2),.lit (.string b3),.lit (.string b4),.lit (.int .i64 b5),.lit (.string b6),.lit (.string b7),.lit (.string b8),.lit (.bool b9)])=some (.lit (.bool ((decide (a0=b0)) && ((decide (a1=b1)) && ((decide (a2=b2)) && ((decide (a3=b3)) && ((decide (a4=b4)) && ((decide (a5=b5)) && (((decide (a6=b6)) && ((decide (a7=b7)) && ((decide (a8=b8)) && ((a9 == b9) && true)))) && true))))))))):=by kernel_rfl
@[go_sem] theorem Tryz.aeqn64 (σ:Store) (c:Bool) (a0 b0:Int) (a1 b1:ByteArray) (a2 b2:ByteArray) (a3 b3:ByteArray) (a4 b4:ByteArray) (a5 b5:Int) (a6 b6:ByteArray) (a7 b7:ByteArray) (a8 b8:ByteArray) (a9 b9:Bool):abin Tryz.prog σ .neq 64 c (.agg [.lit (.int .i64 a0),.lit (.string a1),.lit (.string a2),.lit (.string a3),.lit (.string a4),.lit (.int .i64 a5),.lit (.string a6),.lit (.string a7),.lit (.string a8),.lit (.bool a9)]) (.agg [.lit (.int .i64 b0),.lit (.string b1),.lit (.string b2),.lit (.string b3),.lit (.string b4),.lit (.int .i64 b5),.lit (.string b6),.lit (.string b7),.lit (.string b8),.lit (.bool b9)])=some (.lit (.bool !((decide (a0=b0)) && ((decide (a1=b1)) && ((decide (a2=b2)) && ((decide (a3=b3)) && ((decide (a4=b4)) && ((decide (a5=b5)) && (((decide (a6=b6)) && ((decide (a7=b7)) && ((decide (a8=b8)) && ((a9 == b9) && true)))) && true))))))))):=by kernel_rfl
@[go_sem] theorem Tryz.aeq71 (σ:Store) (c:Bool) (a0 b0:Int) (a1 b1:ByteArray) (a2 b2:ByteArray):abin Tryz.prog σ .eql 71 c (.agg [.lit (.int .i64 a0),.lit (.string a1),.lit (.string a2)]) (.agg [.lit (.int .i64 b0),.lit (.string b1),.lit (.string b2)])=some (.lit (.bool ((decide (a0=b0)) && ((decide (a1=b1)) && ((decide (a2=b2)) && true))))):=by kernel_rfl
@[go_sem] theorem Tryz.aeqn71 (σ:Store) (c:Bool) (a0 b0:Int) (a1 b1:ByteArray) (a2 b2:ByteArray):abin Tryz.prog σ .neq 71 c (.agg [.lit (.int .i64 a0),.lit (.string a1),.lit (.string a2)]) (.agg [.lit (.int .i64 b0),.lit (.string b1),.lit (.string b2)])=some (.lit (.bool !((decide (a0=b0)) && ((decide (a1=b1)) && ((decide (a2=b2)) && true))))):=by kernel_rfl
@[go_sem] theorem Tryz.aeq72 (σ:Store) (c:Bool) (a0 b0:Int) (a1 b1:ByteArray) (a2 b2:ByteArray):abin Tryz.prog σ .eql 72 c (.agg [.lit (.int .i64 a0),.lit (.string a1),.lit (.string a2)]) (.agg [.lit (.int .i64 b0),.lit (.string b1),.lit (.string b2)])=some (.lit (.bool ((decide (a0=b0)) && ((decide (a1=b1)) && ((decide (a2=b2)) && true))))):=by kernel_rfl
@[go_sem] theorem Tryz.aeqn72 (σ:Store) (c:Bool) (a0 b0:Int) (a1 b1:ByteArray) (a2 b2:ByteArray):abin Tryz.prog σ .neq 72 c (.agg [.lit (.int .i64 a0),.lit (.string a1),.lit (.string a2)]) (.agg [.lit (.int .i64 b0),.lit (.string b1),.lit (.string b2)])=some (.lit (.bool !((decide (a0=b0)) && ((decide (a1=b1)) && ((decide (a2=b2)) && true))))):=by kernel_rfl
@[go_sem] theorem Tryz.aeq73 (σ:Store) (c:Bool) (a0 b0:ByteArray) (a1 b1:Int) (a2 b2:ByteArray) (a3 b3:ByteArray):abin Tryz.prog σ .eql 73 c (.agg [.lit (.string a0),.lit (.int .i64 a1),.lit (.string a2),.lit (.string a3)]) (.agg [.lit (.string b0),.lit (.int .i64 b1),.lit (.string b2),.lit (.string b3)])=some (.lit (.bool ((decide (a0=b0)) && (((decide (a1=b1)) && ((decide (a2=b2)) && ((decide (a3=b3)) && true))) && true)))):=by kernel_rfl
@[go_sem] theorem Tryz.aeqn73 (σ:Store) (c:Bool) (a0 b0:ByteArray) (a1 b1:Int) (a2 b2:ByteArray) (a3 b3:ByteArray):abin Tryz.prog σ .neq 73 c (.agg [.lit (.string a0),.lit (.int .i64 a1),.lit (.string a2),.lit (.string a3)]) (.agg [.lit (.string b0),.lit (.int .i64 b1),.lit (.string b2),.lit (.string b3)])=some (.lit (.bool !((decide (a0=b0)) && (((decide (a1=b1)) && ((decide (a2=b2)) && ((decide (a3=b3)) && true))) && true)))):=by kernel_rfl
@[go_sem] theorem Tryz.aeq74 (σ:Store) (c:Bool) (a0 b0:ByteArray) (a1 b1:Int) (a2 b2:ByteArray) (a3 b3:ByteArray):abin Tryz.prog σ .eql 74 c (.agg [.lit (.string a0),.lit (.int .i64 a1),.lit (.string a2),.lit (.string a3)]) (.agg [.lit (.string b0),.lit (.int .i64 b1),.lit (.string b2),.lit (.string b3)])=some (.lit (.bool ((decide (a0=b0)) && (((decide (a1=b1)) && ((decide (a2=b2)) && ((decide (a3=b3)) && true))) && true)))):=by kernel_rfl
@[go_sem] theorem Tryz.aeqn74 (σ:Store) (c:Bool) (a0 b0:ByteArray) (a1 b1:Int) (a2 b2:ByteArray) (a3 b3:ByteArray):abin Tryz.prog σ .neq 74 c (.agg [.lit (.string a0),.lit (.int .i64 a1),.lit (.string a2),.lit (.string a3)]) (.agg [.lit (.string b0),.lit (.int .i64 b1),.lit (.string b2),.lit (.string b3)])=some (.lit (.bool !((decide (a0=b0)) && (((decide (a1=b1)) && ((decide (a2=b2)) && ((decide (a3=b3)) && true))) && true)))):=by kernel_rfl
@[go_sem] theorem Tryz.aeq82 (σ:Store) (c:Bool) (a0 b0:ByteArray) (a1 b1:ByteArray) (a2 b2:Int) (a3 b3:Int) (a4 b4:Int) (a5 b5:Int):abin Tryz.prog σ .eql 82 c (.agg [.lit (.string a0),.lit (.string a1),.lit (.int .i64 a2),.lit (.int .i64 a3),.lit (.int .i64 a4),.lit (.int .i64 a5)]) (.agg [.lit (.string b0),.lit (.string b1),.lit (.int .i64 b2),.lit (.int .i64 b3),.lit (.int .i64 b4),.lit (.int .i64 b5)])=some (.lit (.bool ((decide (a0=b0)) && ((decide (a1=b1)) && ((decide (a2=b2)) && ((decide (a3=b3)) && ((decide (a4=b4)) && ((decide (a5=b5)) && true)))))))):=by kernel_rfl
@[go_sem] theorem Tryz.aeqn82 (σ:Store) (c:Bool) (a0 b0:ByteArray) (a1 b1:ByteArray) (a2 b2:Int) (a3 b3:Int) (a4 b4:Int) (a5 b5:Int):abin Tryz.prog σ .neq 82 c (.agg [.lit (.string a0),.lit (.string a1),.lit (.int .i64 a2),.lit (.int .i64 a3),.lit (.int .i64 a4),.lit (.int .i64 a5)]) (.agg [.lit (.string b0),.lit (.string b1),.lit (.int .i64 b2),.lit (.int .i64 b3),.lit (.int .i64 b4),.lit (.int .i64 b5)])=some (.lit (.bool !((decide (a0=b0)) && ((decide (a1=b1)) && ((decide (a2=b2)) && ((decide (a3=b3)) && ((decide (a4=b4)) && ((decide (a5=b5)) && true)))))))):=by kernel_rfl
@[go_sem] theorem Tryz.aeq83 (σ:Store) (c:Bool) (a0 b0:ByteArray) (a1 b1:ByteArray) (a2 b2:Int) (a3 b3:Int) (a4 b4:Int) (a5 b5:Int):abin Tryz.prog σ .eql 83 c (.agg [.lit (.string a0),.lit (.string a1),.lit (.int .i64 a2),.lit (.int .i64 a3),.lit (.int .i64 a4),.lit (.int .i64 a5)]) (.agg [.lit (.string b0),.lit (.string b1),.lit (.int .i64 b2),.lit (.int .i64 b3),.lit (.int .i64 b4),.lit (.int .i64 b5)])=some (.lit (.bool ((decide (a0=b0)) && ((decide (a1=b1)) && ((decide (a2=b2)) && ((decide (a3=b3)) && ((decide (a4=b4)) && ((decide (a5=b5)) && true)))))))):=by kernel_rfl
@[go_sem] theorem Tryz.aeqn83 (σ:Store) (c:Bool) (a0 b0:ByteArray) (a1 b1:ByteArray) (a2 b2:Int) (a3 b3:Int) (a4 b4:Int) (a5 b5:Int):abin Tryz.prog σ .neq 83 c (.agg [.lit (.string a0),.lit (.string a1),.lit (.int .i64 a2),.lit (.int .i64 a3),.lit (.int .i64 a4),.lit (.int .i64 a5)]) (.agg [.lit (.string b0),.lit (.string b1),.lit (.int .i64 b2),.lit (.int .i64 b3),.lit (.int .i64 b4),.lit (.int .i64 b5)])=some (.lit (.bool !((decide (a0=b0)) && ((decide (a1=b1)) && ((decide (a2=b2)) && ((decide (a3=b3)) && ((decide (a4=b4)) && ((decide (a5=b5)) && true)))))))):=by kernel_rfl
@[go_sem] theorem Tryz.aeq88 (σ:Store) (c:Bool) (a0 b0:ByteArray) (a1 b1:Int):abin Tryz.prog σ .eql 88 c (.agg [.lit (.string a0),.lit (.int .i64 a1)]) (.agg [.lit (.string b0),.lit (.int .i64 b1)])=some (.lit (.bool ((decide (a0=b0)) && ((decide (a1=b1)) && true)))):=by kernel_rfl
@[go_sem] theorem Tryz.aeqn88 (σ:Store) (c:Bool) (a0 b0:ByteArray) (a1 b1:Int):abin Tryz.prog σ .neq 88 c (.agg [.lit (.string a0),.lit (.int .i64 a1)]) (.agg [.lit (.string b0),.lit (.int .i64 b1)])=some (.lit (.bool !((decide (a0=b0)) && ((decide (a1=b1)) && true)))):=by kernel_rfl
@[go_sem] theorem Tryz.aeq89 (σ:Store) (c:Bool) (a0 b0:ByteArray) (a1 b1:Int):abin Tryz.prog σ .eql 89 c (.agg [.lit (.string a0),.lit (.int .i64 a1)]) (.agg [.lit (.string b0),.lit (.int .i64 b1)])=some (.lit (.bool ((decide (a0=b0)) && ((decide (a1=b1)) && true)))):=by kernel_rfl
@[go_sem] theorem Tryz.aeqn89 (σ:Store) (c:Bool) (a0 b0:ByteArray) (a1 b1:Int):abin Tryz.prog σ .neq 89 c (.agg [.lit (.string a0),.lit (.int .i64 a1)]) (.agg [.lit (.string b0),.lit (.int .i64 b1)])=some (.lit (.bool !((decide (a0=b0)) && ((decide (a1=b1)) && true)))):=by kernel_rfl
@[go_sem] theorem Tryz.aeq101 (σ:Store) (c:Bool) (a0 b0:ByteArray) (a1 b1:ByteArray):abin Tryz.prog σ .eql 101 c (.agg [.lit (.string a0),.lit (.string a1)]) (.agg [.lit (.string b0),.lit (.string b1)])=some (.lit (.bool ((decide (a0=b0)) && ((decide (a1=b1)) && true)))):=by kernel_rfl
@[go_sem] theorem Tryz.aeqn101 (σ:Store) (c:Bool) (a0 b0:ByteArray) (a1 b1:ByteArray):abin Tryz.prog σ .neq 101 c (.agg [.lit (.string a0),.lit (.string a1)]) (.agg [.lit (.string b0),.lit (.string b1)])=some (.lit (.bool !((decide (a0=b0)) && ((decide (a1=b1)) && true)))):=by kernel_rfl
@[go_sem] theorem Tryz.aeq102 (σ:Store) (c:Bool) (a0 b0:ByteArray) (a1 b1:ByteArray):abin Tryz.prog σ .eql 102 c (.agg [.lit (.string a0),.lit (.string a1)]) (.agg [.lit (.string b0),.lit (.string b1)])=some (.lit (.bool ((decide (a0=b0)) && ((decide (a1=b1)) && true)))):=by kernel_rfl
@[go_sem] theorem Tryz.aeqn102 (σ:Store) (c:Bool) (a0 b0:ByteArray) (a1 b1:ByteArray):abin Tryz.prog σ .neq 102 c (.agg [.lit (.string a0),.lit (.string a1)]) (.agg [.lit (.string b0),.lit (.string b1)])=some (.lit (.bool !((decide (a0=b0)) && ((decide (a1=b1)) && true)))):=by kernel_rfl
@[go_sem] theorem Tryz.aeq108 (σ:Store) (c:Bool) (a0 b0:Int) (a1 b1:Int):abin Tryz.prog σ .eql 108 c (.agg [.lit (.int .i64 a0),.lit (.int .i64 a1)]) (.agg [.lit (.int .i64 b0),.lit (.int .i64 b1)])=some (.lit (.bool ((decide (a0=b0)) && ((decide (a1=b1)) && true)))):=by kernel_rfl
@[go_sem] theorem Tryz.aeqn108 (σ:Store) (c:Bool) (a0 b0:Int) (a1 b1:Int):abin Tryz.prog σ .neq 108 c (.agg [.lit (.int .i64 a0),.lit (.int .i64 a1)]) (.agg [.lit (.int .i64 b0),.lit (.int .i64 b1)])=some (.lit (.bool !((decide (a0=b0)) && ((decide (a1=b1)) && true)))):=by kernel_rfl
@[go_sem] theorem Tryz.aeq109 (σ:Store) (c:Bool) (a0 b0:Int) (a1 b1:Int):abin Tryz.prog σ .eql 109 c (.agg [.lit (.int .i64 a0),.lit (.int .i64 a1)]) (.agg [.lit (.int .i64 b0),.lit (.int .i64 b1)])=some (.lit (.bool ((decide (a0=b0)) && ((decide (a1=b1)) && true)))):=by kernel_rfl
@[go_sem] theorem Tryz.aeqn109 (σ:Store) (c:Bool) (a0 b0:Int) (a1 b1:Int):abin Tryz.prog σ .neq 109 c (.agg [.lit (.int .i64 a0),.lit (.int .i64 a1)]) (.agg [.lit (.int .i64 b0),.lit (.int .i64 b1)])=some (.lit (.bool !((decide (a0=b0)) && ((decide (a1=b1)) && true)))):=by kernel_rfl
@[go_sem] theorem Tryz.aeq120 (σ:Store) (c:Bool) (a0 b0:ByteArray) (a1 b1:Int):abin Tryz.prog σ .eql 120 c (.agg [.lit (.string a0),.lit (.int .i64 a1)]) (.agg [.lit (.string b0),.lit (.int .i64 b1)])=some (.lit (.bool ((decide (a0=b0)) && ((decide (a1=b1)) && true)))):=by kernel_rfl
@[go_sem] theorem Tryz.aeqn120 (σ:Store) (c:Bool) (a0 b0:ByteArray) (a1 b1:Int):abin Tryz.prog σ .neq 120 c (.agg [.lit (.string a0),.lit (.int .i64 a1)]) (.agg [.lit (.string b0),.lit (.int .i64 b1)])=some (.lit (.bool !((decide (a0=b0)) && ((decide (a1=b1)) && true)))):=by kernel_rfl
@[go_sem] theorem Tryz.aeq121 (σ:Store) (c:Bool) (a0 b0:ByteArray) (a1 b1:Int):abin Tryz.prog σ .eql 121 c (.agg [.lit (.string a0),.lit (.int .i64 a1)]) (.agg [.lit (.string b0),.lit (.int .i64 b1)])=some (.lit (.bool ((decide (a0=b0)) && ((decide (a1=b1)) && true)))):=by kernel_rfl
@[go_sem] theorem Tryz.aeqn121 (σ:Store) (c:Bool) (a0 b0:ByteArray) (a1 b1:Int):abin Tryz.prog σ .neq 121 c (.agg [.lit (.string a0),.lit (.int .i64 a1)]) (.agg [.lit (.string b0),.lit (.int .i64 b1)])=some (.lit (.bool !((decide (a0=b0)) && ((decide (a1=b1)) && true)))):=by kernel_rfl
@[go_sem] theorem Tryz.aeq141 (σ:Store) (c:Bool) (a0 b0:Int) (a1 b1:Int) (a2 b2:Int) (a3 b3:Int) (a4 b4:Int) (a5 b5:Bool) (a6 b6:Bool) (a7 b7:Bool):abin Tryz.prog σ .eql 141 c (.agg [.lit (.int .i64 a0),.lit (.int .i64 a1),.lit (.int .i64 a2),.lit (.int .i64 a3),.lit (.int .i64 a4),.lit (.bool a5),.lit (.bool a6),.lit (.bool a7)]) (.agg [.lit (.int .i64 b0),.lit (.int .i64 b1),.lit (.int .i64 b2),.lit (.int .i64 b3),.lit (.int .i64 b4),.lit (.bool b5),.lit (.bool b6),.lit (.bool b7)])=some (.lit (.bool ((decide (a0=b0)) && ((decide (a1=b1)) && ((decide (a2=b2)) && ((decide (a3=b3)) && ((decide (a4=b4)) && ((a5 == b5) && ((a6 == b6) && ((a7 == b7) && true)))))))))):=by kernel_rfl
@[go_sem] theorem Tryz.aeqn141 (σ:Store) (c:Bool) (a0 b0:Int) (a1 b1:Int) (a2 b2:Int) (a3 b3:Int) (a4 b4:Int) (a5 b5:Bool) (a6 b6:Bool) (a7 b7:Bool):abin Tryz.prog σ .neq 141 c (.agg [.lit (.int .i64 a0),.lit (.int .i64 a1),.lit (.int .i64 a2),.lit (.int .i64 a3),.lit (.int .i64 a4),.lit (.bool a5),.lit (.bool a6),.lit (.bool a7)]) (.agg [.lit (.int .i64 b0),.lit (.int .i64 b1),.lit (.int .i64 b2),.lit (.int .i64 b3),.lit (.int .i64 b4),.lit (.bool b5),.lit (.bool b6),.lit (.bool b7)])=some (.lit (.bool !((decide (a0=b0)) && ((decide (a1=b1)) && ((decide (a2=b2)) && ((decide (a3=b3)) && ((decide (a4=b4)) && ((a5 == b5) && ((a6 == b6) && ((a7 == b7) && true)))))))))):=by kernel_rfl
@[go_sem] theorem Tryz.aeq142 (σ:Store) (c:Bool) (a0 b0:Int) (a1 b1:Int) (a2 b2:Int) (a3 b3:Int) (a4 b4:Int) (a5 b5:Bool) (a6 b6:Bool) (a7 b7:Bool):abin Tryz.prog σ .eql 142 c (.agg [.lit (.int .i64 a0),.lit (.int .i64 a1),.lit (.int .i64 a2),.lit (.int .i64 a3),.lit (.int .i64 a4),.lit (.bool a5),.lit (.bool a6),.lit (.bool a7)]) (.agg [.lit (.int .i64 b0),.lit (.int .i64 b1),.lit (.int .i64 b2),.lit (.int .i64 b3),.lit (.int .i64 b4),.lit (.bool b5),.lit (.bool b6),.lit (.bool b7)])=some (.lit (.bool ((decide (a0=b0)) && ((decide (a1=b1)) && ((decide (a2=b2)) && ((decide (a3=b3)) && ((decide (a4=b4)) && ((a5 == b5) && ((a6 == b6) && ((a7 == b7) && true)))))))))):=by kernel_rfl
@[go_sem] theorem Tryz.aeqn142 (σ:Store) (c:Bool) (a0 b0:Int) (a1 b1:Int) (a2 b2:Int) (a3 b3:Int) (a4 b4:Int) (a5 b5:Bool) (a6 b6:Bool) (a7 b7:Bool):abin Tryz.prog σ .neq 142 c (.agg [.lit (.int .i64 a0),.lit (.int .i64 a1),.lit (.int .i64 a2),.lit (.int .i64 a3),.lit (.int .i64 a4),.lit (.bool a5),.lit (.bool a6),.lit (.bool a7)]) (.agg [.lit (.int .i64 b0),.lit (.int .i64 b1),.lit (.int .i64 b2),.lit (.int .i64 b3),.lit (.int .i64 b4),.lit (.bool b5),.lit (.bool b6),.lit (.bool b7)])=some (.lit (.bool !((decide (a0=b0)) && ((decide (a1=b1)) && ((decide (a2=b2)) && ((decide (a3=b3)) && ((decide (a4=b4)) && ((a5 == b5) && ((a6 == b6) && ((a7 == b7) && true)))))))))):=by kernel_rfl
@[go_sem] theorem Tryz.aeq161 (σ:Store) (c:Bool) (a0 b0:ByteArray) (a1 b1:ByteArray):abin Tryz.prog σ .eql 161 c (.agg [.lit (.string a0),.lit (.string a1)]) (.agg [.lit (.string b0),.lit (.string b1)])=some (.lit (.bool ((decide (a0=b0)) && ((decide (a1=b1)) && true)))):=by kernel_rfl
@[go_sem] theorem Tryz.aeqn161 (σ:Store) (c:Bool) (a0 b0:ByteArray) (a1 b1:ByteArray):abin Tryz.prog σ .neq 161 c (.agg [.lit (.string a0),.lit (.string a1)]) (.agg [.lit (.string b0),.lit (.string b1)])=some (.lit (.bool !((decide (a0=b0)) && ((decide (a1=b1)) && true)))):=by kernel_rfl
@[go_sem] theorem Tryz.aeq224 (σ:Store) (c:Bool) (a0 b0:ByteArray) (a1 b1:Bool):abin Tryz.prog σ .eql 224 c (.agg [.lit (.string a0),.lit (.bool a1)]) (.agg [.lit (.string b0),.lit (.bool b1)])=some (.lit (.bool ((decide (a0=b0)) && ((a1 == b1) && true)))):=by kernel_rfl
@[go_sem] theorem Tryz.aeqn224 (σ:Store) (c:Bool) (a0 b0:ByteArray) (a1 b1:Bool):abin Tryz.prog σ .neq 224 c (.agg [.lit (.string a0),.lit (.bool a1)]) (.agg [.lit (.string b0),.lit (.bool b1)])=some (.lit (.bool !((decide (a0=b0)) && ((a1 == b1) && true)))):=by kernel_rfl
@[go_sem] theorem Tryz.aeq225 (σ:Store) (c:Bool) (a0 b0:ByteArray) (a1 b1:Bool):abin Tryz.prog σ .eql 225 c (.agg [.lit (.string a0),.lit (.bool a1)]) (.agg [.lit (.string b0),.lit (.bool b1)])=some (.lit (.bool ((decide (a0=b0)) && ((a1 == b1) && true)))):=by kernel_rfl
@[go_sem] theorem Tryz.aeqn225 (σ:Store) (c:Bool) (a0 b0:ByteArray) (a1 b1:Bool):abin Tryz.prog σ .neq 225 c (.agg [.lit (.string a0),.lit (.bool a1)]) (.agg [.lit (.string b0),.lit (.bool b1)])=some (.lit (.bool !((decide (a0=b0)) && ((a1 == b1) && true)))):=by kernel_rfl
@[go_sem] theorem Tryz.aeq246 (σ:Store) (c:Bool) (a0 b0:Int) (a1 b1:Int) (a2 b2:Int):abin Tryz.prog σ .eql 246 c (.agg [.lit (.int .i64 a0),.lit (.int .i64 a1),.lit (.int .i64 a2)]) (.agg [.lit (.int .i64 b0),.lit (.int .i64 b1),.lit (.int .i64 b2)])=some (.lit (.bool ((decide (a0=b0)) && ((decide (a1=b1)) && ((decide (a2=b2)) && true))))):=by kernel_rfl
@[go_sem] theorem Tryz.aeqn246 (σ:Store) (c:Bool) (a0 b0:Int) (a1 b1:Int) (a2 b2:Int):abin Tryz.prog σ .neq 246 c (.agg [.lit (.int .i64 a0),.lit (.int .i64 a1),.lit (.int .i64 a2)]) (.agg [.lit (.int .i64 b0),.lit (.int .i64 b1),.lit (.int .i64 b2)])=some (.lit (.bool !((decide (a0=b0)) && ((decide (a1=b1)) && ((decide (a2=b2)) && true))))):=by kernel_rfl
@[go_sem] theorem Tryz.aeq247 (σ:Store) (c:Bool) (a0 b0:Int) (a1 b1:Int) (a2 b2:Int):abin Tryz.prog σ .eql 247 c (.agg [.lit (.int .i64 a0),.lit (.int .i64 a1),.lit (.int .i64 a2)]) (.agg [.lit (.int .i64 b0),.lit (.int .i64 b1),.lit (.int .i64 b2)])=some (.lit (.bool ((decide (a0=b0)) && ((decide (a1=b1)) && ((decide (a2=b2)) && true))))):=by kernel_rfl
@[go_sem] theorem Tryz.aeqn247 (σ:Store) (c:Bool) (a0 b0:Int) (a1 b1:Int) (a2 b2:Int):abin Tryz.prog σ .neq 247 c (.agg [.lit (.int .i64 a0),.lit (.int .i64 a1),.lit (.int .i64 a2)]) (.agg [.lit (.int .i64 b0),.lit (.int .i64 b1),.lit (.int .i64 b2)])=some (.lit (.bool !((decide (a0=b0)) && ((decide (a1=b1)) && ((decide (a2=b2)) && true))))):=by kernel_rfl
@[go_sem] theorem Tryz.aeq267 (σ:Store) (c:Bool) (a0 b0:ByteArray) (a1 b1:Int) (a2 b2:ByteArray) (a3 b3:Bool) (a4 b4:Int):abin Tryz.prog σ .eql 267 c (.agg [.lit (.string a0),.lit (.int .i64 a1),.lit (.string a2),.lit (.bool a3),.lit (.int .i64 a4)]) (.agg [.lit (.string b0),.lit (.int .i64 b1),.lit (.string b2),.lit (.bool b3),.lit (.int .i64 b4)])=some (.lit (.bool (((decide (a0=b0)) && ((decide (a1=b1)) && true)) && ((decide (a2=b2)) && ((a3 == b3) && ((decide (a4=b4)) && true)))))):=by kernel_rfl
@[go_sem] theorem Tryz.aeqn267 (σ:Store) (c:Bool) (a0 b0:ByteArray) (a1 b1:Int) (a2 b2:ByteArray) (a3 b3:Bool) (a4 b4:Int):abin Tryz.prog σ .neq 267 c (.agg [.lit (.string a0),.lit (.int .i64 a1),.lit (.string a2),.lit (.bool a3),.lit (.int .i64 a4)]) (.agg [.lit (.string b0),.lit (.int .i64 b1),.lit (.string b2),.lit (.bool b3),.lit (.int .i64 b4)])=some (.lit (.bool !(((decide (a0=b0)) && ((decide (a1=b1)) && true)) && ((decide (a2=b2)) && ((a3 == b3) && ((decide (a4=b4)) && true)))))):=by kernel_rfl
@[go_sem] theorem Tryz.aeq268 (σ:Store) (c:Bool) (a0 b0:ByteArray) (a1 b1:Int) (a2 b2:ByteArray) (a3 b3:Bool) (a4 b4:Int):abin Tryz.prog σ .eql 268 c (.agg [.lit (.string a0),.lit (.int .i64 a1),.lit (.string a2),.lit (.bool a3),.lit (.int .i64 a4)]) (.agg [.lit (.string b0),.lit (.int .i64 b1),.lit (.string b2),.lit (.bool b3),.lit (.int .i64 b4)])=some (.lit (.bool (((decide (a0=b0)) && ((decide (a1=b1)) && true)) && ((decide (a2=b2)) && ((a3 == b3) && ((decide (a4=b4)) && true)))))):=by kernel_rfl
@[go_sem] theorem Tryz.aeqn268 (σ:Store) (c:Bool) (a0 b0:ByteArray) (a1 b1:Int) (a2 b2:ByteArray) (a3 b3:Bool) (a4 b4:Int):abin Tryz.prog σ .neq 268 c (.agg [.lit (.string a0),.lit (.int .i64 a1),.lit (.string a2),.lit (.bool a3),.lit (.int .i64 a4)]) (.agg [.lit (.string b0),.lit (.int .i64 b1),.lit (.string b2),.lit (.bool b3),.lit (.int .i64 b4)])=some (.lit (.bool !(((decide (a0=b0)) && ((decide (a1=b1)) && true)) && ((decide (a2=b2)) && ((a3 == b3) && ((decide (a4=b4)) && true)))))):=by kernel_rfl
@[go_sem] theorem Tryz.aeq280 (σ:Store) (c:Bool) (a0 b0:ByteArray) (a1 b1:ByteArray):abin Tryz.prog σ .eql 280 c (.agg [.lit (.string a0),.lit (.string a1)]) (.agg [.lit (.string b0),.lit (.string b1)])=some (.lit (.bool ((decide (a0=b0)) && ((decide (a1=b1)) && true)))):=by kernel_rfl
@[go_sem] theorem Tryz.aeqn280 (σ:Store) (c:Bool) (a0 b0:ByteArray) (a1 b1:ByteArray):abin Tryz.prog σ .neq 280 c (.agg [.lit (.string a0),.lit (.string a1)]) (.agg [.lit (.string b0),.lit (.string b1)])=some (.lit (.bool !((decide (a0=b0)) && ((decide (a1=b1)) && true)))):=by kernel_rfl
@[go_sem] theorem Tryz.aeq281 (σ:Store) (c:Bool) (a0 b0:ByteArray) (a1 b1:ByteArray):abin Tryz.prog σ .eql 281 c (.agg [.lit (.string a0),.lit (.string a1)]) (.agg [.lit (.string b0),.lit (.string b1)])=some (.lit (.bool ((decide (a0=b0)) && ((decide (a1=b1)) && true)))):=by kernel_rfl
@[go_sem] theorem Tryz.aeqn281 (σ:Store) (c:Bool) (a0 b0:ByteArray) (a1 b1:ByteArray):abin Tryz.prog σ .neq 281 c (.agg [.lit (.string a0),.lit (.string a1)]) (.agg [.lit (.string b0),.lit (.string b1)])=some (.lit (.bool !((decide (a0=b0)) && ((decide (a1=b1)) && true)))):=by kernel_rfl
@[go_sem] theorem Tryz.aeq299 (σ:Store) (c:Bool) (a0 b0:Int) (a1 b1:Int):abin Tryz.prog σ .eql 299 c (.agg [.lit (.int .i64 a0),.lit (.int .i64 a1)]) (.agg [.lit (.int .i64 b0),.lit (.int .i64 b1)])=some (.lit (.bool ((decide (a0=b0)) && ((decide (a1=b1)) && true)))):=by kernel_rfl
@[go_sem] theorem Tryz.aeqn299 (σ:Store) (c:Bool) (a0 b0:Int) (a1 b1:Int):abin Tryz.prog σ .neq 299 c (.agg [.lit (.int .i64 a0),.lit (.int .i64 a1)]) (.agg [.lit (.int .i64 b0),.lit (.int .i64 b1)])=some (.lit (.bool !((decide (a0=b0)) && ((decide (a1=b1)) && true)))):=by kernel_rfl
@[go_sem] theorem Tryz.aeq300 (σ:Store) (c:Bool) (a0 b0:Int) (a1 b1:Int):abin Tryz.prog σ .eql 300 c (.agg [.lit (.int .i64 a0),.lit (.int .i64 a1)]) (.agg [.lit (.int .i64 b0),.lit (.int .i64 b1)])=some (.lit (.bool ((decide (a0=b0)) && ((decide (a1=b1)) && true)))):=by kernel_rfl
@[go_sem] theorem Tryz.aeqn300 (σ:Store) (c:Bool) (a0 b0:Int) (a1 b1:Int):abin Tryz.prog σ .neq 300 c (.agg [.lit (.int .i64 a0),.lit (.int .i64 a1)]) (.agg [.lit (.int .i64 b0),.lit (.int .i64 b1)])=some (.lit (.bool !((decide (a0=b0)) && ((decide (a1=b1)) && true)))):=by kernel_rfl
@[go_sem] theorem Tryz.aeq310 (σ:Store) (c:Bool) (a0 b0:Int) (a1 b1:ByteArray) (a2 b2:ByteArray):abin Tryz.prog σ .eql 310 c (.agg [.lit (.int .i64 a0),.lit (.string a1),.lit (.string a2)]) (.agg [.lit (.int .i64 b0),.lit (.string b1),.lit (.string b2)])=some (.lit (.bool ((decide (a0=b0)) && ((decide (a1=b1)) && ((decide (a2=b2)) && true))))):=by kernel_rfl
@[go_sem] theorem Tryz.aeqn310 (σ:Store) (c:Bool) (a0 b0:Int) (a1 b1:ByteArray) (a2 b2:ByteArray):abin Tryz.prog σ .neq 310 c (.agg [.lit (.int .i64 a0),.lit (.string a1),.lit (.string a2)]) (.agg [.lit (.int .i64 b0),.lit (.string b1),.lit (.string b2)])=some (.lit (.bool !((decide (a0=b0)) && ((decide (a1=b1)) && ((decide (a2=b2)) && true))))):=by kernel_rfl
@[go_sem] theorem Tryz.aeq311 (σ:Store) (c:Bool) (a0 b0:Int) (a1 b1:ByteArray) (a2 b2:ByteArray):abin Tryz.prog σ .eql 311 c (.agg [.lit (.int .i64 a0),.lit (.string a1),.lit (.string a2)]) (.agg [.lit (.int .i64 b0),.lit (.string b1),.lit (.string b2)])=some (.lit (.bool ((decide (a0=b0)) && ((decide (a1=b1)) && ((decide (a2=b2)) && true))))):=by kernel_rfl
@[go_sem] theorem Tryz.aeqn311 (σ:Store) (c:Bool) (a0 b0:Int) (a1 b1:ByteArray) (a2 b2:ByteArray):abin Tryz.prog σ .neq 311 c (.agg [.lit (.int .i64 a0),.lit (.string a1),.lit (.string a2)]) (.agg [.lit (.int .i64 b0),.lit (.string b1),.lit (.string b2)])=some (.lit (.bool !((decide (a0=b0)) && ((decide (a1=b1)) && ((decide (a2=b2)) && true))))):=by kernel_rfl
@[go_sem] theorem Tryz.aeq341 (σ:Store) (c:Bool) (a0 b0:ByteArray) (a1 b1:Bool):abin Tryz.prog σ .eql 341 c (.agg [.lit (.string a0),.lit (.bool a1)]) (.agg [.lit (.string b0),.lit (.bool b1)])=some (.lit (.bool ((decide (a0=b0)) && ((a1 == b1) && true)))):=by kernel_rfl
@[go_sem] theorem Tryz.aeqn341 (σ:Store) (c:Bool) (a0 b0:ByteArray) (a1 b1:Bool):abin Tryz.prog σ .neq 341 c (.agg [.lit (.string a0),.lit (.bool a1)]) (.agg [.lit (.string b0),.lit (.bool b1)])=some (.lit (.bool !((decide (a0=b0)) && ((a1 == b1) && true)))):=by kernel_rfl
@[go_sem] theorem Tryz.aeq342 (σ:Store) (c:Bool) (a0 b0:ByteArray) (a1 b1:Bool):abin Tryz.prog σ .eql 342 c (.agg [.lit (.string a0),.lit (.bool a1)]) (.agg [.lit (.string b0),.lit (.bool b1)])=some (.lit (.bool ((decide (a0=b0)) && ((a1 == b1) && true)))):=by kernel_rfl
@[go_sem] theorem Tryz.aeqn342 (σ:Store) (c:Bool) (a0 b0:ByteArray) (a1 b1:Bool):abin Tryz.prog σ .neq 342 c (.agg [.lit (.string a0),.lit (.bool a1)]) (.agg [.lit (.string b0),.lit (.bool b1)])=some (.lit (.bool !((decide (a0=b0)) && ((a1 == b1) && true)))):=by kernel_rfl
@[go_sem] theorem Tryz.aeq440 (σ:Store) (c:Bool) (a0 b0:ByteArray) (a1 b1:Int) (a2 b2:Int) (a3 b3:Int):abin Tryz.prog σ .eql 440 c (.agg [.lit (.string a0),.lit (.int .i64 a1),.lit (.int .i64 a2),.lit (.int .i64 a3)]) (.agg [.lit (.string b0),.lit (.int .i64 b1),.lit (.int .i64 b2),.lit (.int .i64 b3)])=some (.lit (.bool ((decide (a0=b0)) && ((decide (a1=b1)) && ((decide (a2=b2)) && ((decide (a3=b3)) && true)))))):=by kernel_rfl
@[go_sem] theorem Tryz.aeqn440 (σ:Store) (c:Bool) (a0 b0:ByteArray) (a1 b1:Int) (a2 b2:Int) (a3 b3:Int):abin Tryz.prog σ .neq 440 c (.agg [.lit (.string a0),.lit (.int .i64 a1),.lit (.int .i64 a2),.lit (.int .i64 a3)]) (.agg [.lit (.string b0),.lit (.int .i64 b1),.lit (.int .i64 b2),.lit (.int .i64 b3)])=some (.lit (.bool !((decide (a0=b0)) && ((decide (a1=b1)) && ((decide (a2=b2)) && ((decide (a3=b3)) && true)))))):=by kernel_rfl
@[go_sem] theorem Tryz.aeq441 (σ:Store) (c:Bool) (a0 b0:ByteArray) (a1 b1:Int) (a2 b2:Int) (a3 b3:Int):abin Tryz.prog σ .eql 441 c (.agg [.lit (.string a0),.lit (.int .i64 a1),.lit (.int .i64 a2),.lit (.int .i64 a3)]) (.agg [.lit (.string b0),.lit (.int .i64 b1),.lit (.int .i64 b2),.lit (.int .i64 b3)])=some (.lit (.bool ((decide (a0=b0)) && ((decide (a1=b1)) && ((decide (a2=b2)) && ((decide (a3=b3)) && true)))))):=by kernel_rfl
@[go_sem] theorem Tryz.aeqn441 (σ:Store) (c:Bool) (a0 b0:ByteArray) (a1 b1:Int) (a2 b2:Int) (a3 b3:Int):abin Tryz.prog σ .neq 441 c (.agg [.lit (.string a0),.lit (.int .i64 a1),.lit (.int .i64 a2),.lit (.int .i64 a3)]) (.agg [.lit (.string b0),.lit (.int .i64 b1),.lit (.int .i64 b2),.lit (.int .i64 b3)])=some (.lit (.bool !((decide (a0=b0)) && ((decide (a1=b1)) && ((decide (a2=b2)) && ((decide (a3=b3)) && true)))))):=by kernel_rfl
attribute [go_sem] Tryz.underlying1 Tryz.underlying2 Tryz.underlying3 Tryz.underlying4 Tryz.underlying5 Tryz.underlying6 Tryz.underlying9 Tryz.underlying10 Tryz.underlying11 Tryz.underlying12 Tryz.underlying15 Tryz.underlying16 Tryz.underlying17 Tryz.underlying20 Tryz.underlying21 Tryz.underlying22 Tryz.underlying27 Tryz.underlying28 Tryz.underlying29 Tryz.underlying30 Tryz.underlying31 Tryz.underlying32 Tryz.underlying33 Tryz.underlying34 Tryz.underlying35 Tryz.underlying36 Tryz.underlying39 Tryz.underlying40 Tryz.underlying41 Tryz.underlying42 Tryz.underlying47 Tryz.underlying48 Tryz.underlying49 Tryz.underlying50 Tryz.underlying51 Tryz.underlying52 Tryz.underlying55 Tryz.underlying56 Tryz.underlying57 Tryz.underlying58 Tryz.underlying59 Tryz.underlying60 Tryz.underlying66 Tryz.underlying67 Tryz.underlying68 Tryz.underlying69 Tryz.underlying70 Tryz.underlying75 Tryz.underlying77 Tryz.underlying78 Tryz.underlying79 Tryz.underlying80 Tryz.underlying81 Tryz.underlying84 Tryz.underlying85 Tryz.underlying86 Tryz.underlying87 Tryz.underlying94 Tryz.underlying96 Tryz.underlying97 Tryz.underlying98 Tryz.underlying99 Tryz.underlying100 Tryz.underlying103 Tryz.underlying105 Tryz.underlying106 Tryz.underlying107 Tryz.underlying110 Tryz.underlying113 Tryz.underlying114 Tryz.underlying119 Tryz.underlying123 Tryz.underlying124 Tryz.underlying125 Tryz.underlying127 Tryz.underlying128 Tryz.underlying129 Tryz.underlying130 Tryz.underlying131 Tryz.underlying133 Tryz.underlying134 Tryz.underlying135 Tryz.underlying136 Tryz.underlying137 Tryz.underlying138 Tryz.underlying139 Tryz.underlying140 Tryz.underlying144 Tryz.underlying145 Tryz.underlying146 Tryz.underlying147 Tryz.underlying148 Tryz.underlying149 Tryz.underlying150 Tryz.underlying151 Tryz.underlying152 Tryz.underlying153 Tryz.underlying154 Tryz.underlying155 Tryz.underlying156 Tryz.underlying157 Tryz.underlying158 Tryz.underlying159 Tryz.underlying160 Tryz.underlying162 Tryz.underlying166 Tryz.underlying167 Tryz.underlying168 Tryz.underlying169 Tryz.underlying170 Tryz.underlying171 Tryz.underlying172 Tryz.underlying173 Tryz.underlying174 Tryz.underlying175 Tryz.underlying178 Tryz.underlying179 Tryz.underlying180 Tryz.underlying181 Tryz.underlying182 Tryz.underlying183 Tryz.underlying184 Tryz.underlying185 Tryz.underlying186 Tryz.underlying188 Tryz.underlying190 Tryz.underlying191 Tryz.underlying194 Tryz.underlying195 Tryz.underlying198 Tryz.underlying200 Tryz.underlying201 Tryz.underlying202 Tryz.underlying203 Tryz.underlying204 Tryz.underlying205 Tryz.underlying206 Tryz.underlying207 Tryz.underlying208 Tryz.underlying209 Tryz.underlying210 Tryz.underlying213 Tryz.underlying214 Tryz.underlying215 Tryz.underlying216 Tryz.underlying217 Tryz.underlying218 Tryz.underlying219 Tryz.underlying220 Tryz.underlying221 Tryz.underlying222 Tryz.underlying223 Tryz.underlying226 Tryz.underlying227 Tryz.underlying229 Tryz.underlying230 Tryz.underlying231 Tryz.underlying233 Tryz.underlying234 Tryz.underlying235 Tryz.underlying237 Tryz.underlying238 Tryz.underlying239 Tryz.underlying240 Tryz.underlying241 Tryz.underlying242 Tryz.underlying245 Tryz.underlying248 Tryz.underlying249 Tryz.underlying250 Tryz.underlying251 Tryz.underlying252 Tryz.underlying253 Tryz.underlying254 Tryz.underlying255 Tryz.underlying256 Tryz.underlying257 Tryz.underlying258 Tryz.underlying259 Tryz.underlying260 Tryz.underlying261 Tryz.underlying262 Tryz.underlying263 Tryz.underlying264 Tryz.underlying265 Tryz.underlying266 Tryz.underlying269 Tryz.underlying270 Tryz.underlying271 Tryz.underlying272 Tryz.underlying273 Tryz.underlying275 Tryz.underlying276 Tryz.underlying278 Tryz.underlying279 Tryz.underlying282 Tryz.underlying283 Tryz.underlying284 Tryz.underlying287 Tryz.underlying290 Tryz.underlying291 Tryz.underlying292 Tryz.underlying293 Tryz.underlying294 Tryz.underlying295 Tryz.underlying296 Tryz.underlying297 Tryz.underlying298 Tryz.underlying302 Tryz.underlying303 Tryz.underlying304 Tryz.underlying305 Tryz.underlying306 Tryz.underlying307 Tryz.underlying308 Tryz.underlying309 Tryz.underlying312 Tryz.underlying313 Tryz.underlying314 Tryz.underlying315 Tryz.underlying317 Tryz.underlying318 Tryz.underlying319 Tryz.underlying321 Tryz.underlying322 Tryz.underlying323 Tryz.underlying324 Tryz.underlying325 Tryz.underlying326 Tryz.underlying327 Tryz.underlying332 Tryz.underlying333 Tryz.underlying334 Tryz.underlying335 Tryz.underlying336 Tryz.underlying337 Tryz.underlying338 Tryz.underlying339 Tryz.underlying340 Tryz.underlying343 Tryz.underlying344 Tryz.underlying345 Tryz.underlying346 Tryz.underlying347 Tryz.underlying348 Tryz.underlying349 Tryz.underlying350 Tryz.underlying351 Tryz.underlying352 Tryz.underlying353 Tryz.underlying354 Tryz.underlying355 Tryz.underlying357 Tryz.underlying358 Tryz.underlying359 Tryz.underlying360 Tryz.underlying361 Tryz.underlying362 Tryz.underlying363 Tryz.underlying365 Tryz.underlying366 Tryz.underlying367 Tryz.underlying368 Tryz.underlying369 Tryz.underlying370 Tryz.underlying371 Tryz.underlying372 Tryz.underlying373 Tryz.underlying374 Tryz.underlying375 Tryz.underlying376 Tryz.underlying377 Tryz.underlying378 Tryz.underlying379 Tryz.underlying380 Tryz.underlying381 Tryz.underlying382 Tryz.underlying383 Tryz.underlying384 Tryz.underlying385 Tryz.underlying387 Tryz.underlying388 Tryz.underlying389 Tryz.underlying390 Tryz.underlying391 Tryz.underlying392 Tryz.underlying393 Tryz.underlying394 Tryz.underlying395 Tryz.underlying396 Tryz.underlying397 Tryz.underlying398 Tryz.underlying399 Tryz.underlying400 Tryz.underlying401 Tryz.underlying402 Tryz.underlying403 Tryz.underlying404 Tryz.underlying409 Tryz.underlying410 Tryz.underlying411 Tryz.underlying412 Tryz.underlying413 Tryz.underlying414 Tryz.underlying415 Tryz.underlying416 Tryz.underlying417 Tryz.underlying418 Tryz.underlying419 Tryz.underlying420 Tryz.underlying421 Tryz.underlying422 Tryz.underlying423 Tryz.underlying424 Tryz.underlying425 Tryz.underlying426 Tryz.underlying427 Tryz.underlying428 Tryz.underlying430 Tryz.underlying432 Tryz.underlying433 Tryz.underlying434 Tryz.underlying435 Tryz.underlying436 Tryz.underlying438 Tryz.underlying439 Tryz.underlying442 Tryz.underlying443 Tryz.underlying444 Tryz.underlying445 Tryz.underlying446 Tryz.underlying447 Tryz.underlying448 Tryz.underlying449 Tryz.underlying450 Tryz.underlying451 Tryz.underlying452 Tryz.underlying453 Tryz.underlying456 Tryz.underlying457 Tryz.underlying459 Tryz.underlying460 Tryz.underlying461 Tryz.underlying462 Tryz.underlying463 Tryz.underlying464 Tryz.underlying465 Tryz.underlying466 Tryz.underlying468 Tryz.underlying469 Tryz.underlying470 Tryz.underlying471 Tryz.underlying472 Tryz.underlying475 Tryz.underlying476 Tryz.underlying478 Tryz.underlying479 Tryz.underlying480 Tryz.underlying481 Tryz.underlying482 Tryz.underlying487 Tryz.underlying489 Tryz.underlying490 Tryz.underlying491 Tryz.underlying492 Tryz.underlying493 Tryz.underlying494 Tryz.underlying495 Tryz.underlying496 Tryz.underlying497 Tryz.underlying500 Tryz.underlying501 Tryz.underlying502 Tryz.underlying503 Tryz.underlying504 Tryz.underlying505 Tryz.underlying507 Tryz.underlying508 Tryz.underlying509 Tryz.underlying510 Tryz.underlying512 Tryz.underlying513 Tryz.underlying514 Tryz.underlying515 Tryz.underlying517 Tryz.underlying518 Tryz.underlying519 Tryz.underlying520 Tryz.underlying521 Tryz.underlying522 Tryz.underlying523 Tryz.underlying524 Tryz.underlying525 Tryz.underlying526 Tryz.underlying527 Tryz.underlying528 Tryz.underlying529 Tryz.underlying530 Tryz.underlying531 Tryz.underlying532 Tryz.underlying533 Tryz.underlying534 Tryz.underlying535 Tryz.underlying536 Tryz.underlying537 Tryz.underlying538 Tryz.underlying539 Tryz.underlying540 Tryz.underlying541 Tryz.underlying542 Tryz.underlying543 Tryz.underlying544 Tryz.underlying545 Tryz.underlying546 Tryz.underlying547 Tryz.underlying548 Tryz.underlying549 Tryz.underlying550 Tryz.underlying551 Tryz.underlying552 Tryz.underlying553 Tryz.underlying554 Tryz.underlying555 Tryz.underlying556 Tryz.underlying557 Tryz.underlying558 Tryz.underlying559 Tryz.underlying560 Tryz.underlying561 Tryz.underlying562 Tryz.underlying563 Tryz.underlying565 Tryz.underlying566 Tryz.underlying567 Tryz.underlying568 Tryz.underlying569 Tryz.underlying570 Tryz.underlying571 Tryz.underlying572 Tryz.underlying573 Tryz.underlying574 Tryz.underlying575 Tryz.underlying576 Tryz.underlying577 Tryz.underlying578 Tryz.underlying579 Tryz.underlying580 Tryz.underlying581 Tryz.underlying582 Tryz.underlying583 Tryz.underlying584 Tryz.underlying585 Tryz.underlying586 Tryz.underlying587 Tryz.underlying588 Tryz.underlying589 Tryz.underlying590 Tryz.underlying591 Tryz.underlying592 Tryz.underlying593 Tryz.underlying594 Tryz.underlying595 Tryz.underlying597 Tryz.underlying598 Tryz.underlying600 Tryz.underlying603 Tryz.underlying604 Tryz.underlying605 Tryz.underlying606 Tryz.underlying608 Tryz.underlying609 Tryz.underlying610 Tryz.underlying611 Tryz.underlying612 Tryz.underlying613 Tryz.underlying614 Tryz.underlying615 Tryz.underlying616 Tryz.underlying617 Tryz.underlying618 Tryz.underlying619 Tryz.underlying620 Tryz.underlying621 Tryz.underlying622 Tryz.underlying623 Tryz.underlying624 Tryz.underlying625 Tryz.underlying626 Tryz.underlying627 Tryz.underlying628 Tryz.underlying629 Tryz.underlying630 Tryz.underlying631 Tryz.underlying632 Tryz.underlying633 Tryz.underlying634 Tryz.underlying635 Tryz.underlying636 Tryz.underlying637 Tryz.underlying638 Tryz.underlying640 Tryz.underlying641 Tryz.underlying642 Tryz.underlying644 Tryz.underlying646 Tryz.underlying649 Tryz.underlying650 Tryz.underlying651 Tryz.underlying652 Tryz.underlying653 Tryz.underlying654 Tryz.underlying655 Tryz.underlying656 Tryz.underlying657 Tryz.underlying658 Tryz.underlying659 Tryz.underlying660 Tryz.underlying661 Tryz.underlying662 Tryz.underlying663 Tryz.underlying664 Tryz.underlying667 Tryz.underlying668 Tryz.underlying669 Tryz.underlying670 Tryz.underlying671 Tryz.underlying672 Tryz.underlying673 Tryz.underlying674 Tryz.underlying677 Tryz.underlying678 Tryz.underlying679 Tryz.underlying680 Tryz.underlying681 Tryz.underlying684 Tryz.underlying687 Tryz.underlying688 Tryz.underlying689 Tryz.underlying690 Tryz.underlying691
theorem Tryz.mixed:Tryz.prog.follows .mixedOrders=true:=by kernel_rfl
end Go.Proofs
end

section
set_option linter.all false
namespace Go.Ab
open Go.RowKit (Below)
section
variable {P:Program} {o:Oper} {α:Operand→AVal} {σ:Store} {Kk:AVal→Store→Prop}
theorem AOp_makeSlice {t e:TypeId} {n by_:Nat} {x y:Operand} {z:Value} {k1 k2:IntKind} (ho:o.op=.makeSlice t x y) (hse:aj_ P t=some e) (hte:aC_ P e=some (1,by_)) (hz:bA_ P e=some z) (hz1:z.cells=#[z])
  (hx:α x=.lit (.int k1 n)) (hy:α y=.lit (.int k2 n)) (hn:by_ * n≤281474976710656) (hk:∀ i,σ.heap i=none→Kk (.msl i 1 0 n) (σ.set i (.cells (List.replicate n (.lit z))))):AOp P o α σ Kk:=by
 obtain ⟨dst,op,ty,pos,after,guard⟩:=o
 obtain rfl:op=_:=ho
 intro κ ev hI hxx
 obtain ⟨i,z',hi,hz',hisz,hiby,hzs,hsz,hby⟩:=a4_ hte
 have hts:P.underlying t=some (.slice e):=by
  unfold aj_ at hse
  split at hse
  ·rename_i e' he';obtain rfl:=Option.some.inj hse;exact he'
  ·cases hse
 have hvx:=hxx x (by simp [Op.operands])
 have hvy:=hxx y (by simp [Op.operands])
 rw [hx] at hvx
 rw [hy] at hvy
 have ezz:z'=z:=by
  unfold bA_ at hz
  rw [hi] at hz
  simpa [hz'] using hz
 subst ezz
 have h63:n≤9223372036854775807:=by
  have:n≤by_ * n:=Nat.le_mul_of_pos_left _ hby
  omega
 have hrun:=run_make_row' (P:=P) t e z' by_ hts (by rw [hi];simp [hz',hisz,hiby]) hz1 k1 k2 n hn h63 κ.w
 obtain ⟨oi,hoi,hfree⟩:=hI.fresh
 have hsize:(madeCells #[z'] n).size=n:=by simp [madeCells]
 obtain ⟨κ',hw,hle,hρ,hI'⟩:=hI.alloc oi hoi (.cells (List.replicate n (.lit z'))) (.cells (madeCells #[z'] n) e) fun κ' hle hh _=>⟨_,e,hh,by rw [hsize];simp,fun j hj=>by
  have hj':j < n:=by simpa using hj
  have:(madeCells #[z'] n).getD j undef=z':=by simp [madeCells,hj',Nat.mod_one]
  rw [this,List.getElem_replicate]
  exact .lit _⟩
 have hheap:κ'.w.heap[κ.w.heap.size]?=some (.cells (madeCells #[z'] n) e (0,0)):=by rw [hw];exact heap_alloc_new _ _
 refine a6_ rfl ⟨_,_,by rw [hvx.litInv,hvy.litInv];exact hrun,κ',.msl oi 1 0 n,_,hw,hle,hI',.msl oi 1 0 n κ.w.heap.size n n e hρ (Nat.le_refl _) (by unfold World.shape?;rw [hheap];simp [hsize]) (by omega),hk oi hfree⟩
theorem freeze {κ:K} (hI:Inv κ σ) {so sz len:Nat} {cs l:List AVal} {v:Value} (hv:Rv κ (.msl so sz 0 len) v) (hh:σ.heap so=some (.cells cs)) (hl:cs.take (len * sz)=flat l) (hn:l.length=len) (hs:∀ x∈l,x.cells.length=sz) :
  ∃ κ',κ'.w=κ.w∧κ.Le κ'∧Inv κ' (σ.del so)∧Rv κ' (.sl sz l false) v:=by
 subst hn
 have hfl:=aZ_ hs
 generalize v=u at hv
 cases hv with
 |msl _ _ _ _ b cap n el hb hlc hsh hcap =>
 obtain ⟨b',hb',hbase,hIb,c,el',hheap,hcl,hcv⟩:=hI.heap so _ hh
 rw [hb] at hb'
 obtain rfl:=Option.some.inj hb'
 have hlen:l.length * sz≤cs.length:=by
  have:=congrArg List.length hl
  rw [List.length_take,hfl] at this
  omega
 have hle:κ.Le { κ with I:=fun k=>if k=b then l.length * sz else κ.I k } :=
  ⟨rfl,Below.refl _ _,fun _ _ h=>h,fun _ _ h=>h,fun _ _ h=>h,fun k=>by
   show _≤(if k=b then _ else _)
   split
   ·rename_i hk;rw [hk,hIb];exact Nat.zero_le _
   ·exact Nat.le_refl _,fun _ _ _ _ h=>h,Nat.le_refl _,fun k hk=>if_neg (by omega)⟩
 refine ⟨{ κ with I:=fun k=>if k=b then l.length * sz else κ.I k },rfl,hle,?_,?_⟩
 ·have hne:∀ i x,(σ.del so).heap i=some x→i≠so∧σ.heap i=some x:=fun i x hx=>by
   by_cases hi:i=so
   ·rw [hi,Store.del_get] at hx;cases hx
   ·rw [Store.del_ne _ hi] at hx;exact ⟨hi,hx⟩
  refine ⟨hI.glob,hI.base,fun i x hx=>?_,fun i i' x x' k hx hx'=>hI.inj i i' x x' k (hne _ _ hx).2 (hne _ _ hx').2,fun t q ht=>?_,fun t t' q q' u u' k=>hI.tokinj t t' q q' u u' k,fun t q u k i x ht hu hk hx=>hI.tokobj t q u k i x ht hu hk (hne _ _ hx).2,hI.frO,hI.frT,fun k hk=>?_⟩
  ·obtain ⟨hi,hx'⟩:=hne _ _ hx
   obtain ⟨k,hk,hkb,hkI,hR⟩:=hI.heap i x hx'
   have hkne:k≠b:=fun hh'=>hi (hI.inj i so x _ b hx' hh (by rw [hk,hh']) hb)
   exact ⟨k,hk,hkb,by show (if k=b then _ else _)=_;rw [if_neg hkne];exact hkI,hR.mono hle rfl⟩
  ·obtain ⟨u,hu,hok⟩:=hI.tok t q ht
   refine ⟨u,hu,hok.mono hle fun k hk=>⟨rfl,?_⟩⟩
   show (if k=b then _ else _)=_
   rw [if_neg (fun hh'=>hI.tokobj t q u k so _ ht hu hk hh (by rw [hb,hh']))]
  ·show (if k=b then _ else _)=_
   have:b < κ.w.heap.size:=(Array.getElem?_eq_some_iff.1 hheap).1
   have hk':κ.w.heap.size≤k:=hk
   rw [if_neg (by omega)]
   exact hI.frI k hk
 ·refine .sl sz l false b 0 cap (fun k=>c.getD k undef) hlc (by simp) hs (fun k hk=>?_) (fun k hk=>?_)
  ·refine ⟨?_,?_⟩
   ·show _ < (if b=b then _ else _)
    rw [if_pos rfl];omega
   ·show κ.w.cell? _=_
    rw [cell_of_row _ _ _ _ _ _ hheap]
    simp [show k < c.size by omega]
  ·have e1:(flat l)[k]=cs[k]'(by omega):=by
    have h1:(cs.take (l.length * sz))[k]?=(flat l)[k]?:=by rw [hl]
    rw [List.getElem?_take,if_pos (by omega),List.getElem?_eq_getElem hk,List.getElem?_eq_getElem (show k < cs.length by omega)] at h1
    exact (Option.some.inj h1).symm
   rw [e1]
   exact (hcv k (by omega)).mono hle
theorem AOp_copyM {s x:Operand} {t e:TypeId} {sz by_:Nat} {l2:List AVal}
  (ho:o.op=.call { callee:=.builtin .append,args:=#[s,x],argTypes:=#[t,t] }) (hse:aj_ P t=some e) (hte:aC_ P e=some (sz,by_))
  (hs:α s=.sl sz [] true) (hx:slOf (α x)=some (sz,l2)) (hne:l2≠[]) (hlen:l2.length * by_≤140737488355328)
  (hk:∀ o',σ.heap o'=none→Kk (.msl o' sz 0 l2.length) (σ.set o' (.cells (flat l2)))):AOp P o α σ Kk:=by
 obtain ⟨dst,op,ty,pos,after,guard⟩:=o
 obtain rfl:op=.call { callee:=.builtin .append,args:=#[s,x],argTypes:=#[t,t] }:=ho
 intro κ ev hI hxx
 obtain ⟨i,z,hi,hz,hisz,hiby,hzs,hsz,hby⟩:=a4_ hte
 subst hisz
 subst hiby
 have hts:P.underlying t=some (.slice e):=by
  unfold aj_ at hse
  split at hse
  ·rename_i e' he';obtain rfl:=Option.some.inj hse;exact he'
  ·cases hse
 have hvs:=hxx s (by simp [Op.operands,Call.operands])
 have hvx:=hxx x (by simp [Op.operands,Call.operands])
 have hm:0 < l2.length:=List.length_pos_iff.2 hne
 have hle47:l2.length≤140737488355328:=Nat.le_trans (Nat.le_mul_of_pos_right _ hby) hlen
 obtain ⟨ad,cap2,vs,hevx,hl2sz,hvsr,hcu⟩:∃ ad cap2 vs,ev x=.slice (some ad) l2.length cap2∧(∀ y∈l2,y.cells.length=i.size)∧RvC κ (flat l2) vs∧∀ j u,vs[j]?=some u→κ.w.cell? (ad.add j)=some u:=by
  obtain ⟨a,cap,us2,hev,hsz',hr,hc⟩:=c9_ (c8_ hx hvx)
  rcases hc with ⟨_,h0,_⟩ | ⟨ad,rfl,hcu⟩
  ·exact absurd h0 hne
  ·exact ⟨ad,cap,us2,hev,hsz',hr,hcu⟩
 have hfl2:vs.length=l2.length * i.size:=by rw [← hvsr.1,aZ_ hl2sz]
 obtain ⟨o',ho',hfr⟩:=hI.fresh
 have hd:=hI.drew
 have fresh:∀ (cap':Nat),l2.length≤cap'→Post κ Kk (.slice (some ⟨κ.w.heap.size,0,none⟩) l2.length cap') (κ.w.drew.alloc (.cells (vs.toArray ++ Builtin.zeroCells z.cells (cap' - l2.length)) e)):=by
  intro cap' hcap
  have hsize:(vs.toArray ++ Builtin.zeroCells z.cells (cap' - l2.length)).size=cap' * i.size:=by
   simp only [Array.size_append,List.size_toArray,size_zeroCells,hzs,hfl2,← Nat.add_mul]
   congr 1;omega
  obtain ⟨κ',hw,hle,hρ,hI'⟩:=hd.2.alloc o' ho' (.cells (flat l2)) (.cells (vs.toArray ++ Builtin.zeroCells z.cells (cap' - l2.length)) e) fun κ' hle hh _=>by
   refine ⟨_,e,hh,?_,fun j hj=>?_⟩
   ·rw [hsize,hvsr.1,hfl2];exact Nat.mul_le_mul_right _ hcap
   ·have hj':j < vs.length:=by rw [← hvsr.1];exact hj
    have e1:(vs.toArray ++ Builtin.zeroCells z.cells (cap' - l2.length)).getD j undef=vs[j]:=by
     simp only [Array.getD_eq_getD_getElem?]
     rw [Array.getElem?_append_left (by simpa using hj')]
     simp [hj']
    rw [e1]
    exact (hvsr.2 j hj hj').mono (hd.1.trans hle)
  have hheap:κ'.w.heap[κ.w.heap.size]?=some (.cells (vs.toArray ++ Builtin.zeroCells z.cells (cap' - l2.length)) e (0,0)):=by
   rw [hw];exact Go.heap_alloc_new κ.w.drew _
  exact ⟨κ',.msl o' i.size 0 l2.length,_,hw,hd.1.trans hle,hI',.msl o' i.size 0 _ κ.w.heap.size cap' _ e hρ hcap (by unfold World.shape?;rw [hheap]) (by rw [hsize];omega),hk o' hfr⟩
 refine a6_ (s:=Builtin.append_ #[t,t] ty #[ev s,ev x]) (by simp [execOp,resolve,invoke,builtin]) ?_
 rw [hs] at hvs
 have hnil:(ev s=.slice none 0 0)∨∃ b,ev s=.slice (some b) 0 0:=by
  rcases hvs.slInv with ⟨a,h1,h2⟩ | ⟨b,off,cap,vals,h1,hcap,htt,_⟩
  ·cases a with
   |none=>exact .inl h1
   |some b=>exact .inr ⟨b,h1⟩
  ·right
   have:=htt rfl
   simp at this
   subst this
   exact ⟨_,h1⟩
 rw [hevx]
 rcases hnil with h0 | ⟨b,h0⟩
 ·rw [h0]
  have hr:=run_append_nil (P:=P) κ.w t ty e i z hts hi hz ad l2.length cap2 vs hfl2 hcu hm (by omega) (by omega)
  exact ⟨_,_,hr,fresh _ (grownCap_ge _ _ _ _)⟩
 ·rw [h0]
  have hr:=run_append_grow (P:=P) κ.w t ty e i z hts hi hz b 0 0 [] (by simp) (by simp) ad l2.length cap2 vs hfl2 hcu (by omega) (by omega) (growslice_fits (by omega) (by simpa using hlen))
  simp only [Nat.zero_add] at hr
  refine ⟨_,_,hr,?_⟩
  have:=fresh (grownCap κ.w l2.length 0 e) (grownCap_ge _ _ _ _)
  simpa using this
theorem mu_ {t yt:TypeId} {x y:Operand} {sz e:Nat} {l:List AVal} (ho:o.op=.binOp .eql t x y yt) (hse:aj_ P t=some e) (hx:slOf (α x)=some (sz,l)) (hl:l≠[]) (hy:α y=.lit (.slice none 0 0)) (hk:Kk (.lit (.bool false)) σ):AOp P o α σ Kk:=by
 obtain ⟨dst,op,ty,pos,after,guard⟩:=o
 obtain rfl:op=_:=ho
 intro κ ev hI hxx
 have hvx:=hxx x (by simp [Op.operands])
 have hvy:=hxx y (by simp [Op.operands])
 rw [hy] at hvy
 have hts:P.underlying t=some (.slice e):=by
  unfold aj_ at hse
  split at hse
  ·rename_i e' he';obtain rfl:=Option.some.inj hse;exact he'
  ·cases hse
 obtain ⟨a,cap,us,hev,_,_,hc⟩:=c9_ (c8_ hx hvx)
 rcases hc with ⟨_,h0,_⟩ | ⟨ad,rfl,_⟩
 ·exact absurd h0 hl
 ·have hb:(binOp .eql t (ev x) (ev y)).run P κ.w=.ok (.bool false) κ.w:=by
   have e1:binOp .eql t (ev x) (ev y)=(do pure (.bool (← Op.equal t (ev x) (ev y)))):=by
    rw [hev,hvy.litInv]
    rfl
   rw [e1,hev,hvy.litInv]
   simp only [Sem.run_bind,run_equal_slice_nil κ.w t e (some ad) l.length cap hts,Result.andThen_ok,Sem.run_pure]
   rfl
  have hg:(eqGuard .eql t x y (ev x) (ev y)).run P κ.w=.ok () κ.w:=bk_ (by rintro u v ⟨h1,_⟩;rw [hev] at h1;cases h1) (by intro h1;rw [hev] at h1;cases h1)
  refine a6_ (s:=do eqGuard .eql t x y (ev x) (ev y);binOp .eql t (ev x) (ev y)) (by simp [execOp]) ⟨.bool false,κ.w,?_,κ,.lit (.bool false),σ,rfl,.refl κ,hI,.lit _,hk⟩
  simp only [Sem.run_bind,hg,Result.andThen_ok,hb]
end
end Go.Ab
end

section
set_option linter.all false
namespace Go.Ab
abbrev vInt (n:Int):AVal:=.lit (.int .i64 n)
abbrev gL_ (b:Bool):AVal:=.lit (.bool b)
abbrev vStr (s:ByteArray):AVal:=.lit (.string s)
def bAnd (k:IntKind) (a b:Int):Int:=k.wrap (BitVec.ofInt k.bits a &&& BitVec.ofInt k.bits b).toNat
def bOr (k:IntKind) (a b:Int):Int:=k.wrap (BitVec.ofInt k.bits a ||| BitVec.ofInt k.bits b).toNat
def bXor (k:IntKind) (a b:Int):Int:=k.wrap (BitVec.ofInt k.bits a ^^^ BitVec.ofInt k.bits b).toNat
@[go_sem] theorem x4_ (e:Env) (d k:Nat) (a:AVal):upd e d a k=if k=d then a else e k:=rfl
@[go_sem] theorem x3_ (k:Nat):emp k=.any:=rfl
@[go_sem] theorem iI_ (k:Nat):fC_ k []=emp:=rfl
@[go_sem] theorem ha_ (k:Nat) (a:AVal) (l:List AVal):fC_ k (a :: l)=upd (fC_ (k + 1) l) k a:=rfl
@[go_sem] theorem wV_ (e:Env) (t:Tmp):aev e (.tmp t)=e t:=rfl
@[go_sem] theorem wR_ (e:Env) (k:IntKind) (n:Int):aev e (.const (.int k n))=.lit (.int k n):=rfl
@[go_sem] theorem wl_ (e:Env) (b:Bool):aev e (.const (.bool b))=.lit (.bool b):=rfl
@[go_sem] theorem wU_ (e:Env) (s:ByteArray):aev e (.const (.string s))=.lit (.string s):=rfl
@[go_sem] theorem wT_ (e:Env) (a:Option Addr):aev e (.const (.pointer a))=.lit (.pointer a):=rfl
@[go_sem] theorem ul_ (e:Env) (a:Option Addr) (n c:Nat):aev e (.const (.slice a n c))=.lit (.slice a n c):=rfl
@[go_sem] theorem wS_ (e:Env) (r:Option Nat):aev e (.const (.map r))=.lit (.map r):=rfl
@[go_sem] theorem rV_ (e:Env):aev e (.const .nilFunc)=.lit .nilFunc:=rfl
@[go_sem] theorem q6_ (e:Env):aev e (.const .nilIface)=.lit .nilIface:=rfl
@[go_sem] theorem wm_ (e:Env) (f:FuncId):aev e (.func f)=.lit (.func (.func f) #[] #[]):=rfl
section
variable (P:Program) (α:Operand→AVal) (σ:Store)
@[go_sem] theorem uu_ (x:Operand):aval P (.move x) α σ=some (α x):=rfl
@[go_sem] theorem r4_ (x:Operand):aval P (.assign x) α σ=some (α x):=rfl
@[go_sem] theorem uv_ (c a b:Operand):aval P (.pick c a b) α σ=match α c with | .lit (.bool t)=>some (fy_ t (α a) (α b)) | _=>none:=rfl
@[go_sem] theorem pw_ (x:Operand):aval P (.nilCheck x) α σ=anil (α x):=rfl
@[go_sem] theorem t9_ (op:BinOp) (t yt:TypeId) (x y:Operand):aval P (.binOp op t x y yt) α σ=abin P σ op t (bC_ x || bC_ y) (α x) (α y):=rfl
@[go_sem] theorem uw_ (op:UnOp) (t:TypeId) (x:Operand):aval P (.unOp op t x) α σ=mI_ op (α x):=rfl
@[go_sem] theorem rf_ (s d:TypeId) (x:Operand):aval P (.convert s d x) α σ=dQ_ P s d (α x):=rfl
@[go_sem] theorem pj_ (s:TypeId) (x:Operand) (f:Nat):aval P (.fieldAddr s x f) α σ=cJ_ P s (α x) f:=rfl
@[go_sem] theorem ub_ (t:TypeId) (x:Operand) (f:Nat):aval P (.field t x f) α σ=g1_ P t (α x) f:=rfl
@[go_sem] theorem pk_ (t:TypeId) (x i:Operand):aval P (.indexAddr t x i) α σ=cK_ P t (α x) (α i):=rfl
@[go_sem] theorem uc_ (t:TypeId) (x i:Operand):aval P (.index t x i) α σ=g2_ P t (α x) (α i):=rfl
@[go_sem] theorem ut_ (t:TypeId) (x:Operand):aval P (.load t x) α σ=cS_ P σ t (α x):=rfl
@[go_sem] theorem rg_ (x:Operand) (i:Nat):aval P (.extract x i) α σ=match α x with | .tup vs=>vs[i]? | _=>none:=rfl
@[go_sem] theorem ud_ (t:TypeId) (x:Operand) (lo hi mx:Option Operand):aval P (.slice t x lo hi mx) α σ=iq_ P t (α x) (lo.map α) (hi.map α) (mx.map α):=rfl
@[go_sem] theorem pv_ (fn:Fn) (f c:Array Operand):aval P (.makeFunc fn f c) α σ=some (.fn fn (f.toList.map α) (c.toList.map α)):=rfl
@[go_sem] theorem ki_ (t:TypeId) (x:Operand):aval P (.makeInterface t x) α σ=match P.underlying t with | some (.interface _)=>none | some _=>some (.iface t (α x)) | none=>none:=rfl
@[go_sem] theorem ua_ (t:TypeId) (ps:Array (Nat × Operand)):aval P (.build t ps) α σ=fm_ P t (ps.toList.map fun p=>(p.1,α p.2)):=rfl
@[go_sem] theorem r5_ (t:TypeId) (m k:Operand) (ok:Bool):aval P (.lookup t m k ok) α σ=hC_ P σ t (α m) (α k) ok:=rfl
@[go_sem] theorem mJ_ (x:Operand) (xt t:TypeId) (ok:Bool):aval P (.typeAssert x xt t ok) α σ=dj_ P (α x) t ok:=rfl
@[go_sem] theorem wG_ (x:Operand) (t:TypeId):aval P (.call { callee:=.builtin .len,args:=#[x],argTypes:=#[t] }) α σ=(alen P σ t (α x)).map fun (n:Nat)=>AVal.lit (.int .i64 (n:Int)):=rfl
@[go_sem] theorem wH_ (args:Array Operand) (ts:Array TypeId):aval P (.call { callee:=.builtin .max,args:=args,argTypes:=ts }) α σ=gQ_ true (args.toList.map α):=rfl
@[go_sem] theorem wI_ (args:Array Operand) (ts:Array TypeId):aval P (.call { callee:=.builtin .min,args:=args,argTypes:=ts }) α σ=gQ_ false (args.toList.map α):=rfl
@[go_sem] theorem un_ (k k':IntKind) (x y:Int):gQ_ true [.lit (.int k x),.lit (.int k' y)]=some (.lit (.int k (max x y))):=rfl
@[go_sem] theorem uo_ (k k':IntKind) (x y:Int):gQ_ false [.lit (.int k x),.lit (.int k' y)]=some (.lit (.int k (min x y))):=rfl
@[go_sem] theorem rX_ (k k' k'':IntKind) (x y z:Int):gQ_ true [.lit (.int k x),.lit (.int k' y),.lit (.int k'' z)]=some (.lit (.int k (max (max x y) z))):=rfl
@[go_sem] theorem rY_ (k k' k'':IntKind) (x y z:Int):gQ_ false [.lit (.int k x),.lit (.int k' y),.lit (.int k'' z)]=some (.lit (.int k (min (min x y) z))):=rfl
@[go_sem] theorem wj_ (op:BinOp) (t:TypeId) (c:Bool) (k k':IntKind) (a b:Int):abin P σ op t c (.lit (.int k a)) (.lit (.int k' b))=(aint op k a k' b).map .lit:=rfl
@[go_sem] theorem wk_ (op:BinOp) (t:TypeId) (c:Bool) (a b:ByteArray):abin P σ op t c (.lit (.string a)) (.lit (.string b))=(astr op a b).map .lit:=rfl
@[go_sem] theorem wo_ (k:IntKind) (a b:Int):aint .add k a k b=some (.int k (k.wrap (a + b))):=by simp [aint]
@[go_sem] theorem wx_ (k:IntKind) (a b:Int):aint .sub k a k b=some (.int k (k.wrap (a - b))):=by simp [aint]
@[go_sem] theorem wv_ (k:IntKind) (a b:Int):aint .mul k a k b=some (.int k (k.wrap (a * b))):=by simp [aint]
@[go_sem] theorem wq_ (k:IntKind) (a b:Int):aint .eql k a k b=some (.bool (decide (a=b))):=by simp [aint]
@[go_sem] theorem ww_ (k:IntKind) (a b:Int):aint .neq k a k b=some (.bool (!decide (a=b))):=by simp [aint]
@[go_sem] theorem wu_ (k:IntKind) (a b:Int):aint .lss k a k b=some (.bool (decide (a < b))):=by simp [aint]
@[go_sem] theorem wt_ (k:IntKind) (a b:Int):aint .leq k a k b=some (.bool (decide (a≤b))):=by simp [aint]
@[go_sem] theorem ws_ (k:IntKind) (a b:Int):aint .gtr k a k b=some (.bool (decide (b < a))):=by simp [aint]
@[go_sem] theorem wr_ (k:IntKind) (a b:Int):aint .geq k a k b=some (.bool (decide (b≤a))):=by simp [aint]
@[go_sem] theorem wp_ (k:IntKind) (a b:Int):aint .and k a k b=some (.int k (bAnd k a b)):=by simp [aint,bAnd]
@[go_sem] theorem wW_ (k:IntKind) (a b:Int):aint .or k a k b=some (.int k (bOr k a b)):=by simp [aint,bOr]
@[go_sem] theorem wy_ (k:IntKind) (a b:Int):aint .xor k a k b=some (.int k (bXor k a b)):=by simp [aint,bXor]
theorem pr_ (k:IntKind) (a b:Int) (h:b≠0):aint .quo k a k b=some (.int k (k.wrap (a.tdiv b))):=by simp [aint,h]
@[go_sem] theorem wA_ (a b:ByteArray):astr .eql a b=some (.bool (decide (a=b))):=rfl
@[go_sem] theorem wF_ (a b:ByteArray):astr .neq a b=some (.bool (!decide (a=b))):=rfl
@[go_sem] theorem wE_ (a b:ByteArray):astr .lss a b=some (.bool (sLt a b)):=rfl
@[go_sem] theorem wC_ (a b:ByteArray):astr .gtr a b=some (.bool !(sLt a b || decide (a=b))):=rfl
@[go_sem] theorem wD_ (a b:ByteArray):astr .leq a b=some (.bool (sLt a b || decide (a=b))):=rfl
@[go_sem] theorem wB_ (a b:ByteArray):astr .geq a b=some (.bool !(sLt a b)):=rfl
theorem pu_ (a b:ByteArray) (h:a.size + b.size≤jR_):astr .add a b=some (.string (a ++ b)):=by simp [astr,h]
@[go_sem] theorem t8_ (t x y:Bool):fy_ t (.lit (.bool x)) (.lit (.bool y))=.lit (.bool (bif t then x else y)):=rfl
end
theorem wrap_i64 (n:Int) (h1:-9223372036854775808≤n) (h2:n≤9223372036854775807):IntKind.i64.wrap n=n:=by
 unfold IntKind.wrap
 simp only [IntKind.bits,IntKind.signed,Bool.true_and,decide_eq_true_eq,ge_iff_le]
 have e1:(2:Int) ^ 64=18446744073709551616:=by decide
 have e2:(2:Int) ^ (64 - 1)=9223372036854775808:=by decide
 simp only [e1,e2]
 split <;> omega
attribute [go_sem] lB_ Store.delO Store.del_ne Store.newTok_heap Store.set_tok Store.newTok_get Store.newTok_set cJ_ cS_ cK_ g1_ g2_ fm_ anil mI_ dQ_ alen apart aro c6_ io_ aput slOf AVal.cells AVal.solid AVal.one ofConst ba_ Store.set_get Store.set_ne dt_ alow gP_ aret
@[go_sem] theorem uf_ {β:Type} (l:List β):l.toArray.toList=l:=rfl
@[go_sem] theorem rd_ (P:Program) (e:Env) (σ:Store):cn_ P [] e σ=some []:=rfl
@[go_sem] theorem re_ (P:Program) (e:Env) (σ:Store) (t:Tmp) (rs:List ResultVar):cn_ P (.tmp t :: rs) e σ=match cn_ P rs e σ with | some vs=>some (e t :: vs) | none=>none:=by
 unfold cn_
 rw [List.mapM_cons]
 generalize hq:rs.mapM (m:=Option) (fun
  |.tmp t=>some (e t)
  |.cell a t=>cS_ P σ t (e a))=q
 cases q <;> simp [hq]
@[go_sem] theorem pt_ (P:Program) (e:Env) (σ:Store) (a:Tmp) (t:TypeId) (rs:List ResultVar):cn_ P (.cell a t :: rs) e σ=match cS_ P σ t (e a),cn_ P rs e σ with | some v,some vs=>some (v :: vs) | _,_=>none:=by
 unfold cn_
 rw [List.mapM_cons]
 generalize hq:rs.mapM (m:=Option) (fun
  |.tmp t=>some (e t)
  |.cell a t=>cS_ P σ t (e a))=q
 cases hl:cS_ P σ t (e a) <;> cases q <;> simp [hq,hl]
attribute [go_sem] if_pos iq_ Int.toNat_natCast List.length_map List.map_append Bool.false_eq_true ne_eq not_true_eq_false not_false_eq_true and_self and_true true_and Nat.add_zero Nat.zero_add Option.map_some Option.map_none Option.bind_some Option.isSome_some List.length_cons List.length_nil List.map_cons List.map_nil List.nil_append List.cons_append List.append_nil List.take_succ_cons List.take_zero List.drop_succ_cons List.drop_zero List.getElem?_cons_zero List.getElem?_cons_succ Int.toNat_zero Int.le_refl decide_true decide_false beq_self_eq_true Bool.and_self Bool.and_true Bool.true_and Bool.and_false Bool.false_and cond_true cond_false Bool.not_true Bool.not_false Bool.or_self Bool.or_false Bool.or_true Bool.true_or Bool.false_or
attribute [go_sem] ir_ hF_ hE_ aF_ dk_ du_ ju_ jH_
section
variable {P:Program} {ops:Array Oper} {Kk:Env→Store→Prop} {o:Oper} {rest:List Oper} {e:Env} {σ:Store}
theorem aa_ (h:Kk e σ):aT_ P ops Kk [] e σ:=h
theorem aL_S {d:Tmp} {a:AVal} (hg:o.guard=none) (hd:o.dst=some d) (ha:aval P o.op (aev e) σ=some a) (h:aT_ P ops Kk rest (upd e d a) σ):aT_ P ops Kk (o :: rest) e σ:=by
 unfold aT_ be_ aU_
 simp only [hg,hd,updo]
 exact ao_ ha h
theorem aL_X {d:Tmp} (hg:o.guard=none) (hd:o.dst=some d) (h:AOp P o (aev e) σ fun a σ'=>aT_ P ops Kk rest (upd e d a) σ'):aT_ P ops Kk (o :: rest) e σ:=by
 unfold aT_ be_ aU_
 simp only [hg,hd,updo]
 exact h
theorem wP_ (hg:o.guard=none) (hd:o.dst=none) (h:AOp P o (aev e) σ fun _ σ'=>aT_ P ops Kk rest e σ'):aT_ P ops Kk (o :: rest) e σ:=by
 unfold aT_ be_ aU_
 simp only [hg,hd,updo]
 exact h
end
section
variable {P:Program} {ops:Array Oper} {s0:Store} {Kk:Env→Store→Prop} {o:Oper} {i:Nat} {r:DT} {e:Env} {σ:Store}
theorem aG_ (h:Kk e σ):dRun P ops s0 Kk .nil e σ:=h
theorem a3_ {k:Nat} {t:DT} (h1:dRun P ops s0 Kk (.op i (k + 1) r) e σ) (h2:dRun P ops s0 Kk t e σ):dRun P ops s0 Kk (.alt i (k + 1) r t) e σ:=by
 cases k with
 |zero=>exact ⟨h1,h2⟩
 |succ k=>exact ⟨h1,h2⟩
theorem dR_S {d:Tmp} {a:AVal} (ho:ops[i]?=some o) (hg:o.guard=none) (hd:o.dst=some d) (ha:aval P o.op (aev e) s0=some a) (h:dRun P ops s0 Kk r (upd e d a) σ):dRun P ops s0 Kk (.op i 0 r) e σ:=by
 refine ⟨o,a,ho,.inl ⟨by simp [aU_,hg],ha⟩,?_⟩
 rw [hd];exact h
theorem uI_ {d:Tmp} {a:AVal} (ho:ops[i]?=some o) (hd:o.dst=some d) (hw:aU_ ops o e=some true) (ha:aval P o.op (aev e) s0=some a) (h:dRun P ops s0 Kk r (upd e d a) σ):dRun P ops s0 Kk (.op i 0 r) e σ:=by
 refine ⟨o,a,ho,.inl ⟨hw,ha⟩,?_⟩
 rw [hd];exact h
theorem db_ {d:Tmp} (ho:ops[i]?=some o) (hd:o.dst=some d) (hw:aU_ ops o e=some false) (h:dRun P ops s0 Kk r (upd e d (.lit undef)) σ):dRun P ops s0 Kk (.op i 0 r) e σ:=by
 refine ⟨o,.lit undef,ho,.inr ⟨hw,rfl⟩,?_⟩
 rw [hd];exact h
theorem dR_X {d:Tmp} (ho:ops[i]?=some o) (hd:o.dst=some d) (hw:aU_ ops o e=some true) (h:AOp P o (aev e) σ fun a σ'=>s0.Sub σ'∧dRun P ops s0 Kk r (upd e d a) σ'):dRun P ops s0 Kk (.op i 1 r) e σ:=by
 refine ⟨o,ho,?_⟩
 unfold be_
 simp only [hw,hd,updo]
 exact h
theorem uJ_ {d:Tmp} (ho:ops[i]?=some o) (hd:o.dst=some d) (hw:aU_ ops o e=some false) (hs:s0.Sub σ) (h:dRun P ops s0 Kk r (upd e d (.lit undef)) σ):dRun P ops s0 Kk (.op i 1 r) e σ:=by
 refine ⟨o,ho,?_⟩
 unfold be_
 simp only [hw,hd,updo]
 exact ⟨hs,h⟩
theorem dR_T {d:Tmp} (ho:ops[i]?=some o) (hd:o.dst=some d) (hw:aU_ ops o e=some true) (h:AOp P o (aev e) σ fun a σ'=>dRun P ops s0 Kk r (upd e d a) σ'):dRun P ops s0 Kk (.op i 2 r) e σ:=by
 refine ⟨o,ho,?_⟩
 unfold be_
 simp only [hw,hd,updo]
 exact h
theorem w3_ (ho:ops[i]?=some o) (hd:o.dst=none) (hw:aU_ ops o e=some true) (h:AOp P o (aev e) σ fun a σ'=>dRun P ops s0 Kk r e σ'):dRun P ops s0 Kk (.op i 2 r) e σ:=by
 refine ⟨o,ho,?_⟩
 unfold be_
 simp only [hw,hd,updo]
 exact h
end
theorem bu_ {P:Program} {o:Oper} {α:Operand→AVal} {σ:Store} {Kk:AVal→Store→Prop} {c:Call} {f:Operand} {g:FuncId} {first captured args:List AVal} {Q:AVal→Store→Prop} (ho:o.op=.call c) (hc:c.callee=.value f)
  (hf:α f=.fn (.func g) first captured∨(α f=.lit (.func (.func g) #[] #[])∧first=[]∧captured=[])) (hg:isGo P g=true)
  (hargs:first ++ c.args.toList.map α ++ captured=args) (hcon:ACalls P g args σ Q) (hk:∀ a σ',Q a σ'→Kk a σ'):AOp P o α σ Kk:=by
 subst hargs
 exact cZ_ ho hc hf hg (hcon.mono hk)
theorem qk_ {σ:Store} {o j:Nat} {x:AObj} (h:(σ.set o x).heap j=none):j≠o∧σ.heap j=none:=by
 by_cases hj:j=o
 ·subst hj;rw [Store.set_get] at h;cases h
 ·exact ⟨hj,by rw [Store.set_ne _ _ hj] at h;exact h⟩
theorem tP_ {σ:Store} {o:Nat} {x:AObj} (h:σ.heap o=none):σ.Sub (σ.set o x):=⟨fun i y hy=>by
 by_cases hi:i=o
 ·subst hi;rw [h] at hy;cases hy
 ·rw [Store.set_ne _ _ hi];exact hy,fun _ _ h=>h⟩
section
variable {P:Program} {ops:Array Oper} {s0:Store} {Kk:Env→Store→Prop} {o:Oper} {rest:List Oper} {i:Nat} {r:DT} {e:Env} {σ:Store}
theorem pl_ {α:Operand→AVal} {Kk:AVal→Store→Prop} {t:TypeId} {x:Operand} {a:AVal} {cs:List AVal} (ho:o.op=.box t x) (hx:α x=a) (hs:a.solid=true) (hc:a.cells=cs)
  (h:∀ j,σ.heap j=none→Kk (.ref j 0) (σ.set j (.cells cs))):AOp P o α σ Kk:=by
 subst hx;subst hc;exact AOp_box ho hs h
theorem uj_ {d:Tmp} {t:TypeId} {x:Operand} {a:AVal} {cs:List AVal} (hg:o.guard=none) (hd:o.dst=some d) (ho:o.op=.box t x) (hx:aev e x=a) (hs:a.solid=true) (hc:a.cells=cs)
  (h:∀ j,σ.heap j=none→aT_ P ops Kk rest (upd e d (.ref j 0)) (σ.set j (.cells cs))):aT_ P ops Kk (o :: rest) e σ :=
 aL_X hg hd (pl_ ho hx hs hc h)
theorem lu_ {α:Operand→AVal} {Kk:AVal→Store→Prop} {t:TypeId} {z:Value} {cs:List AVal} (ho:o.op=.alloc t) (hz:bA_ P t=some z) (hc:ba_ z=cs)
  (h:∀ j,σ.heap j=none→Kk (.ref j 0) (σ.set j (.cells cs))):AOp P o α σ Kk:=by
 subst hc;exact AOp_alloc ho hz h
theorem pn_ {d:Tmp} {t:TypeId} {z:Value} {cs:List AVal} (hg:o.guard=none) (hd:o.dst=some d) (ho:o.op=.alloc t) (hz:bA_ P t=some z) (hc:ba_ z=cs)
  (h:∀ j,σ.heap j=none→aT_ P ops Kk rest (upd e d (.ref j 0)) (σ.set j (.cells cs))):aT_ P ops Kk (o :: rest) e σ :=
 aL_X hg hd (lu_ ho hz hc h)
theorem gZ_ {α:Operand→AVal} {Kk:AVal→Store→Prop} {t:TypeId} {ad x:Operand} {j off size:Nat} {g:Bool} {cs cs':List AVal} {a:AVal} (ho:o.op=.store t ad x) (ha:α ad=.ref j off) (hx:α x=a) (hh:σ.heap j=some (.cells cs))
  (ht:bj_ P t=some (size,g)) (hs:a.solid=true) (hcs:a.cells=cs') (hones:∀ c∈cs',c.one=true) (hsz:cs'.length=size) (hle:off + size≤cs.length) {cs2:List AVal} (hp:aput cs off cs'=cs2) (h:Kk .any (σ.set j (.cells cs2))):AOp P o α σ Kk:=by
 subst hx;subst hcs;subst hp;exact AOp_store ho ha hh ht hs hones hsz hle h
theorem hz_ {t:TypeId} {ad x:Operand} {j off size:Nat} {g:Bool} {cs cs':List AVal} {a:AVal} (hg:o.guard=none) (hd:o.dst=none) (ho:o.op=.store t ad x) (ha:aev e ad=.ref j off) (hx:aev e x=a) (hh:σ.heap j=some (.cells cs))
  (ht:bj_ P t=some (size,g)) (hs:a.solid=true) (hcs:a.cells=cs') (hones:∀ c∈cs',c.one=true) (hsz:cs'.length=size) (hle:off + size≤cs.length) {cs2:List AVal} (hp:aput cs off cs'=cs2)
  (h:aT_ P ops Kk rest e (σ.set j (.cells cs2))):aT_ P ops Kk (o :: rest) e σ :=
 wP_ hg hd (gZ_ ho ha hx hh ht hs hcs hones hsz hle hp h)
theorem pJ_ {t:TypeId} {ad x:Operand} {j off size:Nat} {g:Bool} {cs cs':List AVal} {a:AVal} (hop:ops[i]?=some o) (hd:o.dst=none) (hw:aU_ ops o e=some true) (ho:o.op=.store t ad x) (ha:aev e ad=.ref j off) (hx:aev e x=a) (hh:σ.heap j=some (.cells cs))
  (ht:bj_ P t=some (size,g)) (hs:a.solid=true) (hcs:a.cells=cs') (hones:∀ c∈cs',c.one=true) (hsz:cs'.length=size) (hle:off + size≤cs.length) {cs2:List AVal} (hp:aput cs off cs'=cs2)
  (h:dRun P ops s0 Kk r e (σ.set j (.cells cs2))):dRun P ops s0 Kk (.op i 2 r) e σ :=
 w3_ hop hd hw (gZ_ ho ha hx hh ht hs hcs hones hsz hle hp h)
theorem jm_ {α:Operand→AVal} {Kk:AVal→Store→Prop} {s x:Operand} {t el:TypeId} {sz by_ k:Nat} {l l2:List AVal} (ho:o.op=.call { callee:=.builtin .append,args:=#[s,x],argTypes:=#[t,t] }) (hse:aj_ P t=some el) (hte:aC_ P el=some (sz,by_))
  (hs:α s=.own k sz l) (hk:σ.tok k=some (el,sz)) (hx:slOf (α x)=some (sz,l2)) (hone:∀ y∈l2,∀ c∈y.cells,c.one=true) (hlen:(l.length + l2.length) * by_≤140737488355328)
  (h:∀ t',σ.tok t'=none→Kk (.own t' sz (l ++ l2)) (σ.newTok (some k) t' (el,sz))):AOp P o α σ Kk :=
 dP_ ho hse hte (.inl ⟨k,hs,hk,rfl⟩) (.inl hx) hone hlen h
theorem cp_ {d:Tmp} {s x:Operand} {t el:TypeId} {sz by_ k:Nat} {l l2:List AVal} (hg:o.guard=none) (hd:o.dst=some d) (ho:o.op=.call { callee:=.builtin .append,args:=#[s,x],argTypes:=#[t,t] }) (hse:aj_ P t=some el) (hte:aC_ P el=some (sz,by_))
  (hs:aev e s=.own k sz l) (hk:σ.tok k=some (el,sz)) (hx:slOf (aev e x)=some (sz,l2)) (hone:∀ y∈l2,∀ c∈y.cells,c.one=true) (hlen:(l.length + l2.length) * by_≤140737488355328)
  (h:∀ t',σ.tok t'=none→aT_ P ops Kk rest (upd e d (.own t' sz (l ++ l2))) (σ.newTok (some k) t' (el,sz))):aT_ P ops Kk (o :: rest) e σ :=
 aL_X hg hd (jm_ ho hse hte hs hk hx hone hlen h)
theorem e7_ {d:Tmp} {src dst el:TypeId} {x:Operand} {s:ByteArray} (hg:o.guard=none) (hd':o.dst=some d) (ho:o.op=.convert src dst x) (hs:P.underlying src=some .string) (hd:P.underlying dst=some (.slice el)) (he:P.underlying el=some (.int .u8)) (hx:aev e x=.lit (.string s))
  (h:aT_ P ops Kk rest (upd e d (.sl 1 (aA_ s) false)) σ):aT_ P ops Kk (o :: rest) e σ:=aL_X hg hd' (AOp_bytesOf ho hs hd he hx h)
theorem rR_ {sz:Nat} {tx el:TypeId} {x:AVal} {l2:List AVal} (hk:P.underlying tx=some (.slice el)) (hx:slOf x=some (sz,l2)) (hone:∀ y∈l2,∀ c∈y.cells,c.one=true):ASrc P sz tx x l2:=.inl ⟨⟨el,hk⟩,.inl hx,hone⟩
theorem ke_ {tx:TypeId} {s:ByteArray} (hk:P.underlying tx=some .string):ASrc P 1 tx (.lit (.string s)) (aA_ s):=.inr ⟨hk,rfl,s,rfl,rfl⟩
theorem cq_ {d:Tmp} {x:Operand} (el:TypeId) (sz:Nat) (hg:o.guard=none) (hd:o.dst=some d) (ho:o.op=.assign x) (hx:aev e x=.lit (.slice none 0 0))
  (h:∀ t',σ.tok t'=none→aT_ P ops Kk rest (upd e d (.own t' sz [])) (σ.newTok none t' (el,sz))):aT_ P ops Kk (o :: rest) e σ :=
 aL_X hg hd (ly_ ho hx h)
theorem dw_ {α:Operand→AVal} {Kk:AVal→Store→Prop} {t el:TypeId} {n sz by_:Nat} {parts:List (Nat × Operand)} {l:List AVal} (ho:o.op=.buildSlice t n parts.toArray) (hse:aj_ P t=some el) (hte:aC_ P el=some (sz,by_)) (hn:parts.length=n)
  (hr:parts.map (·.1)=List.range' 0 parts.length) (hl:(parts.map fun p=>α p.2)=l) (hs:∀ p∈parts,(α p.2).solid=true∧(α p.2).cells.length=sz) (hbig:n * sz≤16777216) (hk:Kk (.sl sz l true) σ):AOp P o α σ Kk:=by
 subst hl
 exact AOp_buildSlice ho hse hte hn hr hs hbig hk
theorem aJ_ {d:Tmp} {t el:TypeId} {n sz by_:Nat} {parts:List (Nat × Operand)} {l:List AVal} (hg:o.guard=none) (hd:o.dst=some d) (ho:o.op=.buildSlice t n parts.toArray) (hse:aj_ P t=some el) (hte:aC_ P el=some (sz,by_)) (hn:parts.length=n)
  (hr:parts.map (·.1)=List.range' 0 parts.length) (hl:(parts.map fun p=>aev e p.2)=l) (hs:∀ p∈parts,(aev e p.2).solid=true∧(aev e p.2).cells.length=sz) (hbig:n * sz≤16777216) (h:aT_ P ops Kk rest (upd e d (.sl sz l true)) σ):aT_ P ops Kk (o :: rest) e σ :=
 aL_X hg hd (dw_ ho hse hte hn hr hl hs hbig h)
theorem aE_ {rs:List ResultVar} {Q:AVal→Store→Prop} {v:AVal} {σ':Store} (h:aret P rs e σ=some v) (hs:σ'.Wk σ) (hq:Q v σ'):aEnd P rs Q .ret e σ:=⟨v,v,σ',h,.refl _,hs,hq⟩
theorem aD_ {rs:List ResultVar} {Q:AVal→Store→Prop} {v:AVal} {σ':Store} (h:aret P rs e σ=some v) (hs:σ'.Wk σ) (hq:Q v σ'):aEnd P rs Q .normal e σ:=⟨v,v,σ',h,.refl _,hs,hq⟩
theorem a2_ {rs:List ResultVar} {Q:AVal→Store→Prop} {v v':AVal} {σ':Store} (h:aret P rs e σ=some v') (hw:Wk v' v) (hs:σ'.Wk σ) (hq:Q v σ'):aEnd P rs Q .ret e σ:=⟨v,v',σ',h,hw,hs,hq⟩
end
end Go.Ab
end
