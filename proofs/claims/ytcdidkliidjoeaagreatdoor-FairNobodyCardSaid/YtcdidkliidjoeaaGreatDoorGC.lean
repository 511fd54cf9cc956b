/-
  WHAT THE TABLES OF TYPES SAY,a closed fact each. Printed by a program of one's own (wip/tools/gen_types.py) off this seat's translation.; SLICES MADE,TAKEN FOR GOOD,COPIED TO BE WRITTEN; THE LAYER IN USE: one step at a time;the rules by which 'aval' is reckoned. Own work (an AI agent).
-/
import Derived.Test.YtcdidkliidjoeaaGreatDoorGB
import Derived.Test.YtcdidkliidjoeaaGreatDoorProg
import Derived.KernelRfl
import Derived.Deep.OwnRows
import Derived.Laws.Cover3

section
set_option linter.all false
namespace Go.Proofs
open Go.Ab
abbrev yT (n a:Nat) (b:Bool):Prop:=aQ_ Tryz.prog n=some (a,b)
abbrev yZ (n:Nat) (v:Value):Prop:=a4_ Tryz.prog n=some v
abbrev yF (n k a b:Nat) (c:Bool):Prop:=cD_ Tryz.prog n k=some (a,b,c)
abbrev yG (n:Nat):Prop:=isGo Tryz.prog n=true
theorem yP {p q:Prop} (a:p) (b:q):p∧q:=⟨a,b⟩
@[go_sem] theorem yy1:yT 1 1 false∧yT 2 1 false∧yT 3 1 false∧yT 4 1 false∧yT 5 1 false∧yT 6 1 false∧yT 7 4 true∧yT 8 4 true∧yT 9 1 false∧yT 10 1 false∧yT 11 1 false∧yT 12 1 false∧yT 13 2 true∧yT 14 2 true∧yT 16 1 false∧yT 17 1 false∧yT 18 1 true∧yT 19 1 true∧yT 20 1 false∧yT 21 1 false∧yT 22 1 false∧yT 23 1 false∧yT 24 7 true∧yT 25 7 true∧yT 26 4 true∧yT 27 4 true∧yT 28 10 true∧yT 29 10 true∧yT 30 22 true∧yT 31 22 true:=by repeat' (first | refine yP ?_ ?_ | (show _=_;kernel_rfl))
@[go_sem] theorem yy2:yT 32 1 false∧yT 34 1 false∧yT 35 1 false∧yT 36 1 false∧yT 37 1 false∧yT 38 1 false∧yT 39 1 false∧yT 40 1 false∧yT 41 5 true∧yT 42 5 true∧yT 43 1 false∧yT 44 1 false∧yT 46 1 false∧yT 47 1 false∧yT 48 1 false∧yT 49 1 false∧yT 50 1 false∧yT 51 1 false∧yT 53 1 false∧yT 54 1 false∧yT 55 1 false∧yT 56 1 false∧yT 57 2 true∧yT 58 2 true∧yT 59 1 false∧yT 62 2 true∧yT 63 2 true∧yT 65 1 false∧yT 66 8 true∧yT 67 8 true:=by repeat' (first | refine yP ?_ ?_ | (show _=_;kernel_rfl))
@[go_sem] theorem yy3:yT 68 1 false∧yT 69 1 false∧yT 70 1 false∧yT 71 1 false∧yT 74 1 false∧yT 75 1 false∧yT 77 1 false∧yT 78 1 false∧yT 80 1 false∧yT 81 1 false∧yT 82 2 true∧yT 83 2 true∧yT 84 6 true∧yT 85 6 true∧yT 86 20 true∧yT 87 20 true∧yT 88 5 true∧yT 89 5 true∧yT 91 1 false∧yT 92 1 false∧yT 94 1 false∧yT 95 1 false∧yT 97 1 false∧yT 99 1 false∧yT 100 1 false∧yT 102 1 false∧yT 103 1 false∧yT 104 1 false∧yT 105 1 false∧yT 108 1 false:=by repeat' (first | refine yP ?_ ?_ | (show _=_;kernel_rfl))
@[go_sem] theorem yy4:yT 110 1 false∧yT 111 6 true∧yT 112 6 true∧yT 114 1 false∧yT 115 1 false∧yT 116 1 false∧yT 117 2 true∧yT 118 2 true∧yT 119 1 false∧yT 120 1 false∧yT 122 8 true∧yT 123 8 true∧yT 124 1 false∧yT 126 1 false∧yT 127 1 false∧yT 128 1 false∧yT 129 1 false∧yT 130 10 true∧yT 131 10 true∧yT 132 1 false∧yT 133 1 true∧yT 134 1 true∧yT 135 1 false∧yT 136 1 false∧yT 138 1 false∧yT 139 1 false∧yT 140 1 false∧yT 141 2 true∧yT 142 2 true∧yT 143 1 false:=by repeat' (first | refine yP ?_ ?_ | (show _=_;kernel_rfl))
@[go_sem] theorem yy5:yT 144 11 true∧yT 145 11 true∧yT 148 3 true∧yT 149 3 true∧yT 150 4 true∧yT 151 4 true∧yT 160 2 true∧yT 161 2 true∧yT 162 3 true∧yT 163 3 true∧yT 165 2 true∧yT 166 2 true∧yT 168 1 false∧yT 169 1 false∧yT 170 1 false∧yT 178 1 false∧yT 180 1 false∧yT 184 1 false∧yT 196 1 false∧yT 197 3 true∧yT 198 3 true∧yT 203 1 false∧yT 209 1 false∧yT 215 1 false∧yT 223 1 false∧yT 224 1 false∧yT 226 1 false∧yT 229 1 false∧yT 230 1 false∧yT 235 2 true:=by repeat' (first | refine yP ?_ ?_ | (show _=_;kernel_rfl))
@[go_sem] theorem yy6:yT 236 2 true∧yT 241 1 false∧yT 244 1 false∧yT 246 1 false∧yT 247 1 false∧yT 248 2 true∧yT 249 2 true∧yT 267 1 false∧yT 268 1 false∧yT 269 1 false∧yT 271 1 false∧yT 273 1 false∧yT 276 1 false∧yT 279 1 false∧yT 283 1 false∧yT 293 1 false∧yT 296 1 false∧yT 297 1 false∧yT 298 1 false∧yT 299 1 false∧yT 300 1 false∧yT 301 9 true∧yT 302 9 true∧yT 316 1 false∧yT 317 2 true∧yT 318 2 true∧yT 319 1 false∧yT 320 1 false∧yT 321 2 true∧yT 322 2 true:=by repeat' (first | refine yP ?_ ?_ | (show _=_;kernel_rfl))
@[go_sem] theorem yy7:yT 323 2 true∧yT 324 2 true∧yT 327 1 false∧yT 328 2 true∧yT 330 1 false∧yT 331 1 false∧yT 333 1 false∧yT 334 1 false∧yT 335 1 false∧yT 336 1 false∧yT 342 1 false∧yT 344 1 false∧yT 347 1 false∧yT 363 1 false∧yT 381 2 true∧yT 382 2 true∧yT 388 1 false∧yT 390 1 false∧yT 391 1 false∧yT 393 1 false∧yT 399 1 false∧yT 404 1 false∧yT 405 1 false∧yT 406 1 false∧yT 407 1 false∧yT 408 2 true∧yT 409 2 true∧yT 410 1 false∧yT 411 3 true∧yT 412 3 true:=by repeat' (first | refine yP ?_ ?_ | (show _=_;kernel_rfl))
@[go_sem] theorem yy8:yT 414 1 false∧yT 415 1 false∧yT 422 1 false∧yT 423 2 true∧yT 424 2 true∧yT 425 3 true∧yT 426 3 true∧yT 427 1 false∧yT 445 1 false∧yT 446 1 false∧yT 447 1 false∧yT 448 1 false∧yT 449 1 false∧yT 450 1 false∧yT 451 1 false∧yT 453 1 false∧yT 455 1 false∧yT 456 1 false∧yT 457 1 false∧yT 458 1 false∧yT 465 1 false∧yT 474 1 false∧yT 475 1 true∧yT 476 1 true∧yT 493 1 false∧yT 498 1 false∧yT 500 1 false∧yT 507 1 false∧yT 512 1 false∧yT 513 1 false:=by repeat' (first | refine yP ?_ ?_ | (show _=_;kernel_rfl))
@[go_sem] theorem yy9:yT 514 1 false∧yT 515 1 false∧yT 523 1 false∧yT 524 1 false∧yT 525 1 false∧yT 526 1 false∧yT 528 1 false∧yT 529 1 false∧yT 532 1 false∧yT 533 13 true∧yT 534 13 true∧yT 535 3 true∧yT 536 3 true∧yT 538 1 false∧yT 539 1 false∧yT 543 1 false∧yT 544 1 false∧yT 545 1 false∧yT 553 1 false∧yT 554 1 false∧yT 555 1 false∧yT 556 1 false∧yT 557 1 false∧yT 558 1 false∧yT 559 1 false∧yT 560 1 false∧yT 561 1 false∧yT 566 1 false∧yT 572 1 false∧yT 580 1 false:=by repeat' (first | refine yP ?_ ?_ | (show _=_;kernel_rfl))
@[go_sem] theorem yy10:yT 589 5 true∧yT 590 5 true∧yT 600 13 true∧yT 601 13 true∧yT 606 1 false∧yT 607 1 false∧yT 608 1 false∧yT 616 3 true∧yT 617 3 true∧yT 619 1 false∧yT 621 1 false∧yT 622 1 false∧yT 628 1 false∧yT 638 1 false∧yT 639 1 false∧yT 640 1 false∧yT 642 1 false∧yT 647 1 false∧yT 651 1 false∧yT 653 1 false∧yT 669 1 false∧yT 670 1 false∧yT 671 1 false∧yT 672 1 false∧yT 673 1 false∧yT 675 1 false∧yT 692 1 false∧yT 695 1 false∧yT 696 1 false∧yT 697 1 false:=by repeat' (first | refine yP ?_ ?_ | (show _=_;kernel_rfl))
@[go_sem] theorem yy11:yT 698 1 false∧yT 700 1 false∧yT 720 0 true∧yT 721 0 true∧yT 722 0 true∧yT 723 1 false∧yT 724 1 false∧yT 725 1 false∧yT 726 1 false∧yT 727 1 false∧yT 728 11 true∧yT 729 11 true:=by repeat' (first | refine yP ?_ ?_ | (show _=_;kernel_rfl))
@[go_sem] theorem yy12:yZ 1 (.nilFunc)∧yZ 2 (.int .i64 0)∧yZ 3 (.int .i64 0)∧yZ 4 (.bool false)∧yZ 5 (.int .u8 0)∧yZ 6 (.int .u8 0)∧yZ 7 (.agg #[.int .i64 0,.int .i64 0,.bool false,.int .u8 0])∧yZ 8 (.agg #[.int .i64 0,.int .i64 0,.bool false,.int .u8 0])∧yZ 9 (.string ⟨#[]⟩)∧yZ 10 (.string ⟨#[]⟩)∧yZ 11 (.string ⟨#[]⟩)∧yZ 12 (.int .u64 0)∧yZ 13 (.agg #[.string ⟨#[]⟩,.int .u64 0])∧yZ 14 (.agg #[.string ⟨#[]⟩,.int .u64 0])∧yZ 16 (.pointer none)∧yZ 17 (.pointer none)∧yZ 18 (.agg #[.pointer none])∧yZ 19 (.agg #[.pointer none])∧yZ 20 (.nilIface)∧yZ 21 (.int .i32 0)∧yZ 22 (.slice none 0 0)∧yZ 23 (.slice none 0 0)∧yZ 24 (.agg #[.int .i64 0,.string ⟨#[]⟩,.string ⟨#[]⟩,.string ⟨#[]⟩,.string ⟨#[]⟩,.slice none 0 0,.int .i64 0])∧yZ 25 (.agg #[.int .i64 0,.string ⟨#[]⟩,.string ⟨#[]⟩,.string ⟨#[]⟩,.string ⟨#[]⟩,.slice none 0 0,.int .i64 0])∧yZ 26 (.agg #[.string ⟨#[]⟩,.string ⟨#[]⟩,.string ⟨#[]⟩,.bool false])∧yZ 27 (.agg #[.string ⟨#[]⟩,.string ⟨#[]⟩,.string ⟨#[]⟩,.bool false])∧yZ 28 (.agg #[.int .i64 0,.string ⟨#[]⟩,.string ⟨#[]⟩,.string ⟨#[]⟩,.string ⟨#[]⟩,.int .i64 0,.string ⟨#[]⟩,.string ⟨#[]⟩,.string ⟨#[]⟩,.bool false])∧yZ 29 (.agg #[.int .i64 0,.string ⟨#[]⟩,.string ⟨#[]⟩,.string ⟨#[]⟩,.string ⟨#[]⟩,.int .i64 0,.string ⟨#[]⟩,.string ⟨#[]⟩,.string ⟨#[]⟩,.bool false])∧yZ 30 (.agg #[.int .i64 0,.string ⟨#[]⟩,.string ⟨#[]⟩,.string ⟨#[]⟩,.int .i64 0,.int .i64 0,.string ⟨#[]⟩,.string ⟨#[]⟩,.string ⟨#[]⟩,.string ⟨#[]⟩,.slice none 0 0,.int .i64 0,.int .i64 0,.string ⟨#[]⟩,.string ⟨#[]⟩,.string ⟨#[]⟩,.string ⟨#[]⟩,.int .i64 0,.string ⟨#[]⟩,.string ⟨#[]⟩,.string ⟨#[]⟩,.bool false])∧yZ 31 (.agg #[.int .i64 0,.string ⟨#[]⟩,.string ⟨#[]⟩,.string ⟨#[]⟩,.int .i64 0,.int .i64 0,.string ⟨#[]⟩,.string ⟨#[]⟩,.string ⟨#[]⟩,.string ⟨#[]⟩,.slice none 0 0,.int .i64 0,.int .i64 0,.string ⟨#[]⟩,.string ⟨#[]⟩,.string ⟨#[]⟩,.string ⟨#[]⟩,.int .i64 0,.string ⟨#[]⟩,.string ⟨#[]⟩,.string ⟨#[]⟩,.bool false]):=by repeat' (first | refine yP ?_ ?_ | (show _=_;kernel_rfl))
@[go_sem] theorem yy13:yZ 32 (.nilFunc)∧yZ 34 (.slice none 0 0)∧yZ 35 (.nilFunc)∧yZ 36 (.pointer none)∧yZ 37 (.map none)∧yZ 38 (.pointer none)∧yZ 39 (.slice none 0 0)∧yZ 40 (.map none)∧yZ 41 (.agg #[.map none,.pointer none,.slice none 0 0,.int .i64 0,.map none])∧yZ 42 (.agg #[.map none,.pointer none,.slice none 0 0,.int .i64 0,.map none])∧yZ 43 (.slice none 0 0)∧yZ 44 (.int .i64 0)∧yZ 46 (.nilFunc)∧yZ 47 (.slice none 0 0)∧yZ 48 (.nilFunc)∧yZ 49 (.nilFunc)∧yZ 50 (.nilFunc)∧yZ 51 (.slice none 0 0)∧yZ 53 (.slice none 0 0)∧yZ 54 (.nilFunc)∧yZ 55 (.slice none 0 0)∧yZ 56 (.slice none 0 0)∧yZ 57 (.agg #[.slice none 0 0,.slice none 0 0])∧yZ 58 (.agg #[.slice none 0 0,.slice none 0 0])∧yZ 59 (.nilFunc)∧yZ 62 (.agg #[.slice none 0 0,.slice none 0 0])∧yZ 63 (.agg #[.slice none 0 0,.slice none 0 0])∧yZ 65 (.nilFunc)∧yZ 66 (.agg #[.int .i64 0,.int .i64 0,.int .i64 0,.int .i64 0,.int .i64 0,.bool false,.bool false,.bool false])∧yZ 67 (.agg #[.int .i64 0,.int .i64 0,.int .i64 0,.int .i64 0,.int .i64 0,.bool false,.bool false,.bool false]):=by repeat' (first | refine yP ?_ ?_ | (show _=_;kernel_rfl))
@[go_sem] theorem yy14:yZ 68 (.nilFunc)∧yZ 69 (.nilFunc)∧yZ 70 (.nilFunc)∧yZ 71 (.nilFunc)∧yZ 74 (.nilFunc)∧yZ 75 (.nilFunc)∧yZ 77 (.nilFunc)∧yZ 78 (.nilFunc)∧yZ 80 (.nilFunc)∧yZ 81 (.slice none 0 0)∧yZ 82 (.agg #[.string ⟨#[]⟩,.int .i64 0])∧yZ 83 (.agg #[.string ⟨#[]⟩,.int .i64 0])∧yZ 84 (.agg #[.int .i64 0,.slice none 0 0,.slice none 0 0,.slice none 0 0,.string ⟨#[]⟩,.int .i64 0])∧yZ 85 (.agg #[.int .i64 0,.slice none 0 0,.slice none 0 0,.slice none 0 0,.string ⟨#[]⟩,.int .i64 0])∧yZ 86 (.agg #[.string ⟨#[]⟩,.string ⟨#[]⟩,.int .i64 0,.int .i64 0,.int .i64 0,.int .i64 0,.int .i64 0,.string ⟨#[]⟩,.string ⟨#[]⟩,.string ⟨#[]⟩,.string ⟨#[]⟩,.slice none 0 0,.int .i64 0,.bool false,.int .i64 0,.slice none 0 0,.slice none 0 0,.slice none 0 0,.string ⟨#[]⟩,.int .i64 0])∧yZ 87 (.agg #[.string ⟨#[]⟩,.string ⟨#[]⟩,.int .i64 0,.int .i64 0,.int .i64 0,.int .i64 0,.int .i64 0,.string ⟨#[]⟩,.string ⟨#[]⟩,.string ⟨#[]⟩,.string ⟨#[]⟩,.slice none 0 0,.int .i64 0,.bool false,.int .i64 0,.slice none 0 0,.slice none 0 0,.slice none 0 0,.string ⟨#[]⟩,.int .i64 0])∧yZ 88 (.agg #[.string ⟨#[]⟩,.int .i64 0,.string ⟨#[]⟩,.bool false,.int .i64 0])∧yZ 89 (.agg #[.string ⟨#[]⟩,.int .i64 0,.string ⟨#[]⟩,.bool false,.int .i64 0])∧yZ 91 (.nilFunc)∧yZ 92 (.pointer none)∧yZ 94 (.nilFunc)∧yZ 95 (.nilFunc)∧yZ 97 (.nilFunc)∧yZ 99 (.nilFunc)∧yZ 100 (.nilFunc)∧yZ 102 (.nilFunc)∧yZ 103 (.nilFunc)∧yZ 104 (.slice none 0 0)∧yZ 105 (.nilFunc)∧yZ 108 (.nilFunc):=by repeat' (first | refine yP ?_ ?_ | (show _=_;kernel_rfl))
@[go_sem] theorem yy15:yZ 110 (.nilFunc)∧yZ 111 (.agg #[.string ⟨#[]⟩,.string ⟨#[]⟩,.int .i64 0,.int .i64 0,.int .i64 0,.int .i64 0])∧yZ 112 (.agg #[.string ⟨#[]⟩,.string ⟨#[]⟩,.int .i64 0,.int .i64 0,.int .i64 0,.int .i64 0])∧yZ 114 (.nilFunc)∧yZ 115 (.slice none 0 0)∧yZ 116 (.nilFunc)∧yZ 117 (.agg #[.string ⟨#[]⟩,.string ⟨#[]⟩])∧yZ 118 (.agg #[.string ⟨#[]⟩,.string ⟨#[]⟩])∧yZ 119 (.nilFunc)∧yZ 120 (.slice none 0 0)∧yZ 122 (.agg #[.string ⟨#[]⟩,.int .i64 0,.int .i64 0,.slice none 0 0,.slice none 0 0,.slice none 0 0,.string ⟨#[]⟩,.int .i64 0])∧yZ 123 (.agg #[.string ⟨#[]⟩,.int .i64 0,.int .i64 0,.slice none 0 0,.slice none 0 0,.slice none 0 0,.string ⟨#[]⟩,.int .i64 0])∧yZ 124 (.nilFunc)∧yZ 126 (.nilFunc)∧yZ 127 (.int .u64 0)∧yZ 128 (.pointer none)∧yZ 129 (.map none)∧yZ 130 (.agg #[.string ⟨#[]⟩,.bool false,.int .i64 0,.int .i64 0,.pointer none,.slice none 0 0,.slice none 0 0,.map none,.slice none 0 0,.slice none 0 0])∧yZ 131 (.agg #[.string ⟨#[]⟩,.bool false,.int .i64 0,.int .i64 0,.pointer none,.slice none 0 0,.slice none 0 0,.map none,.slice none 0 0,.slice none 0 0])∧yZ 132 (.map none)∧yZ 133 (.agg #[.map none])∧yZ 134 (.agg #[.map none])∧yZ 135 (.nilFunc)∧yZ 136 (.pointer none)∧yZ 138 (.nilFunc)∧yZ 139 (.map none)∧yZ 140 (.pointer none)∧yZ 141 (.agg #[.int .i64 0,.int .i64 0])∧yZ 142 (.agg #[.int .i64 0,.int .i64 0])∧yZ 143 (.pointer none):=by repeat' (first | refine yP ?_ ?_ | (show _=_;kernel_rfl))
@[go_sem] theorem yy16:yZ 144 (.agg #[.string ⟨#[]⟩,.pointer none,.slice none 0 0,.slice none 0 0,.map none,.int .i64 0,.pointer none,.int .i64 0,.int .i64 0,.pointer none,.slice none 0 0])∧yZ 145 (.agg #[.string ⟨#[]⟩,.pointer none,.slice none 0 0,.slice none 0 0,.map none,.int .i64 0,.pointer none,.int .i64 0,.int .i64 0,.pointer none,.slice none 0 0])∧yZ 148 (.agg #[.int .i64 0,.string ⟨#[]⟩,.string ⟨#[]⟩])∧yZ 149 (.agg #[.int .i64 0,.string ⟨#[]⟩,.string ⟨#[]⟩])∧yZ 150 (.agg #[.string ⟨#[]⟩,.int .i64 0,.string ⟨#[]⟩,.string ⟨#[]⟩])∧yZ 151 (.agg #[.string ⟨#[]⟩,.int .i64 0,.string ⟨#[]⟩,.string ⟨#[]⟩])∧yZ 160 (.agg #[.slice none 0 0,.slice none 0 0])∧yZ 161 (.agg #[.slice none 0 0,.slice none 0 0])∧yZ 162 (.agg #[.string ⟨#[]⟩,.slice none 0 0,.slice none 0 0])∧yZ 163 (.agg #[.string ⟨#[]⟩,.slice none 0 0,.slice none 0 0])∧yZ 165 (.agg #[.string ⟨#[]⟩,.int .i64 0])∧yZ 166 (.agg #[.string ⟨#[]⟩,.int .i64 0])∧yZ 168 (.nilFunc)∧yZ 169 (.nilFunc)∧yZ 170 (.nilFunc)∧yZ 178 (.nilFunc)∧yZ 180 (.nilFunc)∧yZ 184 (.nilFunc)∧yZ 196 (.slice none 0 0)∧yZ 197 (.agg #[.string ⟨#[]⟩,.int .i64 0,.slice none 0 0])∧yZ 198 (.agg #[.string ⟨#[]⟩,.int .i64 0,.slice none 0 0])∧yZ 203 (.slice none 0 0)∧yZ 209 (.nilFunc)∧yZ 215 (.int .i64 0)∧yZ 223 (.nilFunc)∧yZ 224 (.int .u32 0)∧yZ 226 (.int .u64 0)∧yZ 229 (.pointer none)∧yZ 230 (.nilFunc)∧yZ 235 (.agg #[.string ⟨#[]⟩,.bool false]):=by repeat' (first | refine yP ?_ ?_ | (show _=_;kernel_rfl))
@[go_sem] theorem yy17:yZ 236 (.agg #[.string ⟨#[]⟩,.bool false])∧yZ 241 (.nilFunc)∧yZ 244 (.nilFunc)∧yZ 246 (.nilFunc)∧yZ 247 (.slice none 0 0)∧yZ 248 (.agg #[.slice none 0 0,.int .i64 0])∧yZ 249 (.agg #[.slice none 0 0,.int .i64 0])∧yZ 267 (.nilFunc)∧yZ 268 (.nilFunc)∧yZ 269 (.nilFunc)∧yZ 271 (.nilFunc)∧yZ 273 (.nilFunc)∧yZ 276 (.nilFunc)∧yZ 279 (.nilFunc)∧yZ 283 (.nilFunc)∧yZ 293 (.nilFunc)∧yZ 296 (.nilFunc)∧yZ 297 (.pointer none)∧yZ 298 (.pointer none)∧yZ 299 (.pointer none)∧yZ 300 (.pointer none)∧yZ 301 (.agg #[.string ⟨#[]⟩,.string ⟨#[]⟩,.int .i64 0,.slice none 0 0,.slice none 0 0,.pointer none,.pointer none,.pointer none,.bool false])∧yZ 302 (.agg #[.string ⟨#[]⟩,.string ⟨#[]⟩,.int .i64 0,.slice none 0 0,.slice none 0 0,.pointer none,.pointer none,.pointer none,.bool false])∧yZ 316 (.nilFunc)∧yZ 317 (.agg #[.string ⟨#[]⟩,.bool false])∧yZ 318 (.agg #[.string ⟨#[]⟩,.bool false])∧yZ 319 (.pointer none)∧yZ 320 (.pointer none)∧yZ 321 (.agg #[.pointer none,.slice none 0 0])∧yZ 322 (.agg #[.pointer none,.slice none 0 0]):=by repeat' (first | refine yP ?_ ?_ | (show _=_;kernel_rfl))
@[go_sem] theorem yy18:yZ 323 (.agg #[.pointer none,.slice none 0 0])∧yZ 324 (.agg #[.pointer none,.slice none 0 0])∧yZ 327 (.slice none 0 0)∧yZ 328 (.agg #[.int .i64 0,.int .i64 0])∧yZ 330 (.nilFunc)∧yZ 331 (.nilFunc)∧yZ 333 (.nilFunc)∧yZ 334 (.nilFunc)∧yZ 335 (.nilFunc)∧yZ 336 (.nilFunc)∧yZ 342 (.nilFunc)∧yZ 344 (.nilFunc)∧yZ 347 (.nilFunc)∧yZ 363 (.slice none 0 0)∧yZ 381 (.agg #[.string ⟨#[]⟩,.string ⟨#[]⟩])∧yZ 382 (.agg #[.string ⟨#[]⟩,.string ⟨#[]⟩])∧yZ 388 (.nilFunc)∧yZ 390 (.nilFunc)∧yZ 391 (.nilFunc)∧yZ 393 (.nilFunc)∧yZ 399 (.nilFunc)∧yZ 404 (.nilFunc)∧yZ 405 (.slice none 0 0)∧yZ 406 (.slice none 0 0)∧yZ 407 (.map none)∧yZ 408 (.agg #[.slice none 0 0,.map none])∧yZ 409 (.agg #[.slice none 0 0,.map none])∧yZ 410 (.pointer none)∧yZ 411 (.agg #[.int .i64 0,.int .i64 0,.int .i64 0])∧yZ 412 (.agg #[.int .i64 0,.int .i64 0,.int .i64 0]):=by repeat' (first | refine yP ?_ ?_ | (show _=_;kernel_rfl))
@[go_sem] theorem yy19:yZ 414 (.nilFunc)∧yZ 415 (.nilFunc)∧yZ 422 (.map none)∧yZ 423 (.agg #[.int .i64 0,.map none])∧yZ 424 (.agg #[.int .i64 0,.map none])∧yZ 425 (.agg #[.int .i64 0,.string ⟨#[]⟩,.map none])∧yZ 426 (.agg #[.int .i64 0,.string ⟨#[]⟩,.map none])∧yZ 427 (.nilFunc)∧yZ 445 (.nilFunc)∧yZ 446 (.map none)∧yZ 447 (.nilFunc)∧yZ 448 (.nilFunc)∧yZ 449 (.nilFunc)∧yZ 450 (.nilIface)∧yZ 451 (.nilIface)∧yZ 453 (.nilFunc)∧yZ 455 (.nilFunc)∧yZ 456 (.nilFunc)∧yZ 457 (.nilFunc)∧yZ 458 (.nilFunc)∧yZ 465 (.nilFunc)∧yZ 474 (.nilFunc)∧yZ 475 (.agg #[.pointer none])∧yZ 476 (.agg #[.pointer none])∧yZ 493 (.nilFunc)∧yZ 498 (.nilFunc)∧yZ 500 (.nilFunc)∧yZ 507 (.nilFunc)∧yZ 512 (.nilFunc)∧yZ 513 (.nilFunc):=by repeat' (first | refine yP ?_ ?_ | (show _=_;kernel_rfl))
@[go_sem] theorem yy20:yZ 514 (.nilFunc)∧yZ 515 (.nilFunc)∧yZ 523 (.nilFunc)∧yZ 524 (.nilFunc)∧yZ 525 (.nilFunc)∧yZ 526 (.nilFunc)∧yZ 528 (.nilFunc)∧yZ 529 (.nilFunc)∧yZ 532 (.map none)∧yZ 533 (.agg #[.int .i64 0,.int .i64 0,.int .i64 0,.int .i64 0,.int .i64 0,.bool false,.bool false,.bool false,.slice none 0 0,.map none,.slice none 0 0,.slice none 0 0,.int .i64 0])∧yZ 534 (.agg #[.int .i64 0,.int .i64 0,.int .i64 0,.int .i64 0,.int .i64 0,.bool false,.bool false,.bool false,.slice none 0 0,.map none,.slice none 0 0,.slice none 0 0,.int .i64 0])∧yZ 535 (.agg #[.int .i64 0,.slice none 0 0,.slice none 0 0])∧yZ 536 (.agg #[.int .i64 0,.slice none 0 0,.slice none 0 0])∧yZ 538 (.nilFunc)∧yZ 539 (.nilFunc)∧yZ 543 (.nilFunc)∧yZ 544 (.pointer none)∧yZ 545 (.nilFunc)∧yZ 553 (.nilFunc)∧yZ 554 (.nilFunc)∧yZ 555 (.nilFunc)∧yZ 556 (.nilFunc)∧yZ 557 (.nilFunc)∧yZ 558 (.nilFunc)∧yZ 559 (.nilFunc)∧yZ 560 (.nilFunc)∧yZ 561 (.nilFunc)∧yZ 566 (.nilFunc)∧yZ 572 (.nilFunc)∧yZ 580 (.nilFunc):=by repeat' (first | refine yP ?_ ?_ | (show _=_;kernel_rfl))
@[go_sem] theorem yy21:yZ 589 (.agg #[.string ⟨#[]⟩,.slice none 0 0,.map none,.bool false,.slice none 0 0])∧yZ 590 (.agg #[.string ⟨#[]⟩,.slice none 0 0,.map none,.bool false,.slice none 0 0])∧yZ 600 (.agg #[.int .i64 0,.int .i64 0,.int .i64 0,.int .i64 0,.int .i64 0,.bool false,.bool false,.bool false,.slice none 0 0,.map none,.bool false,.int .i64 0,.int .i64 0])∧yZ 601 (.agg #[.int .i64 0,.int .i64 0,.int .i64 0,.int .i64 0,.int .i64 0,.bool false,.bool false,.bool false,.slice none 0 0,.map none,.bool false,.int .i64 0,.int .i64 0])∧yZ 606 (.nilFunc)∧yZ 607 (.nilFunc)∧yZ 608 (.nilFunc)∧yZ 616 (.agg #[.slice none 0 0,.map none,.map none])∧yZ 617 (.agg #[.slice none 0 0,.map none,.map none])∧yZ 619 (.nilFunc)∧yZ 621 (.nilFunc)∧yZ 622 (.int .i64 0)∧yZ 628 (.pointer none)∧yZ 638 (.slice none 0 0)∧yZ 639 (.nilFunc)∧yZ 640 (.nilFunc)∧yZ 642 (.nilFunc)∧yZ 647 (.slice none 0 0)∧yZ 651 (.nilFunc)∧yZ 653 (.nilFunc)∧yZ 669 (.nilFunc)∧yZ 670 (.nilFunc)∧yZ 671 (.nilFunc)∧yZ 672 (.nilFunc)∧yZ 673 (.nilFunc)∧yZ 675 (.slice none 0 0)∧yZ 692 (.slice none 0 0)∧yZ 695 (.nilFunc)∧yZ 696 (.slice none 0 0)∧yZ 697 (.nilFunc):=by repeat' (first | refine yP ?_ ?_ | (show _=_;kernel_rfl))
@[go_sem] theorem yy22:yZ 698 (.nilFunc)∧yZ 700 (.nilFunc)∧yZ 720 (.agg #[])∧yZ 721 (.agg #[])∧yZ 722 (.agg #[])∧yZ 723 (.int .u8 0)∧yZ 724 (.int .u8 0)∧yZ 725 (.nilFunc)∧yZ 726 (.int .i32 0)∧yZ 727 (.int .i32 0)∧yZ 728 (.agg #[.int .u64 0,.int .u64 0,.int .u32 0,.int .u8 0,.int .u8 0,.int .u8 0,.int .u8 0,.nilFunc,.pointer none,.int .i32 0,.int .i32 0])∧yZ 729 (.agg #[.int .u64 0,.int .u64 0,.int .u32 0,.int .u8 0,.int .u8 0,.int .u8 0,.int .u8 0,.nilFunc,.pointer none,.int .i32 0,.int .i32 0]):=by repeat' (first | refine yP ?_ ?_ | (show _=_;kernel_rfl))
@[go_sem] theorem yy23:yF 7 0 0 1 false∧yF 7 1 1 1 false∧yF 7 2 2 1 false∧yF 7 3 3 1 false∧yF 8 0 0 1 false∧yF 8 1 1 1 false∧yF 8 2 2 1 false∧yF 8 3 3 1 false∧yF 13 0 0 1 false∧yF 13 1 1 1 false∧yF 14 0 0 1 false∧yF 14 1 1 1 false∧yF 18 0 0 1 false∧yF 19 0 0 1 false∧yF 24 0 0 1 false∧yF 24 1 1 1 false∧yF 24 2 2 1 false∧yF 24 3 3 1 false∧yF 24 4 4 1 false∧yF 24 5 5 1 false∧yF 24 6 6 1 false∧yF 25 0 0 1 false∧yF 25 1 1 1 false∧yF 25 2 2 1 false∧yF 25 3 3 1 false∧yF 25 4 4 1 false∧yF 25 5 5 1 false∧yF 25 6 6 1 false∧yF 26 0 0 1 false∧yF 26 1 1 1 false:=by repeat' (first | refine yP ?_ ?_ | (show _=_;kernel_rfl))
@[go_sem] theorem yy24:yF 26 2 2 1 false∧yF 26 3 3 1 false∧yF 27 0 0 1 false∧yF 27 1 1 1 false∧yF 27 2 2 1 false∧yF 27 3 3 1 false∧yF 28 0 0 1 false∧yF 28 1 1 1 false∧yF 28 2 2 1 false∧yF 28 3 3 1 false∧yF 28 4 4 1 false∧yF 28 5 5 1 false∧yF 28 6 6 4 true∧yF 29 0 0 1 false∧yF 29 1 1 1 false∧yF 29 2 2 1 false∧yF 29 3 3 1 false∧yF 29 4 4 1 false∧yF 29 5 5 1 false∧yF 29 6 6 4 true∧yF 30 0 0 1 false∧yF 30 1 1 1 false∧yF 30 2 2 1 false∧yF 30 3 3 1 false∧yF 30 4 4 1 false∧yF 30 5 5 7 true∧yF 30 6 12 10 true∧yF 31 0 0 1 false∧yF 31 1 1 1 false∧yF 31 2 2 1 false:=by repeat' (first | refine yP ?_ ?_ | (show _=_;kernel_rfl))
@[go_sem] theorem yy25:yF 31 3 3 1 false∧yF 31 4 4 1 false∧yF 31 5 5 7 true∧yF 31 6 12 10 true∧yF 41 0 0 1 false∧yF 41 1 1 1 false∧yF 41 2 2 1 false∧yF 41 3 3 1 false∧yF 41 4 4 1 false∧yF 42 0 0 1 false∧yF 42 1 1 1 false∧yF 42 2 2 1 false∧yF 42 3 3 1 false∧yF 42 4 4 1 false∧yF 57 0 0 1 false∧yF 57 1 1 1 false∧yF 58 0 0 1 false∧yF 58 1 1 1 false∧yF 62 0 0 1 false∧yF 62 1 1 1 false∧yF 63 0 0 1 false∧yF 63 1 1 1 false∧yF 66 0 0 1 false∧yF 66 1 1 1 false∧yF 66 2 2 1 false∧yF 66 3 3 1 false∧yF 66 4 4 1 false∧yF 66 5 5 1 false∧yF 66 6 6 1 false∧yF 66 7 7 1 false:=by repeat' (first | refine yP ?_ ?_ | (show _=_;kernel_rfl))
@[go_sem] theorem yy26:yF 67 0 0 1 false∧yF 67 1 1 1 false∧yF 67 2 2 1 false∧yF 67 3 3 1 false∧yF 67 4 4 1 false∧yF 67 5 5 1 false∧yF 67 6 6 1 false∧yF 67 7 7 1 false∧yF 82 0 0 1 false∧yF 82 1 1 1 false∧yF 83 0 0 1 false∧yF 83 1 1 1 false∧yF 84 0 0 1 false∧yF 84 1 1 1 false∧yF 84 2 2 1 false∧yF 84 3 3 1 false∧yF 84 4 4 2 true∧yF 85 0 0 1 false∧yF 85 1 1 1 false∧yF 85 2 2 1 false∧yF 85 3 3 1 false∧yF 85 4 4 2 true∧yF 86 0 0 1 false∧yF 86 1 1 1 false∧yF 86 2 2 1 false∧yF 86 3 3 1 false∧yF 86 4 4 1 false∧yF 86 5 5 1 false∧yF 86 6 6 7 true∧yF 86 7 13 1 false:=by repeat' (first | refine yP ?_ ?_ | (show _=_;kernel_rfl))
@[go_sem] theorem yy27:yF 86 8 14 6 true∧yF 87 0 0 1 false∧yF 87 1 1 1 false∧yF 87 2 2 1 false∧yF 87 3 3 1 false∧yF 87 4 4 1 false∧yF 87 5 5 1 false∧yF 87 6 6 7 true∧yF 87 7 13 1 false∧yF 87 8 14 6 true∧yF 88 0 0 2 true∧yF 88 1 2 1 false∧yF 88 2 3 1 false∧yF 88 3 4 1 false∧yF 89 0 0 2 true∧yF 89 1 2 1 false∧yF 89 2 3 1 false∧yF 89 3 4 1 false∧yF 111 0 0 1 false∧yF 111 1 1 1 false∧yF 111 2 2 1 false∧yF 111 3 3 1 false∧yF 111 4 4 1 false∧yF 111 5 5 1 false∧yF 112 0 0 1 false∧yF 112 1 1 1 false∧yF 112 2 2 1 false∧yF 112 3 3 1 false∧yF 112 4 4 1 false∧yF 112 5 5 1 false:=by repeat' (first | refine yP ?_ ?_ | (show _=_;kernel_rfl))
@[go_sem] theorem yy28:yF 117 0 0 1 false∧yF 117 1 1 1 false∧yF 118 0 0 1 false∧yF 118 1 1 1 false∧yF 122 0 0 1 false∧yF 122 1 1 1 false∧yF 122 2 2 6 true∧yF 123 0 0 1 false∧yF 123 1 1 1 false∧yF 123 2 2 6 true∧yF 130 0 0 1 false∧yF 130 1 1 1 false∧yF 130 2 2 1 false∧yF 130 3 3 1 false∧yF 130 4 4 1 false∧yF 130 5 5 1 false∧yF 130 6 6 1 false∧yF 130 7 7 1 false∧yF 130 8 8 1 false∧yF 130 9 9 1 false∧yF 131 0 0 1 false∧yF 131 1 1 1 false∧yF 131 2 2 1 false∧yF 131 3 3 1 false∧yF 131 4 4 1 false∧yF 131 5 5 1 false∧yF 131 6 6 1 false∧yF 131 7 7 1 false∧yF 131 8 8 1 false∧yF 131 9 9 1 false:=by repeat' (first | refine yP ?_ ?_ | (show _=_;kernel_rfl))
@[go_sem] theorem yy29:yF 133 0 0 1 false∧yF 134 0 0 1 false∧yF 141 0 0 1 false∧yF 141 1 1 1 false∧yF 142 0 0 1 false∧yF 142 1 1 1 false∧yF 144 0 0 1 false∧yF 144 1 1 1 false∧yF 144 2 2 2 true∧yF 144 3 4 1 false∧yF 144 4 5 1 false∧yF 144 5 6 1 false∧yF 144 6 7 2 true∧yF 144 7 9 1 false∧yF 144 8 10 1 false∧yF 145 0 0 1 false∧yF 145 1 1 1 false∧yF 145 2 2 2 true∧yF 145 3 4 1 false∧yF 145 4 5 1 false∧yF 145 5 6 1 false∧yF 145 6 7 2 true∧yF 145 7 9 1 false∧yF 145 8 10 1 false∧yF 148 0 0 1 false∧yF 148 1 1 1 false∧yF 148 2 2 1 false∧yF 149 0 0 1 false∧yF 149 1 1 1 false∧yF 149 2 2 1 false:=by repeat' (first | refine yP ?_ ?_ | (show _=_;kernel_rfl))
@[go_sem] theorem yy30:yF 150 0 0 1 false∧yF 150 1 1 3 true∧yF 151 0 0 1 false∧yF 151 1 1 3 true∧yF 160 0 0 1 false∧yF 160 1 1 1 false∧yF 161 0 0 1 false∧yF 161 1 1 1 false∧yF 162 0 0 1 false∧yF 162 1 1 2 true∧yF 163 0 0 1 false∧yF 163 1 1 2 true∧yF 165 0 0 1 false∧yF 165 1 1 1 false∧yF 166 0 0 1 false∧yF 166 1 1 1 false∧yF 197 0 0 1 false∧yF 197 1 1 1 false∧yF 197 2 2 1 false∧yF 198 0 0 1 false∧yF 198 1 1 1 false∧yF 198 2 2 1 false∧yF 235 0 0 1 false∧yF 235 1 1 1 false∧yF 236 0 0 1 false∧yF 236 1 1 1 false∧yF 248 0 0 1 false∧yF 248 1 1 1 false∧yF 249 0 0 1 false∧yF 249 1 1 1 false:=by repeat' (first | refine yP ?_ ?_ | (show _=_;kernel_rfl))
@[go_sem] theorem yy31:yF 301 0 0 1 false∧yF 301 1 1 2 true∧yF 301 2 3 2 true∧yF 301 3 5 1 false∧yF 301 4 6 1 false∧yF 301 5 7 1 false∧yF 301 6 8 1 false∧yF 302 0 0 1 false∧yF 302 1 1 2 true∧yF 302 2 3 2 true∧yF 302 3 5 1 false∧yF 302 4 6 1 false∧yF 302 5 7 1 false∧yF 302 6 8 1 false∧yF 317 0 0 1 false∧yF 317 1 1 1 false∧yF 318 0 0 1 false∧yF 318 1 1 1 false∧yF 321 0 0 1 false∧yF 321 1 1 1 false∧yF 322 0 0 1 false∧yF 322 1 1 1 false∧yF 323 0 0 2 true∧yF 324 0 0 2 true∧yF 381 0 0 1 false∧yF 381 1 1 1 false∧yF 382 0 0 1 false∧yF 382 1 1 1 false∧yF 408 0 0 1 false∧yF 408 1 1 1 false:=by repeat' (first | refine yP ?_ ?_ | (show _=_;kernel_rfl))
@[go_sem] theorem yy32:yF 409 0 0 1 false∧yF 409 1 1 1 false∧yF 411 0 0 1 false∧yF 411 1 1 1 false∧yF 411 2 2 1 false∧yF 412 0 0 1 false∧yF 412 1 1 1 false∧yF 412 2 2 1 false∧yF 423 0 0 1 false∧yF 423 1 1 1 false∧yF 424 0 0 1 false∧yF 424 1 1 1 false∧yF 425 0 0 1 false∧yF 425 1 1 1 false∧yF 425 2 2 1 false∧yF 426 0 0 1 false∧yF 426 1 1 1 false∧yF 426 2 2 1 false∧yF 475 0 0 1 false∧yF 476 0 0 1 false∧yF 533 0 0 8 true∧yF 533 1 8 1 false∧yF 533 2 9 1 false∧yF 533 3 10 2 true∧yF 533 4 12 1 false∧yF 534 0 0 8 true∧yF 534 1 8 1 false∧yF 534 2 9 1 false∧yF 534 3 10 2 true∧yF 534 4 12 1 false:=by repeat' (first | refine yP ?_ ?_ | (show _=_;kernel_rfl))
@[go_sem] theorem yy33:yF 535 0 0 1 false∧yF 535 1 1 2 true∧yF 536 0 0 1 false∧yF 536 1 1 2 true∧yF 589 0 0 1 false∧yF 589 1 1 1 false∧yF 589 2 2 1 false∧yF 589 3 3 1 false∧yF 589 4 4 1 false∧yF 590 0 0 1 false∧yF 590 1 1 1 false∧yF 590 2 2 1 false∧yF 590 3 3 1 false∧yF 590 4 4 1 false∧yF 600 0 0 8 true∧yF 600 1 8 1 false∧yF 600 2 9 1 false∧yF 600 3 10 1 false∧yF 600 4 11 1 false∧yF 600 5 12 1 false∧yF 601 0 0 8 true∧yF 601 1 8 1 false∧yF 601 2 9 1 false∧yF 601 3 10 1 false∧yF 601 4 11 1 false∧yF 601 5 12 1 false∧yF 616 0 0 1 false∧yF 616 1 1 1 false∧yF 616 2 2 1 false∧yF 617 0 0 1 false:=by repeat' (first | refine yP ?_ ?_ | (show _=_;kernel_rfl))
@[go_sem] theorem yy34:yF 617 1 1 1 false∧yF 617 2 2 1 false∧yF 721 0 0 0 true∧yF 722 0 0 0 true∧yF 728 0 0 1 false∧yF 728 1 1 1 false∧yF 728 2 2 1 false∧yF 728 3 3 1 false∧yF 728 4 4 1 false∧yF 728 5 5 1 false∧yF 728 6 6 1 false∧yF 728 7 7 1 false∧yF 728 8 8 1 false∧yF 728 9 9 1 false∧yF 728 10 10 1 false∧yF 729 0 0 1 false∧yF 729 1 1 1 false∧yF 729 2 2 1 false∧yF 729 3 3 1 false∧yF 729 4 4 1 false∧yF 729 5 5 1 false∧yF 729 6 6 1 false∧yF 729 7 7 1 false∧yF 729 8 8 1 false∧yF 729 9 9 1 false∧yF 729 10 10 1 false:=by repeat' (first | refine yP ?_ ?_ | (show _=_;kernel_rfl))
@[go_sem] theorem yy35:yG 3∧yG 4∧yG 5∧yG 6∧yG 7∧yG 8∧yG 9∧yG 10∧yG 11∧yG 12∧yG 13∧yG 14∧yG 16∧yG 17∧yG 18∧yG 19∧yG 20∧yG 21∧yG 22∧yG 23∧yG 24∧yG 25∧yG 26∧yG 27∧yG 28∧yG 29∧yG 30∧yG 31∧yG 32∧yG 34:=by repeat' (first | refine yP ?_ ?_ | (show _=_;kernel_rfl))
@[go_sem] theorem yy36:yG 35∧yG 36∧yG 37∧yG 38∧yG 39∧yG 40∧yG 41∧yG 42∧yG 43∧yG 44∧yG 46∧yG 47∧yG 48∧yG 49∧yG 50∧yG 51∧yG 53∧yG 54∧yG 55∧yG 56∧yG 57∧yG 58∧yG 59∧yG 60∧yG 62∧yG 63∧yG 64∧yG 65∧yG 66∧yG 67:=by repeat' (first | refine yP ?_ ?_ | (show _=_;kernel_rfl))
@[go_sem] theorem yy37:yG 68∧yG 69∧yG 70∧yG 71∧yG 74∧yG 75∧yG 77∧yG 78∧yG 80∧yG 81∧yG 82∧yG 83∧yG 84∧yG 85∧yG 86∧yG 87∧yG 88∧yG 89∧yG 91∧yG 92∧yG 94∧yG 95∧yG 97∧yG 98∧yG 99∧yG 100∧yG 101∧yG 102∧yG 103∧yG 104:=by repeat' (first | refine yP ?_ ?_ | (show _=_;kernel_rfl))
@[go_sem] theorem yy38:yG 105∧yG 108∧yG 110∧yG 111∧yG 112∧yG 114∧yG 115∧yG 116∧yG 117∧yG 118∧yG 119∧yG 120∧yG 122∧yG 123∧yG 124∧yG 126∧yG 127∧yG 128∧yG 129∧yG 130∧yG 131∧yG 132∧yG 133∧yG 134∧yG 135∧yG 136∧yG 138∧yG 139∧yG 140∧yG 141:=by repeat' (first | refine yP ?_ ?_ | (show _=_;kernel_rfl))
@[go_sem] theorem yy39:yG 142∧yG 143∧yG 144∧yG 145∧yG 147∧yG 148∧yG 149∧yG 150∧yG 151∧yG 152∧yG 160∧yG 161∧yG 162∧yG 163∧yG 165∧yG 166∧yG 168∧yG 169∧yG 170∧yG 171∧yG 174∧yG 178∧yG 180∧yG 184∧yG 196∧yG 197∧yG 198∧yG 199∧yG 202∧yG 203:=by repeat' (first | refine yP ?_ ?_ | (show _=_;kernel_rfl))
@[go_sem] theorem yy40:yG 209∧yG 214∧yG 215∧yG 216∧yG 221∧yG 223∧yG 224∧yG 226∧yG 229∧yG 230∧yG 235∧yG 236∧yG 241∧yG 242∧yG 244∧yG 245∧yG 246∧yG 247∧yG 248∧yG 249∧yG 255∧yG 267∧yG 268∧yG 269∧yG 270∧yG 271∧yG 273∧yG 276∧yG 279∧yG 281:=by repeat' (first | refine yP ?_ ?_ | (show _=_;kernel_rfl))
@[go_sem] theorem yy41:yG 283∧yG 293∧yG 297∧yG 298∧yG 299∧yG 300∧yG 301∧yG 302∧yG 303∧yG 316∧yG 317∧yG 318∧yG 319∧yG 320∧yG 321∧yG 322∧yG 323∧yG 324∧yG 327∧yG 328∧yG 330∧yG 331∧yG 332∧yG 333∧yG 334∧yG 335∧yG 336∧yG 337∧yG 338∧yG 339:=by repeat' (first | refine yP ?_ ?_ | (show _=_;kernel_rfl))
@[go_sem] theorem yy42:yG 340∧yG 342∧yG 344∧yG 347∧yG 363∧yG 371∧yG 381∧yG 382∧yG 388∧yG 390∧yG 391∧yG 393∧yG 399∧yG 401∧yG 402∧yG 404∧yG 405∧yG 406∧yG 407∧yG 408∧yG 409∧yG 410∧yG 411∧yG 412∧yG 414∧yG 415∧yG 422∧yG 423∧yG 424∧yG 425:=by repeat' (first | refine yP ?_ ?_ | (show _=_;kernel_rfl))
@[go_sem] theorem yy43:yG 426∧yG 427∧yG 431∧yG 445∧yG 446∧yG 447∧yG 448∧yG 449∧yG 450∧yG 451∧yG 452∧yG 453∧yG 454∧yG 455∧yG 456∧yG 457∧yG 458∧yG 465∧yG 474∧yG 475∧yG 476∧yG 493∧yG 498∧yG 500∧yG 507∧yG 512∧yG 514∧yG 515∧yG 523∧yG 524:=by repeat' (first | refine yP ?_ ?_ | (show _=_;kernel_rfl))
@[go_sem] theorem yy44:yG 525∧yG 526∧yG 527∧yG 528∧yG 529∧yG 533∧yG 534∧yG 535∧yG 538∧yG 539∧yG 543∧yG 544∧yG 545∧yG 553∧yG 554∧yG 555∧yG 556∧yG 557∧yG 558∧yG 559∧yG 560∧yG 561∧yG 566∧yG 572∧yG 573∧yG 580∧yG 589∧yG 590∧yG 592∧yG 593:=by repeat' (first | refine yP ?_ ?_ | (show _=_;kernel_rfl))
@[go_sem] theorem yy45:yG 601∧yG 606∧yG 607∧yG 608∧yG 619∧yG 621∧yG 622∧yG 628∧yG 638∧yG 639∧yG 640∧yG 641∧yG 642∧yG 647∧yG 651∧yG 669∧yG 670∧yG 671∧yG 672∧yG 673∧yG 675∧yG 692∧yG 695∧yG 696∧yG 697∧yG 698∧yG 700:=by repeat' (first | refine yP ?_ ?_ | (show _=_;kernel_rfl))
@[go_sem] theorem Tryz.api3:al_ Tryz.prog 3=some (1,8):=by kernel_rfl
@[go_sem] theorem Tryz.api4:al_ Tryz.prog 4=some (1,1):=by kernel_rfl
@[go_sem] theorem Tryz.api5:al_ Tryz.prog 5=some (1,1):=by kernel_rfl
@[go_sem] theorem Tryz.abi7:ab_ Tryz.prog 7=some ([(0,1),(1,1),(2,1),(3,1)],0,[.int .i64 0,.int .i64 0,.bool false,.int .u8 0]):=by kernel_rfl
@[go_sem] theorem Tryz.abi8:ab_ Tryz.prog 8=some ([(0,1),(1,1),(2,1),(3,1)],0,[.int .i64 0,.int .i64 0,.bool false,.int .u8 0]):=by kernel_rfl
@[go_sem] theorem Tryz.ais9:ak_ Tryz.prog 9=true:=by kernel_rfl
@[go_sem] theorem Tryz.api9:al_ Tryz.prog 9=some (1,16):=by kernel_rfl
@[go_sem] theorem Tryz.ais10:ak_ Tryz.prog 10=true:=by kernel_rfl
@[go_sem] theorem Tryz.ais11:ak_ Tryz.prog 11=true:=by kernel_rfl
@[go_sem] theorem Tryz.abi13:ab_ Tryz.prog 13=some ([(0,1),(1,1)],0,[.string ⟨#[]⟩,.int .u64 0]):=by kernel_rfl
@[go_sem] theorem Tryz.abi14:ab_ Tryz.prog 14=some ([(0,1),(1,1)],0,[.string ⟨#[]⟩,.int .u64 0]):=by kernel_rfl
@[go_sem] theorem Tryz.abi18:ab_ Tryz.prog 18=some ([(0,1)],0,[.pointer none]):=by kernel_rfl
@[go_sem] theorem Tryz.abi19:ab_ Tryz.prog 19=some ([(0,1)],0,[.pointer none]):=by kernel_rfl
@[go_sem] theorem Tryz.ais22:ak_ Tryz.prog 22=false:=by kernel_rfl
@[go_sem] theorem Tryz.ase22:ad_ Tryz.prog 22=some 27:=by kernel_rfl
@[go_sem] theorem Tryz.ais23:ak_ Tryz.prog 23=false:=by kernel_rfl
@[go_sem] theorem Tryz.api23:al_ Tryz.prog 23=some (1,24):=by kernel_rfl
@[go_sem] theorem Tryz.ase23:ad_ Tryz.prog 23=some 198:=by kernel_rfl
@[go_sem] theorem Tryz.abi24:ab_ Tryz.prog 24=some ([(0,1),(1,1),(2,1),(3,1),(4,1),(5,1),(6,1)],0,[.int .i64 0,.string ⟨#[]⟩,.string ⟨#[]⟩,.string ⟨#[]⟩,.string ⟨#[]⟩,.slice none 0 0,.int .i64 0]):=by kernel_rfl
@[go_sem] theorem Tryz.abi25:ab_ Tryz.prog 25=some ([(0,1),(1,1),(2,1),(3,1),(4,1),(5,1),(6,1)],0,[.int .i64 0,.string ⟨#[]⟩,.string ⟨#[]⟩,.string ⟨#[]⟩,.string ⟨#[]⟩,.slice none 0 0,.int .i64 0]):=by kernel_rfl
@[go_sem] theorem Tryz.abi26:ab_ Tryz.prog 26=some ([(0,1),(1,1),(2,1),(3,1)],0,[.string ⟨#[]⟩,.string ⟨#[]⟩,.string ⟨#[]⟩,.bool false]):=by kernel_rfl
@[go_sem] theorem Tryz.api27:al_ Tryz.prog 27=some (4,56):=by kernel_rfl
@[go_sem] theorem Tryz.abi27:ab_ Tryz.prog 27=some ([(0,1),(1,1),(2,1),(3,1)],0,[.string ⟨#[]⟩,.string ⟨#[]⟩,.string ⟨#[]⟩,.bool false]):=by kernel_rfl
@[go_sem] theorem Tryz.abi28:ab_ Tryz.prog 28=some ([(0,1),(1,1),(2,1),(3,1),(4,1),(5,1),(6,4)],0,[.int .i64 0,.string ⟨#[]⟩,.string ⟨#[]⟩,.string ⟨#[]⟩,.string ⟨#[]⟩,.int .i64 0,.string ⟨#[]⟩,.string ⟨#[]⟩,.string ⟨#[]⟩,.bool false]):=by kernel_rfl
@[go_sem] theorem Tryz.abi29:ab_ Tryz.prog 29=some ([(0,1),(1,1),(2,1),(3,1),(4,1),(5,1),(6,4)],0,[.int .i64 0,.string ⟨#[]⟩,.string ⟨#[]⟩,.string ⟨#[]⟩,.string ⟨#[]⟩,.int .i64 0,.string ⟨#[]⟩,.string ⟨#[]⟩,.string ⟨#[]⟩,.bool false]):=by kernel_rfl
@[go_sem] theorem Tryz.abi30:ab_ Tryz.prog 30=some ([(0,1),(1,1),(2,1),(3,1),(4,1),(5,7),(12,10)],0,[.int .i64 0,.string ⟨#[]⟩,.string ⟨#[]⟩,.string ⟨#[]⟩,.int .i64 0,.int .i64 0,.string ⟨#[]⟩,.string ⟨#[]⟩,.string ⟨#[]⟩,.string ⟨#[]⟩,.slice none 0 0,.int .i64 0,.int .i64 0,.string ⟨#[]⟩,.string ⟨#[]⟩,.string ⟨#[]⟩,.string ⟨#[]⟩,.int .i64 0,.string ⟨#[]⟩,.string ⟨#[]⟩,.string ⟨#[]⟩,.bool false]):=by kernel_rfl
@[go_sem] theorem Tryz.api31:al_ Tryz.prog 31=some (22,304):=by kernel_rfl
@[go_sem] theorem Tryz.abi31:ab_ Tryz.prog 31=some ([(0,1),(1,1),(2,1),(3,1),(4,1),(5,7),(12,10)],0,[.int .i64 0,.string ⟨#[]⟩,.string ⟨#[]⟩,.string ⟨#[]⟩,.int .i64 0,.int .i64 0,.string ⟨#[]⟩,.string ⟨#[]⟩,.string ⟨#[]⟩,.string ⟨#[]⟩,.slice none 0 0,.int .i64 0,.int .i64 0,.string ⟨#[]⟩,.string ⟨#[]⟩,.string ⟨#[]⟩,.string ⟨#[]⟩,.int .i64 0,.string ⟨#[]⟩,.string ⟨#[]⟩,.string ⟨#[]⟩,.bool false]):=by kernel_rfl
@[go_sem] theorem Tryz.ais34:ak_ Tryz.prog 34=false:=by kernel_rfl
@[go_sem] theorem Tryz.ase34:ad_ Tryz.prog 34=some 31:=by kernel_rfl
@[go_sem] theorem Tryz.api35:al_ Tryz.prog 35=some (1,8):=by kernel_rfl
@[go_sem] theorem Tryz.api36:al_ Tryz.prog 36=some (1,8):=by kernel_rfl
@[go_sem] theorem Tryz.ais39:ak_ Tryz.prog 39=false:=by kernel_rfl
@[go_sem] theorem Tryz.ase39:ad_ Tryz.prog 39=some 87:=by kernel_rfl
@[go_sem] theorem Tryz.abi41:ab_ Tryz.prog 41=some ([(0,1),(1,1),(2,1),(3,1),(4,1)],0,[.map none,.pointer none,.slice none 0 0,.int .i64 0,.map none]):=by kernel_rfl
@[go_sem] theorem Tryz.abi42:ab_ Tryz.prog 42=some ([(0,1),(1,1),(2,1),(3,1),(4,1)],0,[.map none,.pointer none,.slice none 0 0,.int .i64 0,.map none]):=by kernel_rfl
@[go_sem] theorem Tryz.ais43:ak_ Tryz.prog 43=false:=by kernel_rfl
@[go_sem] theorem Tryz.ase43:ad_ Tryz.prog 43=some 36:=by kernel_rfl
@[go_sem] theorem Tryz.ais47:ak_ Tryz.prog 47=false:=by kernel_rfl
@[go_sem] theorem Tryz.api47:al_ Tryz.prog 47=some (1,24):=by kernel_rfl
@[go_sem] theorem Tryz.ase47:ad_ Tryz.prog 47=some 9:=by kernel_rfl
@[go_sem] theorem Tryz.ais51:ak_ Tryz.prog 51=false:=by kernel_rfl
@[go_sem] theorem Tryz.api51:al_ Tryz.prog 51=some (1,24):=by kernel_rfl
@[go_sem] theorem Tryz.ase51:ad_ Tryz.prog 51=some 151:=by kernel_rfl
@[go_sem] theorem Tryz.ais53:ak_ Tryz.prog 53=false:=by kernel_rfl
@[go_sem] theorem Tryz.ase53:ad_ Tryz.prog 53=some 236:=by kernel_rfl
@[go_sem] theorem Tryz.ais55:ak_ Tryz.prog 55=false:=by kernel_rfl
@[go_sem] theorem Tryz.api55:al_ Tryz.prog 55=some (1,24):=by kernel_rfl
@[go_sem] theorem Tryz.ase55:ad_ Tryz.prog 55=some 163:=by kernel_rfl
@[go_sem] theorem Tryz.ais56:ak_ Tryz.prog 56=false:=by kernel_rfl
@[go_sem] theorem Tryz.ase56:ad_ Tryz.prog 56=some 166:=by kernel_rfl
@[go_sem] theorem Tryz.abi57:ab_ Tryz.prog 57=some ([(0,1),(1,1)],0,[.slice none 0 0,.slice none 0 0]):=by kernel_rfl
@[go_sem] theorem Tryz.abi58:ab_ Tryz.prog 58=some ([(0,1),(1,1)],0,[.slice none 0 0,.slice none 0 0]):=by kernel_rfl
@[go_sem] theorem Tryz.abi62:ab_ Tryz.prog 62=some ([(0,1),(1,1)],0,[.slice none 0 0,.slice none 0 0]):=by kernel_rfl
@[go_sem] theorem Tryz.abi63:ab_ Tryz.prog 63=some ([(0,1),(1,1)],0,[.slice none 0 0,.slice none 0 0]):=by kernel_rfl
@[go_sem] theorem Tryz.abi66:ab_ Tryz.prog 66=some ([(0,1),(1,1),(2,1),(3,1),(4,1),(5,1),(6,1),(7,1)],0,[.int .i64 0,.int .i64 0,.int .i64 0,.int .i64 0,.int .i64 0,.bool false,.bool false,.bool false]):=by kernel_rfl
@[go_sem] theorem Tryz.abi67:ab_ Tryz.prog 67=some ([(0,1),(1,1),(2,1),(3,1),(4,1),(5,1),(6,1),(7,1)],0,[.int .i64 0,.int .i64 0,.int .i64 0,.int .i64 0,.int .i64 0,.bool false,.bool false,.bool false]):=by kernel_rfl
@[go_sem] theorem Tryz.ais81:ak_ Tryz.prog 81=false:=by kernel_rfl
@[go_sem] theorem Tryz.api81:al_ Tryz.prog 81=some (1,24):=by kernel_rfl
@[go_sem] theorem Tryz.ase81:ad_ Tryz.prog 81=some 89:=by kernel_rfl
@[go_sem] theorem Tryz.abi82:ab_ Tryz.prog 82=some ([(0,1),(1,1)],0,[.string ⟨#[]⟩,.int .i64 0]):=by kernel_rfl
@[go_sem] theorem Tryz.abi83:ab_ Tryz.prog 83=some ([(0,1),(1,1)],0,[.string ⟨#[]⟩,.int .i64 0]):=by kernel_rfl
@[go_sem] theorem Tryz.abi84:ab_ Tryz.prog 84=some ([(0,1),(1,1),(2,1),(3,1),(4,2)],0,[.int .i64 0,.slice none 0 0,.slice none 0 0,.slice none 0 0,.string ⟨#[]⟩,.int .i64 0]):=by kernel_rfl
@[go_sem] theorem Tryz.abi85:ab_ Tryz.prog 85=some ([(0,1),(1,1),(2,1),(3,1),(4,2)],0,[.int .i64 0,.slice none 0 0,.slice none 0 0,.slice none 0 0,.string ⟨#[]⟩,.int .i64 0]):=by kernel_rfl
@[go_sem] theorem Tryz.abi86:ab_ Tryz.prog 86=some ([(0,1),(1,1),(2,1),(3,1),(4,1),(5,1),(6,7),(13,1),(14,6)],0,[.string ⟨#[]⟩,.string ⟨#[]⟩,.int .i64 0,.int .i64 0,.int .i64 0,.int .i64 0,.int .i64 0,.string ⟨#[]⟩,.string ⟨#[]⟩,.string ⟨#[]⟩,.string ⟨#[]⟩,.slice none 0 0,.int .i64 0,.bool false,.int .i64 0,.slice none 0 0,.slice none 0 0,.slice none 0 0,.string ⟨#[]⟩,.int .i64 0]):=by kernel_rfl
@[go_sem] theorem Tryz.api87:al_ Tryz.prog 87=some (20,280):=by kernel_rfl
@[go_sem] theorem Tryz.abi87:ab_ Tryz.prog 87=some ([(0,1),(1,1),(2,1),(3,1),(4,1),(5,1),(6,7),(13,1),(14,6)],0,[.string ⟨#[]⟩,.string ⟨#[]⟩,.int .i64 0,.int .i64 0,.int .i64 0,.int .i64 0,.int .i64 0,.string ⟨#[]⟩,.string ⟨#[]⟩,.string ⟨#[]⟩,.string ⟨#[]⟩,.slice none 0 0,.int .i64 0,.bool false,.int .i64 0,.slice none 0 0,.slice none 0 0,.slice none 0 0,.string ⟨#[]⟩,.int .i64 0]):=by kernel_rfl
@[go_sem] theorem Tryz.abi88:ab_ Tryz.prog 88=some ([(0,2),(2,1),(3,1),(4,1)],0,[.string ⟨#[]⟩,.int .i64 0,.string ⟨#[]⟩,.bool false,.int .i64 0]):=by kernel_rfl
@[go_sem] theorem Tryz.api89:al_ Tryz.prog 89=some (5,56):=by kernel_rfl
@[go_sem] theorem Tryz.abi89:ab_ Tryz.prog 89=some ([(0,2),(2,1),(3,1),(4,1)],0,[.string ⟨#[]⟩,.int .i64 0,.string ⟨#[]⟩,.bool false,.int .i64 0]):=by kernel_rfl
@[go_sem] theorem Tryz.ais104:ak_ Tryz.prog 104=false:=by kernel_rfl
@[go_sem] theorem Tryz.ase104:ad_ Tryz.prog 104=some 112:=by kernel_rfl
@[go_sem] theorem Tryz.abi111:ab_ Tryz.prog 111=some ([(0,1),(1,1),(2,1),(3,1),(4,1),(5,1)],0,[.string ⟨#[]⟩,.string ⟨#[]⟩,.int .i64 0,.int .i64 0,.int .i64 0,.int .i64 0]):=by kernel_rfl
@[go_sem] theorem Tryz.api112:al_ Tryz.prog 112=some (6,64):=by kernel_rfl
@[go_sem] theorem Tryz.abi112:ab_ Tryz.prog 112=some ([(0,1),(1,1),(2,1),(3,1),(4,1),(5,1)],0,[.string ⟨#[]⟩,.string ⟨#[]⟩,.int .i64 0,.int .i64 0,.int .i64 0,.int .i64 0]):=by kernel_rfl
@[go_sem] theorem Tryz.ais115:ak_ Tryz.prog 115=false:=by kernel_rfl
@[go_sem] theorem Tryz.ase115:ad_ Tryz.prog 115=some 118:=by kernel_rfl
@[go_sem] theorem Tryz.abi117:ab_ Tryz.prog 117=some ([(0,1),(1,1)],0,[.string ⟨#[]⟩,.string ⟨#[]⟩]):=by kernel_rfl
@[go_sem] theorem Tryz.api118:al_ Tryz.prog 118=some (2,32):=by kernel_rfl
@[go_sem] theorem Tryz.abi118:ab_ Tryz.prog 118=some ([(0,1),(1,1)],0,[.string ⟨#[]⟩,.string ⟨#[]⟩]):=by kernel_rfl
@[go_sem] theorem Tryz.ais120:ak_ Tryz.prog 120=false:=by kernel_rfl
@[go_sem] theorem Tryz.ase120:ad_ Tryz.prog 120=some 123:=by kernel_rfl
@[go_sem] theorem Tryz.abi122:ab_ Tryz.prog 122=some ([(0,1),(1,1),(2,6)],0,[.string ⟨#[]⟩,.int .i64 0,.int .i64 0,.slice none 0 0,.slice none 0 0,.slice none 0 0,.string ⟨#[]⟩,.int .i64 0]):=by kernel_rfl
@[go_sem] theorem Tryz.api123:al_ Tryz.prog 123=some (8,128):=by kernel_rfl
@[go_sem] theorem Tryz.abi123:ab_ Tryz.prog 123=some ([(0,1),(1,1),(2,6)],0,[.string ⟨#[]⟩,.int .i64 0,.int .i64 0,.slice none 0 0,.slice none 0 0,.slice none 0 0,.string ⟨#[]⟩,.int .i64 0]):=by kernel_rfl
@[go_sem] theorem Tryz.abi130:ab_ Tryz.prog 130=some ([(0,1),(1,1),(2,1),(3,1),(4,1),(5,1),(6,1),(7,1),(8,1),(9,1)],0,[.string ⟨#[]⟩,.bool false,.int .i64 0,.int .i64 0,.pointer none,.slice none 0 0,.slice none 0 0,.map none,.slice none 0 0,.slice none 0 0]):=by kernel_rfl
@[go_sem] theorem Tryz.abi131:ab_ Tryz.prog 131=some ([(0,1),(1,1),(2,1),(3,1),(4,1),(5,1),(6,1),(7,1),(8,1),(9,1)],0,[.string ⟨#[]⟩,.bool false,.int .i64 0,.int .i64 0,.pointer none,.slice none 0 0,.slice none 0 0,.map none,.slice none 0 0,.slice none 0 0]):=by kernel_rfl
@[go_sem] theorem Tryz.abi133:ab_ Tryz.prog 133=some ([(0,1)],0,[.map none]):=by kernel_rfl
@[go_sem] theorem Tryz.abi134:ab_ Tryz.prog 134=some ([(0,1)],0,[.map none]):=by kernel_rfl
@[go_sem] theorem Tryz.abi141:ab_ Tryz.prog 141=some ([(0,1),(1,1)],0,[.int .i64 0,.int .i64 0]):=by kernel_rfl
@[go_sem] theorem Tryz.abi142:ab_ Tryz.prog 142=some ([(0,1),(1,1)],0,[.int .i64 0,.int .i64 0]):=by kernel_rfl
@[go_sem] theorem Tryz.abi144:ab_ Tryz.prog 144=some ([(0,1),(1,1),(2,2),(4,1),(5,1),(6,1),(7,2),(9,1),(10,1)],0,[.string ⟨#[]⟩,.pointer none,.slice none 0 0,.slice none 0 0,.map none,.int .i64 0,.pointer none,.int .i64 0,.int .i64 0,.pointer none,.slice none 0 0]):=by kernel_rfl
@[go_sem] theorem Tryz.abi145:ab_ Tryz.prog 145=some ([(0,1),(1,1),(2,2),(4,1),(5,1),(6,1),(7,2),(9,1),(10,1)],0,[.string ⟨#[]⟩,.pointer none,.slice none 0 0,.slice none 0 0,.map none,.int .i64 0,.pointer none,.int .i64 0,.int .i64 0,.pointer none,.slice none 0 0]):=by kernel_rfl
@[go_sem] theorem Tryz.abi148:ab_ Tryz.prog 148=some ([(0,1),(1,1),(2,1)],0,[.int .i64 0,.string ⟨#[]⟩,.string ⟨#[]⟩]):=by kernel_rfl
@[go_sem] theorem Tryz.abi149:ab_ Tryz.prog 149=some ([(0,1),(1,1),(2,1)],0,[.int .i64 0,.string ⟨#[]⟩,.string ⟨#[]⟩]):=by kernel_rfl
@[go_sem] theorem Tryz.abi150:ab_ Tryz.prog 150=some ([(0,1),(1,3)],0,[.string ⟨#[]⟩,.int .i64 0,.string ⟨#[]⟩,.string ⟨#[]⟩]):=by kernel_rfl
@[go_sem] theorem Tryz.api151:al_ Tryz.prog 151=some (4,56):=by kernel_rfl
@[go_sem] theorem Tryz.abi151:ab_ Tryz.prog 151=some ([(0,1),(1,3)],0,[.string ⟨#[]⟩,.int .i64 0,.string ⟨#[]⟩,.string ⟨#[]⟩]):=by kernel_rfl
@[go_sem] theorem Tryz.abi160:ab_ Tryz.prog 160=some ([(0,1),(1,1)],0,[.slice none 0 0,.slice none 0 0]):=by kernel_rfl
@[go_sem] theorem Tryz.abi161:ab_ Tryz.prog 161=some ([(0,1),(1,1)],0,[.slice none 0 0,.slice none 0 0]):=by kernel_rfl
@[go_sem] theorem Tryz.abi162:ab_ Tryz.prog 162=some ([(0,1),(1,2)],0,[.string ⟨#[]⟩,.slice none 0 0,.slice none 0 0]):=by kernel_rfl
@[go_sem] theorem Tryz.api163:al_ Tryz.prog 163=some (3,64):=by kernel_rfl
@[go_sem] theorem Tryz.abi163:ab_ Tryz.prog 163=some ([(0,1),(1,2)],0,[.string ⟨#[]⟩,.slice none 0 0,.slice none 0 0]):=by kernel_rfl
@[go_sem] theorem Tryz.abi165:ab_ Tryz.prog 165=some ([(0,1),(1,1)],0,[.string ⟨#[]⟩,.int .i64 0]):=by kernel_rfl
@[go_sem] theorem Tryz.api166:al_ Tryz.prog 166=some (2,24):=by kernel_rfl
@[go_sem] theorem Tryz.abi166:ab_ Tryz.prog 166=some ([(0,1),(1,1)],0,[.string ⟨#[]⟩,.int .i64 0]):=by kernel_rfl
@[go_sem] theorem Tryz.ais196:ak_ Tryz.prog 196=false:=by kernel_rfl
@[go_sem] theorem Tryz.api196:al_ Tryz.prog 196=some (1,24):=by kernel_rfl
@[go_sem] theorem Tryz.ase196:ad_ Tryz.prog 196=some 3:=by kernel_rfl
@[go_sem] theorem Tryz.abi197:ab_ Tryz.prog 197=some ([(0,1),(1,1),(2,1)],0,[.string ⟨#[]⟩,.int .i64 0,.slice none 0 0]):=by kernel_rfl
@[go_sem] theorem Tryz.api198:al_ Tryz.prog 198=some (3,48):=by kernel_rfl
@[go_sem] theorem Tryz.abi198:ab_ Tryz.prog 198=some ([(0,1),(1,1),(2,1)],0,[.string ⟨#[]⟩,.int .i64 0,.slice none 0 0]):=by kernel_rfl
@[go_sem] theorem Tryz.ais203:ak_ Tryz.prog 203=false:=by kernel_rfl
@[go_sem] theorem Tryz.ase203:ad_ Tryz.prog 203=some 382:=by kernel_rfl
@[go_sem] theorem Tryz.abi235:ab_ Tryz.prog 235=some ([(0,1),(1,1)],0,[.string ⟨#[]⟩,.bool false]):=by kernel_rfl
@[go_sem] theorem Tryz.api236:al_ Tryz.prog 236=some (2,24):=by kernel_rfl
@[go_sem] theorem Tryz.abi236:ab_ Tryz.prog 236=some ([(0,1),(1,1)],0,[.string ⟨#[]⟩,.bool false]):=by kernel_rfl
@[go_sem] theorem Tryz.ais247:ak_ Tryz.prog 247=false:=by kernel_rfl
@[go_sem] theorem Tryz.ase247:ad_ Tryz.prog 247=some 5:=by kernel_rfl
@[go_sem] theorem Tryz.abi248:ab_ Tryz.prog 248=some ([(0,1),(1,1)],0,[.slice none 0 0,.int .i64 0]):=by kernel_rfl
@[go_sem] theorem Tryz.abi249:ab_ Tryz.prog 249=some ([(0,1),(1,1)],0,[.slice none 0 0,.int .i64 0]):=by kernel_rfl
@[go_sem] theorem Tryz.abi301:ab_ Tryz.prog 301=some ([(0,1),(1,2),(3,2),(5,1),(6,1),(7,1),(8,1)],0,[.string ⟨#[]⟩,.string ⟨#[]⟩,.int .i64 0,.slice none 0 0,.slice none 0 0,.pointer none,.pointer none,.pointer none,.bool false]):=by kernel_rfl
@[go_sem] theorem Tryz.abi302:ab_ Tryz.prog 302=some ([(0,1),(1,2),(3,2),(5,1),(6,1),(7,1),(8,1)],0,[.string ⟨#[]⟩,.string ⟨#[]⟩,.int .i64 0,.slice none 0 0,.slice none 0 0,.pointer none,.pointer none,.pointer none,.bool false]):=by kernel_rfl
@[go_sem] theorem Tryz.abi317:ab_ Tryz.prog 317=some ([(0,1),(1,1)],0,[.string ⟨#[]⟩,.bool false]):=by kernel_rfl
@[go_sem] theorem Tryz.abi318:ab_ Tryz.prog 318=some ([(0,1),(1,1)],0,[.string ⟨#[]⟩,.bool false]):=by kernel_rfl
@[go_sem] theorem Tryz.abi321:ab_ Tryz.prog 321=some ([(0,1),(1,1)],0,[.pointer none,.slice none 0 0]):=by kernel_rfl
@[go_sem] theorem Tryz.abi322:ab_ Tryz.prog 322=some ([(0,1),(1,1)],0,[.pointer none,.slice none 0 0]):=by kernel_rfl
@[go_sem] theorem Tryz.abi323:ab_ Tryz.prog 323=some ([(0,2)],0,[.pointer none,.slice none 0 0]):=by kernel_rfl
@[go_sem] theorem Tryz.abi324:ab_ Tryz.prog 324=some ([(0,2)],0,[.pointer none,.slice none 0 0]):=by kernel_rfl
@[go_sem] theorem Tryz.ais327:ak_ Tryz.prog 327=false:=by kernel_rfl
@[go_sem] theorem Tryz.ase327:ad_ Tryz.prog 327=some 328:=by kernel_rfl
@[go_sem] theorem Tryz.ais328:ak_ Tryz.prog 328=false:=by kernel_rfl
@[go_sem] theorem Tryz.api328:al_ Tryz.prog 328=some (2,16):=by kernel_rfl
@[go_sem] theorem Tryz.aal328:cf_ Tryz.prog 328=some (2,3):=by kernel_rfl
@[go_sem] theorem Tryz.abi328:ab_ Tryz.prog 328=some ([],1,[.int .i64 0,.int .i64 0]):=by kernel_rfl
@[go_sem] theorem Tryz.ais363:ak_ Tryz.prog 363=false:=by kernel_rfl
@[go_sem] theorem Tryz.ase363:ad_ Tryz.prog 363=some 51:=by kernel_rfl
@[go_sem] theorem Tryz.abi381:ab_ Tryz.prog 381=some ([(0,1),(1,1)],0,[.string ⟨#[]⟩,.string ⟨#[]⟩]):=by kernel_rfl
@[go_sem] theorem Tryz.api382:al_ Tryz.prog 382=some (2,32):=by kernel_rfl
@[go_sem] theorem Tryz.abi382:ab_ Tryz.prog 382=some ([(0,1),(1,1)],0,[.string ⟨#[]⟩,.string ⟨#[]⟩]):=by kernel_rfl
@[go_sem] theorem Tryz.ais405:ak_ Tryz.prog 405=false:=by kernel_rfl
@[go_sem] theorem Tryz.ase405:ad_ Tryz.prog 405=some 410:=by kernel_rfl
@[go_sem] theorem Tryz.ais406:ak_ Tryz.prog 406=false:=by kernel_rfl
@[go_sem] theorem Tryz.ase406:ad_ Tryz.prog 406=some 410:=by kernel_rfl
@[go_sem] theorem Tryz.abi408:ab_ Tryz.prog 408=some ([(0,1),(1,1)],0,[.slice none 0 0,.map none]):=by kernel_rfl
@[go_sem] theorem Tryz.abi409:ab_ Tryz.prog 409=some ([(0,1),(1,1)],0,[.slice none 0 0,.map none]):=by kernel_rfl
@[go_sem] theorem Tryz.api410:al_ Tryz.prog 410=some (1,8):=by kernel_rfl
@[go_sem] theorem Tryz.abi411:ab_ Tryz.prog 411=some ([(0,1),(1,1),(2,1)],0,[.int .i64 0,.int .i64 0,.int .i64 0]):=by kernel_rfl
@[go_sem] theorem Tryz.abi412:ab_ Tryz.prog 412=some ([(0,1),(1,1),(2,1)],0,[.int .i64 0,.int .i64 0,.int .i64 0]):=by kernel_rfl
@[go_sem] theorem Tryz.abi423:ab_ Tryz.prog 423=some ([(0,1),(1,1)],0,[.int .i64 0,.map none]):=by kernel_rfl
@[go_sem] theorem Tryz.abi424:ab_ Tryz.prog 424=some ([(0,1),(1,1)],0,[.int .i64 0,.map none]):=by kernel_rfl
@[go_sem] theorem Tryz.abi425:ab_ Tryz.prog 425=some ([(0,1),(1,1),(2,1)],0,[.int .i64 0,.string ⟨#[]⟩,.map none]):=by kernel_rfl
@[go_sem] theorem Tryz.abi426:ab_ Tryz.prog 426=some ([(0,1),(1,1),(2,1)],0,[.int .i64 0,.string ⟨#[]⟩,.map none]):=by kernel_rfl
@[go_sem] theorem Tryz.abi475:ab_ Tryz.prog 475=some ([(0,1)],0,[.pointer none]):=by kernel_rfl
@[go_sem] theorem Tryz.abi476:ab_ Tryz.prog 476=some ([(0,1)],0,[.pointer none]):=by kernel_rfl
@[go_sem] theorem Tryz.abi533:ab_ Tryz.prog 533=some ([(0,8),(8,1),(9,1),(10,2),(12,1)],0,[.int .i64 0,.int .i64 0,.int .i64 0,.int .i64 0,.int .i64 0,.bool false,.bool false,.bool false,.slice none 0 0,.map none,.slice none 0 0,.slice none 0 0,.int .i64 0]):=by kernel_rfl
@[go_sem] theorem Tryz.abi534:ab_ Tryz.prog 534=some ([(0,8),(8,1),(9,1),(10,2),(12,1)],0,[.int .i64 0,.int .i64 0,.int .i64 0,.int .i64 0,.int .i64 0,.bool false,.bool false,.bool false,.slice none 0 0,.map none,.slice none 0 0,.slice none 0 0,.int .i64 0]):=by kernel_rfl
@[go_sem] theorem Tryz.abi535:ab_ Tryz.prog 535=some ([(0,1),(1,2)],0,[.int .i64 0,.slice none 0 0,.slice none 0 0]):=by kernel_rfl
@[go_sem] theorem Tryz.abi536:ab_ Tryz.prog 536=some ([(0,1),(1,2)],0,[.int .i64 0,.slice none 0 0,.slice none 0 0]):=by kernel_rfl
@[go_sem] theorem Tryz.abi589:ab_ Tryz.prog 589=some ([(0,1),(1,1),(2,1),(3,1),(4,1)],0,[.string ⟨#[]⟩,.slice none 0 0,.map none,.bool false,.slice none 0 0]):=by kernel_rfl
@[go_sem] theorem Tryz.abi590:ab_ Tryz.prog 590=some ([(0,1),(1,1),(2,1),(3,1),(4,1)],0,[.string ⟨#[]⟩,.slice none 0 0,.map none,.bool false,.slice none 0 0]):=by kernel_rfl
@[go_sem] theorem Tryz.abi600:ab_ Tryz.prog 600=some ([(0,8),(8,1),(9,1),(10,1),(11,1),(12,1)],0,[.int .i64 0,.int .i64 0,.int .i64 0,.int .i64 0,.int .i64 0,.bool false,.bool false,.bool false,.slice none 0 0,.map none,.bool false,.int .i64 0,.int .i64 0]):=by kernel_rfl
@[go_sem] theorem Tryz.abi601:ab_ Tryz.prog 601=some ([(0,8),(8,1),(9,1),(10,1),(11,1),(12,1)],0,[.int .i64 0,.int .i64 0,.int .i64 0,.int .i64 0,.int .i64 0,.bool false,.bool false,.bool false,.slice none 0 0,.map none,.bool false,.int .i64 0,.int .i64 0]):=by kernel_rfl
@[go_sem] theorem Tryz.abi616:ab_ Tryz.prog 616=some ([(0,1),(1,1),(2,1)],0,[.slice none 0 0,.map none,.map none]):=by kernel_rfl
@[go_sem] theorem Tryz.abi617:ab_ Tryz.prog 617=some ([(0,1),(1,1),(2,1)],0,[.slice none 0 0,.map none,.map none]):=by kernel_rfl
@[go_sem] theorem Tryz.ais638:ak_ Tryz.prog 638=false:=by kernel_rfl
@[go_sem] theorem Tryz.ase638:ad_ Tryz.prog 638=some 35:=by kernel_rfl
@[go_sem] theorem Tryz.ais647:ak_ Tryz.prog 647=false:=by kernel_rfl
@[go_sem] theorem Tryz.ase647:ad_ Tryz.prog 647=some 81:=by kernel_rfl
@[go_sem] theorem Tryz.ais675:ak_ Tryz.prog 675=false:=by kernel_rfl
@[go_sem] theorem Tryz.ase675:ad_ Tryz.prog 675=some 23:=by kernel_rfl
@[go_sem] theorem Tryz.ais692:ak_ Tryz.prog 692=false:=by kernel_rfl
@[go_sem] theorem Tryz.ase692:ad_ Tryz.prog 692=some 47:=by kernel_rfl
@[go_sem] theorem Tryz.ais696:ak_ Tryz.prog 696=false:=by kernel_rfl
@[go_sem] theorem Tryz.ase696:ad_ Tryz.prog 696=some 196:=by kernel_rfl
@[go_sem] theorem Tryz.ais720:ak_ Tryz.prog 720=false:=by kernel_rfl
@[go_sem] theorem Tryz.aal720:cf_ Tryz.prog 720=some (0,16):=by kernel_rfl
@[go_sem] theorem Tryz.abi720:ab_ Tryz.prog 720=some ([],1,[]):=by kernel_rfl
@[go_sem] theorem Tryz.abi721:ab_ Tryz.prog 721=some ([(0,0)],0,[]):=by kernel_rfl
@[go_sem] theorem Tryz.abi722:ab_ Tryz.prog 722=some ([(0,0)],0,[]):=by kernel_rfl
@[go_sem] theorem Tryz.abi728:ab_ Tryz.prog 728=some ([(0,1),(1,1),(2,1),(3,1),(4,1),(5,1),(6,1),(7,1),(8,1),(9,1),(10,1)],0,[.int .u64 0,.int .u64 0,.int .u32 0,.int .u8 0,.int .u8 0,.int .u8 0,.int .u8 0,.nilFunc,.pointer none,.int .i32 0,.int .i32 0]):=by kernel_rfl
@[go_sem] theorem Tryz.abi729:ab_ Tryz.prog 729=some ([(0,1),(1,1),(2,1),(3,1),(4,1),(5,1),(6,1),(7,1),(8,1),(9,1),(10,1)],0,[.int .u64 0,.int .u64 0,.int .u32 0,.int .u8 0,.int .u8 0,.int .u8 0,.int .u8 0,.nilFunc,.pointer none,.int .i32 0,.int .i32 0]):=by kernel_rfl
@[go_sem] theorem Tryz.aeq26 (σ:Store) (c:Bool) (a0 b0:ByteArray) (a1 b1:ByteArray) (a2 b2:ByteArray) (a3 b3:Bool):abin Tryz.prog σ .eql 26 c (.agg [.lit (.string a0),.lit (.string a1),.lit (.string a2),.lit (.bool a3)]) (.agg [.lit (.string b0),.lit (.string b1),.lit (.string b2),.lit (.bool b3)])=some (.lit (.bool ((decide (a0=b0)) && ((decide (a1=b1)) && ((decide (a2=b2)) && ((a3 == b3) && true)))))):=by kernel_rfl
@[go_sem] theorem Tryz.aeqn26 (σ:Store) (c:Bool) (a0 b0:ByteArray) (a1 b1:ByteArray) (a2 b2:ByteArray) (a3 b3:Bool):abin Tryz.prog σ .neq 26 c (.agg [.lit (.string a0),.lit (.string a1),.lit (.string a2),.lit (.bool a3)]) (.agg [.lit (.string b0),.lit (.string b1),.lit (.string b2),.lit (.bool b3)])=some (.lit (.bool !((decide (a0=b0)) && ((decide (a1=b1)) && ((decide (a2=b2)) && ((a3 == b3) && true)))))):=by kernel_rfl
@[go_sem] theorem Tryz.aeq27 (σ:Store) (c:Bool) (a0 b0:ByteArray) (a1 b1:ByteArray) (a2 b2:ByteArray) (a3 b3:Bool):abin Tryz.prog σ .eql 27 c (.agg [.lit (.string a0),.lit (.string a1),.lit (.string a2),.lit (.bool a3)]) (.agg [.lit (.string b0),.lit (.string b1),.lit (.string b2),.lit (.bool b3)])=some (.lit (.bool ((decide (a0=b0)) && ((decide (a1=b1)) && ((decide (a2=b2)) && ((a3 == b3) && true)))))):=by kernel_rfl
@[go_sem] theorem Tryz.aeqn27 (σ:Store) (c:Bool) (a0 b0:ByteArray) (a1 b1:ByteArray) (a2 b2:ByteArray) (a3 b3:Bool):abin Tryz.prog σ .neq 27 c (.agg [.lit (.string a0),.lit (.string a1),.lit (.string a2),.lit (.bool a3)]) (.agg [.lit (.string b0),.lit (.string b1),.lit (.string b2),.lit (.bool b3)])=some (.lit (.bool !((decide (a0=b0)) && ((decide (a1=b1)) && ((decide (a2=b2)) && ((a3 == b3) && true)))))):=by kernel_rfl
@[go_sem] theorem Tryz.aeq28 (σ:Store) (c:Bool) (a0 b0:Int) (a1 b1:ByteArray) (a2 b2:ByteArray) (a3 b3:ByteArray) (a4 b4:ByteArray) (a5 b5:Int) (a6 b6:ByteArray) (a7 b7:ByteArray) (a8 b8:ByteArray) (a9 b9:Bool):abin Tryz.prog σ .eql 28 c (.agg [.lit (.int .i64 a0),.lit (.string a1),.lit (.string a2),.lit (.string a3),.lit (.string a4),.lit (.int .i64 a5),.lit (.string a6),.lit (.string a7),.lit (.string a8),.lit (.bool a9)]) (.agg [.lit (.int .i64 b0),.lit (.string b1),.lit (.string b2),.lit (.string b3),.lit (.string b4),.lit (.int .i64 b5),.lit (.string b6),.lit (.string b7),.lit (.string b8),.lit (.bool b9)])=some (.lit (.bool ((decide (a0=b0)) && ((decide (a1=b1)) && ((decide (a2=b2)) && ((decide (a3=b3)) && ((decide (a4=b4)) && ((decide (a5=b5)) && (((decide (a6=b6)) && ((decide (a7=b7)) && ((decide (a8=b8)) && ((a9 == b9) && true)))) && true))))))))):=by kernel_rfl
@[go_sem] theorem Tryz.aeqn28 (σ:Store) (c:Bool) (a0 b0:Int) (a1 b1:ByteArray) (a2 b2:ByteArray) (a3 b3:ByteArray) (a4 b4:ByteArray) (a5 b5:Int) (a6 b6:ByteArray) (a7 b7:ByteArray) (a8 b8:ByteArray) (a9 b9:Bool):abin Tryz.prog σ .neq 28 c (.agg [.lit (.int .i64 a0),.lit (.string a1),.lit (.string a2),.lit (.string a3),.lit (.string a4),.lit (.int .i64 a5),.lit (.string a6),.lit (.string a7),.lit (.string a8),.lit (.bool a9)]) (.agg [.lit (.int .i64 b0),.lit (.string b1),.lit (.string b2),.lit (.string b3),.lit (.string b4),.lit (.int .i64 b5),.lit (.string b6),.lit (.string b7),.lit (.string b8),.lit (.bool b9)])=some (.lit (.bool !((decide (a0=b0)) && ((decide (a1=b1)) && ((decide (a2=b2)) && ((decide (a3=b3)) && ((decide (a4=b4)) && ((decide (a5=b5)) && (((decide (a6=b6)) && ((decide (a7=b7)) && ((decide (a8=b8)) && ((a9 == b9) && true)))) && true))))))))):=by kernel_rfl
@[go_sem] theorem Tryz.aeq29 (σ:Store) (c:Bool) (a0 b0:Int) (a1 b1:ByteArray) (a2 b2:ByteArray) (a3 b3:ByteArray) (a4 b4:ByteArray) (a5 b5:Int) (a6 b6:ByteArray) (a7 b7:ByteArray) (a8 b8:ByteArray) (a9 b9:Bool):abin Tryz.prog σ .eql 29 c (.agg [.lit (.int .i64 a0),.lit (.string a1),.lit (.string a2),.lit (.string a3),.lit (.string a4),.lit (.int .i64 a5),.lit (.string a6),.lit (.string a7),.lit (.string a8),.lit (.bool a9)]) (.agg [.lit (.int .i64 b0),.lit (.string b1),.lit (.string b2),.lit (.string b3),.lit (.string b4),.lit (.int .i64 b5),.lit (.string b6),.lit (.string b7),.lit (.string b8),.lit (.bool b9)])=some (.lit (.bool ((decide (a0=b0)) && ((decide (a1=b1)) && ((decide (a2=b2)) && ((decide (a3=b3)) && ((decide (a4=b4)) && ((decide (a5=b5)) && (((decide (a6=b6)) && ((decide (a7=b7)) && ((decide (a8=b8)) && ((a9 == b9) && true)))) && true))))))))):=by kernel_rfl
@[go_sem] theorem Tryz.aeqn29 (σ:Store) (c:Bool) (a0 b0:Int) (a1 b1:ByteArray) (a2 b2:ByteArray) (a3 b3:ByteArray) (a4 b4:ByteArray) (a5 b5:Int) (a6 b6:ByteArray) (a7 b7:ByteArray) (a8 b8:ByteArray) (a9 b9:Bool):abin Tryz.prog σ .neq 29 c (.agg [.lit (.int .i64 a0),.lit (.string a1),.lit (.string a2),.lit (.string a3),.lit (.string a4),.lit (.int .i64 a5),.lit (.string a6),.lit (.string a7),.lit (.string a8),.lit (.bool a9)]) (.agg [.lit (.int .i64 b0),.lit (.string b1),.lit (.string b2),.lit (.string b3),.lit (.string b4),.lit (.int .i64 b5),.lit (.string b6),.lit (.string b7),.lit (.string b8),.lit (.bool b9)])=some (.lit (.bool !((decide (a0=b0)) && ((decide (a1=b1)) && ((decide (a2=b2)) && ((decide (a3=b3)) && ((decide (a4=b4)) && ((decide (a5=b5)) && (((decide (a6=b6)) && ((decide (a7=b7)) && ((decide (a8=b8)) && ((a9 == b9) && true)))) && true))))))))):=by kernel_rfl
@[go_sem] theorem Tryz.aeq66 (σ:Store) (c:Bool) (a0 b0:Int) (a1 b1:Int) (a2 b2:Int) (a3 b3:Int) (a4 b4:Int) (a5 b5:Bool) (a6 b6:Bool) (a7 b7:Bool):abin Tryz.prog σ .eql 66 c (.agg [.lit (.int .i64 a0),.lit (.int .i64 a1),.lit (.int .i64 a2),.lit (.int .i64 a3),.lit (.int .i64 a4),.lit (.bool a5),.lit (.bool a6),.lit (.bool a7)]) (.agg [.lit (.int .i64 b0),.lit (.int .i64 b1),.lit (.int .i64 b2),.lit (.int .i64 b3),.lit (.int .i64 b4),.lit (.bool b5),.lit (.bool b6),.lit (.bool b7)])=some (.lit (.bool ((decide (a0=b0)) && ((decide (a1=b1)) && ((decide (a2=b2)) && ((decide (a3=b3)) && ((decide (a4=b4)) && ((a5 == b5) && ((a6 == b6) && ((a7 == b7) && true)))))))))):=by kernel_rfl
@[go_sem] theorem Tryz.aeqn66 (σ:Store) (c:Bool) (a0 b0:Int) (a1 b1:Int) (a2 b2:Int) (a3 b3:Int) (a4 b4:Int) (a5 b5:Bool) (a6 b6:Bool) (a7 b7:Bool):abin Tryz.prog σ .neq 66 c (.agg [.lit (.int .i64 a0),.lit (.int .i64 a1),.lit (.int .i64 a2),.lit (.int .i64 a3),.lit (.int .i64 a4),.lit (.bool a5),.lit (.bool a6),.lit (.bool a7)]) (.agg [.lit (.int .i64 b0),.lit (.int .i64 b1),.lit (.int .i64 b2),.lit (.int .i64 b3),.lit (.int .i64 b4),.lit (.bool b5),.lit (.bool b6),.lit (.bool b7)])=some (.lit (.bool !((decide (a0=b0)) && ((decide (a1=b1)) && ((decide (a2=b2)) && ((decide (a3=b3)) && ((decide (a4=b4)) && ((a5 == b5) && ((a6 == b6) && ((a7 == b7) && true)))))))))):=by kernel_rfl
@[go_sem] theorem Tryz.aeq67 (σ:Store) (c:Bool) (a0 b0:Int) (a1 b1:Int) (a2 b2:Int) (a3 b3:Int) (a4 b4:Int) (a5 b5:Bool) (a6 b6:Bool) (a7 b7:Bool):abin Tryz.prog σ .eql 67 c (.agg [.lit (.int .i64 a0),.lit (.int .i64 a1),.lit (.int .i64 a2),.lit (.int .i64 a3),.lit (.int .i64 a4),.lit (.bool a5),.lit (.bool a6),.lit (.bool a7)]) (.agg [.lit (.int .i64 b0),.lit (.int .i64 b1),.lit (.int .i64 b2),.lit (.int .i64 b3),.lit (.int .i64 b4),.lit (.bool b5),.lit (.bool b6),.lit (.bool b7)])=some (.lit (.bool ((decide (a0=b0)) && ((decide (a1=b1)) && ((decide (a2=b2)) && ((decide (a3=b3)) && ((decide (a4=b4)) && ((a5 == b5) && ((a6 == b6) && ((a7 == b7) && true)))))))))):=by kernel_rfl
@[go_sem] theorem Tryz.aeqn67 (σ:Store) (c:Bool) (a0 b0:Int) (a1 b1:Int) (a2 b2:Int) (a3 b3:Int) (a4 b4:Int) (a5 b5:Bool) (a6 b6:Bool) (a7 b7:Bool):abin Tryz.prog σ .neq 67 c (.agg [.lit (.int .i64 a0),.lit (.int .i64 a1),.lit (.int .i64 a2),.lit (.int .i64 a3),.lit (.int .i64 a4),.lit (.bool a5),.lit (.bool a6),.lit (.bool a7)]) (.agg [.lit (.int .i64 b0),.lit (.int .i64 b1),.lit (.int .i64 b2),.lit (.int .i64 b3),.lit (.int .i64 b4),.lit (.bool b5),.lit (.bool b6),.lit (.bool b7)])=some (.lit (.bool !((decide (a0=b0)) && ((decide (a1=b1)) && ((decide (a2=b2)) && ((decide (a3=b3)) && ((decide (a4=b4)) && ((a5 == b5) && ((a6 == b6) && ((a7 == b7) && true)))))))))):=by kernel_rfl
@[go_sem] theorem Tryz.aeq82 (σ:Store) (c:Bool) (a0 b0:ByteArray) (a1 b1:Int):abin Tryz.prog σ .eql 82 c (.agg [.lit (.string a0),.lit (.int .i64 a1)]) (.agg [.lit (.string b0),.lit (.int .i64 b1)])=some (.lit (.bool ((decide (a0=b0)) && ((decide (a1=b1)) && true)))):=by kernel_rfl
@[go_sem] theorem Tryz.aeqn82 (σ:Store) (c:Bool) (a0 b0:ByteArray) (a1 b1:Int):abin Tryz.prog σ .neq 82 c (.agg [.lit (.string a0),.lit (.int .i64 a1)]) (.agg [.lit (.string b0),.lit (.int .i64 b1)])=some (.lit (.bool !((decide (a0=b0)) && ((decide (a1=b1)) && true)))):=by kernel_rfl
@[go_sem] theorem Tryz.aeq83 (σ:Store) (c:Bool) (a0 b0:ByteArray) (a1 b1:Int):abin Tryz.prog σ .eql 83 c (.agg [.lit (.string a0),.lit (.int .i64 a1)]) (.agg [.lit (.string b0),.lit (.int .i64 b1)])=some (.lit (.bool ((decide (a0=b0)) && ((decide (a1=b1)) && true)))):=by kernel_rfl
@[go_sem] theorem Tryz.aeqn83 (σ:Store) (c:Bool) (a0 b0:ByteArray) (a1 b1:Int):abin Tryz.prog σ .neq 83 c (.agg [.lit (.string a0),.lit (.int .i64 a1)]) (.agg [.lit (.string b0),.lit (.int .i64 b1)])=some (.lit (.bool !((decide (a0=b0)) && ((decide (a1=b1)) && true)))):=by kernel_rfl
@[go_sem] theorem Tryz.aeq88 (σ:Store) (c:Bool) (a0 b0:ByteArray) (a1 b1:Int) (a2 b2:ByteArray) (a3 b3:Bool) (a4 b4:Int):abin Tryz.prog σ .eql 88 c (.agg [.lit (.string a0),.lit (.int .i64 a1),.lit (.string a2),.lit (.bool a3),.lit (.int .i64 a4)]) (.agg [.lit (.string b0),.lit (.int .i64 b1),.lit (.string b2),.lit (.bool b3),.lit (.int .i64 b4)])=some (.lit (.bool (((decide (a0=b0)) && ((decide (a1=b1)) && true)) && ((decide (a2=b2)) && ((a3 == b3) && ((decide (a4=b4)) && true)))))):=by kernel_rfl
@[go_sem] theorem Tryz.aeqn88 (σ:Store) (c:Bool) (a0 b0:ByteArray) (a1 b1:Int) (a2 b2:ByteArray) (a3 b3:Bool) (a4 b4:Int):abin Tryz.prog σ .neq 88 c (.agg [.lit (.string a0),.lit (.int .i64 a1),.lit (.string a2),.lit (.bool a3),.lit (.int .i64 a4)]) (.agg [.lit (.string b0),.lit (.int .i64 b1),.lit (.string b2),.lit (.bool b3),.lit (.int .i64 b4)])=some (.lit (.bool !(((decide (a0=b0)) && ((decide (a1=b1)) && true)) && ((decide (a2=b2)) && ((a3 == b3) && ((decide (a4=b4)) && true)))))):=by kernel_rfl
@[go_sem] theorem Tryz.aeq89 (σ:Store) (c:Bool) (a0 b0:ByteArray) (a1 b1:Int) (a2 b2:ByteArray) (a3 b3:Bool) (a4 b4:Int):abin Tryz.prog σ .eql 89 c (.agg [.lit (.string a0),.lit (.int .i64 a1),.lit (.string a2),.lit (.bool a3),.lit (.int .i64 a4)]) (.agg [.lit (.string b0),.lit (.int .i64 b1),.lit (.string b2),.lit (.bool b3),.lit (.int .i64 b4)])=some (.lit (.bool (((decide (a0=b0)) && ((decide (a1=b1)) && true)) && ((decide (a2=b2)) && ((a3 == b3) && ((decide (a4=b4)) && true)))))):=by kernel_rfl
@[go_sem] theorem Tryz.aeqn89 (σ:Store) (c:Bool) (a0 b0:ByteArray) (a1 b1:Int) (a2 b2:ByteArray) (a3 b3:Bool) (a4 b4:Int):abin Tryz.prog σ .neq 89 c (.agg [.lit (.string a0),.lit (.int .i64 a1),.lit (.string a2),.lit (.bool a3),.lit (.int .i64 a4)]) (.agg [.lit (.string b0),.lit (.int .i64 b1),.lit (.string b2),.lit (.bool b3),.lit (.int .i64 b4)])=some (.lit (.bool !(((decide (a0=b0)) && ((decide (a1=b1)) && true)) && ((decide (a2=b2)) && ((a3 == b3) && ((decide (a4=b4)) && true)))))):=by kernel_rfl
@[go_sem] theorem Tryz.aeq111 (σ:Store) (c:Bool) (a0 b0:ByteArray) (a1 b1:ByteArray) (a2 b2:Int) (a3 b3:Int) (a4 b4:Int) (a5 b5:Int):abin Tryz.prog σ .eql 111 c (.agg [.lit (.string a0),.lit (.string a1),.lit (.int .i64 a2),.lit (.int .i64 a3),.lit (.int .i64 a4),.lit (.int .i64 a5)]) (.agg [.lit (.string b0),.lit (.string b1),.lit (.int .i64 b2),.lit (.int .i64 b3),.lit (.int .i64 b4),.lit (.int .i64 b5)])=some (.lit (.bool ((decide (a0=b0)) && ((decide (a1=b1)) && ((decide (a2=b2)) && ((decide (a3=b3)) && ((decide (a4=b4)) && ((decide (a5=b5)) && true)))))))):=by kernel_rfl
@[go_sem] theorem Tryz.aeqn111 (σ:Store) (c:Bool) (a0 b0:ByteArray) (a1 b1:ByteArray) (a2 b2:Int) (a3 b3:Int) (a4 b4:Int) (a5 b5:Int):abin Tryz.prog σ .neq 111 c (.agg [.lit (.string a0),.lit (.string a1),.lit (.int .i64 a2),.lit (.int .i64 a3),.lit (.int .i64 a4),.lit (.int .i64 a5)]) (.agg [.lit (.string b0),.lit (.string b1),.lit (.int .i64 b2),.lit (.int .i64 b3),.lit (.int .i64 b4),.lit (.int .i64 b5)])=some (.lit (.bool !((decide (a0=b0)) && ((decide (a1=b1)) && ((decide (a2=b2)) && ((decide (a3=b3)) && ((decide (a4=b4)) && ((decide (a5=b5)) && true)))))))):=by kernel_rfl
@[go_sem] theorem Tryz.aeq112 (σ:Store) (c:Bool) (a0 b0:ByteArray) (a1 b1:ByteArray) (a2 b2:Int) (a3 b3:Int) (a4 b4:Int) (a5 b5:Int):abin Tryz.prog σ .eql 112 c (.agg [.lit (.string a0),.lit (.string a1),.lit (.int .i64 a2),.lit (.int .i64 a3),.lit (.int .i64 a4),.lit (.int .i64 a5)]) (.agg [.lit (.string b0),.lit (.string b1),.lit (.int .i64 b2),.lit (.int .i64 b3),.lit (.int .i64 b4),.lit (.int .i64 b5)])=some (.lit (.bool ((decide (a0=b0)) && ((decide (a1=b1)) && ((decide (a2=b2)) && ((decide (a3=b3)) && ((decide (a4=b4)) && ((decide (a5=b5)) && true)))))))):=by kernel_rfl
@[go_sem] theorem Tryz.aeqn112 (σ:Store) (c:Bool) (a0 b0:ByteArray) (a1 b1:ByteArray) (a2 b2:Int) (a3 b3:Int) (a4 b4:Int) (a5 b5:Int):abin Tryz.prog σ .neq 112 c (.agg [.lit (.string a0),.lit (.string a1),.lit (.int .i64 a2),.lit (.int .i64 a3),.lit (.int .i64 a4),.lit (.int .i64 a5)]) (.agg [.lit (.string b0),.lit (.string b1),.lit (.int .i64 b2),.lit (.int .i64 b3),.lit (.int .i64 b4),.lit (.int .i64 b5)])=some (.lit (.bool !((decide (a0=b0)) && ((decide (a1=b1)) && ((decide (a2=b2)) && ((decide (a3=b3)) && ((decide (a4=b4)) && ((decide (a5=b5)) && true)))))))):=by kernel_rfl
@[go_sem] theorem Tryz.aeq117 (σ:Store) (c:Bool) (a0 b0:ByteArray) (a1 b1:ByteArray):abin Tryz.prog σ .eql 117 c (.agg [.lit (.string a0),.lit (.string a1)]) (.agg [.lit (.string b0),.lit (.string b1)])=some (.lit (.bool ((decide (a0=b0)) && ((decide (a1=b1)) && true)))):=by kernel_rfl
@[go_sem] theorem Tryz.aeqn117 (σ:Store) (c:Bool) (a0 b0:ByteArray) (a1 b1:ByteArray):abin Tryz.prog σ .neq 117 c (.agg [.lit (.string a0),.lit (.string a1)]) (.agg [.lit (.string b0),.lit (.string b1)])=some (.lit (.bool !((decide (a0=b0)) && ((decide (a1=b1)) && true)))):=by kernel_rfl
@[go_sem] theorem Tryz.aeq118 (σ:Store) (c:Bool) (a0 b0:ByteArray) (a1 b1:ByteArray):abin Tryz.prog σ .eql 118 c (.agg [.lit (.string a0),.lit (.string a1)]) (.agg [.lit (.string b0),.lit (.string b1)])=some (.lit (.bool ((decide (a0=b0)) && ((decide (a1=b1)) && true)))):=by kernel_rfl
@[go_sem] theorem Tryz.aeqn118 (σ:Store) (c:Bool) (a0 b0:ByteArray) (a1 b1:ByteArray):abin Tryz.prog σ .neq 118 c (.agg [.lit (.string a0),.lit (.string a1)]) (.agg [.lit (.string b0),.lit (.string b1)])=some (.lit (.bool !((decide (a0=b0)) && ((decide (a1=b1)) && true)))):=by kernel_rfl
@[go_sem] theorem Tryz.aeq141 (σ:Store) (c:Bool) (a0 b0:Int) (a1 b1:Int):abin Tryz.prog σ .eql 141 c (.agg [.lit (.int .i64 a0),.lit (.int .i64 a1)]) (.agg [.lit (.int .i64 b0),.lit (.int .i64 b1)])=some (.lit (.bool ((decide (a0=b0)) && ((decide (a1=b1)) && true)))):=by kernel_rfl
@[go_sem] theorem Tryz.aeqn141 (σ:Store) (c:Bool) (a0 b0:Int) (a1 b1:Int):abin Tryz.prog σ .neq 141 c (.agg [.lit (.int .i64 a0),.lit (.int .i64 a1)]) (.agg [.lit (.int .i64 b0),.lit (.int .i64 b1)])=some (.lit (.bool !((decide (a0=b0)) && ((decide (a1=b1)) && true)))):=by kernel_rfl
@[go_sem] theorem Tryz.aeq142 (σ:Store) (c:Bool) (a0 b0:Int) (a1 b1:Int):abin Tryz.prog σ .eql 142 c (.agg [.lit (.int .i64 a0),.lit (.int .i64 a1)]) (.agg [.lit (.int .i64 b0),.lit (.int .i64 b1)])=some (.lit (.bool ((decide (a0=b0)) && ((decide (a1=b1)) && true)))):=by kernel_rfl
@[go_sem] theorem Tryz.aeqn142 (σ:Store) (c:Bool) (a0 b0:Int) (a1 b1:Int):abin Tryz.prog σ .neq 142 c (.agg [.lit (.int .i64 a0),.lit (.int .i64 a1)]) (.agg [.lit (.int .i64 b0),.lit (.int .i64 b1)])=some (.lit (.bool !((decide (a0=b0)) && ((decide (a1=b1)) && true)))):=by kernel_rfl
@[go_sem] theorem Tryz.aeq148 (σ:Store) (c:Bool) (a0 b0:Int) (a1 b1:ByteArray) (a2 b2:ByteArray):abin Tryz.prog σ .eql 148 c (.agg [.lit (.int .i64 a0),.lit (.string a1),.lit (.string a2)]) (.agg [.lit (.int .i64 b0),.lit (.string b1),.lit (.string b2)])=some (.lit (.bool ((decide (a0=b0)) && ((decide (a1=b1)) && ((decide (a2=b2)) && true))))):=by kernel_rfl
@[go_sem] theorem Tryz.aeqn148 (σ:Store) (c:Bool) (a0 b0:Int) (a1 b1:ByteArray) (a2 b2:ByteArray):abin Tryz.prog σ .neq 148 c (.agg [.lit (.int .i64 a0),.lit (.string a1),.lit (.string a2)]) (.agg [.lit (.int .i64 b0),.lit (.string b1),.lit (.string b2)])=some (.lit (.bool !((decide (a0=b0)) && ((decide (a1=b1)) && ((decide (a2=b2)) && true))))):=by kernel_rfl
@[go_sem] theorem Tryz.aeq149 (σ:Store) (c:Bool) (a0 b0:Int) (a1 b1:ByteArray) (a2 b2:ByteArray):abin Tryz.prog σ .eql 149 c (.agg [.lit (.int .i64 a0),.lit (.string a1),.lit (.string a2)]) (.agg [.lit (.int .i64 b0),.lit (.string b1),.lit (.string b2)])=some (.lit (.bool ((decide (a0=b0)) && ((decide (a1=b1)) && ((decide (a2=b2)) && true))))):=by kernel_rfl
@[go_sem] theorem Tryz.aeqn149 (σ:Store) (c:Bool) (a0 b0:Int) (a1 b1:ByteArray) (a2 b2:ByteArray):abin Tryz.prog σ .neq 149 c (.agg [.lit (.int .i64 a0),.lit (.string a1),.lit (.string a2)]) (.agg [.lit (.int .i64 b0),.lit (.string b1),.lit (.string b2)])=some (.lit (.bool !((decide (a0=b0)) && ((decide (a1=b1)) && ((decide (a2=b2)) && true))))):=by kernel_rfl
@[go_sem] theorem Tryz.aeq150 (σ:Store) (c:Bool) (a0 b0:ByteArray) (a1 b1:Int) (a2 b2:ByteArray) (a3 b3:ByteArray):abin Tryz.prog σ .eql 150 c (.agg [.lit (.string a0),.lit (.int .i64 a1),.lit (.string a2),.lit (.string a3)]) (.agg [.lit (.string b0),.lit (.int .i64 b1),.lit (.string b2),.lit (.string b3)])=some (.lit (.bool ((decide (a0=b0)) && (((decide (a1=b1)) && ((decide (a2=b2)) && ((decide (a3=b3)) && true))) && true)))):=by kernel_rfl
@[go_sem] theorem Tryz.aeqn150 (σ:Store) (c:Bool) (a0 b0:ByteArray) (a1 b1:Int) (a2 b2:ByteArray) (a3 b3:ByteArray):abin Tryz.prog σ .neq 150 c (.agg [.lit (.string a0),.lit (.int .i64 a1),.lit (.string a2),.lit (.string a3)]) (.agg [.lit (.string b0),.lit (.int .i64 b1),.lit (.string b2),.lit (.string b3)])=some (.lit (.bool !((decide (a0=b0)) && (((decide (a1=b1)) && ((decide (a2=b2)) && ((decide (a3=b3)) && true))) && true)))):=by kernel_rfl
@[go_sem] theorem Tryz.aeq151 (σ:Store) (c:Bool) (a0 b0:ByteArray) (a1 b1:Int) (a2 b2:ByteArray) (a3 b3:ByteArray):abin Tryz.prog σ .eql 151 c (.agg [.lit (.string a0),.lit (.int .i64 a1),.lit (.string a2),.lit (.string a3)]) (.agg [.lit (.string b0),.lit (.int .i64 b1),.lit (.string b2),.lit (.string b3)])=some (.lit (.bool ((decide (a0=b0)) && (((decide (a1=b1)) && ((decide (a2=b2)) && ((decide (a3=b3)) && true))) && true)))):=by kernel_rfl
@[go_sem] theorem Tryz.aeqn151 (σ:Store) (c:Bool) (a0 b0:ByteArray) (a1 b1:Int) (a2 b2:ByteArray) (a3 b3:ByteArray):abin Tryz.prog σ .neq 151 c (.agg [.lit (.string a0),.lit (.int .i64 a1),.lit (.string a2),.lit (.string a3)]) (.agg [.lit (.string b0),.lit (.int .i64 b1),.lit (.string b2),.lit (.string b3)])=some (.lit (.bool !((decide (a0=b0)) && (((decide (a1=b1)) && ((decide (a2=b2)) && ((decide (a3=b3)) && true))) && true)))):=by kernel_rfl
@[go_sem] theorem Tryz.aeq165 (σ:Store) (c:Bool) (a0 b0:ByteArray) (a1 b1:Int):abin Tryz.prog σ .eql 165 c (.agg [.lit (.string a0),.lit (.int .i64 a1)]) (.agg [.lit (.string b0),.lit (.int .i64 b1)])=some (.lit (.bool ((decide (a0=b0)) && ((decide (a1=b1)) && true)))):=by kernel_rfl
@[go_sem] theorem Tryz.aeqn165 (σ:Store) (c:Bool) (a0 b0:ByteArray) (a1 b1:Int):abin Tryz.prog σ .neq 165 c (.agg [.lit (.string a0),.lit (.int .i64 a1)]) (.agg [.lit (.string b0),.lit (.int .i64 b1)])=some (.lit (.bool !((decide (a0=b0)) && ((decide (a1=b1)) && true)))):=by kernel_rfl
@[go_sem] theorem Tryz.aeq166 (σ:Store) (c:Bool) (a0 b0:ByteArray) (a1 b1:Int):abin Tryz.prog σ .eql 166 c (.agg [.lit (.string a0),.lit (.int .i64 a1)]) (.agg [.lit (.string b0),.lit (.int .i64 b1)])=some (.lit (.bool ((decide (a0=b0)) && ((decide (a1=b1)) && true)))):=by kernel_rfl
@[go_sem] theorem Tryz.aeqn166 (σ:Store) (c:Bool) (a0 b0:ByteArray) (a1 b1:Int):abin Tryz.prog σ .neq 166 c (.agg [.lit (.string a0),.lit (.int .i64 a1)]) (.agg [.lit (.string b0),.lit (.int .i64 b1)])=some (.lit (.bool !((decide (a0=b0)) && ((decide (a1=b1)) && true)))):=by kernel_rfl
@[go_sem] theorem Tryz.aeq235 (σ:Store) (c:Bool) (a0 b0:ByteArray) (a1 b1:Bool):abin Tryz.prog σ .eql 235 c (.agg [.lit (.string a0),.lit (.bool a1)]) (.agg [.lit (.string b0),.lit (.bool b1)])=some (.lit (.bool ((decide (a0=b0)) && ((a1 == b1) && true)))):=by kernel_rfl
@[go_sem] theorem Tryz.aeqn235 (σ:Store) (c:Bool) (a0 b0:ByteArray) (a1 b1:Bool):abin Tryz.prog σ .neq 235 c (.agg [.lit (.string a0),.lit (.bool a1)]) (.agg [.lit (.string b0),.lit (.bool b1)])=some (.lit (.bool !((decide (a0=b0)) && ((a1 == b1) && true)))):=by kernel_rfl
@[go_sem] theorem Tryz.aeq236 (σ:Store) (c:Bool) (a0 b0:ByteArray) (a1 b1:Bool):abin Tryz.prog σ .eql 236 c (.agg [.lit (.string a0),.lit (.bool a1)]) (.agg [.lit (.string b0),.lit (.bool b1)])=some (.lit (.bool ((decide (a0=b0)) && ((a1 == b1) && true)))):=by kernel_rfl
@[go_sem] theorem Tryz.aeqn236 (σ:Store) (c:Bool) (a0 b0:ByteArray) (a1 b1:Bool):abin Tryz.prog σ .neq 236 c (.agg [.lit (.string a0),.lit (.bool a1)]) (.agg [.lit (.string b0),.lit (.bool b1)])=some (.lit (.bool !((decide (a0=b0)) && ((a1 == b1) && true)))):=by kernel_rfl
@[go_sem] theorem Tryz.aeq317 (σ:Store) (c:Bool) (a0 b0:ByteArray) (a1 b1:Bool):abin Tryz.prog σ .eql 317 c (.agg [.lit (.string a0),.lit (.bool a1)]) (.agg [.lit (.string b0),.lit (.bool b1)])=some (.lit (.bool ((decide (a0=b0)) && ((a1 == b1) && true)))):=by kernel_rfl
@[go_sem] theorem Tryz.aeqn317 (σ:Store) (c:Bool) (a0 b0:ByteArray) (a1 b1:Bool):abin Tryz.prog σ .neq 317 c (.agg [.lit (.string a0),.lit (.bool a1)]) (.agg [.lit (.string b0),.lit (.bool b1)])=some (.lit (.bool !((decide (a0=b0)) && ((a1 == b1) && true)))):=by kernel_rfl
@[go_sem] theorem Tryz.aeq318 (σ:Store) (c:Bool) (a0 b0:ByteArray) (a1 b1:Bool):abin Tryz.prog σ .eql 318 c (.agg [.lit (.string a0),.lit (.bool a1)]) (.agg [.lit (.string b0),.lit (.bool b1)])=some (.lit (.bool ((decide (a0=b0)) && ((a1 == b1) && true)))):=by kernel_rfl
@[go_sem] theorem Tryz.aeqn318 (σ:Store) (c:Bool) (a0 b0:ByteArray) (a1 b1:Bool):abin Tryz.prog σ .neq 318 c (.agg [.lit (.string a0),.lit (.bool a1)]) (.agg [.lit (.string b0),.lit (.bool b1)])=some (.lit (.bool !((decide (a0=b0)) && ((a1 == b1) && true)))):=by kernel_rfl
@[go_sem] theorem Tryz.aeq381 (σ:Store) (c:Bool) (a0 b0:ByteArray) (a1 b1:ByteArray):abin Tryz.prog σ .eql 381 c (.agg [.lit (.string a0),.lit (.string a1)]) (.agg [.lit (.string b0),.lit (.string b1)])=some (.lit (.bool ((decide (a0=b0)) && ((decide (a1=b1)) && true)))):=by kernel_rfl
@[go_sem] theorem Tryz.aeqn381 (σ:Store) (c:Bool) (a0 b0:ByteArray) (a1 b1:ByteArray):abin Tryz.prog σ .neq 381 c (.agg [.lit (.string a0),.lit (.string a1)]) (.agg [.lit (.string b0),.lit (.string b1)])=some (.lit (.bool !((decide (a0=b0)) && ((decide (a1=b1)) && true)))):=by kernel_rfl
@[go_sem] theorem Tryz.aeq382 (σ:Store) (c:Bool) (a0 b0:ByteArray) (a1 b1:ByteArray):abin Tryz.prog σ .eql 382 c (.agg [.lit (.string a0),.lit (.string a1)]) (.agg [.lit (.string b0),.lit (.string b1)])=some (.lit (.bool ((decide (a0=b0)) && ((decide (a1=b1)) && true)))):=by kernel_rfl
@[go_sem] theorem Tryz.aeqn382 (σ:Store) (c:Bool) (a0 b0:ByteArray) (a1 b1:ByteArray):abin Tryz.prog σ .neq 382 c (.agg [.lit (.string a0),.lit (.string a1)]) (.agg [.lit (.string b0),.lit (.string b1)])=some (.lit (.bool !((decide (a0=b0)) && ((decide (a1=b1)) && true)))):=by kernel_rfl
@[go_sem] theorem Tryz.aeq411 (σ:Store) (c:Bool) (a0 b0:Int) (a1 b1:Int) (a2 b2:Int):abin Tryz.prog σ .eql 411 c (.agg [.lit (.int .i64 a0),.lit (.int .i64 a1),.lit (.int .i64 a2)]) (.agg [.lit (.int .i64 b0),.lit (.int .i64 b1),.lit (.int .i64 b2)])=some (.lit (.bool ((decide (a0=b0)) && ((decide (a1=b1)) && ((decide (a2=b2)) && true))))):=by kernel_rfl
@[go_sem] theorem Tryz.aeqn411 (σ:Store) (c:Bool) (a0 b0:Int) (a1 b1:Int) (a2 b2:Int):abin Tryz.prog σ .neq 411 c (.agg [.lit (.int .i64 a0),.lit (.int .i64 a1),.lit (.int .i64 a2)]) (.agg [.lit (.int .i64 b0),.lit (.int .i64 b1),.lit (.int .i64 b2)])=some (.lit (.bool !((decide (a0=b0)) && ((decide (a1=b1)) && ((decide (a2=b2)) && true))))):=by kernel_rfl
@[go_sem] theorem Tryz.aeq412 (σ:Store) (c:Bool) (a0 b0:Int) (a1 b1:Int) (a2 b2:Int):abin Tryz.prog σ .eql 412 c (.agg [.lit (.int .i64 a0),.lit (.int .i64 a1),.lit (.int .i64 a2)]) (.agg [.lit (.int .i64 b0),.lit (.int .i64 b1),.lit (.int .i64 b2)])=some (.lit (.bool ((decide (a0=b0)) && ((decide (a1=b1)) && ((decide (a2=b2)) && true))))):=by kernel_rfl
@[go_sem] theorem Tryz.aeqn412 (σ:Store) (c:Bool) (a0 b0:Int) (a1 b1:Int) (a2 b2:Int):abin Tryz.prog σ .neq 412 c (.agg [.lit (.int .i64 a0),.lit (.int .i64 a1),.lit (.int .i64 a2)]) (.agg [.lit (.int .i64 b0),.lit (.int .i64 b1),.lit (.int .i64 b2)])=some (.lit (.bool !((decide (a0=b0)) && ((decide (a1=b1)) && ((decide (a2=b2)) && true))))):=by kernel_rfl
attribute [go_sem] Tryz.underlying1 Tryz.underlying2 Tryz.underlying3 Tryz.underlying4 Tryz.underlying5 Tryz.underlying6 Tryz.underlying9 Tryz.underlying10 Tryz.underlying11 Tryz.underlying12 Tryz.underlying15 Tryz.underlying16 Tryz.underlying17 Tryz.underlying20 Tryz.underlying21 Tryz.underlying22 Tryz.underlying23 Tryz.underlying32 Tryz.underlying33 Tryz.underlying34 Tryz.underlying35 Tryz.underlying36 Tryz.underlying37 Tryz.underlying38 Tryz.underlying39 Tryz.underlying40 Tryz.underlying43 Tryz.underlying44 Tryz.underlying45 Tryz.underlying46 Tryz.underlying47 Tryz.underlying48 Tryz.underlying49 Tryz.underlying50 Tryz.underlying51 Tryz.underlying52 Tryz.underlying53 Tryz.underlying54 Tryz.underlying55 Tryz.underlying56 Tryz.underlying59 Tryz.underlying61 Tryz.underlying65 Tryz.underlying68 Tryz.underlying69 Tryz.underlying70 Tryz.underlying71 Tryz.underlying72 Tryz.underlying73 Tryz.underlying74 Tryz.underlying75 Tryz.underlying76 Tryz.underlying77 Tryz.underlying78 Tryz.underlying79 Tryz.underlying80 Tryz.underlying81 Tryz.underlying90 Tryz.underlying91 Tryz.underlying92 Tryz.underlying93 Tryz.underlying94 Tryz.underlying95 Tryz.underlying96 Tryz.underlying97 Tryz.underlying99 Tryz.underlying100 Tryz.underlying102 Tryz.underlying103 Tryz.underlying104 Tryz.underlying105 Tryz.underlying106 Tryz.underlying107 Tryz.underlying108 Tryz.underlying109 Tryz.underlying110 Tryz.underlying113 Tryz.underlying114 Tryz.underlying115 Tryz.underlying116 Tryz.underlying119 Tryz.underlying120 Tryz.underlying121 Tryz.underlying124 Tryz.underlying125 Tryz.underlying126 Tryz.underlying127 Tryz.underlying128 Tryz.underlying129 Tryz.underlying132 Tryz.underlying135 Tryz.underlying136 Tryz.underlying138 Tryz.underlying139 Tryz.underlying140 Tryz.underlying143 Tryz.underlying146 Tryz.underlying147 Tryz.underlying153 Tryz.underlying154 Tryz.underlying155 Tryz.underlying156 Tryz.underlying157 Tryz.underlying158 Tryz.underlying159 Tryz.underlying164 Tryz.underlying168 Tryz.underlying169 Tryz.underlying170 Tryz.underlying172 Tryz.underlying173 Tryz.underlying174 Tryz.underlying175 Tryz.underlying176 Tryz.underlying177 Tryz.underlying178 Tryz.underlying179 Tryz.underlying180 Tryz.underlying181 Tryz.underlying182 Tryz.underlying183 Tryz.underlying184 Tryz.underlying185 Tryz.underlying186 Tryz.underlying187 Tryz.underlying188 Tryz.underlying189 Tryz.underlying190 Tryz.underlying191 Tryz.underlying192 Tryz.underlying193 Tryz.underlying194 Tryz.underlying195 Tryz.underlying196 Tryz.underlying199 Tryz.underlying200 Tryz.underlying202 Tryz.underlying203 Tryz.underlying207 Tryz.underlying208 Tryz.underlying209 Tryz.underlying210 Tryz.underlying211 Tryz.underlying212 Tryz.underlying213 Tryz.underlying214 Tryz.underlying215 Tryz.underlying217 Tryz.underlying218 Tryz.underlying219 Tryz.underlying220 Tryz.underlying222 Tryz.underlying223 Tryz.underlying224 Tryz.underlying225 Tryz.underlying226 Tryz.underlying227 Tryz.underlying228 Tryz.underlying229 Tryz.underlying230 Tryz.underlying231 Tryz.underlying232 Tryz.underlying233 Tryz.underlying234 Tryz.underlying237 Tryz.underlying238 Tryz.underlying240 Tryz.underlying241 Tryz.underlying242 Tryz.underlying244 Tryz.underlying246 Tryz.underlying247 Tryz.underlying250 Tryz.underlying251 Tryz.underlying252 Tryz.underlying253 Tryz.underlying254 Tryz.underlying256 Tryz.underlying257 Tryz.underlying260 Tryz.underlying261 Tryz.underlying262 Tryz.underlying263 Tryz.underlying264 Tryz.underlying265 Tryz.underlying266 Tryz.underlying267 Tryz.underlying268 Tryz.underlying269 Tryz.underlying270 Tryz.underlying271 Tryz.underlying272 Tryz.underlying273 Tryz.underlying274 Tryz.underlying275 Tryz.underlying276 Tryz.underlying277 Tryz.underlying279 Tryz.underlying280 Tryz.underlying281 Tryz.underlying282 Tryz.underlying283 Tryz.underlying284 Tryz.underlying285 Tryz.underlying286 Tryz.underlying287 Tryz.underlying288 Tryz.underlying289 Tryz.underlying290 Tryz.underlying291 Tryz.underlying292 Tryz.underlying293 Tryz.underlying294 Tryz.underlying295 Tryz.underlying296 Tryz.underlying297 Tryz.underlying298 Tryz.underlying299 Tryz.underlying300 Tryz.underlying303 Tryz.underlying304 Tryz.underlying305 Tryz.underlying306 Tryz.underlying307 Tryz.underlying308 Tryz.underlying309 Tryz.underlying310 Tryz.underlying311 Tryz.underlying312 Tryz.underlying313 Tryz.underlying314 Tryz.underlying315 Tryz.underlying316 Tryz.underlying319 Tryz.underlying320 Tryz.underlying325 Tryz.underlying326 Tryz.underlying327 Tryz.underlying328 Tryz.underlying329 Tryz.underlying330 Tryz.underlying331 Tryz.underlying332 Tryz.underlying333 Tryz.underlying334 Tryz.underlying335 Tryz.underlying336 Tryz.underlying337 Tryz.underlying338 Tryz.underlying339 Tryz.underlying340 Tryz.underlying341 Tryz.underlying342 Tryz.underlying343 Tryz.underlying344 Tryz.underlying345 Tryz.underlying346 Tryz.underlying347 Tryz.underlying348 Tryz.underlying349 Tryz.underlying350 Tryz.underlying351 Tryz.underlying352 Tryz.underlying353 Tryz.underlying354 Tryz.underlying355 Tryz.underlying356 Tryz.underlying357 Tryz.underlying358 Tryz.underlying359 Tryz.underlying360 Tryz.underlying361 Tryz.underlying362 Tryz.underlying363 Tryz.underlying364 Tryz.underlying365 Tryz.underlying366 Tryz.underlying367 Tryz.underlying368 Tryz.underlying370 Tryz.underlying371 Tryz.underlying372 Tryz.underlying373 Tryz.underlying374 Tryz.underlying375 Tryz.underlying376 Tryz.underlying377 Tryz.underlying378 Tryz.underlying379 Tryz.underlying380 Tryz.underlying383 Tryz.underlying384 Tryz.underlying385 Tryz.underlying386 Tryz.underlying387 Tryz.underlying388 Tryz.underlying389 Tryz.underlying390 Tryz.underlying391 Tryz.underlying392 Tryz.underlying393 Tryz.underlying395 Tryz.underlying396 Tryz.underlying397 Tryz.underlying398 Tryz.underlying399 Tryz.underlying400 Tryz.underlying402 Tryz.underlying403 Tryz.underlying404 Tryz.underlying405 Tryz.underlying406 Tryz.underlying407 Tryz.underlying410 Tryz.underlying413 Tryz.underlying414 Tryz.underlying415 Tryz.underlying416 Tryz.underlying417 Tryz.underlying418 Tryz.underlying420 Tryz.underlying421 Tryz.underlying422 Tryz.underlying427 Tryz.underlying428 Tryz.underlying429 Tryz.underlying430 Tryz.underlying432 Tryz.underlying433 Tryz.underlying434 Tryz.underlying437 Tryz.underlying438 Tryz.underlying439 Tryz.underlying441 Tryz.underlying442 Tryz.underlying443 Tryz.underlying444 Tryz.underlying445 Tryz.underlying446 Tryz.underlying447 Tryz.underlying448 Tryz.underlying449 Tryz.underlying450 Tryz.underlying451 Tryz.underlying453 Tryz.underlying455 Tryz.underlying456 Tryz.underlying457 Tryz.underlying458 Tryz.underlying459 Tryz.underlying460 Tryz.underlying461 Tryz.underlying462 Tryz.underlying463 Tryz.underlying464 Tryz.underlying465 Tryz.underlying466 Tryz.underlying467 Tryz.underlying468 Tryz.underlying469 Tryz.underlying470 Tryz.underlying471 Tryz.underlying472 Tryz.underlying474 Tryz.underlying477 Tryz.underlying478 Tryz.underlying479 Tryz.underlying480 Tryz.underlying483 Tryz.underlying484 Tryz.underlying485 Tryz.underlying486 Tryz.underlying487 Tryz.underlying488 Tryz.underlying491 Tryz.underlying492 Tryz.underlying493 Tryz.underlying494 Tryz.underlying495 Tryz.underlying496 Tryz.underlying497 Tryz.underlying498 Tryz.underlying499 Tryz.underlying500 Tryz.underlying504 Tryz.underlying505 Tryz.underlying506 Tryz.underlying507 Tryz.underlying508 Tryz.underlying509 Tryz.underlying510 Tryz.underlying511 Tryz.underlying512 Tryz.underlying513 Tryz.underlying514 Tryz.underlying515 Tryz.underlying516 Tryz.underlying517 Tryz.underlying518 Tryz.underlying520 Tryz.underlying521 Tryz.underlying522 Tryz.underlying523 Tryz.underlying524 Tryz.underlying525 Tryz.underlying526 Tryz.underlying528 Tryz.underlying529 Tryz.underlying530 Tryz.underlying531 Tryz.underlying532 Tryz.underlying537 Tryz.underlying538 Tryz.underlying539 Tryz.underlying540 Tryz.underlying541 Tryz.underlying542 Tryz.underlying543 Tryz.underlying544 Tryz.underlying545 Tryz.underlying546 Tryz.underlying547 Tryz.underlying548 Tryz.underlying549 Tryz.underlying550 Tryz.underlying551 Tryz.underlying552 Tryz.underlying553 Tryz.underlying554 Tryz.underlying555 Tryz.underlying556 Tryz.underlying557 Tryz.underlying558 Tryz.underlying559 Tryz.underlying560 Tryz.underlying561 Tryz.underlying562 Tryz.underlying563 Tryz.underlying564 Tryz.underlying565 Tryz.underlying566 Tryz.underlying568 Tryz.underlying569 Tryz.underlying570 Tryz.underlying571 Tryz.underlying572 Tryz.underlying574 Tryz.underlying575 Tryz.underlying576 Tryz.underlying577 Tryz.underlying578 Tryz.underlying579 Tryz.underlying580 Tryz.underlying583 Tryz.underlying584 Tryz.underlying585 Tryz.underlying586 Tryz.underlying588 Tryz.underlying591 Tryz.underlying593 Tryz.underlying595 Tryz.underlying596 Tryz.underlying597 Tryz.underlying598 Tryz.underlying599 Tryz.underlying602 Tryz.underlying603 Tryz.underlying604 Tryz.underlying605 Tryz.underlying606 Tryz.underlying607 Tryz.underlying608 Tryz.underlying609 Tryz.underlying610 Tryz.underlying611 Tryz.underlying612 Tryz.underlying614 Tryz.underlying615 Tryz.underlying618 Tryz.underlying619 Tryz.underlying620 Tryz.underlying621 Tryz.underlying622 Tryz.underlying624 Tryz.underlying625 Tryz.underlying626 Tryz.underlying627 Tryz.underlying629 Tryz.underlying630 Tryz.underlying631 Tryz.underlying632 Tryz.underlying633 Tryz.underlying634 Tryz.underlying635 Tryz.underlying636 Tryz.underlying637 Tryz.underlying638 Tryz.underlying639 Tryz.underlying640 Tryz.underlying642 Tryz.underlying643 Tryz.underlying644 Tryz.underlying645 Tryz.underlying646 Tryz.underlying647 Tryz.underlying648 Tryz.underlying649 Tryz.underlying650 Tryz.underlying651 Tryz.underlying652 Tryz.underlying653 Tryz.underlying655 Tryz.underlying657 Tryz.underlying659 Tryz.underlying662 Tryz.underlying663 Tryz.underlying664 Tryz.underlying665 Tryz.underlying666 Tryz.underlying667 Tryz.underlying668 Tryz.underlying669 Tryz.underlying670 Tryz.underlying671 Tryz.underlying672 Tryz.underlying673 Tryz.underlying674 Tryz.underlying675 Tryz.underlying676 Tryz.underlying677 Tryz.underlying678 Tryz.underlying679 Tryz.underlying680 Tryz.underlying681 Tryz.underlying682 Tryz.underlying683 Tryz.underlying684 Tryz.underlying685 Tryz.underlying686 Tryz.underlying687 Tryz.underlying688 Tryz.underlying689 Tryz.underlying692 Tryz.underlying693 Tryz.underlying694 Tryz.underlying695 Tryz.underlying696 Tryz.underlying697 Tryz.underlying698 Tryz.underlying699 Tryz.underlying700 Tryz.underlying701 Tryz.underlying702 Tryz.underlying703 Tryz.underlying706 Tryz.underlying707 Tryz.underlying708 Tryz.underlying709 Tryz.underlying710 Tryz.underlying711 Tryz.underlying712 Tryz.underlying713 Tryz.underlying714 Tryz.underlying715 Tryz.underlying716 Tryz.underlying717 Tryz.underlying720 Tryz.underlying723 Tryz.underlying724 Tryz.underlying725 Tryz.underlying726 Tryz.underlying727
theorem Tryz.mixed:Tryz.prog.follows .mixedOrders=true:=by kernel_rfl
end Go.Proofs
end

section
set_option linter.all false
namespace Go.Ab
open Go.RowKit (Below)
section
variable {P:Program} {o:Oper} {α:Operand→AVal} {σ:Store} {Kk:AVal→Store→Prop}
theorem AOp_makeSlice {t e:TypeId} {n by_:Nat} {x y:Operand} {z:Value} {k1 k2:IntKind} (ho:o.op=.makeSlice t x y) (hse:ad_ P t=some e) (hte:al_ P e=some (1,by_)) (hz:a4_ P e=some z) (hz1:z.cells=#[z])
  (hx:α x=.lit (.int k1 n)) (hy:α y=.lit (.int k2 n)) (hn:by_ * n≤281474976710656) (hk:∀ i,σ.heap i=none→Kk (.msl i 1 0 n) (σ.set i (.cells (List.replicate n (.lit z))))):AOp P o α σ Kk:=by
 obtain ⟨dst,op,ty,pos,after,guard⟩:=o
 obtain rfl:op=_:=ho
 intro κ ev hI hxx
 obtain ⟨i,z',hi,hz',hisz,hiby,hzs,hsz,hby⟩:=aB_ hte
 have hts:P.underlying t=some (.slice e):=by
  unfold ad_ at hse
  split at hse
  ·rename_i e' he';obtain rfl:=Option.some.inj hse;exact he'
  ·cases hse
 have hvx:=hxx x (by simp [Op.operands])
 have hvy:=hxx y (by simp [Op.operands])
 rw [hx] at hvx
 rw [hy] at hvy
 have ezz:z'=z:=by
  unfold a4_ at hz
  rw [hi] at hz
  simpa [hz'] using hz
 subst ezz
 have h63:n≤9223372036854775807:=by
  have:n≤by_ * n:=Nat.le_mul_of_pos_left _ hby
  omega
 have hrun:=run_make_row' (P:=P) t e z' by_ hts (by rw [hi];simp [hz',hisz,hiby]) hz1 k1 k2 n hn h63 κ.w
 obtain ⟨oi,hoi,hfree⟩:=hI.fresh
 have hsize:(madeCells #[z'] n).size=n:=by simp [madeCells]
 obtain ⟨κ',hw,hle,hρ,hI'⟩:=hI.alloc oi hoi (.cells (List.replicate n (.lit z'))) (.cells (madeCells #[z'] n) e) fun κ' hle hh _=>⟨_,e,hh,by rw [hsize];simp,fun j hj=>by
  have hj':j < n:=by simpa using hj
  have:(madeCells #[z'] n).getD j undef=z':=by simp [madeCells,hj',Nat.mod_one]
  rw [this,List.getElem_replicate]
  exact .lit _⟩
 have hheap:κ'.w.heap[κ.w.heap.size]?=some (.cells (madeCells #[z'] n) e (0,0)):=by rw [hw];exact heap_alloc_new _ _
 refine ay_ rfl ⟨_,_,by rw [hvx.litInv,hvy.litInv];exact hrun,κ',.msl oi 1 0 n,_,hw,hle,hI',.msl oi 1 0 n κ.w.heap.size n n e hρ (Nat.le_refl _) (by unfold World.shape?;rw [hheap];simp [hsize]) ⟨by omega,by simp only [maxLen];omega⟩,hk oi hfree⟩
theorem freeze {κ:K} (hI:Inv κ σ) {so sz len:Nat} {cs l:List AVal} {v:Value} (hv:Rv κ (.msl so sz 0 len) v) (hh:σ.heap so=some (.cells cs)) (hl:cs.take (len * sz)=flat l) (hn:l.length=len) (hs:∀ x∈l,x.cells.length=sz) :
  ∃ κ',κ'.w=κ.w∧κ.Le κ'∧Inv κ' (σ.del so)∧Rv κ' (.sl sz l false) v:=by
 subst hn
 have hfl:=av_ hs
 generalize v=u at hv
 cases hv with
 |msl _ _ _ _ b cap n el hb hlc hsh hcap =>
 obtain ⟨b',hb',hbase,hIb,c,el',hheap,hcl,hcv⟩:=hI.heap so _ hh
 rw [hb] at hb'
 obtain rfl:=Option.some.inj hb'
 have hlen:l.length * sz≤cs.length:=by
  have:=congrArg List.length hl
  rw [List.length_take,hfl] at this
  omega
 have hle:κ.Le { κ with I:=fun k=>if k=b then l.length * sz else κ.I k } :=
  ⟨rfl,Below.refl _ _,fun _ _ h=>h,fun _ _ h=>h,fun _ _ h=>h,fun k=>by
   show _≤(if k=b then _ else _)
   split
   ·rename_i hk;rw [hk,hIb];exact Nat.zero_le _
   ·exact Nat.le_refl _,fun _ _ _ _ h=>h,Nat.le_refl _,fun k hk=>if_neg (by omega)⟩
 refine ⟨{ κ with I:=fun k=>if k=b then l.length * sz else κ.I k },rfl,hle,?_,?_⟩
 ·have hne:∀ i x,(σ.del so).heap i=some x→i≠so∧σ.heap i=some x:=fun i x hx=>by
   by_cases hi:i=so
   ·rw [hi,Store.del_get] at hx;cases hx
   ·rw [Store.del_ne _ hi] at hx;exact ⟨hi,hx⟩
  refine ⟨hI.glob,hI.base,fun i x hx=>?_,fun i i' x x' k hx hx'=>hI.inj i i' x x' k (hne _ _ hx).2 (hne _ _ hx').2,fun t q ht=>?_,fun t t' q q' u u' k=>hI.tokinj t t' q q' u u' k,fun t q u k i x ht hu hk hx=>hI.tokobj t q u k i x ht hu hk (hne _ _ hx).2,hI.frO,hI.frT,fun k hk=>?_⟩
  ·obtain ⟨hi,hx'⟩:=hne _ _ hx
   obtain ⟨k,hk,hkb,hkI,hR⟩:=hI.heap i x hx'
   have hkne:k≠b:=fun hh'=>hi (hI.inj i so x _ b hx' hh (by rw [hk,hh']) hb)
   exact ⟨k,hk,hkb,by show (if k=b then _ else _)=_;rw [if_neg hkne];exact hkI,hR.mono hle rfl⟩
  ·obtain ⟨u,hu,hok⟩:=hI.tok t q ht
   refine ⟨u,hu,hok.mono hle fun k hk=>⟨rfl,?_⟩⟩
   show (if k=b then _ else _)=_
   rw [if_neg (fun hh'=>hI.tokobj t q u k so _ ht hu hk hh (by rw [hb,hh']))]
  ·show (if k=b then _ else _)=_
   have:b < κ.w.heap.size:=(Array.getElem?_eq_some_iff.1 hheap).1
   have hk':κ.w.heap.size≤k:=hk
   rw [if_neg (by omega)]
   exact hI.frI k hk
 ·refine .sl sz l false b 0 cap (fun k=>c.getD k undef) hlc (by simp) hs (fun k hk=>?_) (fun k hk=>?_)
  ·refine ⟨?_,?_⟩
   ·show _ < (if b=b then _ else _)
    rw [if_pos rfl];omega
   ·show κ.w.cell? _=_
    rw [cell_of_row _ _ _ _ _ _ hheap]
    simp [show k < c.size by omega]
  ·have e1:(flat l)[k]=cs[k]'(by omega):=by
    have h1:(cs.take (l.length * sz))[k]?=(flat l)[k]?:=by rw [hl]
    rw [List.getElem?_take,if_pos (by omega),List.getElem?_eq_getElem hk,List.getElem?_eq_getElem (show k < cs.length by omega)] at h1
    exact (Option.some.inj h1).symm
   rw [e1]
   exact (hcv k (by omega)).mono hle
theorem AOp_copyM {s x:Operand} {t e:TypeId} {sz by_:Nat} {l2:List AVal}
  (ho:o.op=.call { callee:=.builtin .append,args:=#[s,x],argTypes:=#[t,t] }) (hse:ad_ P t=some e) (hte:al_ P e=some (sz,by_))
  (hs:α s=.sl sz [] true) (hx:slOf (α x)=some (sz,l2)) (hne:l2≠[]) (hlen:l2.length * by_≤140737488355328)
  (hk:∀ o',σ.heap o'=none→Kk (.msl o' sz 0 l2.length) (σ.set o' (.cells (flat l2)))):AOp P o α σ Kk:=by
 obtain ⟨dst,op,ty,pos,after,guard⟩:=o
 obtain rfl:op=.call { callee:=.builtin .append,args:=#[s,x],argTypes:=#[t,t] }:=ho
 intro κ ev hI hxx
 obtain ⟨i,z,hi,hz,hisz,hiby,hzs,hsz,hby⟩:=aB_ hte
 subst hisz
 subst hiby
 have hts:P.underlying t=some (.slice e):=by
  unfold ad_ at hse
  split at hse
  ·rename_i e' he';obtain rfl:=Option.some.inj hse;exact he'
  ·cases hse
 have hvs:=hxx s (by simp [Op.operands,Call.operands])
 have hvx:=hxx x (by simp [Op.operands,Call.operands])
 have hm:0 < l2.length:=List.length_pos_iff.2 hne
 have hle47:l2.length≤140737488355328:=Nat.le_trans (Nat.le_mul_of_pos_right _ hby) hlen
 obtain ⟨ad,cap2,vs,hevx,hl2sz,hvsr,hcu⟩:∃ ad cap2 vs,ev x=.slice (some ad) l2.length cap2∧(∀ y∈l2,y.cells.length=i.size)∧RvC κ (flat l2) vs∧∀ j u,vs[j]?=some u→κ.w.cell? (ad.add j)=some u:=by
  obtain ⟨a,cap,us2,hev,hsz',hr,hc⟩:=cs_ (cr_ hx hvx)
  rcases hc with ⟨_,h0,_⟩ | ⟨ad,rfl,hcu⟩
  ·exact absurd h0 hne
  ·exact ⟨ad,cap,us2,hev,hsz',hr,hcu⟩
 have hfl2:vs.length=l2.length * i.size:=by rw [← hvsr.1,av_ hl2sz]
 obtain ⟨o',ho',hfr⟩:=hI.fresh
 have hd:=hI.drew
 have fresh:∀ (cap':Nat),l2.length≤cap'→cap'≤maxLen→Post κ Kk (.slice (some ⟨κ.w.heap.size,0,none⟩) l2.length cap') (κ.w.drew.alloc (.cells (vs.toArray ++ Builtin.zeroCells z.cells (cap' - l2.length)) e)):=by
  intro cap' hcap hcml
  have hsize:(vs.toArray ++ Builtin.zeroCells z.cells (cap' - l2.length)).size=cap' * i.size:=by
   simp only [Array.size_append,List.size_toArray,size_zeroCells,hzs,hfl2,← Nat.add_mul]
   congr 1;omega
  obtain ⟨κ',hw,hle,hρ,hI'⟩:=hd.2.alloc o' ho' (.cells (flat l2)) (.cells (vs.toArray ++ Builtin.zeroCells z.cells (cap' - l2.length)) e) fun κ' hle hh _=>by
   refine ⟨_,e,hh,?_,fun j hj=>?_⟩
   ·rw [hsize,hvsr.1,hfl2];exact Nat.mul_le_mul_right _ hcap
   ·have hj':j < vs.length:=by rw [← hvsr.1];exact hj
    have e1:(vs.toArray ++ Builtin.zeroCells z.cells (cap' - l2.length)).getD j undef=vs[j]:=by
     simp only [Array.getD_eq_getD_getElem?]
     rw [Array.getElem?_append_left (by simpa using hj')]
     simp [hj']
    rw [e1]
    exact (hvsr.2 j hj hj').mono (hd.1.trans hle)
  have hheap:κ'.w.heap[κ.w.heap.size]?=some (.cells (vs.toArray ++ Builtin.zeroCells z.cells (cap' - l2.length)) e (0,0)):=by
   rw [hw];exact Go.heap_alloc_new κ.w.drew _
  exact ⟨κ',.msl o' i.size 0 l2.length,_,hw,hd.1.trans hle,hI',.msl o' i.size 0 _ κ.w.heap.size cap' _ e hρ hcap (by unfold World.shape?;rw [hheap]) ⟨by rw [hsize];omega,hcml⟩,hk o' hfr⟩
 refine ay_ (s:=Builtin.append_ #[t,t] ty #[ev s,ev x]) (by simp [execOp,resolve,invoke,builtin]) ?_
 rw [hs] at hvs
 have hnil:(ev s=.slice none 0 0)∨∃ b,ev s=.slice (some b) 0 0:=by
  rcases hvs.slInv with ⟨a,h1,h2⟩ | ⟨b,off,cap,vals,h1,hcap,htt,_⟩
  ·cases a with
   |none=>exact .inl h1
   |some b=>exact .inr ⟨b,h1⟩
  ·right
   have:=htt rfl
   simp at this
   subst this
   exact ⟨_,h1⟩
 rw [hevx]
 rcases hnil with h0 | ⟨b,h0⟩
 ·rw [h0]
  have hr:=run_append_nil (P:=P) κ.w t ty e i z hts hi hz ad l2.length cap2 vs hfl2 hcu hm (by omega) (by omega)
  exact ⟨_,_,hr,fresh _ (grownCap_ge _ _ _ _) (grownCap_le_maxLen _ _ _ _ (by simp only [maxLen];omega))⟩
 ·rw [h0]
  have hr:=run_append_grow (P:=P) κ.w t ty e i z hts hi hz b 0 0 [] (by simp) (by simp) ad l2.length cap2 vs hfl2 hcu (by omega) (by omega) (growslice_fits (by omega) (by simpa using hlen))
  simp only [Nat.zero_add] at hr
  refine ⟨_,_,hr,?_⟩
  have:=fresh (grownCap κ.w l2.length 0 e) (grownCap_ge _ _ _ _) (grownCap_le_maxLen _ _ _ _ (by simp only [maxLen];omega))
  simpa using this
end
end Go.Ab
end

section
set_option linter.all false
namespace Go.Ab
abbrev vInt (n:Int):AVal:=.lit (.int .i64 n)
abbrev rB_ (b:Bool):AVal:=.lit (.bool b)
abbrev vStr (s:ByteArray):AVal:=.lit (.string s)
def bAnd (k:IntKind) (a b:Int):Int:=k.wrap (BitVec.ofInt k.bits a &&& BitVec.ofInt k.bits b).toNat
def bOr (k:IntKind) (a b:Int):Int:=k.wrap (BitVec.ofInt k.bits a ||| BitVec.ofInt k.bits b).toNat
def bXor (k:IntKind) (a b:Int):Int:=k.wrap (BitVec.ofInt k.bits a ^^^ BitVec.ofInt k.bits b).toNat
@[go_sem] theorem tZ_ (e:Env) (d k:Nat) (a:AVal):upd e d a k=if k=d then a else e k:=rfl
@[go_sem] theorem tY_ (k:Nat):emp k=.any:=rfl
@[go_sem] theorem gB_ (k:Nat):dL_ k []=emp:=rfl
@[go_sem] theorem fv_ (k:Nat) (a:AVal) (l:List AVal):dL_ k (a :: l)=upd (dL_ (k + 1) l) k a:=rfl
@[go_sem] theorem sb_ (e:Env) (t:Tmp):aev e (.tmp t)=e t:=rfl
@[go_sem] theorem r7_ (e:Env) (k:IntKind) (n:Int):aev e (.const (.int k n))=.lit (.int k n):=rfl
@[go_sem] theorem rE_ (e:Env) (b:Bool):aev e (.const (.bool b))=.lit (.bool b):=rfl
@[go_sem] theorem sa_ (e:Env) (s:ByteArray):aev e (.const (.string s))=.lit (.string s):=rfl
@[go_sem] theorem r9_ (e:Env) (a:Option Addr):aev e (.const (.pointer a))=.lit (.pointer a):=rfl
@[go_sem] theorem oP_ (e:Env) (a:Option Addr) (n c:Nat):aev e (.const (.slice a n c))=.lit (.slice a n c):=rfl
@[go_sem] theorem r8_ (e:Env) (r:Option Nat):aev e (.const (.map r))=.lit (.map r):=rfl
@[go_sem] theorem nj_ (e:Env):aev e (.const .nilFunc)=.lit .nilFunc:=rfl
@[go_sem] theorem mE_ (e:Env):aev e (.const .nilIface)=.lit .nilIface:=rfl
@[go_sem] theorem rF_ (e:Env) (f:FuncId):aev e (.func f)=.lit (.func (.func f) #[] #[]):=rfl
section
variable (P:Program) (α:Operand→AVal) (σ:Store)
@[go_sem] theorem oY_ (x:Operand):aval P (.move x) α σ=some (α x):=rfl
@[go_sem] theorem ns_ (x:Operand):aval P (.assign x) α σ=some (α x):=rfl
@[go_sem] theorem oZ_ (c a b:Operand):aval P (.pick c a b) α σ=match α c with | .lit (.bool t)=>some (dZ_ t (α a) (α b)) | _=>none:=rfl
@[go_sem] theorem lw_ (x:Operand):aval P (.nilCheck x) α σ=anil (α x):=rfl
@[go_sem] theorem oF_ (op:BinOp) (t yt:TypeId) (x y:Operand):aval P (.binOp op t x y yt) α σ=abin P σ op t (a1_ x || a1_ y) (α x) (α y):=rfl
@[go_sem] theorem o0_ (op:UnOp) (t:TypeId) (x:Operand):aval P (.unOp op t x) α σ=jn_ op (α x):=rfl
@[go_sem] theorem mN_ (s d:TypeId) (x:Operand):aval P (.convert s d x) α σ=b0_ P s d (α x):=rfl
@[go_sem] theorem ln_ (s:TypeId) (x:Operand) (f:Nat):aval P (.fieldAddr s x f) α σ=bO_ P s (α x) f:=rfl
@[go_sem] theorem oH_ (t:TypeId) (x:Operand) (f:Nat):aval P (.field t x f) α σ=fo_ P t (α x) f:=rfl
@[go_sem] theorem lo_ (t:TypeId) (x i:Operand):aval P (.indexAddr t x i) α σ=bP_ P t (α x) (α i):=rfl
@[go_sem] theorem oI_ (t:TypeId) (x i:Operand):aval P (.index t x i) α σ=fp_ P t (α x) (α i):=rfl
@[go_sem] theorem oX_ (t:TypeId) (x:Operand):aval P (.load t x) α σ=bT_ P σ t (α x):=rfl
@[go_sem] theorem mO_ (x:Operand) (i:Nat):aval P (.extract x i) α σ=match α x with | .tup vs=>vs[i]? | _=>none:=rfl
@[go_sem] theorem oJ_ (t:TypeId) (x:Operand) (lo hi mx:Option Operand):aval P (.slice t x lo hi mx) α σ=ew_ P t (α x) (lo.map α) (hi.map α) (mx.map α):=rfl
@[go_sem] theorem lv_ (fn:Fn) (f c:Array Operand):aval P (.makeFunc fn f c) α σ=some (.fn fn (f.toList.map α) (c.toList.map α)):=rfl
@[go_sem] theorem h1_ (t:TypeId) (x:Operand):aval P (.makeInterface t x) α σ=match P.underlying t with | some (.interface _)=>none | some _=>some (.iface t (α x)) | none=>none:=rfl
@[go_sem] theorem oG_ (t:TypeId) (ps:Array (Nat × Operand)):aval P (.build t ps) α σ=dT_ P t (ps.toList.map fun p=>(p.1,α p.2)):=rfl
@[go_sem] theorem nt_ (t:TypeId) (m k:Operand) (ok:Bool):aval P (.lookup t m k ok) α σ=fR_ P σ t (α m) (α k) ok:=rfl
@[go_sem] theorem jo_ (x:Operand) (xt t:TypeId) (ok:Bool):aval P (.typeAssert x xt t ok) α σ=cj_ P (α x) t ok:=rfl
@[go_sem] theorem rY_ (x:Operand) (t:TypeId):aval P (.call { callee:=.builtin .len,args:=#[x],argTypes:=#[t] }) α σ=(alen P σ t (α x)).map fun (n:Nat)=>AVal.lit (.int .i64 (n:Int)):=rfl
@[go_sem] theorem rZ_ (args:Array Operand) (ts:Array TypeId):aval P (.call { callee:=.builtin .max,args:=args,argTypes:=ts }) α σ=fg_ true (args.toList.map α):=rfl
@[go_sem] theorem r0_ (args:Array Operand) (ts:Array TypeId):aval P (.call { callee:=.builtin .min,args:=args,argTypes:=ts }) α σ=fg_ false (args.toList.map α):=rfl
@[go_sem] theorem oR_ (k k':IntKind) (x y:Int):fg_ true [.lit (.int k x),.lit (.int k' y)]=some (.lit (.int k (max x y))):=rfl
@[go_sem] theorem oS_ (k k':IntKind) (x y:Int):fg_ false [.lit (.int k x),.lit (.int k' y)]=some (.lit (.int k (min x y))):=rfl
@[go_sem] theorem nl_ (k k' k'':IntKind) (x y z:Int):fg_ true [.lit (.int k x),.lit (.int k' y),.lit (.int k'' z)]=some (.lit (.int k (max (max x y) z))):=rfl
@[go_sem] theorem nm_ (k k' k'':IntKind) (x y z:Int):fg_ false [.lit (.int k x),.lit (.int k' y),.lit (.int k'' z)]=some (.lit (.int k (min (min x y) z))):=rfl
@[go_sem] theorem rC_ (op:BinOp) (t:TypeId) (c:Bool) (k k':IntKind) (a b:Int):abin P σ op t c (.lit (.int k a)) (.lit (.int k' b))=(aint op k a k' b).map .lit:=rfl
@[go_sem] theorem rD_ (op:BinOp) (t:TypeId) (c:Bool) (a b:ByteArray):abin P σ op t c (.lit (.string a)) (.lit (.string b))=(astr op a b).map .lit:=rfl
@[go_sem] theorem rG_ (k:IntKind) (a b:Int):aint .add k a k b=some (.int k (k.wrap (a + b))):=by simp [aint]
@[go_sem] theorem rP_ (k:IntKind) (a b:Int):aint .sub k a k b=some (.int k (k.wrap (a - b))):=by simp [aint]
@[go_sem] theorem rN_ (k:IntKind) (a b:Int):aint .mul k a k b=some (.int k (k.wrap (a * b))):=by simp [aint]
@[go_sem] theorem rI_ (k:IntKind) (a b:Int):aint .eql k a k b=some (.bool (decide (a=b))):=by simp [aint]
@[go_sem] theorem rO_ (k:IntKind) (a b:Int):aint .neq k a k b=some (.bool (!decide (a=b))):=by simp [aint]
@[go_sem] theorem rM_ (k:IntKind) (a b:Int):aint .lss k a k b=some (.bool (decide (a < b))):=by simp [aint]
@[go_sem] theorem rL_ (k:IntKind) (a b:Int):aint .leq k a k b=some (.bool (decide (a≤b))):=by simp [aint]
@[go_sem] theorem rK_ (k:IntKind) (a b:Int):aint .gtr k a k b=some (.bool (decide (b < a))):=by simp [aint]
@[go_sem] theorem rJ_ (k:IntKind) (a b:Int):aint .geq k a k b=some (.bool (decide (b≤a))):=by simp [aint]
@[go_sem] theorem rH_ (k:IntKind) (a b:Int):aint .and k a k b=some (.int k (bAnd k a b)):=by simp [aint,bAnd]
@[go_sem] theorem sc_ (k:IntKind) (a b:Int):aint .or k a k b=some (.int k (bOr k a b)):=by simp [aint,bOr]
@[go_sem] theorem rQ_ (k:IntKind) (a b:Int):aint .xor k a k b=some (.int k (bXor k a b)):=by simp [aint,bXor]
theorem ls_ (k:IntKind) (a b:Int) (h:b≠0):aint .quo k a k b=some (.int k (k.wrap (a.tdiv b))):=by simp [aint,h]
@[go_sem] theorem rS_ (a b:ByteArray):astr .eql a b=some (.bool (decide (a=b))):=rfl
@[go_sem] theorem rX_ (a b:ByteArray):astr .neq a b=some (.bool (!decide (a=b))):=rfl
@[go_sem] theorem rW_ (a b:ByteArray):astr .lss a b=some (.bool (sLt a b)):=rfl
@[go_sem] theorem rU_ (a b:ByteArray):astr .gtr a b=some (.bool !(sLt a b || decide (a=b))):=rfl
@[go_sem] theorem rV_ (a b:ByteArray):astr .leq a b=some (.bool (sLt a b || decide (a=b))):=rfl
@[go_sem] theorem rT_ (a b:ByteArray):astr .geq a b=some (.bool !(sLt a b)):=rfl
theorem lu_ (a b:ByteArray) (h:a.size + b.size≤hz_):astr .add a b=some (.string (a ++ b)):=by simp [astr,h]
@[go_sem] theorem oE_ (t x y:Bool):dZ_ t (.lit (.bool x)) (.lit (.bool y))=.lit (.bool (bif t then x else y)):=rfl
end
theorem wrap_i64 (n:Int) (h1:-9223372036854775808≤n) (h2:n≤9223372036854775807):IntKind.i64.wrap n=n:=by
 unfold IntKind.wrap
 simp only [IntKind.bits,IntKind.signed,Bool.true_and,decide_eq_true_eq,ge_iff_le]
 have e1:(2:Int) ^ 64=18446744073709551616:=by decide
 have e2:(2:Int) ^ (64 - 1)=9223372036854775808:=by decide
 simp only [e1,e2]
 split <;> omega
attribute [go_sem] iN_ Store.delO Store.del_ne Store.newTok_heap Store.set_tok Store.newTok_get Store.newTok_set bO_ bT_ bP_ fo_ fp_ dT_ anil jn_ b0_ alen apart aro b8_ gq_ aput slOf AVal.cells AVal.solid AVal.one ofConst aO_ Store.set_get Store.set_ne bI_ alow eu_ aret
@[go_sem] theorem oL_ {β:Type} (l:List β):l.toArray.toList=l:=rfl
@[go_sem] theorem mL_ (P:Program) (e:Env) (σ:Store):bx_ P [] e σ=some []:=rfl
@[go_sem] theorem mM_ (P:Program) (e:Env) (σ:Store) (t:Tmp) (rs:List ResultVar):bx_ P (.tmp t :: rs) e σ=match bx_ P rs e σ with | some vs=>some (e t :: vs) | none=>none:=by
 unfold bx_
 rw [List.mapM_cons]
 generalize hq:rs.mapM (m:=Option) (fun
  |.tmp t=>some (e t)
  |.cell a t=>bT_ P σ t (e a))=q
 cases q <;> simp [hq]
@[go_sem] theorem lt_ (P:Program) (e:Env) (σ:Store) (a:Tmp) (t:TypeId) (rs:List ResultVar):bx_ P (.cell a t :: rs) e σ=match bT_ P σ t (e a),bx_ P rs e σ with | some v,some vs=>some (v :: vs) | _,_=>none:=by
 unfold bx_
 rw [List.mapM_cons]
 generalize hq:rs.mapM (m:=Option) (fun
  |.tmp t=>some (e t)
  |.cell a t=>bT_ P σ t (e a))=q
 cases hl:bT_ P σ t (e a) <;> cases q <;> simp [hq,hl]
attribute [go_sem] if_pos ew_ Int.toNat_natCast List.length_map List.map_append Bool.false_eq_true ne_eq not_true_eq_false not_false_eq_true and_self and_true true_and Nat.add_zero Nat.zero_add Option.map_some Option.map_none Option.bind_some Option.isSome_some List.length_cons List.length_nil List.map_cons List.map_nil List.nil_append List.cons_append List.append_nil List.take_succ_cons List.take_zero List.drop_succ_cons List.drop_zero List.getElem?_cons_zero List.getElem?_cons_succ Int.toNat_zero Int.le_refl decide_true decide_false beq_self_eq_true Bool.and_self Bool.and_true Bool.true_and Bool.and_false Bool.false_and cond_true cond_false Bool.not_true Bool.not_false Bool.or_self Bool.or_false Bool.or_true Bool.true_or Bool.false_or
attribute [go_sem] gs_ de_ fS_ ap_ ck_ cu_ hg_ hp_
section
variable {P:Program} {ops:Array Oper} {Kk:Env→Store→Prop} {o:Oper} {rest:List Oper} {e:Env} {σ:Store}
theorem aa_ (h:Kk e σ):aL_ P ops Kk [] e σ:=h
theorem aL_S {d:Tmp} {a:AVal} (hg:o.guard=none) (hd:o.dst=some d) (ha:aval P o.op (aev e) σ=some a) (h:aL_ P ops Kk rest (upd e d a) σ):aL_ P ops Kk (o :: rest) e σ:=by
 unfold aL_ aT_ aC_
 simp only [hg,hd,updo]
 exact b5_ ha h
theorem aL_X {d:Tmp} (hg:o.guard=none) (hd:o.dst=some d) (h:AOp P o (aev e) σ fun a σ'=>aL_ P ops Kk rest (upd e d a) σ'):aL_ P ops Kk (o :: rest) e σ:=by
 unfold aL_ aT_ aC_
 simp only [hg,hd,updo]
 exact h
theorem r6_ (hg:o.guard=none) (hd:o.dst=none) (h:AOp P o (aev e) σ fun _ σ'=>aL_ P ops Kk rest e σ'):aL_ P ops Kk (o :: rest) e σ:=by
 unfold aL_ aT_ aC_
 simp only [hg,hd,updo]
 exact h
end
section
variable {P:Program} {ops:Array Oper} {s0:Store} {Kk:Env→Store→Prop} {o:Oper} {i:Nat} {r:DT} {e:Env} {σ:Store}
theorem gA_ (h:Kk e σ):dRun P ops s0 Kk .nil e σ:=h
theorem dR_S {d:Tmp} {a:AVal} (ho:ops[i]?=some o) (hg:o.guard=none) (hd:o.dst=some d) (ha:aval P o.op (aev e) s0=some a) (h:dRun P ops s0 Kk r (upd e d a) σ):dRun P ops s0 Kk (.op i 0 r) e σ:=by
 refine ⟨o,a,ho,.inl ⟨by simp [aC_,hg],ha⟩,?_⟩
 rw [hd];exact h
theorem dR_X {d:Tmp} (ho:ops[i]?=some o) (hd:o.dst=some d) (hw:aC_ ops o e=some true) (h:AOp P o (aev e) σ fun a σ'=>s0.Sub σ'∧dRun P ops s0 Kk r (upd e d a) σ'):dRun P ops s0 Kk (.op i 1 r) e σ:=by
 refine ⟨o,ho,?_⟩
 unfold aT_
 simp only [hw,hd,updo]
 exact h
theorem dR_T {d:Tmp} (ho:ops[i]?=some o) (hd:o.dst=some d) (hw:aC_ ops o e=some true) (h:AOp P o (aev e) σ fun a σ'=>dRun P ops s0 Kk r (upd e d a) σ'):dRun P ops s0 Kk (.op i 2 r) e σ:=by
 refine ⟨o,ho,?_⟩
 unfold aT_
 simp only [hw,hd,updo]
 exact h
end
theorem jc_ {P:Program} {o:Oper} {α:Operand→AVal} {σ:Store} {Kk:AVal→Store→Prop} {c:Call} {f:Operand} {g:FuncId} {first captured args:List AVal} {Q:AVal→Store→Prop} (ho:o.op=.call c) (hc:c.callee=.value f)
  (hf:α f=.fn (.func g) first captured∨(α f=.lit (.func (.func g) #[] #[])∧first=[]∧captured=[])) (hg:isGo P g=true)
  (hargs:first ++ c.args.toList.map α ++ captured=args) (hcon:ACalls P g args σ Q) (hk:∀ a σ',Q a σ'→Kk a σ'):AOp P o α σ Kk:=by
 subst hargs
 exact bY_ ho hc hf hg (hcon.mono hk)
section
variable {P:Program} {ops:Array Oper} {s0:Store} {Kk:Env→Store→Prop} {o:Oper} {rest:List Oper} {i:Nat} {r:DT} {e:Env} {σ:Store}
theorem iK_ {α:Operand→AVal} {Kk:AVal→Store→Prop} {t:TypeId} {ad x:Operand} {j off size:Nat} {g:Bool} {cs cs':List AVal} {a:AVal} (ho:o.op=.store t ad x) (ha:α ad=.ref j off) (hx:α x=a) (hh:σ.heap j=some (.cells cs))
  (ht:aQ_ P t=some (size,g)) (hs:a.solid=true) (hcs:a.cells=cs') (hones:∀ c∈cs',c.one=true) (hsz:cs'.length=size) (hle:off + size≤cs.length) {cs2:List AVal} (hp:aput cs off cs'=cs2) (h:Kk .any (σ.set j (.cells cs2))):AOp P o α σ Kk:=by
 subst hx;subst hcs;subst hp;exact AOp_store ho ha hh ht hs hones hsz hle h
theorem fQ_ {t:TypeId} {ad x:Operand} {j off size:Nat} {g:Bool} {cs cs':List AVal} {a:AVal} (hg:o.guard=none) (hd:o.dst=none) (ho:o.op=.store t ad x) (ha:aev e ad=.ref j off) (hx:aev e x=a) (hh:σ.heap j=some (.cells cs))
  (ht:aQ_ P t=some (size,g)) (hs:a.solid=true) (hcs:a.cells=cs') (hones:∀ c∈cs',c.one=true) (hsz:cs'.length=size) (hle:off + size≤cs.length) {cs2:List AVal} (hp:aput cs off cs'=cs2)
  (h:aL_ P ops Kk rest e (σ.set j (.cells cs2))):aL_ P ops Kk (o :: rest) e σ :=
 r6_ hg hd (iK_ ho ha hx hh ht hs hcs hones hsz hle hp h)
theorem iM_ {d:Tmp} {src dst el:TypeId} {x:Operand} {s:ByteArray} (hg:o.guard=none) (hd':o.dst=some d) (ho:o.op=.convert src dst x) (hs:P.underlying src=some .string) (hd:P.underlying dst=some (.slice el)) (he:P.underlying el=some (.int .u8)) (hx:aev e x=.lit (.string s))
  (h:aL_ P ops Kk rest (upd e d (.sl 1 (aj_ s) false)) σ):aL_ P ops Kk (o :: rest) e σ:=aL_X hg hd' (AOp_bytesOf ho hs hd he hx h)
theorem hX_ {tx:TypeId} {s:ByteArray} (hk:P.underlying tx=some .string):ASrc P 1 tx (.lit (.string s)) (aj_ s):=.inr ⟨hk,rfl,s,rfl,rfl⟩
theorem el_ {α:Operand→AVal} {Kk:AVal→Store→Prop} {t el:TypeId} {n sz by_:Nat} {parts:List (Nat × Operand)} {l:List AVal} (ho:o.op=.buildSlice t n parts.toArray) (hse:ad_ P t=some el) (hte:al_ P el=some (sz,by_)) (hn:parts.length=n)
  (hr:parts.map (·.1)=List.range' 0 parts.length) (hl:(parts.map fun p=>α p.2)=l) (hs:∀ p∈parts,(α p.2).solid=true∧(α p.2).cells.length=sz) (hbig:n * sz≤16777216) (hk:Kk (.sl sz l true) σ):AOp P o α σ Kk:=by
 subst hl
 exact AOp_buildSlice ho hse hte hn hr hs hbig hk
theorem ce_ {d:Tmp} {t el:TypeId} {n sz by_:Nat} {parts:List (Nat × Operand)} {l:List AVal} (hg:o.guard=none) (hd:o.dst=some d) (ho:o.op=.buildSlice t n parts.toArray) (hse:ad_ P t=some el) (hte:al_ P el=some (sz,by_)) (hn:parts.length=n)
  (hr:parts.map (·.1)=List.range' 0 parts.length) (hl:(parts.map fun p=>aev e p.2)=l) (hs:∀ p∈parts,(aev e p.2).solid=true∧(aev e p.2).cells.length=sz) (hbig:n * sz≤16777216) (h:aL_ P ops Kk rest (upd e d (.sl sz l true)) σ):aL_ P ops Kk (o :: rest) e σ :=
 aL_X hg hd (el_ ho hse hte hn hr hl hs hbig h)
theorem aK_ {rs:List ResultVar} {Q:AVal→Store→Prop} {v:AVal} {σ':Store} (h:aret P rs e σ=some v) (hs:σ'.Wk σ) (hq:Q v σ'):aEnd P rs Q .ret e σ:=⟨v,v,σ',h,.refl _,hs,hq⟩
theorem bK_ {rs:List ResultVar} {Q:AVal→Store→Prop} {v:AVal} {σ':Store} (h:aret P rs e σ=some v) (hs:σ'.Wk σ) (hq:Q v σ'):aEnd P rs Q .normal e σ:=⟨v,v,σ',h,.refl _,hs,hq⟩
end
end Go.Ab
end
