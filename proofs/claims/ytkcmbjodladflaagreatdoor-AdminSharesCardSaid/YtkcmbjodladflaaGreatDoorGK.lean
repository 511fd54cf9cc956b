/-
  Entries sorted by their keys, and joined one behind the other; versions held against each other: the program; Entries of partitions, entries joined one behind the other: the program; The entries of a cluster at first, without more: the program; Entries joined with others: the document's way; What must come of administrators, whatever the arguments are; What must come of administrators, whatever the arguments are: the walk; What was set is newer, and may be put: plainly; What an administrator sets may be put, all of it: plainly; The reference's Is, of any string that a call may bring; Few of an administrator's ask, what is new among entries: the program; AdminNewer: the walk; An administrator's ask, as it comes in. Own work (an AI agent).
-/
import Derived.Test.YtkcmbjodladflaaGreatDoorGF
import Derived.Test.YtkcmbjodladflaaGreatDoorGI
import Derived.Test.YtkcmbjodladflaaGreatDoorGE
import Derived.Test.YtkcmbjodladflaaGreatDoorGG
import Derived.Test.YtkcmbjodladflaaGreatDoorGD
import Derived.Lib.Bytealg
import Derived.Shelf.Small.Strs
import Derived.WalkKit
import Derived.Shelf.SlSortCmp.NoneTotal
import Derived.Test.YtkcmbjodladflaaGreatDoorGJ
import Derived.Test.YtkcmbjodladflaaGreatDoorGH

section
set_option linter.all false
set_option maxRecDepth 100000
namespace Go.Proofs
open Go.Shelf
def mk_ : Go.Shelf.Ren := ⟨(fun n => match n with | 6 => 55 | 14 => 114 | 15 => 115 | 20 => 158 | 21 => 159 | 22 => 160 | 23 => 161 | 24 => 162 | 25 => 163 | 26 => 164 | 27 => 165 | 28 => 166 | 29 => 167 | 46 => 197 | 47 => 198 | 48 => 199 | 49 => 200 | 50 => 201 | 57 => 227 | _ => 0), (fun n => match n with | 0 => 0 | 3 => 3 | 4 => 4 | 5 => 5 | 9 => 9 | 22 => 22 | 24 => 45 | 25 => 86 | 39 => 139 | 45 => 178 | 46 => 179 | 50 => 98 | 53 => 185 | 55 => 187 | 66 => 213 | 70 => 217 | 76 => 238 | 77 => 122 | _ => 0), (fun n => match n with  | _ => 0)⟩
theorem r2_ : SlLaysF0.n6 Tryz.prog mk_ := {
 mixed := Tryz.mixed
 f6 := ⟨ "slices.SortFunc[[]pantler/api.Entry,pantler/api.Entry]", by decide, by kernel_rfl⟩
 f14 := ⟨ "slices.pdqsortCmpFunc[pantler/api.Entry]", by decide, by kernel_rfl⟩
 f15 := by kernel_rfl
 f20 := ⟨ "slices.insertionSortCmpFunc[pantler/api.Entry]", by decide, by kernel_rfl⟩
 f21 := ⟨ "slices.heapSortCmpFunc[pantler/api.Entry]", by decide, by kernel_rfl⟩
 f22 := ⟨ "slices.breakPatternsCmpFunc[pantler/api.Entry]", by decide, by kernel_rfl⟩
 f23 := ⟨ "slices.choosePivotCmpFunc[pantler/api.Entry]", by decide, by kernel_rfl⟩
 f24 := ⟨ "slices.reverseRangeCmpFunc[pantler/api.Entry]", by decide, by kernel_rfl⟩
 f25 := ⟨ "slices.partialInsertionSortCmpFunc[pantler/api.Entry]", by decide, by kernel_rfl⟩
 f26 := ⟨ "slices.partitionEqualCmpFunc[pantler/api.Entry]", by decide, by kernel_rfl⟩
 f27 := ⟨ "slices.partitionCmpFunc[pantler/api.Entry]", by decide, by kernel_rfl⟩
 f28 := by kernel_rfl
 f29 := by kernel_rfl
 f46 := ⟨ "slices.siftDownCmpFunc[pantler/api.Entry]", by decide, by kernel_rfl⟩
 f47 := by kernel_rfl
 f48 := by kernel_rfl
 f49 := ⟨ "slices.medianAdjacentCmpFunc[pantler/api.Entry]", by decide, by kernel_rfl⟩
 f50 := ⟨ "slices.medianCmpFunc[pantler/api.Entry]", by decide, by kernel_rfl⟩
 f57 := ⟨ "slices.order2CmpFunc[pantler/api.Entry]", by decide, by kernel_rfl⟩
 t0 := Tryz.underlying0
 a0 := Tryz.isAgg0
 z0 := Tryz.sizeOf0
 v0 := Tryz.zeroValue0
 t3 := Tryz.underlying3
 a3 := Tryz.isAgg3
 z3 := Tryz.sizeOf3
 v3 := Tryz.zeroValue3
 t4 := Tryz.underlying4
 a4 := Tryz.isAgg4
 z4 := Tryz.sizeOf4
 v4 := Tryz.zeroValue4
 t5 := Tryz.underlying5
 a5 := Tryz.isAgg5
 z5 := Tryz.sizeOf5
 v5 := Tryz.zeroValue5
 t9 := Tryz.underlying9
 a9 := Tryz.isAgg9
 z9 := Tryz.sizeOf9
 v9 := Tryz.zeroValue9
 t22 := Tryz.underlying22
 a22 := Tryz.isAgg22
 z22 := Tryz.sizeOf22
 v22 := Tryz.zeroValue22
 t25 := Tryz.underlying86
 a25 := Tryz.isAgg86
 z25 := Tryz.sizeOf86
 v25 := Tryz.zeroValue86
 t39 := Tryz.underlying139
 a39 := Tryz.isAgg139
 z39 := Tryz.sizeOf139
 v39 := Tryz.zeroValue139
 t45 := Tryz.underlying178
 a45 := Tryz.isAgg178
 z45 := Tryz.sizeOf178
 v45 := Tryz.zeroValue178
 t46 := Tryz.underlying179
 a46 := Tryz.isAgg179
 z46 := Tryz.sizeOf179
 v46 := Tryz.zeroValue179
 t50 := Tryz.underlying98
 a50 := Tryz.isAgg98
 z50 := Tryz.sizeOf98
 v50 := Tryz.zeroValue98
 t53 := Tryz.underlying185
 a53 := Tryz.isAgg185
 z53 := Tryz.sizeOf185
 v53 := Tryz.zeroValue185
 t55 := Tryz.underlying187
 a55 := Tryz.isAgg187
 z55 := Tryz.sizeOf187
 v55 := Tryz.zeroValue187
 t66 := Tryz.underlying213
 a66 := Tryz.isAgg213
 z66 := Tryz.sizeOf213
 v66 := Tryz.zeroValue213
 t70 := Tryz.underlying217
 a70 := Tryz.isAgg217
 z70 := Tryz.sizeOf217
 v70 := Tryz.zeroValue217
 t76 := Tryz.underlying238
 a76 := Tryz.isAgg238
 z76 := Tryz.sizeOf238
 v76 := Tryz.zeroValue238
 t77 := Tryz.underlying122
 a77 := Tryz.isAgg122
 z77 := Tryz.sizeOf122
 v77 := Tryz.zeroValue122 }
def iC_ : Go.Shelf.Ren := ⟨(fun n => match n with | 106 => 57 | 213 => 116 | 265 => 168 | _ => 0), (fun n => match n with | 3 => 3 | 9 => 9 | _ => 0), (fun n => match n with  | _ => 0)⟩
theorem ms_ : Lays.n106 Tryz.prog iC_ := {
 mixed := Tryz.mixed
 f106 := by kernel_rfl
 f213 := by kernel_rfl
 f265 := by kernel_rfl
 t3 := Tryz.underlying3
 a3 := Tryz.isAgg3
 z3 := Tryz.sizeOf3
 v3 := Tryz.zeroValue3
 t9 := Tryz.underlying9
 a9 := Tryz.isAgg9
 z9 := Tryz.sizeOf9
 v9 := Tryz.zeroValue9 }
end Go.Proofs
namespace Go.Proofs.YtkcmbjodladflaaGreatDoor
open Go.Ab Go.Shelf Go.Sort
theorem mU_ : ∀ (l m : List UInt8), Lib.compareBytes l m = if Op.bytesLess l m then -1 else if l = m then 0 else 1
 |[], [] => rfl
 |[], _ :: _ => rfl
 |_ :: _, [] => rfl
 |a :: l, b :: m => by
  rw [Lib.compareBytes, Op.bytesLess, mU_ l m]
  by_cases h1 : a < b
  ·simp [h1]
  ·by_cases h2 : b < a
   ·have h3 : a ≠ b := fun h => by rw [h] at h2; exact absurd h2 (UInt8.lt_irrefl _)
    simp [h1, h2, h3]
   ·have h3 : a = b := UInt8.le_antisymm (UInt8.not_lt.1 h2) (UInt8.not_lt.1 h1)
    subst h3
    simp [h1]
def cmpS (a b : ByteArray) : Int := if sLt a b then -1 else if a = b then 0 else 1
theorem iX_ (a b : ByteArray) : Lib.compareBytes a.data.toList b.data.toList = cmpS a b := by
 rw [mU_, cmpS, sLt, Lib.toList_data, Lib.toList_data]
 congr 1
 by_cases h : a = b
 ·subst h; simp
 ·have : ¬ a.data.toList = b.data.toList := fun hh => h (by apply ByteArray.ext; exact Array.toList_inj.1 hh)
  rw [if_neg h, if_neg this]
theorem lQ_ {κ : K} {α : Operand → AVal} {x y : Operand} {ev : Operand → Value} {a b : ByteArray} (hx : α x = vStr a) (hy : α y = vStr b) (h : ∀ z ∈ #[x, y], Rv κ (α z) (ev z)) : ∃ cv, (Extern.BytealgCompare.compare (#[x, y].map ev)).run Tryz.prog κ.w = .ok cv κ.w ∧ Rv κ (vInt (cmpS a b)) cv := by
 have h1 := h x (by simp); have h2 := h y (by simp)
 rw [hx] at h1
 rw [hy] at h2
 refine ⟨_, ?_, .lit _⟩
 rw [show #[x, y].map ev = #[ev x, ev y] from by simp, h1.litInv, h2.litInv, ← iX_]
 exact Lib.run_compareString a b κ.w
theorem fV_ {a b : ByteArray} {σ : Store} : ap_ Tryz.prog 116 [vStr a, vStr b] σ fun v σ' => v = vInt (cmpS a b) ∧ σ = σ' := by
 refine am_ Tryz.func116 rfl Tryz.ntmps116 (congrArg Array.toList Tryz.results116) (by simp only [List.length_cons, List.length_nil]; decide) ?_; simp only [ah_, al_, Nat.reduceAdd]
 refine ab_ ?_
 refine aa_ kr_ ?_
 (refine aL_S rfl rfl v_ ?_)
 refine ac_ ?_
 refine ab_ ?_
 refine aa_ kr_ ?_
 iterate 2 (refine aL_S rfl rfl v_ ?_)
 refine aL_X rfl rfl (di_ rfl (e := Extern.BytealgCompare.compare) kr_ g_ (fun κ ev _ h => lQ_ (a := a) (b := b) va_ va_ h) ?_)
 (refine aL_S rfl rfl v_ ?_)
 refine ac_ ?_
 refine aj_ ?_
 refine ai_ (σ' := σ) v_ sub_ ?_
 exact ⟨rfl, rfl⟩
theorem dX_ {a b : ByteArray} {σ : Store} : ap_ Tryz.prog 57 [vStr a, vStr b] σ fun v σ' => v = vInt (cmpS a b) ∧ σ = σ' := by
 refine am_ Tryz.func57 rfl Tryz.ntmps57 (congrArg Array.toList Tryz.results57) (by simp only [List.length_cons, List.length_nil]; decide) ?_; simp only [ah_, al_, Nat.reduceAdd]
 refine ab_ ?_
 refine aa_ kr_ ?_
 (refine aL_S rfl rfl v_ ?_)
 refine ac_ ?_
 refine ab_ ?_
 refine aa_ kr_ ?_
 iterate 2 (refine aL_S rfl rfl v_ ?_)
 refine aL_X rfl rfl (ag_ rfl rfl (.inr ⟨rfl, rfl, rfl⟩) g_ va_ (fV_) ?_); rintro _ _ ⟨rfl, rfl⟩
 (refine aL_S rfl rfl v_ ?_)
 refine ac_ ?_
 refine aj_ ?_
 refine ai_ (σ' := σ) v_ sub_ ?_
 exact ⟨rfl, rfl⟩
theorem pX_ {a b : ByteArray} : cmpS a b < 0 ↔ sLt a b = true := by
 unfold cmpS
 split
 ·rename_i h; simp [h]
 ·rename_i h
  split <;> simp [h]
theorem n5_ {a b : Ent} {σ : Store} : ap_ Tryz.prog 202 [sReg a, sReg b] σ fun v σ' => v = vInt (orL [cmpI a.n b.n, cmpS a.who b.who, cmpS a.value b.value]) ∧ σ = σ' := by
 refine am_ Tryz.func202 rfl Tryz.ntmps202 (congrArg Array.toList Tryz.results202) (by simp only [List.length_cons, List.length_nil]; decide) ?_; simp only [ah_, al_, Nat.reduceAdd]
 refine ab_ ?_
 refine aa_ kr_ ?_
 refine bj_ rfl rfl rfl v_ rfl g_ fun o2 ho2 => ?_
 repeat (rw [an_] at ho2; obtain ⟨_, ho2⟩ := ho2)
 refine bj_ rfl rfl rfl v_ rfl g_ fun o3 ho3 => ?_
 repeat (rw [an_] at ho3; obtain ⟨_, ho3⟩ := ho3)
 (refine aL_S rfl rfl v_ ?_)
 refine ac_ ?_
 refine ab_ ?_
 refine aE_ (.op 0 0 (.op 1 0 (.op 2 0 (.op 3 0 (.op 5 0 (.op 6 0 (.op 7 0 (.op 8 0 (.op 10 0 (.op 11 0 (.op 12 0 (.op 13 0 (.op 4 1 (.op 9 1 (.op 14 1 (.op 15 1 (.op 16 1 (.op 17 0 .nil)))))))))))))))))) Tryz.mixed kr_ ?_
 iterate 12 (refine dR_S o_ (by rfl) (by rfl) v_ ?_)
 refine dR_X o_ (by rfl) (by rfl) (ag_ (by rfl) (by rfl) (.inr ⟨by rfl, by rfl, by rfl⟩) g_ va_ (qG_) ?_); rintro _ _ ⟨rfl, rfl⟩; refine ⟨sub_, ?_⟩
 refine dR_X o_ (by rfl) (by rfl) (ag_ (by rfl) (by rfl) (.inr ⟨by rfl, by rfl, by rfl⟩) g_ va_ (dX_) ?_); rintro _ _ ⟨rfl, rfl⟩; refine ⟨sub_, ?_⟩
 refine dR_X o_ (by rfl) (by rfl) (ag_ (by rfl) (by rfl) (.inr ⟨by rfl, by rfl, by rfl⟩) g_ va_ (dX_) ?_); rintro _ _ ⟨rfl, rfl⟩; refine ⟨sub_, ?_⟩
 refine dR_X o_ (by rfl) (by rfl) (aU_ (by rfl) g_ g_ (by rfl) (by rfl) h_ c2_ (by decide) ⟨sub_, ?_⟩)
 refine dR_X o_ (by rfl) (by rfl) (ag_ (by rfl) (by rfl) (.inr ⟨by rfl, by rfl, by rfl⟩) g_ va_ (or_c (l := [cmpI a.n b.n, cmpS a.who b.who, cmpS a.value b.value]) (by simp)) ?_); rintro _ _ ⟨rfl, rfl⟩; refine ⟨sub_, ?_⟩
 (refine dR_S o_ (by rfl) (by rfl) v_ ?_)
 refine aK_ ?_
 refine aj_ ?_
 refine ai_ (σ' := σ) v_ sub_ ?_
 exact ⟨rfl, rfl⟩
theorem lr_ (a b : Ent) : decide (0 < orL [cmpI a.n b.n, cmpS a.who b.who, cmpS a.value b.value]) = bF_ a b := by
 have h1 : ∀ x y : ByteArray, decide (0 < cmpS x y) = sLt y x := fun x y => by
  unfold cmpS
  cases h : sLt x y with
  |true =>
   have : sLt y x = false := by
    cases hh : sLt y x with
    |false => rfl
    |true => have := b3_ h hh; rw [bh_] at this; cases this
   rw [this]; rfl
  |false =>
   by_cases e : x = y
   ·subst e; rw [bh_]; simp
   ·have : sLt y x = true := dB_ h (fun hh => e hh)
    rw [this]; simp [e]
 have h0 : ∀ x y : ByteArray, cmpS x y = 0 ↔ x = y := fun x y => by
  unfold cmpS
  cases h : sLt x y with
  |true => simp; rintro rfl; rw [bh_] at h; cases h
  |false => by_cases e : x = y <;> simp [e]
 have i0 : cmpI a.n b.n = 0 ↔ a.n = b.n := by unfold cmpI; split <;> (try split) <;> omega
 have i1 : 0 < cmpI a.n b.n ↔ b.n < a.n := by unfold cmpI; split <;> (try split) <;> omega
 unfold bF_
 have ho : ∀ x y z : Int, orL [x, y, z] = if x = 0 then (if y = 0 then (if z = 0 then 0 else z) else y) else x := fun _ _ _ => rfl
 rw [ho]
 by_cases e1 : a.n = b.n
 ·rw [if_pos (i0.2 e1), if_neg (show ¬ a.n ≠ b.n from fun h => h e1)]
  by_cases e2 : a.who = b.who
  ·rw [if_pos ((h0 _ _).2 e2), if_neg (show ¬ a.who ≠ b.who from fun h => h e2)]
   by_cases e3 : a.value = b.value
   ·rw [if_pos ((h0 _ _).2 e3), ← h1, (h0 _ _).2 e3]
   ·rw [if_neg (fun h => e3 ((h0 _ _).1 h)), h1]
  ·rw [if_neg (fun h => e2 ((h0 _ _).1 h)), if_pos (show a.who ≠ b.who from e2), h1]
 ·rw [if_neg (fun h => e1 (i0.1 h)), if_pos (show a.n ≠ b.n from e1)]
  exact decide_eq_decide.2 i1
theorem pB_ {a b : Ent} {σ : Store} : ap_ Tryz.prog 169 [sReg a, sReg b] σ fun v σ' => v = vB (bF_ a b) ∧ σ = σ' := by
 refine am_ Tryz.func169 rfl Tryz.ntmps169 (congrArg Array.toList Tryz.results169) (by simp only [List.length_cons, List.length_nil]; decide) ?_; simp only [ah_, al_, Nat.reduceAdd]
 refine ab_ ?_
 refine aa_ kr_ ?_
 refine bj_ rfl rfl rfl v_ rfl g_ fun o2 ho2 => ?_
 repeat (rw [an_] at ho2; obtain ⟨_, ho2⟩ := ho2)
 refine bj_ rfl rfl rfl v_ rfl g_ fun o3 ho3 => ?_
 repeat (rw [an_] at ho3; obtain ⟨_, ho3⟩ := ho3)
 (refine aL_S rfl rfl v_ ?_)
 refine ac_ ?_
 refine ab_ ?_
 refine aa_ kr_ ?_
 (refine aL_S rfl rfl v_ ?_)
 refine ac_ ?_
 refine ab_ ?_
 refine aa_ kr_ ?_
 iterate 3 (refine aL_S rfl rfl v_ ?_)
 refine aL_X rfl rfl (ag_ rfl rfl (.inr ⟨va_, rfl, rfl⟩) g_ va_ (n5_ (a := a) (b := b)) ?_); rintro _ _ ⟨rfl, rfl⟩
 iterate 2 (refine aL_S rfl rfl v_ ?_)
 refine ac_ ?_
 refine aj_ ?_
 refine ai_ (σ' := σ) v_ sub_ ?_
 exact ⟨by rw [← lr_], rfl⟩
theorem mq_ {a b : Ent} {σ : Store} : ap_ Tryz.prog 117 [sReg a, sReg b] σ fun v σ' => v = sReg (if bF_ b a then b else a) ∧ σ = σ' := by
 refine am_ Tryz.func117 rfl Tryz.ntmps117 (congrArg Array.toList Tryz.results117) (by simp only [List.length_cons, List.length_nil]; decide) ?_; simp only [ah_, al_, Nat.reduceAdd]
 refine ab_ ?_
 refine aa_ kr_ ?_
 refine bj_ rfl rfl rfl v_ rfl g_ fun o2 ho2 => ?_
 repeat (rw [an_] at ho2; obtain ⟨_, ho2⟩ := ho2)
 refine bj_ rfl rfl rfl v_ rfl g_ fun o3 ho3 => ?_
 repeat (rw [an_] at ho3; obtain ⟨_, ho3⟩ := ho3)
 refine aR_ rfl rfl rfl g_ gl_ fun o4 ho4 => ?_
 repeat (rw [an_] at ho4; obtain ⟨_, ho4⟩ := ho4)
 refine ac_ ?_
 refine ab_ ?_
 refine ab_ ?_
 refine aa_ kr_ ?_
 iterate 2 (refine aL_S rfl rfl v_ ?_)
 refine aL_X rfl rfl (ag_ rfl rfl (.inr ⟨rfl, rfl, rfl⟩) g_ va_ (pB_ (a := b) (b := a)) ?_); rintro _ _ ⟨rfl, rfl⟩
 refine ac_ ?_
 refine ad_ v_ (fun hc1 => ?_) (fun hc1 => ?_)
 ·replace hc1 := nm_ hc1
  refine ab_ ?_
  refine aa_ kr_ ?_
  (refine aL_S rfl rfl v_ ?_)
  refine ax_ rfl rfl rfl v_ v_ h_ g_ rfl g_ c_ (by rfl) le_ v_ ?_
  refine ac_ ?_
  refine aj_ ?_
  refine ai_ (σ' := σ) v_ sub_ ?_
  exact ⟨by rw [if_pos hc1], rfl⟩
 ·replace hc1 := nm_ hc1
  refine ae_ ?_
  refine ab_ ?_
  refine aa_ kr_ ?_
  (refine aL_S rfl rfl v_ ?_)
  refine ax_ rfl rfl rfl v_ v_ h_ g_ rfl g_ c_ (by rfl) le_ v_ ?_
  refine ac_ ?_
  refine aj_ ?_
  refine ai_ (σ' := σ) v_ sub_ ?_
  exact ⟨by rw [if_neg (by simp [hc1])], rfl⟩
def encE (x : Ent) : List Value := [.string x.key, .int .i64 x.n, .string x.who, .string x.value]
theorem gI_ (x : Ent) : (sEnt x).cells = (encE x).map .lit := rfl
def cfE (x y : Ent) : Int := cmpS x.key y.key
theorem eU_ (x y : Ent) : ltOf cfE x y = sLt x.key y.key := by
 unfold ltOf cfE
 rw [Bool.eq_iff_iff, decide_eq_true_eq, pX_]
theorem swoE : SWO (ltOf cfE) where
 irrefl x := by rw [eU_, bh_]
 trans x y z h1 h2 := by rw [eU_] at *; exact b3_ h1 h2
 ntrans x y z h1 h2 := by
  rw [eU_] at *
  cases h : sLt x.key z.key with
  |false => rfl
  |true =>
   by_cases e : x.key = y.key
   ·rw [e] at h; rw [h] at h2; cases h2
   ·have k := dB_ h1 e
    have := b3_ k h
    rw [this] at h2; cases h2
set_option maxHeartbeats 1000000 in
theorem qp_ (x y : Ent) (W : World) : Calls Tryz.prog 56 #[.agg #[.string x.key, .int .i64 x.n, .string x.who, .string x.value], .agg #[.string y.key, .int .i64 y.n, .string y.who, .string y.value]] W fun e w' => e = .returned (.int .i64 (cfE x y)) ∧ ∃ q os', w' = grow (W.drewN q) os' := by
 have hcon : ∀ W', Calls Tryz.prog 57 #[.string x.key, .string y.key] W' fun e w' => e = .returned (.int .i64 (cfE x y)) ∧ w' = W' := fun W' => by
  have := Any.strings_Compare ms_ x.key y.key W'
  rw [iX_] at this
  exact this
 generalize cfE x y = r at hcon ⊢
 go_enter Tryz.func56, Tryz.ntmps56
 go_wp2_with (go_at_call 57; refine (hcon _).mono ?_; rintro e w' ⟨rfl, rfl⟩)
 go_ret
 exact ⟨rfl, 0, _, by rw [alloc_eq_grow, alloc_eq_grow, grow_grow]; rfl⟩
theorem fv_ {o : Nat} {L : List Ent} {σ : Store} (ho : σ.heap o = some (.cells (flat (L.map sEnt)))) (hl : L.length ≤ 1000000000) :
  ap_ Tryz.prog 55 [.msl o 4 0 L.length, .lit (.func (.func 56) #[] #[])] σ fun v σ' => v = .tup [] ∧ ∃ L' : List Ent, L'.Perm L ∧ L'.Pairwise (fun x y => sLt y.key x.key = false) ∧ σ' = σ.set o (.cells (flat (L'.map sEnt))) := by
 have e1 : ∀ M : List Ent, flat (M.map sEnt) = (flatK encE 4 M.toArray).toList.map .lit := fun M => gR_ sEnt encE gI_ (fun _ => rfl) M
 rw [e1] at ho
 refine (jC_ (P := Tryz.prog) (σ := σ) (f := 55) (o := o) (k := 4) (n := L.length) (flatK encE 4 L.toArray).toList
  (fun F' => ∃ L' : List Ent, L'.Perm L ∧ L'.Pairwise (fun x y => sLt y.key x.key = false) ∧ F' = (flatK encE 4 L'.toArray).toList) ho [.lit (.func (.func 56) #[] #[])] [.func (.func 56) #[] #[]] (fun b cap w hG hH hb => ?_) rfl).wkS fun v σ' ⟨hv, F', ⟨L', h1, h2, h3⟩, h4⟩ => ⟨v, σ', .refl _, .refl _, hv, L', h1, h2, by rw [h4, h3, e1]⟩
 have hcmp : CmpLays Tryz.prog 56 #[] encE 4 cfE b 0 L.toArray.size w := fun m os dk _ x y => qp_ x y _
 have key := AnyQ.slices_SortFunc r2_ 4 Tryz.isAgg45 Tryz.sizeOf45 encE (fun _ => rfl) (fun x v hv => by simp [encE] at hv; rcases hv with rfl | rfl | rfl | rfl <;> rfl) cfE swoE 56 #[] b 0 cap L.toArray w (fun args w => cU_ kr_ args w) hcmp (by simpa [HoldsK] using hH) hb (by simp; omega)
 have key2 : Calls Tryz.prog 55 (#[.slice (some ⟨b, 0, none⟩) L.length cap] ++ #[.func (.func 56) #[] #[]]) w _ := key
 refine key2.mono fun e w' ⟨he, d', n, os, hp, hs, hw⟩ => ⟨he, (flatK encE 4 d').toList, n, os, ⟨d'.toList, ?_, ?_, by simp⟩, ?_, ?_⟩
 ·exact mb_ hp
 ·exact (h7_ (n := L.toArray.size) hp.1 hs).imp fun {a b} h => by rw [eU_] at h; exact h
 ·simp [hp.1]
 ·rw [hw]; simp [sortWorldK, putRowK]
set_option maxHeartbeats 1000000 in
theorem qQ_ (x y : Ent) (W : World) : Calls Tryz.prog 109 #[.agg #[.string x.key, .int .i64 x.n, .string x.who, .string x.value], .agg #[.string y.key, .int .i64 y.n, .string y.who, .string y.value]] W fun e w' => e = .returned (.int .i64 (cfE x y)) ∧ ∃ q os', w' = grow (W.drewN q) os' := by
 have hcon : ∀ W', Calls Tryz.prog 57 #[.string x.key, .string y.key] W' fun e w' => e = .returned (.int .i64 (cfE x y)) ∧ w' = W' := fun W' => by
  have := Any.strings_Compare ms_ x.key y.key W'
  rw [iX_] at this
  exact this
 generalize cfE x y = r at hcon ⊢
 go_enter Tryz.func109, Tryz.ntmps109
 go_wp2_with (go_at_call 57; refine (hcon _).mono ?_; rintro e w' ⟨rfl, rfl⟩)
 go_ret
 exact ⟨rfl, 0, _, by rw [alloc_eq_grow, alloc_eq_grow, grow_grow]; rfl⟩
theorem n9_ {o : Nat} {L : List Ent} {σ : Store} (ho : σ.heap o = some (.cells (flat (L.map sEnt)))) (hl : L.length ≤ 1000000000) :
  ap_ Tryz.prog 55 [.msl o 4 0 L.length, .lit (.func (.func 109) #[] #[])] σ fun v σ' => v = .tup [] ∧ ∃ L' : List Ent, L'.Perm L ∧ L'.Pairwise (fun x y => sLt y.key x.key = false) ∧ σ' = σ.set o (.cells (flat (L'.map sEnt))) := by
 have e1 : ∀ M : List Ent, flat (M.map sEnt) = (flatK encE 4 M.toArray).toList.map .lit := fun M => gR_ sEnt encE gI_ (fun _ => rfl) M
 rw [e1] at ho
 refine (jC_ (P := Tryz.prog) (σ := σ) (f := 55) (o := o) (k := 4) (n := L.length) (flatK encE 4 L.toArray).toList
  (fun F' => ∃ L' : List Ent, L'.Perm L ∧ L'.Pairwise (fun x y => sLt y.key x.key = false) ∧ F' = (flatK encE 4 L'.toArray).toList) ho [.lit (.func (.func 109) #[] #[])] [.func (.func 109) #[] #[]] (fun b cap w hG hH hb => ?_) rfl).wkS fun v σ' ⟨hv, F', ⟨L', h1, h2, h3⟩, h4⟩ => ⟨v, σ', .refl _, .refl _, hv, L', h1, h2, by rw [h4, h3, e1]⟩
 have hcmp : CmpLays Tryz.prog 109 #[] encE 4 cfE b 0 L.toArray.size w := fun m os dk _ x y => qQ_ x y _
 have key := AnyQ.slices_SortFunc r2_ 4 Tryz.isAgg45 Tryz.sizeOf45 encE (fun _ => rfl) (fun x v hv => by simp [encE] at hv; rcases hv with rfl | rfl | rfl | rfl <;> rfl) cfE swoE 109 #[] b 0 cap L.toArray w (fun args w => cU_ kr_ args w) hcmp (by simpa [HoldsK] using hH) hb (by simp; omega)
 have key2 : Calls Tryz.prog 55 (#[.slice (some ⟨b, 0, none⟩) L.length cap] ++ #[.func (.func 109) #[] #[]]) w _ := key
 refine key2.mono fun e w' ⟨he, d', n, os, hp, hs, hw⟩ => ⟨he, (flatK encE 4 d').toList, n, os, ⟨d'.toList, ?_, ?_, by simp⟩, ?_, ?_⟩
 ·exact mb_ hp
 ·exact (h7_ (n := L.toArray.size) hp.1 hs).imp fun {a b} h => by rw [eU_] at h; exact h
 ·simp [hp.1]
 ·rw [hw]; simp [sortWorldK, putRowK]
end Go.Proofs.YtkcmbjodladflaaGreatDoor
end

section
set_option linter.all false
set_option maxRecDepth 100000
namespace Go.Ab
theorem fc_ {P : Program} {op : Oper} {α : Operand → AVal} {σ : Store} {sz n : Nat} {cs l : List AVal} {Kk : AVal → Store → Prop} (h : AOp P op α σ fun v τ => ∃ ob, σ.heap ob = none ∧ v = .msl ob sz 0 n ∧ τ = σ.set ob (.cells cs)) (hl : cs.take (n * sz) = flat l) (hn : l.length = n) (hs : ∀ x ∈ l, x.cells.length = sz) (hk : Kk (.sl sz l false) σ) : AOp P op α σ Kk :=
 fun κ ev hI hx => (h κ ev hI hx).mono fun v w ⟨κ', b, τ, h1, h2, h3, h4, ob, ho, hb, hτ⟩ => by
  subst hb; subst hτ
  obtain ⟨κ2, g1, g2, g3, g4⟩ := Ab.freeze h3 h4 (Store.set_get ..) hl hn hs
  rw [Store.set_del ho] at g3
  exact ⟨κ2, _, σ, g1.trans h1, h2.trans g2, g3, g4, hk⟩
end Go.Ab
namespace Go.Proofs.YtkcmbjodladflaaGreatDoor
open Go.Ab
def a8_ : Nat → List ByteArray → List Ent
 |_, [] => []
 |k, s :: l => if aN_ s = true then ⟨aY_ k, 1, ⟨#[]⟩, s⟩ :: a8_ (k + 1) l else a8_ (k + 1) l
theorem g9_ : ∀ {l : List ByteArray} {k j : Nat} {s : ByteArray}, l[k]? = some s → a8_ j (l.take (k + 1)) = a8_ j (l.take k) ++ (if aN_ s = true then [⟨aY_ (j + k), 1, ⟨#[]⟩, s⟩] else [])
 |[], k, j, s, h => by simp at h
 |u :: l, 0, j, s, h => by
  simp only [List.getElem?_cons_zero, Option.some.injEq] at h
  subst h
  simp only [List.take_succ_cons, List.take_zero, a8_]
  split <;> simp
 |u :: l, k + 1, j, s, h => by
  simp only [List.getElem?_cons_succ] at h
  have ih := g9_ (j := j + 1) h
  simp only [List.take_succ_cons, a8_] at ih ⊢
  rw [ih, show j + 1 + k = j + (k + 1) by omega]
  split <;> simp
theorem cI_ : ∀ (k : Nat) (l : List ByteArray), (a8_ k l).length ≤ l.length
 |_, [] => Nat.le_refl _
 |k, s :: l => by
  have := cI_ (k + 1) l
  unfold a8_
  split
  ·simp; omega
  ·simp; omega
def SrtE (L : List Ent) : Prop := L.Pairwise fun x y => sLt y.key x.key = false
set_option maxHeartbeats 1000000 in
theorem oA_ {ow : List ByteArray} {t : Bool} {σ : Store} (hl : ow.length ≤ 1000) (hz : ∀ s ∈ ow, s.size ≤ 1000000) (h0 : 0 < (a8_ 0 ow).length) : ap_ Tryz.prog 53 [.sl 1 (ow.map vStr) t] σ fun v σ' => ∃ (L : List Ent) (o : Nat), L.Perm (a8_ 0 ow) ∧ SrtE L ∧ σ.heap o = none ∧ v = .msl o 4 0 L.length ∧ σ' = σ.set o (.cells (flat (L.map sEnt))) := by
 have hel := cI_ 0 ow
 refine am_ Tryz.func53 rfl Tryz.ntmps53 (congrArg Array.toList Tryz.results53) (by simp only [List.length_cons, List.length_nil]; decide) ?_; simp only [ah_, al_, Nat.reduceAdd]
 refine ab_ ?_
 refine aa_ kr_ ?_
 (refine aL_S rfl rfl v_ ?_)
 refine ac_ ?_
 refine ab_ ?_
 refine ab_ ?_
 refine aa_ kr_ ?_
 iterate 3 (refine aL_S rfl rfl v_ ?_)
 refine ac_ ?_
 refine ad_ v_ (fun hc1 => ?_) (fun hc1 => ?_)
 ·replace hc1 := nm_ hc1
  omega
 ·replace hc1 := nm_ hc1
  refine ae_ ?_
  refine ab_ ?_
  refine aa_ kr_ ?_
  (refine aL_S rfl rfl v_ ?_)
  refine ac_ ?_
  refine ab_ ?_
  refine ab_ ?_
  refine aa_ kr_ ?_
  iterate 3 (refine aL_S rfl rfl v_ ?_)
  refine ac_ ?_
  refine ak_ ?_
  refine ao_ (ι := Store × AVal × Nat) (fun ⟨τ, g, k⟩ => ow.length - k) (fun ⟨τ, g, k⟩ => k ≤ ow.length ∧ CBp σ τ 4 ((a8_ 0 (ow.take k)).map sEnt) g) (fun ⟨τ, g, k⟩ => [(3, g), (9, .sl 1 (ow.map vStr) t), (10, vInt ow.length), (11, vInt k)]) (fun ⟨τ, g, k⟩ => τ) (σ, vNil, 0) ?_ ?_ ?_ ?_
  ·exact ⟨Nat.zero_le _, .inl ⟨rfl, rfl, rfl⟩⟩
  ·exact cv_
  ·exact Store.Wk.refl _
  rintro ⟨τ, g, k⟩ ⟨hk, hC⟩
  simp only [ar_, as_]
  refine ab_ ?_
  refine aa_ kr_ ?_
  (refine aL_S rfl rfl v_ ?_)
  refine ac_ ?_
  refine ab_ ?_
  refine ad_ v_ (fun hc5 => ?_) (fun hc5 => ?_)
  ·replace hc5 := nm_ hc5
   refine ae_ ?_
   refine ab_ ?_
   refine ak_ ?_
   refine ab_ ?_
   obtain ⟨s, hs⟩ := aA_ (l := ow) (k := k) (by omega)
   have hst0 := g9_ (j := 0) hs
   have hle := cI_ 0 (ow.take k)
   rw [List.length_take] at hle
   rw [Nat.zero_add] at hst0
   have R := hs
   refine aa_ kr_ ?_
   iterate 5 (refine aL_S rfl rfl v_ ?_)
   refine ac_ ?_
   refine ab_ ?_
   refine aa_ kr_ ?_
   (refine aL_S rfl rfl v_ ?_)
   refine aL_X rfl rfl (ag_ rfl rfl (.inr ⟨rfl, rfl, rfl⟩) g_ va_ (br_ (by have := hz s (List.mem_of_getElem? hs); omega)) ?_); rintro _ _ ⟨rfl, rfl⟩
   refine ac_ ?_
   refine ad_ v_ (fun hc7 => ?_) (fun hc7 => ?_)
   ·replace hc7 := nm_ hc7
    have hst : a8_ 0 (ow.take (k + 1)) = a8_ 0 (ow.take k) ++ [⟨aY_ k, 1, ⟨#[]⟩, s⟩] := by rw [hst0, if_pos hc7]
    refine aa_ kr_ ?_
    iterate 2 (refine aL_S rfl rfl v_ ?_)
    refine aL_X rfl rfl (ag_ rfl rfl (.inr ⟨rfl, rfl, rfl⟩) g_ va_ (fO_ (by omega)) ?_); rintro _ _ ⟨rfl, rfl⟩
    iterate 3 (refine aL_S rfl rfl v_ ?_)
    refine au_ rfl rfl rfl g_ g_ rfl rfl h_ c2_ (by decide) ?_
    refine aL_X rfl rfl (a9_ rfl g_ g_ hC va_ (dM_ _) va_ c_ (by simp; omega) fun a' τ2 hC3 => ?_)
    rw [show (a8_ 0 (ow.take k)).map sEnt ++ [sEnt ⟨aY_ k, 1, ⟨#[]⟩, s⟩] = (a8_ 0 (ow.take k) ++ [(⟨aY_ k, 1, ⟨#[]⟩, s⟩ : Ent)]).map sEnt from by simp] at hC3
    (refine aL_S rfl rfl v_ ?_)
    refine ac_ ?_
    refine aa_ kr_ ?_
    iterate 2 (refine aL_S rfl rfl v_ ?_)
    refine ac_ ?_
    refine aI_ (ι := Store × AVal × Nat) (i := ⟨τ, g, k⟩) (τ2, a', k + 1) ?_ ?_ ?_ ?_
    ·show ow.length - (k + 1) < ow.length - k; omega
    ·exact ⟨by show k + 1 ≤ ow.length; omega, by rw [hst]; exact hC3⟩
    ·exact cv_
    ·exact Store.Wk.refl _
   ·replace hc7 := nm_ hc7
    have hst : a8_ 0 (ow.take (k + 1)) = a8_ 0 (ow.take k) := by rw [hst0, if_neg (by simp [hc7]), List.append_nil]
    refine ae_ ?_
    refine aa_ kr_ ?_
    iterate 2 (refine aL_S rfl rfl v_ ?_)
    refine ac_ ?_
    refine aI_ (ι := Store × AVal × Nat) (i := ⟨τ, g, k⟩) (τ, g, k + 1) ?_ ?_ ?_ ?_
    ·show ow.length - (k + 1) < ow.length - k; omega
    ·exact ⟨by show k + 1 ≤ ow.length; omega, by rw [hst]; exact hC⟩
    ·exact cv_
    ·exact sub_
  ·replace hc5 := nm_ hc5
   refine av_ ?_
   refine af_ ?_
   refine af_ ?_
   refine aq_ ?_
   refine ab_ ?_
   obtain rfl : k = ow.length := by omega
   rw [List.take_length] at hC
   obtain ⟨oo, hoo, rfl, rfl⟩ : ∃ oo, σ.heap oo = none ∧ g = .msl oo 4 0 (a8_ 0 ow).length ∧ τ = σ.set oo (.cells (flat ((a8_ 0 ow).map sEnt))) := by
    rcases hC with ⟨_, h, _⟩ | ⟨oo, h1, h2, h3⟩
    ·rw [List.map_eq_nil_iff] at h; rw [h] at h0; exact absurd h0 (by simp)
    ·exact ⟨oo, h1, by rw [h2, List.length_map], h3⟩
   refine aa_ kr_ ?_
   (refine aL_S rfl rfl v_ ?_)
   refine aL_X rfl rfl (ag_ rfl rfl (.inr ⟨rfl, rfl, rfl⟩) g_ va_ (n9_ (o := oo) (L := a8_ 0 ow) (Store.set_get ..) (by omega)) ?_); rintro _ τ1 ⟨rfl, L, p1, p2, rfl⟩
   refine ac_ ?_
   refine ab_ ?_
   refine aa_ kr_ ?_
   iterate 2 (refine aL_S rfl rfl v_ ?_)
   refine ac_ ?_
   refine aj_ ?_
   refine ai_ v_ (Store.Wk.refl _) ?_
   exact ⟨L, oo, p1, p2, hoo, by rw [p1.length_eq], by rw [Store.set_set]⟩
theorem cb_ (L : List Ent) : (flat (L.map sEnt)).take (L.length * 4) = flat (L.map sEnt) := List.take_of_length_le (by rw [aS_ (dM_ L), List.length_map]; exact Nat.le_refl _)
theorem et_ {ow : List ByteArray} {t : Bool} {σ : Store} (hl : ow.length ≤ 1000) (hz : ∀ s ∈ ow, s.size ≤ 1000000) (h0 : 0 < (a8_ 0 ow).length) : ap_ Tryz.prog 53 [.sl 1 (ow.map vStr) t] σ fun v σ' => (∃ L : List Ent, L.Perm (a8_ 0 ow) ∧ SrtE L ∧ v = .sl 4 (L.map sEnt) false) ∧ σ = σ' := by
 refine (oA_ hl hz h0).aft ?_
 rintro κ a τ cv hI hr ⟨L, o, p1, p2, ho, rfl, rfl⟩
 obtain ⟨κ', h1, h2, h3, h4⟩ := Ab.freeze hI hr (Store.set_get ..) (l := L.map sEnt) (cb_ L) (by simp) (dM_ L)
 rw [Store.set_del ho] at h3
 exact ⟨κ', _, _, h1, h2, h3, h4, ⟨L, p1, p2, rfl⟩, rfl⟩
@[reducible] def slE (L : List Ent) : AVal := .sl 4 (L.map sEnt) false
theorem fX_ (l : List Ent) : ∀ y ∈ l.map sEnt, ∀ c ∈ y.cells, c.one = true := fun y hy c hc => by
 obtain ⟨x, _, rfl⟩ := List.mem_map.1 hy
 simp [AVal.cells] at hc
 rcases hc with rfl | rfl | rfl | rfl <;> rfl
theorem mg_ {n : Nat} {σ : Store} (hn : n ≤ 1000000000) : ap_ Tryz.prog 170 [vNil, vInt n] σ fun v σ' => CBp σ σ' 4 [] v := by
 refine am_ Tryz.func170 rfl Tryz.ntmps170 (congrArg Array.toList Tryz.results170) (by simp only [List.length_cons, List.length_nil]; decide) ?_; simp only [ah_, al_, Nat.reduceAdd]
 refine ab_ ?_
 refine aa_ kr_ ?_
 (refine aL_S rfl rfl v_ ?_)
 refine ac_ ?_
 refine ab_ ?_
 refine ab_ ?_
 refine aa_ kr_ ?_
 iterate 2 (refine aL_S rfl rfl v_ ?_)
 refine ac_ ?_
 refine ad_ v_ (fun hc1 => ?_) (fun hc1 => ?_)
 ·replace hc1 := nm_ hc1
  omega
 ·replace hc1 := nm_ hc1
  refine ae_ ?_
  refine ab_ ?_
  refine ab_ ?_
  refine aa_ kr_ ?_
  iterate 2 (refine aL_S rfl rfl v_ ?_)
  refine aL_X rfl rfl (d4_ rfl g_ va_ ?_)
  iterate 5 (refine aL_S rfl rfl v_ ?_)
  refine ac_ ?_
  refine ab_ ?_
  refine aa_ kr_ ?_
  iterate 2 (refine aL_S rfl rfl v_ ?_)
  refine ac_ ?_
  refine ad_ v_ (fun hc4 => ?_) (fun hc4 => ?_)
  ·replace hc4 := nm_ hc4
   refine aa_ kr_ ?_
   iterate 2 (refine aL_S rfl rfl v_ ?_)
   refine aL_X rfl rfl (d4_ rfl g_ va_ ?_)
   iterate 2 (refine aL_S rfl rfl v_ ?_)
   refine aL_X rfl rfl (gi_ (n := n) rfl g_ g_ g_ va_ va_ (by omega) (by omega) fun o22 ho22 => ?_)
   iterate 4 (refine aL_S rfl rfl v_ ?_)
   refine ac_ ?_
   refine ab_ ?_
   refine aa_ kr_ ?_
   iterate 2 (refine aL_S rfl rfl v_ ?_)
   refine ac_ ?_
   refine aj_ ?_
   refine ai_ v_ (Store.Wk.refl _) ?_
   exact .inr ⟨o22, ho22, rfl, rfl⟩
  ·replace hc4 := nm_ hc4
   refine ae_ ?_
   refine ab_ ?_
   refine aa_ kr_ ?_
   iterate 2 (refine aL_S rfl rfl v_ ?_)
   refine ac_ ?_
   refine aj_ ?_
   refine ai_ v_ (Store.Wk.refl _) ?_
   exact .inl ⟨rfl, rfl, rfl⟩
theorem dU_ {α : Type} {Ls : List (List α)} {k : Nat} {x : List α} (h : Ls[k]? = some x) : (Ls.take (k + 1)).flatten = (Ls.take k).flatten ++ x := by rw [aM_ h, List.flatten_append]; simp
theorem kS_ {α : Type} (Ls : List (List α)) (k : Nat) : (Ls.take k).flatten.length ≤ Ls.flatten.length := by
 conv => rhs; rw [← List.take_append_drop k Ls, List.flatten_append, List.length_append]
 omega
theorem i0_ {Ls : List (List Ent)} {tt : Bool} {σ : Store} (hb : Ls.flatten.length ≤ 10000000) (hn : Ls.length ≤ 10) :
  ap_ Tryz.prog 118 [.sl 1 (Ls.map slE) tt] σ fun v σ' => CBp σ σ' 4 (Ls.flatten.map sEnt) v := by
 have hle := fun k => kS_ Ls k
 refine am_ Tryz.func118 rfl Tryz.ntmps118 (congrArg Array.toList Tryz.results118) (by simp only [List.length_cons, List.length_nil]; decide) ?_; simp only [ah_, al_, Nat.reduceAdd]
 refine ab_ ?_
 refine aa_ kr_ ?_
 (refine aL_S rfl rfl v_ ?_)
 refine ac_ ?_
 refine ab_ ?_
 refine aa_ kr_ ?_
 (refine aL_S rfl rfl v_ ?_)
 refine ac_ ?_
 refine ab_ ?_
 refine ab_ ?_
 refine aa_ kr_ ?_
 iterate 3 (refine aL_S rfl rfl v_ ?_)
 refine ac_ ?_
 refine ak_ ?_
 refine ao_ (ι := Nat) (fun k => Ls.length - k) (fun k => k ≤ Ls.length) (fun k => [(0, .sl 1 (Ls.map slE) tt), (3, vInt ((Ls.take k).flatten.length : Int)), (9, .sl 1 (Ls.map slE) tt), (10, vInt Ls.length), (11, vInt k)]) (fun k => σ) 0 ?_ ?_ ?_ ?_
 ·exact Nat.zero_le _
 ·exact cv_
 ·exact sub_
 rintro k hk
 simp only [ar_, as_]
 refine ab_ ?_
 refine aa_ kr_ ?_
 (refine aL_S rfl rfl v_ ?_)
 refine ac_ ?_
 refine ab_ ?_
 refine ad_ v_ (fun hc3 => ?_) (fun hc3 => ?_)
 ·replace hc3 := nm_ hc3
  refine ae_ ?_
  refine ab_ ?_
  refine ak_ ?_
  refine ab_ ?_
  obtain ⟨x, hx⟩ := aA_ (l := Ls) (k := k) (by omega)
  have hcov : (((Ls.take (k + 1)).flatten.length : Nat) : Int) = ((Ls.take k).flatten.length : Int) + (x.length : Int) := by rw [dU_ hx, List.length_append]; omega
  have hk1 := hle k; have hk2 := hle (k + 1)
  have R := hx
  refine aa_ kr_ ?_
  iterate 3 (refine aL_S rfl rfl v_ ?_)
  refine ac_ ?_
  refine ab_ ?_
  refine aa_ kr_ ?_
  iterate 5 (refine aL_S rfl rfl v_ ?_)
  refine ac_ ?_
  refine ab_ ?_
  refine aa_ kr_ ?_
  iterate 2 (refine aL_S rfl rfl v_ ?_)
  refine ac_ ?_
  refine ad_ v_ (fun hc6 => ?_) (fun hc6 => ?_)
  ·replace hc6 := nm_ hc6
   omega
  ·replace hc6 := nm_ hc6
   refine ae_ ?_
   refine aa_ kr_ ?_
   iterate 2 (refine aL_S rfl rfl v_ ?_)
   refine ac_ ?_
   refine aI_ (ι := Nat) (i := k) (k + 1) ?_ ?_ ?_ ?_
   ·omega
   ·exact (by omega)
   ·have R := hcov; exact cv_
   ·exact sub_
 ·replace hc3 := nm_ hc3
  refine av_ ?_
  refine af_ ?_
  refine af_ ?_
  refine aq_ ?_
  refine ab_ ?_
  obtain rfl : k = Ls.length := by omega
  rw [List.take_length]
  refine aa_ kr_ ?_
  (refine aL_S rfl rfl v_ ?_)
  refine aL_X rfl rfl (ag_ rfl rfl (.inr ⟨rfl, rfl, rfl⟩) g_ va_ (mg_ (n := Ls.flatten.length) (by omega)) ?_); rintro _ τ0 hC0
  rename_i b0
  (refine aL_S rfl rfl v_ ?_)
  refine ac_ ?_
  refine ab_ ?_
  refine ab_ ?_
  refine aa_ kr_ ?_
  iterate 3 (refine aL_S rfl rfl v_ ?_)
  refine ac_ ?_
  refine ak_ ?_
  refine ao_ (ι := Store × AVal × Nat) (fun ⟨τ, b, k⟩ => Ls.length - k) (fun ⟨τ, b, k⟩ => k ≤ Ls.length ∧ CBp σ τ 4 ((Ls.take k).flatten.map sEnt) b) (fun ⟨τ, b, k⟩ => [(6, b), (25, .sl 1 (Ls.map slE) tt), (26, vInt Ls.length), (27, vInt k)]) (fun ⟨τ, b, k⟩ => τ) (τ0, b0, 0) ?_ ?_ ?_ ?_
  ·exact ⟨Nat.zero_le _, hC0⟩
  ·exact cv_
  ·exact Store.Wk.refl _
  rintro ⟨τ, b, k⟩ ⟨hk, hC⟩
  simp only [ar_, as_]
  refine ab_ ?_
  refine aa_ kr_ ?_
  (refine aL_S rfl rfl v_ ?_)
  refine ac_ ?_
  refine ab_ ?_
  refine ad_ v_ (fun hc11 => ?_) (fun hc11 => ?_)
  ·replace hc11 := nm_ hc11
   refine ae_ ?_
   refine ab_ ?_
   refine ak_ ?_
   refine ab_ ?_
   obtain ⟨x, hx⟩ := aA_ (l := Ls) (k := k) (by omega)
   have hk1 := hle k; have hk2 := hle (k + 1)
   rw [dU_ hx, List.length_append] at hk2
   have R := hx
   refine aa_ kr_ ?_
   iterate 3 (refine aL_S rfl rfl v_ ?_)
   refine ac_ ?_
   refine aa_ kr_ ?_
   iterate 2 (refine aL_S rfl rfl v_ ?_)
   refine aL_X rfl rfl (a9_ rfl g_ g_ hC va_ (dM_ _) va_ (fX_ _) (by simp only [List.length_append, List.length_map]; omega) fun a' σ' hC' => ?_)
   (refine aL_S rfl rfl v_ ?_)
   refine ac_ ?_
   refine aa_ kr_ ?_
   iterate 2 (refine aL_S rfl rfl v_ ?_)
   refine ac_ ?_
   refine aI_ (ι := Store × AVal × Nat) (i := ⟨τ, b, k⟩) (σ', a', k + 1) ?_ ?_ ?_ ?_
   ·show Ls.length - (k + 1) < Ls.length - k; omega
   ·exact ⟨by show k + 1 ≤ Ls.length; omega, by rw [dU_ hx, List.map_append]; exact hC'⟩
   ·exact cv_
   ·exact Store.Wk.refl _
  ·replace hc11 := nm_ hc11
   refine av_ ?_
   refine af_ ?_
   refine af_ ?_
   refine aq_ ?_
   refine ab_ ?_
   obtain rfl : k = Ls.length := by omega
   rw [List.take_length] at hC
   refine aa_ kr_ ?_
   iterate 2 (refine aL_S rfl rfl v_ ?_)
   refine ac_ ?_
   refine aj_ ?_
   refine ai_ v_ (Store.Wk.refl _) ?_
   exact hC
theorem h4_ {Ls : List (List Ent)} {tt : Bool} {σ : Store} (hb : Ls.flatten.length ≤ 10000000) (hn : Ls.length ≤ 10) :
  ap_ Tryz.prog 118 [.sl 1 (Ls.map slE) tt] σ fun v σ' => v = .sl 4 (Ls.flatten.map sEnt) false ∧ σ = σ' :=
 fJ_ ((i0_ hb hn).mono fun v σ' h => ⟨σ, h, .refl _⟩) (dM_ _)
end Go.Proofs.YtkcmbjodladflaaGreatDoor
end

section
set_option linter.all false
set_option maxRecDepth 100000
namespace Go.Proofs.YtkcmbjodladflaaGreatDoor
open Go.Ab
theorem fu_ : aO_ [] = true := by decide
theorem jr_ {l : List Ent} (h : aO_ l = true) : l.length ≤ 4096 := by
 unfold aO_ at h
 simp only [Bool.and_eq_true, decide_eq_true_eq] at h
 exact h.1
theorem ic_ {l : List Ent} {σ : Store} (hs : ∀ x ∈ l, EntSm x) (hl : l.length ≤ 1000000) : ap_ Tryz.prog 58 [.sl 4 (l.map sEnt) false, vNil] σ fun v σ' => v = .tup [.sl 4 ((if aO_ l = true then l else []).map sEnt) false, vInt (if aO_ l = true then 0 else 1)] ∧ σ = σ' := by
 refine am_ Tryz.func58 rfl Tryz.ntmps58 (congrArg Array.toList Tryz.results58) (by simp only [List.length_cons, List.length_nil]; decide) ?_; simp only [ah_, al_, Nat.reduceAdd]
 refine ab_ ?_
 refine aa_ kr_ ?_
 iterate 2 (refine aL_S rfl rfl v_ ?_)
 refine ac_ ?_
 refine hR_ ?_
 refine ab_ ?_
 refine ab_ ?_
 refine aa_ kr_ ?_
 (refine aL_S rfl rfl v_ ?_)
 refine aL_X rfl rfl (ag_ rfl rfl (.inr ⟨rfl, rfl, rfl⟩) g_ va_ (ck_ hs hl) ?_); rintro _ _ ⟨rfl, rfl⟩
 iterate 2 (refine aL_S rfl rfl v_ ?_)
 refine aw_ rfl rfl v_ rfl vg_ ?_
 refine bs_ rfl rfl v_ rfl (fun hb => aG_ (by rfl) (by rfl) (.inr ⟨by rfl, by rfl, by rfl⟩) g_ cg_ (ap_.wkA (args := [vNil]) (ck_ (l := []) (t := false) (fun x hx => by cases hx) (by simp)) rfl (fun j hj hj' => by match j, hj with | 0, _ => exact .nil _ _))) ?_
 refine aw_ rfl rfl v_ rfl vg_ ?_
 (refine aL_S rfl rfl v_ ?_)
 refine ac_ ?_
 refine ad_ v_ (fun hc1 => ?_) (fun hc1 => ?_)
 ·replace hc1 := nm_ hc1
  refine ab_ ?_
  refine aa_ kr_ ?_
  iterate 2 (refine aL_S rfl rfl v_ ?_)
  refine ac_ ?_
  refine aj_ ?_
  have hn : ¬ aO_ l = true := by rw [if01, if01] at hc1; intro h; rcases hc1 with h1 | h1; exact h1 h; exact h1 fu_
  exact aF_ (v := .tup [.sl 4 ((if aO_ l = true then l else []).map sEnt) false, vInt (if aO_ l = true then 0 else 1)]) (v' := .tup [vNil, vInt 1]) va_ (by rw [if_neg hn, if_neg hn]; exact bm_ 1) sub_ ⟨rfl, rfl⟩
 ·replace hc1 := nm_ hc1
  have hok : aO_ l = true := by rw [if01] at hc1; exact hc1.1
  have hle := jr_ hok
  refine ae_ ?_
  refine ab_ ?_
  refine aa_ kr_ ?_
  (refine aL_S rfl rfl v_ ?_)
  refine ac_ ?_
  refine ab_ ?_
  refine im_ ?_
  refine ab_ ?_
  refine ak_ ?_
  refine ao_ (ι := Unit) (fun u => 0) (fun u => True) (fun u => [(0, .sl 4 (l.map sEnt) false), (1, vNil), (6, vNil)]) (fun u => σ) () ?_ ?_ ?_ ?_
  ·trivial
  ·exact cv_
  ·exact sub_
  rintro u _
  simp only [ar_, as_]
  refine ab_ ?_
  refine ab_ ?_
  refine aa_ kr_ ?_
  iterate 4 (refine aL_S rfl rfl v_ ?_)
  refine aC_ rfl rfl v_ rfl vg_ ?_
  refine aC_ rfl rfl v_ rfl vg_ ?_
  refine aC_ rfl rfl v_ rfl vg_ ?_
  (refine aL_S rfl rfl v_ ?_)
  refine ac_ ?_
  refine ad_ v_ (fun hc4 => ?_) (fun hc4 => ?_)
  ·replace hc4 := nm_ hc4
   simp at hc4
  ·replace hc4 := nm_ hc4
   refine av_ ?_
   refine af_ ?_
   refine af_ ?_
   refine aq_ ?_
   refine ab_ ?_
   refine aa_ kr_ ?_
   refine aL_X rfl rfl (eb_ (a := vNil) (bM_ (by rfl) ⟨rfl, rfl⟩) (.nil 4 false) ?_)
   (refine aL_S rfl rfl v_ ?_)
   refine aL_X rfl rfl (eb_ (a := vNil) (bM_ (by rfl) ⟨rfl, rfl⟩) (.nil 4 false) ?_)
   refine au_ rfl rfl rfl g_ g_ rfl rfl h_ c2_ (by decide) ?_
   refine aL_X rfl rfl (ag_ rfl rfl (.inr ⟨rfl, rfl, rfl⟩) g_ va_ (h4_ (Ls := [[], l, []]) (by simp; omega) (by simp)) ?_); rintro _ _ ⟨rfl, rfl⟩
   rw [show ([[], l, []] : List (List Ent)).flatten = l from by simp]
   (refine aL_S rfl rfl v_ ?_)
   refine ac_ ?_
   refine ab_ ?_
   refine ab_ ?_
   refine aa_ kr_ ?_
   iterate 3 (refine aL_S rfl rfl v_ ?_)
   refine ac_ ?_
   refine ad_ v_ (fun hc13 => ?_) (fun hc13 => ?_)
   ·replace hc13 := nm_ hc13
    omega
   ·replace hc13 := nm_ hc13
    refine ae_ ?_
    refine ab_ ?_
    refine aa_ kr_ ?_
    iterate 3 (refine aL_S rfl rfl v_ ?_)
    refine ac_ ?_
    refine aj_ ?_
    refine ai_ (σ' := σ) v_ sub_ ?_
    exact ⟨by rw [if_pos hok, if_pos hok], rfl⟩
def cn_ (m : Mbr) : Ent := ⟨keyN m.name, 1, ⟨#[]⟩, (valM m).1⟩
structure MbOk (m : Mbr) : Prop where
 name : aN_ m.name = true
 rack : aN_ m.rack = true
 zone : aN_ m.zone = true
def ow0 : List ByteArray := List.replicate 16 ⟨#[]⟩
theorem gZ_ : ∀ {l : List ByteArray} {k : Nat} {x : Ent}, k + l.length ≤ 1000000 → (∀ s ∈ l, s.size ≤ 1000) → x ∈ a8_ k l → EntSm x
 |[], k, x, _, _, h => by simp [a8_] at h
 |s :: l, k, x, hkl, hs, h => by
  rw [List.length_cons] at hkl
  have key : x ∈ a8_ (k + 1) l → EntSm x := fun h => gZ_ (by omega) (fun s hs' => hs s (.tail _ hs')) h
  unfold a8_ at h
  split at h
  ·rcases List.mem_cons.1 h with rfl | h
   ·refine ⟨?_, Nat.zero_le _, Nat.le_trans (hs s (.head _)) (by decide)⟩
    show (aY_ k).size ≤ 1000000
    exact Nat.le_trans (kg_ (by omega)) (by decide)
   ·exact key h
  ·exact key h
theorem hz_ {m : Mbr} (h : MbOk m) : EntSm (cn_ m) := by
 have h1 := (bz_ h.name).2
 have h2 := (bz_ h.rack).2
 have h3 := (bz_ h.zone).2
 refine ⟨?_, Nat.zero_le _, ?_⟩
 ·show (keyN m.name).size ≤ _
  simp only [keyN, cM_, eH_, cr_, List.flatMap_cons, List.flatMap_nil, List.append_nil, List.length_append, List.length_cons, aH_, show bt_.size = 4 from rfl]; omega
 ·show (valM m).1.size ≤ _
  rw [valM, if_pos ⟨h.rack, h.zone⟩]
  have : (if m.up = true then bsUp else d0_).size ≤ 4 := by split <;> decide
  simp only [cM_, eH_, cr_, List.flatMap_cons, List.flatMap_nil, List.append_nil, List.length_append, List.length_cons, aH_]; omega
set_option maxHeartbeats 2000000 in
theorem kH_ {ms : List Mbr} {t : Bool} {σ : Store} (h0 : 0 < ms.length) (h8 : ms.length ≤ 8) (hok : ∀ m ∈ ms, MbOk m) (hnd : ∀ k m, ms[k]? = some m → hasT ((ms.take k).map Mbr.name) m.name = false) (hne : 0 < (a8_ 0 (a2_ ow0 (ms.map Mbr.name))).length) (hsz : ∀ s ∈ a2_ ow0 (ms.map Mbr.name), s.size ≤ 1000) :
  ap_ Tryz.prog 15 [.sl 4 (ms.map sMbr) t, vNil] σ fun v σ' => (∃ L : List Ent, L.Perm (ms.map cn_ ++ a8_ 0 (a2_ ow0 (ms.map Mbr.name))) ∧ SrtE L ∧ v = .tup [.sl 4 ((if aO_ L = true then L else []).map sEnt) false, vInt (if aO_ L = true then 0 else 1)]) ∧ σ = σ' := by
 have hsz1 : ∀ m ∈ ms, m.name.size ≤ 16 ∧ m.rack.size ≤ 16 ∧ m.zone.size ≤ 16 := fun m hm => ⟨(bz_ (hok m hm).name).2, (bz_ (hok m hm).rack).2, (bz_ (hok m hm).zone).2⟩
 refine am_ Tryz.func15 rfl Tryz.ntmps15 (congrArg Array.toList Tryz.results15) (by simp only [List.length_cons, List.length_nil]; decide) ?_; simp only [ah_, al_, Nat.reduceAdd]
 refine ab_ ?_
 refine aa_ kr_ ?_
 iterate 2 (refine aL_S rfl rfl v_ ?_)
 refine ac_ ?_
 refine ab_ ?_
 refine ab_ ?_
 refine aa_ kr_ ?_
 iterate 4 (refine aL_S rfl rfl v_ ?_)
 refine aw_ rfl rfl v_ rfl vg_ ?_
 refine aw_ rfl rfl v_ rfl vg_ ?_
 refine aw_ rfl rfl v_ rfl vg_ ?_
 (refine aL_S rfl rfl v_ ?_)
 refine ac_ ?_
 refine ad_ v_ (fun hc1 => ?_) (fun hc1 => ?_)
 ·replace hc1 := nm_ hc1
  omega
 ·replace hc1 := nm_ hc1
  refine ae_ ?_
  refine ab_ ?_
  refine aa_ kr_ ?_
  (refine aL_S rfl rfl v_ ?_)
  refine ac_ ?_
  refine ab_ ?_
  refine ab_ ?_
  refine aa_ kr_ ?_
  iterate 3 (refine aL_S rfl rfl v_ ?_)
  refine ac_ ?_
  refine ak_ ?_
  refine ao_ (ι := Store × AVal × Nat) (fun ⟨τ, g, k⟩ => ms.length - k) (fun ⟨τ, g, k⟩ => k ≤ ms.length ∧ CBp σ τ 4 (((ms.take k).map cn_).map sEnt) g) (fun ⟨τ, g, k⟩ => [(0, .sl 4 (ms.map sMbr) t), (1, vNil), (6, g), (19, .sl 4 (ms.map sMbr) t), (20, vInt ms.length), (21, vInt k)]) (fun ⟨τ, g, k⟩ => τ) (σ, vNil, 0) ?_ ?_ ?_ ?_
  ·exact ⟨Nat.zero_le _, .inl ⟨rfl, rfl, rfl⟩⟩
  ·exact cv_
  ·exact Store.Wk.refl _
  rintro ⟨τ, g, k⟩ ⟨hk, hC⟩
  simp only [ar_, as_]
  refine ab_ ?_
  refine aa_ kr_ ?_
  (refine aL_S rfl rfl v_ ?_)
  refine ac_ ?_
  refine ab_ ?_
  refine ad_ v_ (fun hc5 => ?_) (fun hc5 => ?_)
  ·replace hc5 := nm_ hc5
   refine ae_ ?_
   refine ab_ ?_
   refine ak_ ?_
   refine ab_ ?_
   obtain ⟨m, hm⟩ := aA_ (l := ms) (k := k) (by omega)
   have hmm := List.mem_of_getElem? hm
   have hmo := hok m hmm
   have hmz := hsz1 m hmm
   have hmn := hnd k m hm
   have hv2 : (valM m).2 = 0 := by rw [valM, if_pos ⟨hmo.rack, hmo.zone⟩]
   have hsl : ((ms.map sMbr).take k).drop 0 = (ms.take k).map sMbr := by rw [List.drop_zero, List.map_take]
   have hsl2 : (ms.map sMbr).take k = (ms.take k).map sMbr := List.map_take.symm
   have hle : (ms.take k).length ≤ 8 := by rw [List.length_take]; omega
   have R := hm
   refine aa_ kr_ ?_
   iterate 3 (refine aL_S rfl rfl v_ ?_)
   refine aR_ rfl rfl rfl g_ gl_ fun o8 ho8 => ?_
   repeat (rw [an_] at ho8; obtain ⟨_, ho8⟩ := ho8)
   (refine aL_S rfl rfl v_ ?_)
   refine ax_ rfl rfl rfl v_ v_ h_ g_ rfl g_ c_ (by rfl) le_ v_ ?_
   refine ac_ ?_
   skip
   have n8 := cL_ hC ho8
   have hC1 := dn_ (x := .cells (sMbr dO_).cells) (y := .cells (sMbr m).cells) hC ho8
   refine ab_ ?_
   refine aa_ kr_ ?_
   (refine aL_S rfl rfl v_ ?_)
   refine aL_X rfl rfl (ag_ rfl rfl (.inr ⟨rfl, rfl, rfl⟩) g_ va_ (f2_ (m := m) (by omega) (by omega)) ?_); rintro _ _ ⟨rfl, rfl⟩
   rw [hv2]
   iterate 5 (refine aL_S rfl rfl v_ ?_)
   refine ac_ ?_
   refine ab_ ?_
   refine ab_ ?_
   have R := And.intro hsl hsl2
   refine aE_ (.op 0 0 (.op 1 0 (.op 2 0 (.op 3 0 (.op 4 0 (.op 5 1 (.op 6 0 (.op 7 0 (.op 8 0 (.op 9 0 (.op 10 0 (.op 11 0 (.op 13 0 (.op 14 0 (.op 12 1 (.op 15 1 (.op 16 0 .nil))))))))))))))))) Tryz.mixed kr_ ?_
   iterate 3 (refine dR_S o_ (by rfl) (by rfl) v_ ?_)
   refine bW_ o_ (by rfl) (by rfl) v_ (by rfl) vg_ ?_
   refine bW_ o_ (by rfl) (by rfl) v_ (by rfl) vg_ ?_
   refine gW_ o_ (by rfl) (by rfl) v_ (by rfl) sub_ (fun hb => aG_ (by rfl) (by rfl) (.inr ⟨by rfl, by rfl, by rfl⟩) g_ cg_ (br_ (by omega))) ?_
   refine bW_ o_ (by rfl) (by rfl) v_ (by rfl) vg_ ?_
   iterate 2 (refine dR_S o_ (by rfl) (by rfl) v_ ?_)
   refine bW_ o_ (by rfl) (by rfl) v_ (by rfl) vg_ ?_
   refine bW_ o_ (by rfl) (by rfl) v_ (by rfl) vg_ ?_
   refine bW_ o_ (by rfl) (by rfl) v_ (by rfl) vg_ ?_
   refine bW_ o_ (by rfl) (by rfl) v_ (by rfl) vg_ ?_
   refine bW_ o_ (by rfl) (by rfl) v_ (by rfl) vg_ ?_
   refine gW_ o_ (by rfl) (by rfl) v_ (by rfl) sub_ (fun hb => aG_ (by rfl) (by rfl) (.inr ⟨by rfl, by rfl, by rfl⟩) g_ cg_ (fe_ (ms := ms.take k) (by omega))) ?_
   refine gW_ o_ (by rfl) (by rfl) v_ (by rfl) sub_ (fun hb => aG_ (by rfl) (by rfl) (.inr ⟨by rfl, by rfl, by rfl⟩) g_ cg_ (dx_ (l := (ms.take k).map Mbr.name) (by rw [List.length_map]; omega))) ?_
   (refine dR_S o_ (by rfl) (by rfl) v_ ?_)
   refine aK_ ?_
   refine ad_ v_ (fun hc8 => ?_) (fun hc8 => ?_)
   ·replace hc8 := nm_ hc8
    rw [hmo.name, hmn] at hc8; simp at hc8
   ·replace hc8 := nm_ hc8
    refine ae_ ?_
    refine aa_ kr_ ?_
    iterate 3 (refine aL_S rfl rfl v_ ?_)
    refine aL_X rfl rfl (ag_ rfl rfl (.inr ⟨rfl, rfl, rfl⟩) g_ va_ (jO_ (by omega)) ?_); rintro _ _ ⟨rfl, rfl⟩
    iterate 3 (refine aL_S rfl rfl v_ ?_)
    refine au_ rfl rfl rfl g_ g_ rfl rfl h_ c2_ (by decide) ?_
    refine aL_X rfl rfl (a9_ rfl g_ g_ hC1 va_ (dM_ _) va_ c_ (by simp only [List.length_map, List.length_singleton] at *; omega) fun a' σ' hC3 => ?_)
    replace hC3 : CBp (σ.set o8 (.cells (sMbr m).cells)) σ' 4 (((ms.take k).map cn_ ++ [m].map cn_).map sEnt) a' := by rw [List.map_append]; exact hC3
    obtain ⟨τ2, hC5, hs2⟩ := cx_ hC3 n8
    (refine aL_S rfl rfl v_ ?_)
    refine ac_ ?_
    refine aa_ kr_ ?_
    iterate 2 (refine aL_S rfl rfl v_ ?_)
    refine ac_ ?_
    refine aI_ (ι := Store × AVal × Nat) (i := ⟨τ, g, k⟩) (τ2, a', k + 1) ?_ ?_ ?_ ?_
    ·show ms.length - (k + 1) < ms.length - k; omega
    ·exact ⟨by show k + 1 ≤ ms.length; omega, by rw [aM_ hm, List.map_append]; exact hC5⟩
    ·exact cv_
    ·exact hs2.wk
  ·replace hc5 := nm_ hc5
   refine av_ ?_
   refine af_ ?_
   refine af_ ?_
   refine aq_ ?_
   refine ab_ ?_
   obtain rfl : k = ms.length := by omega
   rw [List.take_length] at hC
   refine aE_ (.op 0 0 (.op 2 0 (.alt 1 1 (.op 3 1 (.op 4 1 (.op 5 1 (.op 6 2 (.op 7 0 .nil))))) (.op 3 1 (.op 1 1 (.op 4 1 (.op 5 1 (.op 6 2 (.op 7 0 .nil))))))))) Tryz.mixed kr_ ?_
   iterate 2 (refine dR_S o_ (by rfl) (by rfl) v_ ?_)
   refine fi_ ?_ ?_
   ·refine dR_X o_ (by rfl) (by rfl) (fc_ (l := ow0.map vStr) (a5_ (n := 16) rfl g_ g_ g_ rfl va_ va_ (by decide) fun ob hob => ⟨ob, hob, rfl, rfl⟩) (by rfl) (by rfl) (fun x hx => by obtain ⟨y, _, rfl⟩ := List.mem_map.1 hx; rfl) ⟨sub_, ?_⟩)
    refine dR_X o_ (by rfl) (by rfl) (ag_ (by rfl) (by rfl) (.inr ⟨by rfl, by rfl, by rfl⟩) g_ va_ (fe_ (ms := ms) (by omega)) ?_); rintro _ _ ⟨rfl, rfl⟩; refine ⟨sub_, ?_⟩
    refine dR_X o_ (by rfl) (by rfl) (ag_ (by rfl) (by rfl) (.inr ⟨by rfl, by rfl, by rfl⟩) g_ va_ (iu_ (ow := ow0) (nm := ms.map Mbr.name) (by decide) (by rw [List.length_map]; omega)) ?_); rintro _ _ ⟨rfl, rfl⟩; refine ⟨sub_, ?_⟩
    refine dR_X o_ (by rfl) (by rfl) (ag_ (by rfl) (by rfl) (.inr ⟨by rfl, by rfl, by rfl⟩) g_ va_ (et_ (ow := a2_ ow0 (ms.map Mbr.name)) (by rw [aZ_]; decide) (fun s hs => by have := hsz s hs; omega) hne) ?_); rintro _ _ ⟨⟨L1, p1, s1, rfl⟩, rfl⟩; refine ⟨sub_, ?_⟩
    refine dR_T o_ (by rfl) (by rfl) (a9_ (by rfl) g_ g_ hC va_ (dM_ _) va_ (fX_ _) (by have e1 := p1.length_eq; have e2 := cI_ 0 (a2_ ow0 (ms.map Mbr.name)); rw [aZ_, show ow0.length = 16 from rfl] at e2; simp only [List.length_map]; omega) fun a' σ' hC3 => ?_)
    rw [← List.map_append] at hC3
    have hp2 : (ms.map cn_ ++ L1).Perm (ms.map cn_ ++ a8_ 0 (a2_ ow0 (ms.map Mbr.name))) := List.Perm.append_left _ p1
    (refine dR_S o_ (by rfl) (by rfl) v_ ?_)
    refine aK_ ?_
    refine ab_ ?_
    obtain ⟨M, hM⟩ : ∃ M, ms.map cn_ ++ L1 = M := ⟨_, rfl⟩
    rw [hM] at hC3 hp2
    have hMl : M.length ≤ 100 := by have e1 := hp2.length_eq; have e2 := cI_ 0 (a2_ ow0 (ms.map Mbr.name)); rw [aZ_, show ow0.length = 16 from rfl] at e2; simp only [List.length_append, List.length_map] at e1; omega
    have hMn : M.map sEnt ≠ [] := by rw [← hM]; simp; intro h; rw [h] at h0; simp at h0
    obtain ⟨oo, hoo, rfl, rfl⟩ : ∃ oo, σ.heap oo = none ∧ a' = .msl oo 4 0 M.length ∧ σ' = σ.set oo (.cells (flat (M.map sEnt))) := by
     rcases hC3 with ⟨_, h, _⟩ | ⟨oo, h1, h2, h3⟩
     ·exact absurd h hMn
     ·exact ⟨oo, h1, by rw [h2, List.length_map], h3⟩
    refine aa_ kr_ ?_
    (refine aL_S rfl rfl v_ ?_)
    refine aL_X rfl rfl (ag_ rfl rfl (.inr ⟨rfl, rfl, rfl⟩) g_ va_ (fv_ (o := oo) (L := M) (Store.set_get ..) (by omega)) ?_); rintro _ τ1 ⟨rfl, L, q1, q2, rfl⟩
    refine ac_ ?_
    refine ab_ ?_
    rw [Store.set_set]
    have hLl := q1.length_eq
    have hLs : ∀ x ∈ L, EntSm x := fun x hx => by
     have hx' := hp2.mem_iff.1 (q1.mem_iff.1 hx)
     rcases List.mem_append.1 hx' with h | h
     ·obtain ⟨m, hm, rfl⟩ := List.mem_map.1 h
      exact hz_ (hok m hm)
     ·exact gZ_ (by rw [aZ_]; decide) hsz h
    refine aa_ kr_ ?_
    refine aL_X rfl rfl (b6_ (.inr rfl) va_ (Store.set_get ..) (l := L.map sEnt) (by rw [← hLl]; exact cb_ L) (by rw [List.length_map]; exact hLl) (dM_ L) ?_)
    rw [Store.set_del hoo]
    (refine aL_S rfl rfl v_ ?_)
    refine aL_X rfl rfl (ag_ rfl rfl (.inr ⟨rfl, rfl, rfl⟩) g_ va_ (ic_ hLs (by omega)) ?_); rintro _ _ ⟨rfl, rfl⟩
    iterate 4 (refine aL_S rfl rfl v_ ?_)
    refine ac_ ?_
    refine aj_ ?_
    refine ai_ (σ' := σ) v_ sub_ ?_
    exact ⟨⟨L, q1.trans hp2, q2, rfl⟩, rfl⟩
   refine dR_X o_ (by rfl) (by rfl) (ag_ (by rfl) (by rfl) (.inr ⟨by rfl, by rfl, by rfl⟩) g_ va_ (fe_ (ms := ms) (by omega)) ?_); rintro _ _ ⟨rfl, rfl⟩; refine ⟨sub_, ?_⟩
   refine dR_X o_ (by rfl) (by rfl) (fc_ (l := ow0.map vStr) (a5_ (n := 16) rfl g_ g_ g_ rfl va_ va_ (by decide) fun ob hob => ⟨ob, hob, rfl, rfl⟩) (by rfl) (by rfl) (fun x hx => by obtain ⟨y, _, rfl⟩ := List.mem_map.1 hx; rfl) ⟨sub_, ?_⟩)
   refine dR_X o_ (by rfl) (by rfl) (ag_ (by rfl) (by rfl) (.inr ⟨by rfl, by rfl, by rfl⟩) g_ va_ (iu_ (ow := ow0) (nm := ms.map Mbr.name) (by decide) (by rw [List.length_map]; omega)) ?_); rintro _ _ ⟨rfl, rfl⟩; refine ⟨sub_, ?_⟩
   refine dR_X o_ (by rfl) (by rfl) (ag_ (by rfl) (by rfl) (.inr ⟨by rfl, by rfl, by rfl⟩) g_ va_ (et_ (ow := a2_ ow0 (ms.map Mbr.name)) (by rw [aZ_]; decide) (fun s hs => by have := hsz s hs; omega) hne) ?_); rintro _ _ ⟨⟨L1, p1, s1, rfl⟩, rfl⟩; refine ⟨sub_, ?_⟩
   refine dR_T o_ (by rfl) (by rfl) (a9_ (by rfl) g_ g_ hC va_ (dM_ _) va_ (fX_ _) (by have e1 := p1.length_eq; have e2 := cI_ 0 (a2_ ow0 (ms.map Mbr.name)); rw [aZ_, show ow0.length = 16 from rfl] at e2; simp only [List.length_map]; omega) fun a' σ' hC3 => ?_)
   rw [← List.map_append] at hC3
   have hp2 : (ms.map cn_ ++ L1).Perm (ms.map cn_ ++ a8_ 0 (a2_ ow0 (ms.map Mbr.name))) := List.Perm.append_left _ p1
   (refine dR_S o_ (by rfl) (by rfl) v_ ?_)
   refine aK_ ?_
   refine ab_ ?_
   obtain ⟨M, hM⟩ : ∃ M, ms.map cn_ ++ L1 = M := ⟨_, rfl⟩
   rw [hM] at hC3 hp2
   have hMl : M.length ≤ 100 := by have e1 := hp2.length_eq; have e2 := cI_ 0 (a2_ ow0 (ms.map Mbr.name)); rw [aZ_, show ow0.length = 16 from rfl] at e2; simp only [List.length_append, List.length_map] at e1; omega
   have hMn : M.map sEnt ≠ [] := by rw [← hM]; simp; intro h; rw [h] at h0; simp at h0
   obtain ⟨oo, hoo, rfl, rfl⟩ : ∃ oo, σ.heap oo = none ∧ a' = .msl oo 4 0 M.length ∧ σ' = σ.set oo (.cells (flat (M.map sEnt))) := by
    rcases hC3 with ⟨_, h, _⟩ | ⟨oo, h1, h2, h3⟩
    ·exact absurd h hMn
    ·exact ⟨oo, h1, by rw [h2, List.length_map], h3⟩
   refine aa_ kr_ ?_
   (refine aL_S rfl rfl v_ ?_)
   refine aL_X rfl rfl (ag_ rfl rfl (.inr ⟨rfl, rfl, rfl⟩) g_ va_ (fv_ (o := oo) (L := M) (Store.set_get ..) (by omega)) ?_); rintro _ τ1 ⟨rfl, L, q1, q2, rfl⟩
   refine ac_ ?_
   refine ab_ ?_
   rw [Store.set_set]
   have hLl := q1.length_eq
   have hLs : ∀ x ∈ L, EntSm x := fun x hx => by
    have hx' := hp2.mem_iff.1 (q1.mem_iff.1 hx)
    rcases List.mem_append.1 hx' with h | h
    ·obtain ⟨m, hm, rfl⟩ := List.mem_map.1 h
     exact hz_ (hok m hm)
    ·exact gZ_ (by rw [aZ_]; decide) hsz h
   refine aa_ kr_ ?_
   refine aL_X rfl rfl (b6_ (.inr rfl) va_ (Store.set_get ..) (l := L.map sEnt) (by rw [← hLl]; exact cb_ L) (by rw [List.length_map]; exact hLl) (dM_ L) ?_)
   rw [Store.set_del hoo]
   (refine aL_S rfl rfl v_ ?_)
   refine aL_X rfl rfl (ag_ rfl rfl (.inr ⟨rfl, rfl, rfl⟩) g_ va_ (ic_ hLs (by omega)) ?_); rintro _ _ ⟨rfl, rfl⟩
   iterate 4 (refine aL_S rfl rfl v_ ?_)
   refine ac_ ?_
   refine aj_ ?_
   refine ai_ (σ' := σ) v_ sub_ ?_
   exact ⟨⟨L, q1.trans hp2, q2, rfl⟩, rfl⟩
end Go.Proofs.YtkcmbjodladflaaGreatDoor
end

section
set_option linter.all false
set_option maxRecDepth 100000
namespace Go.Proofs.YtkcmbjodladflaaGreatDoor
open Go.Ab
def jnS (a b : List Ent) : List Ent := b.foldl (fun acc y => putS y acc) a
def b8_ (a b : List Ent) : List Ent × Int := if aO_ a = true ∧ aO_ b = true then (if 4096 < (jnS a b).length then ([], 4) else (jnS a b, 0)) else ([], 1)
theorem m9_ {a b : List Ent} {k : Nat} {x : Ent} (h : b[k]? = some x) : jnS a (b.take (k + 1)) = putS x (jnS a (b.take k)) := by
 unfold jnS
 rw [aM_ h, List.foldl_append]; rfl
theorem jy_ (b : List Ent) : ∀ a, (jnS a b).length ≤ a.length + b.length := by
 induction b with
 |nil => intro a; exact Nat.le_refl _
 |cons x b ih =>
  intro a
  have := ih (putS x a)
  have h2 := cY_ x a
  unfold jnS at this ⊢
  rw [List.foldl_cons, List.length_cons]; omega
theorem dZ_ {a b : List Ent} {ta tb : Bool} {σ : Store} (ea : ∀ x ∈ a, EntSm x) (eb : ∀ x ∈ b, EntSm x) (la : a.length ≤ 100000) (lb : b.length ≤ 100000) : ap_ Tryz.prog 30 [.sl 4 (a.map sEnt) ta, .sl 4 (b.map sEnt) tb] σ fun v σ' => v = .tup [.sl 4 ((b8_ a b).1.map sEnt) false, vInt (b8_ a b).2] ∧ σ = σ' := by
 refine am_ Tryz.func30 rfl Tryz.ntmps30 (congrArg Array.toList Tryz.results30) (by simp only [List.length_cons, List.length_nil]; decide) ?_; simp only [ah_, al_, Nat.reduceAdd]
 refine ab_ ?_
 refine aa_ kr_ ?_
 iterate 2 (refine aL_S rfl rfl v_ ?_)
 refine ac_ ?_
 refine ab_ ?_
 refine ab_ ?_
 refine aa_ kr_ ?_
 (refine aL_S rfl rfl v_ ?_)
 refine aL_X rfl rfl (ag_ rfl rfl (.inr ⟨rfl, rfl, rfl⟩) g_ va_ (cZ_ ea (by omega)) ?_); rintro _ _ ⟨rfl, rfl⟩
 iterate 2 (refine aL_S rfl rfl v_ ?_)
 refine aw_ rfl rfl v_ rfl vg_ ?_
 refine bs_ rfl rfl v_ rfl (fun hb => aG_ (by rfl) (by rfl) (.inr ⟨by rfl, by rfl, by rfl⟩) g_ cg_ (cZ_ eb (by omega))) ?_
 refine aw_ rfl rfl v_ rfl vg_ ?_
 (refine aL_S rfl rfl v_ ?_)
 refine ac_ ?_
 refine ad_ v_ (fun hc1 => ?_) (fun hc1 => ?_)
 ·replace hc1 := nm_ hc1
  refine ab_ ?_
  refine aa_ kr_ ?_
  iterate 2 (refine aL_S rfl rfl v_ ?_)
  refine ac_ ?_
  refine aj_ ?_
  have hn : b8_ a b = ([], 1) := by rw [b8_, if_neg (by rintro ⟨g1, g2⟩; simp [g1, g2] at hc1)]
  exact aF_ (v := .tup [.sl 4 ((b8_ a b).1.map sEnt) false, vInt (b8_ a b).2]) (v' := .tup [vNil, vInt 1]) va_ (by rw [hn]; exact bm_ 1) sub_ ⟨rfl, rfl⟩
 ·replace hc1 := nm_ hc1
  refine ae_ ?_
  refine ab_ ?_
  refine aa_ kr_ ?_
  refine bp_ 45 4 rfl rfl rfl (by rfl) fun k6 hk6 => ?_
  refine ac_ ?_
  refine ab_ ?_
  refine aa_ kr_ ?_
  iterate 2 (refine aL_S rfl rfl v_ ?_)
  refine aP_ rfl rfl rfl g_ g_ v_ h_ va_ (gu_ _) (by simp; omega) fun k18 hk18 => ?_
  have t18 := (aJ_ hk18).2
  refine aL_X rfl rfl (eb_ (a := .own k18 4 (a.map sEnt)) (bM_ (by rfl) ⟨rfl, rfl⟩) (.own1 _ _ _) ?_)
  refine ac_ ?_
  refine ab_ ?_
  refine ab_ ?_
  refine aa_ kr_ ?_
  (refine aL_S rfl rfl v_ ?_)
  refine ac_ ?_
  refine ak_ ?_
  refine ao_ (ι := Nat) (fun i => b.length - i) (fun i => i ≤ b.length) (fun i => [(1, .sl 4 (b.map sEnt) tb), (6, .sl 4 ((jnS a (b.take i)).map sEnt) false), (7, vInt i)]) (fun i => σ) 0 ?_ ?_ ?_ ?_
  ·exact Nat.zero_le _
  ·exact cv_
  ·exact sub_
  rintro i hi
  simp only [ar_, as_]
  refine ab_ ?_
  refine ab_ ?_
  refine aa_ kr_ ?_
  iterate 4 (refine aL_S rfl rfl v_ ?_)
  refine ac_ ?_
  refine ad_ v_ (fun hc6 => ?_) (fun hc6 => ?_)
  ·replace hc6 := nm_ hc6
   refine ae_ ?_
   refine ab_ ?_
   refine ak_ ?_
   obtain ⟨x, hx⟩ := aA_ (l := b) (k := i) (by omega)
   have hst := m9_ (a := a) hx
   have hle := jy_ (b.take i) a
   rw [List.length_take] at hle
   have R := hx
   refine aa_ kr_ ?_
   iterate 5 (refine aL_S rfl rfl v_ ?_)
   refine aL_X rfl rfl (ag_ rfl rfl (.inr ⟨rfl, rfl, rfl⟩) g_ va_ (r5_ (y := x) (by omega)) ?_); rintro _ _ ⟨rfl, rfl⟩
   (refine aL_S rfl rfl v_ ?_)
   refine ac_ ?_
   refine aa_ kr_ ?_
   iterate 3 (refine aL_S rfl rfl v_ ?_)
   refine ac_ ?_
   refine aI_ (ι := Nat) (i := i) (i + 1) ?_ ?_ ?_ ?_
   ·omega
   ·exact (by omega)
   ·have R := hst; exact cv_
   ·exact sub_
  ·replace hc6 := nm_ hc6
   refine av_ ?_
   refine af_ ?_
   refine af_ ?_
   refine aq_ ?_
   refine ab_ ?_
   refine ab_ ?_
   obtain rfl : i = b.length := by omega
   rw [List.take_length]
   refine aa_ kr_ ?_
   iterate 3 (refine aL_S rfl rfl v_ ?_)
   refine ac_ ?_
   refine ad_ v_ (fun hc9 => ?_) (fun hc9 => ?_)
   ·replace hc9 := nm_ hc9
    refine ab_ ?_
    refine aa_ kr_ ?_
    iterate 2 (refine aL_S rfl rfl v_ ?_)
    refine ac_ ?_
    refine aj_ ?_
    have hn : b8_ a b = ([], 4) := by rw [b8_, if_pos hc1, if_pos (by omega)]
    exact aF_ (v := .tup [.sl 4 ((b8_ a b).1.map sEnt) false, vInt (b8_ a b).2]) (v' := .tup [vNil, vInt 4]) va_ (by rw [hn]; exact bm_ 4) sub_ ⟨rfl, rfl⟩
   ·replace hc9 := nm_ hc9
    refine ae_ ?_
    refine ab_ ?_
    refine aa_ kr_ ?_
    iterate 3 (refine aL_S rfl rfl v_ ?_)
    refine ac_ ?_
    refine aj_ ?_
    refine ai_ (σ' := σ) v_ sub_ ?_
    exact ⟨by rw [b8_, if_pos hc1, if_neg (by omega)], rfl⟩
end Go.Proofs.YtkcmbjodladflaaGreatDoor
end

section
set_option linter.all false
set_option maxRecDepth 100000
namespace Go.Proofs.YtkcmbjodladflaaGreatDoor
open Go.Ab
def insE (x : Ent) : List Ent → List Ent
 |[] => [x]
 |y :: l => if sLt y.key x.key = true then y :: insE x l else x :: y :: l
def so_ (l : List Ent) : List Ent := l.foldr insE []
def StrE (L : List Ent) : Prop := L.Pairwise fun x y => sLt x.key y.key = true
theorem hL_ (x : Ent) : ∀ l : List Ent, (insE x l).Perm (x :: l)
 |[] => .refl _
 |y :: l => by
  unfold insE
  split
  ·exact ((hL_ x l).cons y).trans (.swap ..)
  ·exact .refl _
theorem gL_ : ∀ l : List Ent, (so_ l).Perm l
 |[] => .refl _
 |x :: l => (hL_ x _).trans ((gL_ l).cons x)
theorem jD_ {L L0 M : List Ent} (hp : L.Perm M) (hs : SrtE L) (hp0 : L0.Perm M) (h0 : StrE L0) : L = L0 := by
 have hnd : (L.map Ent.key).Nodup := by
  have h1 : (L0.map Ent.key).Nodup := by
   unfold List.Nodup
   rw [List.pairwise_map]
   exact h0.imp fun {a b} h e => by rw [e, bh_] at h; cases h
  exact ((hp.trans hp0.symm).map Ent.key).nodup_iff.2 h1
 have hL : StrE L := by
  unfold List.Nodup at hnd
  rw [List.pairwise_map] at hnd
  exact List.pairwise_and_iff.2 ⟨hs, hnd⟩ |>.imp fun {a b} h => dB_ h.1 (fun e => h.2 e.symm)
 exact fD_ (r := fun x y : Ent => sLt x.key y.key = true) (fun a => by rw [bh_]; simp) (fun a b c h1 h2 => b3_ h1 h2) hL h0 fun x => by rw [hp.mem_iff, hp0.mem_iff]
def strB : List Ent → Bool
 |x :: y :: l => sLt x.key y.key && strB (y :: l)
 |_ => true
theorem ln_ : ∀ {l : List Ent}, strB l = true → StrE l
 |[], _ => .nil
 |[x], _ => List.pairwise_singleton _ _
 |x :: y :: l, h => by
  unfold strB at h
  rw [Bool.and_eq_true] at h
  have ih := ln_ h.2
  refine List.pairwise_cons.2 ⟨fun z hz => ?_, ih⟩
  rcases List.mem_cons.1 hz with rfl | hz
  ·exact h.1
  ·exact b3_ h.1 ((List.pairwise_cons.1 ih).1 z hz)
def h9_ : Nat → List ByteArray → List Ent
 |_, [] => []
 |k, s :: l => if aN_ s = true then ⟨gm_ k, 1, ⟨#[]⟩, s⟩ :: h9_ (k + 1) l else h9_ (k + 1) l
theorem iE_ : ∀ {l : List ByteArray} {k : Nat}, k + l.length ≤ 20 → a8_ k l = h9_ k l
 |[], k, _ => rfl
 |s :: l, k, h => by
  rw [List.length_cons] at h
  unfold a8_ h9_
  rw [cD_ (by omega), iE_ (k := k + 1) (by omega)]
abbrev n1 : ByteArray := ⟨#[110, 49]⟩
abbrev n2 : ByteArray := ⟨#[110, 50]⟩
abbrev mb1 : Mbr := ⟨n1, ⟨#[114]⟩, ⟨#[122]⟩, true⟩
abbrev mb2 : Mbr := ⟨n2, ⟨#[114]⟩, ⟨#[122]⟩, false⟩
def ev12 : List ByteArray := [n1, n2, n1, n2, n1, n2, n1, n2, n1, n2, n1, n2, n1, n2, n1, n2]
theorem qb_ : a2_ ow0 [n1, n2] = ev12 := by kernel_rfl
def l41 : List Ent := so_ ([mb1, mb2].map cn_ ++ h9_ 0 ev12)
theorem q6_ {L : List Ent} (hp : L.Perm ([mb1, mb2].map cn_ ++ a8_ 0 (a2_ ow0 [n1, n2]))) (hs : SrtE L) : L = l41 := by
 rw [qb_, iE_ (by decide)] at hp
 exact jD_ hp hs (gL_ _) (ln_ kr_)
theorem l6_ : aO_ l41 = true := by kernel_rfl
theorem jl_ : l41.length = 18 := by kernel_rfl
abbrev ad6 : Adm := ⟨6, ⟨#[]⟩, ⟨#[]⟩, ⟨#[]⟩, ⟨#[]⟩, 0, ⟨n2, ⟨#[]⟩, ⟨#[]⟩, false⟩⟩
abbrev ad7 : Adm := ⟨7, ⟨#[]⟩, ⟨#[]⟩, ⟨#[]⟩, ⟨#[]⟩, 0, dO_⟩
abbrev ad0 : Adm := ⟨0, ⟨#[]⟩, ⟨#[]⟩, ⟨#[]⟩, ⟨#[]⟩, 0, dO_⟩
abbrev x41 : Ent := ⟨⟨#[110, 111, 100, 101, 47, 110, 50]⟩, 2, n1, f5_⟩
theorem rm_ : adS l41 n1 ad6 = ([x41], 0) := by kernel_rfl
def m41 : List Ent := putS x41 l41
theorem rG_ : b8_ l41 [x41] = (m41, 0) := by kernel_rfl
theorem sS_ : adS m41 n1 ad0 = ([], 1) := by kernel_rfl
def gp_ (l : List Ent) (who : ByteArray) (ms : List Mv) : List Ent × Int := ms.foldl (fun s x => bX_ s (setS l who (gm_ x.part) x.now)) ([], 0)
theorem sh_ {l : List Ent} {who : ByteArray} {ms : List Mv} (h : ∀ x ∈ ms, x.part < 16) : clMv l who ms = gp_ l who ms := by
 unfold clMv gp_
 have key : ∀ (ms : List Mv) (s : List Ent × Int), (∀ x ∈ ms, x.part < 16) → ms.foldl (fun s x => bX_ s (setS l who (aY_ x.part) x.now)) s = ms.foldl (fun s x => bX_ s (setS l who (gm_ x.part) x.now)) s := by
  intro ms
  induction ms with
  |nil => intro s _; rfl
  |cons x ms ih =>
   intro s h
   rw [List.foldl_cons, List.foldl_cons, cD_ (by have := h x (.head _); omega)]
   exact ih _ fun y hy => h y (.tail _ hy)
 exact key ms _ h
def pl41 : List Mv := dK_ ((List.range 16).map (n0_ m41)) (a2_ ((List.range 16).map (n0_ m41)) [n1])
theorem pV_ : adS m41 n1 ad7 = gp_ m41 n1 pl41 ∧ (gp_ m41 n1 pl41).2 = 0 ∧ (gp_ m41 n1 pl41).1.length = 8 ∧ ((gp_ m41 n1 pl41).1.headD em_).value = n1 := by
 have hn : nmsS m41 = [n1] := by kernel_rfl
 have hp : bP_ m41 = pl41 := by unfold bP_; rw [p3_, hn]; rfl
 have hc : bL_ m41 n1 = gp_ m41 n1 pl41 := by
  have h1 : ¬ (bD_ m41).length = 0 := by
   have := congrArg List.length hn
   rw [nmsS, List.length_map] at this
   rw [this]; decide
  rw [bL_, if_neg h1, hp, sh_ (fun x hx => by rw [← hp] at hx; exact e7_ hx)]
 have h0 : (gp_ m41 n1 pl41).2 = 0 := by kernel_rfl
 refine ⟨?_, h0, by kernel_rfl, by kernel_rfl⟩
 have ha : b1_ m41 n1 ad7 = gp_ m41 n1 pl41 := by rw [← hc]; rfl
 rw [adS, if_pos ⟨by kernel_rfl, by kernel_rfl⟩, ha, if_pos h0]
 exact Prod.ext rfl h0.symm
end Go.Proofs.YtkcmbjodladflaaGreatDoor
end

section
set_option linter.all false
set_option maxRecDepth 100000
namespace Go.Proofs.YtkcmbjodladflaaGreatDoor
open Go.Ab
theorem mV_ {α : Type} {ok : α → Bool} {key : α → ByteArray} : ∀ {l : List α} {pv : Option ByteArray}, upGo ok key pv l = true → ∀ x ∈ l, ok x = true
 |[], _, _, x, h => by cases h
 |y :: l, pv, hu, x, h => by
  unfold upGo at hu
  simp only [Bool.and_eq_true] at hu
  rcases List.mem_cons.1 h with rfl | h
  ·exact hu.1.1
  ·exact mV_ hu.2 x h
theorem cq_ {l : List Ent} (h : aO_ l = true) : ∀ x ∈ l, EntSm x ∧ x.key.size ≤ 128 ∧ x.value.size ≤ 256 := fun x hx => by
 unfold aO_ at h
 rw [Bool.and_eq_true] at h
 have := mV_ h.2 x hx
 unfold bA_ cy_ at this
 simp only [Bool.and_eq_true, Bool.or_eq_true, decide_eq_true_eq] at this
 obtain ⟨⟨h1, h2⟩, ⟨⟨h3, h4⟩, h5⟩, h6⟩ := this
 have hw : x.who.size ≤ 16 := by
  rcases h5 with h5 | h5
  ·omega
  ·exact (bz_ h5).2
 exact ⟨⟨by omega, by omega, by omega⟩, h2, h6⟩
theorem rL_ : aO_ m41 = true := by kernel_rfl
theorem lg_ : m41.length = 18 := by kernel_rfl
theorem ri_ : ∀ x ∈ [x41], EntSm x := fun x hx => by rw [List.mem_singleton.1 hx]; exact ⟨by decide, by decide, by decide⟩
theorem oM_ {k : Int} {m : Mbr} (h1 : m.name.size ≤ 16) (h2 : m.rack.size ≤ 16) (h3 : m.zone.size ≤ 16) : AdmSm ⟨k, ⟨#[]⟩, ⟨#[]⟩, ⟨#[]⟩, ⟨#[]⟩, 0, m⟩ :=
 ⟨Nat.zero_le _, Nat.zero_le _, Nat.zero_le _, Nat.zero_le _, (show (-9223372036854775808 : Int) ≤ 0 by decide), (show (0 : Int) ≤ 9223372036854775807 by decide), Nat.le_trans h1 (by decide), Nat.le_trans h2 (by decide), Nat.le_trans h3 (by decide)⟩
theorem pu_ : f5_ = ⟨#[103, 111, 110, 101]⟩ := rfl
set_option maxHeartbeats 1000000 in
theorem cf_ {σ : Store} : ap_ Tryz.prog 10 [] σ fun v σ' => v = vB true ∧ σ = σ' := by
 have el := cq_ l6_
 have em := cq_ rL_
 obtain ⟨c1, c2, c3, c4⟩ := pV_
 generalize gp_ m41 n1 pl41 = Y at c1 c2 c3 c4
 obtain ⟨y0, hy0, hyv⟩ : ∃ y, Y.1[0]? = some y ∧ y.value = n1 := by
  match h : Y.1, c3, c4 with
  |y :: r, _, h4 => exact ⟨y, rfl, h4⟩
 refine am_ Tryz.func10 rfl Tryz.ntmps10 (congrArg Array.toList Tryz.results10) (by simp only [List.length_cons, List.length_nil]; decide) ?_; simp only [ah_, al_, Nat.reduceAdd]
 refine ab_ ?_
 refine aa_ kr_ ?_
 (refine aL_S rfl rfl v_ ?_)
 refine ac_ ?_
 refine ab_ ?_
 refine aa_ kr_ ?_
 iterate 2 (refine aL_S rfl rfl v_ ?_)
 refine au_ rfl rfl rfl g_ g_ rfl rfl h_ c2_ (by decide) ?_
 refine aL_X rfl rfl (ag_ rfl rfl (.inr ⟨rfl, rfl, rfl⟩) g_ va_ (kH_ (ms := [mb1, mb2]) (by decide) (by decide) (fun m hm => by rcases List.mem_cons.1 hm with rfl | hm; exact ⟨by kernel_rfl, by kernel_rfl, by kernel_rfl⟩; rw [List.mem_singleton.1 hm]; exact ⟨by kernel_rfl, by kernel_rfl, by kernel_rfl⟩) (fun k m hm => by match k, hm with | 0, hm => rfl | 1, hm => obtain rfl := Option.some.inj hm; rfl) (by show 0 < (a8_ 0 (a2_ ow0 [n1, n2])).length; rw [qb_, iE_ (by decide)]; decide) (by show ∀ s ∈ a2_ ow0 [n1, n2], s.size ≤ 1000; rw [qb_]; decide)) ?_); rintro _ _ ⟨⟨L, p1, p2, rfl⟩, rfl⟩
 obtain rfl := q6_ p1 p2
 rw [if_pos l6_, if_pos l6_]
 iterate 5 (refine aL_S rfl rfl v_ ?_)
 refine ac_ ?_
 refine ab_ ?_
 refine aa_ kr_ ?_
 iterate 3 (refine aL_S rfl rfl v_ ?_)
 refine aL_X rfl rfl (ag_ rfl rfl (.inr ⟨rfl, rfl, rfl⟩) g_ va_ (cH_ (l := l41) (t := false) (who := n1) (a := ad6) (fun x hx => (el x hx).1) (fun x hx => by have := (el x hx).2; omega) (by rw [jl_]; decide) (by decide) (oM_ (by decide) (by decide) (by decide))) ?_); rintro _ _ ⟨rfl, rfl⟩
 rw [rm_]
 iterate 5 (refine aL_S rfl rfl v_ ?_)
 refine ac_ ?_
 refine ab_ ?_
 refine aa_ kr_ ?_
 iterate 2 (refine aL_S rfl rfl v_ ?_)
 refine aL_X rfl rfl (ag_ rfl rfl (.inr ⟨rfl, rfl, rfl⟩) g_ va_ (dZ_ (a := l41) (b := [x41]) (fun x hx => (el x hx).1) ri_ (by rw [jl_]; decide) (by decide)) ?_); rintro _ _ ⟨rfl, rfl⟩
 rw [rG_]
 iterate 5 (refine aL_S rfl rfl v_ ?_)
 refine ac_ ?_
 refine ab_ ?_
 refine aa_ kr_ ?_
 iterate 2 (refine aL_S rfl rfl v_ ?_)
 refine aL_X rfl rfl (ag_ rfl rfl (.inr ⟨rfl, rfl, rfl⟩) g_ va_ (cH_ (l := m41) (t := false) (who := n1) (a := ad7) (fun x hx => (em x hx).1) (fun x hx => by have := (em x hx).2; omega) (by rw [lg_]; decide) (by decide) (oM_ (by decide) (by decide) (by decide))) ?_); rintro _ _ ⟨rfl, rfl⟩
 rw [c1, c2]
 iterate 5 (refine aL_S rfl rfl v_ ?_)
 refine ac_ ?_
 refine ab_ ?_
 refine aa_ kr_ ?_
 iterate 2 (refine aL_S rfl rfl v_ ?_)
 refine aL_X rfl rfl (ag_ rfl rfl (.inr ⟨rfl, rfl, rfl⟩) g_ va_ (cH_ (l := m41) (t := false) (who := n1) (a := ad0) (fun x hx => (em x hx).1) (fun x hx => by have := (em x hx).2; omega) (by rw [lg_]; decide) (by decide) (oM_ (by decide) (by decide) (by decide))) ?_); rintro _ _ ⟨rfl, rfl⟩
 rw [sS_]
 iterate 5 (refine aL_S rfl rfl v_ ?_)
 refine ac_ ?_
 refine ab_ ?_
 have R := And.intro jl_ (And.intro c3 (And.intro hy0 (And.intro hyv pu_)))
 refine aa_ kr_ ?_
 iterate 3 (refine aL_S rfl rfl v_ ?_)
 refine bw_ (ay_ rfl rfl v_ (by rfl)) rfl v_ ?_
 refine bw_ (ay_ rfl rfl v_ (by rfl)) rfl v_ ?_
 iterate 2 (refine aL_S rfl rfl v_ ?_)
 refine bw_ (ay_ rfl rfl v_ (by rfl)) rfl v_ ?_
 refine bw_ (ay_ rfl rfl v_ (by rfl)) rfl v_ ?_
 iterate 2 (refine aL_S rfl rfl v_ ?_)
 refine bw_ (ay_ rfl rfl v_ (by rfl)) rfl v_ ?_
 refine bw_ (ay_ rfl rfl v_ (by rfl)) rfl v_ ?_
 iterate 2 (refine aL_S rfl rfl v_ ?_)
 refine bw_ (ay_ rfl rfl v_ (by rfl)) rfl v_ ?_
 refine bw_ (ay_ rfl rfl v_ (by rfl)) rfl v_ ?_
 iterate 2 (refine aL_S rfl rfl v_ ?_)
 refine bw_ (ay_ rfl rfl v_ (by rfl)) rfl v_ ?_
 refine bw_ (ay_ rfl rfl v_ (by rfl)) rfl v_ ?_
 refine bw_ (ay_ rfl rfl v_ (by rfl)) rfl v_ ?_
 iterate 2 (refine aL_S rfl rfl v_ ?_)
 refine bw_ (ay_ rfl rfl v_ (by rfl)) rfl v_ ?_
 refine bw_ (ay_ rfl rfl v_ (by rfl)) rfl v_ ?_
 refine bw_ (ay_ rfl rfl v_ (by rfl)) rfl v_ ?_
 iterate 2 (refine aL_S rfl rfl v_ ?_)
 refine bw_ (ay_ rfl rfl v_ (by rfl)) rfl v_ ?_
 refine bw_ (ay_ rfl rfl v_ (by rfl)) rfl v_ ?_
 refine bw_ (ay_ rfl rfl v_ (by rfl)) rfl v_ ?_
 refine bw_ (ay_ rfl rfl v_ (by rfl)) rfl v_ ?_
 refine bw_ (ay_ rfl rfl v_ (by rfl)) rfl v_ ?_
 refine bw_ (ay_ rfl rfl v_ (by rfl)) rfl v_ ?_
 iterate 2 (refine aL_S rfl rfl v_ ?_)
 refine bw_ (ay_ rfl rfl v_ (by rfl)) rfl v_ ?_
 refine bw_ (ay_ rfl rfl v_ (by rfl)) rfl v_ ?_
 refine bw_ (ay_ rfl rfl v_ (by rfl)) rfl v_ ?_
 iterate 2 (refine aL_S rfl rfl v_ ?_)
 refine bw_ (ay_ rfl rfl v_ (by rfl)) rfl v_ ?_
 refine bw_ (ay_ rfl rfl v_ (by rfl)) rfl v_ ?_
 refine bw_ (ay_ rfl rfl v_ (by rfl)) rfl v_ ?_
 refine bw_ (ay_ rfl rfl v_ (by rfl)) rfl v_ ?_
 refine bw_ (ay_ rfl rfl v_ (by rfl)) rfl v_ ?_
 refine bw_ (ay_ rfl rfl v_ (by rfl)) rfl v_ ?_
 iterate 2 (refine aL_S rfl rfl v_ ?_)
 refine ac_ ?_
 refine aj_ ?_
 refine ai_ (σ' := σ) v_ sub_ ?_
 exact ⟨rfl, rfl⟩
end Go.Proofs.YtkcmbjodladflaaGreatDoor
end

section
set_option linter.all false
set_option maxRecDepth 100000
namespace Go.Proofs.YtkcmbjodladflaaGreatDoor
open Go.Ab
structure SetOk (l : List Ent) (who k v : ByteArray) (y : Ent) : Prop where
 key : y.key = k
 who : y.who = who
 value : y.value = v
 newer : bF_ y (getS l k) = true
 ok : bA_ y = true
theorem gF_ {l : List Ent} {who k v : ByteArray} (h : (setS l who k v).2 = 0) : SetOk l who k v (setS l who k v).1 := by
 unfold setS at h ⊢
 split at h
 ·cases h
 ·rename_i h1
  split at h
  ·rename_i h2; exact absurd h h2
  ·rename_i h2
   rw [if_neg h1, if_neg h2]
   have h2' : (cJ_ (getS l k) who v).2 = 0 := by simpa using h2
   unfold cJ_ at h2' ⊢
   split at h2'
   ·cases h2'
   ·rename_i h3
    split at h2'
    ·cases h2'
    ·rename_i h4
     rw [if_neg h3, if_neg h4]
     simp only [Bool.or_eq_true, Bool.and_eq_true, Bool.not_eq_true', decide_eq_true_eq, not_or, not_and, Bool.not_eq_false] at h1 h3
     obtain ⟨⟨h11, h12⟩, h13⟩ := h1
     obtain ⟨⟨h31, h32⟩, h33⟩ := h3
     have hn0 : 0 ≤ (getS l k).n := by
      cases hz : regZ (getS l k) with
      |true => unfold regZ at hz; simp only [Bool.and_eq_true, decide_eq_true_eq] at hz; omega
      |false => have := lf_ (h31 hz); omega
     refine ⟨rfl, rfl, rfl, ?_, ?_⟩
     ·unfold bF_
      simp only
      rw [if_pos (by omega)]
      exact decide_eq_true (by omega)
     ·unfold bA_ cy_
      simp only
      rw [h32]
      simp only [Bool.and_eq_true, Bool.or_true, decide_eq_true_eq]
      exact ⟨⟨by omega, by omega⟩, ⟨⟨by omega, by omega⟩, trivial⟩, by omega⟩
theorem oY_ {y : Ent} (hy : bA_ y = true) : ∀ {l : List Ent} {pv : Option ByteArray}, upGo bA_ Ent.key pv l = true → ep_ pv y.key = true → upGo bA_ Ent.key pv (putS y l) = true
 |[], pv, _, ha => by simp [putS, upGo, hy, ha]
 |x :: l, pv, h, ha => by
  unfold upGo at h
  simp only [Bool.and_eq_true] at h
  obtain ⟨⟨h1, h2⟩, h3⟩ := h
  unfold putS
  split
  ·rename_i hlt
   unfold upGo
   rw [h1, h2, oY_ hy h3 hlt]; rfl
  ·rename_i hlt
   split
   ·rename_i he
    split
    ·unfold upGo
     rw [hy, ha, ← he, h3]; rfl
    ·unfold upGo
     rw [h1, h2, h3]; rfl
   ·rename_i he
    have : sLt y.key x.key = true := dB_ (by simpa using hlt) he
    unfold upGo upGo
    rw [hy, ha, h1, h3, show ep_ (some y.key) x.key = true from this]; rfl
theorem kj_ {y : Ent} {l : List Ent} (hy : bA_ y = true) (h : aO_ l = true) (hl : l.length < 4096) : aO_ (putS y l) = true := by
 unfold aO_ at h ⊢
 simp only [Bool.and_eq_true, decide_eq_true_eq] at h ⊢
 have := cY_ y l
 exact ⟨by omega, oY_ hy h.2 rfl⟩
theorem lI_ {y : Ent} : ∀ {l : List Ent}, bF_ y (getS l y.key) = true → getS (putS y l) y.key = y
 |[], _ => by simp [putS, getS]
 |x :: l, h => by
  unfold putS
  split
  ·rename_i hlt
   have hne : ¬ x.key = y.key := fun e => by rw [e, bh_] at hlt; cases hlt
   have e1 : getS (x :: l) y.key = getS l y.key := by unfold getS; rw [List.find?_cons, decide_eq_false hne]
   have e2 : getS (x :: putS y l) y.key = getS (putS y l) y.key := by unfold getS; rw [List.find?_cons, decide_eq_false hne]
   rw [e1] at h
   rw [e2]; exact lI_ h
  ·split
   ·rename_i he
    have e1 : getS (x :: l) y.key = x := by unfold getS; rw [List.find?_cons, decide_eq_true he]; rfl
    rw [e1] at h
    rw [if_pos h]
    unfold getS; rw [List.find?_cons, decide_eq_true rfl]; rfl
   ·unfold getS; rw [List.find?_cons, decide_eq_true rfl]; rfl
structure PutsOk (l xs : List Ent) : Prop where
 ok : ∀ x ∈ xs, bA_ x = true ∧ bF_ x (getS l x.key) = true
 apart : (xs.map Ent.key).Nodup
theorem ff_ {xs : List Ent} {k : ByteArray} : ∀ {l : List Ent}, (∀ x ∈ xs, x.key ≠ k) → getS (jnS l xs) k = getS l k := by
 induction xs with
 |nil => intro l _; rfl
 |cons x xs ih =>
  intro l h
  have : jnS l (x :: xs) = jnS (putS x l) xs := rfl
  rw [this, ih fun y hy => h y (.tail _ hy), hd_ (h x (.head _))]
theorem PutsOk.tail {l xs : List Ent} {x : Ent} (h : PutsOk l (x :: xs)) : PutsOk (putS x l) xs := by
 have hn := h.apart
 rw [List.map_cons, List.nodup_cons] at hn
 refine ⟨fun y hy => ?_, hn.2⟩
 have h1 := h.ok y (.tail _ hy)
 have hne : x.key ≠ y.key := fun e => hn.1 (by rw [e]; exact List.mem_map_of_mem hy)
 rw [hd_ hne]; exact h1
theorem rU_ {xs : List Ent} : ∀ {l : List Ent}, PutsOk l xs → ∀ x ∈ xs, getS (jnS l xs) x.key = x := by
 induction xs with
 |nil => intro l _ x hx; cases hx
 |cons y xs ih =>
  intro l h x hx
  have e : jnS l (y :: xs) = jnS (putS y l) xs := rfl
  rw [e]
  rcases List.mem_cons.1 hx with rfl | hx
  ·have hn := h.apart
   rw [List.map_cons, List.nodup_cons] at hn
   rw [ff_ fun z hz e => hn.1 (by rw [← e]; exact List.mem_map_of_mem hz)]
   exact lI_ (h.ok x (.head _)).2
  ·exact ih h.tail x hx
theorem rT_ {xs : List Ent} : ∀ {l : List Ent}, PutsOk l xs → aO_ l = true → l.length + xs.length < 4096 → aO_ (jnS l xs) = true := by
 induction xs with
 |nil => intro l _ h _; exact h
 |cons y xs ih =>
  intro l h hl hn
  have e : jnS l (y :: xs) = jnS (putS y l) xs := rfl
  rw [e]
  rw [List.length_cons] at hn
  have := cY_ y l
  exact ih h.tail (kj_ (h.ok y (.head _)).1 hl (by omega)) (by omega)
theorem PutsOk.take {l xs : List Ent} (h : PutsOk l xs) (k : Nat) : PutsOk l (xs.take k) :=
 ⟨fun x hx => h.ok x (List.mem_of_mem_take hx), by rw [List.map_take]; exact h.apart.sublist (List.take_sublist ..)⟩
theorem iS_ {l : List Ent} {who : ByteArray} : ∀ (ms : List Mv) (s : List Ent × Int), (ms.foldl (fun s x => bX_ s (setS l who (aY_ x.part) x.now)) s).2 = 0 → s.2 = 0 ∧ (ms.foldl (fun s x => bX_ s (setS l who (aY_ x.part) x.now)) s).1 = s.1 ++ ms.map (fun x => (setS l who (aY_ x.part) x.now).1) ∧ ∀ x ∈ ms, (setS l who (aY_ x.part) x.now).2 = 0
 |[], s, h => ⟨h, by simp, fun x hx => by cases hx⟩
 |x :: ms, s, h => by
  rw [List.foldl_cons] at h ⊢
  obtain ⟨h1, h2, h3⟩ := iS_ ms _ h
  unfold bX_ at h1 h2
  split at h1
  ·rename_i hs
   rw [if_pos hs] at h2
   unfold bX_
   rw [if_pos hs]
   refine ⟨hs, by rw [h2]; simp, fun y hy => ?_⟩
   rcases List.mem_cons.1 hy with rfl | hy
   ·exact h1
   ·exact h3 y hy
  ·rename_i hs
   exact absurd h1 hs
theorem gC_ : ∀ {a b : List ByteArray} {j : Nat}, (bg_ j a b).Pairwise fun x y => x.part < y.part
 |[], b, j => by unfold bg_; exact .nil
 |u :: a, [], j => by unfold bg_; exact .nil
 |u :: a, v :: b, j => by
  have ih := gC_ (a := a) (b := b) (j := j + 1)
  unfold bg_
  split
  ·exact ih
  ·exact List.pairwise_cons.2 ⟨fun y hy => by have := (d6_ hy).1; show j < y.part; omega, ih⟩
theorem g6_ : ∀ i < 16, ∀ j < 16, gm_ i = gm_ j → i = j := by decide
end Go.Proofs.YtkcmbjodladflaaGreatDoor
end

section
set_option linter.all false
set_option maxRecDepth 100000
namespace Go.Proofs.YtkcmbjodladflaaGreatDoor
open Go.Ab
structure AdPuts (l : List Ent) (who : ByteArray) (xs : List Ent) : Prop where
 puts : PutsOk l xs
 all : ∀ x ∈ xs, x.who = who
 few : xs.length ≤ 16
theorem kA_ {l : List Ent} {who : ByteArray} (h : (clMv l who (bP_ l)).2 = 0) : AdPuts l who (clMv l who (bP_ l)).1 := by
 unfold clMv at h ⊢
 obtain ⟨_, h2, h3⟩ := iS_ (bP_ l) ([], 0) h
 rw [h2, List.nil_append]
 refine ⟨⟨fun x hx => ?_, ?_⟩, fun x hx => ?_, ?_⟩
 ·obtain ⟨y, hy, rfl⟩ := List.mem_map.1 hx
  have := gF_ (h3 y hy)
  exact ⟨this.ok, by rw [this.key]; exact this.newer⟩
 ·rw [List.map_map]
  have hp : (bP_ l).Pairwise fun x y => x.part < y.part := gC_
  unfold List.Nodup
  rw [List.pairwise_map]
  refine List.Pairwise.imp_of_mem ?_ hp
  intro a b ha hb hab he
  have ea : (setS l who (aY_ a.part) a.now).1.key = aY_ a.part := (gF_ (h3 a ha)).key
  have eb : (setS l who (aY_ b.part) b.now).1.key = aY_ b.part := (gF_ (h3 b hb)).key
  have h1 := e7_ ha; have h2 := e7_ hb
  simp only [Function.comp] at he
  rw [ea, eb, cD_ (by omega), cD_ (by omega)] at he
  have := g6_ _ h1 _ h2 he
  omega
 ·obtain ⟨y, hy, rfl⟩ := List.mem_map.1 hx
  exact (gF_ (h3 y hy)).who
 ·rw [List.length_map]
  have := do_ 0 (aD_ l 16) (a2_ (aD_ l 16) (nmsS l))
  rw [show (aD_ l 16).length = 16 by simp [aD_]] at this
  exact this
end Go.Proofs.YtkcmbjodladflaaGreatDoor
end

section
set_option linter.all false
set_option maxRecDepth 100000
namespace Go.Proofs.YtkcmbjodladflaaGreatDoor
open Go.Ab
theorem rt_ {s : ByteArray} {σ : Store} (hs : s.size ≤ 9223372036854775807) : ap_ Tryz.prog 18 [vStr s] σ fun v σ' => v = .lit (.bool (aN_ s)) ∧ σ = σ' := by
 refine am_ Tryz.func18 rfl Tryz.ntmps18 (congrArg Array.toList Tryz.results18) (by simp only [List.length_cons, List.length_nil]; decide) ?_; simp only [ah_, al_, Nat.reduceAdd]
 refine ab_ ?_
 refine aa_ kr_ ?_
 (refine aL_S rfl rfl v_ ?_)
 refine ac_ ?_
 refine ab_ ?_
 refine ab_ ?_
 refine aa_ kr_ ?_
 (refine aL_S rfl rfl v_ ?_)
 refine ac_ ?_
 refine ak_ ?_
 refine ao_ (ι := Nat) (fun p => s.size - p) (fun p => p ≤ s.size ∧ ((Lb s).take p).all letB = true) (fun p => [(0, vStr s), (3, vInt p)]) (fun p => σ) 0 ?_ ?_ ?_ ?_
 ·exact ⟨Nat.zero_le _, rfl⟩
 ·exact cv_
 ·exact sub_
 rintro p ⟨hp, ha⟩
 simp only [ar_, as_]
 refine ab_ ?_
 refine ab_ ?_
 refine aa_ kr_ ?_
 iterate 4 (refine aL_S rfl rfl v_ ?_)
 refine ac_ ?_
 refine ad_ v_ (fun hc2 => ?_) (fun hc2 => ?_)
 ·replace hc2 := nm_ hc2
  refine ae_ ?_
  refine ab_ ?_
  refine ak_ ?_
  refine ab_ ?_
  have hp' : p < s.size := by omega
  have hg := gH_ hp'
  have hg2 : s[p]? = some (s[p]'hp') := getElem?_pos s p hp'
  obtain ⟨c, hc⟩ : ∃ c, s[p]'hp' = c := ⟨_, rfl⟩
  rw [hc] at hg hg2
  have hcl := jL_ c
  have R := hg2
  refine aa_ kr_ ?_
  iterate 5 (refine aL_S rfl rfl v_ ?_)
  refine aw_ rfl rfl v_ rfl vg_ ?_
  refine aw_ rfl rfl v_ rfl vg_ ?_
  refine aw_ rfl rfl v_ rfl vg_ ?_
  refine aw_ rfl rfl v_ rfl vg_ ?_
  iterate 2 (refine aL_S rfl rfl v_ ?_)
  refine aC_ rfl rfl v_ rfl vg_ ?_
  refine aC_ rfl rfl v_ rfl vg_ ?_
  refine aC_ rfl rfl v_ rfl vg_ ?_
  refine aC_ rfl rfl v_ rfl vg_ ?_
  refine aC_ rfl rfl v_ rfl vg_ ?_
  refine eg_ rfl rfl v_ rfl vg_ ?_
  refine eg_ rfl rfl v_ rfl vg_ ?_
  refine eg_ rfl rfl v_ rfl vg_ ?_
  refine eg_ rfl rfl v_ rfl vg_ ?_
  refine aC_ rfl rfl v_ rfl vg_ ?_
  iterate 2 (refine aL_S rfl rfl v_ ?_)
  refine aC_ rfl rfl v_ rfl vg_ ?_
  refine aC_ rfl rfl v_ rfl vg_ ?_
  refine aC_ rfl rfl v_ rfl vg_ ?_
  refine aC_ rfl rfl v_ rfl vg_ ?_
  (refine aL_S rfl rfl v_ ?_)
  refine ac_ ?_
  refine ad_ v_ (fun hc4 => ?_) (fun hc4 => ?_)
  ·replace hc4 := nm_ hc4
   skip
   have hlf : letB c = false := by
    cases h : letB c with
    |false => rfl
    |true => rw [hcl] at h; omega
   refine ab_ ?_
   refine aa_ kr_ ?_
   (refine aL_S rfl rfl v_ ?_)
   refine ac_ ?_
   refine aj_ ?_
   refine ai_ (σ' := σ) v_ sub_ ?_
   refine ⟨?_, rfl⟩
   simp only [aN_]
   rw [jb_ letB hg hlf]; simp
  ·replace hc4 := nm_ hc4
   have hnx := ct_ letB hg ha (hcl.2 (by omega))
   refine ae_ ?_
   refine aa_ kr_ ?_
   iterate 3 (refine aL_S rfl rfl v_ ?_)
   refine ac_ ?_
   refine aI_ (ι := Nat) (i := p) (p + 1) ?_ ?_ ?_ ?_
   ·omega
   ·exact ⟨by omega, hnx⟩
   ·exact cv_
   ·exact sub_
 ·replace hc2 := nm_ hc2
  refine av_ ?_
  refine af_ ?_
  refine af_ ?_
  refine aq_ ?_
  refine ab_ ?_
  refine aa_ kr_ ?_
  iterate 4 (refine aL_S rfl rfl v_ ?_)
  refine aC_ rfl rfl v_ rfl vg_ ?_
  refine aC_ rfl rfl v_ rfl vg_ ?_
  refine aC_ rfl rfl v_ rfl vg_ ?_
  iterate 2 (refine aL_S rfl rfl v_ ?_)
  refine ac_ ?_
  refine aj_ ?_
  refine ai_ (σ' := σ) v_ sub_ ?_
  refine ⟨?_, rfl⟩
  obtain rfl : p = s.size := by omega
  rw [List.take_of_length_le (by rw [aH_]; exact Nat.le_refl _)] at ha
  simp only [aN_]
  rw [ha, Bool.and_true]
  congr 2
  rw [Bool.eq_iff_iff]; simp; omega
end Go.Proofs.YtkcmbjodladflaaGreatDoor
end

section
set_option linter.all false
set_option maxRecDepth 100000
namespace Go.Proofs.YtkcmbjodladflaaGreatDoor
open Go.Ab
def id_ (l : List Mbr) (n : Nat) : Bool := decide (l.length ≤ n) && l.all fun x => decide (x.name.size ≤ 100) && (decide (x.rack.size ≤ 100) && decide (x.zone.size ≤ 100))
theorem jN_ {l : List Mbr} {n : Nat} {t : Bool} {σ : Store} (hn : n ≤ 1000000) : ap_ Tryz.prog 14 [.sl 4 (l.map sMbr) t, vInt n] σ fun v σ' => v = vB (id_ l n) ∧ σ = σ' := by
 refine am_ Tryz.func14 rfl Tryz.ntmps14 (congrArg Array.toList Tryz.results14) (by simp only [List.length_cons, List.length_nil]; decide) ?_; simp only [ah_, al_, Nat.reduceAdd]
 refine ab_ ?_
 refine aa_ kr_ ?_
 (refine aL_S rfl rfl v_ ?_)
 refine ac_ ?_
 refine ab_ ?_
 refine ab_ ?_
 refine aa_ kr_ ?_
 (refine aL_S rfl rfl v_ ?_)
 refine ac_ ?_
 refine ak_ ?_
 refine ao_ (ι := Nat) (fun k => l.length - k) (fun k => k ≤ l.length ∧ k ≤ n ∧ (l.take k).all (fun x => decide (x.name.size ≤ 100) && (decide (x.rack.size ≤ 100) && decide (x.zone.size ≤ 100))) = true) (fun k => [(0, .sl 4 (l.map sMbr) t), (1, vInt n), (5, vInt k)]) (fun k => σ) 0 ?_ ?_ ?_ ?_
 ·exact ⟨Nat.zero_le _, Nat.zero_le _, rfl⟩
 ·exact cv_
 ·exact sub_
 rintro k ⟨hk, hk2, ha⟩
 simp only [ar_, as_]
 refine ab_ ?_
 refine ab_ ?_
 refine aa_ kr_ ?_
 iterate 5 (refine aL_S rfl rfl v_ ?_)
 refine aC_ rfl rfl v_ rfl vg_ ?_
 refine aC_ rfl rfl v_ rfl vg_ ?_
 refine aC_ rfl rfl v_ rfl vg_ ?_
 (refine aL_S rfl rfl v_ ?_)
 refine ac_ ?_
 refine ad_ v_ (fun hc2 => ?_) (fun hc2 => ?_)
 ·replace hc2 := nm_ hc2
  refine ae_ ?_
  refine ab_ ?_
  refine ak_ ?_
  refine ab_ ?_
  obtain ⟨x, hx⟩ := aA_ (l := l) (k := k) (by omega)
  have R := hx
  refine aa_ kr_ ?_
  iterate 8 (refine aL_S rfl rfl v_ ?_)
  refine aw_ rfl rfl v_ rfl vg_ ?_
  refine aw_ rfl rfl v_ rfl vg_ ?_
  refine aw_ rfl rfl v_ rfl vg_ ?_
  refine aw_ rfl rfl v_ rfl vg_ ?_
  refine aw_ rfl rfl v_ rfl vg_ ?_
  refine aw_ rfl rfl v_ rfl vg_ ?_
  refine aw_ rfl rfl v_ rfl vg_ ?_
  iterate 2 (refine aL_S rfl rfl v_ ?_)
  refine aw_ rfl rfl v_ rfl vg_ ?_
  refine aw_ rfl rfl v_ rfl vg_ ?_
  refine aw_ rfl rfl v_ rfl vg_ ?_
  refine aw_ rfl rfl v_ rfl vg_ ?_
  refine aw_ rfl rfl v_ rfl vg_ ?_
  refine aw_ rfl rfl v_ rfl vg_ ?_
  refine aw_ rfl rfl v_ rfl vg_ ?_
  (refine aL_S rfl rfl v_ ?_)
  refine ac_ ?_
  refine ad_ v_ (fun hc4 => ?_) (fun hc4 => ?_)
  ·replace hc4 := nm_ hc4
   refine ab_ ?_
   refine aa_ kr_ ?_
   (refine aL_S rfl rfl v_ ?_)
   refine ac_ ?_
   refine aj_ ?_
   refine ai_ (σ' := σ) v_ sub_ ?_
   exact ⟨by rw [id_, pf_ hx (by rcases hc4 with (h | h) | h <;> simp <;> omega)], rfl⟩
  ·replace hc4 := nm_ hc4
   refine ae_ ?_
   refine aa_ kr_ ?_
   iterate 3 (refine aL_S rfl rfl v_ ?_)
   refine ac_ ?_
   refine aI_ (ι := Nat) (i := k) (k + 1) ?_ ?_ ?_ ?_
   ·omega
   ·exact ⟨by omega, by omega, kq_ hx (by simp only [Bool.and_eq_true, decide_eq_true_eq]; omega) ha⟩
   ·exact cv_
   ·exact sub_
 ·replace hc2 := nm_ hc2
  refine av_ ?_
  refine af_ ?_
  refine af_ ?_
  refine aq_ ?_
  refine ab_ ?_
  refine aa_ kr_ ?_
  iterate 5 (refine aL_S rfl rfl v_ ?_)
  refine ac_ ?_
  refine aj_ ?_
  refine ai_ (σ' := σ) v_ sub_ ?_
  exact ⟨by rw [id_, ← mR_ ha hk (by omega)], rfl⟩
def l1_ (a : Adm) : Bool := decide (a.ten.size ≤ 100) && decide (a.bkt.size ≤ 100) && decide (a.fld.size ≤ 100) && decide (a.txt.size ≤ 300) && id_ [a.m] 1
theorem pU_ {a : Adm} {σ : Store} : ap_ Tryz.prog 9 [sAdm a] σ fun v σ' => v = vB (l1_ a) ∧ σ = σ' := by
 refine am_ Tryz.func9 rfl Tryz.ntmps9 (congrArg Array.toList Tryz.results9) (by simp only [List.length_cons, List.length_nil]; decide) ?_; simp only [ah_, al_, Nat.reduceAdd]
 refine ab_ ?_
 refine aa_ kr_ ?_
 refine bj_ rfl rfl rfl v_ rfl g_ fun o1 ho1 => ?_
 repeat (rw [an_] at ho1; obtain ⟨_, ho1⟩ := ho1)
 (refine aL_S rfl rfl v_ ?_)
 refine ac_ ?_
 refine ab_ ?_
 refine aa_ kr_ ?_
 iterate 5 (refine aL_S rfl rfl v_ ?_)
 refine aC_ rfl rfl v_ rfl vg_ ?_
 refine aC_ rfl rfl v_ rfl vg_ ?_
 refine aC_ rfl rfl v_ rfl vg_ ?_
 refine aC_ rfl rfl v_ rfl vg_ ?_
 iterate 2 (refine aL_S rfl rfl v_ ?_)
 refine aC_ rfl rfl v_ rfl vg_ ?_
 refine aC_ rfl rfl v_ rfl vg_ ?_
 refine aC_ rfl rfl v_ rfl vg_ ?_
 refine aC_ rfl rfl v_ rfl vg_ ?_
 iterate 2 (refine aL_S rfl rfl v_ ?_)
 refine aC_ rfl rfl v_ rfl vg_ ?_
 refine aC_ rfl rfl v_ rfl vg_ ?_
 refine aC_ rfl rfl v_ rfl vg_ ?_
 refine aC_ rfl rfl v_ rfl vg_ ?_
 iterate 2 (refine aL_S rfl rfl v_ ?_)
 refine aC_ rfl rfl v_ rfl vg_ ?_
 refine aC_ rfl rfl v_ rfl vg_ ?_
 refine ee_ (b := (decide ((a.ten.size : Int) ≤ 100) && decide ((a.bkt.size : Int) ≤ 100) && decide ((a.fld.size : Int) ≤ 100) && decide ((a.txt.size : Int) ≤ 300))) rfl rfl va_ rfl (a := .sl 4 [sMbr a.m] true) (fun hb => aU_ (l := [sMbr a.m]) (by rfl) g_ g_ (by rfl) (by rfl) vh_ (by simp [go_sem, hb, gval, AVal.one, AVal.cells, AVal.solid]) (by decide) ⟨rfl, rfl⟩) ?_
 refine ee_ rfl rfl v_ rfl (fun hb => aG_ (by rfl) (by rfl) (.inr ⟨by rfl, by rfl, by rfl⟩) g_ cg_ (jN_ (l := [a.m]) (n := 1) (by decide))) ?_
 iterate 2 (refine aL_S rfl rfl v_ ?_)
 refine ac_ ?_
 refine aj_ ?_
 refine ai_ (σ' := σ) v_ sub_ ?_
 refine ⟨?_, rfl⟩
 unfold l1_
 by_cases h1 : a.ten.size ≤ 100 <;> by_cases h2 : a.bkt.size ≤ 100 <;> by_cases h3 : a.fld.size ≤ 100 <;> by_cases h4 : a.txt.size ≤ 300 <;> simp [h1, h2, h3, h4] <;> omega
end Go.Proofs.YtkcmbjodladflaaGreatDoor
end

section
set_option linter.all false
set_option maxRecDepth 100000
namespace Go.Proofs.YtkcmbjodladflaaGreatDoor
open Go.Ab
theorem hM_ {s : ByteArray} (h : aN_ s = true) : s.size ≤ 16 := by
 simp only [aN_, Bool.and_eq_true, decide_eq_true_eq] at h
 omega
theorem rV_ {x : Ent} (h : bA_ x = true) : EntSm x := by
 unfold bA_ cy_ at h
 simp only [Bool.and_eq_true, Bool.or_eq_true, decide_eq_true_eq] at h
 obtain ⟨⟨h1, h2⟩, ⟨⟨h3, h4⟩, h5⟩, h6⟩ := h
 have hw : x.who.size ≤ 16 := by
  rcases h5 with h5 | h5
  ·omega
  ·exact hM_ h5
 exact ⟨by omega, by omega, by omega⟩
theorem q8_ {L : List Ent} {x : Ent} (h : aO_ L = true) (hx : bA_ x = true) (hn : L.length < 4096) : putE L x = (putS x L, 0) := by
 have := cY_ x L
 rw [putE, h, hx, if_neg (by simp), if_neg (by omega)]
end Go.Proofs.YtkcmbjodladflaaGreatDoor
end

section
set_option linter.all false
set_option maxRecDepth 100000
namespace Go.Proofs.YtkcmbjodladflaaGreatDoor
open Go.Ab
abbrev s2_ : Go.Ab.Sh := .pair (.int .i64) (.pair .str (.pair .str (.pair .str (.pair .str (.pair (.int .i64) (.pair (.pair .str (.pair .str (.pair .str (.pair .bool .unit)))) .unit))))))
theorem mn_ {a : AVal} (h : Sh.okv .str false a) : ∃ s : ByteArray, a = vStr s ∧ s.size ≤ 9223372036854775807 := by
 obtain ⟨c, ⟨s, rfl, hs⟩, e⟩ := h
 simp only [Bool.false_eq_true, if_false, List.cons.injEq, and_true] at e
 exact ⟨s, e.symm, Nat.le_trans hs (by decide)⟩
theorem rj_ {a : AVal} (h : Sh.okv s2_ true a) : ∃ x : Adm, a = sAdm x ∧ -9223372036854775808 ≤ x.n ∧ x.n ≤ 9223372036854775807 := by
 obtain ⟨c, ⟨_, _, rfl, ⟨k, rfl, _⟩, _, _, rfl, ⟨s0, rfl, _⟩, _, _, rfl, ⟨s1, rfl, _⟩, _, _, rfl, ⟨s2, rfl, _⟩, _, _, rfl, ⟨s3, rfl, _⟩, _, _, rfl, ⟨n, rfl, hn⟩, _, _, rfl, ⟨_, _, rfl, ⟨m0, rfl, _⟩, _, _, rfl, ⟨m1, rfl, _⟩, _, _, rfl, ⟨m2, rfl, _⟩, _, _, rfl, ⟨b, rfl⟩, rfl⟩, rfl⟩, e⟩ := h
 simp only [if_true] at e
 simp only [Lit.wf, Bool.and_eq_true, decide_eq_true_eq] at hn
 exact ⟨⟨k, s0, s1, s2, s3, n, ⟨m0, m1, m2, b⟩⟩, by rw [e]; rfl, Int.le_trans (by decide) hn.1, Int.le_trans hn.2 (by decide)⟩
theorem rw_ {c : List AVal} (h : (Go.Ab.Sh.pair .str (.pair .str (.pair .str (.pair .bool .unit)))).ok c) : ∃ x : Mbr, .agg c = sMbr x := by
 obtain ⟨_, _, rfl, ⟨s, rfl, _⟩, _, _, rfl, ⟨t, rfl, _⟩, _, _, rfl, ⟨v, rfl, _⟩, _, _, rfl, ⟨b, rfl⟩, rfl⟩ := h
 exact ⟨⟨s, t, v, b⟩, rfl⟩
theorem qB_ {a : AVal} (h : Go.Ab.Sh.okv (.sl true (.pair .str (.pair .str (.pair .str (.pair .bool .unit))))) false a) : ∃ l : List Mbr, a = .sl 4 (l.map sMbr) false := by
 obtain ⟨c, hc, e⟩ := h
 obtain ⟨l, rfl⟩ := ru_ sMbr (fun c hc => rw_ hc) hc
 simp only [Bool.false_eq_true, if_false, List.cons.injEq, and_true] at e
 exact ⟨l, e.symm⟩
end Go.Proofs.YtkcmbjodladflaaGreatDoor
end
