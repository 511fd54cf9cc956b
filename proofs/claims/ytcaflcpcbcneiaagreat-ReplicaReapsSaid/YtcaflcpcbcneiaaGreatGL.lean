/-
  Replay of books, both sides; A book's bytes; What must come, whatever the arguments are: books; BookRecords, BookApplies, BookBack; BookBack; Objects: what must come, whatever the arguments are. Own work (an AI agent).
-/
import Derived.Test.YtcaflcpcbcneiaaGreatGK
import Derived.Test.YtcaflcpcbcneiaaGreatGG
import Derived.Test.YtcaflcpcbcneiaaGreatGF
import Derived.Test.YtcaflcpcbcneiaaGreatGH

section
set_option linter.all false
set_option maxRecDepth 100000
namespace Go.Proofs.YtcaflcpcbcneiaaGreat
open Go.Ab
structure BkN (n : Nat) (b : Bk) : Prop where
 items : ∀ x ∈ b.items, ItemSm x
 mints : ∀ x ∈ b.mints, x.place.size ≤ 1000000
 ni : b.items.length ≤ n
 nm : b.mints.length ≤ n
theorem BkN.sm {n : Nat} {b : Bk} (h : BkN n b) (hn : n ≤ 100000) : BkSm b := ⟨h.items, h.mints, Nat.le_trans h.ni hn, Nat.le_trans h.nm hn⟩
theorem BkN.apl {n : Nat} {b : Bk} {r : List UInt8} (h : BkN n b) (ho : ObjSm (bf_ (hdX r)).1) : BkN (n + 1) (apl b r).1 := by
 have h1 := h.ni; have h2 := h.nm
 have hb : BkN (n + 1) b := ⟨h.items, h.mints, by omega, by omega⟩
 unfold Go.Proofs.YtcaflcpcbcneiaaGreat.apl
 split
 ·rename_i hp
  have hs := bo_ hp
  split
  ·refine ⟨fun x hx => ?_, h.mints, Nat.le_trans g9_ (by omega), by show b.mints.length ≤ n + 1; omega⟩
   rcases dD_ hx with rfl | hx
   ·exact ⟨by show (hdP r).size ≤ 1000000; omega, ho⟩
   ·exact h.items x hx
  ·split
   ·exact ⟨fun x hx => h.items x ((List.mem_filter.1 hx).1), h.mints, Nat.le_trans (List.length_filter_le ..) (by omega), by show b.mints.length ≤ n + 1; omega⟩
   ·split
    ·refine ⟨h.items, fun x hx => ?_, by show b.items.length ≤ n + 1; omega, Nat.le_trans g9_ (by omega)⟩
     rcases dD_ hx with rfl | hx
     ·show (hdP r).size ≤ 1000000; omega
     ·exact h.mints x hx
    ·exact hb
 ·exact hb
theorem bkN0 (n : Nat) : BkN n bk0 := ⟨fun x hx => absurd hx List.not_mem_nil, fun x hx => absurd hx List.not_mem_nil, Nat.zero_le _, Nat.zero_le _⟩
theorem BkN.le {n m : Nat} {b : Bk} (h : BkN n b) (hn : n ≤ m) : BkN m b := ⟨h.items, h.mints, Nat.le_trans h.ni hn, Nat.le_trans h.nm hn⟩
theorem fE_ (l : List (List UInt8)) : (vBs l).length = l.length := by simp [vBs]
theorem ep_ (x : Rd) (n : Nat) : (aW_ x n).2.1.length ≤ x.1.length := by
 unfold aW_; split
 ·simp
 ·exact Nat.le_refl _
theorem nU_ (x : Rd) (m : Nat) : (bu_ x m).2.1.length ≤ x.1.length := by
 unfold bu_; split
 ·exact ep_ x 4
 ·exact ep_ x 4
theorem tp_ (r : List UInt8) : (hdX r).1.length ≤ r.length := by
 unfold hdX as_
 exact Nat.le_trans (ep_ _ _) (Nat.le_trans (nU_ _ _) (ep_ (r, true) 1))
theorem vX_ {r : List UInt8} (h : r.length ≤ 4000) : ObjSm (bf_ (hdX r)).1 := rz_ (Nat.le_trans (tp_ r) h)
theorem tU_ {x : Itm} (hp : aH_ x.place = true) (hr : ObjRt x.obj) (hs : ObjSm x.obj) : ObjSm (bf_ (hdX (recI x))).1 := by
 obtain ⟨_, _, e3⟩ := sA_ (k := 1) (l := objB x.obj) (p := x.place) (by have := bo_ hp; omega)
 have e4 := kC_ hr []
 rw [List.append_nil] at e4
 have f3 : hdX (recI x) = (objB x.obj, true) := e3
 rw [f3, e4]; exact hs
def sA : Seen := ⟨⟨#[97]⟩, 1, []⟩
def pA : ByteArray := ⟨#[98, 47, 107]⟩
def rD : List UInt8 := ln_ pA
theorem gV_ : aH_ pA = true := by decide +kernel
theorem q2_ : eG_ pA = (rD, 0) := by rw [eG_, gV_]; rfl
theorem cx_ {b : Bk} (h : dn_ b = true) : BkN 8 b := by
 simp only [dn_, nA_, ls_, Bool.and_eq_true, decide_eq_true_eq, List.all_eq_true] at h
 exact ⟨fun x hx => ⟨by have := (h.1.2 x hx).1; omega, (cy_.1 (h.1.2 x hx).2).sm⟩, fun x hx => by have := h.2.2 x hx; omega, h.1.1, h.2.1⟩
theorem qE_ {n : Nat} {b : Bk} {r : List UInt8} (h : BkN n b) (ho : ObjSm (bf_ (hdX r)).1) : BkN (n + 1) (apS b r).1 := by
 unfold apS
 split
 ·split
  ·exact h.apl ho
  ·exact bkN0 _
 ·exact bkN0 _
structure OkO (k : Nat) (o : Obj') : Prop where
 ok : be_ o = true
 rm : room o.ctx ≤ 480 * k
 nc : o.ctx.length ≤ 12 * k
 ns : o.sibs.length ≤ 12 * k
theorem v8_ {o : Obj'} (h : be_ o = true) (hn : o.ctx.length ≤ 1000) (hs : o.sibs.length ≤ 1000) : ObjSm o := by
 have hk := bL_.1 h
 have gd := fO_ (bK_.2 ⟨hk.1.ctx, hk.2⟩)
 refine ⟨rX_ gd, fun x hx => ?_, hn, hs⟩
 have h1 := (hk.1.ok x hx).1
 simp only [gH_, Bool.and_eq_true, decide_eq_true_eq] at h1
 exact ⟨by have := ei_ (fQ_.1 h1.1.1.1.1).1.1; omega, by omega⟩
theorem OkO.sm {k : Nat} {o : Obj'} (h : OkO k o) (hk : k ≤ 8) : ObjSm o := v8_ h.ok (by have := h.nc; omega) (by have := h.ns; omega)
theorem OkO.good {k : Nat} {o : Obj'} (h : OkO k o) : ObjG o := (bL_.1 h.ok).1
theorem hL_ (a b : List Seen) : (a1_ a b).length ≤ a.length + b.length := by rw [a1_, List.length_map]; exact gw_ a b
theorem iM_ (a b : Obj') : (c3_ a b).length ≤ a.sibs.length + b.sibs.length := by
 rw [c3_, f4_, List.length_append]
 have h1 : (c0_ a b).length ≤ a.sibs.length := List.length_filterMap_le ..
 have h2 : (nH_ a b).length ≤ b.sibs.length := List.length_filterMap_le ..
 simp; omega
theorem OkO.merge {j k : Nat} {a b : Obj'} (ha : OkO j a) (hB : OkO k b) (h : j + k ≤ 8) : ba_ a b = (b1_ a b, 0) ∧ OkO (j + k) (b1_ a b) := by
 have h1 := ha.rm; have h2 := hB.rm; have h3 := ha.nc; have h4 := hB.nc; have h5 := ha.ns; have h6 := hB.ns
 obtain ⟨m1, m2⟩ := pl_ ha.ok hB.ok (by omega)
 refine ⟨m1, m2, ?_, ?_, ?_⟩
 ·have := hN_ a.ctx b.ctx
  show room (a1_ a.ctx b.ctx) ≤ _
  omega
 ·have := hL_ a.ctx b.ctx
  show (a1_ a.ctx b.ctx).length ≤ _
  omega
 ·have := iM_ a b
  show (c3_ a b).length ≤ _
  omega
theorem t2_ {c : List Seen} {m : Nat} (h : ∀ x ∈ c, x.more.length ≤ m) : room c ≤ m * c.length := i4_ h
theorem FewO.okO {o : Obj'} (h : FewO o) (hk : be_ o = true) : OkO 1 o := by
 have h1 := t2_ (m := 40) fun x hx => (h.1.2 x hx).2
 have h2 := h.1.1
 exact ⟨hk, by omega, by omega, by have := h.2.1; omega⟩
theorem kp_ {a b : Obj'} (h1 : a.ctx.length + b.ctx.length ≤ 1000) (h2 : a.sibs.length + b.sibs.length ≤ 1000) : ObjSm (ba_ a b).1 := by
 have h0 : ObjSm ⟨[], []⟩ := ⟨(fun y hy => by cases hy), (fun y hy => by cases hy), by show 0 ≤ _; decide, by show 0 ≤ _; decide⟩
 unfold ba_
 split
 ·rename_i hk
  rw [Bool.and_eq_true] at hk
  split
  ·rename_i hj
   have ga := bL_.1 hk.1; have gb := bL_.1 hk.2
   have hjj : b5_ (a1_ a.ctx b.ctx) = true ∧ (bB_ a.ctx b.ctx).1 = a1_ a.ctx b.ctx := by
    have ca : b5_ a.ctx = true := bK_.2 ⟨ga.1.ctx, ga.2⟩
    have cb : b5_ b.ctx = true := bK_.2 ⟨gb.1.ctx, gb.2⟩
    cases h : b5_ (a1_ a.ctx b.ctx) with
    |true => exact ⟨rfl, by simp [bB_, ca, cb, h]⟩
    |false => simp [bB_, ca, cb, h] at hj
   rw [hjj.2]
   have hok : be_ (b1_ a b) = true := bL_.2 ⟨bC_ ga.1 gb.1, (bK_.1 hjj.1).2⟩
   exact v8_ hok (by have := hL_ a.ctx b.ctx; show (a1_ a.ctx b.ctx).length ≤ _; omega) (by have := iM_ a b; show (c3_ a b).length ≤ _; omega)
  ·exact h0
 ·exact h0
theorem nG_ {a b c : List Seen} (ha : CtxG a) (hB : CtxG b) (hc : CtxG c) (h : ∀ s n, hasS c s n = (hasS a s n || hasS b s n)) : a1_ a b = c :=
 iF_ (eR_ ha hB).1 hc fun s n => by rw [(eR_ ha hB).2, h]
theorem ri_ {j k : Nat} {a b c : Obj'} (ha : OkO j a) (hB : OkO k b) (h : j + k ≤ 8) (hc : CtxG c.ctx) (h1 : ∀ s n, hasS c.ctx s n = (hasS a.ctx s n || hasS b.ctx s n)) (h2 : c3_ a b = c.sibs) : ba_ a b = (c, 0) := by
 rw [(ha.merge hB h).1, b1_, nG_ ha.good.ctx hB.good.ctx hc h1, h2]
end Go.Proofs.YtcaflcpcbcneiaaGreat
end
