/-
  What a copy does with a write and a drop, plainly; What is written is covered then, and reaping takes nothing that lives, plainly; What must come of a copy: one key, plainly; The library's Clone and DeleteFunc at pantler/api.Sib; What is picked and reaped of a copy, by the program; A write and a drop of a copy, by the reference; A write and a drop of a copy, by the program; What must come of a copy, whatever the arguments are; A mint and three numbers, as they come in. Own work (an AI agent).
-/
import Derived.Test.YtcaflcpcbcneiaaGreatGL
import Derived.Test.YtcaflcpcbcneiaaGreatGH
import Derived.Test.YtcaflcpcbcneiaaGreatGF
import Derived.Test.YtcaflcpcbcneiaaGreatGN
import Derived.Test.YtcaflcpcbcneiaaGreatGG
import Derived.Test.YtcaflcpcbcneiaaGreatGI

section
set_option linter.all false
set_option maxRecDepth 100000
namespace Go.Proofs.YtcaflcpcbcneiaaGreat
open Go.Ab
def sizB (b : Bk) : Int := ((b.items.map fItm).sum : Nat)
def wrtR (b : Bk) (limit : Int) (p : ByteArray) (o : Obj') : List UInt8 × Int := if limit < sizB (apS b (cA_ p o).1).1 then ([], 10) else ((cA_ p o).1, 0)
def cH_ (b : Bk) (p : ByteArray) (o : Obj') : Bool := bkOk b && (aH_ p && be_ o)
def repW (b : Bk) (limit : Int) (p : ByteArray) (o : Obj') : List UInt8 × Int :=
 if cH_ b p o = true then
  if (getS b.items p).2 = true then
   if (ba_ (getS b.items p).1 o).2 = 0 then (if (ba_ (getS b.items p).1 o).1 = (getS b.items p).1 then ([], 0) else wrtR b limit p (ba_ (getS b.items p).1 o).1)
   else ([], (ba_ (getS b.items p).1 o).2)
  else wrtR b limit p o
 else ([], 1)
def repD (b : Bk) (p : ByteArray) (o : Obj') : List UInt8 × Int :=
 if cH_ b p o = true then (if (getS b.items p).2 = true then (if bO_ o (getS b.items p).1 = true then eG_ p else ([], 6)) else ([], 5)) else ([], 1)
structure BkF (b : Bk) : Prop where
 few : dn_ b = true
 ok : bkOk b = true
theorem BkF.it {b : Bk} (h : BkF b) {x : Itm} (hx : x ∈ b.items) : aH_ x.place = true ∧ OkO 1 x.obj := by
 obtain ⟨⟨_, i2⟩, _⟩ := bY_.1 h.ok
 have hf := h.few
 simp only [dn_, ls_, Bool.and_eq_true, decide_eq_true_eq, List.all_eq_true] at hf
 exact ⟨(i2 x hx).1, (cy_.1 (hf.1.2 x hx).2).okO (i2 x hx).2⟩
theorem ee_ {b : Bk} (h : dn_ b = true) : b.items.length ≤ 8 ∧ b.mints.length ≤ 8 := by
 simp only [dn_, ls_, nA_, Bool.and_eq_true, decide_eq_true_eq] at h
 exact ⟨h.1.1, h.2.1⟩
theorem o5_ {l : List Itm} {p : ByteArray} (h : (getS l p).2 = true) : ∃ x ∈ l, x.place = p ∧ (getS l p).1 = x.obj := by
 unfold getS at h ⊢
 cases hf : l.find? fun x => decide (x.place = p) with
 |none => rw [hf] at h; cases h
 |some x => exact ⟨x, List.mem_of_find?_eq_some hf, by have := List.find?_some hf; simpa using this, rfl⟩
theorem ms_ {l : List Itm} {p : ByteArray} (h : ¬ (getS l p).2 = true) : (getS l p).1 = ⟨[], []⟩ ∧ ∀ x ∈ l, x.place ≠ p := by
 unfold getS at h ⊢
 cases hf : l.find? fun x => decide (x.place = p) with
 |none => exact ⟨rfl, fun x hx => by have := List.find?_eq_none.1 hf x hx; simpa using this⟩
 |some x => rw [hf] at h; exact absurd rfl h
theorem sm0 : ObjSm ⟨[], []⟩ := ⟨(fun y hy => by cases hy), (fun y hy => by cases hy), by show 0 ≤ _; decide, by show 0 ≤ _; decide⟩
theorem vc_ {b : Bk} (h : dn_ b = true) : ∀ x ∈ b.items, ObjSm x.obj ∧ x.obj.ctx.length ≤ 12 ∧ x.obj.sibs.length ≤ 12 := fun x hx => by
 simp only [dn_, ls_, Bool.and_eq_true, decide_eq_true_eq, List.all_eq_true] at h
 have hf := cy_.1 (h.1.2 x hx).2
 exact ⟨hf.sm, by have := hf.1.1; omega, by have := hf.2.1; omega⟩
theorem kh_ {b : Bk} (h : dn_ b = true) (p : ByteArray) : ObjSm (getS b.items p).1 ∧ (getS b.items p).1.ctx.length ≤ 12 ∧ (getS b.items p).1.sibs.length ≤ 12 := by
 by_cases hg : (getS b.items p).2 = true
 ·obtain ⟨x, hx, _, e⟩ := o5_ hg
  rw [e]; exact vc_ h x hx
 ·rw [(ms_ hg).1]; exact ⟨sm0, by show 0 ≤ _; decide, by show 0 ≤ _; decide⟩
theorem mH_ {b : Bk} {o : Obj'} (h : dn_ b = true) (ho : FewO o) (p : ByteArray) : ObjSm (ba_ (getS b.items p).1 o).1 ∧ ObjSm (ba_ o (getS b.items p).1).1 := by
 obtain ⟨_, g2, g3⟩ := kh_ h p
 have h1 := ho.1.1; have h2 := ho.2.1
 exact ⟨kp_ (by omega) (by omega), kp_ (by omega) (by omega)⟩
theorem ia_ {p : ByteArray} {o : Obj'} (ho : ObjSm o) : ObjSm (bf_ (hdX (cA_ p o).1)).1 := by
 unfold cA_
 split
 ·rename_i h
  rw [Bool.and_eq_true] at h
  exact tU_ (x := ⟨p, o⟩) h.1 (mJ_ h.2 (Nat.le_trans ho.nc (by decide)) (Nat.le_trans ho.ns (by decide))) ho
 ·exact vX_ (by show 0 ≤ _; decide)
theorem os_ {b : Bk} {p : ByteArray} {o : Obj'} (hb : bkOk b = true) (hp : aH_ p = true) (ho : be_ o = true) (hs : ObjSm o) : apS b (cA_ p o).1 = (⟨insK Itm.place ⟨p, o⟩ b.items, b.mints⟩, 0) := by
 have hr := mJ_ ho (Nat.le_trans hs.nc (by decide)) (Nat.le_trans hs.ns (by decide))
 rw [cA_, if_pos (by rw [hp, ho]; rfl), apS, if_pos hb, s2_ hp ho hr, if_pos rfl]
theorem f3_ {p : ByteArray} {o : Obj'} (hp : p.size ≤ 1000000) (ho : ObjSm o) : (cA_ p o).1.length ≤ 100000000000 := by
 unfold cA_
 split
 ·have h1 := aP_ p
  have h2 := jr_ ho
  simp only [putR, List.length_cons, List.length_append]; omega
 ·simp
theorem b7_ (y : Itm) (l : List Itm) (p : ByteArray) : getS (y :: l) p = if y.place = p then (y.obj, true) else getS l p := by
 unfold getS
 rw [List.find?_cons]
 by_cases h : y.place = p <;> simp [h]
theorem jj_ {x : Itm} {p : ByteArray} : ∀ {l : List Itm}, getS (insK Itm.place x l) p = if x.place = p then (x.obj, true) else getS l p
 |[] => by rw [insK, b7_]
 |y :: l => by
  rw [insK]
  split
  ·rename_i h
   rw [b7_, b7_, jj_ (l := l)]
   by_cases h1 : y.place = p
   ·have h2 : ¬ x.place = p := fun h2 => by rw [h1, h2, bk_] at h; cases h
    simp [h1, h2]
   ·simp [h1]
  ·split
   ·rename_i h h2
    rw [b7_, b7_]
    by_cases h1 : x.place = p
    ·simp [h1]
    ·simp [h1, h2]
   ·rw [b7_]
theorem e5_ : ∀ {l : List Itm}, cn_ Itm.place l → ∀ {x : Itm}, x ∈ l → getS l x.place = (x.obj, true)
 |y :: l, h, x, hx => by
  obtain ⟨h1, h2⟩ := List.pairwise_cons.1 h
  rw [b7_]
  rcases List.mem_cons.1 hx with rfl | hx
  ·rw [if_pos rfl]
  ·rw [if_neg (fun hh => by have := h1 x hx; rw [hh, bk_] at this; cases this), e5_ h2 hx]
theorem mi_ {x y : Obj'} (h : ba_ x y = (x, 0)) : bO_ x y = true := by rw [bO_, h]; simp
structure Kept (b : Bk) (o : Obj') (n : Bk) : Prop where
 got : (getS n.items pA).2 = true
 cov : bO_ (getS n.items pA).1 o = true
 sm : ObjSm (getS n.items pA).1 ∧ ObjSm (ba_ (getS n.items pA).1 o).1
 all : ∀ x ∈ b.items, (getS n.items x.place).2 = true ∧ (x.place ≠ pA → (getS n.items x.place).1 = x.obj) ∧ bO_ (getS n.items x.place).1 x.obj = true ∧ ObjSm (getS n.items x.place).1 ∧ ObjSm (ba_ (getS n.items x.place).1 x.obj).1
 len : n.items.length ≤ b.items.length + 1
theorem pV_ {k : Nat} {o : Obj'} (h : OkO k o) (hk : k ≤ 4) : ba_ o o = (o, 0) := by
 have := (h.merge h (by omega)).1
 rwa [dX_ h.good] at this
theorem pf_ {b n : Bk} {o g : Obj'} (hF : BkF b) (ho : OkO 1 o) (hg : OkO 2 g) (h0 : getS n.items pA = (g, true)) (h1 : b1_ g o = g) (h2 : ∀ x ∈ b.items, x.place = pA → b1_ g x.obj = g) (h3 : ∀ x ∈ b.items, x.place ≠ pA → getS n.items x.place = (x.obj, true)) (hl : n.items.length ≤ b.items.length + 1) : Kept b o n := by
 have e1 := (hg.merge ho (by decide)).1
 rw [h1] at e1
 refine ⟨by rw [h0], by rw [h0]; exact mi_ e1, by rw [h0]; exact ⟨hg.sm (by decide), by rw [e1]; exact hg.sm (by decide)⟩, fun x hx => ?_, hl⟩
 obtain ⟨_, hxo⟩ := hF.it hx
 by_cases hp : x.place = pA
 ·have e2 := (hg.merge hxo (by decide)).1
  rw [h2 x hx hp] at e2
  rw [hp, h0]
  exact ⟨rfl, fun hh => absurd rfl hh, mi_ e2, hg.sm (by decide), by rw [e2]; exact hg.sm (by decide)⟩
 ·have e2 := pV_ hxo (by decide)
  rw [h3 x hx hp]
  exact ⟨rfl, fun _ => rfl, mi_ e2, hxo.sm (by decide), by rw [e2]; exact hxo.sm (by decide)⟩
def WrOk (b : Bk) (limit : Int) (o : Obj') (s : List UInt8) (e : Int) : Prop :=
 (s = [] ∧ e = 10) ∨ (s = [] ∧ e = 0 ∧ Kept b o b) ∨ ∃ n, s ≠ [] ∧ e = 0 ∧ apS b s = (n, 0) ∧ s.length ≤ 100000000000 ∧ ObjSm (bf_ (hdX s)).1 ∧ sizB n ≤ limit ∧ (∀ x ∈ n.items, ItemSm x) ∧ n.items.length ≤ 9 ∧ Kept b o n
theorem sT_ {b : Bk} {limit : Int} {o g : Obj'} (hF : BkF b) (ho : OkO 1 o) (hg : OkO 2 g) (h1 : b1_ g o = g) (h2 : ∀ x ∈ b.items, x.place = pA → b1_ g x.obj = g) : WrOk b limit o (wrtR b limit pA g).1 (wrtR b limit pA g).2 := by
 have hs := hg.sm (by decide)
 have ha := os_ hF.ok gV_ hg.ok hs
 unfold wrtR
 split
 ·exact .inl ⟨rfl, rfl⟩
 ·rename_i hlim
  rw [ha] at hlim
  have hr : (cA_ pA g).1 = putR pA g := by rw [cA_, if_pos (by rw [gV_, hg.ok]; rfl)]
  have hl := g9_ (key := Itm.place) (x := ⟨pA, g⟩) (l := b.items)
  have h8 := (ee_ hF.few).1
  refine .inr (.inr ⟨_, by rw [hr]; simp [putR], rfl, ha, f3_ (by have := bo_ gV_; omega) hs, ia_ hs, Int.not_lt.1 hlim, fun x hx => ?_, by show (insK Itm.place ⟨pA, g⟩ b.items).length ≤ 9; omega, pf_ hF ho hg (by show getS (insK Itm.place ⟨pA, g⟩ b.items) pA = _; rw [jj_, if_pos rfl]) h1 h2 (fun x hx hp => ?_) hl⟩)
  ·rcases dD_ hx with rfl | hx
   ·exact ⟨by have := bo_ gV_; show pA.size ≤ _; omega, hs⟩
   ·obtain ⟨p1, p2⟩ := hF.it hx
    exact ⟨by have := bo_ p1; omega, p2.sm (by decide)⟩
  ·show getS (insK Itm.place ⟨pA, g⟩ b.items) x.place = _
   rw [jj_, if_neg (fun hh => hp hh.symm), e5_ (bY_.1 hF.ok).1.1 hx]
theorem OkO.up {j k : Nat} {o : Obj'} (h : OkO j o) (hk : j ≤ k) : OkO k o := ⟨h.ok, Nat.le_trans h.rm (Nat.mul_le_mul_left _ hk), Nat.le_trans h.nc (Nat.mul_le_mul_left _ hk), Nat.le_trans h.ns (Nat.mul_le_mul_left _ hk)⟩
theorem keeps {b : Bk} {limit : Int} {o : Obj'} (hF : BkF b) (ho : OkO 1 o) : WrOk b limit o (repW b limit pA o).1 (repW b limit pA o).2 := by
 have hri := (bY_.1 hF.ok).1.1
 unfold repW
 rw [if_pos (by rw [cH_, hF.ok, gV_, ho.ok]; rfl)]
 split
 ·rename_i hg
  obtain ⟨x, hx, hp, e⟩ := o5_ hg
  obtain ⟨_, hxo⟩ := hF.it hx
  have hu : ∀ y ∈ b.items, y.place = pA → y = x := fun y hy hyp => by
   have h1 := e5_ hri hy
   have h2 := e5_ hri hx
   rw [hyp] at h1; rw [hp, h1] at h2
   obtain ⟨yp, yo⟩ := y; obtain ⟨xp, xo⟩ := x
   simp only [Prod.mk.injEq, and_true] at h2
   simp only at hyp hp
   rw [hyp, hp, h2]
  rw [e]
  obtain ⟨m1, m2⟩ := hxo.merge ho (by decide)
  rw [m1]
  simp only [if_true]
  have gx := hxo.good; have go := ho.good
  split
  ·rename_i hs
   have hxx := e5_ hri hx
   rw [hp] at hxx
   refine .inr (.inl ⟨rfl, rfl, pf_ hF ho (hxo.up (by decide)) hxx hs (fun y hy hyp => by rw [hu y hy hyp, dX_ gx]) (fun y hy _ => e5_ hri hy) (by omega)⟩)
  ·exact sT_ hF ho m2 (by rw [hU_ gx go go, dX_ go]) (fun y hy hyp => by rw [hu y hy hyp, nN_ gx go, hU_ go gx gx, dX_ gx])
 ·rename_i hg
  exact sT_ hF ho (ho.up (by decide)) (dX_ ho.good) (fun y hy hyp => absurd hyp ((ms_ hg).2 y hy))
def oldS (t : Int) (s : Sib) : Bool := s.gone && decide (s.time < t)
def rpO (t : Int) (o : Obj') : Obj' := ⟨o.ctx, o.sibs.filter fun s => !oldS t s⟩
def rpI (t : Int) (x : Itm) : Itm := ⟨x.place, rpO t x.obj⟩
def hasO (t : Int) (x : Itm) : Bool := x.obj.sibs.any (oldS t)
def cj_ (t : Int) (l : List Itm) : List (List UInt8) := (l.filter (hasO t)).map fun x => (cA_ x.place (rpO t x.obj)).1
def bU_ (b : Bk) (t : Int) : List (List UInt8) := if bkOk b = true then cj_ t b.items else []
theorem rE_ {t : Int} {o : Obj'} (h : OkO 1 o) : OkO 1 (rpO t o) := by
 have hk := bL_.1 h.ok
 exact ⟨bL_.2 ⟨⟨hk.1.ctx, List.Pairwise.sublist List.filter_sublist hk.1.rise, fun x hx => hk.1.ok x (List.mem_filter.1 hx).1⟩, hk.2⟩, h.rm, h.nc, Nat.le_trans (List.length_filter_le ..) h.ns⟩
theorem rF_ {t : Int} {o : Obj'} (h : ObjSm o) : ObjSm (rpO t o) := ⟨h.ctx, fun x hx => h.sibs x (List.mem_filter.1 hx).1, h.nc, Nat.le_trans (List.length_filter_le ..) h.ns⟩
theorem t5_ {t : Int} {x : Itm} (h : hasO t x = false) : rpI t x = x := by
 obtain ⟨p, c, s⟩ := x
 unfold rpI rpO
 simp only [hasO, List.any_eq_false] at h
 rw [List.filter_eq_self.2 fun a ha => by simpa using h a ha]
theorem t4_ {t : Int} (x : Itm) : hasO t (rpI t x) = false := by
 simp only [hasO, rpI, rpO, List.any_eq_false, List.mem_filter]
 rintro s ⟨_, hs⟩ h
 rw [h] at hs; cases hs
theorem mz_ {y : Obj'} {x : Itm} {r : List Itm} : ∀ {d : List Itm}, (∀ z ∈ d, sLt z.place x.place = true) → insK Itm.place ⟨x.place, y⟩ (d ++ x :: r) = d ++ ⟨x.place, y⟩ :: r
 |[], _ => by
  rw [List.nil_append, insK, if_neg (by rw [bk_]; decide), if_pos rfl]; rfl
 |z :: d, h => by
  rw [List.cons_append, insK, if_pos (h z (.head _)), mz_ fun z hz => h z (.tail _ hz)]; rfl
theorem iZ_ {t : Int} {R : List (List UInt8)} {rec : List UInt8} : ∀ {r : List Itm}, cj_ t r = rec :: R → ∃ r1 x r2, r = r1 ++ x :: r2 ∧ (∀ z ∈ r1, hasO t z = false) ∧ rec = (cA_ x.place (rpO t x.obj)).1 ∧ R = cj_ t r2
 |[], h => by cases h
 |y :: r, h => by
  by_cases hy : hasO t y = true
  ·rw [cj_, List.filter_cons_of_pos hy, List.map_cons, List.cons.injEq] at h
   exact ⟨[], y, r, rfl, (fun z hz => by cases hz), h.1.symm, h.2.symm⟩
  ·rw [cj_, List.filter_cons_of_neg hy] at h
   obtain ⟨r1, x, r2, e, h1, h2⟩ := iZ_ (r := r) h
   exact ⟨y :: r1, x, r2, by rw [e]; rfl, (fun z hz => by rcases List.mem_cons.1 hz with rfl | hz; exact Bool.eq_false_iff.2 hy; exact h1 z hz), h2⟩
theorem pS_ {t : Int} : ∀ {r : List Itm}, (∀ z ∈ r, hasO t z = false) → r.map (rpI t) = r
 |[], _ => rfl
 |z :: r, h => by rw [List.map_cons, t5_ (h z (.head _)), pS_ fun y hy => h y (.tail _ hy)]
structure Rz (b : Bk) (t : Int) (n : Bk) (R : List (List UInt8)) : Prop where
 ok : bkOk n = true
 mints : n.mints = b.mints
 ex : ∃ d r, b.items = d ++ r ∧ n.items = d.map (rpI t) ++ r ∧ R = cj_ t r
theorem Rz.mem {b n : Bk} {t : Int} {R : List (List UInt8)} (hF : BkF b) (h : Rz b t n R) : ∀ x ∈ n.items, aH_ x.place = true ∧ OkO 1 x.obj := fun x hx => by
 obtain ⟨d, r, e1, e2, _⟩ := h.ex
 rw [e2] at hx
 rcases List.mem_append.1 hx with hx | hx
 ·obtain ⟨y, hy, rfl⟩ := List.mem_map.1 hx
  obtain ⟨p1, p2⟩ := hF.it (x := y) (by rw [e1]; exact List.mem_append_left _ hy)
  exact ⟨p1, rE_ p2⟩
 ·exact hF.it (by rw [e1]; exact List.mem_append_right _ hx)
theorem Rz.len {b n : Bk} {t : Int} {R : List (List UInt8)} (h : Rz b t n R) : n.items.length = b.items.length := by
 obtain ⟨d, r, e1, e2, _⟩ := h.ex
 rw [e1, e2]; simp
theorem oz_ {b : Bk} (h : BkF b) : BkSm b := by
 obtain ⟨h1, h2⟩ := ee_ h.few
 have hf := h.few
 simp only [dn_, nA_, Bool.and_eq_true, decide_eq_true_eq, List.all_eq_true] at hf
 exact ⟨fun x hx => by obtain ⟨p1, p2⟩ := h.it hx; exact ⟨by have := bo_ p1; omega, p2.sm (by decide)⟩, fun x hx => by have := hf.2.2 x hx; omega, by omega, by omega⟩
theorem Rz.sm {b n : Bk} {t : Int} {R : List (List UInt8)} (hF : BkF b) (h : Rz b t n R) : BkSm n := by
 have hb := oz_ hF
 exact ⟨fun x hx => by obtain ⟨p1, p2⟩ := h.mem hF x hx; exact ⟨by have := bo_ p1; omega, p2.sm (by decide)⟩, by rw [h.mints]; exact hb.mints, by rw [h.len]; exact hb.ni, by rw [h.mints]; exact hb.nm⟩
theorem Rz.step {b n : Bk} {t : Int} {rec : List UInt8} {R : List (List UInt8)} (hF : BkF b) (h : Rz b t n (rec :: R)) : (apS n rec).2 = 0 ∧ Rz b t (apS n rec).1 R ∧ rec.length ≤ 100000000000 ∧ ObjSm (bf_ (hdX rec)).1 := by
 have hm := h.mem hF
 have hok := h.ok
 obtain ⟨d, r, e1, e2, e3⟩ := h.ex
 obtain ⟨r1, x, r2, e4, e5, e6, e7⟩ := iZ_ e3.symm
 have hx : x ∈ n.items := by rw [e2, e4]; simp
 obtain ⟨p1, p2⟩ := hm x hx
 have hs := (rE_ (t := t) p2).sm (by decide)
 have ha := os_ h.ok p1 (rE_ (t := t) p2).ok hs
 have hri := (bY_.1 h.ok).1.1
 rw [e2, e4, ← List.append_assoc] at hri
 have hin : insK Itm.place ⟨x.place, rpO t x.obj⟩ n.items = (d ++ (r1 ++ [x])).map (rpI t) ++ r2 := by
  rw [e2, e4, ← List.append_assoc, mz_ fun z hz => (List.pairwise_append.1 hri).2.2 z hz x (.head _), List.map_append, List.map_append, pS_ e5]
  simp [rpI]
 rw [e6, ha]
 refine ⟨rfl, ⟨?_, h.mints, d ++ (r1 ++ [x]), r2, by rw [e1, e4]; simp, hin, e7⟩, f3_ (by have := bo_ p1; omega) hs, ia_ hs⟩
 obtain ⟨⟨i1, i2⟩, i3⟩ := bY_.1 h.ok
 exact bY_.2 ⟨⟨fW_ i1, fun y hy => by rcases dD_ hy with rfl | hy; exact ⟨p1, (rE_ p2).ok⟩; exact i2 y hy⟩, i3⟩
theorem rz0 {b : Bk} (hF : BkF b) (t : Int) : Rz b t b (bU_ b t) := ⟨hF.ok, rfl, [], b.items, rfl, rfl, by rw [bU_, if_pos hF.ok]⟩
theorem pN_ {t : Int} {r : List Itm} (h : cj_ t r = []) : ∀ z ∈ r, hasO t z = false := fun z hz => by
 rw [cj_, List.map_eq_nil_iff] at h
 cases hh : hasO t z with
 |false => rfl
 |true => have : z ∈ r.filter (hasO t) := List.mem_filter.2 ⟨hz, hh⟩; rw [h] at this; cases this
theorem Rz.done {b n : Bk} {t : Int} (h : Rz b t n []) : n.items = b.items.map (rpI t) := by
 obtain ⟨d, r, e1, e2, e3⟩ := h.ex
 rw [e1, e2, List.map_append, pS_ (pN_ e3.symm)]
theorem Rz.over {b n : Bk} {t : Int} (h : Rz b t n []) : bU_ n t = [] := by
 rw [bU_, if_pos h.ok, h.done, cj_, List.filter_eq_nil_iff.2, List.map_nil]
 intro x hx
 obtain ⟨y, _, rfl⟩ := List.mem_map.1 hx
 rw [t4_]; decide
theorem kH_ (b : Bk) (t : Int) : (bU_ b t).length ≤ b.items.length := by
 unfold bU_
 split
 ·rw [cj_, List.length_map]; exact List.length_filter_le ..
 ·exact Nat.zero_le _
theorem ti_ {α : Type} {p : α → Bool} {l : List α} {k : Nat} {x : α} (hx : l[k]? = some x) (hp : p x = true) : (l.filter p)[((l.take k).filter p).length]? = some x := by
 obtain ⟨hk, e⟩ := List.getElem?_eq_some_iff.1 hx
 conv => lhs; rw [show l = l.take k ++ x :: l.drop (k + 1) by rw [← e, List.getElem_cons_drop hk, List.take_append_drop]]
 rw [List.filter_append, List.filter_cons_of_pos hp, List.getElem?_append_right (by rw [List.take_append_of_le_length (by rw [List.length_take]; omega), List.take_take, Nat.min_self]; exact Nat.le_refl _)]
 rw [List.take_append_of_le_length (by rw [List.length_take]; omega), List.take_take, Nat.min_self, Nat.sub_self]; rfl
theorem fS_ {α : Type} {p : α → Bool} (l : List α) : (l.filter p).length + (l.filter fun x => !p x).length = l.length := by
 induction l with
 |nil => rfl
 |cons x l ih => cases h : p x <;> simp [h] <;> omega
def xR : Sib := ⟨⟨#[97]⟩, 1, ⟨#[]⟩, true, 3⟩
def oR : Obj' := ⟨[sA], [xR]⟩
def oN : Obj' := ⟨[], []⟩
def pJ : ByteArray := ⟨#[98, 47, 106]⟩
def bR : Bk := ⟨[⟨pA, oR⟩], []⟩
theorem ok_R : OkO 1 oR := ⟨by decide +kernel, by decide, by decide, by decide⟩
theorem ok_N : OkO 1 oN := ⟨by decide +kernel, by decide, by decide, by decide⟩
theorem xc_ : newS [] xR = (oR, 0) := by
 have hd : eB_ xR.node xR.n = true := by decide +kernel
 have h1 : (addS [] xR.node xR.n).2 = 0 := by rw [sg_, hd]; rfl
 have h2 : (addS [] xR.node xR.n).1 = [sA] := by
  have e := hM_ hd
  have hk : b5_ [oneS xR.node xR.n] = true := kc_ hd
  have : addS [] xR.node xR.n = ([oneS xR.node xR.n], 0) := by rw [addS, hd, if_pos rfl, bB_, hk, e, hk]; rfl
  rw [this]; rfl
 rw [newS, if_pos ⟨by decide +kernel, rfl⟩, if_pos h1, h2]; rfl
theorem mE_ : ba_ oR oR = (oR, 0) := pV_ ok_R (by decide)
theorem rh_ : ba_ oN oR = (oR, 0) := ri_ ok_N ok_R (by decide) ok_R.good.ctx (fun s n => by simp [hasS, oN]) (by decide +kernel)
theorem uX_ : bO_ oN oR = false := by rw [bO_, rh_]; decide +kernel
theorem uY_ : bO_ oR oR = true := mi_ mE_
theorem k8_ : bkOk bR = true := by decide +kernel
theorem s6_ : bkOk bk0 = true := by decide +kernel
theorem j1_ : BkF bR := ⟨by decide +kernel, k8_⟩
theorem ox_ : BkF bk0 := ⟨by decide +kernel, s6_⟩
theorem rp_ : cA_ pA oR = (putR pA oR, 0) := by rw [cA_, if_pos (by rw [gV_, ok_R.ok]; rfl)]
theorem ap_R : apS bk0 (putR pA oR) = (bR, 0) := by
 have := os_ s6_ gV_ ok_R.ok (ok_R.sm (by decide))
 rw [rp_] at this
 exact this
theorem xo_ : sizB bR = 83 := by decide +kernel
theorem xq_ (n : Int) : wrtR bk0 n pA oR = if n < 83 then ([], 10) else (putR pA oR, 0) := by rw [wrtR, rp_, ap_R, xo_]
theorem vY_ (n : Int) : repW bk0 n pA oR = if n < 83 then ([], 10) else (putR pA oR, 0) := by
 rw [repW, if_pos (by rw [cH_, s6_, gV_, ok_R.ok]; rfl), if_neg (by decide +kernel), xq_]
theorem tk_ : getS bR.items pA = (oR, true) := by rw [bR, b7_, if_pos rfl]
theorem xh_ (n : Int) : repW bR n pA oR = ([], 0) := by
 rw [repW, if_pos (by rw [cH_, k8_, gV_, ok_R.ok]; rfl), tk_, if_pos rfl, mE_, if_pos rfl, if_pos rfl]
theorem xf_ : aH_ pJ = true := by decide +kernel
theorem xi_ : repD bR pJ oR = ([], 5) := by
 rw [repD, if_pos (by rw [cH_, k8_, xf_, ok_R.ok]; rfl), if_neg (by decide +kernel)]
theorem xj_ : repD bR pA oN = ([], 6) := by
 rw [repD, if_pos (by rw [cH_, k8_, gV_, ok_N.ok]; rfl), tk_, if_pos rfl, uX_, if_neg (by decide)]
theorem xk_ : repD bR pA oR = (ln_ pA, 0) := by
 rw [repD, if_pos (by rw [cH_, k8_, gV_, ok_R.ok]; rfl), tk_, if_pos rfl, uY_, if_pos rfl, q2_]; rfl
theorem vV_ : (bU_ bR 4).length = 1 := by rw [bU_, if_pos k8_, cj_, List.length_map]; decide +kernel
theorem vW_ : bU_ bR 3 = [] := by rw [bU_, if_pos k8_, cj_, List.map_eq_nil_iff]; decide +kernel
def PFSb (F : FuncId) (caps : List AVal) (σ : Store) (p : Sib → Bool) (L : List Sib) : Prop := isGo Tryz.prog F = true ∧ ∀ τ : Store, (∀ i y, σ.heap i = some y → τ.heap i = some y) → ∀ x : Sib, x ∈ L → ai_ Tryz.prog F (sSib x :: caps) τ fun v τ' => v = vB (p x) ∧ τ = τ'
abbrev fnSb (F : Nat) (caps : List AVal) : AVal := .fn (.func F) [] caps
theorem q1_ {L M : List Sib} {d j : Nat} (h : M.drop d = L.drop d) (hj : d ≤ j) : M[j]? = L[j]? := by
 have := congrArg (fun l => l[j - d]?) h
 simp only [List.getElem?_drop] at this
 rwa [show d + (j - d) = j by omega] at this
theorem ef_ (L : List Sib) : (flat (L.map sSib)).length = L.length * 5 := by rw [aR_ (jH_ L), List.length_map]
theorem hI_ : ∀ {L : List Sib} {j : Nat} {x : Sib}, L[j]? = some x → ((flat (L.map sSib)).drop (j * 5)).take 5 = [vStr x.node, vInt x.n, vStr x.value, .lit (.bool x.gone), vInt x.time]
 |[], j, x, h => by simp at h
 |y :: L, 0, x, h => by
  simp only [List.getElem?_cons_zero, Option.some.injEq] at h
  subst h
  rfl
 |y :: L, j + 1, x, h => by
  rw [List.map_cons, a5_, show (j + 1) * 5 = 5 + j * 5 by omega, ← List.drop_drop]
  exact hI_ (L := L) (j := j) h
theorem q4_ {M : List Sib} {j : Nat} {x : Sib} (hj : j < M.length) : aput (flat (M.map sSib)) (j * 5) [vStr x.node, vInt x.n, vStr x.value, .lit (.bool x.gone), vInt x.time] = flat ((M.set j x).map sSib) := by
 have e : M.set j x = M.take j ++ x :: M.drop (j + 1) := by rw [List.set_eq_take_append_cons_drop, if_pos hj]
 have e2 : M = M.take j ++ M[j] :: M.drop (j + 1) := by rw [List.getElem_cons_drop hj, List.take_append_drop]
 have hl : (flat ((M.take j).map sSib)).length = j * 5 := by rw [ef_, List.length_take, Nat.min_eq_left (by omega)]
 rw [e]
 conv => lhs; rw [e2]
 unfold aput
 rw [List.map_append, List.map_cons, a7_, a5_, List.map_append, List.map_cons, a7_, a5_, List.take_left' hl, List.drop_append, List.drop_of_length_le (by rw [hl]; simp), hl, show j * 5 + [vStr x.node, vInt x.n, vStr x.value, .lit (.bool x.gone), vInt x.time].length - j * 5 = 5 by rw [show [vStr x.node, vInt x.n, vStr x.value, .lit (.bool x.gone), vInt x.time].length = 5 from rfl]; omega]
 simp [AVal.cells]
theorem o1_ {M : List Sib} {j : Nat} {zs : List AVal} : aput (flat (M.map sSib)) (j * 5) zs = flat ((M.take j).map sSib) ++ (zs ++ (flat (M.map sSib)).drop (j * 5 + zs.length)) := by
 unfold aput
 rw [List.append_assoc, List.map_take, eM_ (jH_ M)]
def CBSb (σ0 σ : Store) (L : List Sib) (v : AVal) : Prop := (L = [] ∧ v = .sl 5 [] true ∧ σ = σ0) ∨ ∃ o c, σ0.heap o = none ∧ L ≠ [] ∧ L.length ≤ c ∧ v = .mslc o 5 0 L.length c (60) ∧ σ = σ0.set o (.cells (flat (L.map sSib)))
theorem uV_ {t : Bool} {σ : Store} : ai_ Tryz.prog 49 [.sl 5 [] t] σ fun v σ' => CBSb σ σ' [] v := by
 refine en_ Tryz.func49 Tryz.ntmps49 Tryz.results49 ?_
 refine rr_ ?_
 refine s_ ?_
 refine aa_ ?_
 refine ab_ ?_
 refine rr_ ?_
 refine s_ ?_
 refine aL_X rfl rfl (gj_ rfl g_ va_ va_ fun b => ?_)
 refine aa_ ?_
 refine cd_ (fun hc1 => ?_) (fun hc1 => ?_)
 ·refine rr_ ?_
  refine s_ ?_
  refine aa_ ?_
  refine af_ ?_
  exact aw_ (v := .sl 5 [] true) (v' := .lit (.slice none 0 0)) va_ (.nil _ _) sub_ (.inl ⟨rfl, rfl, rfl⟩)
 ·refine ae_ ?_
  refine rr_ ?_
  refine ao_ rfl rfl rfl g_ g_ rfl rfl h_ c2_ (by decide) ?_
  refine s_ ?_
  refine aL_X rfl rfl (d5_ rfl g_ g_ va_ va_ ?_)
  refine s_ ?_
  refine aa_ ?_
  refine af_ ?_
  exact au_ va_ sub_ (.inl ⟨rfl, rfl, rfl⟩)
theorem uW_ {L : List Sib} {t : Bool} {σ : Store} (h0 : L ≠ []) (hl : L.length ≤ 1000000) : ai_ Tryz.prog 49 [.sl 5 (L.map sSib) t] σ fun v σ' => CBSb σ σ' L v := by
 have hne : L.map sSib ≠ [] := by simpa using h0
 refine en_ Tryz.func49 Tryz.ntmps49 Tryz.results49 ?_
 refine rr_ ?_
 refine s_ ?_
 refine aa_ ?_
 refine ab_ ?_
 refine rr_ ?_
 refine s_ ?_
 refine aL_X rfl rfl (ho_ rfl g_ v_ (by exact hne) va_ ?_)
 refine aa_ ?_
 refine cd_ (fun hc1 => ?_) (fun hc1 => ?_)
 ·cases hc1
 ·refine ae_ ?_
  refine rr_ ?_
  refine ao_ rfl rfl rfl g_ g_ rfl rfl h_ c2_ (by decide) ?_
  refine s_ ?_
  refine aL_X rfl rfl (gi_ rfl g_ g_ va_ g_ hne (by simp; omega) fun o7 c7 ho7 hc7 => ?_)
  refine s_ ?_
  refine aa_ ?_
  refine af_ ?_
  refine au_ v_ (Store.Wk.refl _) ?_
  exact .inr ⟨o7, c7, ho7, h0, by simpa using hc7, rfl, rfl⟩
theorem oH_ {L : List Sib} {t : Bool} {σ : Store} (hl : L.length ≤ 1000000) : ai_ Tryz.prog 49 [.sl 5 (L.map sSib) t] σ fun v σ' => CBSb σ σ' L v := by
 by_cases h : L = []
 ·subst h; exact uV_
 ·exact uW_ h hl
theorem vz_ {F : Nat} {caps : List AVal} {t : Bool} {σ : Store} (hF : isGo Tryz.prog F = true) : ai_ Tryz.prog 108 [.sl 5 [] t, fnSb F caps] σ fun v σ' => v = vInt (-1) ∧ σ = σ' := by
 refine en_ Tryz.func108 Tryz.ntmps108 Tryz.results108 ?_
 refine rr_ ?_
 refine s_ ?_
 refine aa_ ?_
 refine ab_ ?_
 refine rr_ ?_
 iterate 3 refine s_ ?_
 refine aa_ ?_
 refine ag_ ?_
 refine ah_ (ι := Nat) (fun k => 0) (fun k => k = 0) (fun k => [(0, .sl 5 [] t), (1, fnSb F caps), (7, vInt 0), (8, vInt k)]) (fun k => σ) 0 ?_ ?_ ?_ ?_
 ·rfl
 ·exact cv_
 ·exact sub_
 rintro k hk
 simp only [ak_, am_]
 refine rr_ ?_
 refine s_ ?_
 refine aa_ ?_
 refine ab_ ?_
 refine cd_ (fun hc2 => ?_) (fun hc2 => ?_)
 ·omega
 ·refine an_ ?_
  refine ad_ ?_
  refine ad_ ?_
  refine aj_ ?_
  refine rr_ ?_
  refine s_ ?_
  refine aa_ ?_
  refine af_ ?_
  refine er_ σ ?_
  exact ⟨rfl, rfl⟩
theorem vA_ {F : Nat} {caps : List AVal} {p : Sib → Bool} {L : List Sib} {t : Bool} {σ : Store} (hF : PFSb F caps σ p L) (hl : L.length ≤ 1000000) : ai_ Tryz.prog 108 [.sl 5 (L.map sSib) t, fnSb F caps] σ fun v σ' => (∃ r : Int, v = vInt r ∧ ((r = -1 ∧ L.find? p = none) ∨ ∃ j : Nat, ∃ x, r = j ∧ L[j]? = some x ∧ L.find? p = some x)) ∧ σ = σ' := by
 have hgo := hF.1
 refine en_ Tryz.func108 Tryz.ntmps108 Tryz.results108 ?_
 refine rr_ ?_
 refine s_ ?_
 refine aa_ ?_
 refine ab_ ?_
 refine rr_ ?_
 iterate 3 refine s_ ?_
 refine aa_ ?_
 refine ag_ ?_
 refine ah_ (ι := Nat) (fun k => L.length - k) (fun k => k ≤ L.length ∧ ∀ m y, m < k → L[m]? = some y → p y = false) (fun k => [(0, .sl 5 (L.map sSib) t), (1, fnSb F caps), (7, vInt L.length), (8, vInt k)]) (fun k => σ) 0 ?_ ?_ ?_ ?_
 ·exact ⟨Nat.zero_le _, fun m y hm => by omega⟩
 ·exact cv_
 ·exact sub_
 rintro k ⟨hk, hf⟩
 simp only [ak_, am_]
 refine rr_ ?_
 refine s_ ?_
 refine aa_ ?_
 refine ab_ ?_
 refine cd_ (fun hc2 => ?_) (fun hc2 => ?_)
 ·refine ae_ ?_
  refine ab_ ?_
  refine ag_ ?_
  refine rr_ ?_
  iterate 2 refine s_ ?_
  refine aa_ ?_
  refine ab_ ?_
  obtain ⟨x, hx⟩ := aq_ (l := L) (k := k) (by omega)
  have R := hx
  refine r_ ?_
  iterate 5 refine s_ ?_
  refine aL_X rfl rfl (aU_ rfl rfl (.inl v_) g_ va_ (hF.2 _ (fun _ _ h => h) x (List.mem_of_getElem? hx)) ?_); rintro _ _ ⟨rfl, rfl⟩
  refine aa_ ?_
  refine cd_ (fun hc4 => ?_) (fun hc4 => ?_)
  ·refine rr_ ?_
   iterate 2 refine s_ ?_
   refine aa_ ?_
   refine af_ ?_
   refine er_ σ ?_
   exact ⟨⟨k, rfl, .inr ⟨k, x, rfl, hx, eI_ hx (by simpa using hc4) hf⟩⟩, rfl⟩
  ·refine ae_ ?_
   refine r_ ?_
   iterate 2 refine s_ ?_
   refine aa_ ?_
   refine aC_ (ι := Nat) (i := k) (k + 1) ?_ ?_ ?_ ?_
   ·omega
   ·exact ⟨by omega, fun m y hm hy => by rcases Nat.lt_or_eq_of_le (Nat.le_of_lt_succ hm) with h | h; exact hf m y h hy; rw [h, hx] at hy; cases hy; simpa using hc4⟩
   ·exact cv_
   ·exact sub_
 ·refine an_ ?_
  refine ad_ ?_
  refine ad_ ?_
  refine aj_ ?_
  refine rr_ ?_
  refine s_ ?_
  refine aa_ ?_
  refine af_ ?_
  refine er_ σ ?_
  exact ⟨⟨-1, rfl, .inl ⟨rfl, List.find?_eq_none.2 fun y hy => by obtain ⟨m, hm, e⟩ := List.mem_iff_getElem.1 hy; have := hf m y (by omega) (by rw [List.getElem?_eq_getElem hm, e]); rw [this]; simp⟩⟩, rfl⟩
theorem vy_ {o F : Nat} {caps : List AVal} {p : Sib → Bool} {L : List Sib} {σ0 σ : Store} (hF : PFSb F caps σ0 p L) (hs : ∀ i y, σ0.heap i = some y → σ.heap i = some y) (ho : σ.heap o = some (.cells (flat (L.map sSib)))) (hl : L.length ≤ 1000000) : ai_ Tryz.prog 108 [.msl o 5 0 L.length, fnSb F caps] σ fun v σ' => (∃ r : Int, v = vInt r ∧ (r = -1 → L.filter (fun x => !p x) = L) ∧ (r ≠ -1 → ∃ j : Nat, r = j ∧ j < L.length ∧ (L.take (j + 1)).filter (fun x => !p x) = L.take j)) ∧ σ = σ' := by
 have hfl := ef_ L
 have hgo := hF.1
 refine en_ Tryz.func108 Tryz.ntmps108 Tryz.results108 ?_
 refine rr_ ?_
 refine s_ ?_
 refine aa_ ?_
 refine ab_ ?_
 refine rr_ ?_
 iterate 3 refine s_ ?_
 refine aa_ ?_
 refine ag_ ?_
 refine ah_ (ι := Nat) (fun k => L.length - k) (fun k => k ≤ L.length ∧ (L.take k).filter (fun x => !p x) = L.take k) (fun k => [(0, .msl o 5 0 L.length), (1, fnSb F caps), (7, vInt L.length), (8, vInt k)]) (fun k => σ) 0 ?_ ?_ ?_ ?_
 ·exact ⟨Nat.zero_le _, rfl⟩
 ·exact cv_
 ·exact sub_
 rintro k ⟨hk, hf⟩
 simp only [ak_, am_]
 refine rr_ ?_
 refine s_ ?_
 refine aa_ ?_
 refine ab_ ?_
 refine cd_ (fun hc2 => ?_) (fun hc2 => ?_)
 ·refine ae_ ?_
  refine ab_ ?_
  refine ag_ ?_
  refine rr_ ?_
  iterate 2 refine s_ ?_
  refine aa_ ?_
  refine ab_ ?_
  obtain ⟨x, hx⟩ := aq_ (l := L) (k := k) (by omega)
  have px := hI_ hx
  have R := And.intro px (And.intro ho hfl)
  refine r_ ?_
  iterate 5 refine s_ ?_
  refine aL_X rfl rfl (aU_ rfl rfl (.inl v_) g_ va_ (hF.2 _ hs x (List.mem_of_getElem? hx)) ?_); rintro _ _ ⟨rfl, rfl⟩
  refine aa_ ?_
  refine cd_ (fun hc4 => ?_) (fun hc4 => ?_)
  ·refine rr_ ?_
   iterate 2 refine s_ ?_
   refine aa_ ?_
   refine af_ ?_
   refine er_ σ ?_
   exact ⟨⟨k, rfl, fun h => by omega, fun _ => ⟨k, rfl, by omega, by rw [ax_ hx, List.filter_append, hf]; simp [hc4]⟩⟩, rfl⟩
  ·refine ae_ ?_
   refine r_ ?_
   iterate 2 refine s_ ?_
   refine aa_ ?_
   refine aC_ (ι := Nat) (i := k) (k + 1) ?_ ?_ ?_ ?_
   ·omega
   ·exact ⟨by omega, by rw [ax_ hx, List.filter_append, hf]; simp [hc4]⟩
   ·exact cv_
   ·exact sub_
 ·refine an_ ?_
  refine ad_ ?_
  refine ad_ ?_
  refine aj_ ?_
  refine rr_ ?_
  refine s_ ?_
  refine aa_ ?_
  refine af_ ?_
  refine er_ σ ?_
  exact ⟨⟨-1, rfl, fun _ => by rwa [List.take_of_length_le (by omega)] at hf, fun h => absurd rfl h⟩, rfl⟩
structure DlSb (p : Sib → Bool) (L : List Sib) (j i : Nat) (M : List Sib) : Prop where
 len : M.length = L.length
 tk : M.take i = (L.take j).filter (fun x => !p x)
 cnt : ((L.take j).filter (fun x => !p x)).length = i
 lt : i < j
 le : j ≤ L.length
 dr : M.drop j = L.drop j
theorem DlSb.put {p : Sib → Bool} {L : List Sib} {j i : Nat} {M : List Sib} {x : Sib} (h : DlSb p L j i M) (hx : L[j]? = some x) (hg : p x = false) : DlSb p L (j + 1) (i + 1) (M.set i x) := by
 have h1 := (List.getElem?_eq_some_iff.1 hx).1
 have hk := h.lt
 have hl := h.len
 have hf : (L.take (j + 1)).filter (fun x => !p x) = (L.take j).filter (fun x => !p x) ++ [x] := by rw [ax_ hx, List.filter_append]; simp [hg]
 refine ⟨by rw [List.length_set]; exact hl, ?_, by rw [hf, List.length_append, h.cnt]; rfl, by omega, by omega, ?_⟩
 ·rw [hf, ← h.tk, ax_ (show (M.set i x)[i]? = some x by rw [List.getElem?_set_self]; omega), List.take_set_of_le (Nat.le_refl _)]
 ·rw [List.drop_set_of_lt (by omega)]
  have := congrArg (List.drop 1) h.dr
  rwa [List.drop_drop, List.drop_drop] at this
theorem DlSb.skip {p : Sib → Bool} {L : List Sib} {j i : Nat} {M : List Sib} {x : Sib} (h : DlSb p L j i M) (hx : L[j]? = some x) (hg : p x = true) : DlSb p L (j + 1) i M := by
 have h1 := (List.getElem?_eq_some_iff.1 hx).1
 have hk := h.lt
 have hf : (L.take (j + 1)).filter (fun x => !p x) = (L.take j).filter (fun x => !p x) := by rw [ax_ hx, List.filter_append]; simp [hg]
 refine ⟨h.len, by rw [hf]; exact h.tk, by rw [hf]; exact h.cnt, by omega, by omega, ?_⟩
 have := congrArg (List.drop 1) h.dr
 rwa [List.drop_drop, List.drop_drop] at this
theorem u5_ {F : Nat} {caps : List AVal} {t : Bool} {σ : Store} (hF : isGo Tryz.prog F = true) : ai_ Tryz.prog 48 [.sl 5 [] t, fnSb F caps] σ fun v σ' => v = .sl 5 [] false ∧ σ = σ' := by
 refine en_ Tryz.func48 Tryz.ntmps48 Tryz.results48 ?_
 refine rr_ ?_
 refine s_ ?_
 refine aa_ ?_
 refine rr_ ?_
 iterate 2 refine s_ ?_
 refine x_ g_ va_ (vz_ hF) ?_; rintro _ _ ⟨rfl, rfl⟩
 refine s_ ?_
 refine aa_ ?_
 refine ab_ ?_
 refine rr_ ?_
 iterate 2 refine s_ ?_
 refine aa_ ?_
 refine cd_ (fun hc2 => ?_) (fun hc2 => ?_)
 ·refine rr_ ?_
  iterate 2 refine s_ ?_
  refine aa_ ?_
  refine af_ ?_
  exact aw_ (v := .sl 5 [] false) (v' := .sl 5 [] t) va_ (.sl1 _ _ _) sub_ ⟨rfl, rfl⟩
 ·first | omega | (simp at hc2; done) | cases hc2
set_option maxHeartbeats 2000000 in
theorem u4_ {o F : Nat} {caps : List AVal} {p : Sib → Bool} {L : List Sib} {σ0 σ : Store} (hF : PFSb F caps σ0 p L) (hn0 : σ0.heap o = none) (hs : ∀ i y, i ≠ o → σ0.heap i = some y → σ.heap i = some y) (ho : σ.heap o = some (.cells (flat (L.map sSib)))) (hl : L.length ≤ 1000000) :
  ai_ Tryz.prog 48 [.msl o 5 0 L.length, fnSb F caps] σ fun v σ' => ∃ zs : List AVal, v = .msl o 5 0 (L.filter (fun x => !p x)).length ∧ σ' = σ.set o (.cells (flat ((L.filter (fun x => !p x)).map sSib) ++ zs)) := by
 have hfl := ef_ L
 have hgo := hF.1
 have hne : ∀ i y, σ0.heap i = some y → i ≠ o := fun i y hy hh => by rw [hh, hn0] at hy; cases hy
 refine en_ Tryz.func48 Tryz.ntmps48 Tryz.results48 ?_
 refine rr_ ?_
 refine s_ ?_
 refine aa_ ?_
 refine rr_ ?_
 iterate 2 refine s_ ?_
 refine x_ g_ va_ (vy_ hF (fun i y hy => hs i y (hne i y hy) hy) ho hl) ?_; rintro _ _ ⟨⟨r, rfl, h1, h2⟩, rfl⟩
 refine s_ ?_
 refine aa_ ?_
 refine ab_ ?_
 refine rr_ ?_
 iterate 2 refine s_ ?_
 refine aa_ ?_
 refine cd_ (fun hc2 => ?_) (fun hc2 => ?_)
 ·refine rr_ ?_
  iterate 2 refine s_ ?_
  refine aa_ ?_
  refine af_ ?_
  refine au_ v_ (Store.Wk.refl _) ?_
  exact ⟨[], by rw [h1 hc2], by rw [h1 hc2, List.append_nil, Store.set_same ho]⟩
 ·obtain ⟨j0, rfl, hj0, hf0⟩ := h2 hc2
  have hI0 : DlSb p L (j0 + 1) j0 L := ⟨rfl, hf0.symm, by rw [hf0, List.length_take]; omega, by omega, by omega, rfl⟩
  refine ae_ ?_
  refine ab_ ?_
  refine rr_ ?_
  iterate 3 refine s_ ?_
  refine aa_ ?_
  refine ag_ ?_
  refine ah_ (ι := Nat × Nat × List Sib) (fun ⟨j, i, M⟩ => L.length - j) (fun ⟨j, i, M⟩ => DlSb p L j i M) (fun ⟨j, i, M⟩ => [(0, .msl o 5 0 L.length), (1, fnSb F caps), (5, vInt i), (6, vInt j)]) (fun ⟨j, i, M⟩ => (σ.set o (.cells (flat (M.map sSib))))) (j0 + 1, j0, L) ?_ ?_ ?_ ?_
  ·exact hI0
  ·exact cv_
  ·(try dsimp only); rw [Store.set_same ho]; exact Store.Wk.refl _
  rintro ⟨j, i, M⟩ hI
  simp only [ak_, am_]
  refine ab_ ?_
  refine rr_ ?_
  iterate 4 refine s_ ?_
  refine aa_ ?_
  refine cd_ (fun hc5 => ?_) (fun hc5 => ?_)
  ·refine ae_ ?_
   refine ab_ ?_
   refine ag_ ?_
   refine ab_ ?_
   have hjl : j < L.length := by omega
   obtain ⟨x, hx⟩ := aq_ (l := L) (k := j) hjl
   have hMx : M[j]? = some x := by rw [q1_ hI.dr (Nat.le_refl _)]; exact hx
   have px := hI_ hMx
   have hflM := ef_ M
   rw [hI.len] at hflM
   have hil := hI.lt
   have R := And.intro px hflM
   refine r_ ?_
   iterate 4 refine s_ ?_
   refine lc_ fun o7 ho7 => ?_
   repeat (rw [ac_] at ho7; obtain ⟨_, ho7⟩ := ho7)
   refine st_ ?_
   refine aa_ ?_
   refine ab_ ?_
   skip
   have hk7 : ∀ i y, σ0.heap i = some y → ((((σ.set o (.cells (flat (M.map sSib)))).set o7 (.cells [.lit (.string ⟨#[]⟩), .lit (.int .i64 0), .lit (.string ⟨#[]⟩), .lit (.bool false), .lit (.int .i64 0)])).set o7 (.cells [vStr x.node, vInt x.n, vStr x.value, .lit (.bool x.gone), vInt x.time]))).heap i = some y := fun i y hy => by
    have e1 := hne i y hy
    have e2 := hs i y e1 hy
    have e3 : i ≠ o7 := fun hh => by rw [hh, ho7] at e2; cases e2
    rw [Store.set_ne _ _ e3, Store.set_ne _ _ e3, Store.set_ne _ _ e1]; exact e2
   refine r_ ?_
   iterate 2 refine s_ ?_
   refine aL_X rfl rfl (aU_ rfl rfl (.inl v_) g_ va_ (hF.2 _ hk7 x (List.mem_of_getElem? hx)) ?_); rintro _ _ ⟨rfl, rfl⟩
   refine s_ ?_
   refine aa_ ?_
   refine cd_ (fun hc8 => ?_) (fun hc8 => ?_)
   ·refine ab_ ?_
    have R := hflM
    refine r_ ?_
    iterate 4 refine s_ ?_
    refine bX_ rfl rfl rfl v_ v_ h_ g_ rfl g_ c_ (by rfl) (by rw [hflM]; omega) (q4_ (by rw [hI.len]; omega)) ?_
    refine aa_ ?_
    refine r_ ?_
    iterate 3 refine s_ ?_
    refine aa_ ?_
    refine r_ ?_
    iterate 3 refine s_ ?_
    refine aa_ ?_
    refine aC_ (ι := Nat × Nat × List Sib) (i := ⟨j, i, M⟩) (j + 1, i + 1, M.set i x) ?_ ?_ ?_ ?_
    ·show L.length - (j + 1) < L.length - j; omega
    ·exact hI.put hx (by simpa using hc8)
    ·exact cv_
    ·exact sub_
   ·refine ae_ ?_
    refine r_ ?_
    iterate 3 refine s_ ?_
    refine aa_ ?_
    refine aC_ (ι := Nat × Nat × List Sib) (i := ⟨j, i, M⟩) (j + 1, i, M) ?_ ?_ ?_ ?_
    ·show L.length - (j + 1) < L.length - j; omega
    ·exact hI.skip hx (by simpa using hc8)
    ·exact cv_
    ·exact sub_
  ·refine an_ ?_
   refine ad_ ?_
   refine ad_ ?_
   refine aj_ ?_
   refine ab_ ?_
   have hil := hI.lt
   have hle := hI.le
   have hflM := ef_ M
   rw [hI.len] at hflM
   have hcnt := hI.cnt
   have htk := hI.tk
   rw [show j = L.length by omega, List.take_length] at hcnt htk
   refine r_ ?_
   iterate 3 refine s_ ?_
   refine qz_ rfl rfl (hn_ (sz := 5) rfl g_ g_ (by rfl) (by decide) va_ h_ (by rw [hflM]; omega) fun zs hz => ?_)
   refine aa_ ?_
   refine rr_ ?_
   iterate 4 refine s_ ?_
   refine aa_ ?_
   refine af_ ?_
   refine au_ v_ (Store.Wk.refl _) ?_
   exact ⟨zs ++ (flat (M.map sSib)).drop (i * 5 + zs.length), by rw [hcnt]; rfl, by rw [Store.set_set, o1_, htk]⟩
theorem e4_ {F : Nat} {caps : List AVal} {p : Sib → Bool} {σ0 σ : Store} {L : List Sib} {a : AVal} (hF : PFSb F caps σ0 p L) (h : CBSb σ0 σ L a) (hl : L.length ≤ 1000000) :
  ai_ Tryz.prog 48 [a, fnSb F caps] σ fun v σ' => v = .sl 5 ((L.filter fun x => !p x).map sSib) false ∧ σ0 = σ' := by
 rcases h with ⟨rfl, rfl, rfl⟩ | ⟨o, c, ho, _, _, rfl, rfl⟩
 ·exact u5_ hF.1
 ·refine ai_.wkA (args := [.mslc o 5 0 L.length c _, fnSb F caps]) ((u4_ (σ := σ0.set o (.cells (flat (L.map sSib)))) hF ho (fun i y hi hy => by rw [Store.set_ne _ _ hi]; exact hy) (Store.set_get ..) hl).after ?_) rfl (fun j hj hj' => by match j, hj with | 0, _ => exact Wk.mslc _ _ _ _ _ _ | 1, _ => exact .refl _)
  rintro κ _ _ cv hI hr ⟨zs, rfl, rfl⟩
  obtain ⟨κ', h1, h2, h3, h4⟩ := Ab.freeze hI hr (Store.set_get ..) (l := (L.filter (fun x => !p x)).map sSib) (by rw [List.take_left' (by rw [ef_])]) (by simp) (jH_ _)
  rw [Store.set_set, Store.set_del ho] at h3
  exact ⟨κ', _, _, h1, h2, h3, h4, rfl, rfl⟩
theorem CBSb.frozen {P : Program} {f : FuncId} {args : List AVal} {σ : Store} {L : List Sib} (h : ai_ P f args σ fun v σ' => CBSb σ σ' L v) : ai_ P f args σ fun v σ' => v = .sl 5 (L.map sSib) false ∧ σ = σ' := by
 refine h.after ?_
 rintro κ a τ cv hI hr (⟨rfl, rfl, rfl⟩ | ⟨o, c, ho, _, _, rfl, rfl⟩)
 ·exact ⟨κ, _, _, rfl, .refl κ, hI, hr.wk (.sl1 _ _ _), rfl, rfl⟩
 ·obtain ⟨κ', h1, h2, h3, h4⟩ := Ab.freeze hI (hr.wk (Wk.mslc _ _ _ _ _ _)) (Store.set_get ..) (l := L.map sSib) (by rw [List.take_of_length_le (by rw [ef_]; exact Nat.le_refl _)]) (by simp) (jH_ _)
  rw [Store.set_del ho] at h3
  exact ⟨κ', _, _, h1, h2, h3, h4, rfl, rfl⟩
def buk (s : ByteArray) (p : ByteArray) : Bool := (da_ p).2.2 && decide ((da_ p).1 = s)
def bukS (b : Bk) (s : ByteArray) : List Itm := b.items.filter fun x => buk s x.place
def prtS (b : Bk) (t : ByteArray) (k n : Int) : List Itm := b.items.filter fun x => decide (fx_ t x.place n = k)
def PFS (G : Nat) (cp : List AVal) (σ : Store) (q : ByteArray → Bool) (L : List Itm) : Prop := isGo Tryz.prog G = true ∧ ∀ τ : Store, (∀ i y, σ.heap i = some y → τ.heap i = some y) → ∀ x : Itm, x ∈ L → ai_ Tryz.prog G (vStr x.place :: cp) τ fun v τ' => v = vB (q x.place) ∧ τ = τ'
theorem tJ_ {x : Itm} {L : List Itm} {q G : Nat} {cp : List AVal} {r : ByteArray → Bool} {σ : Store} (hx : x ∈ L) (hf : PFS G cp σ r L) (hq : σ.heap q = some (.cells [fnSb G cp])) : ai_ Tryz.prog 111 [aD_ x, .ref q 0] σ fun v σ' => v = vB (!r x.place) ∧ σ = σ' := by
 have hgo := hf.1
 refine en_ Tryz.func111 Tryz.ntmps111 Tryz.results111 ?_
 refine rr_ ?_
 refine bx_ fun o2 ho2 => ?_
 repeat (first | (rw [ac_] at ho2; obtain ⟨_, ho2⟩ := ho2) | simp only [Store.newTok_heap] at ho2)
 refine s_ ?_
 refine aa_ ?_
 have n3 := aF_ hq ho2
 refine ab_ ?_
 have R := hq
 refine r_ ?_
 iterate 3 refine s_ ?_
 refine aL_X rfl rfl (aU_ rfl rfl (.inl v_) g_ va_ (hf.2 _ (fun i y h => c5_ ho2 h) x hx) ?_); rintro _ _ ⟨rfl, rfl⟩
 iterate 2 refine s_ ?_
 refine aa_ ?_
 refine af_ ?_
 refine er_ σ ?_
 exact ⟨rfl, rfl⟩
theorem sH_ {b : Bk} {G : Nat} {cp : List AVal} {q : ByteArray → Bool} {σ : Store} (hl : b.items.length ≤ 1000000) (hf : PFS G cp σ q b.items) : ai_ Tryz.prog 51 [sBk b, fnSb G cp] σ fun v σ' => v = .sl 3 ((b.items.filter fun x => q x.place).map aD_) false ∧ σ = σ' := by
 refine en_ Tryz.func51 Tryz.ntmps51 Tryz.results51 ?_
 refine rr_ ?_
 refine bx_ fun o2 ho2 => ?_
 repeat (first | (rw [ac_] at ho2; obtain ⟨_, ho2⟩ := ho2) | simp only [Store.newTok_heap] at ho2)
 refine bx_ fun o3 ho3 => ?_
 repeat (first | (rw [ac_] at ho3; obtain ⟨_, ho3⟩ := ho3) | simp only [Store.newTok_heap] at ho3)
 refine s_ ?_
 refine aa_ ?_
 have hS : ∀ i y, σ.heap i = some y → ((σ.set o2 (.cells (sBk b).cells)).set o3 (.cells [fnSb G cp])).heap i = some y := fun i y h => by
  rw [Store.set_ne _ _ (fun hh => by rw [hh, ho3] at h; cases h), Store.set_ne _ _ (fun hh => by rw [hh, ho2] at h; cases h)]; exact h
 refine rr_ ?_
 iterate 2 refine s_ ?_
 refine x_ g_ va_ (oG_ hl) ?_; rintro _ τ0 hC0
 refine s_ ?_
 refine x_ g_ va_ (mj_ (p := fun x => !q x.place) ⟨by kernel_rfl, fun τ h x hx => tJ_ hx ⟨hf.1, fun τ' h' => hf.2 τ' fun i y hy => h' i y (h i y (hS i y hy))⟩ (h o3 _ h_)⟩ hC0 hl) ?_; rintro _ _ ⟨rfl, rfl⟩
 refine s_ ?_
 refine aa_ ?_
 refine af_ ?_
 refine er_ σ ?_
 exact ⟨by simp, rfl⟩
theorem uR_ {p s : ByteArray} {q : Nat} {σ : Store} (hp : p.size ≤ 1000000) (hq : σ.heap q = some (.cells [vStr s])) : ai_ Tryz.prog 52 [vStr p, .ref q 0] σ fun v σ' => v = vB (buk s p) ∧ σ = σ' := by
 refine en_ Tryz.func52 Tryz.ntmps52 Tryz.results52 ?_
 refine rr_ ?_
 refine s_ ?_
 refine aa_ ?_
 refine rr_ ?_
 refine s_ ?_
 refine x_ g_ va_ (qa_ (by omega)) ?_; rintro _ _ ⟨rfl, rfl⟩
 iterate 7 refine s_ ?_
 refine aa_ ?_
 refine ab_ ?_
 have R := hq
 refine r_ ?_
 iterate 2 refine s_ ?_
 refine gt_ ?_
 refine gt_ ?_
 refine gt_ ?_
 iterate 2 refine s_ ?_
 refine aa_ ?_
 refine af_ ?_
 refine er_ σ ?_
 exact ⟨by unfold buk; cases (da_ p).2.2 <;> rfl, rfl⟩
theorem i1_ {b : Bk} {s : ByteArray} {σ : Store} (hb : BkSm b) : ai_ Tryz.prog 18 [sBk b, vStr s] σ fun v σ' => v = .sl 3 ((bukS b s).map aD_) false ∧ σ = σ' := by
 have ni := hb.ni
 refine en_ Tryz.func18 Tryz.ntmps18 Tryz.results18 ?_
 refine rr_ ?_
 refine bx_ fun o2 ho2 => ?_
 repeat (first | (rw [ac_] at ho2; obtain ⟨_, ho2⟩ := ho2) | simp only [Store.newTok_heap] at ho2)
 refine bx_ fun o3 ho3 => ?_
 repeat (first | (rw [ac_] at ho3; obtain ⟨_, ho3⟩ := ho3) | simp only [Store.newTok_heap] at ho3)
 refine s_ ?_
 refine aa_ ?_
 refine rr_ ?_
 iterate 2 refine s_ ?_
 refine x_ g_ va_ (sH_ (q := buk s) (by omega) ⟨by kernel_rfl, fun τ h x hx => uR_ (hb.items x hx).place (h o3 _ h_)⟩) ?_; rintro _ _ ⟨rfl, rfl⟩
 refine s_ ?_
 refine aa_ ?_
 refine af_ ?_
 refine er_ σ ?_
 exact ⟨rfl, rfl⟩
theorem vI_ {p t : ByteArray} {k n : Int} {q1 q2 q3 : Nat} {σ : Store} (ht : t.size ≤ 1000000) (hp : p.size ≤ 1000000) (h1 : σ.heap q1 = some (.cells [vStr t])) (h2 : σ.heap q2 = some (.cells [vInt n])) (h3 : σ.heap q3 = some (.cells [vInt k])) : ai_ Tryz.prog 55 [vStr p, .ref q1 0, .ref q2 0, .ref q3 0] σ fun v σ' => v = vB (decide (fx_ t p n = k)) ∧ σ = σ' := by
 refine en_ Tryz.func55 Tryz.ntmps55 Tryz.results55 ?_
 refine rr_ ?_
 refine s_ ?_
 refine aa_ ?_
 refine ab_ ?_
 have R := And.intro h1 (And.intro h2 h3)
 refine ap_ (.op 0 0 (.op 1 0 (.op 2 0 (.op 4 0 (.op 3 1 (.op 5 0 (.op 6 0 .nil))))))) Tryz.mixed kr_ ?_
 iterate 4 refine ds_ ?_
 refine dx_ o_ g_ va_ (vH_ ht hp) ?_; rintro _ _ ⟨rfl, rfl⟩; refine ⟨sub_, ?_⟩
 iterate 2 refine ds_ ?_
 refine aB_ ?_
 refine af_ ?_
 refine er_ σ ?_
 exact ⟨rfl, rfl⟩
theorem m7_ {b : Bk} {t : ByteArray} {k n : Int} {σ : Store} (hb : BkSm b) (ht : t.size ≤ 1000000) : ai_ Tryz.prog 20 [sBk b, vStr t, vInt k, vInt n] σ fun v σ' => v = .sl 3 ((prtS b t k n).map aD_) false ∧ σ = σ' := by
 have ni := hb.ni
 refine en_ Tryz.func20 Tryz.ntmps20 Tryz.results20 ?_
 refine rr_ ?_
 refine bx_ fun o4 ho4 => ?_
 repeat (first | (rw [ac_] at ho4; obtain ⟨_, ho4⟩ := ho4) | simp only [Store.newTok_heap] at ho4)
 refine bx_ fun o5 ho5 => ?_
 repeat (first | (rw [ac_] at ho5; obtain ⟨_, ho5⟩ := ho5) | simp only [Store.newTok_heap] at ho5)
 refine bx_ fun o6 ho6 => ?_
 repeat (first | (rw [ac_] at ho6; obtain ⟨_, ho6⟩ := ho6) | simp only [Store.newTok_heap] at ho6)
 refine bx_ fun o7 ho7 => ?_
 repeat (first | (rw [ac_] at ho7; obtain ⟨_, ho7⟩ := ho7) | simp only [Store.newTok_heap] at ho7)
 refine s_ ?_
 refine aa_ ?_
 refine rr_ ?_
 iterate 2 refine s_ ?_
 refine x_ g_ va_ (sH_ (q := fun p => decide (fx_ t p n = k)) (by omega) ⟨by kernel_rfl, fun τ h x hx => vI_ ht (hb.items x hx).place (h o5 _ h_) (h o7 _ h_) (h o6 _ h_)⟩) ?_; rintro _ _ ⟨rfl, rfl⟩
 refine s_ ?_
 refine aa_ ?_
 refine af_ ?_
 refine er_ σ ?_
 exact ⟨rfl, rfl⟩
theorem ctSb {F : Nat} {caps : List AVal} {p : Sib → Bool} {L : List Sib} {t : Bool} {σ : Store} (hF : PFSb F caps σ p L) (hl : L.length ≤ 1000000) : ai_ Tryz.prog 47 [.sl 5 (L.map sSib) t, fnSb F caps] σ fun v σ' => v = vB (L.any p) ∧ σ = σ' := by
 have hgo := hF.1
 refine en_ Tryz.func47 Tryz.ntmps47 Tryz.results47 ?_
 refine rr_ ?_
 refine s_ ?_
 refine aa_ ?_
 refine rr_ ?_
 iterate 2 refine s_ ?_
 refine x_ g_ va_ (vA_ hF hl) ?_; rintro _ _ ⟨⟨r, rfl, hr⟩, rfl⟩
 iterate 2 refine s_ ?_
 refine aa_ ?_
 refine af_ ?_
 refine er_ σ ?_
 refine ⟨?_, rfl⟩
 rcases hr with ⟨rfl, h⟩ | ⟨j, x, rfl, _, h⟩
 ·rw [show L.any p = false from List.any_eq_false.2 (List.find?_eq_none.1 h)]; rfl
 ·rw [show L.any p = true from List.any_eq_true.2 ⟨x, List.mem_of_find?_eq_some h, List.find?_some h⟩, decide_eq_true (by omega)]
theorem eq_ {x : Sib} {t : Int} {q : Nat} {σ : Store} (hq : σ.heap q = some (.cells [vInt t])) : ai_ Tryz.prog 46 [sSib x, .ref q 0] σ fun v σ' => v = vB (oldS t x) ∧ σ = σ' := by
 refine en_ Tryz.func46 Tryz.ntmps46 Tryz.results46 ?_
 refine rr_ ?_
 refine bx_ fun o2 ho2 => ?_
 repeat (first | (rw [ac_] at ho2; obtain ⟨_, ho2⟩ := ho2) | simp only [Store.newTok_heap] at ho2)
 refine s_ ?_
 refine aa_ ?_
 have n3 := aF_ hq ho2
 refine ab_ ?_
 have R := hq
 refine r_ ?_
 iterate 3 refine s_ ?_
 refine gt_ ?_
 refine gt_ ?_
 refine gt_ ?_
 refine gt_ ?_
 iterate 2 refine s_ ?_
 refine aa_ ?_
 refine af_ ?_
 refine er_ σ ?_
 exact ⟨by unfold oldS; cases x.gone <;> rfl, rfl⟩
theorem kJ_ {t : Int} {l : List Itm} {i : Nat} {x : Itm} (hx : l[i]? = some x) (h : hasO t x = true) : vBs (cj_ t (l.take (i + 1))) = vBs (cj_ t (l.take i)) ++ [vStr (B (cA_ x.place (rpO t x.obj)).1)] := by
 rw [ax_ hx, cj_, List.filter_append, List.map_append]; simp [h, cj_, vBs]
theorem m1_ {t : Int} {l : List Itm} {i : Nat} {x : Itm} (hx : l[i]? = some x) (h : hasO t x = false) : vBs (cj_ t (l.take (i + 1))) = vBs (cj_ t (l.take i)) := by
 rw [ax_ hx, cj_, List.filter_append, List.map_append]; simp [h, cj_, vBs]
theorem kI_ (t : Int) (l : List Itm) (k : Nat) (hk : k ≤ l.length) : (cj_ t (l.take k)).length ≤ k := by
 rw [cj_, List.length_map]; exact Nat.le_trans (List.length_filter_le ..) (by rw [List.length_take]; omega)
theorem v3_ {σ : Store} {o i : Nat} {x y : AObj} (h : o ≠ i) : (σ.set o x).set i y = (σ.set i y).set o x := by
 simp only [Store.set]
 congr 1
 funext j
 by_cases h1 : j = i
 ·subst h1; simp [Ne.symm h]
 ·by_cases h2 : j = o
  ·subst h2; simp [h]
  ·simp [h1, h2]
theorem CBSb.sub {σ0 σ : Store} {L : List Sib} {v : AVal} (h : CBSb σ0 σ L v) : σ0.Sub σ := by
 rcases h with ⟨_, _, rfl⟩ | ⟨o, c, ho, _, _, _, rfl⟩
 ·exact Store.Sub.refl _
 ·exact jG_ ho
theorem CBSb.set {σ0 σ : Store} {L : List Sib} {v : AVal} {j : Nat} {y : AObj} (h : CBSb σ0 σ L v) (hj : σ.heap j = none) : CBSb (σ0.set j y) (σ.set j y) L v := by
 rcases h with ⟨h1, h2, rfl⟩ | ⟨o, c, h0, h1, h2, h3, rfl⟩
 ·exact .inl ⟨h1, h2, rfl⟩
 ·obtain ⟨n, h9⟩ := ac_.1 hj
  exact .inr ⟨o, c, by rw [Store.set_ne _ _ (Ne.symm n)]; exact h0, h1, h2, h3, v3_ (Ne.symm n)⟩
theorem CBSb.non {σ0 σ : Store} {L : List Sib} {v : AVal} {j : Nat} (h : CBSb σ0 σ L v) (hj : σ.heap j = none) : σ0.heap j = none := by
 cases e : σ0.heap j with
 |none => rfl
 |some x => rw [h.sub.heap j x e] at hj; cases hj
set_option maxHeartbeats 2000000 in
theorem ga_ {b : Bk} {t : Int} {σ : Store} (hb : BkSm b) : ai_ Tryz.prog 15 [sBk b, vInt t] σ fun v σ' => v = .sl 1 (vBs (bU_ b t)) false ∧ σ = σ' := by
 have ni := hb.ni
 refine en_ Tryz.func15 Tryz.ntmps15 Tryz.results15 ?_
 refine rr_ ?_
 refine bx_ fun o2 ho2 => ?_
 repeat (first | (rw [ac_] at ho2; obtain ⟨_, ho2⟩ := ho2) | simp only [Store.newTok_heap] at ho2)
 refine bx_ fun o3 ho3 => ?_
 repeat (first | (rw [ac_] at ho3; obtain ⟨_, ho3⟩ := ho3) | simp only [Store.newTok_heap] at ho3)
 refine s_ ?_
 refine aa_ ?_
 refine ab_ ?_
 refine rr_ ?_
 refine s_ ?_
 refine x_ g_ va_ (hs_ hb) ?_; rintro _ _ ⟨rfl, rfl⟩
 refine s_ ?_
 refine aa_ ?_
 refine cd_ (fun hc1 => ?_) (fun hc1 => ?_)
 ·have hB : bkOk b = false := by cases h : bkOk b with | false => rfl | true => rw [h] at hc1; simp at hc1
  refine rr_ ?_
  refine s_ ?_
  refine aa_ ?_
  refine af_ ?_
  rw [show bU_ b t = [] from by rw [bU_, hB]; rfl]
  exact aw_ (v := .sl 1 [] false) (v' := .lit (.slice none 0 0)) va_ (.nil _ _) sub_ ⟨rfl, rfl⟩
 ·have hB : bkOk b = true := by cases h : bkOk b with | true => rfl | false => rw [h] at hc1; simp at hc1
  have hR : bU_ b t = cj_ t b.items := by rw [bU_, if_pos hB]
  refine ae_ ?_
  refine rr_ ?_
  iterate 2 refine s_ ?_
  refine aa_ ?_
  refine rr_ ?_
  refine a8_ 9 1 rfl rfl rfl (by rfl) fun k6 hk6 => ?_
  refine aa_ ?_
  refine ab_ ?_
  refine rr_ ?_
  iterate 4 refine s_ ?_
  refine aa_ ?_
  refine ag_ ?_
  refine ah_ (ι := Nat × Nat) (fun ⟨tk, k⟩ => b.items.length - k) (fun ⟨tk, k⟩ => k ≤ b.items.length ∧ σ.tok tk = none) (fun ⟨tk, k⟩ => [(5, fnSb 46 [.ref o3 0]), (6, .own tk 1 (vBs (cj_ t (b.items.take k)))), (17, .sl 3 (b.items.map aD_) false), (18, vInt b.items.length), (19, vInt k)]) (fun ⟨tk, k⟩ => (((σ.set o2 (.cells (sBk b).cells)).set o3 (.cells [vInt t])).newTok none tk (9, 1))) (k6, 0) ?_ ?_ ?_ ?_
  ·exact ⟨Nat.zero_le _, hk6⟩
  ·exact cv_
  ·exact Store.Wk.refl _
  rintro ⟨tk, k⟩ ⟨hk, htk⟩
  simp only [ak_, am_]
  refine rr_ ?_
  refine s_ ?_
  refine aa_ ?_
  refine ab_ ?_
  refine cd_ (fun hc6 => ?_) (fun hc6 => ?_)
  ·refine ae_ ?_
   refine ab_ ?_
   refine ag_ ?_
   refine ab_ ?_
   obtain ⟨x, hx⟩ := aq_ (l := b.items) (k := k) (by omega)
   have sx := hb.items x (List.mem_of_getElem? hx)
   have hsl := sx.obj.ns
   have hlen := kI_ t b.items k (by omega)
   have R := hx
   refine r_ ?_
   iterate 2 refine s_ ?_
   refine lc_ fun o8 ho8 => ?_
   repeat (first | (rw [ac_] at ho8; obtain ⟨_, ho8⟩ := ho8) | simp only [Store.newTok_heap] at ho8)
   refine st_ ?_
   refine aa_ ?_
   refine ab_ ?_
   refine rr_ ?_
   iterate 4 refine s_ ?_
   refine x_ g_ va_ (ctSb (p := oldS t) ⟨by kernel_rfl, fun τ h y _ => eq_ (h o3 _ h_)⟩ (by omega)) ?_; rintro _ _ ⟨rfl, rfl⟩
   refine s_ ?_
   refine aa_ ?_
   refine cd_ (fun hc8 => ?_) (fun hc8 => ?_)
   ·have hcv := m1_ hx (by simpa [hasO] using hc8)
    refine an_ ?_
    refine ad_ ?_
    refine aj_ ?_
    refine r_ ?_
    iterate 2 refine s_ ?_
    refine aa_ ?_
    refine aC_ (ι := Nat × Nat) (i := ⟨tk, k⟩) (tk, k + 1) ?_ ?_ ?_ ?_
    ·show b.items.length - (k + 1) < b.items.length - k; omega
    ·exact ⟨by show k + 1 ≤ b.items.length; omega, htk⟩
    ·have R := hcv; exact cv_
    ·exact sub_
   ·have hcv := kJ_ hx (show hasO t x = true by simpa [hasO] using hc8)
    refine ae_ ?_
    refine ab_ ?_
    refine ap_ (.op 0 0 (.op 1 0 (.op 2 0 (.op 3 0 (.op 4 0 (.op 5 0 (.op 7 0 (.alt 6 1 (.alt 8 1 (.op 9 0 (.op 10 1 (.op 11 2 .nil))) (.op 10 1 (.op 8 1 (.op 9 0 (.op 11 2 .nil))))) (.op 10 1 (.op 6 1 (.op 8 1 (.op 9 0 (.op 11 2 .nil))))))))))))) Tryz.mixed kr_ ?_
    iterate 7 refine ds_ ?_
    refine c8_ ?_ ?_
    ·refine dx_ o_ g_ va_ (oH_ (L := x.obj.sibs) (by omega)) ?_; rintro _ τ0 hC0; refine ⟨by first | exact hC0.sub | exact Store.Sub.trans (jG_ (by simp (disch := omega) only [Store.set_ne, Store.newTok_heap]; exact ho9)) hC0.sub, ?_⟩
     refine c8_ ?_ ?_
     ·refine dx_ o_ g_ va_ (by first | exact e4_ (p := oldS t) ⟨by kernel_rfl, fun τ h y _ => eq_ (h o3 _ h_)⟩ hC0 (by omega) | exact e4_ (p := oldS t) ⟨by kernel_rfl, fun τ h y _ => eq_ (h o3 _ h_)⟩ (hC0.set ho9) (by omega)) ?_; rintro _ _ ⟨rfl, rfl⟩; refine ⟨sub_, ?_⟩
      refine ds_ ?_
      refine g5_ o_ (by rfl) (by rfl) (by rfl) g_ g_ (by first | exact hC0.sub | exact sub_) fun o9 ho9 => ?_
      repeat (first | (rw [ac_] at ho9; obtain ⟨_, ho9⟩ := ho9) | simp only [Store.newTok_heap] at ho9)
      try (have h9 := hC0.non ho9; repeat (first | (rw [ac_] at h9; obtain ⟨_, h9⟩ := h9) | simp only [Store.newTok_heap] at h9))
      refine dst_ ?_
      refine aB_ ?_
      refine rr_ ?_
      iterate 3 refine s_ ?_
      refine x_ g_ va_ (em_ (o := rpO t x.obj) sx.place (rF_ sx.obj)) ?_; rintro _ _ ⟨rfl, rfl⟩
      iterate 5 refine s_ ?_
      refine aa_ ?_
      refine r_ ?_
      iterate 2 refine s_ ?_
      refine ao_ rfl rfl rfl g_ g_ rfl rfl h_ c2_ (by decide) ?_
      refine aM_ rfl rfl rfl g_ g_ v_ h_ v_ c_ (by simp [fE_]; omega) fun k49 hk49 => ?_
      have t49 : σ.tok k49 = none := (aE_ hk49).2
      refine s_ ?_
      refine aa_ ?_
      refine r_ ?_
      iterate 2 refine s_ ?_
      refine aa_ ?_
      refine aC_ (ι := Nat × Nat) (i := ⟨tk, k⟩) (k49, k + 1) ?_ ?_ ?_ ?_
      ·show b.items.length - (k + 1) < b.items.length - k; omega
      ·exact ⟨by show k + 1 ≤ b.items.length; omega, t49⟩
      ·have R := hcv; exact cv_
      ·exact sub_
     refine g5_ o_ (by rfl) (by rfl) (by rfl) g_ g_ (by first | exact hC0.sub | exact sub_) fun o9 ho9 => ?_
     repeat (first | (rw [ac_] at ho9; obtain ⟨_, ho9⟩ := ho9) | simp only [Store.newTok_heap] at ho9)
     try (have h9 := hC0.non ho9; repeat (first | (rw [ac_] at h9; obtain ⟨_, h9⟩ := h9) | simp only [Store.newTok_heap] at h9))
     refine dx_ o_ g_ va_ (by first | exact e4_ (p := oldS t) ⟨by kernel_rfl, fun τ h y _ => eq_ (h o3 _ h_)⟩ hC0 (by omega) | exact e4_ (p := oldS t) ⟨by kernel_rfl, fun τ h y _ => eq_ (h o3 _ h_)⟩ (hC0.set ho9) (by omega)) ?_; rintro _ _ ⟨rfl, rfl⟩; refine ⟨sub_, ?_⟩
     refine ds_ ?_
     refine dst_ ?_
     refine aB_ ?_
     refine rr_ ?_
     iterate 3 refine s_ ?_
     refine x_ g_ va_ (em_ (o := rpO t x.obj) sx.place (rF_ sx.obj)) ?_; rintro _ _ ⟨rfl, rfl⟩
     iterate 5 refine s_ ?_
     refine aa_ ?_
     refine r_ ?_
     iterate 2 refine s_ ?_
     refine ao_ rfl rfl rfl g_ g_ rfl rfl h_ c2_ (by decide) ?_
     refine aM_ rfl rfl rfl g_ g_ v_ h_ v_ c_ (by simp [fE_]; omega) fun k49 hk49 => ?_
     have t49 : σ.tok k49 = none := (aE_ hk49).2
     refine s_ ?_
     refine aa_ ?_
     refine r_ ?_
     iterate 2 refine s_ ?_
     refine aa_ ?_
     refine aC_ (ι := Nat × Nat) (i := ⟨tk, k⟩) (k49, k + 1) ?_ ?_ ?_ ?_
     ·show b.items.length - (k + 1) < b.items.length - k; omega
     ·exact ⟨by show k + 1 ≤ b.items.length; omega, t49⟩
     ·have R := hcv; exact cv_
     ·exact sub_
    refine g5_ o_ (by rfl) (by rfl) (by rfl) g_ g_ (by first | exact hC0.sub | exact sub_) fun o9 ho9 => ?_
    repeat (first | (rw [ac_] at ho9; obtain ⟨_, ho9⟩ := ho9) | simp only [Store.newTok_heap] at ho9)
    try (have h9 := hC0.non ho9; repeat (first | (rw [ac_] at h9; obtain ⟨_, h9⟩ := h9) | simp only [Store.newTok_heap] at h9))
    refine dx_ o_ g_ va_ (oH_ (L := x.obj.sibs) (by omega)) ?_; rintro _ τ0 hC0; refine ⟨by first | exact hC0.sub | exact Store.Sub.trans (jG_ (by simp (disch := omega) only [Store.set_ne, Store.newTok_heap]; exact ho9)) hC0.sub, ?_⟩
    refine dx_ o_ g_ va_ (by first | exact e4_ (p := oldS t) ⟨by kernel_rfl, fun τ h y _ => eq_ (h o3 _ h_)⟩ hC0 (by omega) | exact e4_ (p := oldS t) ⟨by kernel_rfl, fun τ h y _ => eq_ (h o3 _ h_)⟩ (hC0.set ho9) (by omega)) ?_; rintro _ _ ⟨rfl, rfl⟩; refine ⟨sub_, ?_⟩
    refine ds_ ?_
    refine dst_ ?_
    refine aB_ ?_
    refine rr_ ?_
    iterate 3 refine s_ ?_
    refine x_ g_ va_ (em_ (o := rpO t x.obj) sx.place (rF_ sx.obj)) ?_; rintro _ _ ⟨rfl, rfl⟩
    iterate 5 refine s_ ?_
    refine aa_ ?_
    refine r_ ?_
    iterate 2 refine s_ ?_
    refine ao_ rfl rfl rfl g_ g_ rfl rfl h_ c2_ (by decide) ?_
    refine aM_ rfl rfl rfl g_ g_ v_ h_ v_ c_ (by simp [fE_]; omega) fun k49 hk49 => ?_
    have t49 : σ.tok k49 = none := (aE_ hk49).2
    refine s_ ?_
    refine aa_ ?_
    refine r_ ?_
    iterate 2 refine s_ ?_
    refine aa_ ?_
    refine aC_ (ι := Nat × Nat) (i := ⟨tk, k⟩) (k49, k + 1) ?_ ?_ ?_ ?_
    ·show b.items.length - (k + 1) < b.items.length - k; omega
    ·exact ⟨by show k + 1 ≤ b.items.length; omega, t49⟩
    ·have R := hcv; exact cv_
    ·exact sub_
  ·refine an_ ?_
   refine ad_ ?_
   refine ad_ ?_
   refine aj_ ?_
   refine ab_ ?_
   obtain rfl : k = b.items.length := by omega
   rw [List.take_length]
   refine r_ ?_
   iterate 2 refine s_ ?_
   refine aa_ ?_
   refine af_ ?_
   rw [hR]
   exact aw_ (v := .sl 1 (vBs (cj_ t b.items)) false) (v' := .own tk 1 (vBs (cj_ t b.items))) va_ (.own1 _ _ _) sub_ ⟨rfl, rfl⟩
theorem wn_ {r : AVal} : Wk (.tup [.agg [vNil, vNil], r]) (.tup [sObj ⟨[], []⟩, r]) := .tup _ _ rfl (fun i hi hi' => by match i, hi with | 0, _ => exact .agg _ _ rfl (fun j hj hj' => by match j, hj with | 0, _ => exact .nil _ _ | 1, _ => exact .nil _ _) | 1, _ => exact .refl _)
theorem f6_ {b : Bk} {s : ByteArray} {σ : Store} (hb : b.items.length ≤ 1000000) : ai_ Tryz.prog 26 [sBk b, vStr s] σ fun v σ' => v = .tup [sObj (getS b.items s).1, vB (getS b.items s).2] ∧ σ = σ' := by
 refine en_ Tryz.func26 Tryz.ntmps26 Tryz.results26 ?_
 refine rr_ ?_
 refine bx_ fun o2 ho2 => ?_
 repeat (rw [ac_] at ho2; obtain ⟨_, ho2⟩ := ho2)
 refine lc_ fun o4 ho4 => ?_
 repeat (rw [ac_] at ho4; obtain ⟨_, ho4⟩ := ho4)
 refine s_ ?_
 refine aa_ ?_
 refine ab_ ?_
 refine rr_ ?_
 refine s_ ?_
 refine aa_ ?_
 refine ag_ ?_
 refine ah_ (ι := Nat) (fun i => b.items.length - i) (fun i => i ≤ b.items.length ∧ getS b.items s = getS (b.items.drop i) s) (fun i => [(1, vStr s), (2, .ref o2 0), (4, .ref o4 0), (6, vInt i)]) (fun i => ((σ.set o2 (.cells (sBk b).cells)).set o4 (.cells [vNil, vNil]))) 0 ?_ ?_ ?_ ?_
 ·exact ⟨Nat.zero_le _, rfl⟩
 ·exact cv_
 ·exact Store.Wk.refl _
 rintro i ⟨hi, hg⟩
 simp only [ak_, am_]
 refine ab_ ?_
 refine rr_ ?_
 iterate 5 refine s_ ?_
 refine aa_ ?_
 refine cd_ (fun hc2 => ?_) (fun hc2 => ?_)
 ·refine ae_ ?_
  refine ab_ ?_
  refine ag_ ?_
  refine ab_ ?_
  obtain ⟨x, hx⟩ := aq_ (l := b.items) (k := i) (by omega)
  have hd := bh_ hx
  have R := hx
  refine r_ ?_
  iterate 8 refine s_ ?_
  refine aa_ ?_
  refine cd_ (fun hc4 => ?_) (fun hc4 => ?_)
  ·have hv : getS b.items s = (x.obj, true) := by rw [hg, hd, b7_, if_pos hc4]
   refine ab_ ?_
   have R := hx
   refine r_ ?_
   iterate 6 refine s_ ?_
   refine st_ ?_
   refine s_ ?_
   refine aa_ ?_
   refine af_ ?_
   refine er_ σ ?_
   exact ⟨by rw [hv], rfl⟩
  ·have hstep : getS b.items s = getS (b.items.drop (i + 1)) s := by rw [hg, hd, b7_, if_neg hc4]
   refine ae_ ?_
   refine r_ ?_
   iterate 3 refine s_ ?_
   refine aa_ ?_
   refine aC_ (ι := Nat) (i := i) (i + 1) ?_ ?_ ?_ ?_
   ·omega
   ·exact ⟨by omega, hstep⟩
   ·exact cv_
   ·exact sub_
 ·refine an_ ?_
  refine ad_ ?_
  refine ad_ ?_
  refine aj_ ?_
  refine ab_ ?_
  have hv : getS b.items s = (⟨[], []⟩, false) := by rw [hg, List.drop_of_length_le (by omega)]; rfl
  refine r_ ?_
  refine s_ ?_
  refine st_ ?_
  refine s_ ?_
  refine aa_ ?_
  refine af_ ?_
  rw [hv]
  exact aw_ (v := .tup [sObj ⟨[], []⟩, vB false]) (v' := .tup [.agg [vNil, vNil], vB false]) va_ wn_ sub_ ⟨rfl, rfl⟩
theorem h5_ {b : Bk} {σ : Store} (hb : ∀ x ∈ b.items, ItemSm x) (hn : b.items.length ≤ 100000) : ai_ Tryz.prog 25 [sBk b] σ fun v σ' => v = vInt (sizB b) ∧ σ = σ' := by
 refine en_ Tryz.func25 Tryz.ntmps25 Tryz.results25 ?_
 refine rr_ ?_
 refine bx_ fun o1 ho1 => ?_
 repeat (rw [ac_] at ho1; obtain ⟨_, ho1⟩ := ho1)
 refine s_ ?_
 refine aa_ ?_
 refine rr_ ?_
 refine s_ ?_
 refine aa_ ?_
 refine ab_ ?_
 refine rr_ ?_
 refine s_ ?_
 refine aa_ ?_
 refine ag_ ?_
 refine ah_ (ι := Nat) (fun k => b.items.length - k) (fun k => k ≤ b.items.length) (fun k => [(1, .ref o1 0), (3, vInt (((b.items.take k).map fItm).sum : Nat)), (4, vInt k)]) (fun k => (σ.set o1 (.cells (sBk b).cells))) 0 ?_ ?_ ?_ ?_
 ·exact Nat.zero_le _
 ·exact cv_
 ·exact Store.Wk.refl _
 rintro k hk
 simp only [ak_, am_]
 refine ab_ ?_
 refine rr_ ?_
 iterate 5 refine s_ ?_
 refine aa_ ?_
 refine cd_ (fun hc3 => ?_) (fun hc3 => ?_)
 ·refine ae_ ?_
  refine ab_ ?_
  refine ag_ ?_
  obtain ⟨x, hx⟩ := aq_ (l := b.items) (k := k) (by omega)
  have hxs := hb x (List.mem_of_getElem? hx)
  have hxb := je_ hxs
  have hfx : fItm x = x.place.size + kT_ x.obj := rfl
  have hb1 : ((b.items.take k).map fItm).sum ≤ 2000000000000000 := by
   have h1 := i4_ (f := fItm) (c := 20000000000) (l := b.items.take k) fun y hy => je_ (hb y (List.mem_of_mem_take hy))
   exact Nat.le_trans h1 (Nat.le_trans (Nat.mul_le_mul_left _ (show (b.items.take k).length ≤ 100000 by rw [List.length_take]; omega)) (by decide))
  have hs : ((((b.items.take k).map fItm).sum : Nat) : Int) + (x.place.size : Int) + (kT_ x.obj : Int) = ((((b.items.take (k + 1)).map fItm).sum : Nat) : Int) := by rw [ff_ hx, hfx]; simp; omega
  have R := And.intro hx hs
  refine ap_ (.op 0 0 (.op 1 0 (.op 2 0 (.op 3 0 (.op 4 0 (.op 5 0 (.op 6 0 (.op 7 0 (.op 8 0 (.op 9 0 (.op 10 0 (.op 11 0 (.op 12 0 (.op 13 0 (.op 14 0 (.op 15 1 (.op 16 0 (.op 17 0 .nil)))))))))))))))))) Tryz.mixed kr_ ?_
  iterate 15 refine ds_ ?_
  refine dx_ o_ g_ va_ (tO_ hxs.obj) ?_; rintro _ _ ⟨rfl, rfl⟩; refine ⟨sub_, ?_⟩
  iterate 2 refine ds_ ?_
  refine aB_ ?_
  refine r_ ?_
  iterate 3 refine s_ ?_
  refine aa_ ?_
  refine aC_ (ι := Nat) (i := k) (k + 1) ?_ ?_ ?_ ?_
  ·omega
  ·show k + 1 ≤ b.items.length; omega
  ·have R := hs; exact cv_
  ·exact sub_
 ·refine an_ ?_
  refine ad_ ?_
  refine ad_ ?_
  refine aj_ ?_
  refine ab_ ?_
  have hfull : b.items.take k = b.items := List.take_of_length_le (by omega)
  rw [hfull]
  refine r_ ?_
  iterate 2 refine s_ ?_
  refine aa_ ?_
  refine af_ ?_
  refine er_ σ ?_
  exact ⟨rfl, rfl⟩
set_option maxHeartbeats 2000000 in
theorem pT_ {b : Bk} {n : Int} {p : ByteArray} {o : Obj'} {σ : Store} (hb : dn_ b = true) (hp : p.size ≤ 1000000) (ho : FewO o) : ai_ Tryz.prog 11 [sBk b, vInt n, vStr p, sObj o] σ fun v σ' => v = .tup [vStr (B (repW b n p o).1), vInt (repW b n p o).2] ∧ σ = σ' := by
 have hB : BkSm b := (cx_ hb).sm (by omega)
 have hl8 := ee_ hb
 have hos := ho.sm
 obtain ⟨g1, _, _⟩ := kh_ hb p
 obtain ⟨m1, m2⟩ := mH_ hb ho p
 have hr1 := ia_ (p := p) m1
 have hr2 := ia_ (p := p) hos
 have hI1 := qE_ (cx_ hb) hr1
 have hI2 := qE_ (cx_ hb) hr2
 have hJ1 := Nat.le_trans hI1.ni (show 8 + 1 ≤ 100000 by decide)
 have hJ2 := Nat.le_trans hI2.ni (show 8 + 1 ≤ 100000 by decide)
 have hL1 := Nat.le_trans (f3_ hp m1) (show 100000000000 ≤ 1000000000000 by decide)
 have hL2 := Nat.le_trans (f3_ hp hos) (show 100000000000 ≤ 1000000000000 by decide)
 refine en_ Tryz.func11 Tryz.ntmps11 Tryz.results11 ?_
 refine rr_ ?_
 refine bx_ fun o4 ho4 => ?_
 repeat (rw [ac_] at ho4; obtain ⟨_, ho4⟩ := ho4)
 refine bx_ fun o7 ho7 => ?_
 repeat (rw [ac_] at ho7; obtain ⟨_, ho7⟩ := ho7)
 iterate 2 refine s_ ?_
 refine aa_ ?_
 refine ab_ ?_
 refine rr_ ?_
 refine s_ ?_
 refine x_ g_ va_ (gA_ hB) ?_; rintro _ _ ⟨rfl, rfl⟩
 iterate 2 refine s_ ?_
 refine gf_ ?_
 refine bt_ rfl rfl v_ rfl (fun hb => av_ (by rfl) (by rfl) (.inr ⟨by rfl, by rfl, by rfl⟩) g_ cg_ (cO_ (by omega))) ?_
 refine gf_ ?_
 iterate 2 refine s_ ?_
 refine gf_ ?_
 refine bt_ rfl rfl v_ rfl (fun hb => av_ (by rfl) (by rfl) (.inr ⟨by rfl, by rfl, by rfl⟩) g_ cg_ (dF_ hos)) ?_
 refine gf_ ?_
 refine s_ ?_
 refine aa_ ?_
 refine cd_ (fun hc1 => ?_) (fun hc1 => ?_)
 ·have hno : cH_ b p o = false := by
   unfold cH_
   rcases hc1 with (h | h) | h <;> simp [h]
  refine rr_ ?_
  iterate 2 refine s_ ?_
  refine aa_ ?_
  refine af_ ?_
  refine er_ σ ?_
  exact ⟨by rw [repW, hno]; rfl, rfl⟩
 ·have hA : cH_ b p o = true := by unfold cH_; simpa [and_assoc] using hc1
  refine ae_ ?_
  refine rr_ ?_
  iterate 2 refine s_ ?_
  refine x_ g_ va_ (f6_ (by omega)) ?_; rintro _ _ ⟨rfl, rfl⟩
  iterate 3 refine s_ ?_
  refine lc_ fun o10 ho10 => ?_
  repeat (rw [ac_] at ho10; obtain ⟨_, ho10⟩ := ho10)
  refine st_ ?_
  refine s_ ?_
  refine aa_ ?_
  refine rr_ ?_
  refine s_ ?_
  refine lc_ fun o12 ho12 => ?_
  repeat (rw [ac_] at ho12; obtain ⟨_, ho12⟩ := ho12)
  refine st_ ?_
  refine aa_ ?_
  refine ab_ ?_
  refine rr_ ?_
  refine s_ ?_
  refine aa_ ?_
  refine cd_ (fun hc5 => ?_) (fun hc5 => ?_)
  ·refine rr_ ?_
   iterate 2 refine s_ ?_
   refine x_ g_ va_ (mX_ g1 hos) ?_; rintro _ _ ⟨rfl, rfl⟩
   iterate 3 refine s_ ?_
   refine lc_ fun o13 ho13 => ?_
   repeat (rw [ac_] at ho13; obtain ⟨_, ho13⟩ := ho13)
   refine st_ ?_
   refine s_ ?_
   refine aa_ ?_
   refine ab_ ?_
   refine rr_ ?_
   iterate 2 refine s_ ?_
   refine aa_ ?_
   refine cd_ (fun hc7 => ?_) (fun hc7 => ?_)
   ·refine rr_ ?_
    iterate 3 refine s_ ?_
    refine aa_ ?_
    refine af_ ?_
    refine er_ σ ?_
    exact ⟨by rw [repW, if_pos hA, if_pos hc5, if_neg hc7]; rfl, rfl⟩
   ·refine ae_ ?_
    refine ab_ ?_
    refine rr_ ?_
    iterate 2 refine s_ ?_
    refine x_ g_ va_ (gc_ m1 g1) ?_; rintro _ _ ⟨rfl, rfl⟩
    refine aa_ ?_
    refine cd_ (fun hc9 => ?_) (fun hc9 => ?_)
    ·refine rr_ ?_
     iterate 2 refine s_ ?_
     refine aa_ ?_
     refine af_ ?_
     refine er_ σ ?_
     exact ⟨by rw [repW, if_pos hA, if_pos hc5, if_pos hc7, if_pos hc9]; rfl, rfl⟩
    ·refine ae_ ?_
     refine r_ ?_
     refine s_ ?_
     refine st_ ?_
     refine aa_ ?_
     refine rr_ ?_
     iterate 2 refine s_ ?_
     refine x_ g_ va_ (h4_ hp (by first | with_reducible exact m1 | with_reducible exact hos)) ?_; rintro _ _ ⟨rfl, rfl⟩
     iterate 5 refine s_ ?_
     refine aa_ ?_
     refine rr_ ?_
     iterate 2 refine s_ ?_
     refine x_ g_ va_ (dj_ hB (by first | with_reducible exact hL1 | with_reducible exact hL2) (by first | with_reducible exact hr1 | with_reducible exact hr2)) ?_; rintro _ _ ⟨rfl, rfl⟩
     iterate 3 refine s_ ?_
     refine lc_ fun o17 ho17 => ?_
     repeat (rw [ac_] at ho17; obtain ⟨_, ho17⟩ := ho17)
     refine st_ ?_
     refine s_ ?_
     refine aa_ ?_
     refine ab_ ?_
     refine rr_ ?_
     refine s_ ?_
     refine x_ g_ va_ (h5_ (by first | with_reducible exact hI1.items | with_reducible exact hI2.items) (by first | with_reducible exact hJ1 | with_reducible exact hJ2)) ?_; rintro _ _ ⟨rfl, rfl⟩
     iterate 2 refine s_ ?_
     refine aa_ ?_
     refine cd_ (fun hc14 => ?_) (fun hc14 => ?_)
     ·refine rr_ ?_
      iterate 2 refine s_ ?_
      refine aa_ ?_
      refine af_ ?_
      refine er_ σ ?_
      exact ⟨by rw [repW, if_pos hA, if_pos hc5, if_pos hc7, if_neg hc9, wrtR, if_pos hc14]; rfl, rfl⟩
     ·have hc14' := Int.not_lt.2 hc14
      refine ae_ ?_
      refine rr_ ?_
      iterate 3 refine s_ ?_
      refine aa_ ?_
      refine af_ ?_
      refine er_ σ ?_
      exact ⟨by rw [repW, if_pos hA, if_pos hc5, if_pos hc7, if_neg hc9, wrtR, if_neg hc14'], rfl⟩
  ·have hc5' : ¬ (getS b.items p).2 = true := by simpa using hc5
   refine ae_ ?_
   refine rr_ ?_
   iterate 2 refine s_ ?_
   refine x_ g_ va_ (h4_ hp (by first | with_reducible exact m1 | with_reducible exact hos)) ?_; rintro _ _ ⟨rfl, rfl⟩
   iterate 5 refine s_ ?_
   refine aa_ ?_
   refine rr_ ?_
   iterate 2 refine s_ ?_
   refine x_ g_ va_ (dj_ hB (by first | with_reducible exact hL1 | with_reducible exact hL2) (by first | with_reducible exact hr1 | with_reducible exact hr2)) ?_; rintro _ _ ⟨rfl, rfl⟩
   iterate 3 refine s_ ?_
   refine lc_ fun o17 ho17 => ?_
   repeat (rw [ac_] at ho17; obtain ⟨_, ho17⟩ := ho17)
   refine st_ ?_
   refine s_ ?_
   refine aa_ ?_
   refine ab_ ?_
   refine rr_ ?_
   refine s_ ?_
   refine x_ g_ va_ (h5_ (by first | with_reducible exact hI1.items | with_reducible exact hI2.items) (by first | with_reducible exact hJ1 | with_reducible exact hJ2)) ?_; rintro _ _ ⟨rfl, rfl⟩
   iterate 2 refine s_ ?_
   refine aa_ ?_
   refine cd_ (fun hc14 => ?_) (fun hc14 => ?_)
   ·refine rr_ ?_
    iterate 2 refine s_ ?_
    refine aa_ ?_
    refine af_ ?_
    refine er_ σ ?_
    exact ⟨by rw [repW, if_pos hA, if_neg hc5', wrtR, if_pos hc14]; rfl, rfl⟩
   ·have hc14' := Int.not_lt.2 hc14
    refine ae_ ?_
    refine rr_ ?_
    iterate 3 refine s_ ?_
    refine aa_ ?_
    refine af_ ?_
    refine er_ σ ?_
    exact ⟨by rw [repW, if_pos hA, if_neg hc5', wrtR, if_neg hc14'], rfl⟩
theorem rG_ {b : Bk} {p : ByteArray} {o : Obj'} {σ : Store} (hb : dn_ b = true) (hp : p.size ≤ 1000000) (ho : FewO o) : ai_ Tryz.prog 13 [sBk b, vStr p, sObj o] σ fun v σ' => v = .tup [vStr (B (repD b p o).1), vInt (repD b p o).2] ∧ σ = σ' := by
 have hB : BkSm b := (cx_ hb).sm (by omega)
 have hl8 := ee_ hb
 have hos := ho.sm
 obtain ⟨g1, _, _⟩ := kh_ hb p
 obtain ⟨m1, m2⟩ := mH_ hb ho p
 refine en_ Tryz.func13 Tryz.ntmps13 Tryz.results13 ?_
 refine rr_ ?_
 refine bx_ fun o3 ho3 => ?_
 repeat (rw [ac_] at ho3; obtain ⟨_, ho3⟩ := ho3)
 refine bx_ fun o5 ho5 => ?_
 repeat (rw [ac_] at ho5; obtain ⟨_, ho5⟩ := ho5)
 iterate 2 refine s_ ?_
 refine aa_ ?_
 refine ab_ ?_
 refine rr_ ?_
 refine s_ ?_
 refine x_ g_ va_ (gA_ hB) ?_; rintro _ _ ⟨rfl, rfl⟩
 iterate 2 refine s_ ?_
 refine gf_ ?_
 refine bt_ rfl rfl v_ rfl (fun hb => av_ (by rfl) (by rfl) (.inr ⟨by rfl, by rfl, by rfl⟩) g_ cg_ (cO_ (by omega))) ?_
 refine gf_ ?_
 iterate 2 refine s_ ?_
 refine gf_ ?_
 refine bt_ rfl rfl v_ rfl (fun hb => av_ (by rfl) (by rfl) (.inr ⟨by rfl, by rfl, by rfl⟩) g_ cg_ (dF_ hos)) ?_
 refine gf_ ?_
 refine s_ ?_
 refine aa_ ?_
 refine cd_ (fun hc1 => ?_) (fun hc1 => ?_)
 ·have hno : cH_ b p o = false := by
   unfold cH_
   rcases hc1 with (h | h) | h <;> simp [h]
  refine rr_ ?_
  iterate 2 refine s_ ?_
  refine aa_ ?_
  refine af_ ?_
  refine er_ σ ?_
  exact ⟨by rw [repD, hno]; rfl, rfl⟩
 ·have hA : cH_ b p o = true := by unfold cH_; simpa [and_assoc] using hc1
  refine ae_ ?_
  refine rr_ ?_
  iterate 2 refine s_ ?_
  refine x_ g_ va_ (f6_ (by omega)) ?_; rintro _ _ ⟨rfl, rfl⟩
  iterate 3 refine s_ ?_
  refine lc_ fun o8 ho8 => ?_
  repeat (rw [ac_] at ho8; obtain ⟨_, ho8⟩ := ho8)
  refine st_ ?_
  refine s_ ?_
  refine aa_ ?_
  refine ab_ ?_
  refine rr_ ?_
  iterate 2 refine s_ ?_
  refine aa_ ?_
  refine cd_ (fun hc4 => ?_) (fun hc4 => ?_)
  ·have hc5' : ¬ (getS b.items p).2 = true := by simpa using hc4
   refine rr_ ?_
   iterate 2 refine s_ ?_
   refine aa_ ?_
   refine af_ ?_
   refine er_ σ ?_
   exact ⟨by rw [repD, if_pos hA, if_neg hc5']; rfl, rfl⟩
  ·have hc5' : (getS b.items p).2 = true := by simpa using hc4
   refine ae_ ?_
   refine ab_ ?_
   refine rr_ ?_
   iterate 2 refine s_ ?_
   refine x_ g_ va_ (f5_ hos g1 m2) ?_; rintro _ _ ⟨rfl, rfl⟩
   refine s_ ?_
   refine aa_ ?_
   refine cd_ (fun hc6 => ?_) (fun hc6 => ?_)
   ·have hc7' : ¬ bO_ o (getS b.items p).1 = true := by simpa using hc6
    refine rr_ ?_
    iterate 2 refine s_ ?_
    refine aa_ ?_
    refine af_ ?_
    refine er_ σ ?_
    exact ⟨by rw [repD, if_pos hA, if_pos hc5', if_neg hc7']; rfl, rfl⟩
   ·have hc7' : bO_ o (getS b.items p).1 = true := by simpa using hc6
    refine ae_ ?_
    refine rr_ ?_
    refine s_ ?_
    refine x_ g_ va_ (nR_ hp) ?_; rintro _ _ ⟨rfl, rfl⟩
    iterate 4 refine s_ ?_
    refine aa_ ?_
    refine af_ ?_
    refine er_ σ ?_
    exact ⟨by rw [repD, if_pos hA, if_pos hc5', if_pos hc7'], rfl⟩
theorem pR_ {b : Bk} {p : ByteArray} {o : Obj'} {σ : Store} (hb : BkSm b) (hp : p.size ≤ 1000000) (ho : ObjSm o) : ai_ Tryz.prog 32 [sBk b, vStr p, sObj o] σ fun v σ' => v = vInt (if cH_ b p o = true then 0 else 1) ∧ σ = σ' := by
 refine en_ Tryz.func32 Tryz.ntmps32 Tryz.results32 ?_
 refine rr_ ?_
 refine bx_ fun o3 ho3 => ?_
 repeat (rw [ac_] at ho3; obtain ⟨_, ho3⟩ := ho3)
 refine bx_ fun o5 ho5 => ?_
 repeat (rw [ac_] at ho5; obtain ⟨_, ho5⟩ := ho5)
 refine s_ ?_
 refine aa_ ?_
 refine rr_ ?_
 iterate 2 refine s_ ?_
 refine x_ g_ va_ (em_ hp ho) ?_; rintro _ _ ⟨rfl, rfl⟩
 iterate 5 refine s_ ?_
 refine aa_ ?_
 refine ab_ ?_
 refine rr_ ?_
 refine s_ ?_
 refine x_ g_ va_ (hs_ hb) ?_; rintro _ _ ⟨rfl, rfl⟩
 refine s_ ?_
 refine aa_ ?_
 refine cd_ (fun hc2 => ?_) (fun hc2 => ?_)
 ·have hB : bkOk b = false := by cases h : bkOk b with | false => rfl | true => rw [h] at hc2; simp at hc2
  refine rr_ ?_
  refine s_ ?_
  refine aa_ ?_
  refine af_ ?_
  refine er_ σ ?_
  exact ⟨by rw [cH_, hB]; rfl, rfl⟩
 ·have hB : bkOk b = true := by cases h : bkOk b with | true => rfl | false => rw [h] at hc2; simp at hc2
  refine ae_ ?_
  refine rr_ ?_
  iterate 2 refine s_ ?_
  refine aa_ ?_
  refine af_ ?_
  refine er_ σ ?_
  exact ⟨by rw [cH_, hB, Bool.true_and, cA_]; cases aH_ p && be_ o <;> rfl, rfl⟩
set_option maxHeartbeats 2000000 in
theorem eU_ {b : Bk} {n : Int} {p : ByteArray} {o : Obj'} {σ : Store} (hb : dn_ b = true) (hp : p.size ≤ 1000000) (ho : FewO o) : ai_ Tryz.prog 10 [sBk b, vInt n, vStr p, sObj o] σ fun v σ' => v = .tup [vStr (B (repW b n p o).1), vInt (repW b n p o).2] ∧ σ = σ' := by
 have hB : BkSm b := (cx_ hb).sm (by omega)
 have hl8 := ee_ hb
 have hos := ho.sm
 obtain ⟨g1, _, _⟩ := kh_ hb p
 obtain ⟨m1, m2⟩ := mH_ hb ho p
 have hr1 := ia_ (p := p) m1
 have hr2 := ia_ (p := p) hos
 have hI1 := qE_ (cx_ hb) hr1
 have hI2 := qE_ (cx_ hb) hr2
 have hJ1 := Nat.le_trans hI1.ni (show 8 + 1 ≤ 100000 by decide)
 have hJ2 := Nat.le_trans hI2.ni (show 8 + 1 ≤ 100000 by decide)
 refine en_ Tryz.func10 Tryz.ntmps10 Tryz.results10 ?_
 refine rr_ ?_
 refine bx_ fun o4 ho4 => ?_
 repeat (rw [ac_] at ho4; obtain ⟨_, ho4⟩ := ho4)
 refine bx_ fun o7 ho7 => ?_
 repeat (rw [ac_] at ho7; obtain ⟨_, ho7⟩ := ho7)
 iterate 2 refine s_ ?_
 refine aa_ ?_
 refine ab_ ?_
 refine rr_ ?_
 iterate 3 refine s_ ?_
 refine x_ g_ va_ (pR_ hB hp hos) ?_; rintro _ _ ⟨rfl, rfl⟩
 refine s_ ?_
 refine aa_ ?_
 refine rr_ ?_
 iterate 2 refine s_ ?_
 refine aa_ ?_
 refine cd_ (fun hc2 => ?_) (fun hc2 => ?_)
 ·have hno : cH_ b p o = false := by cases h : cH_ b p o with | false => rfl | true => rw [h] at hc2; simp at hc2
  refine rr_ ?_
  iterate 3 refine s_ ?_
  refine aa_ ?_
  refine af_ ?_
  refine er_ σ ?_
  exact ⟨by rw [repW, hno]; rfl, rfl⟩
 ·have hA : cH_ b p o = true := by cases h : cH_ b p o with | true => rfl | false => rw [h] at hc2; simp at hc2
  refine ae_ ?_
  refine rr_ ?_
  iterate 2 refine s_ ?_
  refine x_ g_ va_ (vi_ (by omega)) ?_; rintro _ _ ⟨rfl, rfl⟩
  iterate 3 refine s_ ?_
  refine lc_ fun o11 ho11 => ?_
  repeat (rw [ac_] at ho11; obtain ⟨_, ho11⟩ := ho11)
  refine st_ ?_
  refine s_ ?_
  refine aa_ ?_
  refine rr_ ?_
  refine s_ ?_
  refine lc_ fun o13 ho13 => ?_
  repeat (rw [ac_] at ho13; obtain ⟨_, ho13⟩ := ho13)
  refine st_ ?_
  refine aa_ ?_
  refine ab_ ?_
  refine rr_ ?_
  refine s_ ?_
  refine aa_ ?_
  refine cd_ (fun hc6 => ?_) (fun hc6 => ?_)
  ·refine rr_ ?_
   iterate 2 refine s_ ?_
   refine x_ g_ va_ (pm_ g1 hos) ?_; rintro _ _ ⟨rfl, rfl⟩
   iterate 3 refine s_ ?_
   refine lc_ fun o14 ho14 => ?_
   repeat (rw [ac_] at ho14; obtain ⟨_, ho14⟩ := ho14)
   refine st_ ?_
   refine s_ ?_
   refine aa_ ?_
   refine ab_ ?_
   refine ag_ ?_
   refine rr_ ?_
   iterate 3 refine s_ ?_
   refine aa_ ?_
   refine cd_ (fun hc8 => ?_) (fun hc8 => ?_)
   ·refine rr_ ?_
    iterate 3 refine s_ ?_
    refine aa_ ?_
    refine af_ ?_
    refine er_ σ ?_
    exact ⟨by rw [repW, if_pos hA, if_pos hc6, if_neg hc8]; rfl, rfl⟩
   ·refine rr_ ?_
    iterate 2 refine s_ ?_
    refine x_ g_ va_ (pr_ m1 g1) ?_; rintro _ _ ⟨rfl, rfl⟩
    refine s_ ?_
    refine aa_ ?_
    refine cd_ (fun hc10 => ?_) (fun hc10 => ?_)
    ·refine rr_ ?_
     iterate 2 refine s_ ?_
     refine aa_ ?_
     refine af_ ?_
     refine er_ σ ?_
     exact ⟨by rw [repW, if_pos hA, if_pos hc6, if_pos hc8, if_pos hc10]; rfl, rfl⟩
    ·refine ae_ ?_
     refine r_ ?_
     refine s_ ?_
     refine st_ ?_
     refine aa_ ?_
     refine rr_ ?_
     iterate 2 refine s_ ?_
     refine x_ g_ va_ (em_ hp (by first | with_reducible exact m1 | with_reducible exact hos)) ?_; rintro _ _ ⟨rfl, rfl⟩
     iterate 5 refine s_ ?_
     refine aa_ ?_
     refine rr_ ?_
     iterate 2 refine s_ ?_
     refine x_ g_ va_ (l3_ hB (by first | with_reducible exact hr1 | with_reducible exact hr2)) ?_; rintro _ _ ⟨rfl, rfl⟩
     iterate 3 refine s_ ?_
     refine lc_ fun o18 ho18 => ?_
     repeat (rw [ac_] at ho18; obtain ⟨_, ho18⟩ := ho18)
     refine st_ ?_
     refine s_ ?_
     refine aa_ ?_
     refine ab_ ?_
     refine rr_ ?_
     refine s_ ?_
     refine x_ g_ va_ (md_ (by first | with_reducible exact hI1.items | with_reducible exact hI2.items) (by first | with_reducible exact hJ1 | with_reducible exact hJ2)) ?_; rintro _ _ ⟨rfl, rfl⟩
     iterate 2 refine s_ ?_
     refine aa_ ?_
     refine cd_ (fun hc15 => ?_) (fun hc15 => ?_)
     ·refine rr_ ?_
      iterate 2 refine s_ ?_
      refine aa_ ?_
      refine af_ ?_
      refine er_ σ ?_
      exact ⟨by rw [repW, if_pos hA, if_pos hc6, if_pos hc8, if_neg hc10, wrtR, if_pos (show n < sizB _ from hc15)]; rfl, rfl⟩
     ·have hc15' := Int.not_lt.2 hc15
      refine ae_ ?_
      refine rr_ ?_
      iterate 3 refine s_ ?_
      refine aa_ ?_
      refine af_ ?_
      refine er_ σ ?_
      exact ⟨by rw [repW, if_pos hA, if_pos hc6, if_pos hc8, if_neg hc10, wrtR, if_neg (show ¬ n < sizB _ from hc15')], rfl⟩
  ·have hc6' : ¬ (getS b.items p).2 = true := by simpa using hc6
   refine ae_ ?_
   refine rr_ ?_
   iterate 2 refine s_ ?_
   refine x_ g_ va_ (em_ hp (by first | with_reducible exact m1 | with_reducible exact hos)) ?_; rintro _ _ ⟨rfl, rfl⟩
   iterate 5 refine s_ ?_
   refine aa_ ?_
   refine rr_ ?_
   iterate 2 refine s_ ?_
   refine x_ g_ va_ (l3_ hB (by first | with_reducible exact hr1 | with_reducible exact hr2)) ?_; rintro _ _ ⟨rfl, rfl⟩
   iterate 3 refine s_ ?_
   refine lc_ fun o18 ho18 => ?_
   repeat (rw [ac_] at ho18; obtain ⟨_, ho18⟩ := ho18)
   refine st_ ?_
   refine s_ ?_
   refine aa_ ?_
   refine ab_ ?_
   refine rr_ ?_
   refine s_ ?_
   refine x_ g_ va_ (md_ (by first | with_reducible exact hI1.items | with_reducible exact hI2.items) (by first | with_reducible exact hJ1 | with_reducible exact hJ2)) ?_; rintro _ _ ⟨rfl, rfl⟩
   iterate 2 refine s_ ?_
   refine aa_ ?_
   refine cd_ (fun hc15 => ?_) (fun hc15 => ?_)
   ·refine rr_ ?_
    iterate 2 refine s_ ?_
    refine aa_ ?_
    refine af_ ?_
    refine er_ σ ?_
    exact ⟨by rw [repW, if_pos hA, if_neg hc6', wrtR, if_pos (show n < sizB _ from hc15)]; rfl, rfl⟩
   ·have hc15' := Int.not_lt.2 hc15
    refine ae_ ?_
    refine rr_ ?_
    iterate 3 refine s_ ?_
    refine aa_ ?_
    refine af_ ?_
    refine er_ σ ?_
    exact ⟨by rw [repW, if_pos hA, if_neg hc6', wrtR, if_neg (show ¬ n < sizB _ from hc15')], rfl⟩
theorem hl_ {b : Bk} {p : ByteArray} {o : Obj'} {σ : Store} (hb : dn_ b = true) (hp : p.size ≤ 1000000) (ho : FewO o) : ai_ Tryz.prog 12 [sBk b, vStr p, sObj o] σ fun v σ' => v = .tup [vStr (B (repD b p o).1), vInt (repD b p o).2] ∧ σ = σ' := by
 have hB : BkSm b := (cx_ hb).sm (by omega)
 have hl8 := ee_ hb
 have hos := ho.sm
 obtain ⟨g1, _, _⟩ := kh_ hb p
 obtain ⟨m1, m2⟩ := mH_ hb ho p
 refine en_ Tryz.func12 Tryz.ntmps12 Tryz.results12 ?_
 refine rr_ ?_
 refine bx_ fun o3 ho3 => ?_
 repeat (rw [ac_] at ho3; obtain ⟨_, ho3⟩ := ho3)
 refine bx_ fun o5 ho5 => ?_
 repeat (rw [ac_] at ho5; obtain ⟨_, ho5⟩ := ho5)
 iterate 2 refine s_ ?_
 refine aa_ ?_
 refine ab_ ?_
 refine rr_ ?_
 iterate 3 refine s_ ?_
 refine x_ g_ va_ (pR_ hB hp hos) ?_; rintro _ _ ⟨rfl, rfl⟩
 refine s_ ?_
 refine aa_ ?_
 refine rr_ ?_
 iterate 2 refine s_ ?_
 refine aa_ ?_
 refine cd_ (fun hc2 => ?_) (fun hc2 => ?_)
 ·have hno : cH_ b p o = false := by cases h : cH_ b p o with | false => rfl | true => rw [h] at hc2; simp at hc2
  refine rr_ ?_
  iterate 3 refine s_ ?_
  refine aa_ ?_
  refine af_ ?_
  refine er_ σ ?_
  exact ⟨by rw [repD, hno]; rfl, rfl⟩
 ·have hA : cH_ b p o = true := by cases h : cH_ b p o with | true => rfl | false => rw [h] at hc2; simp at hc2
  refine ae_ ?_
  refine rr_ ?_
  iterate 2 refine s_ ?_
  refine x_ g_ va_ (vi_ (by omega)) ?_; rintro _ _ ⟨rfl, rfl⟩
  iterate 3 refine s_ ?_
  refine lc_ fun o9 ho9 => ?_
  repeat (rw [ac_] at ho9; obtain ⟨_, ho9⟩ := ho9)
  refine st_ ?_
  refine s_ ?_
  refine aa_ ?_
  refine ab_ ?_
  refine ag_ ?_
  refine rr_ ?_
  iterate 3 refine s_ ?_
  refine aa_ ?_
  refine cd_ (fun hc5 => ?_) (fun hc5 => ?_)
  ·have hc5' : ¬ (getS b.items p).2 = true := by simpa using hc5
   refine rr_ ?_
   iterate 2 refine s_ ?_
   refine aa_ ?_
   refine af_ ?_
   refine er_ σ ?_
   exact ⟨by rw [repD, if_pos hA, if_neg hc5']; rfl, rfl⟩
  ·have hc5' : (getS b.items p).2 = true := by simpa using hc5
   refine rr_ ?_
   iterate 2 refine s_ ?_
   refine x_ g_ va_ (qT_ hos g1 m2) ?_; rintro _ _ ⟨rfl, rfl⟩
   iterate 2 refine s_ ?_
   refine aa_ ?_
   refine cd_ (fun hc7 => ?_) (fun hc7 => ?_)
   ·have hc7' : ¬ bO_ o (getS b.items p).1 = true := by simpa using hc7
    refine rr_ ?_
    iterate 2 refine s_ ?_
    refine aa_ ?_
    refine af_ ?_
    refine er_ σ ?_
    exact ⟨by rw [repD, if_pos hA, if_pos hc5', if_neg hc7']; rfl, rfl⟩
   ·have hc7' : bO_ o (getS b.items p).1 = true := by simpa using hc7
    refine ae_ ?_
    refine rr_ ?_
    refine s_ ?_
    refine x_ g_ va_ (oT_ hp) ?_; rintro _ _ ⟨rfl, rfl⟩
    iterate 4 refine s_ ?_
    refine aa_ ?_
    refine af_ ?_
    refine er_ σ ?_
    exact ⟨by rw [repD, if_pos hA, if_pos hc5', if_pos hc7'], rfl⟩
theorem oY_ : FewO oR := cy_.1 (by decide +kernel)
theorem w5_ : FewO oN := cy_.1 (by decide +kernel)
theorem wk00 : ∀ j (hj : j < [vNil, vNil].length) (hj' : j < [AVal.sl 3 [] false, AVal.sl 2 [] false].length), Wk [vNil, vNil][j] [AVal.sl 3 [] false, AVal.sl 2 [] false][j] := fun j hj _ => by match j, hj with | 0, _ => exact .nil _ _ | 1, _ => exact .nil _ _
theorem wkB0 : Wk (.agg [vNil, vNil]) (sBk bk0) := .agg _ _ rfl wk00
theorem wkN0 : Wk (.agg [vNil, vNil]) (sObj oN) := .agg _ _ rfl fun j hj _ => by match j, hj with | 0, _ => exact .nil _ _ | 1, _ => exact .nil _ _
set_option maxHeartbeats 4000000 in
theorem cu_ {σ : Store} : ai_ Tryz.prog 9 [] σ fun v σ' => v = vB true ∧ σ = σ' := by
 have sR := ok_R.sm (by decide)
 have hpA : pA.size ≤ 1000000 := by decide
 have hpJ : pJ.size ≤ 1000000 := by decide
 have bR_sm := oz_ j1_
 have b0_sm := oz_ ox_
 have hrd : ObjSm (bf_ (hdX (putR pA oR))).1 := by have := ia_ (p := pA) sR; rwa [rp_] at this
 have hrl : (putR pA oR).length ≤ 1000000000000 := by have := f3_ hpA sR; rw [rp_] at this; exact Nat.le_trans this (by decide)
 have n1 : B (putR pA oR) ≠ ⟨#[]⟩ := fun h => by have := (db_ (b := [])).1 h; simp [putR] at this
 have n2 : B (ln_ pA) ≠ ⟨#[]⟩ := fun h => by have := (db_ (b := [])).1 h; simp [ln_] at this
 have n3 : B [] = ⟨#[]⟩ := rfl
 have l1 : (vBs (bU_ bR 4)).length = 1 := by rw [fE_, vV_]
 have l2 : (vBs (bU_ bR 3)).length = 0 := by rw [vW_]; rfl
 have l3 : ((bukS bR ⟨#[98]⟩).map aD_).length = 1 := by decide +kernel
 have l4 : ((prtS bR ⟨#[116]⟩ 0 1).map aD_).length = 1 := by rw [List.length_map, prtS, List.filter_eq_self.2 fun x _ => decide_eq_true (ro_ _ _)]; rfl
 refine en_ Tryz.func9 Tryz.ntmps9 Tryz.results9 ?_
 refine rr_ ?_
 refine s_ ?_
 refine aa_ ?_
 refine rr_ ?_
 iterate 2 refine s_ ?_
 refine x_ g_ va_ (ai_.wkA (args := [vNil, sSib xR]) (vL_ (c := []) (t := false) (s := xR) (fun x hx => by cases hx) (by simp) (sR.sibs xR (.head _))) rfl (fun j hj hj' => by match j, hj with | 0, _ => exact .nil _ _ | 1, _ => exact .refl _)) ?_; rintro _ _ ⟨rfl, rfl⟩
 rw [xc_]
 iterate 3 refine s_ ?_
 refine lc_ fun o1 ho1 => ?_
 repeat (rw [ac_] at ho1; obtain ⟨_, ho1⟩ := ho1)
 refine st_ ?_
 refine s_ ?_
 refine aa_ ?_
 refine rr_ ?_
 iterate 2 refine s_ ?_
 refine x_ g_ va_ (ai_.wkA (args := [.agg [vNil, vNil], vInt 1000, vStr pA, sObj oR]) (eU_ (b := bk0) (n := 1000) (p := pA) ox_.few hpA oY_) rfl (fun j hj hj' => by match j, hj with | 0, _ => exact wkB0 | 1, _ => exact .refl _ | 2, _ => exact .refl _ | 3, _ => exact .refl _)) ?_; rintro _ _ ⟨rfl, rfl⟩
 rw [vY_, if_neg (by decide)]
 iterate 5 refine s_ ?_
 refine aa_ ?_
 refine rr_ ?_
 iterate 2 refine s_ ?_
 refine x_ g_ va_ (ai_.wkA (args := [.agg [vNil, vNil], vStr (B (putR pA oR))]) (dj_ (b := bk0) (r := putR pA oR) b0_sm hrl hrd) rfl (fun j hj hj' => by match j, hj with | 0, _ => exact wkB0 | 1, _ => exact .refl _)) ?_; rintro _ _ ⟨rfl, rfl⟩
 rw [ap_R]
 iterate 3 refine s_ ?_
 refine lc_ fun o5 ho5 => ?_
 repeat (rw [ac_] at ho5; obtain ⟨_, ho5⟩ := ho5)
 refine st_ ?_
 refine s_ ?_
 refine aa_ ?_
 refine rr_ ?_
 iterate 2 refine s_ ?_
 refine x_ g_ va_ (eU_ (b := bR) (n := 1000) (p := pA) j1_.few hpA oY_) ?_; rintro _ _ ⟨rfl, rfl⟩
 rw [xh_]
 iterate 5 refine s_ ?_
 refine aa_ ?_
 refine rr_ ?_
 iterate 2 refine s_ ?_
 refine x_ g_ va_ (ai_.wkA (args := [.agg [vNil, vNil], vInt 10, vStr pA, sObj oR]) (eU_ (b := bk0) (n := 10) (p := pA) ox_.few hpA oY_) rfl (fun j hj hj' => by match j, hj with | 0, _ => exact wkB0 | 1, _ => exact .refl _ | 2, _ => exact .refl _ | 3, _ => exact .refl _)) ?_; rintro _ _ ⟨rfl, rfl⟩
 rw [vY_, if_pos (by decide)]
 iterate 5 refine s_ ?_
 refine aa_ ?_
 refine rr_ ?_
 iterate 2 refine s_ ?_
 refine x_ g_ va_ (hl_ (b := bR) (p := pJ) j1_.few hpJ oY_) ?_; rintro _ _ ⟨rfl, rfl⟩
 rw [xi_]
 iterate 5 refine s_ ?_
 refine aa_ ?_
 refine rr_ ?_
 iterate 2 refine s_ ?_
 refine x_ g_ va_ (ai_.wkA (args := [sBk bR, vStr pA, .agg [vNil, vNil]]) (hl_ (b := bR) (p := pA) (o := oN) j1_.few hpA w5_) rfl (fun j hj hj' => by match j, hj with | 0, _ => exact .refl _ | 1, _ => exact .refl _ | 2, _ => exact wkN0)) ?_; rintro _ _ ⟨rfl, rfl⟩
 rw [xj_]
 iterate 5 refine s_ ?_
 refine aa_ ?_
 refine rr_ ?_
 iterate 2 refine s_ ?_
 refine x_ g_ va_ (hl_ (b := bR) (p := pA) j1_.few hpA oY_) ?_; rintro _ _ ⟨rfl, rfl⟩
 rw [xk_]
 iterate 5 refine s_ ?_
 refine aa_ ?_
 refine ab_ ?_
 have R := And.intro n1 (And.intro n2 (And.intro n3 (And.intro l1 (And.intro l2 (And.intro l3 l4)))))
 refine r_ ?_
 iterate 3 refine s_ ?_
 refine co_ (aG_ rfl rfl v_ (by rfl)) rfl v_ ?_
 refine co_ (aG_ rfl rfl v_ (by rfl)) rfl v_ ?_
 iterate 2 refine s_ ?_
 refine co_ (aG_ rfl rfl v_ (by rfl)) rfl v_ ?_
 refine co_ (aG_ rfl rfl v_ (by rfl)) rfl v_ ?_
 iterate 2 refine s_ ?_
 refine co_ (aG_ rfl rfl v_ (by rfl)) rfl v_ ?_
 refine co_ (aG_ rfl rfl v_ (by rfl)) rfl v_ ?_
 iterate 2 refine s_ ?_
 refine co_ (aG_ rfl rfl v_ (by rfl)) rfl v_ ?_
 refine co_ (aG_ rfl rfl v_ (by rfl)) rfl v_ ?_
 iterate 2 refine s_ ?_
 refine co_ (aG_ rfl rfl v_ (by rfl)) rfl v_ ?_
 refine co_ (aG_ rfl rfl v_ (by rfl)) rfl v_ ?_
 iterate 2 refine s_ ?_
 refine co_ (aG_ rfl rfl v_ (by rfl)) rfl v_ ?_
 refine co_ (aG_ rfl rfl v_ (by rfl)) rfl v_ ?_
 iterate 2 refine s_ ?_
 refine co_ (aG_ rfl rfl v_ (by rfl)) rfl v_ ?_
 refine co_ (aG_ rfl rfl v_ (by rfl)) rfl v_ ?_
 iterate 2 refine s_ ?_
 refine co_ (aG_ rfl rfl v_ (by rfl)) rfl v_ ?_
 refine co_ (aG_ rfl rfl v_ (by rfl)) rfl v_ ?_
 iterate 2 refine s_ ?_
 refine co_ (aG_ rfl rfl v_ (by rfl)) rfl v_ ?_
 refine co_ (aG_ rfl rfl v_ (by rfl)) rfl v_ ?_
 iterate 2 refine s_ ?_
 refine co_ (aG_ rfl rfl v_ (by rfl)) rfl v_ ?_
 refine qA_ (aG_ rfl rfl v_ (by rfl)) rfl (aU_ rfl rfl (.inr ⟨rfl, rfl, rfl⟩) g_ va_ (ga_ (b := bR) (t := 4) bR_sm) ?_); rintro _ _ ⟨rfl, rfl⟩
 refine co_ (aG_ rfl rfl v_ (by rfl)) rfl v_ ?_
 refine co_ (aG_ rfl rfl v_ (by rfl)) rfl v_ ?_
 iterate 2 refine s_ ?_
 refine co_ (aG_ rfl rfl v_ (by rfl)) rfl v_ ?_
 refine qA_ (aG_ rfl rfl v_ (by rfl)) rfl (aU_ rfl rfl (.inr ⟨rfl, rfl, rfl⟩) g_ va_ (ga_ (b := bR) (t := 3) bR_sm) ?_); rintro _ _ ⟨rfl, rfl⟩
 refine co_ (aG_ rfl rfl v_ (by rfl)) rfl v_ ?_
 refine co_ (aG_ rfl rfl v_ (by rfl)) rfl v_ ?_
 iterate 2 refine s_ ?_
 refine co_ (aG_ rfl rfl v_ (by rfl)) rfl v_ ?_
 refine qA_ (aG_ rfl rfl v_ (by rfl)) rfl (aU_ rfl rfl (.inr ⟨rfl, rfl, rfl⟩) g_ va_ (i1_ (b := bR) bR_sm) ?_); rintro _ _ ⟨rfl, rfl⟩
 refine co_ (aG_ rfl rfl v_ (by rfl)) rfl v_ ?_
 refine co_ (aG_ rfl rfl v_ (by rfl)) rfl v_ ?_
 iterate 2 refine s_ ?_
 refine co_ (aG_ rfl rfl v_ (by rfl)) rfl v_ ?_
 refine qA_ (aG_ rfl rfl v_ (by rfl)) rfl (aU_ rfl rfl (.inr ⟨rfl, rfl, rfl⟩) g_ va_ (m7_ (b := bR) (t := ⟨#[116]⟩) (k := 0) (n := 1) bR_sm (by decide)) ?_); rintro _ _ ⟨rfl, rfl⟩
 refine co_ (aG_ rfl rfl v_ (by rfl)) rfl v_ ?_
 refine co_ (aG_ rfl rfl v_ (by rfl)) rfl v_ ?_
 iterate 2 refine s_ ?_
 refine aa_ ?_
 refine af_ ?_
 refine er_ σ ?_
 exact ⟨rfl, rfl⟩
theorem v0_ {a : AVal} (h : Sh.okv t9_ true a) : ∃ x : Mnt, a = sMnt x := by
 obtain ⟨c, hc, e⟩ := h
 obtain ⟨x, hx⟩ := sK_ hc
 simp only [if_true] at e
 exact ⟨x, by rw [e]; exact hx⟩
abbrev shT3 : Sh := .pair (.int .i64) (.pair (.int .i64) (.pair (.int .i64) .unit))
theorem xl_ {a : AVal} (h : Sh.okv shT3 true a) : ∃ n0 n1 n2 : Int, a = .agg [vInt n0, vInt n1, vInt n2] := by
 obtain ⟨c, ⟨_, _, rfl, ⟨n0, rfl, _⟩, _, _, rfl, ⟨n1, rfl, _⟩, _, _, rfl, ⟨n2, rfl, _⟩, rfl⟩, e⟩ := h
 simp only [if_true] at e
 exact ⟨n0, n1, n2, by rw [e]; rfl⟩
end Go.Proofs.YtcaflcpcbcneiaaGreat
end
