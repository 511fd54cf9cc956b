/-
  Messages held against one another; Few parts, as functions; Messages: few parts; held against one another; What is sent: leaves that another one has not, the items of places; the document's way of both; What was written is read again: plain; How much is read of few bytes: plain; BOOKS, plainly: rows with something in its place, records, what is behind a record; WHAT COMES IN, READ: a value of data (numbers, bools, strings, structs, arrays, slices of these, to any depth) that the row's reading met is described by an abstract value; a call's contract gives the row's; A ROW CLEARED: the builtin 'clear' of a slice that is written; THE LIBRARY's SORT OF STRUCTS by the kit's contract; what a comparison that only looks costs there; What a comparison that only looks costs the library's sort, by the layer alone (seats that count draws: DM is n); Values sorted by their dots; The reference's contexts joined, a dot added: the same as the program's; The reference's Join and Add; A STORE BY ITS FACTS: what was built is let go, what is known of it stays; What the reference writes as bytes. Own work (an AI agent).
-/
import Derived.Test.YtcaflcpcbcneiaaGreatGF
import Derived.Test.YtcaflcpcbcneiaaGreatGM
import Derived.Test.YtcaflcpcbcneiaaGreatGD
import Derived.ProofKit
import Derived.OpenShut
import Derived.ShutString
import Derived.ChangeOld
import Derived.Below
import Derived.Test.YtcaflcpcbcneiaaGreatGE
import Derived.Shelf.SlSortCmp.WholeK

section
set_option linter.all false
set_option maxRecDepth 100000
namespace Go.Proofs.YtcaflcpcbcneiaaGreat
open Go.Ab
instance : DecidableEq Leaf := fun a b => decidable_of_iff (a.place = b.place ∧ a.digest = b.digest) (by cases a; cases b; simp)
instance : DecidableEq Itm := fun a b => decidable_of_iff (a.place = b.place ∧ a.obj = b.obj) (by cases a; cases b; simp)
instance : DecidableEq Ent := fun a b => decidable_of_iff (a.key = b.key ∧ a.n = b.n ∧ a.who = b.who ∧ a.value = b.value) (by cases a; cases b; simp)
instance : DecidableEq Msg := fun a b => decidable_of_iff (a.kind = b.kind ∧ a.frm = b.frm ∧ a.to = b.to ∧ a.num = b.num ∧ a.err = b.err ∧ a.place = b.place ∧ a.obj = b.obj ∧ a.texts = b.texts ∧ a.leaves = b.leaves ∧ a.items = b.items ∧ a.ents = b.ents) (by cases a; cases b; simp)
theorem rR_ {a b : List Itm} {ta tb : Bool} {σ : Store} (hA : ∀ x ∈ a, ObjSm x.obj) (hB : ∀ x ∈ b, ObjSm x.obj) (hla : a.length ≤ 1000000) (hlb : b.length ≤ 1000000) : ai_ Tryz.prog 50 [.agg [.sl 3 (a.map aD_) ta, .lit (.slice none 0 0)], .agg [.sl 3 (b.map aD_) tb, .lit (.slice none 0 0)]] σ fun v σ' => v = vB (decide (a = b)) ∧ σ = σ' := by
 refine en_ Tryz.func50 Tryz.ntmps50 Tryz.results50 ?_
 refine rr_ ?_
 refine bx_ fun o2 ho2 => ?_
 repeat (rw [ac_] at ho2; obtain ⟨_, ho2⟩ := ho2)
 refine bx_ fun o3 ho3 => ?_
 repeat (rw [ac_] at ho3; obtain ⟨_, ho3⟩ := ho3)
 refine s_ ?_
 refine aa_ ?_
 refine ab_ ?_
 refine rr_ ?_
 iterate 8 refine s_ ?_
 refine gf_ ?_
 refine gf_ ?_
 refine gf_ ?_
 refine gf_ ?_
 refine gf_ ?_
 refine gf_ ?_
 refine gf_ ?_
 refine s_ ?_
 refine aa_ ?_
 refine cd_ (fun hc1 => ?_) (fun hc1 => ?_)
 ·refine rr_ ?_
  refine s_ ?_
  refine aa_ ?_
  refine af_ ?_
  refine er_ σ ?_
  exact ⟨by rw [decide_eq_false]; intro h; rw [h] at hc1; omega, rfl⟩
 ·have hab : a.length = b.length := by omega
  refine ae_ ?_
  refine ab_ ?_
  refine rr_ ?_
  refine s_ ?_
  refine aa_ ?_
  refine ag_ ?_
  refine ah_ (ι := Nat) (fun k => a.length - k) (fun k => k ≤ a.length ∧ a.take k = b.take k) (fun k => [(2, .ref o2 0), (3, .ref o3 0), (5, vInt k)]) (fun k => ((σ.set o2 (.cells [.sl 3 (a.map aD_) ta, .lit (.slice none 0 0)])).set o3 (.cells [.sl 3 (b.map aD_) tb, .lit (.slice none 0 0)]))) 0 ?_ ?_ ?_ ?_
  ·exact ⟨Nat.zero_le _, rfl⟩
  ·exact cv_
  ·exact Store.Wk.refl _
  rintro k ⟨hk, he⟩
  simp only [ak_, am_]
  refine ab_ ?_
  refine rr_ ?_
  iterate 6 refine s_ ?_
  refine gt_ ?_
  refine gt_ ?_
  refine gt_ ?_
  refine gt_ ?_
  refine gt_ ?_
  refine s_ ?_
  refine aa_ ?_
  refine cd_ (fun hc4 => ?_) (fun hc4 => ?_)
  ·refine ae_ ?_
   refine ab_ ?_
   refine ag_ ?_
   refine ab_ ?_
   obtain ⟨x, hx⟩ := aq_ (l := a) (k := k) (by omega)
   obtain ⟨y, hy⟩ := aq_ (l := b) (k := k) (by omega)
   have R := And.intro hx hy
   refine ap_ (.op 0 0 (.op 1 0 (.op 2 0 (.op 3 0 (.op 4 0 (.op 5 0 (.op 6 0 (.op 7 0 (.op 8 0 (.op 9 0 (.op 10 0 (.op 11 0 (.op 12 0 (.op 13 0 (.op 14 0 (.op 15 0 (.op 16 0 (.op 17 0 (.op 18 0 (.op 19 0 (.op 20 0 (.op 21 0 (.op 22 0 (.op 23 0 (.op 24 0 (.op 25 0 (.op 26 1 (.op 27 0 (.op 28 0 .nil))))))))))))))))))))))))))))) Tryz.mixed kr_ ?_
   iterate 14 refine ds_ ?_
   refine dgf_ ?_
   refine dgf_ ?_
   refine dgf_ ?_
   refine dgf_ ?_
   refine dgf_ ?_
   refine dgf_ ?_
   refine dgf_ ?_
   refine dgf_ ?_
   refine dgf_ ?_
   refine dgf_ ?_
   refine dgf_ ?_
   refine dgf_ ?_
   refine hE_ o_ (by rfl) (by rfl) v_ (by rfl) sub_ (fun hb => av_ (by rfl) (by rfl) (.inr ⟨by rfl, by rfl, by rfl⟩) g_ cg_ (gc_ (hA x (List.mem_of_getElem? hx)) (hB y (List.mem_of_getElem? hy)))) ?_
   refine dgf_ ?_
   refine ds_ ?_
   refine aB_ ?_
   refine cd_ (fun hc6 => ?_) (fun hc6 => ?_)
   ·refine rr_ ?_
    refine s_ ?_
    refine aa_ ?_
    refine af_ ?_
    refine er_ σ ?_
    exact ⟨by rw [decide_eq_false]; intro h; rw [h, hy] at hx; have hyx := Option.some.inj hx; subst hyx; simp at hc6, rfl⟩
   ·have hxy : x = y := by have h := hc6; clear hx hy R hc6; cases x; cases y; simp_all
    refine ae_ ?_
    refine r_ ?_
    iterate 3 refine s_ ?_
    refine aa_ ?_
    refine aC_ (ι := Nat) (i := k) (k + 1) ?_ ?_ ?_ ?_
    ·omega
    ·exact ⟨by omega, by rw [ax_ hx, ax_ hy, he, hxy]⟩
    ·exact cv_
    ·exact sub_
  ·refine an_ ?_
   refine ad_ ?_
   refine ad_ ?_
   refine aj_ ?_
   refine ab_ ?_
   refine rr_ ?_
   refine s_ ?_
   refine aa_ ?_
   refine ag_ ?_
   refine ah_ (ι := Nat) (fun j => 0 - j) (fun j => j = 0) (fun j => [(2, .ref o2 0), (3, .ref o3 0), (6, vInt j)]) (fun j => ((σ.set o2 (.cells [.sl 3 (a.map aD_) ta, .lit (.slice none 0 0)])).set o3 (.cells [.sl 3 (b.map aD_) tb, .lit (.slice none 0 0)]))) 0 ?_ ?_ ?_ ?_
   ·rfl
   ·exact cv_
   ·exact Store.Wk.refl _
   rintro j hj
   simp only [ak_, am_]
   refine ab_ ?_
   refine rr_ ?_
   iterate 6 refine s_ ?_
   refine gt_ ?_
   refine gt_ ?_
   refine gt_ ?_
   refine gt_ ?_
   refine gt_ ?_
   refine s_ ?_
   refine aa_ ?_
   refine cd_ (fun hc9 => ?_) (fun hc9 => ?_)
   ·subst hj; exact absurd hc9 (by decide)
   ·refine an_ ?_
    refine ad_ ?_
    refine ad_ ?_
    refine aj_ ?_
    refine rr_ ?_
    refine s_ ?_
    refine aa_ ?_
    refine af_ ?_
    refine er_ σ ?_
    exact ⟨by rw [decide_eq_true]; rwa [List.take_of_length_le (by omega), List.take_of_length_le (by omega)] at he, rfl⟩
theorem FewC.sm {c : List Seen} (h : FewC c) : (∀ x ∈ c, SeenSm x) ∧ c.length ≤ 1000 := ⟨fun x hx => ⟨by have := (h.2 x hx).1; omega, by have := (h.2 x hx).2; omega⟩, by have := h.1; omega⟩
theorem FewO.sm {o : Obj'} (h : FewO o) : ObjSm o := ⟨h.1.sm.1, fun x hx => ⟨by have := (h.2.2 x hx).2; omega, by have := (h.2.2 x hx).1; omega⟩, h.1.sm.2, by have := h.2.1; omega⟩
def th_ (c : List Seen) : Bool := decide (c.length ≤ 12) && c.all fun x => decide (x.node.size ≤ 100) && decide (x.more.length ≤ 40)
theorem oX_ {c : List Seen} : th_ c = true ↔ FewC c := by simp [th_, FewC]
def nB_ (o : Obj') : Bool := th_ o.ctx && decide (o.sibs.length ≤ 12) && o.sibs.all fun x => decide (x.value.size ≤ 300) && decide (x.node.size ≤ 100)
theorem cy_ {o : Obj'} : nB_ o = true ↔ FewO o := by simp [nB_, FewO, oX_, and_assoc]
theorem lr_ {o : Obj'} {σ : Store} : ai_ Tryz.prog 8 [sObj o] σ fun v σ' => v = vB (nB_ o) ∧ σ = σ' :=
 tg_.wkS fun v σ' ⟨⟨r, hv, hr⟩, hs⟩ => ⟨v, σ', .refl _, .refl _, by rw [hv, show r = nB_ o from by rw [Bool.eq_iff_iff, hr, cy_]], hs⟩
def ls_ (l : List Itm) : Bool := decide (l.length ≤ 8) && l.all fun x => decide (x.place.size ≤ 100) && nB_ x.obj
theorem sz_ {α : Type} {l : List α} {n k : Nat} {x : α} {p : α → Bool} (h : l[k]? = some x) (hp : p x = false) : (decide (l.length ≤ n) && l.all p) = false := by
 rw [show l.all p = false from List.all_eq_false.2 ⟨x, List.mem_of_getElem? h, by simp [hp]⟩, Bool.and_false]
theorem oZ_ {α : Type} {l : List α} {n k : Nat} {p : α → Bool} (ha : (l.take k).all p = true) (hk : k ≤ l.length) (he : l.length ≤ k ∨ n ≤ k) : decide ((l.length : Int) ≤ n) = (decide (l.length ≤ n) && l.all p) := by
 by_cases h : l.length ≤ n
 ·rw [decide_eq_true (by omega), decide_eq_true h]
  have : l.take k = l := List.take_of_length_le (by omega)
  rw [this] at ha; rw [ha]; rfl
 ·rw [decide_eq_false (by omega), decide_eq_false h]; rfl
theorem l6_ {α : Type} {l : List α} {k : Nat} {x : α} {p : α → Bool} (h : l[k]? = some x) (hp : p x = true) (ha : (l.take k).all p = true) : (l.take (k + 1)).all p = true := by
 rw [ax_ h, List.all_append, ha]; simp [hp]
end Go.Proofs.YtcaflcpcbcneiaaGreat
end

section
set_option linter.all false
set_option maxRecDepth 100000
namespace Go.Ab
theorem fh_ {P : Program} {o : Oper} {α : Operand → AVal} {σ : Store} {a a' : AVal} {Kk : AVal → Store → Prop} (h : AOp P o α σ fun v τ => v = a ∧ τ = σ) (hw : Wk a a') (hk : Kk a' σ) : AOp P o α σ Kk :=
 fun κ ev hI hx => (h κ ev hI hx).mono fun v w ⟨κ', b, τ, h1, h2, h3, h4, hb, hτ⟩ => by
  subst hb; subst hτ
  exact ⟨κ', a', τ, h1, h2, h3, h4.wk hw, hk⟩
end Go.Ab
namespace Go.Proofs.YtcaflcpcbcneiaaGreat
open Go.Ab
end Go.Proofs.YtcaflcpcbcneiaaGreat
end

section
set_option linter.all false
set_option maxRecDepth 100000
namespace Go.Proofs.YtcaflcpcbcneiaaGreat
open Go.Ab
theorem fb_ (a r : List UInt8) {n : Nat} (h : n = a.length) : aW_ (a ++ r, true) n = (a, r, true) := by
 subst h
 simp [aW_]
theorem f7_ (n : Int) (r : List UInt8) (h1 : -9223372036854775808 ≤ n) (h2 : n ≤ 9223372036854775807) : aL_ (beI 8 n ++ r, true) 8 = (n, r, true) := by
 rw [aL_, fb_ _ _ (ay_ 8 n).symm, ry_ n h1 h2]
theorem nT_ (n : Int) (r : List UInt8) (h1 : 0 ≤ n) (h2 : n < 256) : aL_ (beI 1 n ++ r, true) 1 = (n, r, true) := by
 rw [aL_, fb_ _ _ (ay_ 1 n).symm, tP_ 1 n (by decide) h1 (by simpa using h2)]
theorem kB_ (k m : Nat) (r : List UInt8) (h : k ≤ m) (h2 : k < 4294967296) : bu_ (beI 4 (k : Int) ++ r, true) m = (k, r, true) := by
 have e : natB (beI 4 (k : Int)) = k := by
  have := fZ_ 4 (k : Int)
  rw [show (256 : Int) ^ 4 = 4294967296 from by decide] at this
  omega
 rw [bu_, fb_ _ _ (ay_ 4 _).symm, e, if_neg (by omega)]
theorem fc_ (s : ByteArray) (r : List UInt8) (h : s.size ≤ 1048576) : as_ (a9_ s ++ r, true) = (Lb s, r, true) := by
 rw [as_, a9_, List.append_assoc, kB_ _ _ _ h (by omega)]
 exact fb_ _ _ (cr_ s).symm
theorem iW_ {α : Type} {f : Rd → α × Rd} {w : α → List UInt8} (r : List UInt8) : ∀ (l : List α), (∀ x ∈ l, ∀ r, f (w x ++ r, true) = (x, r, true)) → aQ_ f l.length (l.flatMap w ++ r, true) = (l, r, true)
 |[], _ => rfl
 |x :: l, h => by
  rw [List.length_cons, aQ_, List.flatMap_cons, List.append_assoc, h x (List.mem_cons_self ..)]
  have := iW_ r l fun y hy => h y (List.mem_cons_of_mem _ hy)
  simp [this]
theorem h7_ {α : Type} {f : Rd → α × Rd} {w : α → List UInt8} (r : List UInt8) (l : List α) (hl : l.length ≤ 65536) (h : ∀ x ∈ l, ∀ r, f (w x ++ r, true) = (x, r, true)) : bp_ f (dd_ w l ++ r, true) = (l, r, true) := by
 have := kB_ l.length 65536 (l.flatMap w ++ r) hl (by omega)
 unfold bp_ dd_
 rw [List.append_assoc, this]
 simp [iW_ r l h]
def I64 (n : Int) : Prop := -9223372036854775808 ≤ n ∧ n ≤ 9223372036854775807
structure SeenRt (x : Seen) : Prop where
 node : x.node.size ≤ 1048576
 base : I64 x.base
 len : x.more.length ≤ 65536
 more : ∀ n ∈ x.more, I64 n
structure SibRt (x : Sib) : Prop where
 node : x.node.size ≤ 1048576
 n : I64 x.n
 value : x.value.size ≤ 1048576
 time : I64 x.time
theorem nV_ {x : Seen} (h : SeenRt x) (r : List UInt8) : b9_ (dA_ x ++ r, true) = (x, r, true) := by
 have e : dA_ x ++ r = a9_ x.node ++ (beI 8 x.base ++ (dd_ (beI 8) x.more ++ r)) := by simp [dA_]
 have h3 := h7_ (f := rdI8) (w := beI 8) r x.more h.len fun n hn r => f7_ n r (h.more n hn).1 (h.more n hn).2
 unfold b9_
 rw [e, fc_ _ _ h.node]
 dsimp only
 rw [f7_ _ _ h.base.1 h.base.2]
 dsimp only
 rw [h3, B_Lb]
theorem pJ_ {x : Sib} (h : SibRt x) (r : List UInt8) : cq_ (sibB x ++ r, true) = (x, r, true) := by
 have e : sibB x ++ r = a9_ x.node ++ (beI 8 x.n ++ (a9_ x.value ++ (beI 1 (fs_ x.gone) ++ (beI 8 x.time ++ r)))) := by simp [sibB]
 have hg : 0 ≤ fs_ x.gone ∧ fs_ x.gone < 256 := by unfold fs_; split <;> decide
 unfold cq_
 rw [e, fc_ _ _ h.node]
 dsimp only
 rw [f7_ _ _ h.n.1 h.n.2]
 dsimp only
 rw [fc_ _ _ h.value]
 dsimp only
 rw [nT_ _ _ hg.1 hg.2]
 dsimp only
 rw [f7_ _ _ h.time.1 h.time.2, B_Lb, B_Lb]
 have : (!decide (fs_ x.gone = 0)) = x.gone := by cases x.gone <;> rfl
 rw [this]
structure ObjRt (o : Obj') : Prop where
 ctx : ∀ x ∈ o.ctx, SeenRt x
 sibs : ∀ x ∈ o.sibs, SibRt x
 nc : o.ctx.length ≤ 65536
 ns : o.sibs.length ≤ 65536
theorem pH_ {c : List Seen} (h : ∀ x ∈ c, SeenRt x) (hn : c.length ≤ 65536) (r : List UInt8) : bT_ (ctxB c ++ r, true) = (c, r, true) := h7_ r c hn fun x hx r => nV_ (h x hx) r
theorem kC_ {o : Obj'} (h : ObjRt o) (r : List UInt8) : bf_ (objB o ++ r, true) = (o, r, true) := by
 have e : objB o ++ r = ctxB o.ctx ++ (dd_ sibB o.sibs ++ r) := by simp [objB]
 unfold bf_
 rw [e, pH_ h.ctx h.nc]
 dsimp only
 rw [h7_ (f := cq_) (w := sibB) r o.sibs h.ns fun x hx r => pJ_ (h.sibs x hx) r]
 rfl
theorem mJ_ {o : Obj'} (h : be_ o = true) (hn : o.ctx.length ≤ 65536) (hs : o.sibs.length ≤ 65536) : ObjRt o := by
 simp only [be_, Bool.and_eq_true] at h
 have hc := hC_ o.ctx _ _ h.1
 refine ⟨fun x hx => ?_, fun x hx => ?_, hn, hs⟩
 ·obtain ⟨h1, h2⟩ := hc x hx
  simp only [cF_, du_, Bool.and_eq_true, decide_eq_true_eq] at h1
  obtain ⟨⟨⟨⟨h4, h5⟩, h6⟩, _⟩, h7⟩ := h1
  have h8 := ei_ h4
  refine ⟨by omega, ⟨by omega, by omega⟩, by omega, fun n hn => ?_⟩
  have := gF_ _ _ h7 n hn
  exact ⟨by omega, by omega⟩
 ·have key : ∀ (l : List Sib) (pv : Option Sib), cb_ o.ctx pv l = true → ∀ x ∈ l, gH_ x = true := by
   intro l
   induction l with
   |nil => intro _ _ x hx; cases hx
   |cons y l ih =>
    intro pv hh x hx
    simp only [cb_, Bool.and_eq_true] at hh
    rcases List.mem_cons.1 hx with rfl | hx
    ·exact hh.1.1.1
    ·exact ih _ hh.2 x hx
  have h1 := key _ _ h.2 x hx
  simp only [gH_, Bool.and_eq_true, decide_eq_true_eq] at h1
  obtain ⟨⟨⟨⟨h2, h3⟩, _⟩, h4⟩, h5⟩ := h1
  obtain ⟨⟨h6, h7⟩, h8⟩ := fQ_.1 h2
  have h9 := ei_ h6
  exact ⟨by omega, ⟨by omega, by omega⟩, by omega, ⟨by omega, by omega⟩⟩
def Eats {α : Type} (c : Nat) (f : Rd → α × Rd) : Prop := ∀ x, (f x).2.1.length ≤ x.1.length ∧ ((f x).2.2 = true → x.2 = true ∧ (f x).2.1.length + c ≤ x.1.length)
theorem fC_ (n : Nat) : Eats n fun x => aW_ x n := fun x => by
 simp only [aW_]
 split
 ·rename_i h
  exact ⟨by simp, fun _ => ⟨h.1, by simp; omega⟩⟩
 ·simp
theorem nX_ (x : Rd) (n : Nat) : (aW_ x n).1.length ≤ x.1.length := by
 simp only [aW_]
 split
 ·simp; omega
 ·simp
theorem ck_ (n : Nat) : Eats n fun x => aL_ x n := fun x => fC_ n x
theorem dY_ (m : Nat) : Eats 4 fun x => bu_ x m := fun x => by
 have h := fC_ 4 x
 simp only [bu_]
 split
 ·exact ⟨h.1, fun hh => by cases hh⟩
 ·exact h
theorem dr_ : Eats 4 as_ := fun x => by
 have h1 := dY_ 1048576 x
 have h2 := fC_ (bu_ x 1048576).1 (bu_ x 1048576).2
 simp only at h1 h2
 unfold as_
 refine ⟨by omega, fun hh => ?_⟩
 obtain ⟨h3, h4⟩ := h2.2 hh
 obtain ⟨h5, h6⟩ := h1.2 h3
 exact ⟨h5, by omega⟩
theorem gD_ (x : Rd) : (as_ x).1.length ≤ x.1.length := by
 have h1 := dY_ 1048576 x
 have h2 := nX_ (bu_ x 1048576).2 (bu_ x 1048576).1
 simp only at h1
 unfold as_
 omega
theorem fA_ {α : Type} {f : Rd → α × Rd} {c : Nat} (hf : Eats c f) : ∀ n x, (aQ_ f n x).2.1.length ≤ x.1.length ∧ ((aQ_ f n x).2.2 = true → x.2 = true ∧ (aQ_ f n x).2.1.length + c * (aQ_ f n x).1.length ≤ x.1.length)
 |0, x => ⟨Nat.le_refl _, fun h => ⟨h, by simp [aQ_]⟩⟩
 |n + 1, x => by
  have h1 := hf x
  have h2 := fA_ hf n (f x).2
  rw [aQ_]
  cases hx : x.2 with
  |false => simp [hx]
  |true =>
   simp only [if_true, List.length_cons, Nat.mul_succ]
   refine ⟨by omega, fun hh => ⟨trivial, ?_⟩⟩
   obtain ⟨h3, h4⟩ := h2.2 hh
   obtain ⟨_, h6⟩ := h1.2 h3
   omega
theorem iV_ {α : Type} {f : Rd → α × Rd} {c N : Nat} {p : α → Prop} (hf : Eats c f) (hp : ∀ x, x.1.length ≤ N → p (f x).1) : ∀ n x, x.1.length ≤ N → ∀ a ∈ (aQ_ f n x).1, p a
 |0, x, _ => fun a ha => by cases ha
 |n + 1, x, hx => fun a ha => by
  rw [aQ_] at ha
  split at ha
  ·rcases List.mem_cons.1 ha with rfl | ha
   ·exact hp x hx
   ·exact iV_ hf hp n (f x).2 (Nat.le_trans (hf x).1 hx) a ha
  ·cases ha
theorem iX_ {α : Type} {f : Rd → α × Rd} {c : Nat} (hf : Eats c f) : Eats 4 (bp_ f) := fun x => by
 have h1 := dY_ 65536 x
 have h2 := fA_ hf (bu_ x 65536).1 (bu_ x 65536).2
 simp only at h1
 unfold bp_
 dsimp only
 split
 ·refine ⟨by omega, fun hh => ?_⟩
  obtain ⟨h3, h4⟩ := h2.2 hh
  obtain ⟨h5, h6⟩ := h1.2 h3
  exact ⟨h5, by omega⟩
 ·rename_i hn
  exact ⟨by show (aQ_ f _ _).2.1.length ≤ _; omega, fun hh => absurd hh hn⟩
theorem h8_ {α : Type} {f : Rd → α × Rd} {c : Nat} (hf : Eats c f) (x : Rd) : c * (bp_ f x).1.length ≤ x.1.length := by
 have h1 := dY_ 65536 x
 have h2 := fA_ hf (bu_ x 65536).1 (bu_ x 65536).2
 simp only at h1
 unfold bp_
 dsimp only
 split
 ·rename_i hh
  obtain ⟨h3, h4⟩ := h2.2 hh
  omega
 ·simp
theorem kD_ {α : Type} {f : Rd → α × Rd} {c N : Nat} {p : α → Prop} (hf : Eats c f) (hp : ∀ x, x.1.length ≤ N → p (f x).1) (x : Rd) (hx : x.1.length ≤ N) : ∀ a ∈ (bp_ f x).1, p a := fun a ha => by
 have h1 := dY_ 65536 x
 simp only at h1
 unfold bp_ at ha
 dsimp only at ha
 split at ha
 ·exact iV_ hf hp _ _ (by omega) a ha
 ·cases ha
theorem fB_ : Eats 4 b9_ := fun x => by
 have h1 := dr_ x
 have h2 := ck_ 8 (as_ x).2
 have h3 := iX_ (f := rdI8) (ck_ 8) (aL_ (as_ x).2 8).2
 simp only at h2
 unfold b9_
 dsimp only
 refine ⟨by omega, fun hh => ?_⟩
 obtain ⟨g1, g2⟩ := h3.2 hh
 obtain ⟨g3, g4⟩ := h2.2 g1
 obtain ⟨g5, g6⟩ := h1.2 g3
 exact ⟨g5, by omega⟩
theorem iY_ : Eats 4 cq_ := fun x => by
 have h1 := dr_ x
 have h2 := ck_ 8 (as_ x).2
 have h3 := dr_ (aL_ (as_ x).2 8).2
 have h4 := ck_ 1 (as_ (aL_ (as_ x).2 8).2).2
 have h5 := ck_ 8 (aL_ (as_ (aL_ (as_ x).2 8).2).2 1).2
 simp only at h2 h4 h5
 unfold cq_
 dsimp only
 refine ⟨by omega, fun hh => ?_⟩
 obtain ⟨g1, g2⟩ := h5.2 hh
 obtain ⟨g3, g4⟩ := h4.2 g1
 obtain ⟨g5, g6⟩ := h3.2 g3
 obtain ⟨g7, g8⟩ := h2.2 g5
 obtain ⟨g9, g10⟩ := h1.2 g7
 exact ⟨g9, by omega⟩
theorem pI_ {x : Rd} (hx : x.1.length ≤ 100000) : SeenSm (b9_ x).1 := by
 have h1 := gD_ x
 have h2 := (dr_ x).1
 have h3 := (ck_ 8 (as_ x).2).1
 have h4 := h8_ (f := rdI8) (ck_ 8) (aL_ (as_ x).2 8).2
 simp only at h3
 refine ⟨?_, ?_⟩
 ·show (B (as_ x).1).size ≤ _
  rw [a3_]; omega
 ·show (bp_ rdI8 (aL_ (as_ x).2 8).2).1.length ≤ _
  omega
theorem rA_ {x : Rd} (hx : x.1.length ≤ 100000) : SibSm (cq_ x).1 := by
 have h1 := gD_ x
 have h2 := (dr_ x).1
 have h3 := (ck_ 8 (as_ x).2).1
 have h4 := gD_ (aL_ (as_ x).2 8).2
 simp only at h3
 refine ⟨?_, ?_⟩
 ·show (B (as_ x).1).size ≤ _
  rw [a3_]; omega
 ·show (B (as_ (aL_ (as_ x).2 8).2).1).size ≤ _
  rw [a3_]; omega
theorem rx_ {x : Rd} (hx : x.1.length ≤ 4000) : (∀ y ∈ (bT_ x).1, SeenSm y) ∧ (bT_ x).1.length ≤ 1000 := by
 have h := h8_ fB_ x
 exact ⟨kD_ (N := 4000) fB_ (fun y hy => pI_ (by omega)) x hx, by unfold bT_; omega⟩
theorem rz_ {x : Rd} (hx : x.1.length ≤ 4000) : ObjSm (bf_ x).1 := by
 have h1 := rx_ hx
 have h2 := (iX_ fB_ x).1
 have h3 : (bT_ x).2.1.length ≤ 4000 := by unfold bT_; omega
 have h4 := h8_ iY_ (bT_ x).2
 have h5 := kD_ (N := 4000) iY_ (fun y hy => rA_ (by omega)) (bT_ x).2 h3
 unfold bf_
 dsimp only
 split
 ·exact ⟨h1.1, h5, h1.2, by simp only; omega⟩
 ·exact ⟨(fun y hy => by cases hy), (fun y hy => by cases hy), by simp, by simp⟩
end Go.Proofs.YtcaflcpcbcneiaaGreat
end

section
set_option linter.all false
set_option maxRecDepth 100000
namespace Go.Ab
structure Mnt where
 place : ByteArray
 n : Int
structure Bk where
 items : List Itm
 mints : List Mnt
@[reducible] def sMnt (x : Mnt) : AVal := .agg [.lit (.string x.place), vInt x.n]
@[reducible] def sBk (b : Bk) : AVal := .agg [.sl 3 (b.items.map aD_) false, .sl 2 (b.mints.map sMnt) false]
end Go.Ab
namespace Go.Proofs.YtcaflcpcbcneiaaGreat
open Go.Ab
instance : DecidableEq Mnt := fun a b => decidable_of_iff (a.place = b.place ∧ a.n = b.n) (by cases a; cases b; simp)
theorem mI_ : ∀ {l m : List UInt8}, l.length = m.length → natB l = natB m → l = m
 |[], [], _, _ => rfl
 |[], b :: m, h, _ => by simp at h
 |a :: l, [], h, _ => by simp at h
 |a :: l, b :: m, h, e => by
  have hl : l.length = m.length := by simpa using h
  rw [f0_, f0_, hl] at e
  have h1 := hX_ l; have h2 := hX_ m
  rw [hl] at h1
  have hp : 0 < 256 ^ m.length := Nat.pow_pos (by decide)
  have ea : a.toNat = b.toNat := by
   have q1 : (a.toNat * 256 ^ m.length + natB l) / 256 ^ m.length = a.toNat := by
    rw [Nat.mul_comm, Nat.mul_add_div hp, Nat.div_eq_of_lt h1, Nat.add_zero]
   have q2 : (b.toNat * 256 ^ m.length + natB m) / 256 ^ m.length = b.toNat := by
    rw [Nat.mul_comm, Nat.mul_add_div hp, Nat.div_eq_of_lt h2, Nat.add_zero]
   rw [← q1, ← q2, e]
  rw [ea] at e
  have el : natB l = natB m := by omega
  rw [mI_ hl el, show a = b from UInt8.toNat_inj.1 ea]
theorem qO_ (l : List UInt8) : beI l.length (natB l : Int) = l := by
 refine mI_ (ay_ _ _) ?_
 have h := fZ_ l.length (natB l : Int)
 have hl : ((natB l : Nat) : Int) < 256 ^ l.length := by
  have := hX_ l
  exact_mod_cast this
 rw [Int.emod_eq_of_lt (Int.natCast_nonneg _) hl] at h
 exact_mod_cast h
theorem gM_ {x : Rd} {n : Nat} (h : (aW_ x n).2.2 = true) : x.2 = true ∧ x.1 = (aW_ x n).1 ++ (aW_ x n).2.1 ∧ (aW_ x n).1.length = n := by
 unfold aW_ at h ⊢
 by_cases hc : x.2 = true ∧ n ≤ x.1.length
 ·rw [if_pos hc]
  exact ⟨hc.1, (List.take_append_drop n x.1).symm, by simp; omega⟩
 ·rw [if_neg hc] at h; cases h
theorem nW_ {x : Rd} {n : Nat} (h : (aW_ x n).2.2 = false) : (aW_ x n).1 = [] := by
 unfold aW_ at h ⊢
 by_cases hc : x.2 = true ∧ n ≤ x.1.length
 ·rw [if_pos hc] at h; cases h
 ·rw [if_neg hc]
theorem kF_ {x : Rd} (h : (as_ x).2.2 = true) : x.2 = true ∧ x.1 = a9_ (B (as_ x).1) ++ (as_ x).2.1 := by
 unfold as_ at h ⊢
 obtain ⟨h1, h2, h3⟩ := gM_ h
 unfold bu_ at h1 h2 h3 ⊢
 by_cases hc : 1048576 < natB (aW_ x 4).1
 ·rw [if_pos hc] at h1; cases h1
 ·rw [if_neg hc] at h1 h2 h3 ⊢
  obtain ⟨g1, g2, g3⟩ := gM_ h1
  refine ⟨g1, ?_⟩
  have e : a9_ (B (aW_ (aW_ x 4).2 (natB (aW_ x 4).1)).1) = (aW_ x 4).1 ++ (aW_ (aW_ x 4).2 (natB (aW_ x 4).1)).1 := by
   rw [a9_, a3_, Lb_B, h3]
   congr 1
   have := qO_ (aW_ x 4).1
   rw [g3] at this; exact this
  rw [e, List.append_assoc, ← h2, ← g2]
theorem nY_ {x : Rd} (h : (as_ x).2.2 = false) : (as_ x).1 = [] := nW_ h
theorem lI_ : aH_ (B []) = false := by decide +kernel
def cn_ {α : Type} (key : α → ByteArray) (l : List α) : Prop := l.Pairwise fun a b => sLt (key a) (key b) = true
def insK {α : Type} (key : α → ByteArray) (x : α) : List α → List α
 |[] => [x]
 |y :: l => if sLt (key y) (key x) = true then y :: insK key x l else if key y = key x then x :: l else x :: y :: l
theorem dD_ {α : Type} {key : α → ByteArray} {x z : α} : ∀ {l : List α}, z ∈ insK key x l → z = x ∨ z ∈ l
 |[], h => .inl (by simpa [insK] using h)
 |y :: l, h => by
  rw [insK] at h
  split at h
  ·rcases List.mem_cons.1 h with rfl | h
   ·exact .inr (.head _)
   ·rcases dD_ h with h | h
    ·exact .inl h
    ·exact .inr (.tail _ h)
  ·split at h
   ·rcases List.mem_cons.1 h with rfl | h
    ·exact .inl rfl
    ·exact .inr (.tail _ h)
   ·rcases List.mem_cons.1 h with rfl | h
    ·exact .inl rfl
    ·exact .inr h
theorem fW_ {α : Type} {key : α → ByteArray} {x : α} : ∀ {l : List α}, cn_ key l → cn_ key (insK key x l)
 |[], _ => List.pairwise_singleton ..
 |y :: l, h => by
  obtain ⟨h1, h2⟩ := List.pairwise_cons.1 h
  rw [insK]
  split
  ·rename_i hlt
   refine List.pairwise_cons.2 ⟨fun z hz => ?_, fW_ h2⟩
   rcases dD_ hz with rfl | hz
   ·exact hlt
   ·exact h1 z hz
  ·split
   ·rename_i _ he
    exact List.pairwise_cons.2 ⟨fun z hz => by rw [← he]; exact h1 z hz, h2⟩
   ·rename_i hlt he
    have hxy : sLt (key x) (key y) = true := fD_ (by simpa using hlt) he
    refine List.pairwise_cons.2 ⟨fun z hz => ?_, h⟩
    rcases List.mem_cons.1 hz with rfl | hz
    ·exact hxy
    ·exact bs_ hxy (h1 z hz)
theorem g9_ {α : Type} {key : α → ByteArray} {x : α} : ∀ {l : List α}, (insK key x l).length ≤ l.length + 1
 |[] => Nat.le_refl _
 |y :: l => by
  rw [insK]
  split
  ·have := g9_ (key := key) (x := x) (l := l); simp; omega
  ·split
   ·simp
   ·simp
def lowK {α : Type} (key : α → ByteArray) (s : ByteArray) (l : List α) : Nat := (l.takeWhile fun y => sLt (key y) s).length
theorem pk_ {α : Type} (key : α → ByteArray) (s : ByteArray) (l : List α) : lowK key s l ≤ l.length := (List.takeWhile_sublist _).length_le
theorem c1_ {α : Type} (key : α → ByteArray) (s : ByteArray) (y : α) (l : List α) : lowK key s (y :: l) = if sLt (key y) s = true then lowK key s l + 1 else 0 := by
 unfold lowK; rw [List.takeWhile_cons]; split <;> simp
theorem lC_ {α : Type} {key : α → ByteArray} {s : ByteArray} : ∀ {l : List α} {k : Nat}, (∀ j y, j < k → l[j]? = some y → sLt (key y) s = true) → k ≤ l.length → (∀ y, l[k]? = some y → sLt (key y) s = false) → lowK key s l = k
 |[], k, _, hk, _ => by simp at hk; subst hk; rfl
 |y :: l, 0, _, _, h2 => by rw [c1_, if_neg (by rw [h2 y rfl]; simp)]
 |y :: l, k + 1, h1, hk, h2 => by
  rw [c1_, if_pos (h1 0 y (by omega) rfl), lC_ (l := l) (k := k) (fun j z hj hz => h1 (j + 1) z (by omega) hz) (by simpa using hk) (fun z hz => h2 z hz)]
theorem lD_ {α : Type} {key : α → ByteArray} {s : ByteArray} : ∀ {l : List α} {j : Nat} {y : α}, j < lowK key s l → l[j]? = some y → sLt (key y) s = true
 |[], j, y, h, _ => by simp [lowK] at h
 |z :: l, j, y, h, hy => by
  rw [c1_] at h
  split at h
  ·rename_i hz
   cases j with
   |zero => simp at hy; rw [← hy]; exact hz
   |succ j => exact lD_ (l := l) (j := j) (by omega) (by simpa using hy)
  ·omega
theorem pj_ {α : Type} {key : α → ByteArray} {s : ByteArray} : ∀ {l : List α} {y : α}, l[lowK key s l]? = some y → sLt (key y) s = false
 |[], y, h => by simp at h
 |z :: l, y, h => by
  rw [c1_] at h
  split at h
  ·exact pj_ (l := l) (by simpa using h)
  ·rename_i hz
   simp at h; rw [← h]; simpa using hz
theorem ly_ {α : Type} {key : α → ByteArray} {x : α} : ∀ {l : List α}, cn_ key l → insK key x l = if (l[lowK key (key x) l]?).any (fun y => decide (key y = key x)) = true then l.set (lowK key (key x) l) x else l.take (lowK key (key x) l) ++ x :: l.drop (lowK key (key x) l)
 |[], _ => by simp [insK, lowK]
 |y :: l, h => by
  obtain ⟨h1, h2⟩ := List.pairwise_cons.1 h
  have ih := ly_ (x := x) h2
  rw [insK, c1_]
  by_cases hlt : sLt (key y) (key x) = true
  ·rw [if_pos hlt, if_pos hlt, ih]
   simp only [List.getElem?_cons_succ, List.set_cons_succ, List.take_succ_cons, List.drop_succ_cons, List.cons_append]
   split <;> rfl
  ·rw [if_neg hlt, if_neg hlt]
   by_cases he : key y = key x
   ·rw [if_pos he]; simp [he]
   ·rw [if_neg he]; simp [he]
theorem lz_ {α : Type} {key : α → ByteArray} {x : α} {l : List α} (h : cn_ key l) : insK key x l = (l.filter fun y => decide (key y ≠ key x)).take (lowK key (key x) (l.filter fun y => decide (key y ≠ key x))) ++ x :: (l.filter fun y => decide (key y ≠ key x)).drop (lowK key (key x) (l.filter fun y => decide (key y ≠ key x))) := by
 induction l with
 |nil => simp [insK, lowK]
 |cons y l ih =>
  obtain ⟨h1, h2⟩ := List.pairwise_cons.1 h
  rw [insK]
  by_cases hlt : sLt (key y) (key x) = true
  ·rw [if_pos hlt, ih h2, List.filter_cons_of_pos (by simpa using fn_ hlt), c1_, if_pos hlt]
   rfl
  ·rw [if_neg hlt]
   by_cases he : key y = key x
   ·have hf : ∀ z ∈ l, decide (key z ≠ key x) = true := fun z hz => decide_eq_true (by rw [← he]; exact (fn_ (h1 z hz)).symm)
    have hz : lowK key (key x) l = 0 := by
     cases l with
     |nil => rfl
     |cons z l => rw [c1_, if_neg (by rw [← he, id_ (h1 z (.head _))]; simp)]
    rw [if_pos he, List.filter_cons_of_neg (by simp [he]), List.filter_eq_self.2 hf, hz]; rfl
   ·have hxy : sLt (key x) (key y) = true := fD_ (by simpa using hlt) he
    have hf : ∀ z ∈ y :: l, decide (key z ≠ key x) = true := fun z hz => decide_eq_true (by
     rcases List.mem_cons.1 hz with rfl | hz
     ·exact he
     ·exact (fn_ (bs_ hxy (h1 z hz))).symm)
    rw [if_neg he, List.filter_eq_self.2 hf, c1_, if_neg hlt]; rfl
theorem lS_ {α : Type} {ok : α → Bool} {key : α → ByteArray} : ∀ {l : List α} {pv : Option ByteArray}, (∀ p, pv = some p → ∀ x ∈ l, sLt p (key x) = true) → cn_ key l → (∀ x ∈ l, ok x = true) → upGo ok key pv l = true
 |[], _, _, _, _ => rfl
 |x :: l, pv, h1, h2, h3 => by
  obtain ⟨g1, g2⟩ := List.pairwise_cons.1 h2
  rw [upGo, h3 x (.head _), lS_ (l := l) (fun p hp y hy => by cases hp; exact g1 y hy) g2 fun y hy => h3 y (.tail _ hy)]
  cases pv with
  |none => rfl
  |some p => rw [show b3_ (some p) (key x) = true from h1 p rfl x (.head _)]; rfl
def cw_ (n : Int) : Bool := decide (1 ≤ n) && decide (n ≤ 9007199254740992)
def jn_ (l : List Mnt) : Bool := upGo (fun x => aH_ x.place && cw_ x.n) Mnt.place none l
def bkOk (b : Bk) : Bool := hK_ b.items && jn_ b.mints
def putR (p : ByteArray) (o : Obj') : List UInt8 := 1 :: (a9_ p ++ objB o)
def ln_ (p : ByteArray) : List UInt8 := 2 :: a9_ p
def dz_ (l : List Mnt) (p : ByteArray) : Int := match l.find? (fun x => decide (x.place = p)) with
 |some x => x.n + 1
 |none => 1
def getS (l : List Itm) (p : ByteArray) : Obj' × Bool := match l.find? (fun x => decide (x.place = p)) with
 |some x => (x.obj, true)
 |none => (⟨[], []⟩, false)
def hdK (r : List UInt8) : Int := (aL_ (r, true) 1).1
def hdP (r : List UInt8) : ByteArray := B (as_ (aL_ (r, true) 1).2).1
def hdX (r : List UInt8) : Rd := (as_ (aL_ (r, true) 1).2).2
def fr_ (x : Rd) : Bool := x.2 && decide (x.1 = [])
def apl (b : Bk) (r : List UInt8) : Bk × Bool :=
 if aH_ (hdP r) then
  if hdK r = 1 then (⟨insK Itm.place ⟨hdP r, (bf_ (hdX r)).1⟩ b.items, b.mints⟩, fr_ (bf_ (hdX r)).2 && be_ (bf_ (hdX r)).1 && decide (putR (hdP r) (bf_ (hdX r)).1 = r))
  else if hdK r = 2 then (⟨b.items.filter fun x => !decide (x.place = hdP r), b.mints⟩, fr_ (hdX r))
  else if hdK r = 3 then (⟨b.items, insK Mnt.place ⟨hdP r, max (aL_ (hdX r) 8).1 (dz_ b.mints (hdP r) - 1)⟩ b.mints⟩, fr_ (aL_ (hdX r) 8).2 && cw_ (aL_ (hdX r) 8).1)
  else (b, false)
 else (b, false)
theorem qQ_ (k : UInt8) (l : List UInt8) : aL_ (k :: l, true) 1 = ((k.toNat : Int), l, true) := by
 have h : aW_ (k :: l, true) 1 = ([k], l, true) := by simp [aW_]
 rw [aL_, h]
 have h2 : natB [k] = k.toNat := by simp [natB]
 have h3 := k.toNat_lt
 show (rdI [k], l, true) = _
 rw [h6_ _ (by simp), h2]
theorem g7_ {r : List UInt8} (h : aH_ (hdP r) = true) : (hdX r).2 = true ∧ ∃ k : UInt8, hdK r = k.toNat ∧ r = k :: (a9_ (hdP r) ++ (hdX r).1) := by
 have h2 : (hdX r).2 = true := by
  cases hx : (hdX r).2 with
  |true => rfl
  |false =>
   have : hdP r = B [] := by rw [hdP, nY_ hx]
   rw [this, lI_] at h; cases h
 refine ⟨h2, ?_⟩
 obtain ⟨h3, h4⟩ := kF_ (x := (aL_ (r, true) 1).2) h2
 cases r with
 |nil =>
  have : (aL_ ([], true) 1).2 = ([], false) := by simp [aL_, aW_]
  rw [this] at h3; cases h3
 |cons k l =>
  refine ⟨k, by rw [hdK, qQ_], ?_⟩
  rw [qQ_] at h4
  unfold hdP hdX
  rw [qQ_]
  congr 1
theorem q8_ {r : List UInt8} (h : aH_ (hdP r) = true) : hdX r = ((hdX r).1, true) := by rw [← (g7_ h).1]
theorem sA_ {p : ByteArray} {k : UInt8} {l : List UInt8} (h : p.size ≤ 1048576) : hdK (k :: (a9_ p ++ l)) = k.toNat ∧ hdP (k :: (a9_ p ++ l)) = p ∧ hdX (k :: (a9_ p ++ l)) = (l, true) := by
 unfold hdK hdP hdX
 rw [qQ_, fc_ _ _ h]
 exact ⟨rfl, B_Lb p, rfl⟩
theorem bo_ {p : ByteArray} (h : aH_ p = true) : p.size ≤ 100 := by
 unfold aH_ da_ at h
 split at h
 ·rename_i hc
  obtain ⟨h1, h2, h3⟩ := hc
  rcases eh_ p with ⟨he, hcut⟩ | ⟨k, he, hk, hcut⟩
  ·rw [hcut] at h1; cases h1
  ·rw [hcut] at h2 h3
   have h4 := ei_ h2
   simp only [nJ_, Bool.and_eq_true, decide_eq_true_eq] at h3
   have e1 : (p.extract 0 k).size = k := by rw [ByteArray.size_extract]; omega
   have e2 : (p.extract (k + 1) p.size).size = p.size - (k + 1) := by rw [ByteArray.size_extract]; omega
   rw [e1] at h4
   rw [e2] at h3
   omega
 ·cases h
theorem bY_ {b : Bk} : bkOk b = true ↔ (cn_ Itm.place b.items ∧ ∀ x ∈ b.items, aH_ x.place = true ∧ be_ x.obj = true) ∧ (cn_ Mnt.place b.mints ∧ ∀ x ∈ b.mints, aH_ x.place = true ∧ cw_ x.n = true) := by
 rw [bkOk, Bool.and_eq_true]
 refine ⟨fun ⟨h1, h2⟩ => ?_, fun ⟨⟨h1, h2⟩, h3, h4⟩ => ?_⟩
 ·obtain ⟨_, a1, a2⟩ := ii_ h1
  obtain ⟨_, b1, b2⟩ := ii_ h2
  exact ⟨⟨a1, fun x hx => by simpa using a2 x hx⟩, b1, fun x hx => by simpa using b2 x hx⟩
 ·exact ⟨lS_ (fun p hp => by cases hp) h1 fun x hx => by simp [h2 x hx], lS_ (fun p hp => by cases hp) h3 fun x hx => by simp [h4 x hx]⟩
theorem dU_ {n : Int} : cw_ n = true ↔ 1 ≤ n ∧ n ≤ 9007199254740992 := by simp [cw_]
theorem tE_ {b : Bk} (h : bkOk b = true) (p : ByteArray) : 1 ≤ dz_ b.mints p ∧ dz_ b.mints p ≤ 9007199254740993 := by
 unfold dz_
 split
 ·rename_i x hx
  have := dU_.1 ((bY_.1 h).2.2 x (List.mem_of_find?_eq_some hx)).2
  omega
 ·omega
theorem uG_ {b : Bk} {r : List UInt8} (h : bkOk b = true) (h2 : (apl b r).2 = true) : bkOk (apl b r).1 = true := by
 have nx := tE_ h (hdP r)
 obtain ⟨⟨i1, i2⟩, m1, m2⟩ := bY_.1 h
 unfold apl at h2 ⊢
 split at h2
 ·rename_i hp
  rw [if_pos hp]
  split at h2
  ·rename_i hk
   rw [if_pos hk]
   simp only [Bool.and_eq_true] at h2
   refine bY_.2 ⟨⟨fW_ i1, fun x hx => ?_⟩, m1, m2⟩
   rcases dD_ hx with rfl | hx
   ·exact ⟨hp, h2.1.2⟩
   ·exact i2 x hx
  ·rename_i hk
   rw [if_neg hk]
   split at h2
   ·rename_i hk2
    rw [if_pos hk2]
    exact bY_.2 ⟨⟨i1.filter _, fun x hx => i2 x (List.mem_filter.1 hx).1⟩, m1, m2⟩
   ·rename_i hk2
    rw [if_neg hk2]
    split at h2
    ·rename_i hk3
     rw [if_pos hk3]
     simp only [Bool.and_eq_true] at h2
     have c := dU_.1 h2.2
     refine bY_.2 ⟨⟨i1, i2⟩, fW_ m1, fun x hx => ?_⟩
     rcases dD_ hx with rfl | hx
     ·exact ⟨hp, dU_.2 (by show 1 ≤ max _ _ ∧ max _ _ ≤ _; omega)⟩
     ·exact m2 x hx
    ·cases h2
 ·cases h2
def Runs : Bk → List (List UInt8) → Bk → Prop
 |b, [], c => c = b
 |b, r :: l, c => (apl b r).2 = true ∧ Runs (apl b r).1 l c
theorem Runs.ok : ∀ {l : List (List UInt8)} {b c : Bk}, bkOk b = true → Runs b l c → bkOk c = true
 |[], b, c, hb, h => by rw [show c = b from h]; exact hb
 |r :: l, b, c, hb, h => h.2.ok (uG_ hb h.1)
theorem Runs.part : ∀ {l : List (List UInt8)} {b c : Bk} (i : Nat), Runs b l c → ∃ d, Runs b (l.take i) d ∧ Runs d (l.drop i) c
 |l, b, c, 0, h => ⟨b, by simp [Runs], by simpa using h⟩
 |[], b, c, i + 1, h => ⟨b, by simp [Runs], by simpa using h⟩
 |r :: l, b, c, i + 1, h => by
  obtain ⟨d, h1, h2⟩ := h.2.part i
  exact ⟨d, ⟨h.1, h1⟩, h2⟩
def recI (x : Itm) : List UInt8 := putR x.place x.obj
theorem s2_ {b : Bk} {p : ByteArray} {o : Obj'} (hp : aH_ p = true) (ho : be_ o = true) (hr : ObjRt o) : apl b (putR p o) = (⟨insK Itm.place ⟨p, o⟩ b.items, b.mints⟩, true) := by
 obtain ⟨e1, e2, e3⟩ := sA_ (k := 1) (l := objB o) (p := p) (by have := bo_ hp; omega)
 have e4 := kC_ hr []
 rw [List.append_nil] at e4
 have f1 : hdK (putR p o) = 1 := e1
 have f2 : hdP (putR p o) = p := e2
 have f3 : hdX (putR p o) = (objB o, true) := e3
 rw [apl, f1, f2, f3, e4, if_pos hp, if_pos rfl]
 simp [fr_, ho]
end Go.Proofs.YtcaflcpcbcneiaaGreat
end

section
set_option linter.all false
namespace Go.Ab
open Go.RowKit (Below)
open Go.ChangeShapes Go.WideShapes
inductive Sh where
 |int (k : IntKind)
 |bool
 |str
 |sl (g : Bool) (e : Sh)
 |unit
 |pair (a b : Sh)
def Sh.size : Sh → Nat
 |.unit => 0
 |.pair a b => a.size + b.size
 |_ => 1
def Sh.ok : Sh → List AVal → Prop
 |.int k, cs => ∃ n, cs = [.lit (.int k n)] ∧ (Lit.int k n).wf = true
 |.bool, cs => ∃ b, cs = [.lit (.bool b)]
 |.str, cs => ∃ s, cs = [.lit (.string s)] ∧ s.size ≤ maxLen
 |.sl g e, cs => ∃ l : List AVal, cs = [.sl e.size l false] ∧ l.length ≤ maxLen ∧ ∀ x ∈ l, ∃ c, e.ok c ∧ (if g then x = .agg c else c = [x])
 |.unit, cs => cs = []
 |.pair a b, cs => ∃ c d, cs = c ++ d ∧ a.ok c ∧ b.ok d
def Sh.okv (s : Sh) (g : Bool) (a : AVal) : Prop := ∃ c, s.ok c ∧ (if g then a = .agg c else c = [a])
def g6_ (sh : TypeId → Option Sh) (P : Program) : List Field → Nat → Option Sh
 |[], _ => some .unit
 |f :: fs, off => if f.offset = off then match sh f.type with
   |some s => if s.size = P.cellsOf f.type then (g6_ sh P fs (off + s.size)).map (.pair s) else none
   |none => none
  else none
def tV_ (s : Sh) : Nat → Sh
 |0 => .unit
 |n + 1 => .pair s (tV_ s n)
def es_ (P : Program) : Nat → TypeId → Option Sh
 |0, _ => none
 |d + 1, t => match P.underlying t with
  |some .bool => some .bool
  |some (.int k) => some (.int k)
  |some .string => some .str
  |some (.slice e) => match es_ P d e with
   |some s => if s.size = P.cellsOf e ∧ 0 < s.size ∧ (aggB P e = false → s.size = 1) then some (.sl (aggB P e) s) else none
   |none => none
  |some (.struct fs) => match g6_ (es_ P d) P fs.toList 0 with
   |some s => if s.size = P.cellsOf t then some s else none
   |none => none
  |some (.array n e) => match es_ P d e with
   |some s => if s.size = P.cellsOf e ∧ P.cellsOf t = n * s.size then some (tV_ s n) else none
   |none => none
  |_ => none
theorem Sh.ok_length : ∀ {s : Sh} {cs : List AVal}, s.ok cs → cs.length = s.size
 |.int k, cs, h => by obtain ⟨n, rfl, _⟩ := h; rfl
 |.bool, cs, h => by obtain ⟨n, rfl⟩ := h; rfl
 |.str, cs, h => by obtain ⟨n, rfl, _⟩ := h; rfl
 |.sl g e, cs, h => by obtain ⟨n, rfl, _⟩ := h; rfl
 |.unit, cs, h => by obtain rfl : cs = [] := h; rfl
 |.pair a b, cs, h => by
  obtain ⟨c, d, rfl, h1, h2⟩ := h
  simp [Sh.size, Sh.ok_length h1, Sh.ok_length h2]
theorem mP_ {p : Nat → AVal → Prop} : ∀ (n : Nat), (∀ i, i < n → ∃ x, p i x) → ∃ l : List AVal, l.length = n ∧ ∀ i (hi : i < l.length), p i l[i]
 |0, _ => ⟨[], rfl, fun i hi => by simp at hi⟩
 |n + 1, h => by
  obtain ⟨l, hl, hp⟩ := mP_ n fun i hi => h i (by omega)
  obtain ⟨x, hx⟩ := h n (by omega)
  refine ⟨l ++ [x], by simp [hl], fun i hi => ?_⟩
  by_cases hlt : i < l.length
  ·rw [List.getElem_append_left hlt]; exact hp i hlt
  ·have : i = n := by simp at hi; omega
   subst this
   rw [List.getElem_append_right (by omega)]
   simpa [hl] using hx
section
variable {H : Type} {enc : TypeId × Value → H} {P : Program} {κ : K} {held : Bool}
theorem cells?_at {w : World} {base : Nat} {a : Addr} {n : Nat} {cs : List Value} (h : w.cells? base a n = some cs) : cs.length = n ∧ ∀ i (hi : i < cs.length), w.cell? (a.add i) = some cs[i] := by
 unfold World.cells? at h
 split at h
 ·have hl : cs.length = n := by
   have := mapM_len h
   simpa using this
  refine ⟨hl, fun i hi => ?_⟩
  have := mapM_at h i (by simpa [hl] using hi) hi
  simpa using this
 ·cases h
where
 mapM_len {α β : Type} {f : α → Option β} : ∀ {l : List α} {r : List β}, l.mapM f = some r → r.length = l.length
  |[], r, h => by simp at h; subst h; rfl
  |x :: l, r, h => by
   rw [List.mapM_cons] at h
   obtain ⟨y, _, h2⟩ := Option.bind_eq_some_iff.1 h
   obtain ⟨ys, h3, h4⟩ := Option.bind_eq_some_iff.1 h2
   obtain rfl := Option.some.inj h4
   simp [mapM_len h3]
 mapM_at {α β : Type} {f : α → Option β} : ∀ {l : List α} {r : List β}, l.mapM f = some r → ∀ i (hi : i < l.length) (hj : i < r.length), f l[i] = some r[i]
  |[], r, h, i, hi, _ => by simp at hi
  |x :: l, r, h, i, hi, hj => by
   rw [List.mapM_cons] at h
   obtain ⟨y, h1, h2⟩ := Option.bind_eq_some_iff.1 h
   obtain ⟨ys, h3, h4⟩ := Option.bind_eq_some_iff.1 h2
   obtain rfl := Option.some.inj h4
   cases i with
   |zero => simpa using h1
   |succ i => simpa using mapM_at h3 i (by simpa using hi) (by simpa using hj)
def ux_ (enc : TypeId × Value → H) (P : Program) (κ : K) (held : Bool) (d : Nat) : Prop :=
 ∀ (t : TypeId) (s : Sh) (fuel : Nat) (cs : List Value) (x : DataW H × List MemPlace), es_ P d t = some s → DataW.trod enc P κ.w 0 (fun _ => true) held fuel t cs = some x → ∃ av, s.ok av ∧ RvC κ av cs
theorem h9_ {d : Nat} (ih : ux_ enc P κ held d) {n : Nat} {cs : List Value} : ∀ (fs : List Field) (off : Nat) (s : Sh), g6_ (es_ P d) P fs off = some s → off + s.size ≤ cs.length →
  (∀ (i : Nat) (f : Field), fs[i]? = some f → ∃ y, DataW.trod enc P κ.w 0 (fun _ => true) held n f.type ((cs.drop f.offset).take (P.cellsOf f.type)) = some y) → ∃ av, s.ok av ∧ RvC κ av ((cs.drop off).take s.size)
 |[], off, s, hs, _, _ => by
  obtain rfl := Option.some.inj hs
  exact ⟨[], rfl, by simp [Sh.size], fun i hi => by simp at hi⟩
 |f :: fs, off, s, hs, hle, hf => by
  unfold g6_ at hs
  split at hs
  ·rename_i ho
   split at hs
   ·rename_i s1 h1
    split at hs
    ·rename_i hsz
     obtain ⟨s2, h2, rfl⟩ := Option.map_eq_some_iff.1 hs
     simp only [Sh.size] at hle ⊢
     obtain ⟨y, hy⟩ := hf 0 f rfl
     obtain ⟨av, ha1, ha2⟩ := ih f.type s1 n _ y h1 hy
     obtain ⟨bs, hb1, hb2⟩ := h9_ ih fs (off + s1.size) s2 h2 (by omega) fun i g hg => hf (i + 1) g (by simpa using hg)
     refine ⟨av ++ bs, ⟨av, bs, rfl, ha1, hb1⟩, ?_⟩
     have e : (cs.drop off).take (s1.size + s2.size) = (cs.drop f.offset).take (P.cellsOf f.type) ++ (cs.drop (off + s1.size)).take s2.size := by
      rw [List.take_add, ho, ← hsz, List.drop_drop]
     rw [e]
     exact ha2.append hb2
    ·cases hs
   ·cases hs
  ·cases hs
theorem m0_ {s : Sh} {cs : List Value} : ∀ (n off : Nat), (∀ i, i < n → ∃ av, s.ok av ∧ RvC κ av ((cs.drop (off + i * s.size)).take s.size)) → ∃ av, (tV_ s n).ok av ∧ RvC κ av ((cs.drop off).take (n * s.size))
 |0, off, _ => ⟨[], rfl, by simp, fun i hi => by simp at hi⟩
 |n + 1, off, h => by
  obtain ⟨av, ha1, ha2⟩ := h 0 (by omega)
  obtain ⟨bs, hb1, hb2⟩ := m0_ n (off + s.size) fun i hi => by
   have := h (i + 1) (by omega)
   rwa [show off + (i + 1) * s.size = off + s.size + i * s.size by rw [Nat.succ_mul]; omega] at this
  refine ⟨av ++ bs, ⟨av, bs, rfl, ha1, hb1⟩, ?_⟩
  have e : (cs.drop off).take ((n + 1) * s.size) = (cs.drop (off + 0 * s.size)).take s.size ++ (cs.drop (off + s.size)).take (n * s.size) := by
   rw [show (n + 1) * s.size = s.size + n * s.size by rw [Nat.succ_mul]; omega, List.take_add, List.drop_drop]; simp
  rw [e]
  exact ha2.append hb2
theorem Sh.ok_one {d : Nat} {t : TypeId} {s : Sh} {av : List AVal} (hs : es_ P d t = some s) (hg : aggB P t = false) (h : s.ok av) : ∃ x, av = [x] ∧ x.cells = [x] := by
 cases d with
 |zero => cases hs
 |succ d =>
  unfold es_ at hs
  split at hs
  ·obtain rfl := Option.some.inj hs; obtain ⟨b, rfl⟩ := h; exact ⟨_, rfl, rfl⟩
  ·obtain rfl := Option.some.inj hs; obtain ⟨b, rfl, _⟩ := h; exact ⟨_, rfl, rfl⟩
  ·obtain rfl := Option.some.inj hs; obtain ⟨b, rfl, _⟩ := h; exact ⟨_, rfl, rfl⟩
  ·split at hs
   ·split at hs
    ·obtain rfl := Option.some.inj hs; obtain ⟨b, rfl, _⟩ := h; exact ⟨_, rfl, rfl⟩
    ·cases hs
   ·cases hs
  ·rename_i fs ht; simp [aggB, ht] at hg
  ·rename_i fs ht; simp [aggB, ht] at hg
  ·cases hs
theorem vU_ (hI : ∀ b off v, κ.w.cell? ⟨b, off, none⟩ = some v → off < κ.I b) : ∀ d, ux_ enc P κ held d
 |0 => fun t s fuel cs x hs _ => by cases hs
 |d + 1 => fun t s fuel cs x hs hx => by
  have ih := vU_ hI d
  have hs0 := hs
  unfold es_ at hs
  split at hs
  ·rename_i ht
   obtain rfl := Option.some.inj hs
   obtain ⟨b, rfl, _⟩ := DataW.trod_bool ht hx
   exact ⟨_, ⟨b, rfl⟩, .one (.lit _)⟩
  ·rename_i k ht
   obtain rfl := Option.some.inj hs
   obtain ⟨b, rfl, _, hw⟩ := DataW.trod_int ht hx
   exact ⟨_, ⟨b, rfl, hw⟩, .one (.lit _)⟩
  ·rename_i ht
   obtain rfl := Option.some.inj hs
   obtain ⟨b, rfl, _, hw⟩ := DataW.trod_string ht hx
   exact ⟨_, ⟨b, rfl, hw⟩, .one (.lit _)⟩
  ·rename_i e ht
   split at hs
   ·rename_i s1 h1
    split at hs
    ·rename_i hc
     obtain ⟨hsz, hpos, hone⟩ := hc
     obtain rfl := Option.some.inj hs
     rcases DataW.trod_slice ht hx with ⟨rfl, _⟩ | ⟨a, len, cap, elems, rest, n, _, rfl, _, _, hl, hm, hlen, hel, hsp, _⟩
     ·exact ⟨_, ⟨[], rfl, by simp, by simp⟩, .one (.slNil _ _)⟩
     ·have each : ∀ i, i < cap → ∃ cs' y, κ.w.cells? 0 (a.add (i * P.cellsOf e)) (P.cellsOf e) = some cs' ∧ DataW.trod enc P κ.w 0 (fun _ => true) held n e cs' = some y := by
       intro i hi
       by_cases hil : i < len
       ·have := hel i hil
        rw [List.getElem?_eq_getElem (by omega)] at this
        obtain ⟨cs', q1, q2⟩ := Option.bind_eq_some_iff.1 this
        exact ⟨cs', _, q1, q2⟩
       ·obtain ⟨hr, hj⟩ := hsp rfl
        have := hj (i - len) (by omega)
        rw [show len + (i - len) = i by omega, List.getElem?_eq_getElem (by omega)] at this
        obtain ⟨cs', q1, q2⟩ := Option.bind_eq_some_iff.1 this
        exact ⟨cs', _, q1, q2⟩
      by_cases hcap : cap = 0
      ·subst hcap
       obtain rfl : len = 0 := by omega
       exact ⟨_, ⟨[], rfl, by simp, by simp⟩, .one (.slE _ _ a)⟩
      ·have hspot : a.spot = none := by
        obtain ⟨cs', y, q1, _⟩ := each 0 (by omega)
        obtain ⟨r1, r2⟩ := cells?_at q1
        have := r2 0 (by omega)
        rw [Nat.zero_mul] at this
        exact World.cell?_spot (by simpa [Addr.add] using this)
       obtain ⟨b, off, spot⟩ := a
       subst hspot
       have each' : ∀ i, i < len → ∃ x : AVal, x.cells.length = s1.size ∧ (∃ c, s1.ok c ∧ (if aggB P e then x = .agg c else c = [x])) ∧
         ∀ j (hj : j < x.cells.length), ∃ v, κ.w.cell? ⟨b, off + (i * s1.size + j), none⟩ = some v ∧ Rv κ x.cells[j] v := by
        intro i hi
        obtain ⟨cs', y, q1, q2⟩ := each i (by omega)
        obtain ⟨r1, r2⟩ := cells?_at q1
        obtain ⟨av, ha, hr⟩ := ih e s1 n cs' y h1 q2
        have hal := Sh.ok_length ha
        obtain ⟨x, hxc, hxo⟩ : ∃ x : AVal, x.cells = av ∧ (∃ c, s1.ok c ∧ (if aggB P e then x = .agg c else c = [x])) := by
         cases hg : aggB P e with
         |true => exact ⟨.agg av, rfl, av, ha, by simp⟩
         |false =>
          obtain ⟨x, rfl, hx⟩ := Sh.ok_one h1 hg ha
          exact ⟨x, hx, [x], ha, by simp⟩
        refine ⟨x, by rw [hxc]; exact hal, hxo, fun j hj => ?_⟩
        have hj' : j < cs'.length := by rw [← hr.1, ← hxc]; exact hj
        refine ⟨cs'[j], ?_, ?_⟩
        ·have := r2 j hj'
         rw [← hsz] at this
         rw [← this]
         simp only [Addr.add]
         congr 1
         by_cases h0 : i * s1.size = 0
         ·rw [if_pos h0, h0]
          by_cases hj0 : j = 0
          ·simp [hj0]
          ·simp [hj0]
         ·rw [if_neg h0]
          by_cases hj0 : j = 0
          ·simp [hj0]
          ·simp [hj0]; omega
        ·have := hr.2 j (by rw [← hxc]; exact hj) hj'
         simp only [hxc]
         exact this
       obtain ⟨l, hll, hlp⟩ := mP_ len each'
       have hszl : ∀ x ∈ l, x.cells.length = s1.size := fun x hx => by
        obtain ⟨i, hi, rfl⟩ := List.getElem_of_mem hx
        exact (hlp i hi).1
       refine ⟨[.sl s1.size l false], ⟨l, rfl, by omega, fun x hx => ?_⟩, .one ?_⟩
       ·obtain ⟨i, hi, rfl⟩ := List.getElem_of_mem hx
        exact (hlp i hi).2.1
       ·have at_ : ∀ k (hk : k < (flat l).length), ∃ v, κ.w.cell? ⟨b, off + k, none⟩ = some v ∧ Rv κ (flat l)[k] v := by
         intro k hk
         obtain ⟨hi, hj, e1⟩ := ji_ hszl k hk
         obtain ⟨v, hv1, hv2⟩ := (hlp _ hi).2.2 _ hj
         rw [show k / s1.size * s1.size + k % s1.size = k by rw [Nat.mul_comm]; exact Nat.div_add_mod k s1.size] at hv1
         exact ⟨v, hv1, by rw [e1]; exact hv2⟩
        have := Rv.sl (κ := κ) s1.size l false b off cap (fun k => (κ.w.cell? ⟨b, off + k, none⟩).getD undef) (by omega) (by simp) hszl
         (fun k hk => by obtain ⟨v, hv1, _⟩ := at_ k hk; exact ⟨hI _ _ _ hv1, by simp [hv1]⟩)
         (fun k hk => by obtain ⟨v, hv1, hv2⟩ := at_ k hk; simpa [hv1] using hv2)
        rwa [hll] at this
    ·cases hs
   ·cases hs
  ·rename_i fs ht
   split at hs
   ·rename_i s1 h1
    split at hs
    ·rename_i hc
     obtain rfl := Option.some.inj hs
     obtain ⟨xs, n, _, _, hcl, hxl, hf⟩ := DataW.trod_struct ht hx
     obtain ⟨av, ha, hr⟩ := h9_ (cs := cs) (n := n) ih fs.toList 0 s1 h1 (by omega) fun i f hfi => by
      have hfi' : fs[i]? = some f := by simpa using hfi
      have := hf i f hfi'
      have hlt : i < xs.length := by rw [hxl]; exact (Array.getElem?_eq_some_iff.1 hfi').1
      rw [List.getElem?_eq_getElem hlt] at this
      exact ⟨_, this⟩
     refine ⟨av, ha, ?_⟩
     rw [List.drop_zero, List.take_of_length_le (by omega)] at hr
     exact hr
    ·cases hs
   ·cases hs
  ·rename_i n e ht
   split at hs
   ·rename_i s1 h1
    split at hs
    ·rename_i hc
     obtain rfl := Option.some.inj hs
     obtain ⟨xs, m, _, _, hcl, hxl, hf⟩ := DataW.trod_array ht hx
     obtain ⟨av, ha, hr⟩ := m0_ (κ := κ) (s := s1) (cs := cs) n 0 fun i hi => by
      have := hf i hi
      rw [List.getElem?_eq_getElem (by omega), ← hc.1] at this
      rw [Nat.zero_add]
      exact ih e s1 m _ _ h1 this
     refine ⟨av, ha, ?_⟩
     rw [List.drop_zero, List.take_of_length_le (by rw [hcl, hc.2]; omega)] at hr
     exact hr
    ·cases hs
   ·cases hs
  ·cases hs
theorem cB_ (hI : ∀ b off v, κ.w.cell? ⟨b, off, none⟩ = some v → off < κ.I b) {d base : Nat} {r : Reach} {W : World} {t : TypeId} {s : Sh} {g : Bool} {v : Value} {x : DataW H} {ps : List MemPlace} (hs : es_ P d t = some s) (hg : aggB P t = g)
  (hval : Value.okWide P W r base t v) (h : DataW.Trod enc P κ.w 0 (fun _ => true) held t v x ps) : ∃ a, Rv κ a v ∧ s.okv g a := by
 subst hg
 obtain ⟨fuel, hf⟩ := h
 obtain ⟨av, ha, hr⟩ := vU_ hI d t s fuel _ _ hs hf
 cases hg : aggB P t with
 |true =>
  have : ∃ cs, v = .agg cs := by
   unfold Value.okWide at hval
   unfold aggB at hg
   split at hval <;> simp_all
   ·obtain ⟨cs, rfl, _⟩ := hval; exact ⟨cs, rfl⟩
   ·obtain ⟨cs, rfl, _⟩ := hval; exact ⟨cs, rfl⟩
  obtain ⟨cs, rfl⟩ := this
  refine ⟨.agg av, .agg av cs ?_ fun i hi => ?_, av, ha, by simp⟩
  ·have := hr.1; simpa [Value.cells] using this.symm
  ·have hl : av.length = cs.size := by have := hr.1; simpa [Value.cells] using this
   have := hr.2 i hi (by simp [Value.cells]; omega)
   simpa [Value.cells, show i < cs.size by omega] using this
 |false =>
  obtain ⟨x, rfl, hx⟩ := Sh.ok_one hs hg ha
  have hv : v.cells = #[v] := by
   unfold Value.okWide at hval
   unfold aggB at hg
   split at hval
   ·simp_all
   ·simp_all
   ·unfold Cell.okWide at hval
    split at hval <;> first | rfl | skip
    unfold Cell.ok at hval
    split at hval <;> first | rfl | exact hval.elim
  refine ⟨x, ?_, [x], ha, by simp⟩
  have := hr.2 0 (by simp) (by rw [hv]; simp)
  simpa [hv] using this
def kOf (W : World) : K := { w := W, base := W.heap.size, ρ := fun _ => none, τ := fun _ => none, I := fun b => match W.heap[b]? with | some (.cells c _ _) => c.size | _ => 0 }
def s0 : Store := { heap := fun _ => none, tok := fun _ => none }
theorem dp_ (W : World) : ∀ b off v, (kOf W).w.cell? ⟨b, off, none⟩ = some v → off < (kOf W).I b := by
 intro b off v h
 simp only [kOf, World.cell?] at *
 cases hb : W.heap[b]? with
 |none => simp [hb] at h
 |some o =>
  rw [hb] at h
  cases o <;> simp_all
  have := (Array.getElem?_eq_some_iff.1 h).1
  omega
theorem pd_ (W : World) (hG : Glob W W.heap.size) : Inv (kOf W) s0 where
 glob := hG
 base := Nat.le_refl _
 heap o x e := by cases e
 inj o o' x x' b e := by cases e
 tok t sz e := by cases e
 tokinj t t' sz sz' v v' b e := by cases e
 tokobj t sz v b o x e := by cases e
 frO := ⟨0, fun _ _ => rfl⟩
 frT := ⟨0, fun _ _ => rfl⟩
 frI b hb := by
  have hb' : W.heap.size ≤ b := hb
  simp [kOf, Array.getElem?_eq_none hb']
theorem dC_ {f : FuncId} {av : List AVal} {vs : Array Value} {W : World} (h : ai_ P f av s0 fun v _ => v = eu_ true) (hn : vs.size = av.length) (hr : ∀ i (hi : i < av.length), Rv (kOf W) av[i] (vs.getD i undef))
  (hG : Glob W W.heap.size := by intro p hp; cases hp) : Calls P f vs W (fun e w' => e = .returned (.bool true) ∧ Below W.heap.size W w') := by
 have := h (kOf W) vs (pd_ W hG) hn hr
 refine this.mono fun e w' ⟨cv, he, κ', a, σ', hw, hle, _, hv, ha⟩ => ?_
 subst ha
 obtain rfl := hv.litInv
 subst hw
 exact ⟨he, hle.below⟩
end
theorem pi_ {k : IntKind} : ∀ {l : List AVal}, (∀ x ∈ l, ∃ c, (Sh.int k).ok c ∧ (if false = true then x = .agg c else c = [x])) → ∃ zs : List Int, l = zs.map fun n => .lit (.int k n)
 |[], _ => ⟨[], rfl⟩
 |x :: l, h => by
  obtain ⟨zs, rfl⟩ := pi_ fun y hy => h y (List.mem_cons_of_mem _ hy)
  obtain ⟨c, ⟨n, rfl, _⟩, e⟩ := h x (List.mem_cons_self ..)
  simp only [Bool.false_eq_true, if_false, List.cons.injEq, and_true] at e
  subst e
  exact ⟨n :: zs, rfl⟩
theorem ph_ {α : Type} (f : α → AVal) : ∀ {l : List AVal}, (∀ x ∈ l, ∃ a, x = f a) → ∃ zs : List α, l = zs.map f
 |[], _ => ⟨[], rfl⟩
 |x :: l, h => by
  obtain ⟨zs, rfl⟩ := ph_ f fun y hy => h y (List.mem_cons_of_mem _ hy)
  obtain ⟨a, rfl⟩ := h x (List.mem_cons_self ..)
  exact ⟨a :: zs, rfl⟩
end Go.Ab
end

section
set_option linter.all false
namespace Go.Ab
open Go.RowKit (Below)
section
variable {P : Program} {o : Oper} {α : Operand → AVal} {σ : Store} {Kk : AVal → Store → Prop}
theorem Store.set_same {o : Nat} {x : AObj} (h : σ.heap o = some x) : σ.set o x = σ := by
 unfold Store.set
 have : (fun k => if k = o then some x else σ.heap k) = σ.heap := by
  funext k
  split
  ·rename_i hk; subst hk; exact h.symm
  ·rfl
 rw [this]
theorem hn_ {x : Operand} {t e : TypeId} {so sz off len : Nat} {z : Value} {cs : List AVal} (ho : o.op = .call { callee := .builtin .clear, args := #[x], argTypes := #[t] }) (hse : aA_ P t = some e) (hz : cD_ P e = some z)
  (hzs : z.cells.size = sz) (hzo : ∀ j, j < z.cells.size → (AVal.lit z.cells[j]!).one = true) (hx : α x = .msl so sz off len) (hh : σ.heap so = some (.cells cs)) (hle : off + len * sz ≤ cs.length)
  (hk : ∀ zs : List AVal, zs.length = len * sz → Kk (.tup []) (σ.set so (.cells (aput cs off zs)))) : AOp P o α σ Kk := by
 obtain ⟨dst, op, ty, pos, after, guard⟩ := o
 obtain rfl : op = _ := ho
 intro κ ev hI hxx
 have hts : P.underlying t = some (.slice e) := by
  unfold aA_ at hse
  split at hse
  ·rename_i e' he'; obtain rfl := Option.some.inj hse; exact he'
  ·cases hse
 have hv := hxx x (by simp [Op.operands, Call.operands])
 rw [hx] at hv
 obtain ⟨b, cap, hev, hb⟩ : ∃ b cap, ev x = .slice (some ⟨b, off, none⟩) len cap ∧ κ.ρ so = some b := by
  generalize ev x = u at hv
  cases hv with
  |msl _ _ _ _ b cap n el hb hlc hsh hcap => exact ⟨b, cap, rfl, hb⟩
 have hnil : ∀ κ' : K, Rv κ' (.tup []) (.tuple #[]) := fun κ' => .tup [] #[] rfl (fun i hi => by simp at hi)
 by_cases h0 : len = 0
 ·subst h0
  refine bj_ (s := Builtin.clear_ #[t] ty #[ev x]) (by simp [execOp, resolve, invoke, builtin]) ⟨.tuple #[], κ.w, ?_, κ, .tup [], σ, rfl, .refl κ, hI, hnil κ, ?_⟩
  ·rw [hev]; simp [Builtin.clear_, run_underlying hts]
  ·have := hk [] (by simp)
   rw [l7_ _ _ (by omega), Store.set_same hh] at this
   exact this
 ·have hzl : (Builtin.zeroCells z.cells len).size = len * z.cells.size := by simp [Builtin.zeroCells]
  obtain ⟨w', h1, h2, h3⟩ := bP_ (P := P) (b := b) (off := off) (i := so) ((Builtin.zeroCells z.cells len).toList.map .lit) (Builtin.zeroCells z.cells len).toList 0 κ σ cs hI hh hb (by simp) (fun k hk hk' => by
   rw [List.getElem_map]; exact .lit _) (fun a ha => by
   obtain ⟨c, hc, rfl⟩ := List.mem_map.1 ha
   rw [Array.mem_toList_iff] at hc
   obtain ⟨k, hk, rfl⟩ := Array.mem_iff_getElem.1 hc
   rw [hzl] at hk
   have hpos : 0 < z.cells.size := by rcases Nat.eq_zero_or_pos z.cells.size with h | h; rw [h] at hk; simp at hk; exact h
   have : (Builtin.zeroCells z.cells len)[k]'(by rw [hzl]; exact hk) = z.cells[k % z.cells.size]! := by simp [Builtin.zeroCells]
   rw [this]
   exact hzo _ (Nat.mod_lt _ hpos)) (by simp [hzl, hzs]; omega)
  refine bj_ (s := Builtin.clear_ #[t] ty #[ev x]) (by simp [execOp, resolve, invoke, builtin]) ⟨.tuple #[], w', ?_, { κ with w := w' }, .tup [], _, rfl, h2, h3, hnil _, ?_⟩
  ·rw [hev]
   obtain ⟨m, rfl⟩ := Nat.exists_eq_succ_of_ne_zero h0
   simp only [Builtin.clear_, Sem.run_bind, List.getElem?_toArray, List.getElem?_cons_zero, Sem.run_pure, Result.andThen_ok, run_underlying hts, bg_ hz]
   simp only [Nat.succ_eq_add_one] at h1
   simp [h1]
  ·rw [Nat.add_zero]
   exact hk _ (by simp [hzl, hzs])
end
end Go.Ab
end

section
set_option linter.all false
namespace Go.Ab
open Go.RowKit (Below)
open Go.Shelf Go.Proofs Go.Sort
section
variable {P : Program} {σ : Store}
theorem r0_ {f : FuncId} {o k n : Nat} (F : List Value) (Q : List Value → Prop) (ho : σ.heap o = some (.cells (F.map .lit))) (extra : List AVal) (ev : List Value)
  (h : ∀ (b cap : Nat) (w : World), Glob w b → Sort.Holds id w b 0 F.toArray → b < w.heap.size → Calls P f (#[.slice (some ⟨b, 0, none⟩) n cap] ++ ev.toArray) w fun e w' => e = .returned (.tuple #[]) ∧ ∃ F' m os, Q F' ∧ F'.length = F.length ∧ w' = Sort.grow (Sort.putRow id (Sort.ahead w m) b 0 F'.toArray) os)
  (he : extra = ev.map .lit) : ai_ P f (.msl o k 0 n :: extra) σ fun v σ' => v = .tup [] ∧ ∃ F', Q F' ∧ σ' = σ.set o (.cells (F'.map .lit)) := by
 intro κ vs hI hn hv
 subst he
 obtain ⟨b, cap, e0, hb⟩ := (hv 0 (by simp)).mslInv
 have hvs : vs = #[.slice (some ⟨b, 0, none⟩) n cap] ++ ev.toArray := by
  apply Array.ext (by simpa [Nat.add_comm] using hn)
  intro i h1 h2
  have hi : i < (AVal.msl o k 0 n :: ev.map .lit).length := by rw [← hn]; exact h1
  have hr := hv i hi
  have eg : vs.getD i undef = vs[i] := by simp [h1]
  rw [eg] at hr
  cases i with
  |zero => rw [← eg, e0]; simp
  |succ i =>
   simp only [List.getElem_cons_succ, List.getElem_map] at hr
   rw [hr.litInv]
   simp [Array.getElem_append]
 obtain ⟨b', hb', hbase, hIb, c, e, hheap, hlen', hR⟩ := hI.heap o _ ho
 rw [hb] at hb'
 obtain rfl := Option.some.inj hb'
 have hlt : b < κ.w.heap.size := (Array.getElem?_eq_some_iff.1 hheap).1
 have hH : Sort.Holds id κ.w b 0 F.toArray := jl_ id F.toArray hheap (by simpa using hlen') fun j hj => by
  have hj' : j < F.length := by simpa using hj
  have h1 := hR j (by simpa using hj')
  simp only [List.getElem_map] at h1
  rw [h1.litInv]
  simp [hj']
 rw [hvs]
 refine (h b cap κ.w (fun p hp => ⟨Nat.lt_of_lt_of_le (hI.glob p hp).1 hbase, (hI.glob p hp).2⟩) hH hlt).mono fun ex w' ⟨he, F', m, os, hQ, hlen, hw⟩ => ⟨_, he, ?_⟩
 have key := hI.rowed ho hb m (Sort.putCells id 0 F'.toArray) os (fun c => el_ id 0 _ c) (cs' := F'.map .lit) (fun c hc _ => ⟨by simpa [hlen] using hc, fun i hi => by
  have hi' : i < F'.length := by simpa using hi
  rw [fy_ id F'.toArray c i (by simpa using hi') (by simp at hc ⊢; omega)]
  simp [hi']
  exact .lit _⟩)
 rw [hw]
 exact ju_ (κ' := { κ with w := Ab.rowed κ.w m b (Sort.putCells id 0 F'.toArray) os }) key.1 key.2 ⟨rfl, F', hQ, rfl⟩
theorem nC_ {α : Type} [Inhabited α] (s : α → AVal) (enc : α → List Value) {k : Nat} (hs : ∀ x, (s x).cells = (enc x).map .lit) (hk : ∀ x, (enc x).length = k) (L : List α) : flat (L.map s) = ((flatK enc k L.toArray).toList).map .lit := by
 have hsz : ∀ y ∈ L.map s, y.cells.length = k := fun y hy => by
  obtain ⟨x, _, rfl⟩ := List.mem_map.1 hy
  rw [hs, List.length_map, hk]
 have hlen := aR_ hsz
 rw [List.length_map] at hlen
 apply List.ext_getElem (by simp [hlen])
 intro i h1 h2
 obtain ⟨hi, hj, e⟩ := ji_ hsz i h1
 rw [e]
 have hi' : i / k < L.length := by simpa using hi
 have hmod : i % k < k := by
  simp only [List.getElem_map, hs, List.length_map, hk] at hj
  exact hj
 simp only [List.getElem_map, hs, Array.getElem_toList]
 have h3 : i < L.toArray.size * k := by simpa [hlen] using h1
 have := get_flatK enc k L.toArray i h3
 rw [getElem!_pos (flatK enc k L.toArray) i (by simpa using h3)] at this
 rw [this]
 simp [hi', hk, hmod]
theorem tI_ {α : Type} [Inhabited α] {d d' : Array α} (h : Sort.PermIn 0 d.size d d') : d'.toList.Perm d.toList := by
 obtain ⟨h1, _, h2⟩ := h
 have e1 : (d'.extract 0 d.size).toList = d'.toList := by rw [← h1]; simp
 have e2 : (d.extract 0 d.size).toList = d.toList := by simp
 rw [e1, e2] at h2
 exact h2
theorem p9_ {α : Type} [Inhabited α] {lt : α → α → Bool} {d : Array α} {n : Nat} (hn : d.size = n) (h : Sort.SortedIn lt 0 n d) : d.toList.Pairwise fun x y => lt y x = false := by
 rw [List.pairwise_iff_getElem]
 intro i j hi hj hij
 have := h i j (Nat.zero_le _) hij (by simp at hj; omega)
 simp at hi hj
 simpa [hi, hj] using this
end
end Go.Ab
end

section
set_option linter.all false
namespace Go.Ab
open Go.RowKit (Below)
open Go.Shelf Go.Proofs Go.Sort
section
variable {P : Program} {σ : Store}
theorem lV_ {w w' : World} (hb : Below w.heap.size w w') (hd : w.drawn ≤ w'.drawn) : ∃ q os', w' = Sort.grow (w.drewN q) os' := by
 obtain ⟨heap, tape, drawn, os, output⟩ := w'
 obtain ⟨h1, h2, h3, h4, h5⟩ := hb
 simp only at h1 h2 h3 h4 h5 hd
 subst h1; subst h2; subst h3
 refine ⟨drawn - w.drawn, heap.extract w.heap.size heap.size, ?_⟩
 unfold Sort.grow World.drewN
 have e1 : w.drawn + (drawn - w.drawn) = drawn := by omega
 have e2 : w.heap ++ heap.extract w.heap.size heap.size = heap := by
  apply Array.ext_getElem?
  intro i
  by_cases hi : i < w.heap.size
  ·rw [Array.getElem?_append_left hi, h5 i hi]
  ·rw [Array.getElem?_append_right (by omega), Array.getElem?_extract]
   by_cases hi' : i < heap.size
   ·rw [if_pos (by omega), show w.heap.size + (i - w.heap.size) = i by omega]
   ·rw [if_neg (by omega), Array.getElem?_eq_none (by omega)]
 simp only [e1, e2]
theorem qS_ {g : FuncId} {a b : AVal} {u v : Value} {c : Int} (h : ai_ P g [a, b] s0 fun v σ' => v = vInt c ∧ s0 = σ') (ha : ∀ κ, Rv κ a u) (hb : ∀ κ, Rv κ b v) (w : World) (hG : Glob w w.heap.size := by intro p hp; cases hp) :
  Calls P g #[u, v] w fun e w' => e = .returned (.int .i64 c) ∧ ∃ q os', w' = Sort.grow (w.drewN q) os' := by
 have := h (kOf w) #[u, v] (pd_ w hG) rfl (fun i hi => by
  match i, hi with
  |0, _ => exact ha _
  |1, _ => exact hb _)
 refine this.mono fun e w' ⟨cv, he, κ', a, σ', hw, hle, _, hv, ha⟩ => ?_
 obtain ⟨rfl, _⟩ := ha
 obtain rfl := hv.litInv
 subst hw
 exact ⟨he, lV_ hle.below hle.drawn⟩
end
end Go.Ab
end

section
set_option linter.all false
set_option maxRecDepth 100000
namespace Go.Proofs
open Go.Shelf
def p3_ : Go.Shelf.Ren := ⟨(fun n => match n with | 6 => 80 | 14 => 139 | 15 => 140 | 20 => 192 | 21 => 193 | 22 => 194 | 23 => 195 | 24 => 196 | 25 => 197 | 26 => 198 | 27 => 199 | 28 => 200 | 29 => 201 | 46 => 242 | 47 => 243 | 48 => 244 | 49 => 245 | 50 => 246 | 57 => 285 | _ => 0), (fun n => match n with | 0 => 0 | 3 => 3 | 4 => 4 | 5 => 5 | 9 => 9 | 22 => 27 | 24 => 60 | 25 => 107 | 39 => 137 | 45 => 196 | 46 => 197 | 50 => 152 | 53 => 203 | 55 => 205 | 66 => 240 | 70 => 244 | 76 => 273 | 77 => 274 | _ => 0), (fun n => match n with  | _ => 0)⟩
theorem v9_ : SlLaysF0.n6 Tryz.prog p3_ := {
 mixed := Tryz.mixed
 f6 := ⟨ "slices.SortFunc[[]pantler/api.Sib,pantler/api.Sib]", by decide, by kernel_rfl⟩
 f14 := ⟨ "slices.pdqsortCmpFunc[pantler/api.Sib]", by decide, by kernel_rfl⟩
 f15 := by kernel_rfl
 f20 := ⟨ "slices.insertionSortCmpFunc[pantler/api.Sib]", by decide, by kernel_rfl⟩
 f21 := ⟨ "slices.heapSortCmpFunc[pantler/api.Sib]", by decide, by kernel_rfl⟩
 f22 := ⟨ "slices.breakPatternsCmpFunc[pantler/api.Sib]", by decide, by kernel_rfl⟩
 f23 := ⟨ "slices.choosePivotCmpFunc[pantler/api.Sib]", by decide, by kernel_rfl⟩
 f24 := ⟨ "slices.reverseRangeCmpFunc[pantler/api.Sib]", by decide, by kernel_rfl⟩
 f25 := ⟨ "slices.partialInsertionSortCmpFunc[pantler/api.Sib]", by decide, by kernel_rfl⟩
 f26 := ⟨ "slices.partitionEqualCmpFunc[pantler/api.Sib]", by decide, by kernel_rfl⟩
 f27 := ⟨ "slices.partitionCmpFunc[pantler/api.Sib]", by decide, by kernel_rfl⟩
 f28 := by kernel_rfl
 f29 := by kernel_rfl
 f46 := ⟨ "slices.siftDownCmpFunc[pantler/api.Sib]", by decide, by kernel_rfl⟩
 f47 := by kernel_rfl
 f48 := by kernel_rfl
 f49 := ⟨ "slices.medianAdjacentCmpFunc[pantler/api.Sib]", by decide, by kernel_rfl⟩
 f50 := ⟨ "slices.medianCmpFunc[pantler/api.Sib]", by decide, by kernel_rfl⟩
 f57 := ⟨ "slices.order2CmpFunc[pantler/api.Sib]", by decide, by kernel_rfl⟩
 t0 := Tryz.underlying0
 a0 := Tryz.isAgg0
 z0 := Tryz.sizeOf0
 v0 := Tryz.zeroValue0
 t3 := Tryz.underlying3
 a3 := Tryz.isAgg3
 z3 := Tryz.sizeOf3
 v3 := Tryz.zeroValue3
 t4 := Tryz.underlying4
 a4 := Tryz.isAgg4
 z4 := Tryz.sizeOf4
 v4 := Tryz.zeroValue4
 t5 := Tryz.underlying5
 a5 := Tryz.isAgg5
 z5 := Tryz.sizeOf5
 v5 := Tryz.zeroValue5
 t9 := Tryz.underlying9
 a9 := Tryz.isAgg9
 z9 := Tryz.sizeOf9
 v9 := Tryz.zeroValue9
 t22 := Tryz.underlying27
 a22 := Tryz.isAgg27
 z22 := Tryz.sizeOf27
 v22 := Tryz.zeroValue27
 t25 := Tryz.underlying107
 a25 := Tryz.isAgg107
 z25 := Tryz.sizeOf107
 v25 := Tryz.zeroValue107
 t39 := Tryz.underlying137
 a39 := Tryz.isAgg137
 z39 := Tryz.sizeOf137
 v39 := Tryz.zeroValue137
 t45 := Tryz.underlying196
 a45 := Tryz.isAgg196
 z45 := Tryz.sizeOf196
 v45 := Tryz.zeroValue196
 t46 := Tryz.underlying197
 a46 := Tryz.isAgg197
 z46 := Tryz.sizeOf197
 v46 := Tryz.zeroValue197
 t50 := Tryz.underlying152
 a50 := Tryz.isAgg152
 z50 := Tryz.sizeOf152
 v50 := Tryz.zeroValue152
 t53 := Tryz.underlying203
 a53 := Tryz.isAgg203
 z53 := Tryz.sizeOf203
 v53 := Tryz.zeroValue203
 t55 := Tryz.underlying205
 a55 := Tryz.isAgg205
 z55 := Tryz.sizeOf205
 v55 := Tryz.zeroValue205
 t66 := Tryz.underlying240
 a66 := Tryz.isAgg240
 z66 := Tryz.sizeOf240
 v66 := Tryz.zeroValue240
 t70 := Tryz.underlying244
 a70 := Tryz.isAgg244
 z70 := Tryz.sizeOf244
 v70 := Tryz.zeroValue244
 t76 := Tryz.underlying273
 a76 := Tryz.isAgg273
 z76 := Tryz.sizeOf273
 v76 := Tryz.zeroValue273
 t77 := Tryz.underlying274
 a77 := Tryz.isAgg274
 z77 := Tryz.sizeOf274
 v77 := Tryz.zeroValue274 }
end Go.Proofs
namespace Go.Proofs.YtcaflcpcbcneiaaGreat
open Go.Ab Go.Shelf Go.Sort
instance : Inhabited Sib := ⟨⟨.empty, 0, .empty, false, 0⟩⟩
def encV (x : Sib) : List Value := [.string x.node, .int .i64 x.n, .string x.value, .bool x.gone, .int .i64 x.time]
theorem oD_ (x : Sib) : (sSib x).cells = (encV x).map .lit := rfl
def cfD (x y : Sib) : Int := cmpD x.node x.n y.node y.n
theorem hc_ (x y : Sib) : ltOf cfD x y = b4_ x y := by
 unfold ltOf cfD b4_
 rw [Bool.eq_iff_iff, decide_eq_true_eq, hv_]
theorem kl_ (x : Sib) : b4_ x x = false := eS_ _ _
theorem swoD : SWO (ltOf cfD) where
 irrefl x := by rw [hc_, kl_]
 trans x y z h1 h2 := by rw [hc_] at *; exact cL_ h1 h2
 ntrans x y z h1 h2 := by
  rw [hc_] at *
  cases h : b4_ x z with
  |false => rfl
  |true =>
   by_cases e : x.node = y.node ∧ x.n = y.n
   ·have : b4_ y z = true := by unfold b4_ at h ⊢; rw [← e.1, ← e.2]; exact h
    rw [this] at h2; cases h2
   ·have k := hP_ h1 e
    have : b4_ y z = true := cL_ k h
    rw [this] at h2; cases h2
theorem pU_ (κ : K) (x : Sib) : Rv κ (sSib x) (.agg (encV x).toArray) := .agg _ _ rfl (fun i hi => by
 match i, hi with
 |0, _ => exact .lit _
 |1, _ => exact .lit _
 |2, _ => exact .lit _
 |3, _ => exact .lit _
 |4, _ => exact .lit _)
theorem ob_ {o : Nat} {L : List Sib} {σ : Store} (ho : σ.heap o = some (.cells (flat (L.map sSib)))) (hl : L.length ≤ 1000000000) :
  ai_ Tryz.prog 80 [.msl o 5 0 L.length, .lit (.func (.func 81) #[] #[])] σ fun v σ' => v = .tup [] ∧ ∃ L' : List Sib, L'.Perm L ∧ L'.Pairwise (fun x y => b4_ y x = false) ∧ σ' = σ.set o (.cells (flat (L'.map sSib))) := by
 have e1 : ∀ M : List Sib, flat (M.map sSib) = (flatK encV 5 M.toArray).toList.map .lit := fun M => nC_ sSib encV oD_ (fun _ => rfl) M
 rw [e1] at ho
 refine (r0_ (P := Tryz.prog) (σ := σ) (f := 80) (o := o) (k := 5) (n := L.length) (flatK encV 5 L.toArray).toList
  (fun F' => ∃ L' : List Sib, L'.Perm L ∧ L'.Pairwise (fun x y => b4_ y x = false) ∧ F' = (flatK encV 5 L'.toArray).toList) ho [.lit (.func (.func 81) #[] #[])] [.func (.func 81) #[] #[]] (fun b cap w hG hH hb => ?_) rfl).wkS fun v σ' ⟨hv, F', ⟨L', h1, h2, h3⟩, h4⟩ => ⟨v, σ', .refl _, .refl _, hv, L', h1, h2, by rw [h4, h3, e1]⟩
 have hcmp : CmpLays Tryz.prog 81 #[] encV 5 cfD b 0 L.toArray.size w := fun m os dk _ x y => by
  have := qS_ (P := Tryz.prog) (g := 81) (js_ (x := x) (y := y) (σ := s0)) (fun κ => pU_ κ x) (fun κ => pU_ κ y) (sortWorldK encV 5 w b 0 m dk os)
  exact this
 have key := AnyQ.slices_SortFunc v9_ 5 Tryz.isAgg60 Tryz.sizeOf60 encV (fun _ => rfl) (fun x v hv => by simp [encV] at hv; rcases hv with rfl | rfl | rfl | rfl | rfl <;> rfl) cfD swoD 81 #[] b 0 cap L.toArray w (fun args w => gQ_ kr_ args w) hcmp (by simpa [HoldsK] using hH) hb (by simp; omega)
 have key2 : Calls Tryz.prog 80 (#[.slice (some ⟨b, 0, none⟩) L.length cap] ++ #[.func (.func 81) #[] #[]]) w _ := key
 refine key2.mono fun e w' ⟨he, d', n, os, hp, hs, hw⟩ => ⟨he, (flatK encV 5 d').toList, n, os, ⟨d'.toList, ?_, ?_, by simp⟩, ?_, ?_⟩
 ·exact tI_ hp
 ·exact (p9_ (n := L.toArray.size) hp.1 hs).imp fun {a b} h => by rw [hc_] at h; exact h
 ·simp [hp.1]
 ·rw [hw]; simp [sortWorldK, putRowK]
end Go.Proofs.YtcaflcpcbcneiaaGreat
end

section
set_option linter.all false
set_option maxRecDepth 100000
namespace Go.Proofs.YtcaflcpcbcneiaaGreat
open Go.Ab
def putI : List Int → Int → List Int
 |[], n => [n]
 |m :: l, n => if m < n then m :: putI l n else if m = n then m :: l else n :: m :: l
theorem jv_ {n x : Int} : ∀ {l : List Int}, x ∈ putI l n ↔ x = n ∨ x ∈ l
 |[] => by simp [putI]
 |m :: l => by
  unfold putI
  split
  ·rw [List.mem_cons, jv_ (l := l), List.mem_cons]
   constructor
   ·rintro (h | h | h)
    ·exact .inr (.inl h)
    ·exact .inl h
    ·exact .inr (.inr h)
   ·rintro (h | h | h)
    ·exact .inr (.inl h)
    ·exact .inl h
    ·exact .inr (.inr h)
  ·split
   ·rename_i h; subst h; simp
   ·simp
theorem ky_ {n : Int} : ∀ {l : List Int}, l.Pairwise (·< ·) → (putI l n).Pairwise (·< ·)
 |[], _ => List.pairwise_singleton _ _
 |m :: l, h => by
  have hp := List.pairwise_cons.1 h
  unfold putI
  split
  ·rename_i hm
   exact List.pairwise_cons.2 ⟨fun x hx => by rcases jv_.1 hx with rfl | hx; exact hm; exact hp.1 x hx, ky_ hp.2⟩
  ·split
   ·exact h
   ·exact List.pairwise_cons.2 ⟨fun x hx => by rcases List.mem_cons.1 hx with rfl | hx; omega; have := hp.1 x hx; omega, h⟩
theorem mS_ (n : Int) : ∀ (l : List Int), (putI l n).length ≤ l.length + 1
 |[] => by simp [putI]
 |m :: l => by
  have := mS_ n l
  unfold putI
  split
  ·simp; omega
  ·split <;> simp
theorem h3_ : ∀ (M l : List Int), (M.foldl putI l).length ≤ l.length + M.length
 |[], l => by simp
 |n :: M, l => by
  have h1 := h3_ M (putI l n)
  have h2 := mS_ n l
  simp only [List.foldl_cons, List.length_cons]; omega
theorem iQ_ : ∀ {M l : List Int}, l.Pairwise (·< ·) → (M.foldl putI l).Pairwise (·< ·) ∧ ∀ x, x ∈ M.foldl putI l ↔ x ∈ l ∨ x ∈ M
 |[], l, h => ⟨h, fun x => by simp⟩
 |n :: M, l, h => by
  obtain ⟨h1, h2⟩ := iQ_ (M := M) (ky_ (n := n) h)
  refine ⟨h1, fun x => ?_⟩
  rw [List.foldl_cons, h2, jv_, List.mem_cons]
  constructor
  ·rintro ((h | h) | h)
   ·exact .inr (.inl h)
   ·exact .inl h
   ·exact .inr (.inr h)
  ·rintro (h | h | h)
   ·exact .inl (.inr h)
   ·exact .inl (.inl h)
   ·exact .inr h
theorem pz_ (l : List Int) : l.foldl putI [] = ej_ l := by
 obtain ⟨h1, h2⟩ := iQ_ (M := l) (l := []) .nil
 exact (kt_ h1 fun x => by rw [h2]; simp).symm
theorem px_ {n : Int} : ∀ {l : List Int} {k : Nat}, (∀ j x, j < k → l[j]? = some x → x < n) → (∀ x, l[k]? = some x → ¬ x < n) → k ≤ l.length → putI l n = if l[k]? = some n then l else l.take k ++ n :: l.drop k
 |[], k, _, _, hk => by
  obtain rfl : k = 0 := by simpa using hk
  simp [putI]
 |m :: l, 0, _, h2, _ => by
  have := h2 m rfl
  simp only [putI, if_neg this, List.getElem?_cons_zero, Option.some.injEq, List.take_zero, List.drop_zero, List.nil_append]
 |m :: l, k + 1, h1, h2, hk => by
  have hm := h1 0 m (by omega) rfl
  have ih := px_ (n := n) (l := l) (k := k) (fun j x hj hx => h1 (j + 1) x (by omega) hx) (fun x hx => h2 x hx) (by simpa using hk)
  rw [putI, if_pos hm, ih]
  simp only [List.getElem?_cons_succ, List.take_succ_cons, List.drop_succ_cons, List.cons_append]
  split <;> rfl
theorem eO_ {α : Type} [Inhabited α] (l : List α) (k : Nat) : ∃ x : α, k < l.length → l[k]? = some x := by
 by_cases h : k < l.length
 ·exact ⟨l[k], fun _ => List.getElem?_eq_getElem h⟩
 ·exact ⟨default, fun h' => absurd h' h⟩
theorem pF_ {l : List Int} {n : Int} {t : Bool} {σ : Store} (hl : l.length ≤ 10000000) : ai_ Tryz.prog 219 [.sl 1 (l.map vInt) t, vInt n] σ fun v σ' => v = .sl 1 ((putI l n).map vInt) false ∧ σ = σ' := by
 refine en_ Tryz.func219 Tryz.ntmps219 Tryz.results219 ?_
 refine rr_ ?_
 refine s_ ?_
 refine aa_ ?_
 refine rr_ ?_
 refine s_ ?_
 refine aa_ ?_
 refine ab_ ?_
 refine ag_ ?_
 refine ah_ (ι := Nat) (fun k => l.length - k) (fun k => k ≤ l.length ∧ ∀ j x, j < k → l[j]? = some x → x < n) (fun k => [(0, .sl 1 (l.map vInt) t), (1, vInt n), (5, vInt k)]) (fun k => σ) 0 ?_ ?_ ?_ ?_
 ·exact ⟨Nat.zero_le _, fun j x h => by omega⟩
 ·exact cv_
 ·exact sub_
 rintro k ⟨hk, ha⟩
 simp only [ak_, am_]
 refine ab_ ?_
 refine ab_ ?_
 obtain ⟨x, hx⟩ := eO_ l k
 have R := hx
 refine r_ ?_
 iterate 5 refine s_ ?_
 refine gt_ ?_
 refine gt_ ?_
 refine gt_ ?_
 refine gt_ ?_
 refine gt_ ?_
 refine gt_ ?_
 refine s_ ?_
 refine aa_ ?_
 refine cd_ (fun hc2 => ?_) (fun hc2 => ?_)
 ·refine ae_ ?_
  refine ag_ ?_
  refine r_ ?_
  iterate 3 refine s_ ?_
  refine aa_ ?_
  refine aC_ (ι := Nat) (i := k) (k + 1) ?_ ?_ ?_ ?_
  ·omega
  ·exact ⟨by omega, fun j y hj hy => by rcases Nat.lt_or_eq_of_le (Nat.le_of_lt_succ hj) with h | h; exact ha j y h hy; rw [h, hx (by omega)] at hy; obtain rfl := Option.some.inj hy; omega⟩
  ·exact cv_
  ·exact sub_
 ·refine an_ ?_
  refine ad_ ?_
  refine ad_ ?_
  refine aj_ ?_
  refine ab_ ?_
  refine ab_ ?_
  skip
  have hat : putI l n = if l[k]? = some n then l else l.take k ++ n :: l.drop k := px_ ha (fun y hy => by
   have h1 := (List.getElem?_eq_some_iff.1 hy).1
   rw [hx h1] at hy; obtain rfl := Option.some.inj hy
   rcases hc2 with h | h <;> omega) hk
  have R := hx
  refine r_ ?_
  iterate 5 refine s_ ?_
  refine gt_ ?_
  refine gt_ ?_
  refine gt_ ?_
  refine gt_ ?_
  refine gt_ ?_
  refine gt_ ?_
  refine s_ ?_
  refine aa_ ?_
  refine cd_ (fun hc4 => ?_) (fun hc4 => ?_)
  ·skip
   have hres : putI l n = l := by rw [hat, hx (by omega), if_pos (by rw [hc4.2])]
   refine rr_ ?_
   iterate 2 refine s_ ?_
   refine aa_ ?_
   refine af_ ?_
   rw [hres]
   exact aw_ (v := .sl 1 (l.map vInt) false) (v' := .sl 1 (l.map vInt) t) va_ (.sl1 _ _ _) sub_ ⟨rfl, rfl⟩
  ·skip
   have hres : putI l n = l.take k ++ n :: l.drop k := by
    rw [hat, if_neg]
    intro h
    have h1 := (List.getElem?_eq_some_iff.1 h).1
    rw [hx h1] at h
    have := Option.some.inj h
    rcases hc4 with hh | hh <;> omega
   have m1 : (l.map vInt).take k = (l.take k).map vInt := List.map_take.symm
   have m2 : ((l.map vInt).take l.length).drop k = (l.drop k).map vInt := by rw [List.take_of_length_le (by simp), List.map_drop]
   have m3 : (l.map vInt).drop k = (l.drop k).map vInt := List.map_drop.symm
   refine ae_ ?_
   refine rr_ ?_
   refine a8_ 3 1 rfl rfl rfl (by rfl) fun k6 hk6 => ?_
   refine aa_ ?_
   refine ab_ ?_
   have R := m1
   refine r_ ?_
   iterate 4 refine s_ ?_
   refine aM_ rfl rfl rfl g_ g_ v_ h_ v_ (mL_ _) (by simp; omega) fun k38 hk38 => ?_
   have t38 := (aE_ hk38).2
   refine s_ ?_
   refine aa_ ?_
   refine rr_ ?_
   iterate 2 refine s_ ?_
   refine ao_ rfl rfl rfl g_ g_ rfl rfl h_ c2_ (by decide) ?_
   refine aM_ rfl rfl rfl g_ g_ v_ h_ v_ c_ (by simp; omega) fun k42 hk42 => ?_
   rw [Store.newTok_step hk6] at hk42
   have t42 := (aE_ hk42).2
   refine s_ ?_
   refine aa_ ?_
   refine ab_ ?_
   have R := And.intro m2 m3
   refine r_ ?_
   iterate 4 refine s_ ?_
   refine aM_ rfl rfl rfl g_ g_ v_ h_ v_ (mL_ _) (by simp; omega) fun k47 hk47 => ?_
   rw [Store.newTok_step hk6, Store.newTok_step t38] at hk47
   have t47 := (aE_ hk47).2
   refine s_ ?_
   refine aa_ ?_
   refine rr_ ?_
   iterate 2 refine s_ ?_
   refine aa_ ?_
   refine af_ ?_
   rw [hres, show (l.take k ++ n :: l.drop k).map vInt = (l.take k).map vInt ++ [vInt n] ++ (l.drop k).map vInt from by simp]
   exact aw_ (v := .sl 1 ((l.take k).map vInt ++ [vInt n] ++ (l.drop k).map vInt) false) (v' := .own k47 1 ((l.take k).map vInt ++ [vInt n] ++ (l.drop k).map vInt)) va_ (.own1 _ _ _) sub_ ⟨rfl, rfl⟩
theorem vN_ {c : List Seen} {s : ByteArray} {t : Bool} {σ : Store} (hn : c.length ≤ 1000000) : ai_ Tryz.prog 163 [.sl 3 (c.map az_) t, vStr s] σ fun v σ' => v = az_ (ofS c s) ∧ σ = σ' := by
 refine en_ Tryz.func163 Tryz.ntmps163 Tryz.results163 ?_
 refine rr_ ?_
 refine lc_ fun o4 ho4 => ?_
 repeat (rw [ac_] at ho4; obtain ⟨_, ho4⟩ := ho4)
 refine aa_ ?_
 refine ab_ ?_
 refine rr_ ?_
 refine s_ ?_
 refine aa_ ?_
 refine ag_ ?_
 refine ah_ (ι := Nat) (fun i => c.length - i) (fun i => i ≤ c.length ∧ ∀ j x, j < i → c[j]? = some x → x.node ≠ s) (fun i => [(0, .sl 3 (c.map az_) t), (1, vStr s), (4, .ref o4 0), (5, vInt i)]) (fun i => (σ.set o4 (.cells [.lit (.string ⟨#[]⟩), .lit (.int .i64 0), .lit (.slice none 0 0)]))) 0 ?_ ?_ ?_ ?_
 ·exact ⟨Nat.zero_le _, fun j x h => by omega⟩
 ·exact cv_
 ·exact Store.Wk.refl _
 rintro i ⟨hi, ha⟩
 simp only [ak_, am_]
 refine ab_ ?_
 refine rr_ ?_
 iterate 4 refine s_ ?_
 refine aa_ ?_
 refine cd_ (fun hc2 => ?_) (fun hc2 => ?_)
 ·refine ae_ ?_
  refine ab_ ?_
  refine ag_ ?_
  refine ab_ ?_
  obtain ⟨x, hx⟩ := aq_ (l := c) (k := i) (by omega)
  have R := hx
  refine r_ ?_
  iterate 7 refine s_ ?_
  refine aa_ ?_
  refine cd_ (fun hc4 => ?_) (fun hc4 => ?_)
  ·refine ab_ ?_
   have R := hx
   refine r_ ?_
   iterate 4 refine s_ ?_
   refine st_ ?_
   refine aa_ ?_
   refine af_ ?_
   refine er_ σ ?_
   refine ⟨?_, rfl⟩
   have : ofS c s = x := by
    unfold ofS
    rw [eI_ (r := i) hx (by simpa using hc4) fun m y hm hy => decide_eq_false (ha m y hm hy)]
   rw [this]
  ·refine ae_ ?_
   refine r_ ?_
   iterate 3 refine s_ ?_
   refine aa_ ?_
   refine aC_ (ι := Nat) (i := i) (i + 1) ?_ ?_ ?_ ?_
   ·omega
   ·exact ⟨by omega, fun j y hj hy => by rcases Nat.lt_or_eq_of_le (Nat.le_of_lt_succ hj) with h | h; exact ha j y h hy; rw [h, hx] at hy; obtain rfl := Option.some.inj hy; exact hc4⟩
   ·exact cv_
   ·exact sub_
 ·refine an_ ?_
  refine ad_ ?_
  refine ad_ ?_
  refine aj_ ?_
  refine rr_ ?_
  iterate 2 refine s_ ?_
  refine st_ ?_
  refine aa_ ?_
  refine af_ ?_
  rw [ps_ (c := c) (s := s) fun x hx => by
   obtain ⟨j, hj⟩ := List.mem_iff_getElem?.1 hx
   exact ha j x (by have := (List.getElem?_eq_some_iff.1 hj).1; omega) hj]
  exact aw_ (v := az_ (gY_ s)) (v' := .agg [vStr s, vInt 0, vNil]) va_ (.agg _ _ rfl (fun i hi hi' => by match i, hi with | 0, _ => exact .refl _ | 1, _ => exact .refl _ | 2, _ => exact .nil _ _)) sub_ ⟨rfl, rfl⟩
theorem tL_ {a b : Seen} {σ : Store} (ha : SeenBd a) (hb : SeenBd b) : ai_ Tryz.prog 162 [az_ a, az_ b] σ fun v σ' => v = az_ (cJ_ a b) ∧ σ = σ' := by
 have h1 := ha.len; have h2 := hb.len; have h3 := ha.lo; have h4 := hb.lo; have h5 := ha.hi; have h6 := hb.hi
 have hol := hZ_ (a.more ++ b.more)
 rw [List.length_append] at hol
 have hom : ∀ n ∈ ej_ (a.more ++ b.more), n ≤ 9007199254740992 := fun n hn => by
  rcases List.mem_append.1 (ks_ hn) with h | h
  ·exact ha.more n h
  ·exact hb.more n h
 have hbase : max a.base b.base = max a.base b.base := rfl
 refine en_ Tryz.func162 Tryz.ntmps162 Tryz.results162 ?_
 refine rr_ ?_
 refine bx_ fun o2 ho2 => ?_
 repeat (rw [ac_] at ho2; obtain ⟨_, ho2⟩ := ho2)
 refine bx_ fun o3 ho3 => ?_
 repeat (rw [ac_] at ho3; obtain ⟨_, ho3⟩ := ho3)
 refine lc_ fun o4 ho4 => ?_
 repeat (rw [ac_] at ho4; obtain ⟨_, ho4⟩ := ho4)
 refine aa_ ?_
 refine rr_ ?_
 iterate 6 refine s_ ?_
 refine aa_ ?_
 refine rr_ ?_
 refine l5_ 1 rfl rfl rfl (by rfl) ?_
 refine aa_ ?_
 refine ab_ ?_
 refine rr_ ?_
 refine s_ ?_
 refine aa_ ?_
 refine ag_ ?_
 refine ah_ (ι := Nat × AVal) (fun ⟨i, g⟩ => a.more.length - i) (fun ⟨i, g⟩ => i ≤ a.more.length ∧ Wk (.sl 1 (((a.more.take i).foldl putI []).map vInt) false) g) (fun ⟨i, g⟩ => [(2, .ref o2 0), (3, .ref o3 0), (4, .ref o4 0), (5, vInt (max a.base b.base)), (6, .sl 1 (((a.more.take i).foldl putI []).map vInt) false), (7, vInt i)]) (fun ⟨i, g⟩ => (((σ.set o2 (.cells (az_ a).cells)).set o3 (.cells (az_ b).cells)).set o4 (.cells [.lit (.string ⟨#[]⟩), .lit (.int .i64 0), .lit (.slice none 0 0)]))) (0, .sl 1 [] false) ?_ ?_ ?_ ?_
 ·exact ⟨Nat.zero_le _, .refl _⟩
 ·exact cv_
 ·exact Store.Wk.refl _
 rintro ⟨i, g⟩ ⟨hi, _⟩
 simp only [ak_, am_]
 refine ab_ ?_
 refine rr_ ?_
 iterate 5 refine s_ ?_
 refine aa_ ?_
 refine cd_ (fun hc4 => ?_) (fun hc4 => ?_)
 ·refine ae_ ?_
  refine ab_ ?_
  refine ag_ ?_
  obtain ⟨x, hx⟩ := aq_ (l := a.more) (k := i) (by omega)
  have hfold : (a.more.take (i + 1)).foldl putI [] = putI ((a.more.take i).foldl putI []) x := by rw [ax_ hx, List.foldl_append]; rfl
  have hle := h3_ (a.more.take i) []
  rw [List.length_take, List.length_nil] at hle
  have R := hx
  refine r_ ?_
  iterate 6 refine s_ ?_
  refine x_ g_ va_ (pF_ (by omega)) ?_; rintro _ _ ⟨rfl, rfl⟩
  refine s_ ?_
  refine aa_ ?_
  refine r_ ?_
  iterate 3 refine s_ ?_
  refine aa_ ?_
  refine aC_ (ι := Nat × AVal) (i := ⟨i, g⟩) (i + 1, .sl 1 (((a.more.take (i + 1)).foldl putI []).map vInt) false) ?_ ?_ ?_ ?_
  ·show a.more.length - (i + 1) < a.more.length - i; omega
  ·exact ⟨by show i + 1 ≤ a.more.length; omega, .refl _⟩
  ·have R := hfold; exact cv_
  ·exact sub_
 ·refine an_ ?_
  refine ad_ ?_
  refine ad_ ?_
  refine aj_ ?_
  refine ab_ ?_
  refine rr_ ?_
  refine s_ ?_
  refine aa_ ?_
  refine ag_ ?_
  refine ah_ (ι := Nat) (fun i => b.more.length - i) (fun i => i ≤ b.more.length) (fun i => [(2, .ref o2 0), (3, .ref o3 0), (4, .ref o4 0), (5, vInt (max a.base b.base)), (6, .sl 1 (((a.more ++ b.more.take i).foldl putI []).map vInt) false), (8, vInt i)]) (fun i => (((σ.set o2 (.cells (az_ a).cells)).set o3 (.cells (az_ b).cells)).set o4 (.cells [.lit (.string ⟨#[]⟩), .lit (.int .i64 0), .lit (.slice none 0 0)]))) 0 ?_ ?_ ?_ ?_
  ·exact Nat.zero_le _
  ·have R := (show (a.more.take i).foldl putI [] = a.more.foldl putI [] from by rw [List.take_of_length_le (by omega)]); exact cv_
  ·exact Store.Wk.refl _
  rintro i hi
  simp only [ak_, am_]
  refine ab_ ?_
  refine rr_ ?_
  iterate 5 refine s_ ?_
  refine aa_ ?_
  refine cd_ (fun hc8 => ?_) (fun hc8 => ?_)
  ·refine ae_ ?_
   refine ab_ ?_
   refine ag_ ?_
   obtain ⟨x, hx⟩ := aq_ (l := b.more) (k := i) (by omega)
   have hfold : (a.more ++ b.more.take (i + 1)).foldl putI [] = putI ((a.more ++ b.more.take i).foldl putI []) x := by rw [ax_ hx, ← List.append_assoc, List.foldl_append (l' := [x])]; rfl
   have hle := h3_ (a.more ++ b.more.take i) []
   rw [List.length_append, List.length_take, List.length_nil] at hle
   have R := hx
   refine r_ ?_
   iterate 6 refine s_ ?_
   refine x_ g_ va_ (pF_ (by omega)) ?_; rintro _ _ ⟨rfl, rfl⟩
   refine s_ ?_
   refine aa_ ?_
   refine r_ ?_
   iterate 3 refine s_ ?_
   refine aa_ ?_
   refine aC_ (ι := Nat) (i := i) (i + 1) ?_ ?_ ?_ ?_
   ·omega
   ·show i + 1 ≤ b.more.length; omega
   ·have R := hfold; exact cv_
   ·exact sub_
  ·refine an_ ?_
   refine ad_ ?_
   refine ad_ ?_
   refine aj_ ?_
   refine ab_ ?_
   obtain ⟨L, hL⟩ : ∃ L, ej_ (a.more ++ b.more) = L := ⟨_, rfl⟩
   have hfin : (a.more ++ b.more.take i).foldl putI [] = L := by rw [List.take_of_length_le (by omega), pz_, hL]
   rw [hL] at hol hom
   rw [hfin]
   refine r_ ?_
   refine a8_ 3 1 rfl rfl rfl (by rfl) fun k9 hk9 => ?_
   refine aa_ ?_
   refine ab_ ?_
   refine rr_ ?_
   refine s_ ?_
   refine aa_ ?_
   refine ag_ ?_
   refine ah_ (ι := Nat × Nat × (Int × List Int)) (fun ⟨k, j, st⟩ => L.length - j) (fun ⟨k, j, st⟩ => j ≤ L.length ∧ (L.take j).foldl ch_ (max a.base b.base, []) = st ∧ σ.tok k = none ∧ (0 ≤ st.1 ∧ st.1 ≤ 9007199254740992) ∧ st.2.length ≤ j) (fun ⟨k, j, st⟩ => [(2, .ref o2 0), (4, .ref o4 0), (5, vInt st.1), (6, .sl 1 (L.map vInt) false), (9, .own k 1 (st.2.map vInt)), (10, vInt j)]) (fun ⟨k, j, st⟩ => ((((σ.set o2 (.cells (az_ a).cells)).set o3 (.cells (az_ b).cells)).set o4 (.cells [.lit (.string ⟨#[]⟩), .lit (.int .i64 0), .lit (.slice none 0 0)])).newTok none k (3, 1))) (k9, 0, (max a.base b.base, [])) ?_ ?_ ?_ ?_
   ·exact ⟨Nat.zero_le _, rfl, hk9, ⟨by show 0 ≤ max a.base b.base; omega, by show max a.base b.base ≤ _; omega⟩, Nat.le_refl _⟩
   ·exact cv_
   ·exact Store.Wk.refl _
   rintro ⟨k, j, st⟩ ⟨hj, hst, hk, hb, hlen⟩
   simp only [ak_, am_]
   refine ab_ ?_
   refine rr_ ?_
   iterate 4 refine s_ ?_
   refine aa_ ?_
   refine cd_ (fun hc13 => ?_) (fun hc13 => ?_)
   ·refine ae_ ?_
    refine ab_ ?_
    refine ag_ ?_
    refine ab_ ?_
    obtain ⟨n, hn⟩ := aq_ (l := L) (k := j) (by omega)
    have hnb := hom n (List.mem_of_getElem? hn)
    have hfold : (L.take (j + 1)).foldl ch_ (max a.base b.base, []) = ch_ st n := by rw [ax_ hn, List.foldl_append, hst]; rfl
    have R := hn
    refine r_ ?_
    iterate 7 refine s_ ?_
    refine aa_ ?_
    refine cd_ (fun hc15 => ?_) (fun hc15 => ?_)
    ·have R := hn
     refine r_ ?_
     iterate 5 refine s_ ?_
     refine aa_ ?_
     refine r_ ?_
     iterate 3 refine s_ ?_
     refine aa_ ?_
     refine aC_ (ι := Nat × Nat × (Int × List Int)) (i := ⟨k, j, st⟩) (k, j + 1, (n, st.2)) ?_ ?_ ?_ ?_
     ·show L.length - (j + 1) < L.length - j; omega
     ·exact ⟨by show j + 1 ≤ L.length; omega, by rw [hfold, ch_, if_pos hc15], hk, ⟨by show 0 ≤ n; omega, by show n ≤ _; omega⟩, by show st.2.length ≤ j + 1; omega⟩
     ·exact cv_
     ·exact Store.Wk.refl _
    ·refine ab_ ?_
     have R := hn
     refine r_ ?_
     iterate 6 refine s_ ?_
     refine aa_ ?_
     refine cd_ (fun hc17 => ?_) (fun hc17 => ?_)
     ·have R := hn
      refine r_ ?_
      iterate 5 refine s_ ?_
      refine ao_ rfl rfl rfl g_ g_ rfl rfl h_ c2_ (by decide) ?_
      refine aM_ rfl rfl rfl g_ g_ v_ h_ v_ c_ (by simp; omega) fun k73 hk73 => ?_
      refine s_ ?_
      refine aa_ ?_
      refine r_ ?_
      iterate 3 refine s_ ?_
      refine aa_ ?_
      refine aC_ (ι := Nat × Nat × (Int × List Int)) (i := ⟨k, j, st⟩) (k73, j + 1, (st.1, st.2 ++ [n])) ?_ ?_ ?_ ?_
      ·show L.length - (j + 1) < L.length - j; omega
      ·exact ⟨by show j + 1 ≤ L.length; omega, by rw [hfold, ch_, if_neg hc15, if_pos hc17], (aE_ hk73).2, hb, by show (st.2 ++ [n]).length ≤ j + 1; rw [List.length_append]; simp; omega⟩
      ·exact cv_
      ·rw [Store.newTok_step (show Store.tok (((σ.set o2 (.cells (az_ a).cells)).set o3 (.cells (az_ b).cells)).set o4 (.cells [.lit (.string ⟨#[]⟩), .lit (.int .i64 0), .lit (.slice none 0 0)])) k = none from hk)]; exact Store.Wk.refl _
     ·refine ae_ ?_
      refine r_ ?_
      iterate 3 refine s_ ?_
      refine aa_ ?_
      refine aC_ (ι := Nat × Nat × (Int × List Int)) (i := ⟨k, j, st⟩) (k, j + 1, st) ?_ ?_ ?_ ?_
      ·show L.length - (j + 1) < L.length - j; omega
      ·exact ⟨by show j + 1 ≤ L.length; omega, by rw [hfold, ch_, if_neg hc15, if_neg (by omega)], hk, hb, by show st.2.length ≤ j + 1; omega⟩
      ·exact cv_
      ·exact Store.Wk.refl _
   ·refine an_ ?_
    refine ad_ ?_
    refine ad_ ?_
    refine aj_ ?_
    refine ab_ ?_
    skip
    have hfin : cJ_ a b = ⟨a.node, st.1, st.2⟩ := by
     have : la_ a b = st := by rw [← hst, List.take_of_length_le (by omega), ← hL]; rfl
     rw [cJ_, this]
    refine r_ ?_
    iterate 5 refine s_ ?_
    refine st_ ?_
    refine aa_ ?_
    refine af_ ?_
    rw [hfin]
    exact aw_ (v := .agg [vStr a.node, vInt st.1, .sl 1 (st.2.map vInt) false]) (v' := .agg [vStr a.node, vInt st.1, .own k 1 (st.2.map vInt)]) va_ (.agg _ _ rfl (fun i hi hi' => by match i, hi with | 0, _ => exact .refl _ | 1, _ => exact .refl _ | 2, _ => exact .own1 _ _ _)) sub_ ⟨rfl, rfl⟩
structure NodesI (a b : List Seen) (i k : Nat) (out : List ByteArray) : Prop where
 ri : jR_ out
 mem : ∀ s, s ∈ out ↔ (∃ x ∈ a.take i, x.node = s) ∨ ∃ x ∈ b.take k, x.node = s
 ha : ∀ s ∈ out, ∀ x ∈ a.drop i, sLt s x.node = true
 hb : ∀ s ∈ out, ∀ x ∈ b.drop k, sLt s x.node = true
theorem NodesI.swap {a b : List Seen} {i k : Nat} {out : List ByteArray} (h : NodesI a b i k out) : NodesI b a k i out := ⟨h.ri, fun s => by rw [h.mem, Or.comm], h.hb, h.ha⟩
theorem fd_ {a : List Seen} (ra : gU_ a) {i : Nat} {x : Seen} (hx : a[i]? = some x) : ∀ y ∈ a.drop (i + 1), sLt x.node y.node = true := by
 have h1 : gU_ (a.drop i) := List.Pairwise.sublist (List.drop_sublist i a) ra
 rw [bh_ hx] at h1
 exact (List.pairwise_cons.1 h1).1
theorem iG_ {b : List Seen} (rb : gU_ b) {k : Nat} {s : ByteArray} {y : Seen} (hy : b[k]? = some y) (h : sLt s y.node = true) : ∀ z ∈ b.drop k, sLt s z.node = true := fun z hz => by
 rw [bh_ hy] at hz
 rcases List.mem_cons.1 hz with rfl | hz
 ·exact h
 ·exact bs_ h (fd_ rb hy z hz)
theorem NodesI.s1 {a b : List Seen} {i k : Nat} {out : List ByteArray} (h : NodesI a b i k out) (ra : gU_ a) {x : Seen} (hx : a[i]? = some x) (hlt : ∀ y ∈ b.drop k, sLt x.node y.node = true) : NodesI a b (i + 1) k (out ++ [x.node]) := by
 have hd := bh_ hx
 have hxs : ∀ s ∈ out, sLt s x.node = true := fun s hs => h.ha s hs x (by rw [hd]; exact .head _)
 refine ⟨?_, fun s => ?_, fun s hs y hy => ?_, fun s hs y hy => ?_⟩
 ·refine List.pairwise_append.2 ⟨h.ri, List.pairwise_singleton _ _, fun s hs t ht => ?_⟩
  rw [List.mem_singleton.1 ht]; exact hxs s hs
 ·rw [List.mem_append, h.mem, List.mem_singleton, ax_ hx]
  constructor
  ·rintro ((⟨y, hy, e⟩ | ⟨y, hy, e⟩) | rfl)
   ·exact .inl ⟨y, List.mem_append.2 (.inl hy), e⟩
   ·exact .inr ⟨y, hy, e⟩
   ·exact .inl ⟨x, List.mem_append.2 (.inr (List.mem_singleton.2 rfl)), rfl⟩
  ·rintro (⟨y, hy, e⟩ | ⟨y, hy, e⟩)
   ·rcases List.mem_append.1 hy with hy | hy
    ·exact .inl (.inl ⟨y, hy, e⟩)
    ·right; rw [← e, List.mem_singleton.1 hy]
   ·exact .inl (.inr ⟨y, hy, e⟩)
 ·rcases List.mem_append.1 hs with hs | hs
  ·exact h.ha s hs y (by rw [hd]; exact .tail _ hy)
  ·rw [List.mem_singleton.1 hs]; exact fd_ ra hx y hy
 ·rcases List.mem_append.1 hs with hs | hs
  ·exact h.hb s hs y hy
  ·rw [List.mem_singleton.1 hs]; exact hlt y hy
theorem NodesI.s3 {a b : List Seen} {i k : Nat} {out : List ByteArray} (h : NodesI a b i k out) (ra : gU_ a) (rb : gU_ b) {x y : Seen} (hx : a[i]? = some x) (hy : b[k]? = some y) (e : x.node = y.node) : NodesI a b (i + 1) (k + 1) (out ++ [x.node]) := by
 have hd := bh_ hx
 have hd' := bh_ hy
 have hxs : ∀ s ∈ out, sLt s x.node = true := fun s hs => h.ha s hs x (by rw [hd]; exact .head _)
 refine ⟨?_, fun s => ?_, fun s hs z hz => ?_, fun s hs z hz => ?_⟩
 ·refine List.pairwise_append.2 ⟨h.ri, List.pairwise_singleton _ _, fun s hs t ht => ?_⟩
  rw [List.mem_singleton.1 ht]; exact hxs s hs
 ·rw [List.mem_append, h.mem, List.mem_singleton, ax_ hx, ax_ hy]
  constructor
  ·rintro ((⟨z, hz, e⟩ | ⟨z, hz, e⟩) | rfl)
   ·exact .inl ⟨z, List.mem_append.2 (.inl hz), e⟩
   ·exact .inr ⟨z, List.mem_append.2 (.inl hz), e⟩
   ·exact .inl ⟨x, List.mem_append.2 (.inr (List.mem_singleton.2 rfl)), rfl⟩
  ·rintro (⟨z, hz, e'⟩ | ⟨z, hz, e'⟩)
   ·rcases List.mem_append.1 hz with hz | hz
    ·exact .inl (.inl ⟨z, hz, e'⟩)
    ·right; rw [← e', List.mem_singleton.1 hz]
   ·rcases List.mem_append.1 hz with hz | hz
    ·exact .inl (.inr ⟨z, hz, e'⟩)
    ·right; rw [← e', List.mem_singleton.1 hz, e]
 ·rcases List.mem_append.1 hs with hs | hs
  ·exact h.ha s hs z (by rw [hd]; exact .tail _ hz)
  ·rw [List.mem_singleton.1 hs]; exact fd_ ra hx z hz
 ·rcases List.mem_append.1 hs with hs | hs
  ·exact h.hb s hs z (by rw [hd']; exact .tail _ hz)
  ·rw [List.mem_singleton.1 hs, e]; exact fd_ rb hy z hz
instance : Inhabited Seen := ⟨⟨.empty, 0, []⟩⟩
theorem ru_ {a b : List Seen} {ta tb : Bool} {σ : Store} (ra : gU_ a) (rb : gU_ b) (hna : a.length ≤ 100000) (hnb : b.length ≤ 100000) :
  ai_ Tryz.prog 161 [.sl 3 (a.map az_) ta, .sl 3 (b.map az_) tb] σ fun v σ' => v = .sl 1 ((c9_ a b).map vStr) false ∧ σ = σ' := by
 refine en_ Tryz.func161 Tryz.ntmps161 Tryz.results161 ?_
 refine rr_ ?_
 refine s_ ?_
 refine aa_ ?_
 refine rr_ ?_
 refine a8_ 9 1 rfl rfl rfl (by rfl) fun k5 hk5 => ?_
 refine aa_ ?_
 refine rr_ ?_
 iterate 2 refine s_ ?_
 refine aa_ ?_
 refine ab_ ?_
 refine ag_ ?_
 refine ah_ (ι := Nat × Nat × Nat × List ByteArray) (fun ⟨t, i, k, out⟩ => (a.length - i) + (b.length - k)) (fun ⟨t, i, k, out⟩ => i ≤ a.length ∧ k ≤ b.length ∧ σ.tok t = none ∧ NodesI a b i k out ∧ out.length ≤ i + k) (fun ⟨t, i, k, out⟩ => [(0, .sl 3 (a.map az_) ta), (1, .sl 3 (b.map az_) tb), (5, .own t 1 (out.map vStr)), (6, vInt i), (7, vInt k)]) (fun ⟨t, i, k, out⟩ => (σ.newTok none t (9, 1))) (k5, 0, 0, []) ?_ ?_ ?_ ?_
 ·exact ⟨Nat.zero_le _, Nat.zero_le _, hk5, ⟨.nil, fun s => by simp, (fun s hs => by cases hs), fun s hs => by cases hs⟩, Nat.le_refl _⟩
 ·exact cv_
 ·exact Store.Wk.refl _
 rintro ⟨t, i, k, out⟩ ⟨hi, hk, ht, hN, hl⟩
 simp only [ak_, am_]
 refine ab_ ?_
 refine rr_ ?_
 iterate 5 refine s_ ?_
 refine gf_ ?_
 refine gf_ ?_
 refine gf_ ?_
 refine gf_ ?_
 refine s_ ?_
 refine aa_ ?_
 refine cd_ (fun hc3 => ?_) (fun hc3 => ?_)
 ·refine ae_ ?_
  refine ag_ ?_
  refine ag_ ?_
  refine ab_ ?_
  obtain ⟨x, hx⟩ := eO_ a i
  obtain ⟨y, hy⟩ := eO_ b k
  have R := And.intro hx hy
  refine ap_ (.op 0 0 (.op 1 0 (.op 2 0 (.op 3 0 (.op 4 0 (.op 5 0 (.op 6 0 (.op 7 0 (.op 8 0 (.op 9 0 (.op 10 0 (.op 11 0 (.op 12 0 (.op 13 0 (.op 14 0 (.op 15 0 (.op 16 0 (.op 17 0 (.op 18 0 (.op 19 0 (.op 20 0 (.op 21 0 (.op 22 0 (.op 23 0 .nil)))))))))))))))))))))))) Tryz.mixed kr_ ?_
  iterate 5 refine ds_ ?_
  refine dgf_ ?_
  refine dgf_ ?_
  refine dgf_ ?_
  refine dgf_ ?_
  refine dgf_ ?_
  refine aK_ ?_
  refine aK_ ?_
  refine aK_ ?_
  refine aK_ ?_
  refine aK_ ?_
  refine aK_ ?_
  refine aK_ ?_
  refine aK_ ?_
  refine aK_ ?_
  refine aK_ ?_
  refine aK_ ?_
  refine dgf_ ?_
  iterate 2 refine ds_ ?_
  refine aB_ ?_
  refine cd_ (fun hc7 => ?_) (fun hc7 => ?_)
  ·have hia : i < a.length := by rcases hc7 with h | h <;> omega
   have hN1 : NodesI a b (i + 1) k (out ++ [x.node]) := hN.s1 ra (hx hia) (by
    rcases hc7 with h | h
    ·rw [List.drop_eq_nil_of_le (by omega)]; intro y hy; cases hy
    ·by_cases hkb : k < b.length
     ·exact iG_ rb (hy hkb) h.2
     ·rw [List.drop_eq_nil_of_le (by omega)]; intro y hy; cases hy)
   refine ab_ ?_
   have R := hx
   refine r_ ?_
   iterate 6 refine s_ ?_
   refine ao_ rfl rfl rfl g_ g_ rfl rfl h_ c2_ (by decide) ?_
   refine aM_ rfl rfl rfl g_ g_ v_ h_ v_ c_ (by simp; omega) fun k61 hk61 => ?_
   refine s_ ?_
   refine aa_ ?_
   refine r_ ?_
   iterate 3 refine s_ ?_
   refine aa_ ?_
   refine aC_ (ι := Nat × Nat × Nat × List ByteArray) (i := ⟨t, i, k, out⟩) (k61, i + 1, k, out ++ [x.node]) ?_ ?_ ?_ ?_
   ·show (a.length - (i + 1)) + (b.length - k) < (a.length - i) + (b.length - k); omega
   ·exact ⟨by show i + 1 ≤ a.length; omega, hk, (aE_ hk61).2, hN1, by show (out ++ [x.node]).length ≤ i + 1 + k; simp; omega⟩
   ·exact cv_
   ·rw [Store.newTok_step ht]; exact Store.Wk.refl _
  ·refine ab_ ?_
   have R := And.intro hx hy
   refine ap_ (.op 0 0 (.op 1 0 (.op 2 0 (.op 3 0 (.op 4 0 (.op 5 0 (.op 6 0 (.op 7 0 (.op 8 0 (.op 9 0 (.op 10 0 (.op 11 0 (.op 12 0 (.op 13 0 (.op 14 0 (.op 15 0 (.op 16 0 (.op 17 0 .nil)))))))))))))))))) Tryz.mixed kr_ ?_
   iterate 5 refine ds_ ?_
   refine dgf_ ?_
   refine dgf_ ?_
   refine dgf_ ?_
   refine dgf_ ?_
   refine dgf_ ?_
   refine dgf_ ?_
   refine dgf_ ?_
   refine dgf_ ?_
   refine dgf_ ?_
   refine dgf_ ?_
   refine dgf_ ?_
   iterate 2 refine ds_ ?_
   refine aB_ ?_
   refine cd_ (fun hc10 => ?_) (fun hc10 => ?_)
   ·have hkb : k < b.length := by omega
    have hN2 : NodesI a b i (k + 1) (out ++ [y.node]) := (hN.swap.s1 rb (hy hkb) (by
     rcases hc10 with h | h
     ·rw [List.drop_eq_nil_of_le (by omega)]; intro y hy; cases hy
     ·by_cases hia : i < a.length
      ·exact iG_ ra (hx hia) h
      ·rw [List.drop_eq_nil_of_le (by omega)]; intro y hy; cases hy)).swap
    refine ab_ ?_
    have R := hy
    refine r_ ?_
    iterate 6 refine s_ ?_
    refine ao_ rfl rfl rfl g_ g_ rfl rfl h_ c2_ (by decide) ?_
    refine aM_ rfl rfl rfl g_ g_ v_ h_ v_ c_ (by simp; omega) fun k89 hk89 => ?_
    refine s_ ?_
    refine aa_ ?_
    refine r_ ?_
    iterate 3 refine s_ ?_
    refine aa_ ?_
    refine aC_ (ι := Nat × Nat × Nat × List ByteArray) (i := ⟨t, i, k, out⟩) (k89, i, k + 1, out ++ [y.node]) ?_ ?_ ?_ ?_
    ·show (a.length - i) + (b.length - (k + 1)) < (a.length - i) + (b.length - k); omega
    ·exact ⟨hi, by show k + 1 ≤ b.length; omega, (aE_ hk89).2, hN2, by show (out ++ [y.node]).length ≤ i + (k + 1); simp; omega⟩
    ·exact cv_
    ·rw [Store.newTok_step ht]; exact Store.Wk.refl _
   ·have hkb : k < b.length := by omega
    have hia : i < a.length := by omega
    have hxy : x.node = y.node := by
     rcases hc7.2 with h | h
     ·omega
     ·by_cases e : x.node = y.node
      ·exact e
      ·have := fD_ h e; rw [hc10.2] at this; cases this
    have hN3 : NodesI a b (i + 1) (k + 1) (out ++ [x.node]) := hN.s3 ra rb (hx hia) (hy hkb) hxy
    refine ab_ ?_
    have R := hx
    refine r_ ?_
    iterate 6 refine s_ ?_
    refine ao_ rfl rfl rfl g_ g_ rfl rfl h_ c2_ (by decide) ?_
    refine aM_ rfl rfl rfl g_ g_ v_ h_ v_ c_ (by simp; omega) fun k25 hk25 => ?_
    refine s_ ?_
    refine aa_ ?_
    refine rr_ ?_
    iterate 3 refine s_ ?_
    refine aa_ ?_
    refine r_ ?_
    iterate 3 refine s_ ?_
    refine aa_ ?_
    refine aC_ (ι := Nat × Nat × Nat × List ByteArray) (i := ⟨t, i, k, out⟩) (k25, i + 1, k + 1, out ++ [x.node]) ?_ ?_ ?_ ?_
    ·show (a.length - (i + 1)) + (b.length - (k + 1)) < (a.length - i) + (b.length - k); omega
    ·exact ⟨by show i + 1 ≤ a.length; omega, by show k + 1 ≤ b.length; omega, (aE_ hk25).2, hN3, by show (out ++ [x.node]).length ≤ i + 1 + (k + 1); simp; omega⟩
    ·exact cv_
    ·rw [Store.newTok_step ht]; exact Store.Wk.refl _
 ·refine an_ ?_
  refine ad_ ?_
  refine ad_ ?_
  refine aj_ ?_
  refine ab_ ?_
  skip
  have hfin : out = c9_ a b := by
   obtain ⟨n1, n2⟩ := fv_ a b
   refine kK_ hN.ri n1 fun s => ?_
   rw [hN.mem, n2, List.take_of_length_le (by omega), List.take_of_length_le (by omega)]
   constructor
   ·rintro (⟨z, hz, e⟩ | ⟨z, hz, e⟩)
    ·exact ⟨z, List.mem_append.2 (.inl hz), e⟩
    ·exact ⟨z, List.mem_append.2 (.inr hz), e⟩
   ·rintro ⟨z, hz, e⟩
    rcases List.mem_append.1 hz with hz | hz
    ·exact .inl ⟨z, hz, e⟩
    ·exact .inr ⟨z, hz, e⟩
  refine r_ ?_
  iterate 2 refine s_ ?_
  refine aa_ ?_
  refine af_ ?_
  rw [← hfin]
  exact aw_ (v := .sl 1 (out.map vStr) false) (v' := .own t 1 (out.map vStr)) va_ (.own1 _ _ _) (bd_ (bm_ ht aX_)) ⟨rfl, rfl⟩
theorem lJ_ {a b : List Seen} {ta tb : Bool} {σ : Store} (hA : ∀ x ∈ a, SeenSm x) (hB : ∀ x ∈ b, SeenSm x) (hna : a.length ≤ 100000) (hnb : b.length ≤ 100000) :
  ai_ Tryz.prog 92 [.sl 3 (a.map az_) ta, .sl 3 (b.map az_) tb] σ fun v σ' => v = .tup [.sl 3 ((bB_ a b).1.map az_) false, vInt (bB_ a b).2] ∧ σ = σ' := by
 refine en_ Tryz.func92 Tryz.ntmps92 Tryz.results92 ?_
 refine rr_ ?_
 iterate 2 refine s_ ?_
 refine aa_ ?_
 refine ab_ ?_
 refine rr_ ?_
 refine s_ ?_
 refine x_ g_ va_ (fa_ hA (by omega)) ?_; rintro _ _ ⟨rfl, rfl⟩
 iterate 2 refine s_ ?_
 refine gf_ ?_
 refine bt_ rfl rfl v_ rfl (fun hb => av_ (by rfl) (by rfl) (.inr ⟨by rfl, by rfl, by rfl⟩) g_ cg_ (fa_ hB (by omega))) ?_
 refine gf_ ?_
 refine s_ ?_
 refine aa_ ?_
 refine cd_ (fun hc1 => ?_) (fun hc1 => ?_)
 ·skip
  have hj : bB_ a b = ([], 1) := by
   unfold bB_
   cases h1 : b5_ a <;> cases h2 : b5_ b <;> simp [h1, h2] at hc1 ⊢
  refine rr_ ?_
  iterate 2 refine s_ ?_
  refine aa_ ?_
  refine af_ ?_
  rw [hj]
  exact aw_ (v := .tup [.sl 3 [] false, vInt 1]) (v' := .tup [vNil, vInt 1]) va_ (.tup _ _ rfl (fun i hi hi' => by match i, hi with | 0, _ => exact .nil _ _ | 1, _ => exact .refl _)) sub_ ⟨rfl, rfl⟩
 ·skip
  have gA := fO_ hc1.1
  have gB := fO_ hc1.2
  have rA := (bK_.1 hc1.1).1.rise
  have rB := (bK_.1 hc1.2).1.rise
  refine ae_ ?_
  refine rr_ ?_
  refine a8_ 96 3 rfl rfl rfl (by rfl) fun k6 hk6 => ?_
  refine aa_ ?_
  refine rr_ ?_
  iterate 2 refine s_ ?_
  refine x_ g_ va_ (ru_ rA rB hna hnb) ?_; rintro _ _ ⟨rfl, rfl⟩
  refine s_ ?_
  refine aa_ ?_
  skip
  obtain ⟨Nd, hNd⟩ : ∃ Nd, c9_ a b = Nd := ⟨_, rfl⟩
  have hnl := gw_ a b
  rw [hNd] at hnl ⊢
  have hall : a1_ a b = Nd.map fun s => cJ_ (ofS a s) (ofS b s) := by rw [← hNd]; rfl
  refine ab_ ?_
  refine rr_ ?_
  refine s_ ?_
  refine aa_ ?_
  refine ag_ ?_
  refine ah_ (ι := Nat × Nat) (fun ⟨k, i⟩ => Nd.length - i) (fun ⟨k, i⟩ => i ≤ Nd.length ∧ σ.tok k = none) (fun ⟨k, i⟩ => [(0, .sl 3 (a.map az_) ta), (1, .sl 3 (b.map az_) tb), (6, .own k 3 (((Nd.take i).map fun s => cJ_ (ofS a s) (ofS b s)).map az_)), (7, .sl 1 (Nd.map vStr) false), (8, vInt i)]) (fun ⟨k, i⟩ => (σ.newTok none k (96, 3))) (k6, 0) ?_ ?_ ?_ ?_
  ·exact ⟨Nat.zero_le _, hk6⟩
  ·exact cv_
  ·exact Store.Wk.refl _
  rintro ⟨k, i⟩ ⟨hi, hk⟩
  simp only [ak_, am_]
  refine ab_ ?_
  refine rr_ ?_
  iterate 4 refine s_ ?_
  refine aa_ ?_
  refine cd_ (fun hc6 => ?_) (fun hc6 => ?_)
  ·refine ae_ ?_
   refine ab_ ?_
   refine ag_ ?_
   obtain ⟨n, hn⟩ := aq_ (l := Nd) (k := i) (by omega)
   have R := hn
   refine ap_ (.op 0 0 (.op 1 0 (.op 2 0 (.op 3 0 (.op 4 0 (.op 5 0 (.op 7 0 (.op 8 0 (.op 9 0 (.op 10 0 (.op 11 0 (.op 6 1 (.op 12 1 (.op 13 1 (.op 14 1 (.op 15 2 (.op 16 0 .nil))))))))))))))))) Tryz.mixed kr_ ?_
   iterate 11 refine ds_ ?_
   refine dx_ o_ g_ va_ (vN_ (by omega)) ?_; rintro _ _ ⟨rfl, rfl⟩; refine ⟨sub_, ?_⟩
   refine dx_ o_ g_ va_ (vN_ (by omega)) ?_; rintro _ _ ⟨rfl, rfl⟩; refine ⟨sub_, ?_⟩
   refine dx_ o_ g_ va_ (tL_ (iO_ gA _).1 (iO_ gB _).1) ?_; rintro _ _ ⟨rfl, rfl⟩; refine ⟨sub_, ?_⟩
   refine dR_X o_ (by rfl) (by rfl) (aS_ (by rfl) g_ g_ (by rfl) (by rfl) h_ c2_ (by decide) ⟨sub_, ?_⟩)
   refine dR_T o_ (by rfl) (by rfl) (bl_ (by rfl) g_ g_ (.inl ⟨_, va_, h_, rfl⟩) (.inl ⟨⟨_, g_⟩, .inl v_, c_⟩) (by simp; omega) fun k41 hk41 => ?_)
   refine ds_ ?_
   refine aB_ ?_
   refine r_ ?_
   iterate 3 refine s_ ?_
   refine aa_ ?_
   refine aC_ (ι := Nat × Nat) (i := ⟨k, i⟩) (k41, i + 1) ?_ ?_ ?_ ?_
   ·show Nd.length - (i + 1) < Nd.length - i; omega
   ·exact ⟨by show i + 1 ≤ Nd.length; omega, (aE_ hk41).2⟩
   ·have R := (show ((Nd.take (i + 1)).map fun s => cJ_ (ofS a s) (ofS b s)).map az_ = ((Nd.take i).map fun s => cJ_ (ofS a s) (ofS b s)).map az_ ++ [az_ (cJ_ (ofS a n) (ofS b n))] from by rw [ax_ hn, List.map_append, List.map_append]; rfl); exact cv_
   ·rw [Store.newTok_step hk]; exact Store.Wk.refl _
  ·refine an_ ?_
   refine ad_ ?_
   refine ad_ ?_
   refine aj_ ?_
   refine ab_ ?_
   refine ab_ ?_
   obtain rfl : i = Nd.length := by omega
   rw [List.take_length, ← hall]
   have hjl : (a1_ a b).length ≤ 1000000 := by rw [hall, List.length_map]; omega
   refine r_ ?_
   refine s_ ?_
   refine x_ g_ va_ (ai_.wkA (args := [.own k 3 ((a1_ a b).map az_)]) (fa_ (t := false) (iL_ gA gB) hjl) rfl (fun j hj hj' => by match j, hj with | 0, _ => exact .own1 _ _ _)) ?_; rintro _ _ ⟨rfl, rfl⟩
   refine s_ ?_
   refine aa_ ?_
   refine cd_ (fun hc9 => ?_) (fun hc9 => ?_)
   ·refine rr_ ?_
    iterate 2 refine s_ ?_
    refine aa_ ?_
    refine af_ ?_
    skip
    have hj : bB_ a b = ([], 4) := by simp [bB_, hc1.1, hc1.2, hc9]
    rw [hj]
    exact aw_ (v := .tup [.sl 3 [] false, vInt 4]) (v' := .tup [vNil, vInt 4]) va_ (.tup _ _ rfl (fun i hi hi' => by match i, hi with | 0, _ => exact .nil _ _ | 1, _ => exact .refl _)) (bd_ (bm_ hk aX_)) ⟨rfl, rfl⟩
   ·refine ae_ ?_
    refine rr_ ?_
    iterate 3 refine s_ ?_
    refine aa_ ?_
    refine af_ ?_
    skip
    have hj : bB_ a b = (a1_ a b, 0) := by simp [bB_, hc1.1, hc1.2, hc9]
    rw [hj]
    exact aw_ (v := .tup [.sl 3 ((a1_ a b).map az_) false, vInt 0]) (v' := .tup [.own k 3 ((a1_ a b).map az_), vInt 0]) va_ (.tup _ _ rfl (fun i hi hi' => by match i, hi with | 0, _ => exact .own1 _ _ _ | 1, _ => exact .refl _)) (bd_ (bm_ hk aX_)) ⟨rfl, rfl⟩
theorem vJ_ {c : List Seen} {s : ByteArray} {n : Int} {t : Bool} {σ : Store} (hA : ∀ x ∈ c, SeenSm x) (hn : c.length ≤ 100000) (hs : s.size ≤ 1000000) :
  ai_ Tryz.prog 73 [.sl 3 (c.map az_) t, sDot s n] σ fun v σ' => v = .tup [.sl 3 ((addS c s n).1.map az_) false, vInt (addS c s n).2] ∧ σ = σ' := by
 have hon := f2_ s n
 have hsm : ∀ x ∈ [oneS s n], SeenSm x := fun x hx => by
  obtain rfl := List.mem_singleton.1 hx
  refine ⟨by rw [hon]; exact hs, ?_⟩
  unfold oneS; split <;> simp
 refine en_ Tryz.func73 Tryz.ntmps73 Tryz.results73 ?_
 refine rr_ ?_
 refine bx_ fun o3 ho3 => ?_
 repeat (rw [ac_] at ho3; obtain ⟨_, ho3⟩ := ho3)
 iterate 2 refine s_ ?_
 refine aa_ ?_
 refine ab_ ?_
 refine rr_ ?_
 refine s_ ?_
 refine x_ g_ va_ (fa_ hA (by omega)) ?_; rintro _ _ ⟨rfl, rfl⟩
 iterate 2 refine s_ ?_
 refine gf_ ?_
 refine bt_ rfl rfl v_ rfl (fun hb => av_ (by rfl) (by rfl) (.inr ⟨by rfl, by rfl, by rfl⟩) g_ cg_ (mV_ hs)) ?_
 refine gf_ ?_
 refine s_ ?_
 refine aa_ ?_
 refine cd_ (fun hc1 => ?_) (fun hc1 => ?_)
 ·refine rr_ ?_
  iterate 2 refine s_ ?_
  refine aa_ ?_
  refine af_ ?_
  rw [show addS c s n = ([], 1) from by
   unfold addS bB_
   cases h1 : b5_ c <;> cases h2 : eB_ s n <;> simp [h1, h2] at hc1 ⊢]
  exact aw_ (v := .tup [.sl 3 [] false, vInt 1]) (v' := .tup [vNil, vInt 1]) va_ (.tup _ _ rfl (fun i hi hi' => by match i, hi with | 0, _ => exact .nil _ _ | 1, _ => exact .refl _)) sub_ ⟨rfl, rfl⟩
 ·have haj : addS c s n = bB_ c [oneS s n] := by rw [addS, hc1.2]; rfl
  refine ae_ ?_
  refine rr_ ?_
  iterate 4 refine s_ ?_
  refine ao_ rfl rfl rfl g_ g_ rfl rfl h_ c2_ (by decide) ?_
  refine s_ ?_
  refine lc_ fun o6 ho6 => ?_
  repeat (rw [ac_] at ho6; obtain ⟨_, ho6⟩ := ho6)
  refine st_ ?_
  refine aa_ ?_
  refine ab_ ?_
  refine rr_ ?_
  iterate 3 refine s_ ?_
  refine aa_ ?_
  refine cd_ (fun hc4 => ?_) (fun hc4 => ?_)
  ·refine r_ ?_
   iterate 3 refine s_ ?_
   refine st_ ?_
   refine aa_ ?_
   refine cI_ o6 [.lit (.string (oneS s n).node), vInt (oneS s n).base, .sl 1 ((oneS s n).more.map vInt) false] h_ (by rw [show oneS s n = ⟨s, 1, []⟩ from if_pos hc4]; exact ⟨.refl _, .refl _, .nil _ _, trivial⟩) ?_
   refine rr_ ?_
   iterate 2 refine s_ ?_
   refine ao_ rfl rfl rfl g_ g_ rfl rfl h_ c2_ (by decide) ?_
   refine x_ g_ va_ (lJ_ (b := [oneS s n]) hA hsm hn (by simp)) ?_; rintro _ _ ⟨rfl, rfl⟩
   iterate 4 refine s_ ?_
   refine aa_ ?_
   refine af_ ?_
   refine er_ σ ?_
   exact ⟨by rw [haj], rfl⟩
  ·refine cI_ o6 [.lit (.string (oneS s n).node), vInt (oneS s n).base, .sl 1 ((oneS s n).more.map vInt) false] h_ (by rw [show oneS s n = ⟨s, 0, [n]⟩ from if_neg hc4]; exact ⟨.refl _, .refl _, .sl1 _ _ _, trivial⟩) ?_
   refine ae_ ?_
   refine rr_ ?_
   iterate 2 refine s_ ?_
   refine ao_ rfl rfl rfl g_ g_ rfl rfl h_ c2_ (by decide) ?_
   refine x_ g_ va_ (lJ_ (b := [oneS s n]) hA hsm hn (by simp)) ?_; rintro _ _ ⟨rfl, rfl⟩
   iterate 4 refine s_ ?_
   refine aa_ ?_
   refine af_ ?_
   refine er_ σ ?_
   exact ⟨by rw [haj], rfl⟩
end Go.Proofs.YtcaflcpcbcneiaaGreat
end

section
set_option linter.all false
namespace Go.Ab
section
variable {S S0 σ : Store} {o i : Nat} {x y z : AObj}
end
end Go.Ab
end

section
set_option linter.all false
set_option maxRecDepth 100000
namespace Go.Proofs.YtcaflcpcbcneiaaGreat
open Go.Ab
theorem jw_ {n : Int} {σ : Store} : ai_ Tryz.prog 96 [vInt n] σ fun v σ' => v = vStr (B [eA_ n]) ∧ σ = σ' := by
 have h1 := l9_ n
 have h2 : (n % 256) % 256 = n % 256 := by omega
 refine en_ Tryz.func96 Tryz.ntmps96 Tryz.results96 ?_
 refine ab_ ?_
 have R := And.intro h1 (And.intro lW_ h2)
 refine r_ ?_
 refine s_ ?_
 refine aa_ ?_
 refine ab_ ?_
 have R := And.intro h1 (And.intro lW_ h2)
 refine r_ ?_
 iterate 3 refine s_ ?_
 refine ao_ rfl rfl rfl g_ g_ rfl rfl h_ c2_ (by decide) ?_
 iterate 2 refine s_ ?_
 refine aa_ ?_
 refine af_ ?_
 refine er_ σ ?_
 exact ⟨by rw [← of_], rfl⟩
theorem iT_ {n : Int} {σ : Store} : ai_ Tryz.prog 220 [vInt n] σ fun v σ' => v = vStr (B (beI 8 n)) ∧ σ = σ' := by
 have h00 : (56 : Int) - 8 * ((0 : Nat) : Int) = 56 := by omega
 refine en_ Tryz.func220 Tryz.ntmps220 Tryz.results220 ?_
 refine rr_ ?_
 refine s_ ?_
 refine aa_ ?_
 refine rr_ ?_
 refine s_ ?_
 refine aa_ ?_
 refine ab_ ?_
 refine rr_ ?_
 refine s_ ?_
 refine aa_ ?_
 refine ag_ ?_
 refine ah_ (ι := Nat) (fun j => 8 - j) (fun j => j ≤ 8) (fun j => [(0, vInt n), (3, vStr (B ((beI 8 n).take j))), (4, vInt (56 - 8 * (j : Int)))]) (fun j => σ) 0 ?_ ?_ ?_ ?_
 ·exact Nat.zero_le _
 ·have R := h00; exact cv_
 ·exact sub_
 rintro j hj
 simp only [ak_, am_]
 refine ab_ ?_
 refine rr_ ?_
 iterate 2 refine s_ ?_
 refine aa_ ?_
 refine cd_ (fun hc3 => ?_) (fun hc3 => ?_)
 ·refine ae_ ?_
  refine ab_ ?_
  refine ag_ ?_
  have hbj := ng_ n 8 j (by omega)
  have hcv : (56 : Int) - 8 * (j : Int) - 8 = 56 - 8 * ((j + 1 : Nat) : Int) := by omega
  have hsh : ((56 : Int) - 8 * (j : Int)).toNat = 8 * (7 - j) := by omega
  have hst : (beI 8 n).take j ++ [eA_ (n / 256 ^ (7 - j))] = (beI 8 n).take (j + 1) := (ax_ hbj).symm
  have hlt : ((beI 8 n).take j).length ≤ 8 := by rw [List.length_take]; omega
  have hl1 : ([eA_ (n / 256 ^ (7 - j))] : List UInt8).length = 1 := rfl
  have R := And.intro hsh (And.intro mm_ (And.intro l9_ oC_))
  refine r_ ?_
  iterate 5 refine s_ ?_
  refine x_ g_ va_ (jw_) ?_; rintro _ _ ⟨rfl, rfl⟩
  iterate 2 refine s_ ?_
  refine aa_ ?_
  refine r_ ?_
  iterate 3 refine s_ ?_
  refine aa_ ?_
  refine aC_ (ι := Nat) (i := j) (j + 1) ?_ ?_ ?_ ?_
  ·omega
  ·omega
  ·have R := And.intro hcv hst; exact cv_
  ·exact sub_
 ·refine an_ ?_
  refine ad_ ?_
  refine ad_ ?_
  refine aj_ ?_
  refine rr_ ?_
  iterate 2 refine s_ ?_
  refine aa_ ?_
  refine af_ ?_
  refine er_ σ ?_
  exact ⟨by rw [List.take_of_length_le (by rw [ay_]; omega)], rfl⟩
theorem e9_ {n : Int} {σ : Store} : ai_ Tryz.prog 164 [vInt n] σ fun v σ' => v = vStr (B (beI 4 n)) ∧ σ = σ' := by
 refine en_ Tryz.func164 Tryz.ntmps164 Tryz.results164 ?_
 refine rr_ ?_
 refine s_ ?_
 refine aa_ ?_
 refine ab_ ?_
 have R := And.intro a3_ ay_
 refine r_ ?_
 refine s_ ?_
 refine x_ g_ va_ (iT_) ?_; rintro _ _ ⟨rfl, rfl⟩
 iterate 2 refine s_ ?_
 refine aa_ ?_
 refine af_ ?_
 refine er_ σ ?_
 exact ⟨by rw [b6_, Lb_B, List.take_of_length_le (by rw [ay_]; decide), mc_ n 4 4], rfl⟩
theorem gB_ {s : ByteArray} {σ : Store} (hs : s.size ≤ 1000000000) : ai_ Tryz.prog 97 [vStr s] σ fun v σ' => v = vStr (B (a9_ s)) ∧ σ = σ' := by
 obtain ⟨l, rfl⟩ : ∃ l, s = B l := ⟨Lb s, (B_Lb s).symm⟩
 rw [a3_] at hs
 have h4 : (beI 4 (l.length : Int)).length = 4 := ay_ ..
 refine en_ Tryz.func97 Tryz.ntmps97 Tryz.results97 ?_
 refine rr_ ?_
 refine s_ ?_
 refine aa_ ?_
 refine ab_ ?_
 have R := a3_
 refine r_ ?_
 iterate 2 refine s_ ?_
 refine x_ g_ va_ (e9_) ?_; rintro _ _ ⟨rfl, rfl⟩
 iterate 3 refine s_ ?_
 refine aa_ ?_
 refine af_ ?_
 refine er_ σ ?_
 exact ⟨by rw [a9_, Lb_B, a3_], rfl⟩
theorem g2_ (l : List UInt8) : l ++ [] = l := List.append_nil l
theorem mq_ {α : Type} (f : α → List UInt8) : List.flatMap f [] = [] := rfl
theorem s7_ (n : Int) : beI 1 n = [eA_ n] := by simp [beI]
theorem vP_ {x : Sib} {σ : Store} (hx : SibSm x) : ai_ Tryz.prog 166 [sSib x] σ fun v σ' => v = vStr (B (sibB x)) ∧ σ = σ' := by
 have h1 := hx.node; have h2 := hx.value
 have l1 := aP_ x.node; have l2 := aP_ x.value; have l3 := ay_ 8 x.n; have l4 := ay_ 1 (fs_ x.gone); have l5 := ay_ 8 x.time
 have q1 : (a9_ x.node ++ beI 8 x.n).length = 12 + x.node.size := by rw [List.length_append]; omega
 have q2 : (a9_ x.node ++ beI 8 x.n ++ a9_ x.value).length = 16 + x.node.size + x.value.size := by rw [List.length_append]; omega
 have q3 : (a9_ x.node ++ beI 8 x.n ++ a9_ x.value ++ [eA_ (fs_ x.gone)]).length = 17 + x.node.size + x.value.size := by rw [List.length_append]; simp; omega
 have q4 : ([eA_ (fs_ x.gone)] : List UInt8).length = 1 := rfl
 refine en_ Tryz.func166 Tryz.ntmps166 Tryz.results166 ?_
 refine rr_ ?_
 refine bx_ fun o1 ho1 => ?_
 repeat (rw [ac_] at ho1; obtain ⟨_, ho1⟩ := ho1)
 refine s_ ?_
 refine aa_ ?_
 refine rr_ ?_
 refine s_ ?_
 refine aa_ ?_
 refine cf_ (ι := Unit) (fun _ => True) (fun _ => [(1, .ref o1 0), (3, vInt (fs_ x.gone))]) (fun _ => (σ.set o1 (.cells (sSib x).cells))) ?_ ?_
 ·refine rr_ ?_
  iterate 2 refine s_ ?_
  refine aa_ ?_
  refine cd_ (fun hc2 => ?_) (fun hc2 => ?_)
  ·have hg1 : fs_ x.gone = 1 := by rw [hc2]; rfl
   refine r_ ?_
   refine s_ ?_
   refine aa_ ?_
   refine ⟨(), ?_, ?_, ?_⟩
   ·trivial
   ·have R := hg1; exact cv_
   ·exact Store.Wk.refl _
  ·have hg2 : fs_ x.gone = 0 := by rw [hc2]; rfl
   refine ae_ ?_
   refine ⟨(), ?_, ?_, ?_⟩
   ·trivial
   ·have R := hg2; exact cv_
   ·exact Store.Wk.refl _
 ·rintro _ _
  simp only [ak_, am_]
  refine ab_ ?_
  refine ap_ (.op 0 0 (.op 1 0 (.op 2 0 (.op 4 0 (.op 5 0 (.op 6 0 (.op 9 0 (.op 10 0 (.op 13 0 (.op 16 0 (.op 17 0 (.op 3 1 (.op 7 1 (.op 8 0 (.op 11 1 (.op 12 0 (.op 14 1 (.op 15 0 (.op 18 1 (.op 19 0 (.op 20 0 .nil))))))))))))))))))))) Tryz.mixed kr_ ?_
  iterate 11 refine ds_ ?_
  refine dx_ o_ g_ va_ (gB_ (by omega)) ?_; rintro _ _ ⟨rfl, rfl⟩; refine ⟨sub_, ?_⟩
  refine dx_ o_ g_ va_ (iT_) ?_; rintro _ _ ⟨rfl, rfl⟩; refine ⟨sub_, ?_⟩
  refine ds_ ?_
  refine dx_ o_ g_ va_ (gB_ (by omega)) ?_; rintro _ _ ⟨rfl, rfl⟩; refine ⟨sub_, ?_⟩
  refine ds_ ?_
  refine dx_ o_ g_ va_ (jw_) ?_; rintro _ _ ⟨rfl, rfl⟩; refine ⟨sub_, ?_⟩
  refine ds_ ?_
  refine dx_ o_ g_ va_ (iT_) ?_; rintro _ _ ⟨rfl, rfl⟩; refine ⟨sub_, ?_⟩
  iterate 2 refine ds_ ?_
  refine aB_ ?_
  refine af_ ?_
  refine er_ σ ?_
  exact ⟨by rw [sibB, s7_], rfl⟩
theorem vK_ {c : List Seen} {t : Bool} {σ : Store} (hc : ∀ y ∈ c, SeenSm y) (hn : c.length ≤ 1000) : ai_ Tryz.prog 165 [.sl 3 (c.map az_) t] σ fun v σ' => v = vStr (B (ctxB c)) ∧ σ = σ' := by
 have hle := hB_ hc hn
 refine en_ Tryz.func165 Tryz.ntmps165 Tryz.results165 ?_
 refine rr_ ?_
 refine s_ ?_
 refine aa_ ?_
 refine rr_ ?_
 iterate 2 refine s_ ?_
 refine x_ g_ va_ (e9_) ?_; rintro _ _ ⟨rfl, rfl⟩
 refine s_ ?_
 refine aa_ ?_
 refine ab_ ?_
 refine rr_ ?_
 refine s_ ?_
 refine aa_ ?_
 refine ag_ ?_
 refine ah_ (ι := Nat) (fun i => c.length - i) (fun i => i ≤ c.length) (fun i => [(0, .sl 3 (c.map az_) t), (3, vStr (B (beI 4 c.length ++ (c.take i).flatMap dA_))), (4, vInt i)]) (fun i => σ) 0 ?_ ?_ ?_ ?_
 ·exact Nat.zero_le _
 ·have R := And.intro g2_ @mq_; exact cv_
 ·exact sub_
 rintro i hi
 simp only [ak_, am_]
 refine ab_ ?_
 refine rr_ ?_
 iterate 4 refine s_ ?_
 refine aa_ ?_
 refine cd_ (fun hc3 => ?_) (fun hc3 => ?_)
 ·refine ae_ ?_
  refine ab_ ?_
  refine ag_ ?_
  refine ab_ ?_
  obtain ⟨x, hx⟩ : ∃ x, c[i]? = some x := ⟨c[i]'(by omega), List.getElem?_eq_getElem _⟩
  have hsm := hc x (List.mem_of_getElem? hx)
  have s1 := hsm.node; have s2 := hsm.more
  have hb := bi_ (f := dA_) c (i + 1)
  rw [a0_ hx, List.length_append, eW_] at hb
  obtain ⟨S, hS⟩ : ∃ S, beI 4 (c.length : Int) ++ (c.take i).flatMap dA_ = S := ⟨_, rfl⟩
  have hSl : S.length = 4 + ((c.take i).flatMap dA_).length := by rw [← hS, List.length_append, ay_]
  have l1 := aP_ x.node; have l3 := ay_ 8 x.base; have l4 := ay_ 4 (x.more.length : Int)
  have q1 : (S ++ a9_ x.node).length = S.length + 4 + x.node.size := by rw [List.length_append]; omega
  have q2 : (S ++ a9_ x.node ++ beI 8 x.base).length = S.length + 12 + x.node.size := by rw [List.length_append]; omega
  have q3 : (S ++ a9_ x.node ++ beI 8 x.base ++ beI 4 (x.more.length : Int)).length = S.length + 16 + x.node.size := by rw [List.length_append]; omega
  have R := And.intro hx hS
  refine ap_ (.op 0 0 (.op 1 0 (.op 2 0 (.op 3 0 (.op 4 0 (.op 5 0 (.op 8 0 (.op 9 0 (.op 10 0 (.op 11 0 (.op 12 0 (.op 15 0 (.op 16 0 (.op 17 0 (.op 18 0 (.op 19 0 (.op 20 0 (.op 6 1 (.op 7 0 (.op 13 1 (.op 14 0 (.op 21 1 (.op 22 0 (.op 23 0 .nil)))))))))))))))))))))))) Tryz.mixed kr_ ?_
  iterate 17 refine ds_ ?_
  refine dx_ o_ g_ va_ (gB_ (by omega)) ?_; rintro _ _ ⟨rfl, rfl⟩; refine ⟨sub_, ?_⟩
  refine ds_ ?_
  refine dx_ o_ g_ va_ (iT_) ?_; rintro _ _ ⟨rfl, rfl⟩; refine ⟨sub_, ?_⟩
  refine ds_ ?_
  refine dx_ o_ g_ va_ (e9_) ?_; rintro _ _ ⟨rfl, rfl⟩; refine ⟨sub_, ?_⟩
  iterate 2 refine ds_ ?_
  refine aB_ ?_
  refine rr_ ?_
  refine s_ ?_
  refine aa_ ?_
  refine ag_ ?_
  refine ah_ (ι := Nat) (fun k => x.more.length - k) (fun k => k ≤ x.more.length) (fun k => [(0, .sl 3 (c.map az_) t), (3, vStr (B (S ++ a9_ x.node ++ beI 8 x.base ++ beI 4 (x.more.length : Int) ++ (x.more.take k).flatMap (beI 8)))), (4, vInt i), (5, vInt k)]) (fun k => σ) 0 ?_ ?_ ?_ ?_
  ·exact Nat.zero_le _
  ·have R := And.intro g2_ @mq_; exact cv_
  ·exact sub_
  rintro k hk
  simp only [ak_, am_]
  refine ab_ ?_
  refine ab_ ?_
  have R := hx
  refine r_ ?_
  iterate 8 refine s_ ?_
  refine aa_ ?_
  refine cd_ (fun hc7 => ?_) (fun hc7 => ?_)
  ·refine ae_ ?_
   refine ab_ ?_
   refine ag_ ?_
   obtain ⟨n, hn⟩ : ∃ n, x.more[k]? = some n := ⟨x.more[k]'(by omega), List.getElem?_eq_getElem _⟩
   have hkx : S ++ a9_ x.node ++ beI 8 x.base ++ beI 4 (x.more.length : Int) ++ (x.more.take k).flatMap (beI 8) ++ beI 8 n = S ++ a9_ x.node ++ beI 8 x.base ++ beI 4 (x.more.length : Int) ++ (x.more.take (k + 1)).flatMap (beI 8) := by rw [a0_ hn, ← List.append_assoc]
   have hb2 := bi_ (f := beI 8) x.more (k + 1)
   rw [a0_ hn, List.length_append, ay_, eK_ x.more] at hb2
   have q4 : (S ++ a9_ x.node ++ beI 8 x.base ++ beI 4 (x.more.length : Int) ++ (x.more.take k).flatMap (beI 8)).length = S.length + 16 + x.node.size + ((x.more.take k).flatMap (beI 8)).length := by rw [List.length_append]; omega
   have l5 := ay_ 8 n
   have R := And.intro hx hn
   refine r_ ?_
   iterate 9 refine s_ ?_
   refine x_ g_ va_ (iT_) ?_; rintro _ _ ⟨rfl, rfl⟩
   iterate 2 refine s_ ?_
   refine aa_ ?_
   refine r_ ?_
   iterate 3 refine s_ ?_
   refine aa_ ?_
   refine aC_ (ι := Nat) (i := k) (k + 1) ?_ ?_ ?_ ?_
   ·omega
   ·omega
   ·have R := hkx; exact cv_
   ·exact sub_
  ·refine an_ ?_
   refine ad_ ?_
   refine ad_ ?_
   refine aj_ ?_
   skip
   have hnx : S ++ a9_ x.node ++ beI 8 x.base ++ beI 4 (x.more.length : Int) ++ (x.more.take k).flatMap (beI 8) = beI 4 (c.length : Int) ++ (c.take (i + 1)).flatMap dA_ := by
    rw [a0_ hx, List.take_of_length_le (show x.more.length ≤ k by omega), ← hS]
    simp [dA_, dd_, List.append_assoc]
   refine r_ ?_
   iterate 3 refine s_ ?_
   refine aa_ ?_
   refine aC_ (ι := Nat) (i := i) (i + 1) ?_ ?_ ?_ ?_
   ·omega
   ·omega
   ·have R := hnx; exact cv_
   ·exact sub_
 ·refine an_ ?_
  refine ad_ ?_
  refine ad_ ?_
  refine aj_ ?_
  refine rr_ ?_
  iterate 2 refine s_ ?_
  refine aa_ ?_
  refine af_ ?_
  refine er_ σ ?_
  exact ⟨by rw [List.take_of_length_le (by omega)]; rfl, rfl⟩
theorem sI_ {x : Obj'} {σ : Store} (hx : ObjSm x) : ai_ Tryz.prog 98 [sObj x] σ fun v σ' => v = vStr (B (objB x)) ∧ σ = σ' := by
 have hle := hB_ hx.ctx hx.nc
 have hle2 := jD_ hx.sibs hx.ns
 have hcl : (ctxB x.ctx).length = 4 + (x.ctx.flatMap dA_).length := by rw [ctxB, dd_, List.length_append, ay_]
 have l4 := ay_ 4 (x.sibs.length : Int)
 have q1 : (ctxB x.ctx ++ beI 4 (x.sibs.length : Int)).length = 8 + (x.ctx.flatMap dA_).length := by rw [List.length_append]; omega
 have hns := hx.ns
 refine en_ Tryz.func98 Tryz.ntmps98 Tryz.results98 ?_
 refine rr_ ?_
 refine bx_ fun o1 ho1 => ?_
 repeat (rw [ac_] at ho1; obtain ⟨_, ho1⟩ := ho1)
 refine s_ ?_
 refine aa_ ?_
 refine ab_ ?_
 refine ap_ (.op 0 0 (.op 1 0 (.op 3 0 (.op 4 0 (.op 5 0 (.op 2 1 (.op 6 1 (.op 7 0 (.op 8 0 .nil))))))))) Tryz.mixed kr_ ?_
 iterate 5 refine ds_ ?_
 refine dx_ o_ g_ va_ (vK_ hx.ctx hx.nc) ?_; rintro _ _ ⟨rfl, rfl⟩; refine ⟨sub_, ?_⟩
 refine dx_ o_ g_ va_ (e9_) ?_; rintro _ _ ⟨rfl, rfl⟩; refine ⟨sub_, ?_⟩
 iterate 2 refine ds_ ?_
 refine aB_ ?_
 refine ab_ ?_
 refine rr_ ?_
 refine s_ ?_
 refine aa_ ?_
 refine ag_ ?_
 refine ah_ (ι := Nat) (fun i => x.sibs.length - i) (fun i => i ≤ x.sibs.length) (fun i => [(1, .ref o1 0), (3, vStr (B (ctxB x.ctx ++ beI 4 (x.sibs.length : Int) ++ (x.sibs.take i).flatMap sibB))), (4, vInt i)]) (fun i => (σ.set o1 (.cells (sObj x).cells))) 0 ?_ ?_ ?_ ?_
 ·exact Nat.zero_le _
 ·have R := And.intro g2_ @mq_; exact cv_
 ·exact Store.Wk.refl _
 rintro i hi
 simp only [ak_, am_]
 refine ab_ ?_
 refine rr_ ?_
 iterate 5 refine s_ ?_
 refine aa_ ?_
 refine cd_ (fun hc3 => ?_) (fun hc3 => ?_)
 ·refine ae_ ?_
  refine ab_ ?_
  refine ag_ ?_
  obtain ⟨y, hy⟩ : ∃ y, x.sibs[i]? = some y := ⟨x.sibs[i]'(by omega), List.getElem?_eq_getElem _⟩
  have hsm := hx.sibs y (List.mem_of_getElem? hy)
  have hb := bi_ (f := sibB) x.sibs (i + 1)
  rw [a0_ hy, List.length_append] at hb
  have q2 : (ctxB x.ctx ++ beI 4 (x.sibs.length : Int) ++ (x.sibs.take i).flatMap sibB).length = 8 + (x.ctx.flatMap dA_).length + ((x.sibs.take i).flatMap sibB).length := by rw [List.length_append]; omega
  have hnx : ctxB x.ctx ++ beI 4 (x.sibs.length : Int) ++ (x.sibs.take i).flatMap sibB ++ sibB y = ctxB x.ctx ++ beI 4 (x.sibs.length : Int) ++ (x.sibs.take (i + 1)).flatMap sibB := by rw [a0_ hy, ← List.append_assoc]
  have R := hy
  refine r_ ?_
  iterate 6 refine s_ ?_
  refine x_ g_ va_ (vP_ hsm) ?_; rintro _ _ ⟨rfl, rfl⟩
  iterate 2 refine s_ ?_
  refine aa_ ?_
  refine r_ ?_
  iterate 3 refine s_ ?_
  refine aa_ ?_
  refine aC_ (ι := Nat) (i := i) (i + 1) ?_ ?_ ?_ ?_
  ·omega
  ·omega
  ·have R := hnx; exact cv_
  ·exact Store.Wk.refl _
 ·refine an_ ?_
  refine ad_ ?_
  refine ad_ ?_
  refine aj_ ?_
  refine rr_ ?_
  iterate 2 refine s_ ?_
  refine aa_ ?_
  refine af_ ?_
  refine er_ σ ?_
  exact ⟨by rw [List.take_of_length_le (by omega), objB, dd_, ← List.append_assoc], rfl⟩
end Go.Proofs.YtcaflcpcbcneiaaGreat
end
