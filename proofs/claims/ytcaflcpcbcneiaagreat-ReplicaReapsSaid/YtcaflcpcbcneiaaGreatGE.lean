/-
  Whether a dot is known; dots and values held against each other; slices.Grow, slices.Concat; Places: a bucket and a key, with a slash between them; Messages as bytes: the program's writer; THE LIBRARY's SORTS by the kit's contracts: a slice that is written, sorted in place; The library's sorts at this program; Sorted, once each: rows that grew; Where a node stands in a context; What is known of a node by two; contexts joined; Contexts joined; a dot added. Own work (an AI agent).
-/
import Derived.Test.YtcaflcpcbcneiaaGreatGM
import Derived.Lib.Bytealg
import Derived.Test.YtcaflcpcbcneiaaGreatGD
import Derived.Shelf.Sort.Plain
import Derived.Shelf.Slices.In.SortNone
import Derived.Test.YtcaflcpcbcneiaaGreatGC
import Derived.Shelf.Slices.CompactI
import Derived.Shelf.Slices.CompactS

section
set_option linter.all false
set_option maxRecDepth 100000
namespace Go.Proofs.YtcaflcpcbcneiaaGreat
open Go.Ab
abbrev vB (b : Bool) : AVal := .lit (.bool b)
@[reducible] def sDot (s : ByteArray) (n : Int) : AVal := .agg [.lit (.string s), vInt n]
def inS (l : List Int) (n : Int) : Bool := l.any fun m => decide (m = n)
def hasX (x : Seen) (s : ByteArray) (n : Int) : Bool := decide (x.node = s) && (decide (0 < n) && decide (n ≤ x.base) || inS x.more n)
def hasS (c : List Seen) (s : ByteArray) (n : Int) : Bool := c.any fun x => hasX x s n
theorem to_ {x : Seen} {s : ByteArray} {n : Int} (h : ¬ x.node = s ∨ (n ≤ 0 ∨ x.base < n) ∧ inS x.more n = false) : hasX x s n = false := by
 unfold hasX
 rcases h with h | ⟨h, h'⟩
 ·rw [decide_eq_false h]; rfl
 ·rw [h']
  rcases h with h | h
  ·rw [decide_eq_false (show ¬ 0 < n by omega)]; simp
  ·rw [decide_eq_false (show ¬ n ≤ x.base by omega)]; simp
theorem gq_ {α : Type} {l : List α} {k : Nat} {x : α} {f : α → Bool} (h : l[k]? = some x) (hf : f x = true) : l.any f = true := List.any_eq_true.2 ⟨x, List.mem_of_getElem? h, hf⟩
theorem e1_ {α : Type} {l : List α} {k : Nat} {x : α} {f : α → Bool} (h : l[k]? = some x) (hf : f x = false) (ha : (l.take k).any f = false) : (l.take (k + 1)).any f = false := by
 rw [ax_ h, List.any_append, ha]; simp [hf]
theorem gp_ {α : Type} {l : List α} {k : Nat} {f : α → Bool} (h : l.length ≤ k) (ha : (l.take k).any f = false) : l.any f = false := by rwa [List.take_of_length_le h] at ha
theorem tr_ {l : List Int} {n : Int} {t : Bool} {σ : Store} (hl : l.length ≤ 1000000) : ai_ Tryz.prog 226 [.sl 1 (l.map vInt) t, vInt n] σ fun v σ' => (∃ r, v = vInt r ∧ decide (0 ≤ r) = inS l n) ∧ σ = σ' := by
 refine en_ Tryz.func226 Tryz.ntmps226 Tryz.results226 ?_
 refine rr_ ?_
 refine s_ ?_
 refine aa_ ?_
 refine ab_ ?_
 refine rr_ ?_
 iterate 3 refine s_ ?_
 refine aa_ ?_
 refine ag_ ?_
 refine ah_ (ι := Nat) (fun k => l.length - k) (fun k => k ≤ l.length ∧ (l.take k).any (fun m => decide (m = n)) = false) (fun k => [(0, .sl 1 (l.map vInt) t), (1, vInt n), (7, vInt l.length), (8, vInt k)]) (fun k => σ) 0 ?_ ?_ ?_ ?_
 ·exact ⟨Nat.zero_le _, rfl⟩
 ·exact cv_
 ·exact sub_
 rintro k ⟨hk, ha⟩
 simp only [ak_, am_]
 refine rr_ ?_
 refine s_ ?_
 refine aa_ ?_
 refine ab_ ?_
 refine cd_ (fun hc2 => ?_) (fun hc2 => ?_)
 ·refine ae_ ?_
  refine ab_ ?_
  refine ag_ ?_
  refine ab_ ?_
  obtain ⟨x, hx⟩ := aq_ (l := l) (k := k) (by omega)
  refine r_ ?_
  iterate 2 refine s_ ?_
  refine aa_ ?_
  refine ab_ ?_
  have R := hx
  refine r_ ?_
  iterate 6 refine s_ ?_
  refine aa_ ?_
  refine cd_ (fun hc4 => ?_) (fun hc4 => ?_)
  ·refine rr_ ?_
   iterate 2 refine s_ ?_
   refine aa_ ?_
   refine af_ ?_
   refine er_ σ ?_
   exact ⟨⟨(k : Int), rfl, by rw [decide_eq_true (by omega)]; exact (gq_ hx (by simp; omega)).symm⟩, rfl⟩
  ·refine ae_ ?_
   refine r_ ?_
   iterate 2 refine s_ ?_
   refine aa_ ?_
   refine aC_ (ι := Nat) (i := k) (k + 1) ?_ ?_ ?_ ?_
   ·omega
   ·exact ⟨by omega, e1_ hx (by simp; omega) ha⟩
   ·exact cv_
   ·exact sub_
 ·refine an_ ?_
  refine ad_ ?_
  refine ad_ ?_
  refine aj_ ?_
  refine rr_ ?_
  refine s_ ?_
  refine aa_ ?_
  refine af_ ?_
  refine er_ σ ?_
  exact ⟨⟨-1, rfl, (gp_ (by omega) ha).symm⟩, rfl⟩
theorem ny_ {l : List Int} {n : Int} {t : Bool} {σ : Store} (hl : l.length ≤ 1000000) : ai_ Tryz.prog 182 [.sl 1 (l.map vInt) t, vInt n] σ fun v σ' => v = vB (inS l n) ∧ σ = σ' := by
 refine en_ Tryz.func182 Tryz.ntmps182 Tryz.results182 ?_
 refine rr_ ?_
 refine s_ ?_
 refine aa_ ?_
 refine rr_ ?_
 iterate 2 refine s_ ?_
 refine x_ g_ va_ (tr_ hl) ?_; rintro _ _ ⟨⟨r, rfl, hr⟩, rfl⟩
 iterate 2 refine s_ ?_
 refine aa_ ?_
 refine af_ ?_
 refine er_ σ ?_
 exact ⟨by rw [← hr], rfl⟩
theorem xg_ {l : List Int} {n : Int} {t : Bool} {σ : Store} (hl : l.length ≤ 1000000) : ai_ Tryz.prog 123 [.sl 1 (l.map vInt) t, vInt n] σ fun v σ' => v = vB (inS l n) ∧ σ = σ' := by
 refine en_ Tryz.func123 Tryz.ntmps123 Tryz.results123 ?_
 refine rr_ ?_
 refine s_ ?_
 refine aa_ ?_
 refine ab_ ?_
 refine rr_ ?_
 refine s_ ?_
 refine aa_ ?_
 refine ag_ ?_
 refine ah_ (ι := Nat) (fun k => l.length - k) (fun k => k ≤ l.length ∧ (l.take k).any (fun m => decide (m = n)) = false) (fun k => [(0, .sl 1 (l.map vInt) t), (1, vInt n), (5, vInt k)]) (fun k => σ) 0 ?_ ?_ ?_ ?_
 ·exact ⟨Nat.zero_le _, rfl⟩
 ·exact cv_
 ·exact sub_
 rintro k ⟨hk, ha⟩
 simp only [ak_, am_]
 refine ab_ ?_
 refine rr_ ?_
 iterate 4 refine s_ ?_
 refine aa_ ?_
 refine cd_ (fun hc2 => ?_) (fun hc2 => ?_)
 ·refine ae_ ?_
  refine ab_ ?_
  refine ag_ ?_
  refine ab_ ?_
  obtain ⟨x, hx⟩ := aq_ (l := l) (k := k) (by omega)
  have R := hx
  refine r_ ?_
  iterate 6 refine s_ ?_
  refine aa_ ?_
  refine cd_ (fun hc4 => ?_) (fun hc4 => ?_)
  ·refine rr_ ?_
   refine s_ ?_
   refine aa_ ?_
   refine af_ ?_
   refine er_ σ ?_
   exact ⟨by rw [inS, gq_ hx (by simp; omega)], rfl⟩
  ·refine ae_ ?_
   refine r_ ?_
   iterate 3 refine s_ ?_
   refine aa_ ?_
   refine aC_ (ι := Nat) (i := k) (k + 1) ?_ ?_ ?_ ?_
   ·omega
   ·exact ⟨by omega, e1_ hx (by simp; omega) ha⟩
   ·exact cv_
   ·exact sub_
 ·refine an_ ?_
  refine ad_ ?_
  refine ad_ ?_
  refine aj_ ?_
  refine rr_ ?_
  refine s_ ?_
  refine aa_ ?_
  refine af_ ?_
  refine er_ σ ?_
  exact ⟨by rw [inS, gp_ (by omega) ha], rfl⟩
theorem vn_ {x : Seen} {ob : Nat} {s : ByteArray} {n : Int} {σ : Store} (hb : σ.heap ob = some (.cells [.lit (.string s), vInt n])) (hx : SeenSm x) : ai_ Tryz.prog 181 [az_ x, .ref ob 0] σ fun v σ' => v = vB (hasX x s n) ∧ σ = σ' := by
 have hl := hx.more
 refine en_ Tryz.func181 Tryz.ntmps181 Tryz.results181 ?_
 refine ab_ ?_
 have R := hb
 refine r_ ?_
 refine bx_ fun o2 ho2 => ?_
 repeat (rw [ac_] at ho2; obtain ⟨_, ho2⟩ := ho2)
 refine s_ ?_
 refine aa_ ?_
 have nb := aF_ hb ho2
 refine ab_ ?_
 have R := hb
 refine r_ ?_
 iterate 6 refine s_ ?_
 refine gt_ ?_
 refine gt_ ?_
 refine gt_ ?_
 refine gt_ ?_
 refine c7_ rfl rfl v_ rfl vg_ ?_
 refine c7_ rfl rfl v_ rfl vg_ ?_
 refine c7_ rfl rfl v_ rfl vg_ ?_
 refine c7_ rfl rfl v_ rfl vg_ ?_
 refine c7_ rfl rfl v_ rfl vg_ ?_
 refine gt_ ?_
 refine gt_ ?_
 refine dB_ rfl rfl v_ rfl vg_ ?_
 refine dB_ rfl rfl v_ rfl vg_ ?_
 refine dB_ rfl rfl v_ rfl vg_ ?_
 refine dB_ rfl rfl v_ rfl vg_ ?_
 refine sW_ rfl rfl v_ rfl (fun hb => av_ (by rfl) (by rfl) (.inr ⟨by rfl, by rfl, by rfl⟩) g_ cg_ (ny_ hl)) ?_
 refine gt_ ?_
 iterate 2 refine s_ ?_
 refine aa_ ?_
 refine af_ ?_
 refine er_ σ ?_
 refine ⟨?_, rfl⟩
 try unfold hasX
 by_cases h1 : x.node = s <;> by_cases h2 : 0 < n <;> by_cases h3 : n ≤ x.base <;> simp [h1, h2, h3]
theorem lx_ {c : List Seen} {ob : Nat} {s : ByteArray} {n : Int} {t : Bool} {σ : Store} (hb : σ.heap ob = some (.cells [.lit (.string s), vInt n])) (hx : ∀ x ∈ c, SeenSm x) (hn : c.length ≤ 1000000) : ai_ Tryz.prog 225 [.sl 3 (c.map az_) t, .fn (.func 181) [] [.ref ob 0]] σ fun v σ' => (∃ r, v = vInt r ∧ decide (0 ≤ r) = hasS c s n) ∧ σ = σ' := by
 refine en_ Tryz.func225 Tryz.ntmps225 Tryz.results225 ?_
 refine rr_ ?_
 refine s_ ?_
 refine aa_ ?_
 refine ab_ ?_
 refine rr_ ?_
 iterate 3 refine s_ ?_
 refine aa_ ?_
 refine ag_ ?_
 refine ah_ (ι := Nat) (fun k => c.length - k) (fun k => k ≤ c.length ∧ (c.take k).any (fun x => hasX x s n) = false) (fun k => [(0, .sl 3 (c.map az_) t), (1, .fn (.func 181) [] [.ref ob 0]), (7, vInt c.length), (8, vInt k)]) (fun k => σ) 0 ?_ ?_ ?_ ?_
 ·exact ⟨Nat.zero_le _, rfl⟩
 ·exact cv_
 ·exact sub_
 rintro k ⟨hk, ha⟩
 simp only [ak_, am_]
 refine rr_ ?_
 refine s_ ?_
 refine aa_ ?_
 refine ab_ ?_
 refine cd_ (fun hc2 => ?_) (fun hc2 => ?_)
 ·refine ae_ ?_
  refine ab_ ?_
  refine ag_ ?_
  refine ab_ ?_
  obtain ⟨x, hxk⟩ := aq_ (l := c) (k := k) (by omega)
  have hsx := hx x (List.mem_of_getElem? hxk)
  refine r_ ?_
  iterate 2 refine s_ ?_
  refine aa_ ?_
  refine ab_ ?_
  have R := hxk
  refine r_ ?_
  iterate 5 refine s_ ?_
  refine aL_X rfl rfl (aU_ rfl rfl (.inl v_) g_ va_ (vn_ hb hsx) ?_); rintro _ _ ⟨rfl, rfl⟩
  refine aa_ ?_
  refine cd_ (fun hc4 => ?_) (fun hc4 => ?_)
  ·refine rr_ ?_
   iterate 2 refine s_ ?_
   refine aa_ ?_
   refine af_ ?_
   refine er_ σ ?_
   exact ⟨⟨(k : Int), rfl, by rw [decide_eq_true (by omega)]; exact (gq_ hxk (by simpa using hc4)).symm⟩, rfl⟩
  ·refine ae_ ?_
   refine r_ ?_
   iterate 2 refine s_ ?_
   refine aa_ ?_
   refine aC_ (ι := Nat) (i := k) (k + 1) ?_ ?_ ?_ ?_
   ·omega
   ·exact ⟨by omega, e1_ hxk (by simpa using hc4) ha⟩
   ·exact cv_
   ·exact sub_
 ·refine an_ ?_
  refine ad_ ?_
  refine ad_ ?_
  refine aj_ ?_
  refine rr_ ?_
  refine s_ ?_
  refine aa_ ?_
  refine af_ ?_
  refine er_ σ ?_
  exact ⟨⟨-1, rfl, (gp_ (by omega) ha).symm⟩, rfl⟩
theorem iq_ {c : List Seen} {ob : Nat} {s : ByteArray} {n : Int} {t : Bool} {σ : Store} (hb : σ.heap ob = some (.cells [.lit (.string s), vInt n])) (hx : ∀ x ∈ c, SeenSm x) (hn : c.length ≤ 1000000) : ai_ Tryz.prog 180 [.sl 3 (c.map az_) t, .fn (.func 181) [] [.ref ob 0]] σ fun v σ' => v = vB (hasS c s n) ∧ σ = σ' := by
 refine en_ Tryz.func180 Tryz.ntmps180 Tryz.results180 ?_
 refine rr_ ?_
 refine s_ ?_
 refine aa_ ?_
 refine rr_ ?_
 iterate 2 refine s_ ?_
 refine x_ g_ va_ (lx_ hb hx hn) ?_; rintro _ _ ⟨⟨r, rfl, hr⟩, rfl⟩
 iterate 2 refine s_ ?_
 refine aa_ ?_
 refine af_ ?_
 refine er_ σ ?_
 exact ⟨by rw [← hr], rfl⟩
theorem vo_ {c : List Seen} {s : ByteArray} {n : Int} {t : Bool} {σ : Store} (hx : ∀ x ∈ c, SeenSm x) (hn : c.length ≤ 1000000) : ai_ Tryz.prog 130 [.sl 3 (c.map az_) t, sDot s n] σ fun v σ' => v = vB (hasS c s n) ∧ σ = σ' := by
 refine en_ Tryz.func130 Tryz.ntmps130 Tryz.results130 ?_
 refine rr_ ?_
 refine bx_ fun o3 ho3 => ?_
 repeat (rw [ac_] at ho3; obtain ⟨_, ho3⟩ := ho3)
 refine s_ ?_
 refine aa_ ?_
 refine rr_ ?_
 iterate 2 refine s_ ?_
 refine x_ g_ va_ (iq_ (Store.set_get ..) hx hn) ?_; rintro _ _ ⟨rfl, rfl⟩
 refine s_ ?_
 refine aa_ ?_
 refine af_ ?_
 refine er_ σ ?_
 exact ⟨rfl, rfl⟩
theorem mU_ {c : List Seen} {s : ByteArray} {n : Int} {t : Bool} {σ : Store} (hx : ∀ x ∈ c, SeenSm x) (hn : c.length ≤ 1000000) : ai_ Tryz.prog 60 [.sl 3 (c.map az_) t, sDot s n] σ fun v σ' => v = vB (hasS c s n) ∧ σ = σ' := by
 refine en_ Tryz.func60 Tryz.ntmps60 Tryz.results60 ?_
 refine rr_ ?_
 refine bx_ fun o3 ho3 => ?_
 repeat (rw [ac_] at ho3; obtain ⟨_, ho3⟩ := ho3)
 refine s_ ?_
 refine aa_ ?_
 refine ab_ ?_
 refine rr_ ?_
 refine s_ ?_
 refine aa_ ?_
 refine ag_ ?_
 refine ah_ (ι := Nat) (fun k => c.length - k) (fun k => k ≤ c.length ∧ (c.take k).any (fun x => hasX x s n) = false) (fun k => [(0, .sl 3 (c.map az_) t), (3, .ref o3 0), (5, vInt k)]) (fun k => (σ.set o3 (.cells [.lit (.string s), vInt n]))) 0 ?_ ?_ ?_ ?_
 ·exact ⟨Nat.zero_le _, rfl⟩
 ·exact cv_
 ·exact Store.Wk.refl _
 rintro k ⟨hk, ha⟩
 simp only [ak_, am_]
 refine ab_ ?_
 refine rr_ ?_
 iterate 4 refine s_ ?_
 refine aa_ ?_
 refine cd_ (fun hc2 => ?_) (fun hc2 => ?_)
 ·refine ae_ ?_
  refine ab_ ?_
  refine ag_ ?_
  refine ab_ ?_
  obtain ⟨x, hxk⟩ := aq_ (l := c) (k := k) (by omega)
  have hsx := hx x (List.mem_of_getElem? hxk)
  have hlx := hsx.more
  have R := hxk
  refine ap_ (.op 0 0 (.op 1 0 (.op 2 0 (.op 3 0 (.op 4 0 (.op 5 0 (.op 6 0 (.op 7 0 (.op 8 0 (.op 9 0 (.op 10 0 (.op 11 0 (.op 12 0 (.op 13 0 (.op 14 0 (.op 15 0 (.op 16 0 (.op 17 0 (.op 18 0 (.op 19 0 (.op 20 0 (.op 21 0 (.op 22 0 (.op 23 0 (.op 24 0 (.op 25 0 (.op 26 0 (.op 27 0 (.op 28 0 (.op 29 0 (.op 30 1 (.op 31 0 (.op 32 0 .nil))))))))))))))))))))))))))))))))) Tryz.mixed kr_ ?_
  iterate 9 refine ds_ ?_
  refine dgt_ ?_
  refine dgt_ ?_
  refine dgt_ ?_
  refine dgt_ ?_
  refine aK_ ?_
  refine aK_ ?_
  refine aK_ ?_
  refine aK_ ?_
  refine aK_ ?_
  refine aK_ ?_
  refine aK_ ?_
  refine aK_ ?_
  refine dgt_ ?_
  refine dgt_ ?_
  refine hF_ o_ (by rfl) (by rfl) v_ (by rfl) vg_ ?_
  refine hF_ o_ (by rfl) (by rfl) v_ (by rfl) vg_ ?_
  refine hF_ o_ (by rfl) (by rfl) v_ (by rfl) vg_ ?_
  refine hF_ o_ (by rfl) (by rfl) v_ (by rfl) vg_ ?_
  refine hF_ o_ (by rfl) (by rfl) v_ (by rfl) vg_ ?_
  refine hF_ o_ (by rfl) (by rfl) v_ (by rfl) vg_ ?_
  refine hF_ o_ (by rfl) (by rfl) v_ (by rfl) vg_ ?_
  refine tb_ o_ (by rfl) (by rfl) v_ (by rfl) sub_ (fun hb => av_ (by rfl) (by rfl) (.inr ⟨by rfl, by rfl, by rfl⟩) g_ cg_ (xg_ hlx)) ?_
  refine dgt_ ?_
  refine ds_ ?_
  refine aB_ ?_
  refine cd_ (fun hc4 => ?_) (fun hc4 => ?_)
  ·skip
   have hxf : hasX x s n = true := by
    simp only [hasX]
    simpa using hc4
   refine rr_ ?_
   refine s_ ?_
   refine aa_ ?_
   refine af_ ?_
   refine er_ σ ?_
   exact ⟨by rw [hasS, gq_ hxk hxf], rfl⟩
  ·skip
   have hxf : hasX x s n = false := to_ hc4
   refine ae_ ?_
   refine r_ ?_
   iterate 3 refine s_ ?_
   refine aa_ ?_
   refine aC_ (ι := Nat) (i := k) (k + 1) ?_ ?_ ?_ ?_
   ·omega
   ·exact ⟨by omega, e1_ hxk hxf ha⟩
   ·exact cv_
   ·exact Store.Wk.refl _
 ·refine an_ ?_
  refine ad_ ?_
  refine ad_ ?_
  refine aj_ ?_
  refine rr_ ?_
  refine s_ ?_
  refine aa_ ?_
  refine af_ ?_
  refine er_ σ ?_
  exact ⟨by rw [hasS, gp_ (by omega) ha], rfl⟩
theorem oI_ : ∀ (l m : List UInt8), Lib.compareBytes l m = if Op.bytesLess l m then -1 else if l = m then 0 else 1
 |[], [] => rfl
 |[], _ :: _ => rfl
 |_ :: _, [] => rfl
 |a :: l, b :: m => by
  rw [Lib.compareBytes, Op.bytesLess, oI_ l m]
  by_cases h1 : a < b
  ·simp [h1]
  ·by_cases h2 : b < a
   ·have h3 : a ≠ b := fun h => by rw [h] at h2; exact absurd h2 (UInt8.lt_irrefl _)
    simp [h1, h2, h3]
   ·have h3 : a = b := UInt8.le_antisymm (UInt8.not_lt.1 h2) (UInt8.not_lt.1 h1)
    subst h3
    simp [h1]
def cmpS (a b : ByteArray) : Int := if sLt a b then -1 else if a = b then 0 else 1
def cmpI (a b : Int) : Int := if a < b then -1 else if b < a then 1 else 0
def cmpD (s : ByteArray) (n : Int) (s' : ByteArray) (n' : Int) : Int := if cmpS s s' ≠ 0 then cmpS s s' else cmpI n n'
theorem ta_ (a b : ByteArray) : Lib.compareBytes a.data.toList b.data.toList = cmpS a b := by
 rw [oI_, cmpS, sLt, Lib.toList_data, Lib.toList_data]
 congr 1
 by_cases h : a = b
 ·subst h; simp
 ·have : ¬ a.data.toList = b.data.toList := fun hh => h (by apply ByteArray.ext; exact Array.toList_inj.1 hh)
  rw [if_neg h, if_neg this]
theorem oK_ {κ : K} {α : Operand → AVal} {x y : Operand} {ev : Operand → Value} {a b : ByteArray} (hx : α x = vStr a) (hy : α y = vStr b) (h : ∀ z ∈ #[x, y], Rv κ (α z) (ev z)) : ∃ cv, (Extern.BytealgCompare.compare (#[x, y].map ev)).run Tryz.prog κ.w = .ok cv κ.w ∧ Rv κ (vInt (cmpS a b)) cv := by
 have h1 := h x (by simp); have h2 := h y (by simp)
 rw [hx] at h1
 rw [hy] at h2
 refine ⟨_, ?_, .lit _⟩
 rw [show #[x, y].map ev = #[ev x, ev y] from by simp, h1.litInv, h2.litInv, ← ta_]
 exact Lib.run_compareString a b κ.w
theorem hz_ {a b : ByteArray} {σ : Store} : ai_ Tryz.prog 241 [vStr a, vStr b] σ fun v σ' => v = vInt (cmpS a b) ∧ σ = σ' := by
 refine en_ Tryz.func241 Tryz.ntmps241 Tryz.results241 ?_
 refine rr_ ?_
 refine s_ ?_
 refine aa_ ?_
 refine rr_ ?_
 iterate 2 refine s_ ?_
 refine aL_X rfl rfl (dO_ rfl (e := Extern.BytealgCompare.compare) kr_ g_ (fun κ ev _ h => oK_ (a := a) (b := b) va_ va_ h) ?_)
 refine s_ ?_
 refine aa_ ?_
 refine af_ ?_
 refine er_ σ ?_
 exact ⟨rfl, rfl⟩
theorem bV_ {a b : ByteArray} {σ : Store} : ai_ Tryz.prog 191 [vStr a, vStr b] σ fun v σ' => v = vInt (cmpS a b) ∧ σ = σ' := by
 refine en_ Tryz.func191 Tryz.ntmps191 Tryz.results191 ?_
 refine rr_ ?_
 refine s_ ?_
 refine aa_ ?_
 refine rr_ ?_
 iterate 2 refine s_ ?_
 refine x_ g_ va_ (hz_) ?_; rintro _ _ ⟨rfl, rfl⟩
 refine s_ ?_
 refine aa_ ?_
 refine af_ ?_
 refine er_ σ ?_
 exact ⟨rfl, rfl⟩
theorem pb_ {n : Int} {σ : Store} : ai_ Tryz.prog 240 [vInt n] σ fun v σ' => v = vB false ∧ σ = σ' := by
 refine en_ Tryz.func240 Tryz.ntmps240 Tryz.results240 ?_
 refine rr_ ?_
 refine s_ ?_
 refine aa_ ?_
 refine rr_ ?_
 iterate 4 refine s_ ?_
 refine aa_ ?_
 refine af_ ?_
 refine er_ σ ?_
 exact ⟨by simp, rfl⟩
theorem dE_ {a b : Int} {σ : Store} : ai_ Tryz.prog 190 [vInt a, vInt b] σ fun v σ' => v = vInt (cmpI a b) ∧ σ = σ' := by
 refine en_ Tryz.func190 Tryz.ntmps190 Tryz.results190 ?_
 refine rr_ ?_
 refine s_ ?_
 refine aa_ ?_
 refine rr_ ?_
 refine s_ ?_
 refine x_ g_ va_ (pb_) ?_; rintro _ _ ⟨rfl, rfl⟩
 refine s_ ?_
 refine aa_ ?_
 refine rr_ ?_
 refine s_ ?_
 refine x_ g_ va_ (pb_) ?_; rintro _ _ ⟨rfl, rfl⟩
 refine s_ ?_
 refine aa_ ?_
 refine ab_ ?_
 refine rr_ ?_
 refine s_ ?_
 refine aa_ ?_
 refine cd_ (fun hc3 => ?_) (fun hc3 => ?_)
 ·cases hc3
 ·refine ae_ ?_
  refine ab_ ?_
  refine rr_ ?_
  refine s_ ?_
  refine aa_ ?_
  refine cd_ (fun hc7 => ?_) (fun hc7 => ?_)
  ·cases hc7
  ·refine ae_ ?_
   refine ab_ ?_
   refine rr_ ?_
   iterate 3 refine s_ ?_
   refine aa_ ?_
   refine cd_ (fun hc9 => ?_) (fun hc9 => ?_)
   ·refine rr_ ?_
    refine s_ ?_
    refine aa_ ?_
    refine af_ ?_
    refine er_ σ ?_
    exact ⟨by rw [cmpI, if_pos hc9], rfl⟩
   ·refine ae_ ?_
    refine ab_ ?_
    refine rr_ ?_
    iterate 3 refine s_ ?_
    refine aa_ ?_
    refine cd_ (fun hc11 => ?_) (fun hc11 => ?_)
    ·refine rr_ ?_
     refine s_ ?_
     refine aa_ ?_
     refine af_ ?_
     refine er_ σ ?_
     exact ⟨by rw [cmpI, if_neg (by omega), if_pos hc11], rfl⟩
    ·refine ae_ ?_
     refine rr_ ?_
     refine s_ ?_
     refine aa_ ?_
     refine af_ ?_
     refine er_ σ ?_
     exact ⟨by rw [cmpI, if_neg (by omega), if_neg (by omega)], rfl⟩
theorem xe_ {a b : Int} {t : Bool} {σ : Store} : ai_ Tryz.prog 189 [.sl 1 [vInt a, vInt b] t] σ fun v σ' => v = vInt (if a ≠ 0 then a else b) ∧ σ = σ' := by
 refine en_ Tryz.func189 Tryz.ntmps189 Tryz.results189 ?_
 refine rr_ ?_
 refine s_ ?_
 refine aa_ ?_
 refine rr_ ?_
 refine s_ ?_
 refine aa_ ?_
 refine ab_ ?_
 refine rr_ ?_
 iterate 3 refine s_ ?_
 refine aa_ ?_
 refine ag_ ?_
 refine ah_ (ι := Nat) (fun k => 2 - k) (fun k => k ≤ 2 ∧ (1 ≤ k → a = 0) ∧ (2 ≤ k → b = 0)) (fun k => [(3, vInt 0), (6, .sl 1 [vInt a, vInt b] t), (7, vInt 2), (8, vInt k)]) (fun k => σ) 0 ?_ ?_ ?_ ?_
 ·exact ⟨Nat.zero_le _, fun h => by omega, fun h => by omega⟩
 ·exact cv_
 ·exact sub_
 rintro k ⟨hk, h1, h2⟩
 simp only [ak_, am_]
 refine rr_ ?_
 refine s_ ?_
 refine aa_ ?_
 refine ab_ ?_
 refine cd_ (fun hc3 => ?_) (fun hc3 => ?_)
 ·refine ae_ ?_
  refine ab_ ?_
  refine ag_ ?_
  refine ab_ ?_
  skip
  obtain ⟨x, hxk, hx0, hx1⟩ : ∃ x, [vInt a, vInt b][k]? = some (vInt x) ∧ (k = 0 → x = a) ∧ (k = 1 → x = b) := by
   match k, (show k < 2 by omega) with
   |0, _ => exact ⟨a, rfl, fun _ => rfl, fun h => by cases h⟩
   |1, _ => exact ⟨b, rfl, (fun h => by cases h), fun _ => rfl⟩
  have R := hxk
  refine r_ ?_
  iterate 3 refine s_ ?_
  refine aa_ ?_
  refine rr_ ?_
  iterate 3 refine s_ ?_
  refine aa_ ?_
  refine cd_ (fun hc5 => ?_) (fun hc5 => ?_)
  ·refine rr_ ?_
   iterate 2 refine s_ ?_
   refine aa_ ?_
   refine af_ ?_
   refine er_ σ ?_
   refine ⟨?_, rfl⟩
   rcases Nat.lt_or_ge k 1 with h | h
   ·obtain rfl := hx0 (by omega)
    rw [if_pos hc5]
   ·obtain rfl := hx1 (by omega)
    rw [if_neg (by rw [h1 h]; simp)]
  ·have hs1 : a = 0 := by rcases Nat.lt_or_ge k 1 with h | h; exact (hx0 (by omega)) ▸ hc5; exact h1 h
   have hs2 : 2 ≤ k + 1 → b = 0 := fun h => (hx1 (by omega)) ▸ hc5
   refine ae_ ?_
   refine r_ ?_
   iterate 2 refine s_ ?_
   refine aa_ ?_
   refine aC_ (ι := Nat) (i := k) (k + 1) ?_ ?_ ?_ ?_
   ·omega
   ·exact ⟨by omega, fun _ => hs1, fun h => hs2 h⟩
   ·exact cv_
   ·exact sub_
 ·refine an_ ?_
  refine ad_ ?_
  refine ad_ ?_
  refine aj_ ?_
  refine rr_ ?_
  iterate 2 refine s_ ?_
  refine aa_ ?_
  refine af_ ?_
  refine er_ σ ?_
  refine ⟨?_, rfl⟩
  rw [if_neg (by rw [h1 (by omega)]; simp), h2 (by omega)]
theorem oO_ {s s' : ByteArray} {n n' : Int} {σ : Store} : ai_ Tryz.prog 141 [sDot s n, sDot s' n'] σ fun v σ' => v = vInt (cmpD s n s' n') ∧ σ = σ' := by
 refine en_ Tryz.func141 Tryz.ntmps141 Tryz.results141 ?_
 refine rr_ ?_
 refine bx_ fun o2 ho2 => ?_
 repeat (rw [ac_] at ho2; obtain ⟨_, ho2⟩ := ho2)
 refine bx_ fun o3 ho3 => ?_
 repeat (rw [ac_] at ho3; obtain ⟨_, ho3⟩ := ho3)
 refine s_ ?_
 refine aa_ ?_
 refine ab_ ?_
 refine ap_ (.op 0 0 (.op 1 0 (.op 2 0 (.op 3 0 (.op 5 0 (.op 6 0 (.op 7 0 (.op 8 0 (.op 4 1 (.op 9 1 (.op 10 1 (.op 11 1 (.op 12 0 .nil))))))))))))) Tryz.mixed kr_ ?_
 iterate 8 refine ds_ ?_
 refine dx_ o_ g_ va_ (bV_) ?_; rintro _ _ ⟨rfl, rfl⟩; refine ⟨sub_, ?_⟩
 refine dx_ o_ g_ va_ (dE_) ?_; rintro _ _ ⟨rfl, rfl⟩; refine ⟨sub_, ?_⟩
 refine dR_X o_ (by rfl) (by rfl) (aS_ (by rfl) g_ g_ (by rfl) (by rfl) h_ c2_ (by decide) ⟨sub_, ?_⟩)
 refine dx_ o_ g_ va_ (xe_ (a := cmpS s s') (b := cmpI n n')) ?_; rintro _ _ ⟨rfl, rfl⟩; refine ⟨sub_, ?_⟩
 refine ds_ ?_
 refine aB_ ?_
 refine af_ ?_
 refine er_ σ ?_
 exact ⟨rfl, rfl⟩
theorem js_ {x y : Sib} {σ : Store} : ai_ Tryz.prog 81 [sSib x, sSib y] σ fun v σ' => v = vInt (cmpD x.node x.n y.node y.n) ∧ σ = σ' := by
 refine en_ Tryz.func81 Tryz.ntmps81 Tryz.results81 ?_
 refine rr_ ?_
 refine bx_ fun o2 ho2 => ?_
 repeat (rw [ac_] at ho2; obtain ⟨_, ho2⟩ := ho2)
 refine bx_ fun o3 ho3 => ?_
 repeat (rw [ac_] at ho3; obtain ⟨_, ho3⟩ := ho3)
 refine s_ ?_
 refine aa_ ?_
 refine rr_ ?_
 iterate 4 refine s_ ?_
 refine x_ g_ va_ (oO_) ?_; rintro _ _ ⟨rfl, rfl⟩
 refine s_ ?_
 refine aa_ ?_
 refine af_ ?_
 refine er_ σ ?_
 exact ⟨rfl, rfl⟩
def dW_ (s : ByteArray) (n : Int) (s' : ByteArray) (n' : Int) : Bool := sLt s s' || (decide (s = s') && decide (n < n'))
theorem pD_ {s s' : ByteArray} {n n' : Int} {σ : Store} : ai_ Tryz.prog 61 [sDot s n, sDot s' n'] σ fun v σ' => v = vB (dW_ s n s' n') ∧ σ = σ' := by
 refine en_ Tryz.func61 Tryz.ntmps61 Tryz.results61 ?_
 refine rr_ ?_
 refine bx_ fun o2 ho2 => ?_
 repeat (rw [ac_] at ho2; obtain ⟨_, ho2⟩ := ho2)
 refine bx_ fun o3 ho3 => ?_
 repeat (rw [ac_] at ho3; obtain ⟨_, ho3⟩ := ho3)
 refine s_ ?_
 refine aa_ ?_
 refine rr_ ?_
 iterate 6 refine s_ ?_
 refine gf_ ?_
 refine gf_ ?_
 refine gf_ ?_
 refine gf_ ?_
 refine gf_ ?_
 refine gf_ ?_
 refine c7_ rfl rfl v_ rfl vg_ ?_
 refine c7_ rfl rfl v_ rfl vg_ ?_
 refine c7_ rfl rfl v_ rfl vg_ ?_
 refine c7_ rfl rfl v_ rfl vg_ ?_
 refine c7_ rfl rfl v_ rfl vg_ ?_
 refine gf_ ?_
 iterate 2 refine s_ ?_
 refine aa_ ?_
 refine af_ ?_
 refine er_ σ ?_
 refine ⟨?_, rfl⟩
 simp only [dW_]
 try (cases h1 : sLt s s' <;> by_cases h2 : s = s' <;> simp [h1, h2])
theorem hv_ (s : ByteArray) (n : Int) (s' : ByteArray) (n' : Int) : (cmpD s n s' n' < 0) ↔ dW_ s n s' n' = true := by
 unfold cmpD dW_ cmpS cmpI
 cases h1 : sLt s s' <;> by_cases h2 : s = s' <;> simp [h2]
 by_cases h3 : n < n' <;> by_cases h4 : n' < n <;> simp [h3, h4]
abbrev vNil : AVal := .lit (.slice none 0 0)
theorem fY_ {α : Type} (f : α → AVal) (h : ∀ x, ∀ c ∈ (f x).cells, c.one = true) (l : List α) : ∀ y ∈ l.map f, ∀ c ∈ y.cells, c.one = true := fun y hy => by
 obtain ⟨x, _, rfl⟩ := List.mem_map.1 hy
 exact h x
theorem hQ_ {α : Type} (f : α → AVal) {n : Nat} (h : ∀ x, (f x).cells.length = n) (l : List α) : ∀ y ∈ l.map f, y.cells.length = n := fun y hy => by
 obtain ⟨x, _, rfl⟩ := List.mem_map.1 hy
 exact h x
def cbk {α : Type} (L1 L2 : List α) (k : Nat) : List α := if k = 0 then [] else if k = 1 then L1 else L1 ++ L2
theorem pu_ (l : List Seen) : ∀ y ∈ l.map az_, ∀ c ∈ y.cells, c.one = true := fY_ az_ (fun x c hc => by simp [AVal.cells] at hc; (try rcases hc with rfl | rfl | rfl | rfl | rfl); (try rcases hc with rfl | rfl | rfl); (try subst hc); all_goals rfl) l
theorem qg_ (l : List Seen) : ∀ y ∈ l.map az_, y.cells.length = 3 := hQ_ az_ (fun x => rfl) l
theorem nE_ {n : Nat} {σ : Store} (hn : n ≤ 1000000000) : ai_ Tryz.prog 183 [vNil, vInt n] σ fun v σ' => CBp σ σ' 3 [] v := by
 refine en_ Tryz.func183 Tryz.ntmps183 Tryz.results183 ?_
 refine rr_ ?_
 refine s_ ?_
 refine aa_ ?_
 refine ab_ ?_
 refine rr_ ?_
 iterate 2 refine s_ ?_
 refine aa_ ?_
 refine cd_ (fun hc1 => ?_) (fun hc1 => ?_)
 ·omega
 ·refine ae_ ?_
  refine ab_ ?_
  refine rr_ ?_
  iterate 2 refine s_ ?_
  refine aL_X rfl rfl (dh_ rfl g_ va_ ?_)
  iterate 5 refine s_ ?_
  refine aa_ ?_
  refine rr_ ?_
  iterate 2 refine s_ ?_
  refine aa_ ?_
  refine cd_ (fun hc4 => ?_) (fun hc4 => ?_)
  ·refine r_ ?_
   iterate 2 refine s_ ?_
   refine aL_X rfl rfl (dh_ rfl g_ va_ ?_)
   iterate 2 refine s_ ?_
   refine aL_X rfl rfl (dI_ (n := n) rfl g_ g_ g_ va_ va_ (by omega) (by omega) fun o22 ho22 => ?_)
   iterate 4 refine s_ ?_
   refine aa_ ?_
   refine rr_ ?_
   iterate 2 refine s_ ?_
   refine aa_ ?_
   refine af_ ?_
   refine au_ v_ (Store.Wk.refl _) ?_
   exact .inr ⟨o22, ho22, rfl, rfl⟩
  ·refine ae_ ?_
   refine rr_ ?_
   iterate 2 refine s_ ?_
   refine aa_ ?_
   refine af_ ?_
   refine au_ v_ (Store.Wk.refl _) ?_
   exact .inl ⟨rfl, rfl, rfl⟩
theorem kb_ {L1 L2 : List Seen} {t1 t2 tt : Bool} {σ : Store} (h1 : L1.length ≤ 10000000) (h2 : L2.length ≤ 10000000) :
  ai_ Tryz.prog 131 [.sl 1 [.sl 3 (L1.map az_) t1, .sl 3 (L2.map az_) t2] tt] σ fun v σ' => CBp σ σ' 3 ((L1 ++ L2).map az_) v := by
 refine en_ Tryz.func131 Tryz.ntmps131 Tryz.results131 ?_
 refine rr_ ?_
 refine s_ ?_
 refine aa_ ?_
 refine rr_ ?_
 refine s_ ?_
 refine aa_ ?_
 refine ab_ ?_
 refine rr_ ?_
 iterate 3 refine s_ ?_
 refine aa_ ?_
 refine ag_ ?_
 refine ah_ (ι := Nat) (fun k => 2 - k) (fun k => k ≤ 2) (fun k => [(0, .sl 1 [.sl 3 (L1.map az_) t1, .sl 3 (L2.map az_) t2] tt), (3, vInt ((if k = 0 then 0 else if k = 1 then L1.length else L1.length + L2.length : Nat) : Int)), (9, .sl 1 [.sl 3 (L1.map az_) t1, .sl 3 (L2.map az_) t2] tt), (10, vInt 2), (11, vInt k)]) (fun k => σ) 0 ?_ ?_ ?_ ?_
 ·exact Nat.zero_le _
 ·exact cv_
 ·exact sub_
 rintro k hk
 simp only [ak_, am_]
 refine rr_ ?_
 refine s_ ?_
 refine aa_ ?_
 refine ab_ ?_
 refine cd_ (fun hc3 => ?_) (fun hc3 => ?_)
 ·refine ae_ ?_
  refine ab_ ?_
  refine ag_ ?_
  refine ab_ ?_
  rcases (show k = 0 ∨ k = 1 by omega) with rfl | rfl
  ·refine r_ ?_
   iterate 3 refine s_ ?_
   refine aa_ ?_
   refine rr_ ?_
   iterate 5 refine s_ ?_
   refine aa_ ?_
   refine rr_ ?_
   iterate 2 refine s_ ?_
   refine aa_ ?_
   refine cd_ (fun hc6 => ?_) (fun hc6 => ?_)
   ·omega
   ·refine ae_ ?_
    refine r_ ?_
    iterate 2 refine s_ ?_
    refine aa_ ?_
    refine aC_ (ι := Nat) (i := 0) 1 ?_ ?_ ?_ ?_
    ·decide
    ·decide
    ·have R := (show ((0 : Nat) : Int) + (L1.length : Int) = (L1.length : Int) from by omega); exact cv_
    ·exact sub_
  ·refine r_ ?_
   iterate 3 refine s_ ?_
   refine aa_ ?_
   refine rr_ ?_
   iterate 5 refine s_ ?_
   refine aa_ ?_
   refine rr_ ?_
   iterate 2 refine s_ ?_
   refine aa_ ?_
   refine cd_ (fun hc6 => ?_) (fun hc6 => ?_)
   ·omega
   ·refine ae_ ?_
    refine r_ ?_
    iterate 2 refine s_ ?_
    refine aa_ ?_
    refine aC_ (ι := Nat) (i := 1) 2 ?_ ?_ ?_ ?_
    ·decide
    ·decide
    ·exact cv_
    ·exact sub_
 ·refine an_ ?_
  refine ad_ ?_
  refine ad_ ?_
  refine aj_ ?_
  refine ab_ ?_
  obtain rfl : k = 2 := by omega
  refine r_ ?_
  refine s_ ?_
  refine x_ g_ va_ (nE_ (n := L1.length + L2.length) (by omega)) ?_; rintro _ τ0 hC0
  rename_i b0
  refine s_ ?_
  refine aa_ ?_
  refine ab_ ?_
  refine rr_ ?_
  iterate 3 refine s_ ?_
  refine aa_ ?_
  refine ag_ ?_
  refine ah_ (ι := Store × AVal × Nat) (fun ⟨τ, b, k⟩ => 2 - k) (fun ⟨τ, b, k⟩ => k ≤ 2 ∧ CBp σ τ 3 ((cbk L1 L2 k).map az_) b) (fun ⟨τ, b, k⟩ => [(6, b), (25, .sl 1 [.sl 3 (L1.map az_) t1, .sl 3 (L2.map az_) t2] tt), (26, vInt 2), (27, vInt k)]) (fun ⟨τ, b, k⟩ => τ) (τ0, b0, 0) ?_ ?_ ?_ ?_
  ·exact ⟨Nat.zero_le _, hC0⟩
  ·exact cv_
  ·exact Store.Wk.refl _
  rintro ⟨τ, b, k⟩ ⟨hk, hC⟩
  simp only [ak_, am_]
  refine rr_ ?_
  refine s_ ?_
  refine aa_ ?_
  refine ab_ ?_
  refine cd_ (fun hc11 => ?_) (fun hc11 => ?_)
  ·refine ae_ ?_
   refine ab_ ?_
   refine ag_ ?_
   refine ab_ ?_
   rcases (show k = 0 ∨ k = 1 by omega) with rfl | rfl
   ·refine r_ ?_
    iterate 3 refine s_ ?_
    refine aa_ ?_
    refine r_ ?_
    iterate 2 refine s_ ?_
    refine aL_X rfl rfl (ce_ rfl g_ g_ hC va_ (qg_ _) va_ (pu_ _) (by simp [cbk]; omega) fun a' σ' hC' => ?_)
    refine s_ ?_
    refine aa_ ?_
    refine r_ ?_
    iterate 2 refine s_ ?_
    refine aa_ ?_
    refine aC_ (ι := Store × AVal × Nat) (i := (τ, b, 0)) (σ', a', 1) ?_ ?_ ?_ ?_
    ·show 2 - 1 < 2 - 0; decide
    ·exact ⟨by show 1 ≤ 2; decide, by simpa [cbk] using hC'⟩
    ·exact cv_
    ·exact Store.Wk.refl _
   ·refine r_ ?_
    iterate 3 refine s_ ?_
    refine aa_ ?_
    refine r_ ?_
    iterate 2 refine s_ ?_
    refine aL_X rfl rfl (ce_ rfl g_ g_ hC va_ (qg_ _) va_ (pu_ _) (by simp [cbk]; omega) fun a' σ' hC' => ?_)
    refine s_ ?_
    refine aa_ ?_
    refine r_ ?_
    iterate 2 refine s_ ?_
    refine aa_ ?_
    refine aC_ (ι := Store × AVal × Nat) (i := (τ, b, 1)) (σ', a', 2) ?_ ?_ ?_ ?_
    ·show 2 - 2 < 2 - 1; decide
    ·exact ⟨by show 2 ≤ 2; decide, by simpa [cbk] using hC'⟩
    ·exact cv_
    ·exact Store.Wk.refl _
  ·refine an_ ?_
   refine ad_ ?_
   refine ad_ ?_
   refine aj_ ?_
   refine ab_ ?_
   obtain rfl : k = 2 := by omega
   refine r_ ?_
   iterate 2 refine s_ ?_
   refine aa_ ?_
   refine af_ ?_
   refine au_ v_ (Store.Wk.refl _) ?_
   exact hC
theorem mL_ (l : List Int) : ∀ y ∈ l.map vInt, ∀ c ∈ y.cells, c.one = true := fY_ vInt (fun x c hc => by simp [AVal.cells] at hc; (try rcases hc with rfl | rfl | rfl | rfl | rfl); (try rcases hc with rfl | rfl | rfl); (try subst hc); all_goals rfl) l
theorem wc_ (l : List Int) : ∀ y ∈ l.map vInt, y.cells.length = 1 := hQ_ vInt (fun x => rfl) l
theorem o9_ {n : Nat} {σ : Store} (hn : n ≤ 1000000000) : ai_ Tryz.prog 236 [vNil, vInt n] σ fun v σ' => CBp σ σ' 1 [] v := by
 refine en_ Tryz.func236 Tryz.ntmps236 Tryz.results236 ?_
 refine rr_ ?_
 refine s_ ?_
 refine aa_ ?_
 refine ab_ ?_
 refine rr_ ?_
 iterate 2 refine s_ ?_
 refine aa_ ?_
 refine cd_ (fun hc1 => ?_) (fun hc1 => ?_)
 ·omega
 ·refine ae_ ?_
  refine ab_ ?_
  refine rr_ ?_
  iterate 2 refine s_ ?_
  refine aL_X rfl rfl (dh_ rfl g_ va_ ?_)
  iterate 5 refine s_ ?_
  refine aa_ ?_
  refine rr_ ?_
  iterate 2 refine s_ ?_
  refine aa_ ?_
  refine cd_ (fun hc4 => ?_) (fun hc4 => ?_)
  ·refine r_ ?_
   iterate 2 refine s_ ?_
   refine aL_X rfl rfl (dh_ rfl g_ va_ ?_)
   iterate 2 refine s_ ?_
   refine aL_X rfl rfl (dI_ (n := n) rfl g_ g_ g_ va_ va_ (by omega) (by omega) fun o22 ho22 => ?_)
   iterate 4 refine s_ ?_
   refine aa_ ?_
   refine rr_ ?_
   iterate 2 refine s_ ?_
   refine aa_ ?_
   refine af_ ?_
   refine au_ v_ (Store.Wk.refl _) ?_
   exact .inr ⟨o22, ho22, rfl, rfl⟩
  ·refine ae_ ?_
   refine rr_ ?_
   iterate 2 refine s_ ?_
   refine aa_ ?_
   refine af_ ?_
   refine au_ v_ (Store.Wk.refl _) ?_
   exact .inl ⟨rfl, rfl, rfl⟩
theorem lg_ {L1 L2 : List Int} {t1 t2 tt : Bool} {σ : Store} (h1 : L1.length ≤ 10000000) (h2 : L2.length ≤ 10000000) :
  ai_ Tryz.prog 185 [.sl 1 [.sl 1 (L1.map vInt) t1, .sl 1 (L2.map vInt) t2] tt] σ fun v σ' => CBp σ σ' 1 ((L1 ++ L2).map vInt) v := by
 refine en_ Tryz.func185 Tryz.ntmps185 Tryz.results185 ?_
 refine rr_ ?_
 refine s_ ?_
 refine aa_ ?_
 refine rr_ ?_
 refine s_ ?_
 refine aa_ ?_
 refine ab_ ?_
 refine rr_ ?_
 iterate 3 refine s_ ?_
 refine aa_ ?_
 refine ag_ ?_
 refine ah_ (ι := Nat) (fun k => 2 - k) (fun k => k ≤ 2) (fun k => [(0, .sl 1 [.sl 1 (L1.map vInt) t1, .sl 1 (L2.map vInt) t2] tt), (3, vInt ((if k = 0 then 0 else if k = 1 then L1.length else L1.length + L2.length : Nat) : Int)), (9, .sl 1 [.sl 1 (L1.map vInt) t1, .sl 1 (L2.map vInt) t2] tt), (10, vInt 2), (11, vInt k)]) (fun k => σ) 0 ?_ ?_ ?_ ?_
 ·exact Nat.zero_le _
 ·exact cv_
 ·exact sub_
 rintro k hk
 simp only [ak_, am_]
 refine rr_ ?_
 refine s_ ?_
 refine aa_ ?_
 refine ab_ ?_
 refine cd_ (fun hc3 => ?_) (fun hc3 => ?_)
 ·refine ae_ ?_
  refine ab_ ?_
  refine ag_ ?_
  refine ab_ ?_
  rcases (show k = 0 ∨ k = 1 by omega) with rfl | rfl
  ·refine r_ ?_
   iterate 3 refine s_ ?_
   refine aa_ ?_
   refine rr_ ?_
   iterate 5 refine s_ ?_
   refine aa_ ?_
   refine rr_ ?_
   iterate 2 refine s_ ?_
   refine aa_ ?_
   refine cd_ (fun hc6 => ?_) (fun hc6 => ?_)
   ·omega
   ·refine ae_ ?_
    refine r_ ?_
    iterate 2 refine s_ ?_
    refine aa_ ?_
    refine aC_ (ι := Nat) (i := 0) 1 ?_ ?_ ?_ ?_
    ·decide
    ·decide
    ·have R := (show ((0 : Nat) : Int) + (L1.length : Int) = (L1.length : Int) from by omega); exact cv_
    ·exact sub_
  ·refine r_ ?_
   iterate 3 refine s_ ?_
   refine aa_ ?_
   refine rr_ ?_
   iterate 5 refine s_ ?_
   refine aa_ ?_
   refine rr_ ?_
   iterate 2 refine s_ ?_
   refine aa_ ?_
   refine cd_ (fun hc6 => ?_) (fun hc6 => ?_)
   ·omega
   ·refine ae_ ?_
    refine r_ ?_
    iterate 2 refine s_ ?_
    refine aa_ ?_
    refine aC_ (ι := Nat) (i := 1) 2 ?_ ?_ ?_ ?_
    ·decide
    ·decide
    ·exact cv_
    ·exact sub_
 ·refine an_ ?_
  refine ad_ ?_
  refine ad_ ?_
  refine aj_ ?_
  refine ab_ ?_
  obtain rfl : k = 2 := by omega
  refine r_ ?_
  refine s_ ?_
  refine x_ g_ va_ (o9_ (n := L1.length + L2.length) (by omega)) ?_; rintro _ τ0 hC0
  rename_i b0
  refine s_ ?_
  refine aa_ ?_
  refine ab_ ?_
  refine rr_ ?_
  iterate 3 refine s_ ?_
  refine aa_ ?_
  refine ag_ ?_
  refine ah_ (ι := Store × AVal × Nat) (fun ⟨τ, b, k⟩ => 2 - k) (fun ⟨τ, b, k⟩ => k ≤ 2 ∧ CBp σ τ 1 ((cbk L1 L2 k).map vInt) b) (fun ⟨τ, b, k⟩ => [(6, b), (25, .sl 1 [.sl 1 (L1.map vInt) t1, .sl 1 (L2.map vInt) t2] tt), (26, vInt 2), (27, vInt k)]) (fun ⟨τ, b, k⟩ => τ) (τ0, b0, 0) ?_ ?_ ?_ ?_
  ·exact ⟨Nat.zero_le _, hC0⟩
  ·exact cv_
  ·exact Store.Wk.refl _
  rintro ⟨τ, b, k⟩ ⟨hk, hC⟩
  simp only [ak_, am_]
  refine rr_ ?_
  refine s_ ?_
  refine aa_ ?_
  refine ab_ ?_
  refine cd_ (fun hc11 => ?_) (fun hc11 => ?_)
  ·refine ae_ ?_
   refine ab_ ?_
   refine ag_ ?_
   refine ab_ ?_
   rcases (show k = 0 ∨ k = 1 by omega) with rfl | rfl
   ·refine r_ ?_
    iterate 3 refine s_ ?_
    refine aa_ ?_
    refine r_ ?_
    iterate 2 refine s_ ?_
    refine aL_X rfl rfl (ce_ rfl g_ g_ hC va_ (wc_ _) va_ (mL_ _) (by simp [cbk]; omega) fun a' σ' hC' => ?_)
    refine s_ ?_
    refine aa_ ?_
    refine r_ ?_
    iterate 2 refine s_ ?_
    refine aa_ ?_
    refine aC_ (ι := Store × AVal × Nat) (i := (τ, b, 0)) (σ', a', 1) ?_ ?_ ?_ ?_
    ·show 2 - 1 < 2 - 0; decide
    ·exact ⟨by show 1 ≤ 2; decide, by simpa [cbk] using hC'⟩
    ·exact cv_
    ·exact Store.Wk.refl _
   ·refine r_ ?_
    iterate 3 refine s_ ?_
    refine aa_ ?_
    refine r_ ?_
    iterate 2 refine s_ ?_
    refine aL_X rfl rfl (ce_ rfl g_ g_ hC va_ (wc_ _) va_ (mL_ _) (by simp [cbk]; omega) fun a' σ' hC' => ?_)
    refine s_ ?_
    refine aa_ ?_
    refine r_ ?_
    iterate 2 refine s_ ?_
    refine aa_ ?_
    refine aC_ (ι := Store × AVal × Nat) (i := (τ, b, 1)) (σ', a', 2) ?_ ?_ ?_ ?_
    ·show 2 - 2 < 2 - 1; decide
    ·exact ⟨by show 2 ≤ 2; decide, by simpa [cbk] using hC'⟩
    ·exact cv_
    ·exact Store.Wk.refl _
  ·refine an_ ?_
   refine ad_ ?_
   refine ad_ ?_
   refine aj_ ?_
   refine ab_ ?_
   obtain rfl : k = 2 := by omega
   refine r_ ?_
   iterate 2 refine s_ ?_
   refine aa_ ?_
   refine af_ ?_
   refine au_ v_ (Store.Wk.refl _) ?_
   exact hC
theorem mM_ (l : List Sib) : ∀ y ∈ l.map sSib, ∀ c ∈ y.cells, c.one = true := fY_ sSib (fun x c hc => by simp [AVal.cells] at hc; (try rcases hc with rfl | rfl | rfl | rfl | rfl); (try rcases hc with rfl | rfl | rfl); (try subst hc); all_goals rfl) l
theorem jH_ (l : List Sib) : ∀ y ∈ l.map sSib, y.cells.length = 5 := hQ_ sSib (fun x => rfl) l
theorem pa_ {n : Nat} {σ : Store} (hn : n ≤ 1000000000) : ai_ Tryz.prog 136 [vNil, vInt n] σ fun v σ' => CBp σ σ' 5 [] v := by
 refine en_ Tryz.func136 Tryz.ntmps136 Tryz.results136 ?_
 refine rr_ ?_
 refine s_ ?_
 refine aa_ ?_
 refine ab_ ?_
 refine rr_ ?_
 iterate 2 refine s_ ?_
 refine aa_ ?_
 refine cd_ (fun hc1 => ?_) (fun hc1 => ?_)
 ·omega
 ·refine ae_ ?_
  refine ab_ ?_
  refine rr_ ?_
  iterate 2 refine s_ ?_
  refine aL_X rfl rfl (dh_ rfl g_ va_ ?_)
  iterate 5 refine s_ ?_
  refine aa_ ?_
  refine rr_ ?_
  iterate 2 refine s_ ?_
  refine aa_ ?_
  refine cd_ (fun hc4 => ?_) (fun hc4 => ?_)
  ·refine r_ ?_
   iterate 2 refine s_ ?_
   refine aL_X rfl rfl (dh_ rfl g_ va_ ?_)
   iterate 2 refine s_ ?_
   refine aL_X rfl rfl (dI_ (n := n) rfl g_ g_ g_ va_ va_ (by omega) (by omega) fun o22 ho22 => ?_)
   iterate 4 refine s_ ?_
   refine aa_ ?_
   refine rr_ ?_
   iterate 2 refine s_ ?_
   refine aa_ ?_
   refine af_ ?_
   refine au_ v_ (Store.Wk.refl _) ?_
   exact .inr ⟨o22, ho22, rfl, rfl⟩
  ·refine ae_ ?_
   refine rr_ ?_
   iterate 2 refine s_ ?_
   refine aa_ ?_
   refine af_ ?_
   refine au_ v_ (Store.Wk.refl _) ?_
   exact .inl ⟨rfl, rfl, rfl⟩
theorem li_ {L1 L2 : List Sib} {t1 t2 tt : Bool} {σ : Store} (h1 : L1.length ≤ 10000000) (h2 : L2.length ≤ 10000000) :
  ai_ Tryz.prog 78 [.sl 1 [.sl 5 (L1.map sSib) t1, .sl 5 (L2.map sSib) t2] tt] σ fun v σ' => CBp σ σ' 5 ((L1 ++ L2).map sSib) v := by
 refine en_ Tryz.func78 Tryz.ntmps78 Tryz.results78 ?_
 refine rr_ ?_
 refine s_ ?_
 refine aa_ ?_
 refine rr_ ?_
 refine s_ ?_
 refine aa_ ?_
 refine ab_ ?_
 refine rr_ ?_
 iterate 3 refine s_ ?_
 refine aa_ ?_
 refine ag_ ?_
 refine ah_ (ι := Nat) (fun k => 2 - k) (fun k => k ≤ 2) (fun k => [(0, .sl 1 [.sl 5 (L1.map sSib) t1, .sl 5 (L2.map sSib) t2] tt), (3, vInt ((if k = 0 then 0 else if k = 1 then L1.length else L1.length + L2.length : Nat) : Int)), (9, .sl 1 [.sl 5 (L1.map sSib) t1, .sl 5 (L2.map sSib) t2] tt), (10, vInt 2), (11, vInt k)]) (fun k => σ) 0 ?_ ?_ ?_ ?_
 ·exact Nat.zero_le _
 ·exact cv_
 ·exact sub_
 rintro k hk
 simp only [ak_, am_]
 refine rr_ ?_
 refine s_ ?_
 refine aa_ ?_
 refine ab_ ?_
 refine cd_ (fun hc3 => ?_) (fun hc3 => ?_)
 ·refine ae_ ?_
  refine ab_ ?_
  refine ag_ ?_
  refine ab_ ?_
  rcases (show k = 0 ∨ k = 1 by omega) with rfl | rfl
  ·refine r_ ?_
   iterate 3 refine s_ ?_
   refine aa_ ?_
   refine rr_ ?_
   iterate 5 refine s_ ?_
   refine aa_ ?_
   refine rr_ ?_
   iterate 2 refine s_ ?_
   refine aa_ ?_
   refine cd_ (fun hc6 => ?_) (fun hc6 => ?_)
   ·omega
   ·refine ae_ ?_
    refine r_ ?_
    iterate 2 refine s_ ?_
    refine aa_ ?_
    refine aC_ (ι := Nat) (i := 0) 1 ?_ ?_ ?_ ?_
    ·decide
    ·decide
    ·have R := (show ((0 : Nat) : Int) + (L1.length : Int) = (L1.length : Int) from by omega); exact cv_
    ·exact sub_
  ·refine r_ ?_
   iterate 3 refine s_ ?_
   refine aa_ ?_
   refine rr_ ?_
   iterate 5 refine s_ ?_
   refine aa_ ?_
   refine rr_ ?_
   iterate 2 refine s_ ?_
   refine aa_ ?_
   refine cd_ (fun hc6 => ?_) (fun hc6 => ?_)
   ·omega
   ·refine ae_ ?_
    refine r_ ?_
    iterate 2 refine s_ ?_
    refine aa_ ?_
    refine aC_ (ι := Nat) (i := 1) 2 ?_ ?_ ?_ ?_
    ·decide
    ·decide
    ·exact cv_
    ·exact sub_
 ·refine an_ ?_
  refine ad_ ?_
  refine ad_ ?_
  refine aj_ ?_
  refine ab_ ?_
  obtain rfl : k = 2 := by omega
  refine r_ ?_
  refine s_ ?_
  refine x_ g_ va_ (pa_ (n := L1.length + L2.length) (by omega)) ?_; rintro _ τ0 hC0
  rename_i b0
  refine s_ ?_
  refine aa_ ?_
  refine ab_ ?_
  refine rr_ ?_
  iterate 3 refine s_ ?_
  refine aa_ ?_
  refine ag_ ?_
  refine ah_ (ι := Store × AVal × Nat) (fun ⟨τ, b, k⟩ => 2 - k) (fun ⟨τ, b, k⟩ => k ≤ 2 ∧ CBp σ τ 5 ((cbk L1 L2 k).map sSib) b) (fun ⟨τ, b, k⟩ => [(6, b), (25, .sl 1 [.sl 5 (L1.map sSib) t1, .sl 5 (L2.map sSib) t2] tt), (26, vInt 2), (27, vInt k)]) (fun ⟨τ, b, k⟩ => τ) (τ0, b0, 0) ?_ ?_ ?_ ?_
  ·exact ⟨Nat.zero_le _, hC0⟩
  ·exact cv_
  ·exact Store.Wk.refl _
  rintro ⟨τ, b, k⟩ ⟨hk, hC⟩
  simp only [ak_, am_]
  refine rr_ ?_
  refine s_ ?_
  refine aa_ ?_
  refine ab_ ?_
  refine cd_ (fun hc11 => ?_) (fun hc11 => ?_)
  ·refine ae_ ?_
   refine ab_ ?_
   refine ag_ ?_
   refine ab_ ?_
   rcases (show k = 0 ∨ k = 1 by omega) with rfl | rfl
   ·refine r_ ?_
    iterate 3 refine s_ ?_
    refine aa_ ?_
    refine r_ ?_
    iterate 2 refine s_ ?_
    refine aL_X rfl rfl (ce_ rfl g_ g_ hC va_ (jH_ _) va_ (mM_ _) (by simp [cbk]; omega) fun a' σ' hC' => ?_)
    refine s_ ?_
    refine aa_ ?_
    refine r_ ?_
    iterate 2 refine s_ ?_
    refine aa_ ?_
    refine aC_ (ι := Store × AVal × Nat) (i := (τ, b, 0)) (σ', a', 1) ?_ ?_ ?_ ?_
    ·show 2 - 1 < 2 - 0; decide
    ·exact ⟨by show 1 ≤ 2; decide, by simpa [cbk] using hC'⟩
    ·exact cv_
    ·exact Store.Wk.refl _
   ·refine r_ ?_
    iterate 3 refine s_ ?_
    refine aa_ ?_
    refine r_ ?_
    iterate 2 refine s_ ?_
    refine aL_X rfl rfl (ce_ rfl g_ g_ hC va_ (jH_ _) va_ (mM_ _) (by simp [cbk]; omega) fun a' σ' hC' => ?_)
    refine s_ ?_
    refine aa_ ?_
    refine r_ ?_
    iterate 2 refine s_ ?_
    refine aa_ ?_
    refine aC_ (ι := Store × AVal × Nat) (i := (τ, b, 1)) (σ', a', 2) ?_ ?_ ?_ ?_
    ·show 2 - 2 < 2 - 1; decide
    ·exact ⟨by show 2 ≤ 2; decide, by simpa [cbk] using hC'⟩
    ·exact cv_
    ·exact Store.Wk.refl _
  ·refine an_ ?_
   refine ad_ ?_
   refine ad_ ?_
   refine aj_ ?_
   refine ab_ ?_
   obtain rfl : k = 2 := by omega
   refine r_ ?_
   iterate 2 refine s_ ?_
   refine aa_ ?_
   refine af_ ?_
   refine au_ v_ (Store.Wk.refl _) ?_
   exact hC
def nJ_ (s : ByteArray) : Bool := decide (1 ≤ s.size) && decide (s.size ≤ 64)
def dy_ (l : List UInt8) : Int := Lib.indexByte l 47
def cutS (s : ByteArray) : ByteArray × ByteArray × Bool := if 0 ≤ dy_ (Lb s) then (s.extract 0 (dy_ (Lb s)).toNat, s.extract ((dy_ (Lb s)).toNat + 1) s.size, true) else (s, ⟨#[]⟩, false)
def da_ (s : ByteArray) : ByteArray × ByteArray × Bool := if (cutS s).2.2 = true ∧ bS_ (cutS s).1 = true ∧ nJ_ (cutS s).2.1 = true then ((cutS s).1, (cutS s).2.1, true) else (⟨#[]⟩, ⟨#[]⟩, false)
def aH_ (s : ByteArray) : Bool := (da_ s).2.2
theorem q9_ (l : List UInt8) : -1 ≤ dy_ l := Lib.indexByte_ge l 47
theorem e6_ (b : UInt8) (l : List UInt8) : dy_ (b :: l) = if b = 47 then 0 else if dy_ l = -1 then -1 else dy_ l + 1 := by
 have h : dy_ (b :: l) = if b == 47 then 0 else if dy_ l == -1 then -1 else dy_ l + 1 := rfl
 rw [h]
 simp only [beq_iff_eq]
theorem mx_ : ∀ (l : List UInt8), dy_ l < l.length
 |[] => by rw [show dy_ [] = -1 from rfl]; simp
 |b :: l => by
  have ih := mx_ l
  rw [e6_, List.length_cons]
  split
  ·omega
  ·split <;> omega
theorem mw_ : ∀ {l : List UInt8} {i : Nat}, l[i]? = some 47 → (∀ j c, j < i → l[j]? = some c → c ≠ 47) → dy_ l = i
 |[], i, h, _ => by simp at h
 |b :: l, 0, h, _ => by
  simp only [List.getElem?_cons_zero, Option.some.injEq] at h
  rw [e6_, if_pos h]; rfl
 |b :: l, i + 1, h, hj => by
  have hb : b ≠ 47 := hj 0 b (by omega) rfl
  have ih := mw_ (l := l) (i := i) h (fun j c hji hc => hj (j + 1) c (by omega) hc)
  rw [e6_, if_neg hb, ih, if_neg (by omega)]
  omega
theorem iJ_ : ∀ {l : List UInt8}, (∀ c ∈ l, c ≠ 47) → dy_ l = -1
 |[], _ => rfl
 |b :: l, h => by
  have hb := h b (.head _)
  have ih := iJ_ (l := l) fun c hc => h c (.tail _ hc)
  rw [e6_, if_neg hb, if_pos ih]
theorem w7_ {κ : K} {α : Operand → AVal} {x y : Operand} {ev : Operand → Value} {s : ByteArray} (hx : α x = vStr s) (hy : α y = .lit (.int .u8 47)) (h : ∀ z ∈ #[x, y], Rv κ (α z) (ev z)) : ∃ cv, (Extern.BytealgIndexByte.indexByte (#[x, y].map ev)).run Tryz.prog κ.w = .ok cv κ.w ∧ Rv κ (vInt (dy_ (Lb s))) cv := by
 have h1 := h x (by simp); have h2 := h y (by simp)
 rw [hx] at h1
 rw [hy] at h2
 refine ⟨_, ?_, .lit _⟩
 rw [show #[x, y].map ev = #[ev x, ev y] from by simp, h1.litInv, h2.litInv]
 exact Lib.run_indexByteString s 47 κ.w
theorem lw_ {s : ByteArray} {σ : Store} : ai_ Tryz.prog 260 [vStr s, .lit (.int .u8 47)] σ fun v σ' => v = vInt (dy_ (Lb s)) ∧ σ = σ' := by
 refine en_ Tryz.func260 Tryz.ntmps260 Tryz.results260 ?_
 refine rr_ ?_
 refine s_ ?_
 refine aa_ ?_
 refine rr_ ?_
 iterate 2 refine s_ ?_
 refine aL_X rfl rfl (dO_ rfl (e := Extern.BytealgIndexByte.indexByte) kr_ g_ (fun κ ev _ h => w7_ (s := s) va_ va_ h) ?_)
 refine s_ ?_
 refine aa_ ?_
 refine af_ ?_
 refine er_ σ ?_
 exact ⟨rfl, rfl⟩
theorem kU_ {s : ByteArray} {σ : Store} : ai_ Tryz.prog 221 [vStr s, vStr ⟨#[47]⟩] σ fun v σ' => v = vInt (dy_ (Lb s)) ∧ σ = σ' := by
 have hz : (ByteArray.mk #[47]).size = 1 := rfl
 have hb : (ByteArray.mk #[47])[0]? = some 47 := rfl
 refine en_ Tryz.func221 Tryz.ntmps221 Tryz.results221 ?_
 refine rr_ ?_
 refine s_ ?_
 refine aa_ ?_
 refine ab_ ?_
 have R := hz
 refine r_ ?_
 iterate 3 refine s_ ?_
 refine aa_ ?_
 refine ab_ ?_
 refine ag_ ?_
 refine rr_ ?_
 iterate 3 refine s_ ?_
 refine gf_ ?_
 refine gf_ ?_
 refine gf_ ?_
 iterate 2 refine s_ ?_
 refine aa_ ?_
 refine cd_ (fun hc2 => ?_) (fun hc2 => ?_)
 ·refine rr_ ?_
  refine s_ ?_
  refine aa_ ?_
  refine af_ ?_
  refine er_ σ ?_
  refine ⟨?_, rfl⟩
  have h1 : (ByteArray.mk #[47]) = s := by simpa using hc2
  rw [← h1]; rfl
 ·refine rr_ ?_
  iterate 3 refine s_ ?_
  refine aa_ ?_
  refine cd_ (fun hc4 => ?_) (fun hc4 => ?_)
  ·refine ab_ ?_
   have R := And.intro hb hz
   refine r_ ?_
   iterate 3 refine s_ ?_
   refine x_ g_ va_ (lw_) ?_; rintro _ _ ⟨rfl, rfl⟩
   refine s_ ?_
   refine aa_ ?_
   refine af_ ?_
   refine er_ σ ?_
   exact ⟨rfl, rfl⟩
  ·simp at hc4
theorem eh_ (s : ByteArray) : (dy_ (Lb s) = -1 ∧ cutS s = (s, ⟨#[]⟩, false)) ∨ ∃ k : Nat, dy_ (Lb s) = k ∧ k < s.size ∧ cutS s = (s.extract 0 k, s.extract (k + 1) s.size, true) := by
 have h1 := q9_ (Lb s); have h2 := mx_ (Lb s)
 rw [cr_] at h2
 by_cases h : 0 ≤ dy_ (Lb s)
 ·refine .inr ⟨(dy_ (Lb s)).toNat, by omega, by omega, ?_⟩
  rw [cutS, if_pos h]
 ·exact .inl ⟨by omega, by rw [cutS, if_neg h]⟩
theorem ub_ {s : ByteArray} {σ : Store} (hs : s.size ≤ 1000000000000) : ai_ Tryz.prog 168 [vStr s, vStr ⟨#[47]⟩] σ fun v σ' => v = .tup [vStr (cutS s).1, vStr (cutS s).2.1, vB (cutS s).2.2] ∧ σ = σ' := by
 have hz : (ByteArray.mk #[47]).size = 1 := rfl
 rcases eh_ s with ⟨he, hcut⟩ | ⟨k, he, hk, hcut⟩
 refine en_ Tryz.func168 Tryz.ntmps168 Tryz.results168 ?_
 refine rr_ ?_
 iterate 3 refine s_ ?_
 refine aa_ ?_
 refine ab_ ?_
 refine rr_ ?_
 iterate 2 refine s_ ?_
 refine x_ g_ va_ (kU_) ?_; rintro _ _ ⟨rfl, rfl⟩
 refine s_ ?_
 refine aa_ ?_
 refine ab_ ?_
 have R := he
 refine r_ ?_
 iterate 2 refine s_ ?_
 refine aa_ ?_
 refine cd_ (fun hc2 => ?_) (fun hc2 => ?_)
 ·first | exact absurd hc2 (by omega) | exact absurd hc2 (by decide) | (revert hc2; decide)
 ·refine ae_ ?_
  refine rr_ ?_
  iterate 4 refine s_ ?_
  refine aa_ ?_
  refine af_ ?_
  refine er_ σ ?_
  exact ⟨by rw [hcut], rfl⟩
 refine en_ Tryz.func168 Tryz.ntmps168 Tryz.results168 ?_
 refine rr_ ?_
 iterate 3 refine s_ ?_
 refine aa_ ?_
 refine ab_ ?_
 refine rr_ ?_
 iterate 2 refine s_ ?_
 refine x_ g_ va_ (kU_) ?_; rintro _ _ ⟨rfl, rfl⟩
 refine s_ ?_
 refine aa_ ?_
 refine ab_ ?_
 have R := he
 refine r_ ?_
 iterate 2 refine s_ ?_
 refine aa_ ?_
 refine cd_ (fun hc2 => ?_) (fun hc2 => ?_)
 ·refine ab_ ?_
  have R := And.intro he hz
  refine ap_ (.op 0 0 (.op 1 0 (.op 2 0 (.op 3 0 (.op 4 0 (.op 5 0 (.op 6 0 (.op 7 0 (.op 8 0 (.op 9 0 (.op 10 0 (.op 11 0 .nil)))))))))))) Tryz.mixed kr_ ?_
  iterate 12 refine ds_ ?_
  refine aB_ ?_
  refine af_ ?_
  refine er_ σ ?_
  refine ⟨?_, rfl⟩
  have htn : ((k : Int) + ((1 : Nat) : Int)).toNat = k + 1 := by omega
  rw [hcut, htn]
 ·exact absurd hc2 (by omega)
theorem w1_ {s : ByteArray} {σ : Store} (hs : s.size ≤ 1000000000000) : ai_ Tryz.prog 112 [vStr s, vStr ⟨#[47]⟩] σ fun v σ' => v = .tup [vStr (cutS s).1, vStr (cutS s).2.1, vB (cutS s).2.2] ∧ σ = σ' := by
 refine en_ Tryz.func112 Tryz.ntmps112 Tryz.results112 ?_
 refine rr_ ?_
 iterate 3 refine s_ ?_
 refine aa_ ?_
 refine rr_ ?_
 iterate 2 refine s_ ?_
 refine x_ g_ va_ (ub_ hs) ?_; rintro _ _ ⟨rfl, rfl⟩
 iterate 6 refine s_ ?_
 refine aa_ ?_
 refine af_ ?_
 refine er_ σ ?_
 exact ⟨rfl, rfl⟩
theorem ts_ {s : ByteArray} {σ : Store} (hs : s.size ≤ 1000000000000) : ai_ Tryz.prog 114 [vStr s] σ fun v σ' => v = vB (nJ_ s) ∧ σ = σ' := by
 have h0 : s = ⟨#[]⟩ ↔ s.size = 0 := ⟨fun h => by rw [h]; rfl, fun h => by apply ByteArray.ext; exact Array.eq_empty_of_size_eq_zero h⟩
 refine en_ Tryz.func114 Tryz.ntmps114 Tryz.results114 ?_
 refine rr_ ?_
 refine s_ ?_
 refine aa_ ?_
 refine ab_ ?_
 have R := h0
 refine r_ ?_
 iterate 3 refine s_ ?_
 refine gt_ ?_
 refine gt_ ?_
 refine gt_ ?_
 iterate 2 refine s_ ?_
 refine aa_ ?_
 refine af_ ?_
 refine er_ σ ?_
 refine ⟨?_, rfl⟩
 unfold nJ_
 by_cases h1 : s.size = 0 <;> by_cases h2 : s.size ≤ 64 <;> simp [h1, h2, h0] <;> omega
theorem rt_ {s : ByteArray} {σ : Store} (hs : s.size ≤ 1000000000000) : ai_ Tryz.prog 116 [vStr s] σ fun v σ' => v = vB (nJ_ s) ∧ σ = σ' := by
 refine en_ Tryz.func116 Tryz.ntmps116 Tryz.results116 ?_
 refine rr_ ?_
 refine s_ ?_
 refine aa_ ?_
 refine rr_ ?_
 iterate 4 refine s_ ?_
 refine gt_ ?_
 refine gt_ ?_
 refine gt_ ?_
 iterate 2 refine s_ ?_
 refine aa_ ?_
 refine af_ ?_
 refine er_ σ ?_
 refine ⟨?_, rfl⟩
 unfold nJ_
 by_cases h1 : 1 ≤ s.size <;> by_cases h2 : s.size ≤ 64 <;> simp [h1, h2] <;> omega
theorem oR_ (s : ByteArray) : (cutS s).1.size ≤ s.size ∧ (cutS s).2.1.size ≤ s.size := by
 rcases eh_ s with ⟨he, hcut⟩ | ⟨k, he, hk, hcut⟩
 ·rw [hcut]; exact ⟨Nat.le_refl _, Nat.zero_le _⟩
 ·rw [hcut]
  simp only [ByteArray.size_extract]
  omega
theorem qa_ {s : ByteArray} {σ : Store} (hs : s.size ≤ 1000000000000) : ai_ Tryz.prog 53 [vStr s] σ fun v σ' => v = .tup [vStr (da_ s).1, vStr (da_ s).2.1, vB (da_ s).2.2] ∧ σ = σ' := by
 obtain ⟨z1, z2⟩ := oR_ s
 refine en_ Tryz.func53 Tryz.ntmps53 Tryz.results53 ?_
 refine rr_ ?_
 iterate 3 refine s_ ?_
 refine aa_ ?_
 refine rr_ ?_
 refine s_ ?_
 refine x_ g_ va_ (w1_ hs) ?_; rintro _ _ ⟨rfl, rfl⟩
 iterate 7 refine s_ ?_
 refine aa_ ?_
 refine ab_ ?_
 refine rr_ ?_
 iterate 3 refine s_ ?_
 refine gf_ ?_
 refine bt_ rfl rfl v_ rfl (fun hb => av_ (by rfl) (by rfl) (.inr ⟨by rfl, by rfl, by rfl⟩) g_ cg_ (jo_ (by omega))) ?_
 refine gf_ ?_
 iterate 2 refine s_ ?_
 refine gf_ ?_
 refine bt_ rfl rfl v_ rfl (fun hb => av_ (by rfl) (by rfl) (.inr ⟨by rfl, by rfl, by rfl⟩) g_ cg_ (ts_ (by omega))) ?_
 refine gf_ ?_
 refine s_ ?_
 refine aa_ ?_
 refine cd_ (fun hc2 => ?_) (fun hc2 => ?_)
 ·refine rr_ ?_
  iterate 3 refine s_ ?_
  refine aa_ ?_
  refine af_ ?_
  refine er_ σ ?_
  refine ⟨?_, rfl⟩
  rw [da_, if_neg (fun ⟨q1, q2, q3⟩ => by rcases hc2 with (h | h) | h <;> simp_all)]
 ·refine ae_ ?_
  refine rr_ ?_
  iterate 5 refine s_ ?_
  refine aa_ ?_
  refine af_ ?_
  refine er_ σ ?_
  refine ⟨?_, rfl⟩
  rw [da_, if_pos (by simpa [and_assoc] using hc2)]
theorem eP_ {s : ByteArray} {σ : Store} (hs : s.size ≤ 1000000000000) : ai_ Tryz.prog 86 [vStr s] σ fun v σ' => v = vB (aH_ s) ∧ σ = σ' := by
 refine en_ Tryz.func86 Tryz.ntmps86 Tryz.results86 ?_
 refine rr_ ?_
 refine s_ ?_
 refine aa_ ?_
 refine rr_ ?_
 refine s_ ?_
 refine x_ g_ va_ (qa_ hs) ?_; rintro _ _ ⟨rfl, rfl⟩
 iterate 7 refine s_ ?_
 refine aa_ ?_
 refine rr_ ?_
 iterate 2 refine s_ ?_
 refine aa_ ?_
 refine af_ ?_
 refine er_ σ ?_
 exact ⟨rfl, rfl⟩
theorem mY_ {s : ByteArray} {σ : Store} (hs : s.size ≤ 1000000000000) : ai_ Tryz.prog 54 [vStr s] σ fun v σ' => v = .tup [vStr (da_ s).1, vStr (da_ s).2.1, vB (da_ s).2.2] ∧ σ = σ' := by
 refine en_ Tryz.func54 Tryz.ntmps54 Tryz.results54 ?_
 refine rr_ ?_
 iterate 3 refine s_ ?_
 refine aa_ ?_
 refine ab_ ?_
 refine rr_ ?_
 refine s_ ?_
 refine aa_ ?_
 refine ag_ ?_
 refine ah_ (ι := Nat) (fun p => s.size - p) (fun p => p ≤ s.size ∧ ∀ j c, j < p → (Lb s)[j]? = some c → c ≠ 47) (fun p => [(0, vStr s), (5, vInt p)]) (fun p => σ) 0 ?_ ?_ ?_ ?_
 ·exact ⟨Nat.zero_le _, fun j c h => absurd h (by omega)⟩
 ·exact cv_
 ·exact sub_
 rintro p ⟨hp, ha⟩
 simp only [ak_, am_]
 refine ab_ ?_
 refine rr_ ?_
 iterate 4 refine s_ ?_
 refine aa_ ?_
 refine cd_ (fun hc2 => ?_) (fun hc2 => ?_)
 ·refine ae_ ?_
  refine ab_ ?_
  refine ag_ ?_
  refine ab_ ?_
  have hp' : p < s.size := by omega
  have hg := l2_ hp'
  have hg2 : s[p]? = some (s[p]'hp') := getElem?_pos s p hp'
  obtain ⟨c, hc⟩ : ∃ c, s[p]'hp' = c := ⟨_, rfl⟩
  rw [hc] at hg hg2
  have R := hg2
  refine r_ ?_
  iterate 4 refine s_ ?_
  refine aa_ ?_
  refine cd_ (fun hc4 => ?_) (fun hc4 => ?_)
  ·skip
   have h47 : c = 47 := by
    have h' : c.toNat = 47 := by omega
    exact UInt8.toNat_inj.1 (by rw [h']; rfl)
   have he := mw_ (h47 ▸ hg) ha
   have hcut : cutS s = (s.extract 0 p, s.extract (p + 1) s.size, true) := by
    rcases eh_ s with ⟨h1, h2⟩ | ⟨k, h1, h2, h3⟩
    ·rw [h1] at he; omega
    ·have : k = p := by rw [h1] at he; omega
     rw [h3, this]
   refine ab_ ?_
   refine rr_ ?_
   iterate 3 refine s_ ?_
   refine x_ g_ va_ (tM_ (by simp only [ByteArray.size_extract]; omega)) ?_; rintro _ _ ⟨rfl, rfl⟩
   refine s_ ?_
   refine gt_ ?_
   refine gt_ ?_
   refine gt_ ?_
   refine gt_ ?_
   refine cE_ rfl rfl v_ rfl (fun hb => av_ (by rfl) (by rfl) (.inr ⟨by rfl, by rfl, by rfl⟩) g_ cg_ (rt_ (by simp only [ByteArray.size_extract]; omega))) ?_
   refine s_ ?_
   refine aa_ ?_
   refine cd_ (fun hc5 => ?_) (fun hc5 => ?_)
   ·refine ab_ ?_
    refine ap_ (.op 0 0 (.op 1 0 (.op 2 0 (.op 3 0 (.op 4 0 (.op 5 0 (.op 6 0 (.op 7 0 (.op 8 0 (.op 9 0 .nil)))))))))) Tryz.mixed kr_ ?_
    iterate 10 refine ds_ ?_
    refine aB_ ?_
    refine af_ ?_
    refine er_ σ ?_
    refine ⟨?_, rfl⟩
    have htn : ((p : Int) + 1).toNat = p + 1 := by omega
    rw [htn] at hc5 ⊢
    rw [da_, hcut, if_pos (by simpa using hc5)]
   ·refine ae_ ?_
    refine rr_ ?_
    iterate 3 refine s_ ?_
    refine aa_ ?_
    refine af_ ?_
    refine er_ σ ?_
    refine ⟨?_, rfl⟩
    have htn : ((p : Int) + 1).toNat = p + 1 := by omega
    rw [htn] at hc5
    rw [da_, hcut, if_neg (fun ⟨q1, q2, q3⟩ => by rcases hc5 with h | h <;> simp_all)]
  ·skip
   have hnx : ∀ j d, j < p + 1 → (Lb s)[j]? = some d → d ≠ 47 := by
    intro j d hj hd e
    by_cases hjp : j = p
    ·rw [hjp, hg] at hd
     obtain rfl : c = d := by simpa using hd
     rw [e] at hc4; exact hc4 rfl
    ·exact ha j d (by omega) hd e
   refine ae_ ?_
   refine r_ ?_
   iterate 3 refine s_ ?_
   refine aa_ ?_
   refine aC_ (ι := Nat) (i := p) (p + 1) ?_ ?_ ?_ ?_
   ·omega
   ·exact ⟨by omega, hnx⟩
   ·exact cv_
   ·exact sub_
 ·refine an_ ?_
  refine ad_ ?_
  refine ad_ ?_
  refine aj_ ?_
  refine rr_ ?_
  iterate 3 refine s_ ?_
  refine aa_ ?_
  refine af_ ?_
  refine er_ σ ?_
  refine ⟨?_, rfl⟩
  have he : dy_ (Lb s) = -1 := iJ_ fun c hc => by
   obtain ⟨j, hj⟩ := List.mem_iff_getElem?.1 hc
   have := (List.getElem?_eq_some_iff.1 hj).1
   rw [cr_] at this
   exact ha j c (by omega) hj
  have hcut : cutS s = (s, ⟨#[]⟩, false) := by rw [cutS, if_neg (by omega)]
  rw [da_, hcut, if_neg (by simp)]
theorem cO_ {s : ByteArray} {σ : Store} (hs : s.size ≤ 1000000000000) : ai_ Tryz.prog 39 [vStr s] σ fun v σ' => v = vB (aH_ s) ∧ σ = σ' := by
 refine en_ Tryz.func39 Tryz.ntmps39 Tryz.results39 ?_
 refine rr_ ?_
 refine s_ ?_
 refine aa_ ?_
 refine rr_ ?_
 refine s_ ?_
 refine x_ g_ va_ (mY_ hs) ?_; rintro _ _ ⟨rfl, rfl⟩
 iterate 7 refine s_ ?_
 refine aa_ ?_
 refine rr_ ?_
 iterate 2 refine s_ ?_
 refine aa_ ?_
 refine af_ ?_
 refine er_ σ ?_
 exact ⟨rfl, rfl⟩
end Go.Proofs.YtcaflcpcbcneiaaGreat
end

section
set_option linter.all false
set_option maxRecDepth 100000
namespace Go.Ab
structure Leaf where
 place : ByteArray
 digest : ByteArray
structure Itm where
 place : ByteArray
 obj : Obj'
structure Ent where
 key : ByteArray
 n : Int
 who : ByteArray
 value : ByteArray
structure Msg where
 kind : Int
 frm : ByteArray
 to : ByteArray
 num : Int
 err : Int
 place : ByteArray
 obj : Obj'
 texts : List ByteArray
 leaves : List Leaf
 items : List Itm
 ents : List Ent
@[reducible] def xm_ (x : Leaf) : AVal := .agg [.lit (.string x.place), .lit (.string x.digest)]
@[reducible] def aD_ (x : Itm) : AVal := .agg [.lit (.string x.place), .sl 3 (x.obj.ctx.map az_) false, .sl 5 (x.obj.sibs.map sSib) false]
@[reducible] def sEnt (x : Ent) : AVal := .agg [.lit (.string x.key), vInt x.n, .lit (.string x.who), .lit (.string x.value)]
@[reducible] def sMsg (m : Msg) : AVal := .agg [vInt m.kind, .lit (.string m.frm), .lit (.string m.to), vInt m.num, vInt m.err, .lit (.string m.place), .sl 3 (m.obj.ctx.map az_) false, .sl 5 (m.obj.sibs.map sSib) false, .sl 1 (m.texts.map vStr) false, .sl 2 (m.leaves.map xm_) false, .sl 3 (m.items.map aD_) false, .sl 4 (m.ents.map sEnt) false]
end Go.Ab
namespace Go.Proofs.YtcaflcpcbcneiaaGreat
open Go.Ab
def w9_ (x : Leaf) : List UInt8 := a9_ x.place ++ a9_ x.digest
def vt_ (x : Itm) : List UInt8 := a9_ x.place ++ objB x.obj
def entB (x : Ent) : List UInt8 := a9_ x.key ++ beI 8 x.n ++ a9_ x.who ++ a9_ x.value
structure LeafSm (x : Leaf) : Prop where
 place : x.place.size ≤ 1000000
 digest : x.digest.size ≤ 1000000
structure ItemSm (x : Itm) : Prop where
 place : x.place.size ≤ 1000000
 obj : ObjSm x.obj
structure EntSm (x : Ent) : Prop where
 key : x.key.size ≤ 1000000
 who : x.who.size ≤ 1000000
 value : x.value.size ≤ 1000000
structure MsgSm (m : Msg) : Prop where
 frm : m.frm.size ≤ 1000000
 to : m.to.size ≤ 1000000
 place : m.place.size ≤ 1000000
 obj : ObjSm m.obj
 texts : ∀ x ∈ m.texts, x.size ≤ 1000000
 leaves : ∀ x ∈ m.leaves, LeafSm x
 items : ∀ x ∈ m.items, ItemSm x
 ents : ∀ x ∈ m.ents, EntSm x
 nt : m.texts.length ≤ 1000
 nl : m.leaves.length ≤ 1000
 ni : m.items.length ≤ 1000
 li : (m.items.flatMap vt_).length ≤ 260000000000
 ne : m.ents.length ≤ 5000
theorem jr_ {x : Obj'} (hx : ObjSm x) : (objB x).length ≤ 12000000000 := by
 have h1 := hB_ hx.ctx hx.nc
 have h2 := jD_ hx.sibs hx.ns
 simp only [objB, ctxB, dd_, List.length_append, ay_]; omega
structure MsgLn (m : Msg) : Prop where
 texts : (m.texts.flatMap a9_).length ≤ 1100000000
 leaves : (m.leaves.flatMap w9_).length ≤ 2100000000
 items : (m.items.flatMap vt_).length ≤ 260000000000
 ents : (m.ents.flatMap entB).length ≤ 16000000000
 obj : (objB m.obj).length ≤ 12000000000
theorem qq_ {o : Nat} {l : List UInt8} {L : List ByteArray} {t : Bool} {σ : Store} (ho : WR σ o l) (hs : ∀ x ∈ L, x.size ≤ 1000000) (hL : l.length + 4 + (L.flatMap a9_).length ≤ 999999999000) (hLb : L.length ≤ 1000000) :
  ai_ Tryz.prog 170 [.ref o 0, .sl 1 (L.map vStr) t] σ fun v σ' => v = .tup [] ∧ WR σ' o (l ++ dd_ a9_ L) ∧ WF o σ σ' := by
 refine en_ Tryz.func170 Tryz.ntmps170 Tryz.results170 ?_
 refine rr_ ?_
 iterate 3 refine s_ ?_
 refine x_ g_ va_ (d4_ (n := (L.length : Int)) ho (by omega)) ?_; rintro _ τ0 ⟨rfl, g1, g2⟩
 refine aa_ ?_
 refine rr_ ?_
 iterate 3 refine s_ ?_
 refine aa_ ?_
 refine ag_ ?_
 refine ah_ (ι := Store × Nat) (fun ⟨τ, i⟩ => L.length - i) (fun ⟨τ, i⟩ => i ≤ L.length ∧ WR τ o (l ++ beI 4 L.length ++ (L.take i).flatMap a9_) ∧ WF o σ τ) (fun ⟨τ, i⟩ => [(0, .ref o 0), (10, .sl 1 (L.map vStr) t), (11, vInt L.length), (12, vInt i)]) (fun ⟨τ, i⟩ => τ) (τ0, 0) ?_ ?_ ?_ ?_
 ·exact ⟨Nat.zero_le _, by simpa using g1, g2⟩
 ·exact cv_
 ·exact Store.Wk.refl _
 rintro ⟨τ, i⟩ ⟨h1, h2, h3⟩
 simp only [ak_, am_]
 refine rr_ ?_
 refine s_ ?_
 refine aa_ ?_
 refine ab_ ?_
 refine cd_ (fun hc2 => ?_) (fun hc2 => ?_)
 ·refine ae_ ?_
  refine ab_ ?_
  refine ag_ ?_
  refine ab_ ?_
  obtain ⟨x, hx⟩ : ∃ x, L[i]? = some x := ⟨L[i]'(by omega), List.getElem?_eq_getElem _⟩
  have hle := bi_ (f := a9_) L (i + 1)
  rw [a0_ hx, List.length_append, aP_] at hle
  have hxm := hs x (List.mem_of_getElem? hx)
  have R := hx
  refine r_ ?_
  iterate 3 refine s_ ?_
  refine aa_ ?_
  refine r_ ?_
  iterate 2 refine s_ ?_
  refine x_ g_ va_ (gh_ h2 (by rw [List.length_append, List.length_append, ay_]; omega) (by omega)) ?_; rintro _ υ ⟨rfl, u1, u2⟩
  refine aa_ ?_
  refine r_ ?_
  iterate 2 refine s_ ?_
  refine aa_ ?_
  refine aC_ (ι := Store × Nat) (i := ⟨τ, i⟩) (υ, i + 1) ?_ ?_ ?_ ?_
  ·show L.length - (i + 1) < L.length - i; omega
  ·exact ⟨by show i + 1 ≤ L.length; omega, by rw [a0_ hx, ← List.append_assoc]; exact u1, WF.trans h3 u2⟩
  ·exact cv_
  ·exact Store.Wk.refl _
 ·refine an_ ?_
  refine ad_ ?_
  refine ad_ ?_
  refine aj_ ?_
  refine bz_ v_ (Store.Wk.refl _) ?_
  exact ⟨rfl, by rw [dd_, ← List.append_assoc]; rwa [List.take_of_length_le (by omega)] at h2, h3⟩
end Go.Proofs.YtcaflcpcbcneiaaGreat
end

section
set_option linter.all false
namespace Go.Ab
open Go.RowKit (Below)
open Go.Shelf Go.Proofs
section
variable {P : Program} {σ : Store}
def rowed (w : World) (n b : Nat) (f : Array Value → Array Value) (os : Array Obj) : World := Sort.grow (Sort.mapBlock (Sort.ahead w n) b f) os
theorem de_ (w : World) (n : Nat) {b b' : Nat} (f : Array Value → Array Value) (os : Array Obj) (h : b' ≠ b) (hlt : b' < w.heap.size) : (rowed w n b f os).heap[b']? = w.heap[b']? := by
 unfold rowed Sort.grow Sort.mapBlock Sort.ahead
 dsimp only
 rw [Array.getElem?_append_left (by simpa using hlt), Array.getElem?_modify, if_neg (Ne.symm h)]
theorem n0_ {w : World} (n : Nat) {b : Nat} (f : Array Value → Array Value) (os : Array Obj) {c : Array Value} {e : TypeId} {fr : Nat × Nat} (h : w.heap[b]? = some (.cells c e fr)) : (rowed w n b f os).heap[b]? = some (.cells (f c) e fr) := by
 have hlt : b < w.heap.size := (Array.getElem?_eq_some_iff.1 h).1
 unfold rowed Sort.grow Sort.mapBlock Sort.ahead
 dsimp only
 rw [Array.getElem?_append_left (by simpa using hlt), Array.getElem?_modify, if_pos rfl, h]
 rfl
theorem Inv.rowed {κ : K} (h : Inv κ σ) {o : Nat} {cs cs' : List AVal} (ho : σ.heap o = some (.cells cs)) {b : Nat} (hb : κ.ρ o = some b) (n : Nat) (f : Array Value → Array Value) (os : Array Obj) (hf : ∀ c, (f c).size = c.size)
  (hv : ∀ c : Array Value, cs.length ≤ c.size → (∀ i (hi : i < cs.length), Rv κ cs[i] (c.getD i undef)) → cs'.length ≤ c.size ∧ ∀ i (hi : i < cs'.length), Rv κ cs'[i] ((f c).getD i undef)) :
  κ.Le { κ with w := Ab.rowed κ.w n b f os } ∧ Inv { κ with w := Ab.rowed κ.w n b f os } (σ.set o (.cells cs')) := by
 obtain ⟨b', hb', hbase, hIb, c, e, hheap, hlen, hR⟩ := h.heap o _ ho
 rw [hb] at hb'
 obtain rfl := Option.some.inj hb'
 have hlt : b < κ.w.heap.size := (Array.getElem?_eq_some_iff.1 hheap).1
 have hnew := n0_ n f os hheap
 have hle : κ.Le { κ with w := Ab.rowed κ.w n b f os } := by
  refine ⟨rfl, ⟨rfl, rfl, rfl, by simp [Ab.rowed, Sort.grow, Sort.mapBlock, Sort.ahead], fun k hk => ?_⟩, fun b' s e' => ?_, fun _ _ e' => e', fun _ _ e' => e', fun _ => Nat.le_refl _, fun b' off' u hi e' => ?_, by simp [Ab.rowed, Sort.grow, Sort.mapBlock, Sort.ahead]⟩
  ·exact de_ _ _ _ _ (by omega) (by omega)
  ·by_cases hbb : b' = b
   ·subst hbb
    unfold World.shape? at e' ⊢
    rw [hheap] at e'
    dsimp only
    rw [hnew]
    simpa [hf] using e'
   ·have hlt' : b' < κ.w.heap.size := by
     unfold World.shape? at e'
     cases hq : κ.w.heap[b']? with
     |none => rw [hq] at e'; cases e'
     |some q => exact (Array.getElem?_eq_some_iff.1 hq).1
    unfold World.shape? at e' ⊢
    dsimp only
    rw [de_ _ _ _ _ hbb hlt']; exact e'
  ·have hne : b' ≠ b := fun hh' => by rw [hh', hIb] at hi; omega
   have hlt' : b' < κ.w.heap.size := by
    unfold World.cell? at e'
    cases hq : κ.w.heap[b']? with
    |none => rw [hq] at e'; cases e'
    |some q => exact (Array.getElem?_eq_some_iff.1 hq).1
   simp only [World.cell?] at e' ⊢
   rw [de_ _ _ _ _ hne hlt']; exact e'
 obtain ⟨h1, h2⟩ := hv c hlen hR
 have big : κ.w.heap.size ≤ (Ab.rowed κ.w n b f os).heap.size := hle.below.size
 refine ⟨hle, ?_⟩
 refine h.step hle rfl rfl h.frO b hbase hIb (fun b' hne hl' => de_ _ _ _ _ hne hl') o _ (fun _ _ => rfl) hb ⟨f c, e, hnew, by rw [hf]; exact h1, fun i hi => (h2 i hi).mono hle⟩ ?_ ?_
 ·intro j z hz hne hh'
  exact hne (h.inj j o _ _ b hz ho hh' hb)
 ·intro t sz u ht hu hh'
  exact h.tokobj t sz u b o _ ht hu hh' ho hb
theorem jl_ {α : Type} [Inhabited α] {κ : K} (enc : α → Value) (d : Array α) {b : Nat} {c : Array Value} {e : TypeId} (hh : κ.w.heap[b]? = some (.cells c e (0, 0))) (hl : d.size ≤ c.size) (h : ∀ j, j < d.size → c.getD j undef = enc d[j]!) : Sort.Holds enc κ.w b 0 d := by
 intro j hj
 refine ⟨?_, by simp [World.frozen?, hh]⟩
 have h1 := h j hj
 simp only [World.cell?, hh, Nat.zero_add]
 rw [← h1]
 simp [show j < c.size by omega]
theorem el_ {α : Type} [Inhabited α] (enc : α → Value) (off : Nat) (d : Array α) (c : Array Value) : (Sort.putCells enc off d c).size = c.size := by simp [Sort.putCells]
theorem fy_ {α : Type} [Inhabited α] (enc : α → Value) (d : Array α) (c : Array Value) (j : Nat) (hj : j < d.size) (hc : d.size ≤ c.size) : (Sort.putCells enc 0 d c).getD j undef = enc d[j]! := by
 simp [Sort.putCells, show j < c.size by omega, hj]
theorem Rv.mslInv {κ : K} {o sz off len : Nat} {v : Value} (h : Rv κ (.msl o sz off len) v) : ∃ b cap, v = .slice (some ⟨b, off, none⟩) len cap ∧ κ.ρ o = some b := by
 cases h with
 |msl _ _ _ _ b cap n e hb hlen hs hn => exact ⟨b, cap, rfl, hb⟩
theorem ju_ {κ κ' : K} {σ : Store} (hle : κ.Le κ') (hI : Inv κ' σ) {Kk : AVal → Store → Prop} (hk : Kk (.tup []) σ) : Post κ Kk (.tuple #[]) κ'.w :=
 ⟨κ', .tup [], σ, rfl, hle, hI, .tup [] #[] rfl (fun i hi => by simp at hi), hk⟩
theorem ne_ {α : Type} [Inhabited α] (enc : α → Value) {f : FuncId} {o : Nat} (zs zs' : List α) (hlen : zs'.length = zs.length) (ho : σ.heap o = some (.cells (zs.map fun z => .lit (enc z)))) (extra : List AVal) (ev : List Value)
  (h : ∀ (b cap : Nat) (w : World), Sort.Holds enc w b 0 zs.toArray → b < w.heap.size → Calls P f (#[.slice (some ⟨b, 0, none⟩) zs.length cap] ++ ev.toArray) w fun e w' => e = .returned (.tuple #[]) ∧ ∃ n os, w' = Sort.grow (Sort.putRow enc (Sort.ahead w n) b 0 zs'.toArray) os)
  (he : extra = ev.map .lit) : ai_ P f (.msl o 1 0 zs.length :: extra) σ fun v σ' => v = .tup [] ∧ σ' = σ.set o (.cells (zs'.map fun z => .lit (enc z))) := by
 intro κ vs hI hn hv
 subst he
 obtain ⟨b, cap, e0, hb⟩ := (hv 0 (by simp)).mslInv
 have hvs : vs = #[.slice (some ⟨b, 0, none⟩) zs.length cap] ++ ev.toArray := by
  apply Array.ext (by simpa [Nat.add_comm] using hn)
  intro i h1 h2
  have hi : i < (AVal.msl o 1 0 zs.length :: ev.map .lit).length := by rw [← hn]; exact h1
  have hr := hv i hi
  have eg : vs.getD i undef = vs[i] := by simp [h1]
  rw [eg] at hr
  cases i with
  |zero => rw [← eg, e0]; simp
  |succ i =>
   simp only [List.getElem_cons_succ, List.getElem_map] at hr
   rw [hr.litInv]
   simp [Array.getElem_append]
 obtain ⟨b', hb', hbase, hIb, c, e, hheap, hlen', hR⟩ := hI.heap o _ ho
 rw [hb] at hb'
 obtain rfl := Option.some.inj hb'
 have hlt : b < κ.w.heap.size := (Array.getElem?_eq_some_iff.1 hheap).1
 have hH : Sort.Holds enc κ.w b 0 zs.toArray := jl_ enc zs.toArray hheap (by simpa using hlen') fun j hj => by
  have hj' : j < zs.length := by simpa using hj
  have h1 := hR j (by simpa using hj')
  simp only [List.getElem_map] at h1
  rw [h1.litInv]
  simp [hj']
 rw [hvs]
 refine (h b cap κ.w hH hlt).mono fun ex w' ⟨he, n, os, hw⟩ => ⟨_, he, ?_⟩
 have key := hI.rowed ho hb n (Sort.putCells enc 0 zs'.toArray) os (fun c => el_ enc 0 _ c) (cs' := zs'.map fun z => .lit (enc z)) (fun c hc _ => ⟨by simpa [hlen] using hc, fun i hi => by
  have hi' : i < zs'.length := by simpa using hi
  rw [fy_ enc zs'.toArray c i (by simpa using hi') (by simp at hc ⊢; omega)]
  simp [hi']
  exact .lit _⟩)
 rw [hw]
 exact ju_ (κ' := { κ with w := Ab.rowed κ.w n b (Sort.putCells enc 0 zs'.toArray) os }) key.1 key.2 ⟨rfl, rfl⟩
end
end Go.Ab
end

section
set_option linter.all false
set_option maxRecDepth 100000
namespace Go.Proofs
open Go.Shelf
def p5_ : Go.Shelf.Ren := ⟨(fun n => match n with | 125 => 140 | 128 => 200 | 129 => 201 | 189 => 186 | 215 => 240 | 216 => 281 | 257 => 237 | 294 => 275 | 295 => 276 | 296 => 277 | 297 => 278 | 298 => 279 | 299 => 280 | 300 => 282 | 301 => 283 | 328 => 294 | 329 => 243 | 330 => 244 | 331 => 295 | 332 => 296 | 343 => 299 | _ => 0), (fun n => match n with | 0 => 0 | 3 => 3 | 4 => 4 | 5 => 5 | 9 => 9 | 28 => 94 | 46 => 137 | 51 => 203 | 53 => 205 | 131 => 152 | 182 => 196 | 183 => 197 | 218 => 240 | 222 => 244 | 228 => 273 | 229 => 274 | _ => 0), (fun n => match n with  | _ => 0)⟩
theorem wa_ : Lays.n189 Tryz.prog p5_ := {
 mixed := Tryz.mixed
 f125 := by kernel_rfl
 f128 := by kernel_rfl
 f129 := by kernel_rfl
 f189 := by kernel_rfl
 f215 := by kernel_rfl
 f216 := by kernel_rfl
 f257 := by kernel_rfl
 f294 := by kernel_rfl
 f295 := by kernel_rfl
 f296 := by kernel_rfl
 f297 := by kernel_rfl
 f298 := by kernel_rfl
 f299 := by kernel_rfl
 f300 := by kernel_rfl
 f301 := by kernel_rfl
 f328 := by kernel_rfl
 f329 := by kernel_rfl
 f330 := by kernel_rfl
 f331 := by kernel_rfl
 f332 := by kernel_rfl
 f343 := by kernel_rfl
 t0 := Tryz.underlying0
 a0 := Tryz.isAgg0
 z0 := Tryz.sizeOf0
 v0 := Tryz.zeroValue0
 t3 := Tryz.underlying3
 a3 := Tryz.isAgg3
 z3 := Tryz.sizeOf3
 v3 := Tryz.zeroValue3
 t4 := Tryz.underlying4
 a4 := Tryz.isAgg4
 z4 := Tryz.sizeOf4
 v4 := Tryz.zeroValue4
 t5 := Tryz.underlying5
 a5 := Tryz.isAgg5
 z5 := Tryz.sizeOf5
 v5 := Tryz.zeroValue5
 t9 := Tryz.underlying9
 a9 := Tryz.isAgg9
 z9 := Tryz.sizeOf9
 v9 := Tryz.zeroValue9
 t28 := Tryz.underlying94
 a28 := Tryz.isAgg94
 z28 := Tryz.sizeOf94
 v28 := Tryz.zeroValue94
 t46 := Tryz.underlying137
 a46 := Tryz.isAgg137
 z46 := Tryz.sizeOf137
 v46 := Tryz.zeroValue137
 t51 := Tryz.underlying203
 a51 := Tryz.isAgg203
 z51 := Tryz.sizeOf203
 v51 := Tryz.zeroValue203
 t53 := Tryz.underlying205
 a53 := Tryz.isAgg205
 z53 := Tryz.sizeOf205
 v53 := Tryz.zeroValue205
 t131 := Tryz.underlying152
 a131 := Tryz.isAgg152
 z131 := Tryz.sizeOf152
 v131 := Tryz.zeroValue152
 t182 := Tryz.underlying196
 a182 := Tryz.isAgg196
 z182 := Tryz.sizeOf196
 v182 := Tryz.zeroValue196
 t183 := Tryz.underlying197
 a183 := Tryz.isAgg197
 z183 := Tryz.sizeOf197
 v183 := Tryz.zeroValue197
 t218 := Tryz.underlying240
 a218 := Tryz.isAgg240
 z218 := Tryz.sizeOf240
 v218 := Tryz.zeroValue240
 t222 := Tryz.underlying244
 a222 := Tryz.isAgg244
 z222 := Tryz.sizeOf244
 v222 := Tryz.zeroValue244
 t228 := Tryz.underlying273
 a228 := Tryz.isAgg273
 z228 := Tryz.sizeOf273
 v228 := Tryz.zeroValue273
 t229 := Tryz.underlying274
 a229 := Tryz.isAgg274
 z229 := Tryz.sizeOf274
 v229 := Tryz.zeroValue274 }
def p7_ : Go.Shelf.Ren := ⟨(fun n => match n with | 125 => 140 | 128 => 200 | 129 => 201 | 190 => 132 | 258 => 184 | 302 => 227 | 303 => 228 | 304 => 229 | 305 => 230 | 306 => 231 | 307 => 232 | 308 => 233 | 309 => 234 | 310 => 235 | 329 => 243 | 330 => 244 | 333 => 271 | 334 => 272 | 335 => 273 | 336 => 274 | 344 => 293 | _ => 0), (fun n => match n with | 0 => 0 | 3 => 3 | 4 => 4 | 5 => 5 | 9 => 9 | 31 => 42 | 46 => 137 | 51 => 203 | 53 => 205 | 131 => 152 | 182 => 196 | 183 => 197 | 218 => 240 | 222 => 244 | 228 => 273 | 229 => 274 | _ => 0), (fun n => match n with  | _ => 0)⟩
theorem wb_ : Lays.n190 Tryz.prog p7_ := {
 mixed := Tryz.mixed
 f125 := by kernel_rfl
 f128 := by kernel_rfl
 f129 := by kernel_rfl
 f190 := by kernel_rfl
 f258 := by kernel_rfl
 f302 := by kernel_rfl
 f303 := by kernel_rfl
 f304 := by kernel_rfl
 f305 := by kernel_rfl
 f306 := by kernel_rfl
 f307 := by kernel_rfl
 f308 := by kernel_rfl
 f309 := by kernel_rfl
 f310 := by kernel_rfl
 f329 := by kernel_rfl
 f330 := by kernel_rfl
 f333 := by kernel_rfl
 f334 := by kernel_rfl
 f335 := by kernel_rfl
 f336 := by kernel_rfl
 f344 := by kernel_rfl
 t0 := Tryz.underlying0
 a0 := Tryz.isAgg0
 z0 := Tryz.sizeOf0
 v0 := Tryz.zeroValue0
 t3 := Tryz.underlying3
 a3 := Tryz.isAgg3
 z3 := Tryz.sizeOf3
 v3 := Tryz.zeroValue3
 t4 := Tryz.underlying4
 a4 := Tryz.isAgg4
 z4 := Tryz.sizeOf4
 v4 := Tryz.zeroValue4
 t5 := Tryz.underlying5
 a5 := Tryz.isAgg5
 z5 := Tryz.sizeOf5
 v5 := Tryz.zeroValue5
 t9 := Tryz.underlying9
 a9 := Tryz.isAgg9
 z9 := Tryz.sizeOf9
 v9 := Tryz.zeroValue9
 t31 := Tryz.underlying42
 a31 := Tryz.isAgg42
 z31 := Tryz.sizeOf42
 v31 := Tryz.zeroValue42
 t46 := Tryz.underlying137
 a46 := Tryz.isAgg137
 z46 := Tryz.sizeOf137
 v46 := Tryz.zeroValue137
 t51 := Tryz.underlying203
 a51 := Tryz.isAgg203
 z51 := Tryz.sizeOf203
 v51 := Tryz.zeroValue203
 t53 := Tryz.underlying205
 a53 := Tryz.isAgg205
 z53 := Tryz.sizeOf205
 v53 := Tryz.zeroValue205
 t131 := Tryz.underlying152
 a131 := Tryz.isAgg152
 z131 := Tryz.sizeOf152
 v131 := Tryz.zeroValue152
 t182 := Tryz.underlying196
 a182 := Tryz.isAgg196
 z182 := Tryz.sizeOf196
 v182 := Tryz.zeroValue196
 t183 := Tryz.underlying197
 a183 := Tryz.isAgg197
 z183 := Tryz.sizeOf197
 v183 := Tryz.zeroValue197
 t218 := Tryz.underlying240
 a218 := Tryz.isAgg240
 z218 := Tryz.sizeOf240
 v218 := Tryz.zeroValue240
 t222 := Tryz.underlying244
 a222 := Tryz.isAgg244
 z222 := Tryz.sizeOf244
 v222 := Tryz.zeroValue244
 t228 := Tryz.underlying273
 a228 := Tryz.isAgg273
 z228 := Tryz.sizeOf273
 v228 := Tryz.zeroValue273
 t229 := Tryz.underlying274
 a229 := Tryz.isAgg274
 z229 := Tryz.sizeOf274
 v229 := Tryz.zeroValue274 }
end Go.Proofs
namespace Go.Proofs.YtcaflcpcbcneiaaGreat
open Go.Ab Go.Shelf
theorem p6_ {o : Nat} {zs : List Int} {σ : Store} (ho : σ.heap o = some (.cells (zs.map vInt))) (hl : zs.length ≤ 1000000000) :
  ai_ Tryz.prog 186 [.msl o 1 0 zs.length] σ fun v σ' => v = .tup [] ∧ σ' = σ.set o (.cells ((zs.mergeSort fun x y => decide (x ≤ y)).map vInt)) :=
 ne_ (Value.int .i64) zs _ (by simp) ho [] [] (fun b cap w hH hb => by
  have h : Calls Tryz.prog 186 #[.slice (some ⟨b, 0, none⟩) zs.length cap] w _ := Any.slices_Sort_int wa_ b 0 cap zs w hH hb (by omega)
  simpa using h) rfl
def cG_ (ss : List ByteArray) : List ByteArray := ((ss.map Lb).mergeSort fun x y => decide (x ≤ y)).map B
theorem p8_ {o : Nat} {ss : List ByteArray} {σ : Store} (ho : σ.heap o = some (.cells (ss.map vStr))) (hl : ss.length ≤ 1000000000) :
    ai_ Tryz.prog 132 [.msl o 1 0 ss.length] σ fun v σ' => v = .tup [] ∧ σ' = σ.set o (.cells ((cG_ ss).map vStr)) := by
  have e1 : ∀ z : List (List UInt8), (z.map fun l => AVal.lit (Go.Proofs.encStr l)) = (z.map B).map vStr := fun z => by rw [List.map_map]; rfl
  have e2 : (ss.map Lb).map B = ss := by rw [List.map_map]; conv => rhs; rw [← List.map_id ss]
                                         apply List.map_congr_left; intro x _; exact B_Lb x
  have h := ne_ (P := Tryz.prog) (σ := σ) (f := 132) (o := o) Go.Proofs.encStr (ss.map Lb) ((ss.map Lb).mergeSort fun x y => decide (x ≤ y)) (by simp) (by rw [e1, e2]; exact ho) [] [] (fun b cap w hH hb => by
    have h : Calls Tryz.prog 132 #[.slice (some ⟨b, 0, none⟩) (ss.map Lb).length cap] w _ := Any.slices_Sort_string wb_ b 0 cap (ss.map Lb) w hH hb (by simp; omega)
    simpa using h) rfl
  rw [e1] at h
  simpa only [List.length_map, cG_] using h
theorem kV_ {f : FuncId} {σ : Store} (h : ∀ w, Calls Tryz.prog f #[.slice none 0 0] w fun e w' => e = .returned (.tuple #[]) ∧ w' = w) :
  ai_ Tryz.prog f [.lit (.slice none 0 0)] σ fun v σ' => v = .tup [] ∧ σ' = σ := by
 intro κ vs hI hn hv
 have e0 := (hv 0 (by simp)).litInv
 have hvs : vs = #[.slice none 0 0] := by
  apply Array.ext (by simpa using hn)
  intro i h1 h2
  simp at h2
  subst h2
  have eg : vs.getD 0 undef = vs[0] := by simp [h1]
  rw [← eg, e0]; rfl
 rw [hvs]
 exact (h κ.w).mono fun ex w' ⟨he, hw⟩ => ⟨_, he, by rw [hw]; exact ju_ (K.Le.refl κ) hI ⟨rfl, rfl⟩⟩
end Go.Proofs.YtcaflcpcbcneiaaGreat
end

section
set_option linter.all false
set_option maxRecDepth 100000
namespace Go.Proofs
open Go.Shelf
def j7_ : Go.Shelf.Ren := ⟨(fun n => match n with | 20 => 187 | _ => 0), (fun n => match n with | 0 => 0 | 3 => 3 | 4 => 4 | 22 => 94 | _ => 0), (fun n => match n with  | _ => 0)⟩
theorem mh_ : Lays2.n20 Tryz.prog j7_ := {
 mixed := Tryz.mixed
 f20 := by kernel_rfl
 t0 := Tryz.underlying0
 a0 := Tryz.isAgg0
 z0 := Tryz.sizeOf0
 v0 := Tryz.zeroValue0
 t3 := Tryz.underlying3
 a3 := Tryz.isAgg3
 z3 := Tryz.sizeOf3
 v3 := Tryz.zeroValue3
 t4 := Tryz.underlying4
 a4 := Tryz.isAgg4
 z4 := Tryz.sizeOf4
 v4 := Tryz.zeroValue4
 t22 := Tryz.underlying94
 a22 := Tryz.isAgg94
 z22 := Tryz.sizeOf94
 v22 := Tryz.zeroValue94
 i3 := by kernel_rfl }
def jb_ : Go.Shelf.Ren := ⟨(fun n => match n with | 194 => 133 | _ => 0), (fun n => match n with | 0 => 0 | 3 => 3 | 4 => 4 | 9 => 9 | 31 => 42 | _ => 0), (fun n => match n with  | _ => 0)⟩
theorem ka_ : Lays.n194 Tryz.prog jb_ := {
 mixed := Tryz.mixed
 f194 := by kernel_rfl
 t0 := Tryz.underlying0
 a0 := Tryz.isAgg0
 z0 := Tryz.sizeOf0
 v0 := Tryz.zeroValue0
 t3 := Tryz.underlying3
 a3 := Tryz.isAgg3
 z3 := Tryz.sizeOf3
 v3 := Tryz.zeroValue3
 t4 := Tryz.underlying4
 a4 := Tryz.isAgg4
 z4 := Tryz.sizeOf4
 v4 := Tryz.zeroValue4
 t9 := Tryz.underlying9
 a9 := Tryz.isAgg9
 z9 := Tryz.sizeOf9
 v9 := Tryz.zeroValue9
 t31 := Tryz.underlying42
 a31 := Tryz.isAgg42
 z31 := Tryz.sizeOf42
 v31 := Tryz.zeroValue42 }
end Go.Proofs
namespace Go.Ab
open Go.RowKit (Below)
open Go.Shelf Go.Proofs
section
variable {P : Program} {σ : Store}
theorem ai_.after {f : FuncId} {args : List AVal} {Q1 Q2 : AVal → Store → Prop} (h : ai_ P f args σ Q1)
  (hk : ∀ (κ : K) a σ' cv, Inv κ σ' → Rv κ a cv → Q1 a σ' → ∃ κ' a' σ'', κ'.w = κ.w ∧ κ.Le κ' ∧ Inv κ' σ'' ∧ Rv κ' a' cv ∧ Q2 a' σ'') : ai_ P f args σ Q2 :=
 fun κ vs hI hn hv => (h κ vs hI hn hv).mono fun e w' ⟨cv, he, κ1, a, σ', h1, h2, h3, h4, h5⟩ => by
  obtain ⟨κ2, a', σ'', g1, g2, g3, g4, g5⟩ := hk κ1 a σ' cv h3 h4 h5
  exact ⟨cv, he, κ2, a', σ'', g1.trans h1, h2.trans g2, g3, g4, g5⟩
theorem hx_ {α : Type} [Inhabited α] (enc : α → Value) {f : FuncId} {o k : Nat} (zs ys : List α) (hlen : ys.length = zs.length) (hk : k ≤ zs.length) (ho : σ.heap o = some (.cells (zs.map fun z => .lit (enc z))))
  (h : ∀ (b cap : Nat) (w : World), Sort.Holds enc w b 0 zs.toArray → zs.length ≤ cap → Calls P f #[.slice (some ⟨b, 0, none⟩) zs.length cap] w fun e w' => e = .returned (.slice (some ⟨b, 0, none⟩) k cap) ∧ ∃ q, w' = Sort.putRow enc (Sort.ahead w q) b 0 ys.toArray) :
  ai_ P f [.msl o 1 0 zs.length] σ fun v σ' => v = .msl o 1 0 k ∧ σ' = σ.set o (.cells (ys.map fun z => .lit (enc z))) := by
 intro κ vs hI hn hv
 have hv0 := hv 0 (by simp)
 simp only [List.getElem_cons_zero] at hv0
 have hvs : ∃ u, vs = #[u] ∧ vs.getD 0 undef = u := by
  have h1 : 0 < vs.size := by rw [hn]; simp
  refine ⟨vs[0], ?_, by simp [h1]⟩
  apply Array.ext (by simpa using hn)
  intro i h1 h2
  simp at h2; subst h2; rfl
 obtain ⟨u, rfl, hu⟩ := hvs
 rw [hu] at hv0
 cases hv0 with
 |msl _ _ _ _ b cap nn e1 hb hlc hs hnn =>
 obtain ⟨b', hb', hbase, hIb, c, e, hheap, hlen', hR⟩ := hI.heap o _ ho
 rw [hb] at hb'
 obtain rfl := Option.some.inj hb'
 have hlt : b < κ.w.heap.size := (Array.getElem?_eq_some_iff.1 hheap).1
 have hH : Sort.Holds enc κ.w b 0 zs.toArray := jl_ enc zs.toArray hheap (by simpa using hlen') fun j hj => by
  have hj' : j < zs.length := by simpa using hj
  have h1 := hR j (by simpa using hj')
  simp only [List.getElem_map] at h1
  rw [h1.litInv]
  simp [hj']
 refine (h b cap κ.w hH hlc).mono fun ex w' ⟨he, q, hw⟩ => ⟨_, he, ?_⟩
 have key := hI.rowed ho hb q (Sort.putCells enc 0 ys.toArray) #[] (fun c => el_ enc 0 _ c) (cs' := ys.map fun z => .lit (enc z)) (fun c hc _ => ⟨by simpa [hlen] using hc, fun i hi => by
  have hi' : i < ys.length := by simpa using hi
  rw [fy_ enc ys.toArray c i (by simpa using hi') (by simp at hc ⊢; omega)]
  simp [hi']
  exact .lit _⟩)
 have hw2 : w' = Ab.rowed κ.w q b (Sort.putCells enc 0 ys.toArray) #[] := by rw [hw]; simp [Ab.rowed, Sort.grow, Sort.putRow]
 rw [hw2]
 exact ⟨{ κ with w := Ab.rowed κ.w q b (Sort.putCells enc 0 ys.toArray) #[] }, .msl o 1 0 k, _, rfl, key.1, key.2, .msl o 1 0 k b cap nn e1 hb (by omega) (key.1.shape _ _ hs) hnn, rfl, rfl⟩
end
end Go.Ab
namespace Go.Proofs.YtcaflcpcbcneiaaGreat
open Go.Ab Go.Shelf
theorem fU_ (ss : List ByteArray) : flat (ss.map vStr) = ss.map vStr := mp_ fun x hx => by
 obtain ⟨s, _, rfl⟩ := List.mem_map.1 hx
 rfl
theorem fT_ (zs : List Int) : flat (zs.map vInt) = zs.map vInt := mp_ fun x hx => by
 obtain ⟨s, _, rfl⟩ := List.mem_map.1 hx
 rfl
def d2_ (zs : List Int) : List Int := zs.mergeSort fun x y => decide (x ≤ y)
def bZ_ (ss : List ByteArray) : List ByteArray := (Lib.compact (ss.map Lb)).map B
theorem rZ_ {σ0 σ : Store} {zs : List Int} {a : AVal} (h : CBp σ0 σ 1 (zs.map vInt) a) (hl : zs.length ≤ 1000000000) :
  ai_ Tryz.prog 186 [a] σ fun v σ' => v = .tup [] ∧ CBp σ0 σ' 1 ((d2_ zs).map vInt) a := by
 rcases h with ⟨rfl, h0, rfl⟩ | ⟨o, ho, rfl, rfl⟩
 ·obtain rfl : zs = [] := by simpa using h0
  exact (kV_ fun w => Any.slices_Sort_int_none wa_ none 0 w).wkS fun v σ' ⟨hv, hs⟩ => ⟨v, σ', .refl _, .refl _, hv, .inl ⟨rfl, by simp [d2_], hs⟩⟩
 ·rw [fT_, List.length_map]
  exact (p6_ (Store.set_get ..) hl).wkS fun v σ' ⟨hv, hs⟩ => ⟨v, σ', .refl _, .refl _, hv, .inr ⟨o, ho, by simp [d2_], by rw [hs, Store.set_set, fT_]; rfl⟩⟩
theorem r1_ {σ0 σ : Store} {ss : List ByteArray} {a : AVal} (h : CBp σ0 σ 1 (ss.map vStr) a) (hl : ss.length ≤ 1000000000) :
  ai_ Tryz.prog 132 [a] σ fun v σ' => v = .tup [] ∧ CBp σ0 σ' 1 ((cG_ ss).map vStr) a := by
 rcases h with ⟨rfl, h0, rfl⟩ | ⟨o, ho, rfl, rfl⟩
 ·obtain rfl : ss = [] := by simpa using h0
  exact (kV_ fun w => Any.slices_Sort_string_none wb_ none 0 w).wkS fun v σ' ⟨hv, hs⟩ => ⟨v, σ', .refl _, .refl _, hv, .inl ⟨rfl, by simp [cG_], hs⟩⟩
 ·rw [fU_, List.length_map]
  exact (p8_ (Store.set_get ..) hl).wkS fun v σ' ⟨hv, hs⟩ => ⟨v, σ', .refl _, .refl _, hv, .inr ⟨o, ho, by simp [cG_], by rw [hs, Store.set_set, fU_]⟩⟩
theorem m3_ {f : FuncId} {σ : Store} (h : ∀ w, Calls Tryz.prog f #[.slice none 0 0] w fun e w' => e = .returned (.slice none 0 0) ∧ w' = w) :
  ai_ Tryz.prog f [.lit (.slice none 0 0)] σ fun v σ' => v = .lit (.slice none 0 0) ∧ σ' = σ := by
 intro κ vs hI hn hv
 have e0 := (hv 0 (by simp)).litInv
 have hvs : vs = #[.slice none 0 0] := by
  apply Array.ext (by simpa using hn)
  intro i h1 h2
  simp at h2
  subst h2
  have eg : vs.getD 0 undef = vs[0] := by simp [h1]
  rw [← eg, e0]; rfl
 rw [hvs]
 exact (h κ.w).mono fun ex w' ⟨he, hw⟩ => ⟨_, he, by rw [hw]; exact ⟨κ, _, σ, rfl, .refl κ, hI, .lit _, rfl, rfl⟩⟩
theorem ld_ {σ0 σ : Store} {zs : List Int} {a : AVal} (h : CBp σ0 σ 1 (zs.map vInt) a) (hl : zs.length ≤ 1000000000) (hc : (Lib.compact zs).length ≤ zs.length) :
  ai_ Tryz.prog 187 [a] σ fun v σ' => v = .sl 1 ((Lib.compact zs).map vInt) false ∧ σ0 = σ' := by
 rcases h with ⟨rfl, h0, rfl⟩ | ⟨o, ho, rfl, rfl⟩
 ·obtain rfl : zs = [] := by simpa using h0
  exact (m3_ fun w => Any.slices_Compact_int_empty mh_ none 0 w).wkS fun v σ' ⟨hv, hs⟩ => ⟨_, σ', by rw [hv]; exact .nil 1 false, .refl _, rfl, hs.symm⟩
 ·rw [fT_, List.length_map]
  refine (hx_ (σ := σ0.set o (.cells (zs.map vInt))) (Value.int .i64) zs (Lib.compact zs ++ List.replicate (zs.length - (Lib.compact zs).length) 0) (k := (Lib.compact zs).length) (by simp; omega) hc (Store.set_get ..) fun b cap w hH hcap => Any.slices_Compact_int mh_ b 0 cap zs w hH (by omega) hcap).after ?_
  rintro κ _ _ cv hI hr ⟨rfl, rfl⟩
  obtain ⟨κ', h1, h2, h3, h4⟩ := Ab.freeze hI hr (Store.set_get ..) (l := (Lib.compact zs).map vInt) (by rw [fT_, List.map_append, Nat.mul_one, List.take_left' (by simp)]) (by simp) fun x hx => by
   obtain ⟨s, _, rfl⟩ := List.mem_map.1 hx
   rfl
  rw [Store.set_set, Store.set_del ho] at h3
  exact ⟨κ', _, _, h1, h2, h3, h4, rfl, rfl⟩
theorem lf_ {σ0 σ : Store} {ss : List ByteArray} {a : AVal} (h : CBp σ0 σ 1 (ss.map vStr) a) (hl : ss.length ≤ 1000000000) (hc : (Lib.compact (ss.map Lb)).length ≤ ss.length) :
  ai_ Tryz.prog 133 [a] σ fun v σ' => v = .sl 1 ((bZ_ ss).map vStr) false ∧ σ0 = σ' := by
 rcases h with ⟨rfl, h0, rfl⟩ | ⟨o, ho, rfl, rfl⟩
 ·obtain rfl : ss = [] := by simpa using h0
  exact (m3_ fun w => Any.slices_Compact_string_empty ka_ none 0 w).wkS fun v σ' ⟨hv, hs⟩ => ⟨_, σ', by rw [hv]; exact .nil 1 false, .refl _, rfl, hs.symm⟩
 ·rw [fU_, List.length_map]
  have e1 : ∀ z : List (List UInt8), (z.map fun l => AVal.lit (Go.Proofs.encStr l)) = (z.map B).map vStr := fun z => by rw [List.map_map]; rfl
  have e2 : (ss.map Lb).map B = ss := by
   rw [List.map_map]; conv => rhs; rw [← List.map_id ss]
   apply List.map_congr_left; intro x _; exact B_Lb x
  have key := hx_ (P := Tryz.prog) (f := 133) (o := o) (σ := σ0.set o (.cells (ss.map vStr))) Go.Proofs.encStr (ss.map Lb) (Lib.compact (ss.map Lb) ++ List.replicate ((ss.map Lb).length - (Lib.compact (ss.map Lb)).length) []) (k := (Lib.compact (ss.map Lb)).length) (by simp; omega) (by simpa using hc) (by rw [e1, e2]; exact Store.set_get ..) fun b cap w hH hcap => Any.slices_Compact_string ka_ b 0 cap (ss.map Lb) w hH (by simp; omega) hcap
  rw [List.length_map] at key
  refine key.after ?_
  rintro κ _ _ cv hI hr ⟨rfl, rfl⟩
  obtain ⟨κ', h1, h2, h3, h4⟩ := Ab.freeze hI hr (Store.set_get ..) (l := (bZ_ ss).map vStr) (by rw [fU_, e1, List.map_append, List.map_append, Nat.mul_one, List.take_left' (by simp)]; rfl) (by simp [bZ_]) fun x hx => by
   obtain ⟨s, _, rfl⟩ := List.mem_map.1 hx
   rfl
  rw [Store.set_set, Store.set_del ho] at h3
  exact ⟨κ', _, _, h1, h2, h3, h4, rfl, rfl⟩
end Go.Proofs.YtcaflcpcbcneiaaGreat
end

section
set_option linter.all false
set_option maxRecDepth 100000
namespace Go.Proofs.YtcaflcpcbcneiaaGreat
open Go.Ab
theorem dl_ (n : Int) (h0 : 0 ≤ n) (h1 : n ≤ 18446744073709551615) : IntKind.u64.wrap n = n := by
 unfold IntKind.wrap
 simp only [IntKind.bits, IntKind.signed, Bool.false_and]
 have e1 : (2 : Int) ^ 64 = 18446744073709551616 := by decide
 simp only [e1]
 exact Int.emod_eq_of_lt h0 (by omega)
theorem ie_ (a b : ByteArray) : sLt a b = decide (Lb a < Lb b) := by rw [sLt, bytesLess_eq, Lib.toList_data, Lib.toList_data]; rfl
theorem bk_ (a : ByteArray) : sLt a a = false := by rw [ie_]; simp [List.lt_irrefl]
theorem bs_ {a b c : ByteArray} (h : sLt a b = true) (k : sLt b c = true) : sLt a c = true := by
 rw [ie_, decide_eq_true_eq] at *
 exact List.lt_trans h k
theorem fn_ {a b : ByteArray} (h : sLt a b = true) : a ≠ b := fun hh => by rw [hh, bk_] at h; cases h
theorem fD_ {a b : ByteArray} (h : sLt a b = false) (hn : a ≠ b) : sLt b a = true := by
 rw [ie_, decide_eq_false_iff_not] at h
 rw [ie_, decide_eq_true_eq]
 by_cases k : Lb b < Lb a
 ·exact k
 ·exact absurd (uw_ (List.le_antisymm (List.not_lt.1 k) (List.not_lt.1 h))) hn
theorem id_ {a b : ByteArray} (h : sLt a b = true) : sLt b a = false := by
 cases k : sLt b a with
 |false => rfl
 |true => have := bs_ h k; rw [bk_] at this; cases this
def nn_ (c : List Seen) : Prop := ∀ (j k : Nat) (x y : Seen), j < k → c[j]? = some x → c[k]? = some y → sLt x.node y.node = true
theorem iD_ : ∀ (l : List Seen) (pv : Option ByteArray) (room : Int), eb_ pv room l = true → (∀ p, pv = some p → ∀ x ∈ l, sLt p x.node = true) ∧ nn_ l
 |[], _, _, _ => ⟨(fun _ _ x hx => by cases hx), fun j k x y _ h => by simp at h⟩
 |x :: l, pv, room, h => by
  simp only [eb_, Bool.and_eq_true, decide_eq_true_eq] at h
  obtain ⟨⟨⟨h1, h2⟩, h3⟩, h4⟩ := h
  obtain ⟨g1, g2⟩ := iD_ l _ _ h4
  have g3 := g1 _ rfl
  refine ⟨fun p hp y hy => ?_, fun j k y z hjk hj hk => ?_⟩
  ·subst hp
   have h5 : sLt p x.node = true := h2
   rcases List.mem_cons.1 hy with rfl | hy
   ·exact h5
   ·exact bs_ h5 (g3 y hy)
  ·cases k with
   |zero => omega
   |succ k =>
    cases j with
    |zero =>
     simp only [List.getElem?_cons_zero, Option.some.injEq] at hj
     subst hj
     exact g3 z (List.mem_of_getElem? hk)
    |succ j => exact g2 j k y z (by omega) hj hk
theorem iE_ {c : List Seen} (h : b5_ c = true) : nn_ c := (iD_ c _ _ h).2
def gY_ (s : ByteArray) : Seen := ⟨s, 0, []⟩
def ofS (c : List Seen) (s : ByteArray) : Seen := match c.find? (fun x => decide (x.node = s)) with | some x => x | none => gY_ s
theorem eI_ {α : Type} {f : α → Bool} : ∀ {l : List α} {r : Nat} {x : α}, l[r]? = some x → f x = true → (∀ m y, m < r → l[m]? = some y → f y = false) → l.find? f = some x
 |[], r, x, h, _, _ => by simp at h
 |a :: l, 0, x, h, hx, _ => by
  simp only [List.getElem?_cons_zero, Option.some.injEq] at h
  subst h
  rw [List.find?_cons_of_pos hx]
 |a :: l, r + 1, x, h, hx, hm => by
  rw [List.find?_cons_of_neg (by rw [hm 0 a (by omega) rfl]; simp)]
  exact eI_ (r := r) h hx fun m y hmr hy => hm (m + 1) y (by omega) hy
theorem g4_ {a b : ByteArray} : (cmpS a b < 0) ↔ sLt a b = true := by
 unfold cmpS
 cases h : sLt a b with
 |true => simp
 |false => by_cases h2 : a = b <;> simp [h2]
theorem hw_ {a b : ByteArray} : (cmpS a b = 0) ↔ a = b := by
 unfold cmpS
 cases h : sLt a b with
 |true => simp; intro hh; rw [hh, bk_] at h; cases h
 |false => by_cases h2 : a = b <;> simp [h2]
theorem mQ_ {x : Seen} {s : ByteArray} {σ : Store} : ai_ Tryz.prog 239 [az_ x, vStr s] σ fun v σ' => v = vInt (cmpS x.node s) ∧ σ = σ' := by
 refine en_ Tryz.func239 Tryz.ntmps239 Tryz.results239 ?_
 refine rr_ ?_
 refine bx_ fun o2 ho2 => ?_
 repeat (rw [ac_] at ho2; obtain ⟨_, ho2⟩ := ho2)
 refine s_ ?_
 refine aa_ ?_
 refine rr_ ?_
 iterate 3 refine s_ ?_
 refine x_ g_ va_ (bV_) ?_; rintro _ _ ⟨rfl, rfl⟩
 refine s_ ?_
 refine aa_ ?_
 refine af_ ?_
 refine er_ σ ?_
 exact ⟨rfl, rfl⟩
@[go_sem] theorem sm_ (k' : IntKind) (a b : Int) (h0 : 0 ≤ b) (h1 : b ≤ 64) : aint .shr .u64 a k' b = some (.int .u64 (a / 2 ^ b.toNat)) := gn_ .u64 k' a b h0 h1
def Lo (c : List Seen) (s : ByteArray) (i : Nat) : Prop := ∀ m x, m < i → c[m]? = some x → sLt x.node s = true
def Hi (c : List Seen) (s : ByteArray) (j : Nat) : Prop := ∀ m x, j ≤ m → c[m]? = some x → sLt x.node s = false
theorem oB_ {c : List Seen} {s : ByteArray} {t : Bool} {σ : Store} (hr : nn_ c) (hn : c.length ≤ 1000000) :
  ai_ Tryz.prog 238 [.sl 3 (c.map az_) t, vStr s, .lit (.func (.func 239) #[] #[])] σ fun v σ' => (∃ r : Nat, ∃ b : Bool, v = .tup [vInt r, vB b] ∧ r ≤ c.length ∧ Lo c s r ∧ Hi c s r ∧ (b = true ↔ ∃ x, c[r]? = some x ∧ x.node = s)) ∧ σ = σ' := by
 refine en_ Tryz.func238 Tryz.ntmps238 Tryz.results238 ?_
 refine rr_ ?_
 iterate 2 refine s_ ?_
 refine aa_ ?_
 refine rr_ ?_
 iterate 3 refine s_ ?_
 refine aa_ ?_
 refine rr_ ?_
 iterate 3 refine s_ ?_
 refine aa_ ?_
 refine ab_ ?_
 refine ag_ ?_
 refine ah_ (ι := Nat × Nat) (fun ⟨i, j⟩ => j - i) (fun ⟨i, j⟩ => i ≤ j ∧ j ≤ c.length ∧ Lo c s i ∧ Hi c s j) (fun ⟨i, j⟩ => [(0, .sl 3 (c.map az_) t), (1, vStr s), (2, .lit (.func (.func 239) #[] #[])), (8, vInt c.length), (9, vInt i), (10, vInt j)]) (fun ⟨i, j⟩ => σ) (0, c.length) ?_ ?_ ?_ ?_
 ·exact ⟨Nat.zero_le _, Nat.le_refl _, (fun m x h => by omega), fun m x h hx => by rw [List.getElem?_eq_none (by omega)] at hx; cases hx⟩
 ·exact cv_
 ·exact sub_
 rintro ⟨i, j⟩ ⟨hij, hj, hlo, hhi⟩
 simp only [ak_, am_]
 refine ab_ ?_
 refine rr_ ?_
 iterate 3 refine s_ ?_
 refine aa_ ?_
 refine cd_ (fun hc3 => ?_) (fun hc3 => ?_)
 ·refine ae_ ?_
  refine ag_ ?_
  refine ab_ ?_
  have hdiv : ((i : Int) + j) / 2 ^ 1 = (((i + j) / 2 : Nat) : Int) := by omega
  obtain ⟨x, hx⟩ := aq_ (l := c) (k := (i + j) / 2) (by omega)
  have R := And.intro dl_ hdiv
  refine r_ ?_
  iterate 7 refine s_ ?_
  refine aa_ ?_
  refine ab_ ?_
  have R := hx
  refine r_ ?_
  iterate 6 refine s_ ?_
  refine aL_X rfl rfl (aU_ rfl rfl (.inr ⟨va_, rfl, rfl⟩) g_ va_ (mQ_) ?_); rintro _ _ ⟨rfl, rfl⟩
  refine s_ ?_
  refine aa_ ?_
  refine cd_ (fun hc5 => ?_) (fun hc5 => ?_)
  ·have hlt := g4_.1 hc5
   have hlo' : Lo c s ((i + j) / 2 + 1) := fun m y hm hy => by
    rcases Nat.lt_or_eq_of_le (Nat.le_of_lt_succ hm) with h | h
    ·exact bs_ (hr _ _ _ _ h hy hx) hlt
    ·rw [h, hx] at hy; obtain rfl := Option.some.inj hy; exact hlt
   refine r_ ?_
   iterate 3 refine s_ ?_
   refine aa_ ?_
   refine aC_ (ι := Nat × Nat) (i := ⟨i, j⟩) ((i + j) / 2 + 1, j) ?_ ?_ ?_ ?_
   ·show j - ((i + j) / 2 + 1) < j - i; omega
   ·exact ⟨by show (i + j) / 2 + 1 ≤ j; omega, hj, hlo', hhi⟩
   ·have R := hdiv; exact cv_
   ·exact sub_
  ·skip
   have hge : sLt x.node s = false := by
    cases h : sLt x.node s with
    |false => rfl
    |true => have := g4_.2 h; omega
   have hhi' : Hi c s ((i + j) / 2) := fun m y hm hy => by
    rcases Nat.lt_or_eq_of_le hm with h | h
    ·cases k : sLt y.node s with
     |false => rfl
     |true => rw [bs_ (hr _ _ _ _ h hx hy) k] at hge; cases hge
    ·rw [← h, hx] at hy; obtain rfl := Option.some.inj hy; exact hge
   refine r_ ?_
   iterate 2 refine s_ ?_
   refine aa_ ?_
   refine aC_ (ι := Nat × Nat) (i := ⟨i, j⟩) (i, (i + j) / 2) ?_ ?_ ?_ ?_
   ·show (i + j) / 2 - i < j - i; omega
   ·exact ⟨by show i ≤ (i + j) / 2; omega, by show (i + j) / 2 ≤ c.length; omega, hlo, hhi'⟩
   ·have R := hdiv; exact cv_
   ·exact sub_
 ·refine an_ ?_
  refine ad_ ?_
  refine ad_ ?_
  refine aj_ ?_
  refine ab_ ?_
  skip
  obtain rfl : i = j := by omega
  obtain ⟨x, hx⟩ : ∃ x : Seen, i < c.length → c[i]? = some x := by
   by_cases h : i < c.length
   ·exact ⟨c[i], fun _ => List.getElem?_eq_getElem h⟩
   ·exact ⟨gY_ s, fun h' => absurd h' h⟩
  have R := hx
  refine r_ ?_
  iterate 5 refine s_ ?_
  refine gt_ ?_
  refine gt_ ?_
  refine gt_ ?_
  refine gt_ ?_
  refine gt_ ?_
  refine gt_ ?_
  refine cE_ rfl rfl v_ rfl (fun hb => av_ (by rfl) (by rfl) (.inr ⟨vh_, by rfl, by rfl⟩) g_ cg_ (mQ_)) ?_
  refine gt_ ?_
  iterate 3 refine s_ ?_
  refine aa_ ?_
  refine af_ ?_
  refine er_ σ ?_
  refine ⟨⟨i, _, rfl, hj, hlo, hhi, ?_⟩, rfl⟩
  rw [Bool.and_eq_true, decide_eq_true_eq, decide_eq_true_eq, hw_]
  constructor
  ·rintro ⟨h1, h2⟩; exact ⟨x, hx (by omega), h2⟩
  ·rintro ⟨y, hy, h2⟩
   have h1 := (List.getElem?_eq_some_iff.1 hy).1
   rw [hx h1] at hy
   obtain rfl := Option.some.inj hy
   exact ⟨by omega, h2⟩
theorem tK_ {c : List Seen} {s : ByteArray} {t : Bool} {σ : Store} (hr : nn_ c) (hn : c.length ≤ 1000000) :
  ai_ Tryz.prog 188 [.sl 3 (c.map az_) t, vStr s] σ fun v σ' => (∃ r : Nat, ∃ b : Bool, v = .tup [vInt r, vB b] ∧ r ≤ c.length ∧ Lo c s r ∧ Hi c s r ∧ (b = true ↔ ∃ x, c[r]? = some x ∧ x.node = s)) ∧ σ = σ' := by
 refine en_ Tryz.func188 Tryz.ntmps188 Tryz.results188 ?_
 refine rr_ ?_
 iterate 2 refine s_ ?_
 refine aa_ ?_
 refine rr_ ?_
 iterate 2 refine s_ ?_
 refine x_ g_ va_ (oB_ hr hn) ?_; rintro _ _ ⟨⟨r, b, rfl, h1, h2, h3, h4⟩, rfl⟩
 iterate 4 refine s_ ?_
 refine aa_ ?_
 refine af_ ?_
 refine er_ σ ?_
 exact ⟨⟨r, b, rfl, h1, h2, h3, h4⟩, rfl⟩
theorem tF_ {c : List Seen} {s : ByteArray} {r : Nat} {x : Seen} (hlo : Lo c s r) (hx : c[r]? = some x) (he : x.node = s) : ofS c s = x := by
 unfold ofS
 rw [eI_ (r := r) hx (by simp [he]) fun m y hm hy => decide_eq_false (fn_ (hlo m y hm hy))]
theorem vG_ {c : List Seen} {s : ByteArray} {r : Nat} (hr : nn_ c) (hlo : Lo c s r) (hhi : Hi c s r) (hn : ¬ ∃ x, c[r]? = some x ∧ x.node = s) : ofS c s = gY_ s := by
 unfold ofS
 rw [List.find?_eq_none.2 fun y hy => ?_]
 obtain ⟨m, hm⟩ := List.mem_iff_getElem?.1 hy
 simp only [decide_eq_true_eq]
 intro he
 rcases Nat.lt_or_ge m r with h | h
 ·exact fn_ (hlo m y h hm) he
 ·rcases Nat.lt_or_eq_of_le h with h | h
  ·obtain ⟨z, hz⟩ := aq_ (l := c) (k := r) (by have := (List.getElem?_eq_some_iff.1 hm).1; omega)
   have h1 := hr _ _ _ _ h hz hm
   rw [he, hhi r z (Nat.le_refl _) hz] at h1
   cases h1
  ·exact hn ⟨y, by rw [h]; exact hm, he⟩
theorem of_c {c : List Seen} {s : ByteArray} {t : Bool} {σ : Store} (hr : nn_ c) (hn : c.length ≤ 1000000) :
  ai_ Tryz.prog 135 [.sl 3 (c.map az_) t, vStr s] σ fun v σ' => v = az_ (ofS c s) ∧ σ = σ' := by
 refine en_ Tryz.func135 Tryz.ntmps135 Tryz.results135 ?_
 refine rr_ ?_
 refine lc_ fun o4 ho4 => ?_
 repeat (rw [ac_] at ho4; obtain ⟨_, ho4⟩ := ho4)
 refine aa_ ?_
 refine rr_ ?_
 iterate 2 refine s_ ?_
 refine x_ g_ va_ (tK_ hr hn) ?_; rintro _ _ ⟨⟨r, b, rfl, h1, h2, h3, h4⟩, rfl⟩
 iterate 5 refine s_ ?_
 refine aa_ ?_
 refine ab_ ?_
 refine rr_ ?_
 iterate 2 refine s_ ?_
 refine aa_ ?_
 refine cd_ (fun hc2 => ?_) (fun hc2 => ?_)
 ·refine rr_ ?_
  iterate 2 refine s_ ?_
  refine st_ ?_
  refine aa_ ?_
  refine af_ ?_
  have hb : b = false := hc2
  have hno := vG_ hr h2 h3 (fun hh => by rw [h4.2 hh] at hb; cases hb)
  rw [hno]
  exact aw_ (v := az_ (gY_ s)) (v' := .agg [vStr s, vInt 0, vNil]) va_ (.agg _ _ rfl (fun i hi hi' => by match i, hi with | 0, _ => exact .refl _ | 1, _ => exact .refl _ | 2, _ => exact .nil _ _)) sub_ ⟨rfl, rfl⟩
 ·refine ae_ ?_
  refine ab_ ?_
  obtain ⟨x, hx, he⟩ := h4.1 hc2
  have h5 := (List.getElem?_eq_some_iff.1 hx).1
  have R := hx
  refine r_ ?_
  iterate 4 refine s_ ?_
  refine st_ ?_
  refine aa_ ?_
  refine af_ ?_
  refine er_ σ ?_
  exact ⟨by rw [tF_ h2 hx he], rfl⟩
theorem set_swap {σ : Store} {i j : Nat} {x y : AObj} (h : i ≠ j) : (σ.set i x).set j y = (σ.set j y).set i x := by
 unfold Store.set
 congr 1
 funext k
 by_cases h1 : k = j
 ·subst h1; simp [Ne.symm h]
 ·by_cases h2 : k = i
  ·subst h2; simp [h]
  ·simp [h1, h2]
theorem s8_ {σ0 σ : Store} {sz : Nat} {l : List AVal} {a : AVal} (h : CBp σ0 σ sz l a) {i : Nat} {x : AObj} (hi : σ.heap i = none) : CBp (σ0.set i x) (σ.set i x) sz l a := by
 rcases h with ⟨h1, h2, rfl⟩ | ⟨o, ho, h1, rfl⟩
 ·exact .inl ⟨h1, h2, rfl⟩
 ·have hne : i ≠ o := fun hh => by rw [hh, Store.set_get] at hi; cases hi
  exact .inr ⟨o, by rw [Store.set_ne _ _ (Ne.symm hne)]; exact ho, h1, set_swap (Ne.symm hne)⟩
theorem mf_ {σ0 σ : Store} {sz : Nat} {l : List AVal} {a : AVal} (h : CBp σ0 σ sz l a) {i : Nat} {x y : AObj} (hi : σ.heap i = none) : CBp (σ0.set i y) ((σ.set i x).set i y) sz l a := by
 rw [Store.set_set]; exact s8_ h hi
def ch_ (st : Int × List Int) (n : Int) : Int × List Int := if n = st.1 + 1 then (n, st.2) else if st.1 < n then (st.1, st.2 ++ [n]) else st
def ej_ (l : List Int) : List Int := Lib.compact (d2_ l)
def la_ (a b : Seen) : Int × List Int := (ej_ (a.more ++ b.more)).foldl ch_ (max a.base b.base, [])
def cJ_ (a b : Seen) : Seen := ⟨a.node, (la_ a b).1, (la_ a b).2⟩
structure SeenBd (x : Seen) : Prop where
 lo : 0 ≤ x.base
 hi : x.base ≤ 9007199254740992
 more : ∀ n ∈ x.more, n ≤ 9007199254740992
 len : x.more.length ≤ 1000000
theorem e3_ {α : Type} [DecidableEq α] [Inhabited α] (zs : List α) : (Lib.compact zs).length ≤ zs.length := by
 unfold Lib.compact Lib.compactUpTo
 rw [List.length_map]
 exact Nat.le_trans (List.length_filter_le _ _) (by simp)
theorem hy_ {α : Type} [DecidableEq α] [Inhabited α] {zs : List α} {x : α} (h : x ∈ Lib.compact zs) : x ∈ zs := by
 unfold Lib.compact Lib.compactUpTo at h
 obtain ⟨j, hj, rfl⟩ := List.mem_map.1 h
 have := (List.mem_filter.1 hj).1
 rw [List.mem_range] at this
 simp [this]
theorem hZ_ (l : List Int) : (ej_ l).length ≤ l.length := by
 unfold ej_ d2_
 exact Nat.le_trans (e3_ _) (by simp)
theorem ks_ {l : List Int} {x : Int} (h : x ∈ ej_ l) : x ∈ l := by
 have := hy_ h
 unfold d2_ at this
 exact List.mem_mergeSort.1 this
theorem uM_ {a b : Seen} {σ : Store} (ha : SeenBd a) (hb : SeenBd b) : ai_ Tryz.prog 134 [az_ a, az_ b] σ fun v σ' => v = az_ (cJ_ a b) ∧ σ = σ' := by
 have h1 := ha.len; have h2 := hb.len; have h3 := ha.lo; have h4 := hb.lo; have h5 := ha.hi; have h6 := hb.hi
 have hol := hZ_ (a.more ++ b.more)
 rw [List.length_append] at hol
 have hom : ∀ n ∈ ej_ (a.more ++ b.more), n ≤ 9007199254740992 := fun n hn => by
  rcases List.mem_append.1 (ks_ hn) with h | h
  ·exact ha.more n h
  ·exact hb.more n h
 refine en_ Tryz.func134 Tryz.ntmps134 Tryz.results134 ?_
 refine rr_ ?_
 refine bx_ fun o2 ho2 => ?_
 repeat (rw [ac_] at ho2; obtain ⟨_, ho2⟩ := ho2)
 refine bx_ fun o3 ho3 => ?_
 repeat (rw [ac_] at ho3; obtain ⟨_, ho3⟩ := ho3)
 refine lc_ fun o4 ho4 => ?_
 repeat (rw [ac_] at ho4; obtain ⟨_, ho4⟩ := ho4)
 refine aa_ ?_
 refine rr_ ?_
 iterate 4 refine s_ ?_
 refine ao_ rfl rfl rfl g_ g_ rfl rfl h_ c2_ (by decide) ?_
 refine x_ g_ va_ (lg_ (L1 := a.more) (L2 := b.more) (by omega) (by omega)) ?_; rintro _ τ0 hC0
 rename_i b0
 have hs0 := hC0.sub
 have e2 := hs0.heap o2 _ h_
 have e3 := hs0.heap o3 _ h_
 have e4 := hs0.heap o4 _ h_
 have st0 : SubX [] σ τ0 := SubX.trans (ar_ ho4 (ar_ ho3 (ar_ ho2 aX_))) ⟨fun i x _ => hs0.heap i x, hs0.tok⟩
 refine s_ ?_
 refine aa_ ?_
 refine rr_ ?_
 refine s_ ?_
 refine x_ g_ va_ (rZ_ hC0 (by simp; omega)) ?_; rintro _ τ1 ⟨rfl, hC1⟩
 have hs1 := hC1.sub
 have f2 := hs1.heap o2 _ h_
 have f3 := hs1.heap o3 _ h_
 have f4 := hs1.heap o4 _ h_
 refine aa_ ?_
 refine ab_ ?_
 have R := And.intro f2 f3
 refine r_ ?_
 iterate 8 refine s_ ?_
 refine lc_ fun o6 ho6 => ?_
 repeat (rw [ac_] at ho6; obtain ⟨_, ho6⟩ := ho6)
 refine st_ ?_
 refine aa_ ?_
 have st1 : SubX [] σ τ1 := SubX.trans (ar_ ho4 (ar_ ho3 (ar_ ho2 aX_))) ⟨fun i x _ => hs1.heap i x, hs1.tok⟩
 have n6 : σ.heap o6 = none := SubX.noObj st1 ho6 (by simp)
 have n64 := (aF_ f4 ho6)
 have hC2 := mf_ (y := .cells [.lit (.string a.node), vInt (max a.base b.base), vNil]) (x := .cells [.lit (.string ⟨#[]⟩), vInt 0, vNil]) hC1 ho6
 obtain ⟨L, hL⟩ : ∃ L, ej_ (a.more ++ b.more) = L := ⟨_, rfl⟩
 rw [hL] at hol hom
 refine ab_ ?_
 refine rr_ ?_
 refine s_ ?_
 refine x_ g_ va_ (ld_ hC2 (by simp [d2_]; omega) (e3_ _)) ?_; rintro _ _ ⟨rfl, rfl⟩
 rw [show Lib.compact (d2_ (a.more ++ b.more)) = L from hL]
 iterate 2 refine s_ ?_
 refine aa_ ?_
 refine ag_ ?_
 refine ah_ (ι := Store × Nat × AVal × Option Nat × (Int × List Int)) (fun ⟨τ, k, g, old, st⟩ => L.length - k) (fun ⟨τ, k, g, old, st⟩ => k ≤ L.length ∧ (L.take k).foldl ch_ (max a.base b.base, []) = st ∧ τ.heap o6 = some (.cells [.lit (.string a.node), vInt st.1, g]) ∧ τ.heap o4 = some (.cells [.lit (.string ⟨#[]⟩), .lit (.int .i64 0), .lit (.slice none 0 0)]) ∧ cY_ τ 3 1 (st.2.map vInt) g old ∧ SubX [] σ τ ∧ (∀ j, old = some j → σ.tok j = none) ∧ (0 ≤ st.1 ∧ st.1 ≤ 9007199254740992) ∧ st.2.length ≤ k) (fun ⟨τ, k, g, old, st⟩ => [(4, .ref o4 0), (6, .ref o6 0), (26, .sl 1 (L.map vInt) false), (27, vInt L.length), (28, vInt k)]) (fun ⟨τ, k, g, old, st⟩ => τ) ((((σ.set o2 (.cells (az_ a).cells)).set o3 (.cells (az_ b).cells)).set o4 (.cells [.lit (.string ⟨#[]⟩), .lit (.int .i64 0), .lit (.slice none 0 0)])).set o6 (.cells [.lit (.string a.node), vInt (max a.base b.base), vNil]), 0, vNil, none, (max a.base b.base, [])) ?_ ?_ ?_ ?_
 ·exact ⟨Nat.zero_le _, rfl, Store.set_get .., h_, .inr ⟨rfl, rfl, rfl⟩, ar_ n6 (ar_ ho4 (ar_ ho3 (ar_ ho2 aX_))), (fun j hj => by cases hj), ⟨by show 0 ≤ max a.base b.base; omega, by show max a.base b.base ≤ _; omega⟩, Nat.le_refl _⟩
 ·exact cv_
 ·exact Store.Wk.refl _
 rintro ⟨τ, k, g, old, st⟩ ⟨hk, hst, u6, u4, hno, hsx, hold, hb, hlen⟩
 simp only [ak_, am_]
 refine rr_ ?_
 refine s_ ?_
 refine aa_ ?_
 refine ab_ ?_
 refine cd_ (fun hc5 => ?_) (fun hc5 => ?_)
 ·refine ae_ ?_
  refine ab_ ?_
  refine ag_ ?_
  refine ab_ ?_
  obtain ⟨n, hn⟩ := aq_ (l := L) (k := k) (by omega)
  have hnb := hom n (List.mem_of_getElem? hn)
  have hfold : (L.take (k + 1)).foldl ch_ (max a.base b.base, []) = ch_ st n := by rw [ax_ hn, List.foldl_append, hst]; rfl
  have R := hn
  refine r_ ?_
  iterate 3 refine s_ ?_
  refine aa_ ?_
  refine ab_ ?_
  have R := u6
  refine r_ ?_
  iterate 5 refine s_ ?_
  refine aa_ ?_
  refine cd_ (fun hc7 => ?_) (fun hc7 => ?_)
  ·refine r_ ?_
   iterate 2 refine s_ ?_
   refine st_ ?_
   refine aa_ ?_
   refine r_ ?_
   iterate 2 refine s_ ?_
   refine aa_ ?_
   refine aC_ (ι := Store × Nat × AVal × Option Nat × (Int × List Int)) (i := ⟨τ, k, g, old, st⟩) (τ.set o6 (.cells [.lit (.string a.node), vInt n, g]), k + 1, g, old, (n, st.2)) ?_ ?_ ?_ ?_
   ·show L.length - (k + 1) < L.length - k; omega
   ·exact ⟨by show k + 1 ≤ L.length; omega, by rw [hfold, ch_, if_pos hc7], Store.set_get .., by rw [Store.set_ne _ _ n64]; exact u4, hno, ar_ n6 hsx, hold, ⟨by show 0 ≤ n; omega, by show n ≤ _; omega⟩, by show st.2.length ≤ k + 1; omega⟩
   ·exact cv_
   ·exact Store.Wk.refl _
  ·refine ab_ ?_
   have R := u6
   refine r_ ?_
   iterate 4 refine s_ ?_
   refine aa_ ?_
   refine cd_ (fun hc9 => ?_) (fun hc9 => ?_)
   ·have R := u6
    refine r_ ?_
    iterate 3 refine s_ ?_
    refine ao_ rfl rfl rfl g_ g_ rfl rfl h_ c2_ (by decide) ?_
    refine aL_X rfl rfl (bl_ rfl g_ g_ (cY_.of hno va_) (.inl ⟨⟨_, g_⟩, .inl v_, c_⟩) (by simp; omega) fun k47 hk47 => ?_)
    refine s_ ?_
    refine st_ ?_
    refine aa_ ?_
    refine r_ ?_
    iterate 2 refine s_ ?_
    refine aa_ ?_
    refine aC_ (ι := Store × Nat × AVal × Option Nat × (Int × List Int)) (i := ⟨τ, k, g, old, st⟩) ((τ.newTok old k47 (3, 1)).set o6 (.cells [.lit (.string a.node), vInt st.1, .own k47 1 (st.2.map vInt ++ [vInt n])]), k + 1, .own k47 1 (st.2.map vInt ++ [vInt n]), some k47, (st.1, st.2 ++ [n])) ?_ ?_ ?_ ?_
    ·show L.length - (k + 1) < L.length - k; omega
    ·exact ⟨by show k + 1 ≤ L.length; omega, by rw [hfold, ch_, if_neg hc7, if_pos hc9], Store.set_get .., by rw [Store.set_ne _ _ n64]; exact u4, .inl ⟨k47, by rw [List.map_append]; rfl, by rw [Store.set_tok]; exact Store.newTok_get .., rfl⟩, ar_ n6 (SubX.newTok hsx hold hk47), (fun j hj => by cases hj; exact SubX.noTok hsx hk47), hb, by show (st.2 ++ [n]).length ≤ k + 1; rw [List.length_append]; simp; omega⟩
    ·exact cv_
    ·exact Store.Wk.refl _
   ·refine ae_ ?_
    refine r_ ?_
    iterate 2 refine s_ ?_
    refine aa_ ?_
    refine aC_ (ι := Store × Nat × AVal × Option Nat × (Int × List Int)) (i := ⟨τ, k, g, old, st⟩) (τ, k + 1, g, old, st) ?_ ?_ ?_ ?_
    ·show L.length - (k + 1) < L.length - k; omega
    ·exact ⟨by show k + 1 ≤ L.length; omega, by rw [hfold, ch_, if_neg hc7, if_neg (by omega)], u6, u4, hno, hsx, hold, hb, by show st.2.length ≤ k + 1; omega⟩
    ·exact cv_
    ·exact Store.Wk.refl _
 ·refine an_ ?_
  refine ad_ ?_
  refine ad_ ?_
  refine aj_ ?_
  refine ab_ ?_
  skip
  have hfin : cJ_ a b = ⟨a.node, st.1, st.2⟩ := by
   have : la_ a b = st := by rw [← hst, List.take_of_length_le (by omega), ← hL]; rfl
   rw [cJ_, this]
  refine cI_ o6 [.lit (.string a.node), vInt st.1, .sl 1 (st.2.map vInt) false] u6 ⟨.refl _, .refl _, hno.wk, trivial⟩ ?_
  have u4' : (τ.set o6 (.cells [.lit (.string a.node), vInt st.1, .sl 1 (st.2.map vInt) false])).heap o4 = some (.cells [.lit (.string ⟨#[]⟩), .lit (.int .i64 0), .lit (.slice none 0 0)]) := by rw [Store.set_ne _ _ n64]; exact u4
  have R := u4'
  refine r_ ?_
  refine s_ ?_
  refine st_ ?_
  refine aa_ ?_
  refine af_ ?_
  rw [hfin]
  exact au_ (σ' := σ) va_ (bd_ (ar_ ho4 (ar_ n6 hsx))) ⟨rfl, rfl⟩
end Go.Proofs.YtcaflcpcbcneiaaGreat
end

section
set_option linter.all false
set_option maxRecDepth 100000
namespace Go.Ab
theorem ai_.frozen {P : Program} {f : FuncId} {args : List AVal} {σ : Store} {sz : Nat} {l : List AVal} (h : ai_ P f args σ fun v σ' => CBp σ σ' sz l v) (hs : ∀ x ∈ l, x.cells.length = sz) : ai_ P f args σ fun v σ' => v = .sl sz l false ∧ σ = σ' := by
 refine h.after ?_
 rintro κ a σ' cv hI hr hC
 rcases hC with ⟨rfl, rfl, rfl⟩ | ⟨o, ho, rfl, rfl⟩
 ·exact ⟨κ, _, _, rfl, .refl κ, hI, hr.wk (.nil sz false), rfl, rfl⟩
 ·obtain ⟨κ', h1, h2, h3, h4⟩ := Ab.freeze hI hr (Store.set_get ..) (l := l) (by rw [List.take_of_length_le (by rw [aR_ hs]; exact Nat.le_refl _)]) rfl hs
  rw [Store.set_del ho] at h3
  exact ⟨κ', _, _, h1, h2, h3, h4, rfl, rfl⟩
theorem qR_ {σ σ' : Store} {sz : Nat} {l : List AVal} {a : AVal} {i : Nat} {y : AObj} (h : CBp (σ.set i y) σ' sz l a) (hi : σ.heap i = none) : ∃ τ, CBp σ τ sz l a ∧ τ.Sub σ' := by
 have hsub : ∀ τ : Store, τ.heap i = none → τ.Sub (τ.set i y) := fun τ hτ => ⟨fun j x hx => by rw [Store.set_ne _ _ (fun hh => by rw [hh, hτ] at hx; cases hx)]; exact hx, fun _ _ h => h⟩
 rcases h with ⟨h1, h2, rfl⟩ | ⟨o, ho, h1, rfl⟩
 ·exact ⟨σ, .inl ⟨h1, h2, rfl⟩, hsub σ hi⟩
 ·have hne : o ≠ i := fun hh => by rw [hh, Store.set_get] at ho; cases ho
  rw [Store.set_ne _ _ hne] at ho
  refine ⟨σ.set o (.cells (flat l)), .inr ⟨o, ho, h1, rfl⟩, ?_⟩
  rw [Go.Proofs.YtcaflcpcbcneiaaGreat.set_swap (Ne.symm hne)]
  exact hsub _ (by rw [Store.set_ne _ _ (Ne.symm hne)]; exact hi)
theorem s9_ {σ σ' : Store} {sz k : Nat} {l : List AVal} {a : AVal} {p : TypeId × Nat} (h : CBp σ σ' sz l a) : CBp (σ.newTok none k p) (σ'.newTok none k p) sz l a := by
 rcases h with ⟨h1, h2, rfl⟩ | ⟨o, ho, h1, rfl⟩
 ·exact .inl ⟨h1, h2, rfl⟩
 ·exact .inr ⟨o, ho, h1, rfl⟩
end Go.Ab
namespace Go.Proofs.YtcaflcpcbcneiaaGreat
open Go.Ab
def c9_ (a b : List Seen) : List ByteArray := bZ_ (cG_ ((a ++ b).map (·.node)))
def a1_ (a b : List Seen) : List Seen := (c9_ a b).map fun s => cJ_ (ofS a s) (ofS b s)
def bB_ (a b : List Seen) : List Seen × Int := if b5_ a && b5_ b then (if b5_ (a1_ a b) then (a1_ a b, 0) else ([], 4)) else ([], 1)
theorem hC_ : ∀ (l : List Seen) (pv : Option ByteArray) (room : Int), eb_ pv room l = true → ∀ x ∈ l, cF_ x = true ∧ (x.more.length : Int) ≤ room
 |[], _, _, _ => fun x hx => by cases hx
 |y :: l, pv, room, h => fun x hx => by
  simp only [eb_, Bool.and_eq_true, decide_eq_true_eq] at h
  obtain ⟨⟨⟨h1, h2⟩, h3⟩, h4⟩ := h
  rcases List.mem_cons.1 hx with rfl | hx
  ·exact ⟨h1, h3⟩
  ·have := hC_ l _ _ h4 x hx
   exact ⟨this.1, by omega⟩
theorem gF_ : ∀ (l : List Int) (z : Int), cl_ z l = true → ∀ n ∈ l, z < n ∧ n ≤ 9007199254740992
 |[], _, _ => fun x hx => by cases hx
 |m :: l, z, h => fun n hn => by
  simp only [cl_, Bool.and_eq_true, decide_eq_true_eq] at h
  obtain ⟨⟨h1, h2⟩, h3⟩ := h
  rcases List.mem_cons.1 hn with rfl | hn
  ·exact ⟨h1, h2⟩
  ·have := gF_ l m h3 n hn
   omega
structure SeenGd (x : Seen) : Prop where
 name : bS_ x.node = true
 size : x.node.size ≤ 16
 bd : SeenBd x
 len : x.more.length ≤ 4096
theorem fO_ {c : List Seen} (h : b5_ c = true) : ∀ x ∈ c, SeenGd x := fun x hx => by
 obtain ⟨h1, h2⟩ := hC_ c _ _ h x hx
 have h3 : x.more.length ≤ 4096 := by omega
 simp only [cF_, du_, Bool.and_eq_true, decide_eq_true_eq] at h1
 obtain ⟨⟨⟨⟨h4, h5⟩, h6⟩, _⟩, h7⟩ := h1
 have h8 := h4
 simp only [bS_, Bool.and_eq_true, decide_eq_true_eq] at h8
 exact ⟨h4, h8.1.2, ⟨h5, h6, fun n hn => (gF_ _ _ h7 n hn).2, by omega⟩, h3⟩
theorem mK_ (c : List Seen) (s : ByteArray) : (ofS c s).node = s := by
 unfold ofS
 split
 ·rename_i x hx
  have := List.find?_some hx
  simpa using this
 ·rfl
theorem iO_ {c : List Seen} (h : ∀ x ∈ c, SeenGd x) (s : ByteArray) : SeenBd (ofS c s) ∧ (ofS c s).more.length ≤ 4096 := by
 unfold ofS
 split
 ·rename_i x hx
  have := h x (List.mem_of_find?_eq_some hx)
  exact ⟨this.bd, this.len⟩
 ·exact ⟨⟨Int.le_refl 0, by show (0 : Int) ≤ _; decide, (fun n hn => by cases hn), by show 0 ≤ _; decide⟩, by show 0 ≤ _; decide⟩
theorem j3_ : ∀ (l : List Int) (st : Int × List Int), (l.foldl ch_ st).2.length ≤ st.2.length + l.length
 |[], st => by simp
 |n :: l, st => by
  have := j3_ l (ch_ st n)
  have h2 : (ch_ st n).2.length ≤ st.2.length + 1 := by
   unfold ch_
   split
   ·simp
   ·split <;> simp
  simp only [List.foldl_cons, List.length_cons]; omega
theorem j2_ (a b : Seen) : (cJ_ a b).more.length ≤ a.more.length + b.more.length := by
 have h1 := j3_ (ej_ (a.more ++ b.more)) (max a.base b.base, [])
 have h2 := hZ_ (a.more ++ b.more)
 rw [List.length_append] at h2
 simp only [cJ_, la_]
 simp at h1
 omega
theorem j8_ {ss : List ByteArray} {s : ByteArray} (h : s ∈ bZ_ ss) : s ∈ ss := by
 unfold bZ_ at h
 obtain ⟨l, hl, rfl⟩ := List.mem_map.1 h
 obtain ⟨t, ht, rfl⟩ := List.mem_map.1 (hy_ hl)
 rw [B_Lb]; exact ht
theorem od_ {ss : List ByteArray} {s : ByteArray} (h : s ∈ cG_ ss) : s ∈ ss := by
 unfold cG_ at h
 obtain ⟨l, hl, rfl⟩ := List.mem_map.1 h
 obtain ⟨t, ht, rfl⟩ := List.mem_map.1 (List.mem_mergeSort.1 hl)
 rw [B_Lb]; exact ht
theorem nP_ {a b : List Seen} {s : ByteArray} (h : s ∈ c9_ a b) : ∃ x ∈ a ++ b, x.node = s := List.mem_map.1 (od_ (j8_ h))
theorem gw_ (a b : List Seen) : (c9_ a b).length ≤ a.length + b.length := by
 unfold c9_ bZ_
 rw [List.length_map]
 refine Nat.le_trans (e3_ _) ?_
 simp [cG_]
theorem rX_ {c : List Seen} (h : ∀ x ∈ c, SeenGd x) : ∀ x ∈ c, SeenSm x := fun x hx => ⟨by have := (h x hx).size; omega, by have := (h x hx).len; omega⟩
theorem iL_ {a b : List Seen} (ha : ∀ x ∈ a, SeenGd x) (hb : ∀ x ∈ b, SeenGd x) : ∀ x ∈ a1_ a b, SeenSm x := fun x hx => by
 obtain ⟨s, hs, rfl⟩ := List.mem_map.1 hx
 obtain ⟨y, hy, rfl⟩ := nP_ hs
 have h1 := (iO_ ha y.node).2
 have h2 := (iO_ hb y.node).2
 have h3 := j2_ (ofS a y.node) (ofS b y.node)
 refine ⟨?_, by omega⟩
 show (ofS a y.node).node.size ≤ _
 rw [mK_]
 rcases List.mem_append.1 hy with h | h
 ·have := (ha y h).size; omega
 ·have := (hb y h).size; omega
theorem lh_ {L1 L2 : List Seen} {t1 t2 tt : Bool} {σ : Store} (h1 : L1.length ≤ 10000000) (h2 : L2.length ≤ 10000000) :
  ai_ Tryz.prog 131 [.sl 1 [.sl 3 (L1.map az_) t1, .sl 3 (L2.map az_) t2] tt] σ fun v σ' => v = .sl 3 ((L1 ++ L2).map az_) false ∧ σ = σ' :=
 (kb_ h1 h2).frozen (qg_ _)
theorem chk0 {b : Bool} : ((if b = true then 0 else 1 : Int) = 0) ↔ b = true := by cases b <;> simp
theorem pc_ {a b : List Seen} {ta tb : Bool} {σ : Store} (hA : ∀ x ∈ a, SeenSm x) (hB : ∀ x ∈ b, SeenSm x) (hna : a.length ≤ 100000) (hnb : b.length ≤ 100000) :
  ai_ Tryz.prog 77 [.sl 3 (a.map az_) ta, .sl 3 (b.map az_) tb] σ fun v σ' => v = .tup [.sl 3 ((bB_ a b).1.map az_) false, vInt (bB_ a b).2] ∧ σ = σ' := by
 refine en_ Tryz.func77 Tryz.ntmps77 Tryz.results77 ?_
 refine rr_ ?_
 iterate 2 refine s_ ?_
 refine aa_ ?_
 refine ab_ ?_
 refine rr_ ?_
 refine s_ ?_
 refine x_ g_ va_ (ja_ hA (by omega)) ?_; rintro _ _ ⟨rfl, rfl⟩
 iterate 2 refine s_ ?_
 refine gf_ ?_
 refine bt_ rfl rfl v_ rfl (fun hb => av_ (by rfl) (by rfl) (.inr ⟨by rfl, by rfl, by rfl⟩) g_ cg_ (ja_ hB (by omega))) ?_
 refine gf_ ?_
 refine s_ ?_
 refine aa_ ?_
 refine cd_ (fun hc1 => ?_) (fun hc1 => ?_)
 ·skip
  have hj : bB_ a b = ([], 1) := by
   rw [chk0, chk0] at hc1
   unfold bB_
   cases h1 : b5_ a <;> cases h2 : b5_ b <;> simp [h1, h2] at hc1 ⊢
  refine rr_ ?_
  iterate 2 refine s_ ?_
  refine aa_ ?_
  refine af_ ?_
  rw [hj]
  exact aw_ (v := .tup [.sl 3 [] false, vInt 1]) (v' := .tup [vNil, vInt 1]) va_ (.tup _ _ rfl (fun i hi hi' => by match i, hi with | 0, _ => exact .nil _ _ | 1, _ => exact .refl _)) sub_ ⟨rfl, rfl⟩
 ·rw [chk0, chk0] at hc1
  have gA := fO_ hc1.1
  have gB := fO_ hc1.2
  have rA := iE_ hc1.1
  have rB := iE_ hc1.2
  have hlen : (a ++ b).length ≤ 200000 := by rw [List.length_append]; omega
  obtain ⟨D, hD⟩ : ∃ D, a ++ b = D := ⟨_, rfl⟩
  rw [hD] at hlen
  refine ae_ ?_
  refine rr_ ?_
  refine s_ ?_
  refine aa_ ?_
  refine ab_ ?_
  refine rr_ ?_
  iterate 2 refine s_ ?_
  refine ao_ rfl rfl rfl g_ g_ rfl rfl h_ c2_ (by decide) ?_
  refine x_ g_ va_ (lh_ (L1 := a) (L2 := b) (by omega) (by omega)) ?_; rintro _ _ ⟨rfl, rfl⟩
  rw [hD]
  iterate 2 refine s_ ?_
  refine aa_ ?_
  refine ag_ ?_
  refine ah_ (ι := Store × AVal × Nat) (fun ⟨τ, g, k⟩ => D.length - k) (fun ⟨τ, g, k⟩ => k ≤ D.length ∧ CBp σ τ 1 (((D.take k).map (·.node)).map vStr) g) (fun ⟨τ, g, k⟩ => [(0, .sl 3 (a.map az_) ta), (1, .sl 3 (b.map az_) tb), (6, g), (23, .sl 3 (D.map az_) false), (24, vInt D.length), (25, vInt k)]) (fun ⟨τ, g, k⟩ => τ) (σ, vNil, 0) ?_ ?_ ?_ ?_
  ·exact ⟨Nat.zero_le _, .inl ⟨rfl, rfl, rfl⟩⟩
  ·exact cv_
  ·exact Store.Wk.refl _
  rintro ⟨τ, g, k⟩ ⟨hk, hC⟩
  simp only [ak_, am_]
  refine rr_ ?_
  refine s_ ?_
  refine aa_ ?_
  refine ab_ ?_
  refine cd_ (fun hc5 => ?_) (fun hc5 => ?_)
  ·refine ae_ ?_
   refine ab_ ?_
   refine ag_ ?_
   refine ab_ ?_
   obtain ⟨x, hx⟩ := aq_ (l := D) (k := k) (by omega)
   have R := hx
   refine r_ ?_
   iterate 2 refine s_ ?_
   refine lc_ fun o8 ho8 => ?_
   repeat (rw [ac_] at ho8; obtain ⟨_, ho8⟩ := ho8)
   refine st_ ?_
   refine aa_ ?_
   skip
   have n8 : σ.heap o8 = none := by
    cases h : σ.heap o8 with
    |none => rfl
    |some y => have := hC.sub.heap o8 y h; rw [ho8] at this; cases this
   have hC1 := mf_ (x := .cells [.lit (.string ⟨#[]⟩), .lit (.int .i64 0), .lit (.slice none 0 0)]) (y := .cells (az_ x).cells) hC ho8
   refine r_ ?_
   iterate 3 refine s_ ?_
   refine ao_ rfl rfl rfl g_ g_ rfl rfl h_ c2_ (by decide) ?_
   refine aL_X rfl rfl (ce_ rfl g_ g_ hC1 va_ (fun y hy => by obtain ⟨s, _, rfl⟩ := List.mem_map.1 hy; rfl) va_ c_ (by simp; omega) fun a' σ' hC2 => ?_)
   obtain ⟨τ', hC3, hsub⟩ := qR_ hC2 n8
   refine s_ ?_
   refine aa_ ?_
   refine r_ ?_
   iterate 2 refine s_ ?_
   refine aa_ ?_
   refine aC_ (ι := Store × AVal × Nat) (i := ⟨τ, g, k⟩) (τ', a', k + 1) ?_ ?_ ?_ ?_
   ·show D.length - (k + 1) < D.length - k; omega
   ·exact ⟨by show k + 1 ≤ D.length; omega, by rw [ax_ hx, List.map_append, List.map_append]; exact hC3⟩
   ·exact cv_
   ·exact hsub.wk
  ·refine an_ ?_
   refine ad_ ?_
   refine ad_ ?_
   refine aj_ ?_
   refine ab_ ?_
   obtain rfl : k = D.length := by omega
   rw [List.take_length] at hC
   refine r_ ?_
   refine s_ ?_
   refine x_ g_ va_ (r1_ hC (by simp at hlen ⊢; omega)) ?_; rintro _ τ1 ⟨rfl, hC1⟩
   refine aa_ ?_
   refine rr_ ?_
   refine a8_ 96 3 rfl rfl rfl (by rfl) fun k9 hk9 => ?_
   have hk9' : σ.tok k9 = none := by
    cases h : σ.tok k9 with
    |none => rfl
    |some y => have := hC1.sub.tok k9 y h; rw [hk9] at this; cases this
   refine aa_ ?_
   refine ab_ ?_
   refine rr_ ?_
   refine s_ ?_
   refine x_ g_ va_ (lf_ (σ0 := σ.newTok none k9 (96, 3)) (ss := cG_ (D.map (·.node))) (s9_ hC1) (by simp [cG_]; omega) (by refine Nat.le_trans (e3_ _) (by simp))) ?_; rintro _ _ ⟨rfl, rfl⟩
   rw [show bZ_ (cG_ (D.map (·.node))) = c9_ a b from by rw [← hD]; rfl]
   obtain ⟨Nd, hNd⟩ : ∃ Nd, c9_ a b = Nd := ⟨_, rfl⟩
   have hnl := gw_ a b
   rw [hNd] at hnl ⊢
   have hall : a1_ a b = Nd.map fun s => cJ_ (ofS a s) (ofS b s) := by rw [← hNd]; rfl
   iterate 2 refine s_ ?_
   refine aa_ ?_
   refine ag_ ?_
   refine ah_ (ι := Nat × Nat) (fun ⟨k, i⟩ => Nd.length - i) (fun ⟨k, i⟩ => i ≤ Nd.length ∧ σ.tok k = none) (fun ⟨k, i⟩ => [(0, .sl 3 (a.map az_) ta), (1, .sl 3 (b.map az_) tb), (9, .own k 3 (((Nd.take i).map fun s => cJ_ (ofS a s) (ofS b s)).map az_)), (38, .sl 1 (Nd.map vStr) false), (39, vInt Nd.length), (40, vInt i)]) (fun ⟨k, i⟩ => (σ.newTok none k (96, 3))) (k9, 0) ?_ ?_ ?_ ?_
   ·exact ⟨Nat.zero_le _, hk9'⟩
   ·exact cv_
   ·exact Store.Wk.refl _
   rintro ⟨k, i⟩ ⟨hi, hk⟩
   simp only [ak_, am_]
   refine rr_ ?_
   refine s_ ?_
   refine aa_ ?_
   refine ab_ ?_
   refine cd_ (fun hc12 => ?_) (fun hc12 => ?_)
   ·refine ae_ ?_
    refine ab_ ?_
    refine ag_ ?_
    refine ab_ ?_
    obtain ⟨n, hn⟩ := aq_ (l := Nd) (k := i) (by omega)
    have R := hn
    refine r_ ?_
    iterate 3 refine s_ ?_
    refine aa_ ?_
    refine r_ ?_
    iterate 3 refine s_ ?_
    refine x_ g_ va_ (of_c rA (by omega)) ?_; rintro _ _ ⟨rfl, rfl⟩
    iterate 2 refine s_ ?_
    refine x_ g_ va_ (of_c rB (by omega)) ?_; rintro _ _ ⟨rfl, rfl⟩
    refine x_ g_ va_ (uM_ (iO_ gA _).1 (iO_ gB _).1) ?_; rintro _ _ ⟨rfl, rfl⟩
    refine ao_ rfl rfl rfl g_ g_ rfl rfl h_ c2_ (by decide) ?_
    refine aM_ rfl rfl rfl g_ g_ v_ h_ v_ c_ (by simp; omega) fun k53 hk53 => ?_
    refine s_ ?_
    refine aa_ ?_
    refine r_ ?_
    iterate 2 refine s_ ?_
    refine aa_ ?_
    refine aC_ (ι := Nat × Nat) (i := ⟨k, i⟩) (k53, i + 1) ?_ ?_ ?_ ?_
    ·show Nd.length - (i + 1) < Nd.length - i; omega
    ·exact ⟨by show i + 1 ≤ Nd.length; omega, (aE_ hk53).2⟩
    ·have R := (show ((Nd.take (i + 1)).map fun s => cJ_ (ofS a s) (ofS b s)).map az_ = ((Nd.take i).map fun s => cJ_ (ofS a s) (ofS b s)).map az_ ++ [az_ (cJ_ (ofS a n) (ofS b n))] from by rw [ax_ hn, List.map_append, List.map_append]; rfl); exact cv_
    ·rw [Store.newTok_step hk]; exact Store.Wk.refl _
   ·refine an_ ?_
    refine ad_ ?_
    refine ad_ ?_
    refine aj_ ?_
    refine ab_ ?_
    refine ab_ ?_
    obtain rfl : i = Nd.length := by omega
    rw [List.take_length, ← hall]
    have hjl : (a1_ a b).length ≤ 1000000 := by rw [hall, List.length_map]; omega
    refine r_ ?_
    refine s_ ?_
    refine x_ g_ va_ (ai_.wkA (args := [.own k 3 ((a1_ a b).map az_)]) (ja_ (t := false) (iL_ gA gB) hjl) rfl (fun j hj hj' => by match j, hj with | 0, _ => exact .own1 _ _ _)) ?_; rintro _ _ ⟨rfl, rfl⟩
    refine s_ ?_
    refine aa_ ?_
    refine cd_ (fun hc16 => ?_) (fun hc16 => ?_)
    ·refine rr_ ?_
     iterate 2 refine s_ ?_
     refine aa_ ?_
     refine af_ ?_
     rw [chk0] at hc16
     have hj : bB_ a b = ([], 4) := by simp [bB_, hc1.1, hc1.2, hc16]
     rw [hj]
     exact aw_ (v := .tup [.sl 3 [] false, vInt 4]) (v' := .tup [vNil, vInt 4]) va_ (.tup _ _ rfl (fun i hi hi' => by match i, hi with | 0, _ => exact .nil _ _ | 1, _ => exact .refl _)) (bd_ (bm_ hk aX_)) ⟨rfl, rfl⟩
    ·refine ae_ ?_
     refine rr_ ?_
     iterate 3 refine s_ ?_
     refine aa_ ?_
     refine af_ ?_
     rw [chk0] at hc16
     have hj : bB_ a b = (a1_ a b, 0) := by simp [bB_, hc1.1, hc1.2, hc16]
     rw [hj]
     exact aw_ (v := .tup [.sl 3 ((a1_ a b).map az_) false, vInt 0]) (v' := .tup [.own k 3 ((a1_ a b).map az_), vInt 0]) va_ (.tup _ _ rfl (fun i hi hi' => by match i, hi with | 0, _ => exact .own1 _ _ _ | 1, _ => exact .refl _)) (bd_ (bm_ hk aX_)) ⟨rfl, rfl⟩
end Go.Proofs.YtcaflcpcbcneiaaGreat
end
