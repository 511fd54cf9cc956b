/-
  What is read of bytes: the program's reader; What the program's values are; What is read of bytes: numbers, texts, lists; Contexts and objects read of bytes: the program's; What is read of bytes: the reference's reader; Contexts and objects read of bytes: the reference's; What is written as bytes: the program's writer; Contexts and objects as bytes: what the program writes; Names: the program's, and the reference's; Whether a context may be: the program's Check, the reference's May. Own work (an AI agent).
-/
import Derived.Test.YtcaflcpcbcneiaaGreatGD
import Derived.Laws.RangeString
import Derived.Laws.RangeAny

section
set_option linter.all false
set_option maxRecDepth 100000
namespace Go.Proofs.YtcaflcpcbcneiaaGreat
open Go.Ab
abbrev Rd := List UInt8 × Bool
abbrev rdO (x : Rd) : AObj := .cells [vStr (B x.1), eu_ x.2]
def aW_ (x : Rd) (n : Nat) : List UInt8 × Rd := if x.2 = true ∧ n ≤ x.1.length then (x.1.take n, x.1.drop n, true) else ([], x.1, false)
theorem gC_ {x : Rd} {n : Nat} (h : x.2 = true) (h' : n ≤ x.1.length) : aW_ x n = (x.1.take n, x.1.drop n, true) := if_pos ⟨h, h'⟩
theorem kE_ {x : Rd} {n : Nat} (h : x.2 = false ∨ x.1.length < n) : aW_ x n = ([], x.1, false) := if_neg fun hh => by rcases h with h | h; rw [hh.1] at h; cases h; omega
theorem uL_ {o : Nat} {s : List UInt8} {g : Bool} {σ : Store} (ho : σ.heap o = some (.cells [vStr (B s), eu_ g])) : ai_ Tryz.prog 212 [.ref o 0] σ fun v σ' => v = eu_ (!g) ∧ σ = σ' := by
 refine en_ Tryz.func212 Tryz.ntmps212 Tryz.results212 ?_
 refine ab_ ?_
 have R := ho
 refine r_ ?_
 refine s_ ?_
 refine aa_ ?_
 refine ab_ ?_
 have R := ho
 refine r_ ?_
 iterate 3 refine s_ ?_
 refine gf_ ?_
 refine gf_ ?_
 refine gf_ ?_
 refine gf_ ?_
 refine gf_ ?_
 iterate 2 refine s_ ?_
 refine aa_ ?_
 refine af_ ?_
 refine er_ σ ?_
 exact ⟨rfl, rfl⟩
theorem qb_ {o : Nat} {s : List UInt8} {g : Bool} {σ : Store} (ho : σ.heap o = some (.cells [vStr (B s), eu_ g])) : ai_ Tryz.prog 173 [.ref o 0] σ fun v σ' => v = .tup [] ∧ σ' = σ.set o (.cells [vStr (B s), eu_ false]) := by
 refine en_ Tryz.func173 Tryz.ntmps173 Tryz.results173 ?_
 refine ab_ ?_
 have R := ho
 refine r_ ?_
 iterate 2 refine s_ ?_
 refine aa_ ?_
 refine cd_ (fun hc0 => ?_) (fun hc0 => ?_)
 ·have R := ho
  refine r_ ?_
  iterate 3 refine s_ ?_
  refine st_ ?_
  refine aa_ ?_
  refine bz_ v_ (Store.Wk.refl _) ?_
  exact ⟨rfl, rfl⟩
 ·simp at hc0
theorem sS_ {o n : Nat} {s : List UInt8} {g : Bool} {σ : Store} (ho : σ.heap o = some (.cells [vStr (B s), eu_ g])) : ai_ Tryz.prog 208 [.ref o 0, vInt n] σ fun v σ' => v = vStr (B (aW_ (s, g) n).1) ∧ σ' = σ.set o (rdO (aW_ (s, g) n).2) := by
 refine en_ Tryz.func208 Tryz.ntmps208 Tryz.results208 ?_
 refine ab_ ?_
 have R := And.intro ho a3_
 refine r_ ?_
 refine s_ ?_
 refine aa_ ?_
 refine ab_ ?_
 refine ab_ ?_
 have R := And.intro ho a3_
 refine r_ ?_
 iterate 3 refine s_ ?_
 refine gf_ ?_
 refine gf_ ?_
 refine gf_ ?_
 refine gf_ ?_
 refine gf_ ?_
 iterate 2 refine s_ ?_
 refine gf_ ?_
 refine gf_ ?_
 refine gf_ ?_
 refine gf_ ?_
 refine gf_ ?_
 refine gf_ ?_
 refine gf_ ?_
 refine s_ ?_
 refine aa_ ?_
 refine cd_ (fun hc1 => ?_) (fun hc1 => ?_)
 ·refine ab_ ?_
  have R := And.intro ho a3_
  refine r_ ?_
  refine s_ ?_
  refine x_ g_ va_ (qb_ ho) ?_; rintro _ _ ⟨rfl, rfl⟩
  refine aa_ ?_
  refine ab_ ?_
  have R := And.intro ho a3_
  refine r_ ?_
  refine s_ ?_
  refine aa_ ?_
  refine af_ ?_
  refine au_ v_ (Store.Wk.refl _) ?_
  rw [kE_ (by rcases hc1 with h | h; exact .inl h; exact .inr (by simpa using h))]; exact ⟨rfl, rfl⟩
 ·refine ae_ ?_
  refine ab_ ?_
  have R := And.intro ho a3_
  refine r_ ?_
  iterate 7 refine s_ ?_
  refine aa_ ?_
  refine ab_ ?_
  have R := And.intro ho a3_
  refine r_ ?_
  iterate 9 refine s_ ?_
  refine st_ ?_
  refine aa_ ?_
  refine ab_ ?_
  have R := And.intro ho a3_
  refine r_ ?_
  iterate 2 refine s_ ?_
  refine aa_ ?_
  refine af_ ?_
  refine au_ v_ (Store.Wk.refl _) ?_
  rw [gC_ hc1.1 (by simpa using hc1.2), hc1.1]
  refine ⟨by rw [b6_, Lb_B]; rfl, ?_⟩
  rw [b6_, Lb_B, List.take_length]
theorem cP_ {x : Rd} {n : Nat} : (aW_ x n).1.length ≤ n := by
 unfold aW_; split <;> simp
 omega
def aL_ (x : Rd) (n : Nat) : Int × Rd := (rdI (aW_ x n).1, (aW_ x n).2)
theorem rm_ {o n : Nat} {s : List UInt8} {g : Bool} {σ : Store} (ho : σ.heap o = some (.cells [vStr (B s), eu_ g])) (hn : n ≤ 8) : ai_ Tryz.prog 172 [.ref o 0, vInt n] σ fun v σ' => v = vInt (aL_ (s, g) n).1 ∧ σ' = σ.set o (rdO (aL_ (s, g) n).2) := by
 obtain ⟨r, hr⟩ : ∃ r, (aW_ (s, g) n).1 = r := ⟨_, rfl⟩
 have hl := cP_ (x := (s, g)) (n := n)
 rw [hr] at hl
 refine en_ Tryz.func172 Tryz.ntmps172 Tryz.results172 ?_
 refine rr_ ?_
 refine s_ ?_
 refine aa_ ?_
 refine rr_ ?_
 refine s_ ?_
 refine aa_ ?_
 refine ab_ ?_
 refine ab_ ?_
 have R := And.intro hr a3_
 refine r_ ?_
 iterate 2 refine s_ ?_
 refine x_ g_ va_ (sS_ ho) ?_; rintro _ _ ⟨rfl, rfl⟩
 refine no_ rfl rfl rfl g_ g_ g_ v_ ?_
 iterate 2 refine s_ ?_
 refine aa_ ?_
 refine ag_ ?_
 refine ah_ (ι := Nat) (fun k => r.length - k) (fun k => k ≤ r.length) (fun k => [(5, vInt (rdI (r.take k))), (11, .sl 1 (aJ_ (B r)) false), (12, vInt r.length), (13, vInt k)]) (fun k => σ.set o (rdO (aL_ (s, g) n).2)) 0 ?_ ?_ ?_ ?_
 ·exact Nat.zero_le _
 ·have R := And.intro hr (And.intro a3_ aN_); exact cv_
 ·exact Store.Wk.refl _
 rintro k hk
 simp only [ak_, am_]
 refine rr_ ?_
 refine s_ ?_
 refine aa_ ?_
 refine ab_ ?_
 refine cd_ (fun hc3 => ?_) (fun hc3 => ?_)
 ·refine ae_ ?_
  refine ab_ ?_
  refine ag_ ?_
  refine ab_ ?_
  obtain ⟨c, hc⟩ : ∃ c, r[k]? = some c := ⟨r[k]'(by omega), List.getElem?_eq_getElem _⟩
  have hb := me_ hc
  have hlt : c.toNat < 256 := c.toNat_lt
  have hst : bOr .i64 (IntKind.i64.wrap (rdI (r.take k) * 2 ^ 8)) (c.toNat : Int) = rdI (r.take (k + 1)) := by rw [ax_ hc]; exact mZ_ _ _
  have R := hb
  refine r_ ?_
  iterate 3 refine s_ ?_
  refine aa_ ?_
  refine r_ ?_
  iterate 6 refine s_ ?_
  refine aa_ ?_
  refine r_ ?_
  iterate 2 refine s_ ?_
  refine aa_ ?_
  refine aC_ (ι := Nat) (i := k) (k + 1) ?_ ?_ ?_ ?_
  ·omega
  ·omega
  ·have R := hst; exact cv_
  ·exact Store.Wk.refl _
 ·refine an_ ?_
  refine ad_ ?_
  refine ad_ ?_
  refine aj_ ?_
  refine rr_ ?_
  iterate 2 refine s_ ?_
  refine aa_ ?_
  refine af_ ?_
  refine au_ v_ (Store.Wk.refl _) ?_
  rw [List.take_of_length_le (by omega)]
  exact ⟨by rw [← hr]; rfl, rfl⟩
end Go.Proofs.YtcaflcpcbcneiaaGreat
end

section
set_option linter.all false
namespace Go.Ab
structure Seen where
 node : ByteArray
 base : Int
 more : List Int
structure Sib where
 node : ByteArray
 n : Int
 value : ByteArray
 gone : Bool
 time : Int
structure Obj' where
 ctx : List Seen
 sibs : List Sib
@[reducible] def az_ (x : Seen) : AVal := .agg [.lit (.string x.node), vInt x.base, .sl 1 (x.more.map vInt) false]
@[reducible] def sSib (x : Sib) : AVal := .agg [.lit (.string x.node), vInt x.n, .lit (.string x.value), .lit (.bool x.gone), vInt x.time]
@[reducible] def sObj (x : Obj') : AVal := .agg [.sl 3 (x.ctx.map az_) false, .sl 5 (x.sibs.map sSib) false]
end Go.Ab
end

section
set_option linter.all false
set_option maxRecDepth 100000
namespace Go.Proofs.YtcaflcpcbcneiaaGreat
open Go.Ab
theorem k9_ {o : Nat} {x : Rd} {σ : Store} (ho : σ.heap o = some (rdO x)) : ai_ Tryz.prog 212 [.ref o 0] σ fun v σ' => v = eu_ (!x.2) ∧ σ = σ' := uL_ ho
theorem wd_ {o n : Nat} {x : Rd} {σ : Store} (ho : σ.heap o = some (rdO x)) : ai_ Tryz.prog 208 [.ref o 0, vInt n] σ fun v σ' => v = vStr (B (aW_ x n).1) ∧ σ' = σ.set o (rdO (aW_ x n).2) := sS_ ho
theorem jq_ {o n : Nat} {x : Rd} {σ : Store} (ho : σ.heap o = some (rdO x)) (hn : n ≤ 8) : ai_ Tryz.prog 172 [.ref o 0, vInt n] σ fun v σ' => v = vInt (aL_ x n).1 ∧ σ' = σ.set o (rdO (aL_ x n).2) := rm_ ho hn
theorem vE_ {s : List UInt8} {σ : Store} : ai_ Tryz.prog 118 [vStr (B s)] σ fun v σ' => ∃ o, σ.heap o = none ∧ v = .ref o 0 ∧ σ' = σ.set o (rdO (s, true)) := by
 refine en_ Tryz.func118 Tryz.ntmps118 Tryz.results118 ?_
 refine rr_ ?_
 refine s_ ?_
 refine aa_ ?_
 refine rr_ ?_
 iterate 2 refine s_ ?_
 refine bx_ fun o5 ho5 => ?_
 repeat (rw [ac_] at ho5; obtain ⟨_, ho5⟩ := ho5)
 refine s_ ?_
 refine aa_ ?_
 refine af_ ?_
 refine au_ v_ (Store.Wk.refl _) ?_
 exact ⟨o5, ho5, rfl, rfl⟩
theorem hi_ {o : Nat} {x : Rd} {σ : Store} (ho : σ.heap o = some (rdO x)) : ai_ Tryz.prog 152 [.ref o 0] σ fun v σ' => v = vInt (aL_ x 1).1 ∧ σ' = σ.set o (rdO (aL_ x 1).2) := by
 refine en_ Tryz.func152 Tryz.ntmps152 Tryz.results152 ?_
 refine rr_ ?_
 refine s_ ?_
 refine aa_ ?_
 refine rr_ ?_
 refine s_ ?_
 refine x_ g_ va_ (jq_ (n := 1) ho (by decide)) ?_; rintro _ _ ⟨rfl, rfl⟩
 refine s_ ?_
 refine aa_ ?_
 refine af_ ?_
 refine au_ v_ (Store.Wk.refl _) ?_
 exact ⟨rfl, rfl⟩
theorem eo_ {o : Nat} {x : Rd} {σ : Store} (ho : σ.heap o = some (rdO x)) : ai_ Tryz.prog 158 [.ref o 0] σ fun v σ' => v = vInt (aL_ x 8).1 ∧ σ' = σ.set o (rdO (aL_ x 8).2) := by
 refine en_ Tryz.func158 Tryz.ntmps158 Tryz.results158 ?_
 refine rr_ ?_
 refine s_ ?_
 refine aa_ ?_
 refine rr_ ?_
 refine s_ ?_
 refine x_ g_ va_ (jq_ (n := 8) ho (by decide)) ?_; rintro _ _ ⟨rfl, rfl⟩
 refine s_ ?_
 refine aa_ ?_
 refine af_ ?_
 refine au_ v_ (Store.Wk.refl _) ?_
 exact ⟨rfl, rfl⟩
def bu_ (x : Rd) (m : Nat) : Nat × Rd := if m < natB (aW_ x 4).1 then (0, (aW_ x 4).2.1, false) else (natB (aW_ x 4).1, (aW_ x 4).2)
theorem dG_ (x : Rd) (m : Nat) : (bu_ x m).1 ≤ m := by unfold bu_; split; exact Nat.zero_le _; omega
theorem sJ_ (x : Rd) : (aL_ x 4).1 = natB (aW_ x 4).1 := h6_ _ (Nat.le_trans cP_ (by decide))
theorem eT_ {o m : Nat} {x : Rd} {σ : Store} (ho : σ.heap o = some (rdO x)) : ai_ Tryz.prog 120 [.ref o 0, vInt m] σ fun v σ' => v = vInt (bu_ x m).1 ∧ σ' = σ.set o (rdO (bu_ x m).2) := by
 have h4 := sJ_ x
 refine en_ Tryz.func120 Tryz.ntmps120 Tryz.results120 ?_
 refine rr_ ?_
 refine s_ ?_
 refine aa_ ?_
 refine rr_ ?_
 refine s_ ?_
 refine x_ g_ va_ (jq_ (n := 4) ho (by decide)) ?_; rintro _ _ ⟨rfl, rfl⟩
 refine s_ ?_
 refine aa_ ?_
 refine ab_ ?_
 refine ab_ ?_
 have R := h4
 refine r_ ?_
 iterate 3 refine s_ ?_
 refine aa_ ?_
 refine cd_ (fun hc2 => ?_) (fun hc2 => ?_)
 ·refine rr_ ?_
  refine s_ ?_
  refine x_ g_ va_ (qb_ (s := (aW_ x 4).2.1) (g := (aW_ x 4).2.2) (Store.set_get ..)) ?_; rintro _ _ ⟨rfl, rfl⟩
  refine aa_ ?_
  refine rr_ ?_
  refine s_ ?_
  refine aa_ ?_
  refine af_ ?_
  refine au_ v_ (Store.Wk.refl _) ?_
  rw [bu_, if_pos (by omega), Store.set_set]; exact ⟨rfl, rfl⟩
 ·refine ae_ ?_
  refine rr_ ?_
  iterate 2 refine s_ ?_
  refine aa_ ?_
  refine af_ ?_
  refine au_ v_ (Store.Wk.refl _) ?_
  rw [bu_, if_neg (by omega)]; exact ⟨rfl, rfl⟩
def as_ (x : Rd) : List UInt8 × Rd := aW_ (bu_ x 1048576).2 (bu_ x 1048576).1
theorem cW_ {o : Nat} {x : Rd} {σ : Store} (ho : σ.heap o = some (rdO x)) : ai_ Tryz.prog 153 [.ref o 0] σ fun v σ' => v = vStr (B (as_ x).1) ∧ σ' = σ.set o (rdO (as_ x).2) := by
 refine en_ Tryz.func153 Tryz.ntmps153 Tryz.results153 ?_
 refine rr_ ?_
 refine s_ ?_
 refine aa_ ?_
 refine rr_ ?_
 iterate 2 refine s_ ?_
 refine x_ g_ va_ (eT_ (m := 1048576) ho) ?_; rintro _ _ ⟨rfl, rfl⟩
 refine x_ g_ va_ (wd_ (Store.set_get ..)) ?_; rintro _ _ ⟨rfl, rfl⟩
 refine s_ ?_
 refine aa_ ?_
 refine af_ ?_
 refine au_ v_ (Store.Wk.refl _) ?_
 rw [Store.set_set]; exact ⟨rfl, rfl⟩
theorem jx_ {o : Nat} {x : Rd} {σ : Store} (ho : σ.heap o = some (rdO x)) : ai_ Tryz.prog 156 [.ref o 0] σ fun v σ' => v = eu_ (x.2 && decide (x.1 = [])) ∧ σ = σ' := by
 obtain ⟨s, g⟩ := x
 have he : (B s = ⟨#[]⟩) ↔ s = [] := by rw [show (⟨#[]⟩ : ByteArray) = B [] from rfl, db_]
 refine en_ Tryz.func156 Tryz.ntmps156 Tryz.results156 ?_
 refine ab_ ?_
 have R := And.intro ho he
 refine r_ ?_
 refine s_ ?_
 refine aa_ ?_
 refine ab_ ?_
 have R := And.intro ho he
 refine r_ ?_
 refine s_ ?_
 refine x_ g_ va_ (uL_ ho) ?_; rintro _ _ ⟨rfl, rfl⟩
 iterate 2 refine s_ ?_
 refine gt_ ?_
 refine gt_ ?_
 refine gt_ ?_
 refine gt_ ?_
 refine gt_ ?_
 iterate 2 refine s_ ?_
 refine aa_ ?_
 refine af_ ?_
 refine er_ σ ?_
 exact ⟨by cases g <;> simp [he], rfl⟩
def aQ_ {α : Type} (f : Rd → α × Rd) : Nat → Rd → List α × Rd
 |0, x => ([], x)
 |n + 1, x => if x.2 then ((f x).1 :: (aQ_ f n (f x).2).1, (aQ_ f n (f x).2).2) else ([], x)
theorem dk_ {α : Type} (f : Rd → α × Rd) {n : Nat} {x : Rd} (h : x.2 = false) : aQ_ f n x = ([], x) := by
 cases n with
 |zero => rfl
 |succ n => rw [aQ_, h]; rfl
def bp_ {α : Type} (f : Rd → α × Rd) (x : Rd) : List α × Rd :=
 let r := aQ_ f (bu_ x 65536).1 (bu_ x 65536).2
 if r.2.2 then r else ([], r.2)
theorem SubX.trans {l : List Nat} {a b c : Store} (h : SubX l a b) (k : SubX l b c) : SubX l a c := ⟨fun i x hi hx => k.1 i x hi (h.1 i x hi hx), fun t n ht => k.2 t n (h.2 t n ht)⟩
theorem SubX.self {o : Nat} {σ : Store} {x : AObj} : SubX [o] σ (σ.set o x) := bv_ (.head _) aX_
theorem SubX.newTok {l : List Nat} {a b : Store} (h : SubX l a b) {old : Option Nat} {k : Nat} {p : TypeId × Nat} (ho : ∀ j, old = some j → a.tok j = none) (hk : b.tok k = none) : SubX l a (b.newTok old k p) := ⟨h.1, fun t n ht => by
 have h1 := h.2 t n ht
 simp only [Store.newTok]
 rw [if_neg (fun hh => by rw [hh, hk] at h1; cases h1), if_neg (fun hh => by rw [ho t hh.symm] at ht; cases ht)]
 exact h1⟩
theorem SubX.noTok {l : List Nat} {a b : Store} (h : SubX l a b) {k : Nat} (hk : b.tok k = none) : a.tok k = none := by
 cases ht : a.tok k with
 |none => rfl
 |some n => have := h.2 k n ht; rw [hk] at this; cases this
theorem jC_ {o G : Nat} {x : Rd} {σ : Store} {fs cp : List AVal} {f : Rd → Int × Rd} (Kp : Store → Prop) (hgo : isGo Tryz.prog G = true) (hK : ∀ τ τ', Kp τ → SubX [o] τ τ' → Kp τ') (ho : σ.heap o = some (rdO x)) (hKσ : Kp σ)
  (hf : ∀ τ y, τ.heap o = some (rdO y) → Kp τ → ai_ Tryz.prog G (fs ++ [] ++ cp) τ fun v τ' => v = vInt (f y).1 ∧ τ'.heap o = some (rdO (f y).2) ∧ SubX [o] τ τ') :
  ai_ Tryz.prog 251 [.ref o 0, .fn (.func G) fs cp] σ fun v σ' => v = .sl 1 ((bp_ f x).1.map vInt) false ∧ σ'.heap o = some (rdO (bp_ f x).2) ∧ SubX [o] σ σ' := by
 obtain ⟨N, hN⟩ : ∃ N, (bu_ x 65536).1 = N := ⟨_, rfl⟩
 obtain ⟨x0, hx0⟩ : ∃ x0, (bu_ x 65536).2 = x0 := ⟨_, rfl⟩
 have hNb : N ≤ 65536 := by rw [← hN]; exact dG_ _ _
 refine en_ Tryz.func251 Tryz.ntmps251 Tryz.results251 ?_
 refine rr_ ?_
 refine s_ ?_
 refine aa_ ?_
 refine rr_ ?_
 refine a8_ 3 1 rfl rfl rfl (by rfl) fun k5 hk5 => ?_
 refine aa_ ?_
 refine ab_ ?_
 refine ab_ ?_
 have R := And.intro hN hx0
 refine r_ ?_
 refine s_ ?_
 refine x_ g_ va_ (eT_ (m := 65536) ho) ?_; rintro _ _ ⟨rfl, rfl⟩
 refine s_ ?_
 refine aa_ ?_
 refine ag_ ?_
 refine ah_ (ι := Store × Nat × List Int × Rd × Nat) (fun ⟨τ, n, L, y, k⟩ => n) (fun ⟨τ, n, L, y, k⟩ => aQ_ f N x0 = (L ++ (aQ_ f n y).1, (aQ_ f n y).2) ∧ L.length + n ≤ 65536 ∧ τ.heap o = some (rdO y) ∧ SubX [o] σ τ ∧ τ.tok k = some (3, 1) ∧ σ.tok k = none) (fun ⟨τ, n, L, y, k⟩ => [(0, .ref o 0), (1, .fn (.func G) fs cp), (5, .own k 1 (L.map vInt)), (6, vInt n)]) (fun ⟨τ, n, L, y, k⟩ => τ) ((σ.newTok none k5 (3, 1)).set o (rdO x0), N, [], x0, k5) ?_ ?_ ?_ ?_
 ·exact ⟨rfl, by simpa using hNb, Store.set_get .., SubX.trans (bm_ hk5 aX_) SubX.self, by rw [Store.set_tok]; exact Store.newTok_get .., hk5⟩
 ·have R := hN; exact cv_
 ·rw [hx0]; exact Store.Wk.refl _
 rintro ⟨τ, n, L, y, k⟩ ⟨h1, h2, h3, h4, h5, h6⟩
 simp only [ak_, am_]
 refine ab_ ?_
 refine ab_ ?_
 have R := h3
 refine r_ ?_
 iterate 3 refine s_ ?_
 refine gt_ ?_
 refine cE_ rfl rfl v_ rfl (fun hb => av_ (by rfl) (by rfl) (.inr ⟨by rfl, by rfl, by rfl⟩) g_ cg_ (k9_ h3)) ?_
 refine gt_ ?_
 refine s_ ?_
 refine aa_ ?_
 refine cd_ (fun hc3 => ?_) (fun hc3 => ?_)
 ·refine ae_ ?_
  refine ab_ ?_
  refine ag_ ?_
  have hn0 : 0 < n ∧ y.2 = true := by simpa using hc3
  have hn1 : n = (n - 1) + 1 := by omega
  have hn2 : (n : Int) - 1 = ((n - 1 : Nat) : Int) := by omega
  have hy := hn0.2
  refine r_ ?_
  iterate 2 refine s_ ?_
  refine aL_X rfl rfl (aU_ rfl rfl (.inl v_) g_ va_ (hf _ _ h3 (hK _ _ hKσ h4)) ?_); rintro _ υ ⟨rfl, hu1, hu2⟩
  refine ao_ rfl rfl rfl g_ g_ rfl rfl h_ c2_ (by decide) ?_
  have R := hu2.2 _ _ h5
  refine aM_ rfl rfl rfl g_ g_ v_ h_ v_ c_ (by simp; omega) fun k22 hk22 => ?_
  refine s_ ?_
  refine aa_ ?_
  refine r_ ?_
  iterate 3 refine s_ ?_
  refine aa_ ?_
  refine aC_ (ι := Store × Nat × List Int × Rd × Nat) (i := ⟨τ, n, L, y, k⟩) (υ.newTok (some k) k22 (3, 1), n - 1, L ++ [(f y).1], (f y).2, k22) ?_ ?_ ?_ ?_
  ·show n - 1 < n; omega
  ·exact ⟨by rw [h1, hn1, aQ_, hy]; simp, by simp; omega, hu1, SubX.newTok (SubX.trans h4 hu2) (fun j hj => by cases hj; exact h6) hk22, Store.newTok_get .., SubX.noTok (SubX.trans h4 hu2) hk22⟩
  ·have R := hn2; exact cv_
  ·exact Store.Wk.refl _
 ·refine an_ ?_
  refine ad_ ?_
  refine ad_ ?_
  refine aj_ ?_
  refine ab_ ?_
  refine ab_ ?_
  skip
  have hs : bp_ f x = if y.2 then (L ++ (aQ_ f n y).1, (aQ_ f n y).2) else ([], y) := by
   unfold bp_
   rw [hN, hx0]
   dsimp only
   rw [h1]
   cases hy : y.2 with
   |false => rw [dk_ f hy]; simp [hy]
   |true =>
    have : n = 0 := by rw [hy] at hc3; simp at hc3; omega
    subst this
    simp [aQ_, hy]
  refine r_ ?_
  refine s_ ?_
  refine x_ g_ va_ (k9_ h3) ?_; rintro _ _ ⟨rfl, rfl⟩
  refine aa_ ?_
  refine cd_ (fun hc6 => ?_) (fun hc6 => ?_)
  ·refine rr_ ?_
   refine s_ ?_
   refine aa_ ?_
   refine af_ ?_
   rw [hc6] at hs
   refine aw_ (v := .sl 1 ((bp_ f x).1.map vInt) false) (v' := .lit (.slice none 0 0)) (σ' := τ) va_ ?_ (Store.Wk.refl _) ⟨rfl, ?_, h4⟩
   ·rw [hs]; exact .nil _ _
   ·rw [hs]; exact h3
  ·refine ae_ ?_
   refine rr_ ?_
   iterate 2 refine s_ ?_
   refine aa_ ?_
   refine af_ ?_
   rw [hc6] at hs
   have hn : n = 0 := by rw [hc6] at hc3; simp at hc3; omega
   subst hn
   refine aw_ (v := .sl 1 ((bp_ f x).1.map vInt) false) (v' := .own k 1 (L.map vInt)) (σ' := τ) va_ ?_ (Store.Wk.refl _) ⟨rfl, ?_, h4⟩
   ·rw [hs]; simp [aQ_]; exact .own1 _ _ _
   ·rw [hs]; exact h3
theorem pW_ {o G : Nat} {x : Rd} {σ : Store} {fs cp : List AVal} {f : Rd → Seen × Rd} (Kp : Store → Prop) (hgo : isGo Tryz.prog G = true) (hK : ∀ τ τ', Kp τ → SubX [o] τ τ' → Kp τ') (ho : σ.heap o = some (rdO x)) (hKσ : Kp σ)
  (hf : ∀ τ y, τ.heap o = some (rdO y) → Kp τ → ai_ Tryz.prog G (fs ++ [] ++ cp) τ fun v τ' => v = az_ (f y).1 ∧ τ'.heap o = some (rdO (f y).2) ∧ SubX [o] τ τ') :
  ai_ Tryz.prog 249 [.ref o 0, .fn (.func G) fs cp] σ fun v σ' => v = .sl 3 ((bp_ f x).1.map az_) false ∧ σ'.heap o = some (rdO (bp_ f x).2) ∧ SubX [o] σ σ' := by
 obtain ⟨N, hN⟩ : ∃ N, (bu_ x 65536).1 = N := ⟨_, rfl⟩
 obtain ⟨x0, hx0⟩ : ∃ x0, (bu_ x 65536).2 = x0 := ⟨_, rfl⟩
 have hNb : N ≤ 65536 := by rw [← hN]; exact dG_ _ _
 refine en_ Tryz.func249 Tryz.ntmps249 Tryz.results249 ?_
 refine rr_ ?_
 refine s_ ?_
 refine aa_ ?_
 refine rr_ ?_
 refine a8_ 96 3 rfl rfl rfl (by rfl) fun k5 hk5 => ?_
 refine aa_ ?_
 refine ab_ ?_
 refine ab_ ?_
 have R := And.intro hN hx0
 refine r_ ?_
 refine s_ ?_
 refine x_ g_ va_ (eT_ (m := 65536) ho) ?_; rintro _ _ ⟨rfl, rfl⟩
 refine s_ ?_
 refine aa_ ?_
 refine ag_ ?_
 refine ah_ (ι := Store × Nat × List Seen × Rd × Nat) (fun ⟨τ, n, L, y, k⟩ => n) (fun ⟨τ, n, L, y, k⟩ => aQ_ f N x0 = (L ++ (aQ_ f n y).1, (aQ_ f n y).2) ∧ L.length + n ≤ 65536 ∧ τ.heap o = some (rdO y) ∧ SubX [o] σ τ ∧ τ.tok k = some (96, 3) ∧ σ.tok k = none) (fun ⟨τ, n, L, y, k⟩ => [(0, .ref o 0), (1, .fn (.func G) fs cp), (5, .own k 3 (L.map az_)), (6, vInt n)]) (fun ⟨τ, n, L, y, k⟩ => τ) ((σ.newTok none k5 (96, 3)).set o (rdO x0), N, [], x0, k5) ?_ ?_ ?_ ?_
 ·exact ⟨rfl, by simpa using hNb, Store.set_get .., SubX.trans (bm_ hk5 aX_) SubX.self, by rw [Store.set_tok]; exact Store.newTok_get .., hk5⟩
 ·have R := hN; exact cv_
 ·rw [hx0]; exact Store.Wk.refl _
 rintro ⟨τ, n, L, y, k⟩ ⟨h1, h2, h3, h4, h5, h6⟩
 simp only [ak_, am_]
 refine ab_ ?_
 refine ab_ ?_
 have R := h3
 refine r_ ?_
 iterate 3 refine s_ ?_
 refine gt_ ?_
 refine cE_ rfl rfl v_ rfl (fun hb => av_ (by rfl) (by rfl) (.inr ⟨by rfl, by rfl, by rfl⟩) g_ cg_ (k9_ h3)) ?_
 refine gt_ ?_
 refine s_ ?_
 refine aa_ ?_
 refine cd_ (fun hc3 => ?_) (fun hc3 => ?_)
 ·refine ae_ ?_
  refine ab_ ?_
  refine ag_ ?_
  have hn0 : 0 < n ∧ y.2 = true := by simpa using hc3
  have hn1 : n = (n - 1) + 1 := by omega
  have hn2 : (n : Int) - 1 = ((n - 1 : Nat) : Int) := by omega
  have hy := hn0.2
  refine r_ ?_
  iterate 2 refine s_ ?_
  refine aL_X rfl rfl (aU_ rfl rfl (.inl v_) g_ va_ (hf _ _ h3 (hK _ _ hKσ h4)) ?_); rintro _ υ ⟨rfl, hu1, hu2⟩
  refine ao_ rfl rfl rfl g_ g_ rfl rfl h_ c2_ (by decide) ?_
  have R := hu2.2 _ _ h5
  refine aM_ rfl rfl rfl g_ g_ v_ h_ v_ c_ (by simp; omega) fun k22 hk22 => ?_
  refine s_ ?_
  refine aa_ ?_
  refine r_ ?_
  iterate 3 refine s_ ?_
  refine aa_ ?_
  refine aC_ (ι := Store × Nat × List Seen × Rd × Nat) (i := ⟨τ, n, L, y, k⟩) (υ.newTok (some k) k22 (96, 3), n - 1, L ++ [(f y).1], (f y).2, k22) ?_ ?_ ?_ ?_
  ·show n - 1 < n; omega
  ·exact ⟨by rw [h1, hn1, aQ_, hy]; simp, by simp; omega, hu1, SubX.newTok (SubX.trans h4 hu2) (fun j hj => by cases hj; exact h6) hk22, Store.newTok_get .., SubX.noTok (SubX.trans h4 hu2) hk22⟩
  ·have R := hn2; exact cv_
  ·exact Store.Wk.refl _
 ·refine an_ ?_
  refine ad_ ?_
  refine ad_ ?_
  refine aj_ ?_
  refine ab_ ?_
  refine ab_ ?_
  skip
  have hs : bp_ f x = if y.2 then (L ++ (aQ_ f n y).1, (aQ_ f n y).2) else ([], y) := by
   unfold bp_
   rw [hN, hx0]
   dsimp only
   rw [h1]
   cases hy : y.2 with
   |false => rw [dk_ f hy]; simp [hy]
   |true =>
    have : n = 0 := by rw [hy] at hc3; simp at hc3; omega
    subst this
    simp [aQ_, hy]
  refine r_ ?_
  refine s_ ?_
  refine x_ g_ va_ (k9_ h3) ?_; rintro _ _ ⟨rfl, rfl⟩
  refine aa_ ?_
  refine cd_ (fun hc6 => ?_) (fun hc6 => ?_)
  ·refine rr_ ?_
   refine s_ ?_
   refine aa_ ?_
   refine af_ ?_
   rw [hc6] at hs
   refine aw_ (v := .sl 3 ((bp_ f x).1.map az_) false) (v' := .lit (.slice none 0 0)) (σ' := τ) va_ ?_ (Store.Wk.refl _) ⟨rfl, ?_, h4⟩
   ·rw [hs]; exact .nil _ _
   ·rw [hs]; exact h3
  ·refine ae_ ?_
   refine rr_ ?_
   iterate 2 refine s_ ?_
   refine aa_ ?_
   refine af_ ?_
   rw [hc6] at hs
   have hn : n = 0 := by rw [hc6] at hc3; simp at hc3; omega
   subst hn
   refine aw_ (v := .sl 3 ((bp_ f x).1.map az_) false) (v' := .own k 3 (L.map az_)) (σ' := τ) va_ ?_ (Store.Wk.refl _) ⟨rfl, ?_, h4⟩
   ·rw [hs]; simp [aQ_]; exact .own1 _ _ _
   ·rw [hs]; exact h3
theorem rV_ {o G : Nat} {x : Rd} {σ : Store} {fs cp : List AVal} {f : Rd → Sib × Rd} (Kp : Store → Prop) (hgo : isGo Tryz.prog G = true) (hK : ∀ τ τ', Kp τ → SubX [o] τ τ' → Kp τ') (ho : σ.heap o = some (rdO x)) (hKσ : Kp σ)
  (hf : ∀ τ y, τ.heap o = some (rdO y) → Kp τ → ai_ Tryz.prog G (fs ++ [] ++ cp) τ fun v τ' => v = sSib (f y).1 ∧ τ'.heap o = some (rdO (f y).2) ∧ SubX [o] τ τ') :
  ai_ Tryz.prog 210 [.ref o 0, .fn (.func G) fs cp] σ fun v σ' => v = .sl 5 ((bp_ f x).1.map sSib) false ∧ σ'.heap o = some (rdO (bp_ f x).2) ∧ SubX [o] σ σ' := by
 obtain ⟨N, hN⟩ : ∃ N, (bu_ x 65536).1 = N := ⟨_, rfl⟩
 obtain ⟨x0, hx0⟩ : ∃ x0, (bu_ x 65536).2 = x0 := ⟨_, rfl⟩
 have hNb : N ≤ 65536 := by rw [← hN]; exact dG_ _ _
 refine en_ Tryz.func210 Tryz.ntmps210 Tryz.results210 ?_
 refine rr_ ?_
 refine s_ ?_
 refine aa_ ?_
 refine rr_ ?_
 refine a8_ 60 5 rfl rfl rfl (by rfl) fun k5 hk5 => ?_
 refine aa_ ?_
 refine ab_ ?_
 refine ab_ ?_
 have R := And.intro hN hx0
 refine r_ ?_
 refine s_ ?_
 refine x_ g_ va_ (eT_ (m := 65536) ho) ?_; rintro _ _ ⟨rfl, rfl⟩
 refine s_ ?_
 refine aa_ ?_
 refine ag_ ?_
 refine ah_ (ι := Store × Nat × List Sib × Rd × Nat) (fun ⟨τ, n, L, y, k⟩ => n) (fun ⟨τ, n, L, y, k⟩ => aQ_ f N x0 = (L ++ (aQ_ f n y).1, (aQ_ f n y).2) ∧ L.length + n ≤ 65536 ∧ τ.heap o = some (rdO y) ∧ SubX [o] σ τ ∧ τ.tok k = some (60, 5) ∧ σ.tok k = none) (fun ⟨τ, n, L, y, k⟩ => [(0, .ref o 0), (1, .fn (.func G) fs cp), (5, .own k 5 (L.map sSib)), (6, vInt n)]) (fun ⟨τ, n, L, y, k⟩ => τ) ((σ.newTok none k5 (60, 5)).set o (rdO x0), N, [], x0, k5) ?_ ?_ ?_ ?_
 ·exact ⟨rfl, by simpa using hNb, Store.set_get .., SubX.trans (bm_ hk5 aX_) SubX.self, by rw [Store.set_tok]; exact Store.newTok_get .., hk5⟩
 ·have R := hN; exact cv_
 ·rw [hx0]; exact Store.Wk.refl _
 rintro ⟨τ, n, L, y, k⟩ ⟨h1, h2, h3, h4, h5, h6⟩
 simp only [ak_, am_]
 refine ab_ ?_
 refine ab_ ?_
 have R := h3
 refine r_ ?_
 iterate 3 refine s_ ?_
 refine gt_ ?_
 refine cE_ rfl rfl v_ rfl (fun hb => av_ (by rfl) (by rfl) (.inr ⟨by rfl, by rfl, by rfl⟩) g_ cg_ (k9_ h3)) ?_
 refine gt_ ?_
 refine s_ ?_
 refine aa_ ?_
 refine cd_ (fun hc3 => ?_) (fun hc3 => ?_)
 ·refine ae_ ?_
  refine ab_ ?_
  refine ag_ ?_
  have hn0 : 0 < n ∧ y.2 = true := by simpa using hc3
  have hn1 : n = (n - 1) + 1 := by omega
  have hn2 : (n : Int) - 1 = ((n - 1 : Nat) : Int) := by omega
  have hy := hn0.2
  refine r_ ?_
  iterate 2 refine s_ ?_
  refine aL_X rfl rfl (aU_ rfl rfl (.inl v_) g_ va_ (hf _ _ h3 (hK _ _ hKσ h4)) ?_); rintro _ υ ⟨rfl, hu1, hu2⟩
  refine ao_ rfl rfl rfl g_ g_ rfl rfl h_ c2_ (by decide) ?_
  have R := hu2.2 _ _ h5
  refine aM_ rfl rfl rfl g_ g_ v_ h_ v_ c_ (by simp; omega) fun k22 hk22 => ?_
  refine s_ ?_
  refine aa_ ?_
  refine r_ ?_
  iterate 3 refine s_ ?_
  refine aa_ ?_
  refine aC_ (ι := Store × Nat × List Sib × Rd × Nat) (i := ⟨τ, n, L, y, k⟩) (υ.newTok (some k) k22 (60, 5), n - 1, L ++ [(f y).1], (f y).2, k22) ?_ ?_ ?_ ?_
  ·show n - 1 < n; omega
  ·exact ⟨by rw [h1, hn1, aQ_, hy]; simp, by simp; omega, hu1, SubX.newTok (SubX.trans h4 hu2) (fun j hj => by cases hj; exact h6) hk22, Store.newTok_get .., SubX.noTok (SubX.trans h4 hu2) hk22⟩
  ·have R := hn2; exact cv_
  ·exact Store.Wk.refl _
 ·refine an_ ?_
  refine ad_ ?_
  refine ad_ ?_
  refine aj_ ?_
  refine ab_ ?_
  refine ab_ ?_
  skip
  have hs : bp_ f x = if y.2 then (L ++ (aQ_ f n y).1, (aQ_ f n y).2) else ([], y) := by
   unfold bp_
   rw [hN, hx0]
   dsimp only
   rw [h1]
   cases hy : y.2 with
   |false => rw [dk_ f hy]; simp [hy]
   |true =>
    have : n = 0 := by rw [hy] at hc3; simp at hc3; omega
    subst this
    simp [aQ_, hy]
  refine r_ ?_
  refine s_ ?_
  refine x_ g_ va_ (k9_ h3) ?_; rintro _ _ ⟨rfl, rfl⟩
  refine aa_ ?_
  refine cd_ (fun hc6 => ?_) (fun hc6 => ?_)
  ·refine rr_ ?_
   refine s_ ?_
   refine aa_ ?_
   refine af_ ?_
   rw [hc6] at hs
   refine aw_ (v := .sl 5 ((bp_ f x).1.map sSib) false) (v' := .lit (.slice none 0 0)) (σ' := τ) va_ ?_ (Store.Wk.refl _) ⟨rfl, ?_, h4⟩
   ·rw [hs]; exact .nil _ _
   ·rw [hs]; exact h3
  ·refine ae_ ?_
   refine rr_ ?_
   iterate 2 refine s_ ?_
   refine aa_ ?_
   refine af_ ?_
   rw [hc6] at hs
   have hn : n = 0 := by rw [hc6] at hc3; simp at hc3; omega
   subst hn
   refine aw_ (v := .sl 5 ((bp_ f x).1.map sSib) false) (v' := .own k 5 (L.map sSib)) (σ' := τ) va_ ?_ (Store.Wk.refl _) ⟨rfl, ?_, h4⟩
   ·rw [hs]; simp [aQ_]; exact .own1 _ _ _
   ·rw [hs]; exact h3
def rdI8 (x : Rd) : Int × Rd := aL_ x 8
def b9_ (x : Rd) : Seen × Rd :=
 let a := as_ x; let b := aL_ a.2 8; let c := bp_ rdI8 b.2
 (⟨B a.1, b.1, c.1⟩, c.2)
def bT_ (x : Rd) : List Seen × Rd := bp_ b9_ x
def cq_ (x : Rd) : Sib × Rd :=
 let a := as_ x; let b := aL_ a.2 8; let c := as_ b.2; let d := aL_ c.2 1; let e := aL_ d.2 8
 (⟨B a.1, b.1, B c.1, !decide (d.1 = 0), e.1⟩, e.2)
def bf_ (x : Rd) : Obj' × Rd :=
 let c := bT_ x; let l := bp_ cq_ c.2
 if l.2.2 then (⟨c.1, l.1⟩, l.2) else (⟨[], []⟩, l.2)
theorem keep {l : List Nat} {a b : Store} {i : Nat} {x : AObj} (h : SubX l a b) (hx : a.heap i = some x) (hi : i ∉ l) : b.heap i = some x := h.1 i x hi hx
theorem lL_ {o : Nat} {x : Rd} {σ : Store} (ho : σ.heap o = some (rdO x)) : ai_ Tryz.prog 158 ([.ref o 0] ++ [] ++ []) σ fun v σ' => v = vInt (rdI8 x).1 ∧ σ'.heap o = some (rdO (rdI8 x).2) ∧ SubX [o] σ σ' :=
 (eo_ ho).mono fun v τ ⟨h1, h2⟩ => ⟨h1, by rw [h2]; exact Store.set_get .., by rw [h2]; exact SubX.self⟩
theorem nZ_ {o ob : Nat} {x : Rd} {σ : Store} (ho : σ.heap o = some (rdO x)) (hb : σ.heap ob = some (.cells [.ref o 0])) : ai_ Tryz.prog 250 [.ref ob 0] σ fun v σ' => v = az_ (b9_ x).1 ∧ σ'.heap o = some (rdO (b9_ x).2) ∧ SubX [o] σ σ' := by
 have hne : ob ≠ o := fun hh => by rw [hh, ho] at hb; cases hb
 refine en_ Tryz.func250 Tryz.ntmps250 Tryz.results250 ?_
 refine rr_ ?_
 refine lc_ fun o1 ho1 => ?_
 repeat (rw [ac_] at ho1; obtain ⟨_, ho1⟩ := ho1)
 refine aa_ ?_
 have n1 := aF_ ho ho1
 have n1b := aF_ hb ho1
 refine rr_ ?_
 refine lc_ fun o2 ho2 => ?_
 repeat (rw [ac_] at ho2; obtain ⟨_, ho2⟩ := ho2)
 refine aa_ ?_
 have n2 := aF_ ho ho2
 have n2b := aF_ hb ho2
 refine ab_ ?_
 have R := hb
 refine ap_ (.alt 0 2 (.alt 1 2 (.op 4 0 (.op 2 2 (.op 3 2 (.op 5 2 (.op 6 0 (.op 7 2 .nil)))))) (.op 2 2 (.op 1 2 (.op 4 0 (.op 3 2 (.op 5 2 (.op 6 0 (.op 7 2 .nil)))))))) (.op 2 2 (.op 0 2 (.op 1 2 (.op 4 0 (.op 3 2 (.op 5 2 (.op 6 0 (.op 7 2 .nil))))))))) Tryz.mixed kr_ ?_
 refine c8_ ?_ ?_
 ·refine dR_T o_ (by rfl) (by rfl) (aV_ v_ ?_)
  refine c8_ ?_ ?_
  ·refine tx_ o_ g_ va_ (cW_ (x := x) (by first | exact ho | simp (disch := omega) only [Store.set_ne, ho])) ?_; rintro _ _ ⟨rfl, rfl⟩
   refine ds_ ?_
   refine dR_T o_ (by rfl) (by rfl) (aV_ v_ ?_)
   refine tx_ o_ g_ va_ (eo_ (Store.set_get ..)) ?_; rintro _ _ ⟨rfl, rfl⟩
   refine dst_ ?_
   refine ds_ ?_
   refine dst_ ?_
   refine aB_ ?_
   refine ab_ ?_
   have R := hb
   refine r_ ?_
   iterate 3 refine s_ ?_
   refine x_ g_ va_ (jC_ (x := (aL_ (as_ x).2 8).2) (f := rdI8) (fun _ => True) kr_ (fun _ _ _ _ => trivial) h_ trivial (fun _ _ h _ => lL_ h)) ?_; rintro _ υ ⟨rfl, u1, u2⟩
   have R := And.intro (keep (i := o1) u2 h_ (by simp; omega)) (keep (i := o2) u2 h_ (by simp; omega))
   refine s_ ?_
   refine st_ ?_
   refine aa_ ?_
   refine ab_ ?_
   have R := And.intro @R.1 @R.2
   refine r_ ?_
   refine s_ ?_
   refine st_ ?_
   refine aa_ ?_
   refine af_ ?_
   refine au_ v_ (Store.Wk.refl _) ?_
   refine ⟨rfl, by simp (disch := omega) only [Store.set_ne, u1]; rfl, ?_⟩
   exact ar_ ho1 (ar_ ho2 (SubX.trans sub_ u2))
  refine dR_T o_ (by rfl) (by rfl) (aV_ v_ ?_)
  refine tx_ o_ g_ va_ (cW_ (x := x) (by first | exact ho | simp (disch := omega) only [Store.set_ne, ho])) ?_; rintro _ _ ⟨rfl, rfl⟩
  refine ds_ ?_
  refine tx_ o_ g_ va_ (eo_ (Store.set_get ..)) ?_; rintro _ _ ⟨rfl, rfl⟩
  refine dst_ ?_
  refine ds_ ?_
  refine dst_ ?_
  refine aB_ ?_
  refine ab_ ?_
  have R := hb
  refine r_ ?_
  iterate 3 refine s_ ?_
  refine x_ g_ va_ (jC_ (x := (aL_ (as_ x).2 8).2) (f := rdI8) (fun _ => True) kr_ (fun _ _ _ _ => trivial) h_ trivial (fun _ _ h _ => lL_ h)) ?_; rintro _ υ ⟨rfl, u1, u2⟩
  have R := And.intro (keep (i := o1) u2 h_ (by simp; omega)) (keep (i := o2) u2 h_ (by simp; omega))
  refine s_ ?_
  refine st_ ?_
  refine aa_ ?_
  refine ab_ ?_
  have R := And.intro @R.1 @R.2
  refine r_ ?_
  refine s_ ?_
  refine st_ ?_
  refine aa_ ?_
  refine af_ ?_
  refine au_ v_ (Store.Wk.refl _) ?_
  refine ⟨rfl, by simp (disch := omega) only [Store.set_ne, u1]; rfl, ?_⟩
  exact ar_ ho1 (ar_ ho2 (SubX.trans sub_ u2))
 refine dR_T o_ (by rfl) (by rfl) (aV_ v_ ?_)
 refine dR_T o_ (by rfl) (by rfl) (aV_ v_ ?_)
 refine tx_ o_ g_ va_ (cW_ (x := x) (by first | exact ho | simp (disch := omega) only [Store.set_ne, ho])) ?_; rintro _ _ ⟨rfl, rfl⟩
 refine ds_ ?_
 refine tx_ o_ g_ va_ (eo_ (Store.set_get ..)) ?_; rintro _ _ ⟨rfl, rfl⟩
 refine dst_ ?_
 refine ds_ ?_
 refine dst_ ?_
 refine aB_ ?_
 refine ab_ ?_
 have R := hb
 refine r_ ?_
 iterate 3 refine s_ ?_
 refine x_ g_ va_ (jC_ (x := (aL_ (as_ x).2 8).2) (f := rdI8) (fun _ => True) kr_ (fun _ _ _ _ => trivial) h_ trivial (fun _ _ h _ => lL_ h)) ?_; rintro _ υ ⟨rfl, u1, u2⟩
 have R := And.intro (keep (i := o1) u2 h_ (by simp; omega)) (keep (i := o2) u2 h_ (by simp; omega))
 refine s_ ?_
 refine st_ ?_
 refine aa_ ?_
 refine ab_ ?_
 have R := And.intro @R.1 @R.2
 refine r_ ?_
 refine s_ ?_
 refine st_ ?_
 refine aa_ ?_
 refine af_ ?_
 refine au_ v_ (Store.Wk.refl _) ?_
 refine ⟨rfl, by simp (disch := omega) only [Store.set_ne, u1]; rfl, ?_⟩
 exact ar_ ho1 (ar_ ho2 (SubX.trans sub_ u2))
theorem pK_ {o : Nat} {x : Rd} {σ : Store} (ho : σ.heap o = some (rdO x)) : ai_ Tryz.prog 209 [.ref o 0] σ fun v σ' => v = .sl 3 ((bT_ x).1.map az_) false ∧ σ'.heap o = some (rdO (bT_ x).2) ∧ SubX [o] σ σ' := by
 refine en_ Tryz.func209 Tryz.ntmps209 Tryz.results209 ?_
 refine rr_ ?_
 refine bx_ fun o1 ho1 => ?_
 repeat (rw [ac_] at ho1; obtain ⟨_, ho1⟩ := ho1)
 refine s_ ?_
 refine aa_ ?_
 have n1 := aF_ ho ho1
 refine ab_ ?_
 have R := ho
 refine r_ ?_
 iterate 2 refine s_ ?_
 refine x_ g_ va_ (pW_ (x := x) (f := b9_) (fun τ => τ.heap o1 = some (.cells [.ref o 0])) kr_ (fun _ _ h k => keep k h (by simp; omega)) h_ h_ (fun _ _ h k => nZ_ h k)) ?_; rintro _ υ ⟨rfl, u1, u2⟩
 refine s_ ?_
 refine aa_ ?_
 refine af_ ?_
 refine au_ v_ (Store.Wk.refl _) ?_
 exact ⟨rfl, u1, SubX.trans (ar_ ho1 aX_) u2⟩
theorem pM_ {o ob : Nat} {x : Rd} {σ : Store} (ho : σ.heap o = some (rdO x)) (hb : σ.heap ob = some (.cells [.ref o 0])) : ai_ Tryz.prog 211 [.ref ob 0] σ fun v σ' => v = sSib (cq_ x).1 ∧ σ'.heap o = some (rdO (cq_ x).2) ∧ SubX [o] σ σ' := by
 have hne : ob ≠ o := fun hh => by rw [hh, ho] at hb; cases hb
 obtain ⟨z, hz⟩ : ∃ z, AObj.cells [.lit (.string ⟨#[]⟩), .lit (.int .i64 0), .lit (.string ⟨#[]⟩), .lit (.bool false), .lit (.int .i64 0)] = z := ⟨_, rfl⟩
 obtain ⟨x1, e1⟩ : ∃ x1, aL_ (as_ x).2 8 = x1 := ⟨_, rfl⟩
 obtain ⟨x2, e2⟩ : ∃ x2, as_ x1.2 = x2 := ⟨_, rfl⟩
 obtain ⟨x3, e3⟩ : ∃ x3, aL_ x2.2 1 = x3 := ⟨_, rfl⟩
 refine en_ Tryz.func211 Tryz.ntmps211 Tryz.results211 ?_
 refine rr_ ?_
 refine lc_ fun o1 ho1 => ?_
 repeat (rw [ac_] at ho1; obtain ⟨_, ho1⟩ := ho1)
 refine aa_ ?_
 have n1 := aF_ ho ho1
 have n1b := aF_ hb ho1
 refine rr_ ?_
 refine lc_ fun o2 ho2 => ?_
 repeat (rw [ac_] at ho2; obtain ⟨_, ho2⟩ := ho2)
 refine aa_ ?_
 have n2 := aF_ ho ho2
 have n2b := aF_ hb ho2
 refine cf_ (ι := Store) (fun υ => υ.heap o = some (rdO x1.2) ∧ υ.heap ob = some (.cells [.ref o 0]) ∧ υ.heap o1 = some z ∧ υ.heap o2 = some (.cells [vStr (B (as_ x).1), vInt x1.1, .lit (.string ⟨#[]⟩), .lit (.bool false), .lit (.int .i64 0)]) ∧ SubX [o] σ υ) (fun υ => [(0, .ref ob 0), (1, .ref o1 0), (2, .ref o2 0)]) (fun υ => υ) ?_ ?_
 ·have R := hb
  refine ap_ (.alt 0 2 (.alt 1 2 (.op 4 0 (.op 5 0 (.op 2 2 (.op 3 2 (.op 6 2 (.op 7 0 (.op 8 0 (.op 9 2 .nil)))))))) (.op 2 2 (.op 1 2 (.op 4 0 (.op 5 0 (.op 3 2 (.op 6 2 (.op 7 0 (.op 8 0 (.op 9 2 .nil)))))))))) (.op 2 2 (.op 0 2 (.op 1 2 (.op 4 0 (.op 5 0 (.op 3 2 (.op 6 2 (.op 7 0 (.op 8 0 (.op 9 2 .nil))))))))))) Tryz.mixed kr_ ?_
  refine c8_ ?_ ?_
  ·refine dR_T o_ (by rfl) (by rfl) (aV_ v_ ?_)
   refine c8_ ?_ ?_
   ·refine tx_ o_ g_ va_ (cW_ (x := x) (by first | exact ho | simp (disch := omega) only [Store.set_ne, ho])) ?_; rintro _ _ ⟨rfl, rfl⟩
    iterate 2 refine ds_ ?_
    refine dR_T o_ (by rfl) (by rfl) (aV_ v_ ?_)
    refine tx_ o_ g_ va_ (eo_ (Store.set_get ..)) ?_; rintro _ _ ⟨rfl, rfl⟩
    refine dst_ ?_
    iterate 2 refine ds_ ?_
    refine dst_ ?_
    refine aB_ ?_
    refine ⟨((((((σ.set o1 (AObj.cells [.lit (.string ⟨#[]⟩), .lit (.int .i64 0), .lit (.string ⟨#[]⟩), .lit (.bool false), .lit (.int .i64 0)])).set o2 (AObj.cells [.lit (.string ⟨#[]⟩), .lit (.int .i64 0), .lit (.string ⟨#[]⟩), .lit (.bool false), .lit (.int .i64 0)])).set o (rdO (as_ x).2)).set o (rdO (aL_ (as_ x).2 8).2)).set o2 (.cells [vStr (B (as_ x).1), .lit (.int .i64 0), .lit (.string ⟨#[]⟩), .lit (.bool false), .lit (.int .i64 0)])).set o2 (.cells [vStr (B (as_ x).1), vInt (aL_ (as_ x).2 8).1, .lit (.string ⟨#[]⟩), .lit (.bool false), .lit (.int .i64 0)])), ?_, ?_, ?_⟩
    ·rw [← e1, ← hz]; exact ⟨h_, h_, h_, h_, sub_⟩
    ·exact cv_
    ·exact Store.Wk.refl _
   refine dR_T o_ (by rfl) (by rfl) (aV_ v_ ?_)
   refine tx_ o_ g_ va_ (cW_ (x := x) (by first | exact ho | simp (disch := omega) only [Store.set_ne, ho])) ?_; rintro _ _ ⟨rfl, rfl⟩
   iterate 2 refine ds_ ?_
   refine tx_ o_ g_ va_ (eo_ (Store.set_get ..)) ?_; rintro _ _ ⟨rfl, rfl⟩
   refine dst_ ?_
   iterate 2 refine ds_ ?_
   refine dst_ ?_
   refine aB_ ?_
   refine ⟨((((((σ.set o1 (AObj.cells [.lit (.string ⟨#[]⟩), .lit (.int .i64 0), .lit (.string ⟨#[]⟩), .lit (.bool false), .lit (.int .i64 0)])).set o2 (AObj.cells [.lit (.string ⟨#[]⟩), .lit (.int .i64 0), .lit (.string ⟨#[]⟩), .lit (.bool false), .lit (.int .i64 0)])).set o (rdO (as_ x).2)).set o (rdO (aL_ (as_ x).2 8).2)).set o2 (.cells [vStr (B (as_ x).1), .lit (.int .i64 0), .lit (.string ⟨#[]⟩), .lit (.bool false), .lit (.int .i64 0)])).set o2 (.cells [vStr (B (as_ x).1), vInt (aL_ (as_ x).2 8).1, .lit (.string ⟨#[]⟩), .lit (.bool false), .lit (.int .i64 0)])), ?_, ?_, ?_⟩
   ·rw [← e1, ← hz]; exact ⟨h_, h_, h_, h_, sub_⟩
   ·exact cv_
   ·exact Store.Wk.refl _
  refine dR_T o_ (by rfl) (by rfl) (aV_ v_ ?_)
  refine dR_T o_ (by rfl) (by rfl) (aV_ v_ ?_)
  refine tx_ o_ g_ va_ (cW_ (x := x) (by first | exact ho | simp (disch := omega) only [Store.set_ne, ho])) ?_; rintro _ _ ⟨rfl, rfl⟩
  iterate 2 refine ds_ ?_
  refine tx_ o_ g_ va_ (eo_ (Store.set_get ..)) ?_; rintro _ _ ⟨rfl, rfl⟩
  refine dst_ ?_
  iterate 2 refine ds_ ?_
  refine dst_ ?_
  refine aB_ ?_
  refine ⟨((((((σ.set o1 (AObj.cells [.lit (.string ⟨#[]⟩), .lit (.int .i64 0), .lit (.string ⟨#[]⟩), .lit (.bool false), .lit (.int .i64 0)])).set o2 (AObj.cells [.lit (.string ⟨#[]⟩), .lit (.int .i64 0), .lit (.string ⟨#[]⟩), .lit (.bool false), .lit (.int .i64 0)])).set o (rdO (as_ x).2)).set o (rdO (aL_ (as_ x).2 8).2)).set o2 (.cells [vStr (B (as_ x).1), .lit (.int .i64 0), .lit (.string ⟨#[]⟩), .lit (.bool false), .lit (.int .i64 0)])).set o2 (.cells [vStr (B (as_ x).1), vInt (aL_ (as_ x).2 8).1, .lit (.string ⟨#[]⟩), .lit (.bool false), .lit (.int .i64 0)])), ?_, ?_, ?_⟩
  ·rw [← e1, ← hz]; exact ⟨h_, h_, h_, h_, sub_⟩
  ·exact cv_
  ·exact Store.Wk.refl _
 ·rintro υ ⟨u1, u2, u3, u4, u5⟩
  simp only [ak_, am_]
  refine cf_ (ι := Store) (fun φ => φ.heap o = some (rdO x3.2) ∧ φ.heap ob = some (.cells [.ref o 0]) ∧ φ.heap o1 = some z ∧ φ.heap o2 = some (.cells [vStr (B (as_ x).1), vInt x1.1, vStr (B x2.1), .lit (.bool (!decide (x3.1 = 0))), .lit (.int .i64 0)]) ∧ SubX [o] σ φ) (fun φ => [(0, .ref ob 0), (1, .ref o1 0), (2, .ref o2 0)]) (fun φ => φ) ?_ ?_
  ·have R := And.intro u2 u4
   refine ap_ (.alt 0 2 (.alt 1 2 (.op 5 0 (.op 2 2 (.op 3 2 (.alt 4 2 (.op 6 2 (.op 7 0 (.op 8 2 .nil))) (.op 6 2 (.op 4 2 (.op 7 0 (.op 8 2 .nil)))))))) (.op 2 2 (.op 1 2 (.op 5 0 (.op 3 2 (.alt 4 2 (.op 6 2 (.op 7 0 (.op 8 2 .nil))) (.op 6 2 (.op 4 2 (.op 7 0 (.op 8 2 .nil)))))))))) (.op 2 2 (.op 0 2 (.op 1 2 (.op 5 0 (.op 3 2 (.alt 4 2 (.op 6 2 (.op 7 0 (.op 8 2 .nil))) (.op 6 2 (.op 4 2 (.op 7 0 (.op 8 2 .nil))))))))))) Tryz.mixed kr_ ?_
   refine c8_ ?_ ?_
   ·refine dR_T o_ (by rfl) (by rfl) (aV_ v_ ?_)
    refine c8_ ?_ ?_
    ·refine tx_ o_ g_ va_ (cW_ (x := x1.2) (by simp (disch := omega) only [Store.set_ne, u1])) ?_; rintro _ _ ⟨rfl, rfl⟩
     refine ds_ ?_
     refine dR_T o_ (by rfl) (by rfl) (aV_ v_ ?_)
     refine tx_ o_ g_ va_ (hi_ (Store.set_get ..)) ?_; rintro _ _ ⟨rfl, rfl⟩
     refine c8_ ?_ ?_
     ·refine dR_T o_ (by rfl) (by rfl) (aV_ v_ ?_)
      refine dst_ ?_
      refine ds_ ?_
      refine dst_ ?_
      refine aB_ ?_
      refine ⟨((((υ.set o (rdO (as_ x1.2).2)).set o (rdO (aL_ (as_ x1.2).2 1).2)).set o2 (.cells [vStr (B (as_ x).1), vInt x1.1, vStr (B (as_ x1.2).1), .lit (.bool false), .lit (.int .i64 0)])).set o2 (.cells [vStr (B (as_ x).1), vInt x1.1, vStr (B (as_ x1.2).1), .lit (.bool (!decide ((aL_ (as_ x1.2).2 1).1 = 0))), .lit (.int .i64 0)])), ?_, ?_, ?_⟩
      ·rw [← e3, ← e2]; exact ⟨by simp (disch := omega) only [Store.set_ne, Store.set_get], by simp (disch := omega) only [Store.set_ne, u2], by simp (disch := omega) only [Store.set_ne, u3], h_, ar_ ho2 (ar_ ho2 (bv_ (.head _) (bv_ (.head _) u5)))⟩
      ·exact cv_
      ·exact Store.Wk.refl _
     refine dst_ ?_
     refine dR_T o_ (by rfl) (by rfl) (aV_ v_ ?_)
     refine ds_ ?_
     refine dst_ ?_
     refine aB_ ?_
     refine ⟨((((υ.set o (rdO (as_ x1.2).2)).set o (rdO (aL_ (as_ x1.2).2 1).2)).set o2 (.cells [vStr (B (as_ x).1), vInt x1.1, vStr (B (as_ x1.2).1), .lit (.bool false), .lit (.int .i64 0)])).set o2 (.cells [vStr (B (as_ x).1), vInt x1.1, vStr (B (as_ x1.2).1), .lit (.bool (!decide ((aL_ (as_ x1.2).2 1).1 = 0))), .lit (.int .i64 0)])), ?_, ?_, ?_⟩
     ·rw [← e3, ← e2]; exact ⟨by simp (disch := omega) only [Store.set_ne, Store.set_get], by simp (disch := omega) only [Store.set_ne, u2], by simp (disch := omega) only [Store.set_ne, u3], h_, ar_ ho2 (ar_ ho2 (bv_ (.head _) (bv_ (.head _) u5)))⟩
     ·exact cv_
     ·exact Store.Wk.refl _
    refine dR_T o_ (by rfl) (by rfl) (aV_ v_ ?_)
    refine tx_ o_ g_ va_ (cW_ (x := x1.2) (by simp (disch := omega) only [Store.set_ne, u1])) ?_; rintro _ _ ⟨rfl, rfl⟩
    refine ds_ ?_
    refine tx_ o_ g_ va_ (hi_ (Store.set_get ..)) ?_; rintro _ _ ⟨rfl, rfl⟩
    refine c8_ ?_ ?_
    ·refine dR_T o_ (by rfl) (by rfl) (aV_ v_ ?_)
     refine dst_ ?_
     refine ds_ ?_
     refine dst_ ?_
     refine aB_ ?_
     refine ⟨((((υ.set o (rdO (as_ x1.2).2)).set o (rdO (aL_ (as_ x1.2).2 1).2)).set o2 (.cells [vStr (B (as_ x).1), vInt x1.1, vStr (B (as_ x1.2).1), .lit (.bool false), .lit (.int .i64 0)])).set o2 (.cells [vStr (B (as_ x).1), vInt x1.1, vStr (B (as_ x1.2).1), .lit (.bool (!decide ((aL_ (as_ x1.2).2 1).1 = 0))), .lit (.int .i64 0)])), ?_, ?_, ?_⟩
     ·rw [← e3, ← e2]; exact ⟨by simp (disch := omega) only [Store.set_ne, Store.set_get], by simp (disch := omega) only [Store.set_ne, u2], by simp (disch := omega) only [Store.set_ne, u3], h_, ar_ ho2 (ar_ ho2 (bv_ (.head _) (bv_ (.head _) u5)))⟩
     ·exact cv_
     ·exact Store.Wk.refl _
    refine dst_ ?_
    refine dR_T o_ (by rfl) (by rfl) (aV_ v_ ?_)
    refine ds_ ?_
    refine dst_ ?_
    refine aB_ ?_
    refine ⟨((((υ.set o (rdO (as_ x1.2).2)).set o (rdO (aL_ (as_ x1.2).2 1).2)).set o2 (.cells [vStr (B (as_ x).1), vInt x1.1, vStr (B (as_ x1.2).1), .lit (.bool false), .lit (.int .i64 0)])).set o2 (.cells [vStr (B (as_ x).1), vInt x1.1, vStr (B (as_ x1.2).1), .lit (.bool (!decide ((aL_ (as_ x1.2).2 1).1 = 0))), .lit (.int .i64 0)])), ?_, ?_, ?_⟩
    ·rw [← e3, ← e2]; exact ⟨by simp (disch := omega) only [Store.set_ne, Store.set_get], by simp (disch := omega) only [Store.set_ne, u2], by simp (disch := omega) only [Store.set_ne, u3], h_, ar_ ho2 (ar_ ho2 (bv_ (.head _) (bv_ (.head _) u5)))⟩
    ·exact cv_
    ·exact Store.Wk.refl _
   refine dR_T o_ (by rfl) (by rfl) (aV_ v_ ?_)
   refine dR_T o_ (by rfl) (by rfl) (aV_ v_ ?_)
   refine tx_ o_ g_ va_ (cW_ (x := x1.2) (by simp (disch := omega) only [Store.set_ne, u1])) ?_; rintro _ _ ⟨rfl, rfl⟩
   refine ds_ ?_
   refine tx_ o_ g_ va_ (hi_ (Store.set_get ..)) ?_; rintro _ _ ⟨rfl, rfl⟩
   refine c8_ ?_ ?_
   ·refine dR_T o_ (by rfl) (by rfl) (aV_ v_ ?_)
    refine dst_ ?_
    refine ds_ ?_
    refine dst_ ?_
    refine aB_ ?_
    refine ⟨((((υ.set o (rdO (as_ x1.2).2)).set o (rdO (aL_ (as_ x1.2).2 1).2)).set o2 (.cells [vStr (B (as_ x).1), vInt x1.1, vStr (B (as_ x1.2).1), .lit (.bool false), .lit (.int .i64 0)])).set o2 (.cells [vStr (B (as_ x).1), vInt x1.1, vStr (B (as_ x1.2).1), .lit (.bool (!decide ((aL_ (as_ x1.2).2 1).1 = 0))), .lit (.int .i64 0)])), ?_, ?_, ?_⟩
    ·rw [← e3, ← e2]; exact ⟨by simp (disch := omega) only [Store.set_ne, Store.set_get], by simp (disch := omega) only [Store.set_ne, u2], by simp (disch := omega) only [Store.set_ne, u3], h_, ar_ ho2 (ar_ ho2 (bv_ (.head _) (bv_ (.head _) u5)))⟩
    ·exact cv_
    ·exact Store.Wk.refl _
   refine dst_ ?_
   refine dR_T o_ (by rfl) (by rfl) (aV_ v_ ?_)
   refine ds_ ?_
   refine dst_ ?_
   refine aB_ ?_
   refine ⟨((((υ.set o (rdO (as_ x1.2).2)).set o (rdO (aL_ (as_ x1.2).2 1).2)).set o2 (.cells [vStr (B (as_ x).1), vInt x1.1, vStr (B (as_ x1.2).1), .lit (.bool false), .lit (.int .i64 0)])).set o2 (.cells [vStr (B (as_ x).1), vInt x1.1, vStr (B (as_ x1.2).1), .lit (.bool (!decide ((aL_ (as_ x1.2).2 1).1 = 0))), .lit (.int .i64 0)])), ?_, ?_, ?_⟩
   ·rw [← e3, ← e2]; exact ⟨by simp (disch := omega) only [Store.set_ne, Store.set_get], by simp (disch := omega) only [Store.set_ne, u2], by simp (disch := omega) only [Store.set_ne, u3], h_, ar_ ho2 (ar_ ho2 (bv_ (.head _) (bv_ (.head _) u5)))⟩
   ·exact cv_
   ·exact Store.Wk.refl _
  ·rintro φ ⟨q1, q2, q3, q4, q5⟩
   simp only [ak_, am_]
   refine ab_ ?_
   have R := And.intro q2 q4
   refine r_ ?_
   refine s_ ?_
   refine x_ g_ va_ (eo_ (x := x3.2) q1) ?_; rintro _ _ ⟨rfl, rfl⟩
   refine s_ ?_
   refine st_ ?_
   refine aa_ ?_
   refine ab_ ?_
   have q3' : φ.heap o1 = some (.cells [.lit (.string ⟨#[]⟩), .lit (.int .i64 0), .lit (.string ⟨#[]⟩), .lit (.bool false), .lit (.int .i64 0)]) := by rw [q3, hz]
   have R := And.intro q3' q4
   refine r_ ?_
   refine s_ ?_
   refine st_ ?_
   refine aa_ ?_
   refine af_ ?_
   refine au_ v_ (Store.Wk.refl _) ?_
   refine ⟨by rw [← e1] at e2; subst e2; subst e1; subst e3; rfl, by simp (disch := omega) only [Store.set_ne, Store.set_get]; rw [← e3, ← e2, ← e1]; rfl, ar_ ho1 (ar_ ho2 (bv_ (.head _) q5))⟩
theorem pL_ {o : Nat} {x : Rd} {σ : Store} (ho : σ.heap o = some (rdO x)) : ai_ Tryz.prog 154 [.ref o 0] σ fun v σ' => v = sObj (bf_ x).1 ∧ σ'.heap o = some (rdO (bf_ x).2) ∧ SubX [o] σ σ' := by
 refine en_ Tryz.func154 Tryz.ntmps154 Tryz.results154 ?_
 refine rr_ ?_
 refine bx_ fun o1 ho1 => ?_
 repeat (rw [ac_] at ho1; obtain ⟨_, ho1⟩ := ho1)
 refine lc_ fun o2 ho2 => ?_
 repeat (rw [ac_] at ho2; obtain ⟨_, ho2⟩ := ho2)
 refine aa_ ?_
 have n1 := aF_ ho ho1
 have n2 := aF_ ho ho2
 refine ab_ ?_
 have R := ho
 refine r_ ?_
 refine s_ ?_
 refine x_ g_ va_ (pK_ (x := x) h_) ?_; rintro _ υ ⟨rfl, u1, u2⟩
 have k1 := keep (i := o1) (x := .cells [.ref o 0]) u2 h_ (by simp; omega)
 have k2 := keep (i := o2) (x := .cells [.lit (.slice none 0 0), .lit (.slice none 0 0)]) u2 h_ (by simp; omega)
 have R := And.intro k1 k2
 refine s_ ?_
 refine lc_ fun o3 ho3 => ?_
 repeat (rw [ac_] at ho3; obtain ⟨_, ho3⟩ := ho3)
 refine st_ ?_
 refine aa_ ?_
 have m1 := aF_ k1 ho3
 have m2 := aF_ k2 ho3
 have m3 := aF_ u1 ho3
 refine ab_ ?_
 have R := And.intro k1 (And.intro k2 u1)
 refine r_ ?_
 iterate 2 refine s_ ?_
 refine x_ g_ va_ (rV_ (x := (bT_ x).2) (f := cq_) (fun τ => τ.heap o1 = some (.cells [.ref o 0])) kr_ (fun _ _ h k => keep k h (by simp; omega)) h_ h_ (fun _ _ h k => pM_ h k)) ?_; rintro _ φ ⟨rfl, q1, q2⟩
 have l1 := keep (i := o1) (x := .cells [.ref o 0]) q2 h_ (by simp; omega)
 have l2 := keep (i := o2) (x := .cells [.lit (.slice none 0 0), .lit (.slice none 0 0)]) q2 h_ (by simp; omega)
 have l3 := keep (i := o3) (x := .cells [.sl 3 ((bT_ x).1.map az_) false, .lit (.slice none 0 0)]) q2 h_ (by simp; omega)
 have R := l3
 refine s_ ?_
 refine st_ ?_
 refine aa_ ?_
 refine ab_ ?_
 refine ab_ ?_
 have hs0 : SubX [o] σ φ := SubX.trans (SubX.trans (ar_ ho2 (ar_ ho1 aX_)) u2) (SubX.trans (ar_ ho3 (ar_ ho3 aX_)) q2)
 have hn3 : σ.heap o3 = none := by
  cases hh : σ.heap o3 with
  |none => rfl
  |some y =>
   have h1 : ((σ.set o1 (.cells [.ref o 0])).set o2 (.cells [.lit (.slice none 0 0), .lit (.slice none 0 0)])).heap o3 = some y := by simp (disch := omega) only [Store.set_ne, hh]
   have := u2.1 o3 y (by simp; omega) h1
   rw [ho3] at this; cases this
 have R := l1
 refine r_ ?_
 have hr : bf_ x = if (bp_ cq_ (bT_ x).2).2.2 then (⟨(bT_ x).1, (bp_ cq_ (bT_ x).2).1⟩, (bp_ cq_ (bT_ x).2).2) else (⟨[], []⟩, (bp_ cq_ (bT_ x).2).2) := rfl
 refine s_ ?_
 refine x_ g_ va_ (k9_ (x := (bp_ cq_ (bT_ x).2).2) (by simp (disch := omega) only [Store.set_ne, q1])) ?_; rintro _ _ ⟨rfl, rfl⟩
 refine aa_ ?_
 refine cd_ (fun hc3 => ?_) (fun hc3 => ?_)
 ·refine ab_ ?_
  have R := And.intro l2 l3
  refine r_ ?_
  refine s_ ?_
  refine st_ ?_
  refine aa_ ?_
  refine af_ ?_
  rw [hc3] at hr
  have hr1 : bf_ x = (⟨[], []⟩, (bp_ cq_ (bT_ x).2).2) := by rw [hr]; rfl
  rw [hr1]
  exact aw_ (v := sObj ⟨[], []⟩) (v' := .agg [.lit (.slice none 0 0), .lit (.slice none 0 0)]) va_ (.agg _ _ rfl (fun i hi hi' => by match i, hi with | 0, _ => exact .nil _ _ | 1, _ => exact .nil _ _)) (Store.Wk.refl _) ⟨rfl, by simp (disch := omega) only [Store.set_ne, q1], ar_ ho2 (ar_ hn3 hs0)⟩
 ·refine ae_ ?_
  refine ab_ ?_
  have R := And.intro l2 l3
  refine r_ ?_
  refine s_ ?_
  refine st_ ?_
  refine aa_ ?_
  refine af_ ?_
  rw [hc3] at hr
  have hr1 : bf_ x = (⟨(bT_ x).1, (bp_ cq_ (bT_ x).2).1⟩, (bp_ cq_ (bT_ x).2).2) := by rw [hr]; rfl
  rw [hr1]
  exact au_ va_ (Store.Wk.refl _) ⟨rfl, by simp (disch := omega) only [Store.set_ne, q1], ar_ ho2 (ar_ hn3 hs0)⟩
abbrev rfO (x : Rd) : AObj := .cells [vStr (B x.1), eu_ (!x.2)]
theorem t6_ {o n : Nat} {s : List UInt8} {g : Bool} {σ : Store} (ho : σ.heap o = some (.cells [vStr (B s), eu_ (!g)])) : ai_ Tryz.prog 124 [.ref o 0, vInt n] σ fun v σ' => v = .tup [vStr (B (aW_ (s, g) n).1), eu_ (aW_ (s, g) n).2.2] ∧ σ' = σ.set o (rfO (aW_ (s, g) n).2) := by
 refine en_ Tryz.func124 Tryz.ntmps124 Tryz.results124 ?_
 refine ab_ ?_
 have R := And.intro ho a3_
 refine r_ ?_
 iterate 2 refine s_ ?_
 refine aa_ ?_
 refine ab_ ?_
 refine ab_ ?_
 have R := And.intro ho a3_
 refine r_ ?_
 iterate 5 refine s_ ?_
 refine gf_ ?_
 refine gf_ ?_
 refine gf_ ?_
 refine gf_ ?_
 refine gf_ ?_
 refine gf_ ?_
 refine gf_ ?_
 refine s_ ?_
 refine aa_ ?_
 refine cd_ (fun hc1 => ?_) (fun hc1 => ?_)
 ·refine ab_ ?_
  have R := And.intro ho a3_
  refine r_ ?_
  iterate 3 refine s_ ?_
  refine st_ ?_
  refine aa_ ?_
  refine ab_ ?_
  have R := And.intro ho a3_
  refine r_ ?_
  iterate 2 refine s_ ?_
  refine aa_ ?_
  refine af_ ?_
  refine au_ v_ (Store.Wk.refl _) ?_
  rw [kE_ (by rcases hc1 with h | h; exact .inl (by simpa using h); exact .inr (by simpa using h))]; exact ⟨rfl, rfl⟩
 ·refine ae_ ?_
  refine ab_ ?_
  have R := And.intro ho a3_
  refine r_ ?_
  iterate 7 refine s_ ?_
  refine aa_ ?_
  refine ab_ ?_
  have R := And.intro ho a3_
  refine r_ ?_
  iterate 9 refine s_ ?_
  refine st_ ?_
  refine aa_ ?_
  refine ab_ ?_
  have R := And.intro ho a3_
  refine r_ ?_
  iterate 3 refine s_ ?_
  refine aa_ ?_
  refine af_ ?_
  refine au_ v_ (Store.Wk.refl _) ?_
  have hg : g = true := by simpa using hc1.1
  rw [gC_ hg (by simpa using hc1.2), hg]
  refine ⟨by rw [b6_, Lb_B]; rfl, ?_⟩
  rw [b6_, Lb_B, List.take_length]
theorem jB_ {o n : Nat} {x : Rd} {σ : Store} (ho : σ.heap o = some (rfO x)) : ai_ Tryz.prog 124 [.ref o 0, vInt n] σ fun v σ' => v = .tup [vStr (B (aW_ x n).1), eu_ (aW_ x n).2.2] ∧ σ' = σ.set o (rfO (aW_ x n).2) := t6_ ho
theorem vj_ {l : List UInt8} {k : Nat} {c : UInt8} (h : l[k]? = some c) : (B l)[k]? = some c := by
 obtain ⟨hk, rfl⟩ := List.getElem?_eq_some_iff.1 h
 have hs : k < (B l).size := by rw [a3_]; exact hk
 rw [getElem?_pos (B l) k hs]
 congr 1
theorem ic_ {r : List UInt8} {σ : Store} (hl : r.length ≤ 1099511627776) : ai_ Tryz.prog 125 [vStr (B r)] σ fun v σ' => v = vInt (rdI r) ∧ σ = σ' := by
 refine en_ Tryz.func125 Tryz.ntmps125 Tryz.results125 ?_
 refine rr_ ?_
 refine s_ ?_
 refine aa_ ?_
 refine rr_ ?_
 refine s_ ?_
 refine aa_ ?_
 refine ab_ ?_
 refine rr_ ?_
 refine s_ ?_
 refine aa_ ?_
 refine ag_ ?_
 refine ah_ (ι := Nat) (fun k => r.length - k) (fun k => k ≤ r.length) (fun k => [(0, vStr (B r)), (3, vInt (rdI (r.take k))), (4, vInt k)]) (fun k => σ) 0 ?_ ?_ ?_ ?_
 ·exact Nat.zero_le _
 ·exact cv_
 ·exact sub_
 rintro k hk
 simp only [ak_, am_]
 refine ab_ ?_
 refine ab_ ?_
 have R := a3_
 refine r_ ?_
 iterate 4 refine s_ ?_
 refine aa_ ?_
 refine cd_ (fun hc3 => ?_) (fun hc3 => ?_)
 ·refine ae_ ?_
  refine ab_ ?_
  refine ag_ ?_
  obtain ⟨c, hc⟩ : ∃ c, r[k]? = some c := ⟨r[k]'(by omega), List.getElem?_eq_getElem _⟩
  have hb2 := vj_ hc
  have hlt : c.toNat < 256 := c.toNat_lt
  have hst : bOr .i64 (IntKind.i64.wrap (rdI (r.take k) * 2 ^ 8)) (c.toNat : Int) = rdI (r.take (k + 1)) := by rw [ax_ hc]; exact mZ_ _ _
  have R := And.intro a3_ hb2
  refine r_ ?_
  iterate 8 refine s_ ?_
  refine aa_ ?_
  refine r_ ?_
  iterate 3 refine s_ ?_
  refine aa_ ?_
  refine aC_ (ι := Nat) (i := k) (k + 1) ?_ ?_ ?_ ?_
  ·omega
  ·omega
  ·have R := hst; exact cv_
  ·exact sub_
 ·refine an_ ?_
  refine ad_ ?_
  refine ad_ ?_
  refine aj_ ?_
  refine rr_ ?_
  iterate 2 refine s_ ?_
  refine aa_ ?_
  refine af_ ?_
  refine er_ σ ?_
  rw [List.take_of_length_le (by omega)]
  exact ⟨rfl, rfl⟩
theorem m4_ {o : Nat} {x : Rd} {σ : Store} (ho : σ.heap o = some (rfO x)) : ai_ Tryz.prog 62 [.ref o 0] σ fun v σ' => v = vInt (aL_ x 1).1 ∧ σ' = σ.set o (rfO (aL_ x 1).2) := by
 refine en_ Tryz.func62 Tryz.ntmps62 Tryz.results62 ?_
 refine rr_ ?_
 refine s_ ?_
 refine aa_ ?_
 refine rr_ ?_
 refine s_ ?_
 refine x_ g_ va_ (jB_ (n := 1) ho) ?_; rintro _ _ ⟨rfl, rfl⟩
 iterate 5 refine s_ ?_
 refine aa_ ?_
 refine rr_ ?_
 refine s_ ?_
 refine x_ g_ va_ (ic_ (Nat.le_trans cP_ (by decide))) ?_; rintro _ _ ⟨rfl, rfl⟩
 refine s_ ?_
 refine aa_ ?_
 refine af_ ?_
 refine au_ v_ (Store.Wk.refl _) ?_
 exact ⟨rfl, rfl⟩
theorem gE_ {o : Nat} {x : Rd} {σ : Store} (ho : σ.heap o = some (rfO x)) : ai_ Tryz.prog 67 [.ref o 0] σ fun v σ' => v = vInt (aL_ x 8).1 ∧ σ' = σ.set o (rfO (aL_ x 8).2) := by
 refine en_ Tryz.func67 Tryz.ntmps67 Tryz.results67 ?_
 refine rr_ ?_
 refine s_ ?_
 refine aa_ ?_
 refine rr_ ?_
 refine s_ ?_
 refine x_ g_ va_ (jB_ (n := 8) ho) ?_; rintro _ _ ⟨rfl, rfl⟩
 iterate 5 refine s_ ?_
 refine aa_ ?_
 refine rr_ ?_
 refine s_ ?_
 refine x_ g_ va_ (ic_ (Nat.le_trans cP_ (by decide))) ?_; rintro _ _ ⟨rfl, rfl⟩
 refine s_ ?_
 refine aa_ ?_
 refine af_ ?_
 refine au_ v_ (Store.Wk.refl _) ?_
 exact ⟨rfl, rfl⟩
theorem f8_ {o m : Nat} {x : Rd} {σ : Store} (ho : σ.heap o = some (rfO x)) : ai_ Tryz.prog 126 [.ref o 0, vInt m] σ fun v σ' => v = vInt (bu_ x m).1 ∧ σ' = σ.set o (rfO (bu_ x m).2) := by
 have h4 : rdI (aW_ x 4).1 = natB (aW_ x 4).1 := sJ_ x
 refine en_ Tryz.func126 Tryz.ntmps126 Tryz.results126 ?_
 refine rr_ ?_
 refine s_ ?_
 refine aa_ ?_
 refine rr_ ?_
 refine s_ ?_
 refine x_ g_ va_ (jB_ (n := 4) ho) ?_; rintro _ _ ⟨rfl, rfl⟩
 iterate 5 refine s_ ?_
 refine aa_ ?_
 refine ab_ ?_
 have R := h4
 refine r_ ?_
 refine s_ ?_
 refine x_ g_ va_ (ic_ (Nat.le_trans cP_ (by decide))) ?_; rintro _ _ ⟨rfl, rfl⟩
 refine s_ ?_
 refine aa_ ?_
 refine ab_ ?_
 refine ab_ ?_
 have R := h4
 refine r_ ?_
 iterate 3 refine s_ ?_
 refine aa_ ?_
 refine cd_ (fun hc3 => ?_) (fun hc3 => ?_)
 ·refine rr_ ?_
  iterate 3 refine s_ ?_
  refine st_ ?_
  refine aa_ ?_
  refine rr_ ?_
  refine s_ ?_
  refine aa_ ?_
  refine af_ ?_
  refine au_ v_ (Store.Wk.refl _) ?_
  rw [bu_, if_pos (by omega), Store.set_set]; exact ⟨rfl, rfl⟩
 ·refine ae_ ?_
  refine rr_ ?_
  iterate 2 refine s_ ?_
  refine aa_ ?_
  refine af_ ?_
  refine au_ v_ (Store.Wk.refl _) ?_
  rw [bu_, if_neg (by omega)]; exact ⟨rfl, rfl⟩
theorem hk_ {o : Nat} {x : Rd} {σ : Store} (ho : σ.heap o = some (rfO x)) : ai_ Tryz.prog 63 [.ref o 0] σ fun v σ' => v = vStr (B (as_ x).1) ∧ σ' = σ.set o (rfO (as_ x).2) := by
 refine en_ Tryz.func63 Tryz.ntmps63 Tryz.results63 ?_
 refine rr_ ?_
 refine s_ ?_
 refine aa_ ?_
 refine rr_ ?_
 refine s_ ?_
 refine x_ g_ va_ (f8_ (m := 1048576) ho) ?_; rintro _ _ ⟨rfl, rfl⟩
 refine s_ ?_
 refine aa_ ?_
 refine rr_ ?_
 iterate 2 refine s_ ?_
 refine x_ g_ va_ (jB_ (Store.set_get ..)) ?_; rintro _ _ ⟨rfl, rfl⟩
 iterate 5 refine s_ ?_
 refine aa_ ?_
 refine rr_ ?_
 iterate 2 refine s_ ?_
 refine aa_ ?_
 refine af_ ?_
 refine au_ v_ (Store.Wk.refl _) ?_
 rw [Store.set_set]; exact ⟨rfl, rfl⟩
theorem m5_ {o : Nat} {x : Rd} {σ : Store} (ho : σ.heap o = some (rfO x)) : ai_ Tryz.prog 68 [.ref o 0] σ fun v σ' => v = eu_ (x.2 && decide (x.1 = [])) ∧ σ = σ' := by
 obtain ⟨s, g⟩ := x
 have he : (B s = ⟨#[]⟩) ↔ s = [] := by rw [show (⟨#[]⟩ : ByteArray) = B [] from rfl, db_]
 refine en_ Tryz.func68 Tryz.ntmps68 Tryz.results68 ?_
 refine ab_ ?_
 have R := And.intro ho he
 refine r_ ?_
 refine s_ ?_
 refine aa_ ?_
 refine ab_ ?_
 have R := And.intro ho he
 refine r_ ?_
 iterate 6 refine s_ ?_
 refine gt_ ?_
 refine gt_ ?_
 refine gt_ ?_
 refine gt_ ?_
 refine gt_ ?_
 iterate 2 refine s_ ?_
 refine aa_ ?_
 refine af_ ?_
 refine er_ σ ?_
 exact ⟨by cases g <;> simp [he], rfl⟩
theorem tZ_ {o : Nat} {x : Rd} {σ : Store} (ho : σ.heap o = some (rfO x)) : ai_ Tryz.prog 177 [.ref o 0] σ fun v σ' => v = sSib (cq_ x).1 ∧ σ'.heap o = some (rfO (cq_ x).2) ∧ SubX [o] σ σ' := by
 refine en_ Tryz.func177 Tryz.ntmps177 Tryz.results177 ?_
 refine rr_ ?_
 refine lc_ fun o2 ho2 => ?_
 repeat (rw [ac_] at ho2; obtain ⟨_, ho2⟩ := ho2)
 refine aa_ ?_
 have n2 := aF_ ho ho2
 refine ab_ ?_
 have R := ho
 refine r_ ?_
 refine s_ ?_
 refine x_ g_ va_ (hk_ (x := x) h_) ?_; rintro _ _ ⟨rfl, rfl⟩
 refine s_ ?_
 refine aa_ ?_
 refine rr_ ?_
 refine s_ ?_
 refine x_ g_ va_ (gE_ (Store.set_get ..)) ?_; rintro _ _ ⟨rfl, rfl⟩
 refine s_ ?_
 refine aa_ ?_
 refine rr_ ?_
 refine s_ ?_
 refine x_ g_ va_ (hk_ (Store.set_get ..)) ?_; rintro _ _ ⟨rfl, rfl⟩
 refine s_ ?_
 refine aa_ ?_
 refine rr_ ?_
 refine s_ ?_
 refine x_ g_ va_ (m4_ (Store.set_get ..)) ?_; rintro _ _ ⟨rfl, rfl⟩
 iterate 2 refine s_ ?_
 refine aa_ ?_
 refine rr_ ?_
 iterate 6 refine s_ ?_
 refine x_ g_ va_ (gE_ (Store.set_get ..)) ?_; rintro _ _ ⟨rfl, rfl⟩
 refine s_ ?_
 refine st_ ?_
 refine aa_ ?_
 refine af_ ?_
 refine au_ v_ (Store.Wk.refl _) ?_
 exact ⟨rfl, by simp (disch := omega) only [Store.set_ne, Store.set_get]; rfl, sub_⟩
def cY_ (σ : Store) (e : TypeId) (sz : Nat) (l : List AVal) (a : AVal) (old : Option Nat) : Prop := (∃ k, a = .own k sz l ∧ σ.tok k = some (e, sz) ∧ old = some k) ∨ (a = .lit (.slice none 0 0) ∧ l = [] ∧ old = none)
theorem cY_.wk {σ : Store} {e : TypeId} {sz : Nat} {l : List AVal} {a : AVal} {old : Option Nat} (h : cY_ σ e sz l a old) : Wk a (.sl sz l false) := by
 rcases h with ⟨k, rfl, _⟩ | ⟨rfl, rfl, _⟩
 ·exact .own1 _ _ _
 ·exact .nil _ _
theorem cY_.of {σ : Store} {e : TypeId} {sz : Nat} {l : List AVal} {a b : AVal} {old : Option Nat} (h : cY_ σ e sz l a old) (hb : b = a) : cY_ σ e sz l b old := hb ▸ h
theorem SubX.noObj {l : List Nat} {a b : Store} (h : SubX l a b) {i : Nat} (hi : b.heap i = none) (hl : i ∉ l) : a.heap i = none := by
 cases hh : a.heap i with
 |none => rfl
 |some y => have := h.1 i y hl hh; rw [hi] at this; cases this
theorem jI_ {σ : Store} {k k' : Nat} {old : Option Nat} {p q : TypeId × Nat} (h : σ.tok k = some p) (hk : σ.tok k' = none) (ho : ∀ j, old = some j → j ≠ k) : (σ.newTok old k' q).tok k = some p := by
 simp only [Store.newTok]
 rw [if_neg (fun hh => by rw [hh, hk] at h; cases h), if_neg (fun hh => ho k hh.symm rfl)]
 exact h
theorem fz_ {α : Type} (f : Rd → α × Rd) {n : Nat} {x : Rd} (h : n = 0 ∨ x.2 = false) : aQ_ f n x = ([], x) := by
 rcases h with rfl | h
 ·rfl
 ·exact dk_ f h
theorem hj_ {α : Type} {f : Rd → α × Rd} {x z : Rd} {M : List α} (h : aQ_ f (bu_ x 65536).1 (bu_ x 65536).2 = (M, z)) : bp_ f x = if z.2 then (M, z) else ([], z) := by unfold bp_; dsimp only; rw [h]
theorem tX_ {o : Nat} {x : Rd} {σ : Store} (ho : σ.heap o = some (rfO x)) : ai_ Tryz.prog 176 [.ref o 0] σ fun v σ' => v = .sl 3 ((bT_ x).1.map az_) false ∧ σ'.heap o = some (rfO (bT_ x).2) ∧ SubX [o] σ σ' := by
 obtain ⟨N, hN⟩ : ∃ N, (bu_ x 65536).1 = N := ⟨_, rfl⟩
 obtain ⟨x0, hx0⟩ : ∃ x0, (bu_ x 65536).2 = x0 := ⟨_, rfl⟩
 have hNb : N ≤ 65536 := by rw [← hN]; exact dG_ _ _
 refine en_ Tryz.func176 Tryz.ntmps176 Tryz.results176 ?_
 refine rr_ ?_
 refine s_ ?_
 refine aa_ ?_
 refine ab_ ?_
 have R := And.intro hN hx0
 refine r_ ?_
 refine s_ ?_
 refine x_ g_ va_ (f8_ (m := 65536) ho) ?_; rintro _ _ ⟨rfl, rfl⟩
 refine s_ ?_
 refine aa_ ?_
 refine rr_ ?_
 refine a8_ 96 3 rfl rfl rfl (by rfl) fun k4 hk4 => ?_
 refine aa_ ?_
 refine ab_ ?_
 refine rr_ ?_
 refine s_ ?_
 refine aa_ ?_
 refine ag_ ?_
 refine ah_ (ι := Store × Nat × List Seen × Rd × Nat) (fun ⟨τ, i, L, y, k⟩ => N - i) (fun ⟨τ, i, L, y, k⟩ => i ≤ N ∧ L.length = i ∧ (y.2 = true → aQ_ b9_ N x0 = (L ++ (aQ_ b9_ (N - i) y).1, (aQ_ b9_ (N - i) y).2)) ∧ (y.2 = false → (aQ_ b9_ N x0).2 = y) ∧ τ.heap o = some (rfO y) ∧ SubX [o] σ τ ∧ τ.tok k = some (96, 3) ∧ σ.tok k = none) (fun ⟨τ, i, L, y, k⟩ => [(0, .ref o 0), (3, vInt N), (4, .own k 3 (L.map az_)), (5, vInt i)]) (fun ⟨τ, i, L, y, k⟩ => τ) ((σ.set o (rfO x0)).newTok none k4 (96, 3), 0, [], x0, k4) ?_ ?_ ?_ ?_
 ·exact ⟨Nat.zero_le _, rfl, fun _ => rfl, fun h => by rw [dk_ _ h], Store.set_get .., bm_ hk4 (by rw [← hx0]; exact SubX.self), Store.newTok_get .., hk4⟩
 ·have R := hN; exact cv_
 ·rw [hx0]; exact Store.Wk.refl _
 rintro ⟨τ, i, L, y, k⟩ ⟨h1, h2, hg, hb, h3, h4, h5, h6⟩
 simp only [ak_, am_]
 refine ab_ ?_
 refine ab_ ?_
 have R := h3
 refine r_ ?_
 iterate 4 refine s_ ?_
 refine gt_ ?_
 refine gt_ ?_
 refine gt_ ?_
 refine gt_ ?_
 refine gt_ ?_
 refine s_ ?_
 refine aa_ ?_
 refine cd_ (fun hc4 => ?_) (fun hc4 => ?_)
 ·refine ae_ ?_
  refine ab_ ?_
  refine ag_ ?_
  refine ab_ ?_
  have hc := hc4
  obtain ⟨hc4a, hy⟩ := hc4
  obtain ⟨m, hm⟩ : ∃ m, (bu_ (aL_ (as_ y).2 8).2 65536).1 = m := ⟨_, rfl⟩
  obtain ⟨x1, hx1⟩ : ∃ x1, (bu_ (aL_ (as_ y).2 8).2 65536).2 = x1 := ⟨_, rfl⟩
  have hmb : m ≤ 65536 := by rw [← hm]; exact dG_ _ _
  refine r_ ?_
  refine s_ ?_
  refine x_ g_ va_ (hk_ h3) ?_; rintro _ _ ⟨rfl, rfl⟩
  refine s_ ?_
  refine x_ g_ va_ (gE_ (Store.set_get ..)) ?_; rintro _ _ ⟨rfl, rfl⟩
  refine s_ ?_
  refine lc_ fun o6 ho6 => ?_
  repeat (rw [ac_] at ho6; obtain ⟨_, ho6⟩ := ho6)
  refine st_ ?_
  refine aa_ ?_
  have n6 := aF_ h3 ho6
  have s6 := SubX.noObj h4 ho6 (by simp; omega)
  refine ab_ ?_
  have R := And.intro hm hx1
  refine r_ ?_
  refine s_ ?_
  refine x_ g_ va_ (f8_ (m := 65536) (x := (aL_ (as_ y).2 8).2) h_) ?_; rintro _ _ ⟨rfl, rfl⟩
  refine s_ ?_
  refine aa_ ?_
  refine ab_ ?_
  refine rr_ ?_
  refine s_ ?_
  refine aa_ ?_
  refine ag_ ?_
  refine ah_ (ι := Store × Nat × List Int × Rd × AVal × Option Nat) (fun ⟨υ, j, M, z, gm, old⟩ => m - j) (fun ⟨υ, j, M, z, gm, old⟩ => j ≤ m ∧ M.length = j ∧ aQ_ rdI8 m x1 = (M ++ (aQ_ rdI8 (m - j) z).1, (aQ_ rdI8 (m - j) z).2) ∧ υ.heap o = some (rfO z) ∧ υ.heap o6 = some (.cells [vStr (B (as_ y).1), vInt (aL_ (as_ y).2 8).1, gm]) ∧ cY_ υ 3 1 (M.map vInt) gm old ∧ SubX [o] σ υ ∧ υ.tok k = some (96, 3) ∧ (∀ j, old = some j → σ.tok j = none ∧ j ≠ k)) (fun ⟨υ, j, M, z, gm, old⟩ => [(0, .ref o 0), (3, vInt N), (4, .own k 3 (L.map az_)), (5, vInt i), (6, .ref o6 0), (7, vInt m), (8, vInt j)]) (fun ⟨υ, j, M, z, gm, old⟩ => υ) (((((τ.set o (rfO (as_ y).2)).set o (rfO (aL_ (as_ y).2 8).2)).set o6 (.cells [.lit (.string ⟨#[]⟩), .lit (.int .i64 0), .lit (.slice none 0 0)])).set o6 (.cells [vStr (B (as_ y).1), vInt (aL_ (as_ y).2 8).1, .lit (.slice none 0 0)])).set o (rfO x1), 0, [], x1, .lit (.slice none 0 0), none) ?_ ?_ ?_ ?_
  ·exact ⟨Nat.zero_le _, rfl, rfl, Store.set_get .., h_, .inr ⟨rfl, rfl, rfl⟩, bv_ (.head _) (ar_ s6 (ar_ s6 (bv_ (.head _) (bv_ (.head _) h4)))), h5, fun j hj => by cases hj⟩
  ·have R := hm; exact cv_
  ·rw [← hx1]; exact Store.Wk.refl _
  rintro ⟨υ, j, M, z, gm, old⟩ ⟨j1, j2, j3, u1, u2, hno, hu2, htk, hold⟩
  simp only [ak_, am_]
  refine ab_ ?_
  refine ab_ ?_
  have R := u1
  refine r_ ?_
  iterate 4 refine s_ ?_
  refine gt_ ?_
  refine gt_ ?_
  refine gt_ ?_
  refine gt_ ?_
  refine gt_ ?_
  refine s_ ?_
  refine aa_ ?_
  refine cd_ (fun hc9 => ?_) (fun hc9 => ?_)
  ·obtain ⟨hcj, hz⟩ := hc9
   have hmj : m - j = (m - j - 1) + 1 := by omega
   refine ae_ ?_
   refine cf_ (ι := Store × Nat) (fun ⟨φ, kk⟩ => φ.heap o = some (rfO (rdI8 z).2) ∧ φ.heap o6 = some (.cells [vStr (B (as_ y).1), vInt (aL_ (as_ y).2 8).1, .own kk 1 ((M ++ [(rdI8 z).1]).map vInt)]) ∧ φ.tok kk = some (3, 1) ∧ SubX [o] σ φ ∧ φ.tok k = some (96, 3) ∧ σ.tok kk = none ∧ υ.tok kk = none) (fun ⟨φ, kk⟩ => [(0, .ref o 0), (3, vInt N), (4, .own k 3 (L.map az_)), (5, vInt i), (6, .ref o6 0), (7, vInt m), (8, vInt j)]) (fun ⟨φ, kk⟩ => φ) ?_ ?_
   ·refine ag_ ?_
    have R := u2
    refine ap_ (.op 0 0 (.op 2 0 (.alt 1 2 (.op 3 2 (.op 4 2 (.op 5 2 (.op 6 0 (.op 7 2 .nil))))) (.op 3 2 (.alt 1 2 (.op 4 2 (.op 5 2 (.op 6 0 (.op 7 2 .nil)))) (.op 4 2 (.op 1 2 (.op 5 2 (.op 6 0 (.op 7 2 .nil)))))))))) Tryz.mixed kr_ ?_
    iterate 2 refine ds_ ?_
    refine c8_ ?_ ?_
    ·refine dR_T o_ (by rfl) (by rfl) (aV_ v_ ?_)
     refine tx_ o_ g_ va_ (gE_ u1) ?_; rintro _ _ ⟨rfl, rfl⟩
     refine dR_T o_ (by rfl) (by rfl) (aS_ (by rfl) g_ g_ (by rfl) (by rfl) h_ c2_ (by decide) ?_)
     refine dR_T o_ (by rfl) (by rfl) (bl_ (by rfl) g_ g_ (cY_.of hno va_) (.inl ⟨⟨_, g_⟩, .inl v_, c_⟩) (by simp; omega) fun k47 hk47 => ?_)
     refine ds_ ?_
     refine dst_ ?_
     refine aB_ ?_
     refine ⟨(((υ.set o (rfO (aL_ z 8).2)).newTok old k47 (3, 1)).set o6 (.cells [vStr (B (as_ y).1), vInt (aL_ (as_ y).2 8).1, .own k47 1 (M.map vInt ++ [vInt (aL_ z 8).1])]), k47), ?_, ?_, ?_⟩
     ·exact ⟨by simp (disch := omega) only [Store.set_ne, Store.newTok_heap, Store.set_get]; rfl, by rw [Store.set_get, List.map_append]; rfl, by rw [Store.set_tok]; exact Store.newTok_get .., ar_ s6 (SubX.newTok (SubX.trans hu2 SubX.self) (fun j hj => (hold j hj).1) hk47), by rw [Store.set_tok]; exact jI_ htk hk47 (fun j hj => (hold j hj).2), SubX.noTok hu2 hk47, hk47⟩
     ·exact cv_
     ·exact Store.Wk.refl _
    refine tx_ o_ g_ va_ (gE_ u1) ?_; rintro _ _ ⟨rfl, rfl⟩
    refine c8_ ?_ ?_
    ·refine dR_T o_ (by rfl) (by rfl) (aV_ v_ ?_)
     refine dR_T o_ (by rfl) (by rfl) (aS_ (by rfl) g_ g_ (by rfl) (by rfl) h_ c2_ (by decide) ?_)
     refine dR_T o_ (by rfl) (by rfl) (bl_ (by rfl) g_ g_ (cY_.of hno va_) (.inl ⟨⟨_, g_⟩, .inl v_, c_⟩) (by simp; omega) fun k47 hk47 => ?_)
     refine ds_ ?_
     refine dst_ ?_
     refine aB_ ?_
     refine ⟨(((υ.set o (rfO (aL_ z 8).2)).newTok old k47 (3, 1)).set o6 (.cells [vStr (B (as_ y).1), vInt (aL_ (as_ y).2 8).1, .own k47 1 (M.map vInt ++ [vInt (aL_ z 8).1])]), k47), ?_, ?_, ?_⟩
     ·exact ⟨by simp (disch := omega) only [Store.set_ne, Store.newTok_heap, Store.set_get]; rfl, by rw [Store.set_get, List.map_append]; rfl, by rw [Store.set_tok]; exact Store.newTok_get .., ar_ s6 (SubX.newTok (SubX.trans hu2 SubX.self) (fun j hj => (hold j hj).1) hk47), by rw [Store.set_tok]; exact jI_ htk hk47 (fun j hj => (hold j hj).2), SubX.noTok hu2 hk47, hk47⟩
     ·exact cv_
     ·exact Store.Wk.refl _
    refine dR_T o_ (by rfl) (by rfl) (aS_ (by rfl) g_ g_ (by rfl) (by rfl) h_ c2_ (by decide) ?_)
    refine dR_T o_ (by rfl) (by rfl) (aV_ v_ ?_)
    refine dR_T o_ (by rfl) (by rfl) (bl_ (by rfl) g_ g_ (cY_.of hno va_) (.inl ⟨⟨_, g_⟩, .inl v_, c_⟩) (by simp; omega) fun k47 hk47 => ?_)
    refine ds_ ?_
    refine dst_ ?_
    refine aB_ ?_
    refine ⟨(((υ.set o (rfO (aL_ z 8).2)).newTok old k47 (3, 1)).set o6 (.cells [vStr (B (as_ y).1), vInt (aL_ (as_ y).2 8).1, .own k47 1 (M.map vInt ++ [vInt (aL_ z 8).1])]), k47), ?_, ?_, ?_⟩
    ·exact ⟨by simp (disch := omega) only [Store.set_ne, Store.newTok_heap, Store.set_get]; rfl, by rw [Store.set_get, List.map_append]; rfl, by rw [Store.set_tok]; exact Store.newTok_get .., ar_ s6 (SubX.newTok (SubX.trans hu2 SubX.self) (fun j hj => (hold j hj).1) hk47), by rw [Store.set_tok]; exact jI_ htk hk47 (fun j hj => (hold j hj).2), SubX.noTok hu2 hk47, hk47⟩
    ·exact cv_
    ·exact Store.Wk.refl _
   ·rintro ⟨φ, kk⟩ ⟨f1, f2, f3, f4, f5, f6, f7⟩
    simp only [ak_, am_]
    refine r_ ?_
    iterate 3 refine s_ ?_
    refine aa_ ?_
    refine aC_ (ι := Store × Nat × List Int × Rd × AVal × Option Nat) (i := ⟨υ, j, M, z, gm, old⟩) (φ, j + 1, M ++ [(rdI8 z).1], (rdI8 z).2, .own kk 1 ((M ++ [(rdI8 z).1]).map vInt), some kk) ?_ ?_ ?_ ?_
    ·show m - (j + 1) < m - j; omega
    ·exact ⟨by show j + 1 ≤ m; omega, by simp [j2], by rw [j3, hmj, aQ_, hz]; simp [show m - j - 1 = m - (j + 1) by omega], f1, f2, .inl ⟨kk, rfl, f3, rfl⟩, f4, f5, fun j hj => by cases hj; exact ⟨f6, fun hh => by rw [hh, htk] at f7; cases f7⟩⟩
    ·exact cv_
    ·exact Store.Wk.refl _
  ·refine an_ ?_
   refine ad_ ?_
   refine ad_ ?_
   refine aj_ ?_
   have hz : aQ_ rdI8 m x1 = (M, z) := by rw [j3, fz_ _ (by rcases hc9 with h | h; exact .inl (by omega); exact .inr h)]; simp
   have hs : bp_ rdI8 (aL_ (as_ y).2 8).2 = if z.2 then (M, z) else ([], z) := hj_ (by rw [hm, hx1]; exact hz)
   have hNi : N - i = (N - (i + 1)) + 1 := by omega
   have h0 := hg hy
   rw [hNi, aQ_, hy] at h0
   have hsy : b9_ y = (⟨B (as_ y).1, (aL_ (as_ y).2 8).1, (bp_ rdI8 (aL_ (as_ y).2 8).2).1⟩, (bp_ rdI8 (aL_ (as_ y).2 8).2).2) := rfl
   have hnew : (z.2 = true → aQ_ b9_ N x0 = (L ++ [⟨B (as_ y).1, (aL_ (as_ y).2 8).1, M⟩] ++ (aQ_ b9_ (N - (i + 1)) z).1, (aQ_ b9_ (N - (i + 1)) z).2)) ∧ (z.2 = false → (aQ_ b9_ N x0).2 = z) := by
    rw [hsy, hs] at h0
    constructor
    ·intro h; rw [h] at h0; rw [h0]; simp
    ·intro h; rw [h] at h0; rw [h0]; simp [dk_ _ h]
   refine cI_ o6 [vStr (B (as_ y).1), vInt (aL_ (as_ y).2 8).1, .sl 1 (M.map vInt) false] u2 ⟨.refl _, .refl _, hno.wk, trivial⟩ ?_
   have R := htk
   refine r_ ?_
   iterate 2 refine s_ ?_
   refine ao_ rfl rfl rfl g_ g_ rfl rfl h_ c2_ (by decide) ?_
   refine aM_ rfl rfl rfl g_ g_ v_ h_ v_ c_ (by simp; omega) fun k52 hk52 => ?_
   refine s_ ?_
   refine aa_ ?_
   refine r_ ?_
   iterate 3 refine s_ ?_
   refine aa_ ?_
   refine aC_ (ι := Store × Nat × List Seen × Rd × Nat) (i := ⟨τ, i, L, y, k⟩) ((υ.set o6 (.cells [vStr (B (as_ y).1), vInt (aL_ (as_ y).2 8).1, .sl 1 (M.map vInt) false])).newTok (some k) k52 (96, 3), i + 1, L ++ [⟨B (as_ y).1, (aL_ (as_ y).2 8).1, M⟩], z, k52) ?_ ?_ ?_ ?_
   ·show N - (i + 1) < N - i; omega
   ·exact ⟨by show i + 1 ≤ N; omega, by simp [h2], hnew.1, hnew.2, by simp (disch := omega) only [Store.newTok_heap, Store.set_ne, u1], SubX.newTok (ar_ s6 hu2) (fun j hj => by cases hj; exact h6) hk52, Store.newTok_get .., SubX.noTok (ar_ s6 hu2) hk52⟩
   ·exact cv_
   ·exact Store.Wk.refl _
 ·refine an_ ?_
  refine ad_ ?_
  refine ad_ ?_
  refine aj_ ?_
  refine ab_ ?_
  refine ab_ ?_
  skip
  have hf : bT_ x = if y.2 then (L, y) else ([], y) := by
   cases hy : y.2 with
   |true =>
    have := hg hy
    rw [fz_ (n := N - i) _ (.inl (by rw [hy] at hc4; simp at hc4; omega))] at this
    have h2 := hj_ (f := b9_) (x := x) (M := L) (z := y) (by rw [hN, hx0, this]; simp)
    rw [hy] at h2; exact h2
   |false =>
    have := hb hy
    have h2 := hj_ (f := b9_) (x := x) (M := (aQ_ b9_ N x0).1) (z := y) (by rw [hN, hx0, ← this])
    rw [hy] at h2; exact h2
  have R := h3
  refine r_ ?_
  iterate 4 refine s_ ?_
  refine aa_ ?_
  refine cd_ (fun hc13 => ?_) (fun hc13 => ?_)
  ·refine rr_ ?_
   refine s_ ?_
   refine aa_ ?_
   refine af_ ?_
   have hy : y.2 = false := by simpa using hc13
   rw [hy] at hf
   exact aw_ (v := .sl 3 ((bT_ x).1.map az_) false) (v' := .lit (.slice none 0 0)) va_ (by rw [hf]; exact .nil _ _) (Store.Wk.refl _) ⟨rfl, by rw [hf]; exact h3, h4⟩
  ·refine ae_ ?_
   refine rr_ ?_
   iterate 2 refine s_ ?_
   refine aa_ ?_
   refine af_ ?_
   have hy : y.2 = true := by simpa using hc13
   rw [hy] at hf
   exact aw_ (v := .sl 3 ((bT_ x).1.map az_) false) (v' := .own k 3 (L.map az_)) va_ (by rw [hf]; exact .own1 _ _ _) (Store.Wk.refl _) ⟨rfl, by rw [hf]; exact h3, h4⟩
theorem tY_ {o : Nat} {x : Rd} {σ : Store} (ho : σ.heap o = some (rfO x)) : ai_ Tryz.prog 127 [.ref o 0] σ fun v σ' => v = sObj (bf_ x).1 ∧ σ'.heap o = some (rfO (bf_ x).2) ∧ SubX [o] σ σ' := by
 obtain ⟨C, hC⟩ : ∃ C, (bT_ x).1 = C := ⟨_, rfl⟩
 obtain ⟨c2, hc2⟩ : ∃ c2, (bT_ x).2 = c2 := ⟨_, rfl⟩
 obtain ⟨N, hN⟩ : ∃ N, (bu_ c2 65536).1 = N := ⟨_, rfl⟩
 obtain ⟨x0, hx0⟩ : ∃ x0, (bu_ c2 65536).2 = x0 := ⟨_, rfl⟩
 have hNb : N ≤ 65536 := by rw [← hN]; exact dG_ _ _
 refine en_ Tryz.func127 Tryz.ntmps127 Tryz.results127 ?_
 refine rr_ ?_
 refine lc_ fun o2 ho2 => ?_
 repeat (rw [ac_] at ho2; obtain ⟨_, ho2⟩ := ho2)
 refine aa_ ?_
 have n2 := aF_ ho ho2
 refine ab_ ?_
 have R := ho
 refine r_ ?_
 refine s_ ?_
 refine x_ g_ va_ (tX_ (x := x) h_) ?_; rintro _ υ ⟨rfl, u1, u2⟩
 rw [hC]
 rw [hc2] at u1
 have v2 := keep (i := o2) (x := .cells [.lit (.slice none 0 0), .lit (.slice none 0 0)]) u2 h_ (by simp; omega)
 have hu2 : SubX [o] σ υ := SubX.trans (ar_ ho2 aX_) u2
 refine s_ ?_
 refine aa_ ?_
 refine ab_ ?_
 have R := And.intro hN hx0
 refine r_ ?_
 refine s_ ?_
 refine x_ g_ va_ (f8_ (m := 65536) u1) ?_; rintro _ _ ⟨rfl, rfl⟩
 refine s_ ?_
 refine aa_ ?_
 refine rr_ ?_
 refine a8_ 60 5 rfl rfl rfl (by rfl) fun k5 hk5 => ?_
 refine aa_ ?_
 refine ab_ ?_
 refine rr_ ?_
 refine s_ ?_
 refine aa_ ?_
 refine ag_ ?_
 refine ah_ (ι := Store × Nat × List Sib × Rd × Nat) (fun ⟨τ, i, L, y, k⟩ => N - i) (fun ⟨τ, i, L, y, k⟩ => i ≤ N ∧ L.length = i ∧ aQ_ cq_ N x0 = (L ++ (aQ_ cq_ (N - i) y).1, (aQ_ cq_ (N - i) y).2) ∧ τ.heap o = some (rfO y) ∧ SubX [o] σ τ ∧ τ.tok k = some (60, 5) ∧ σ.tok k = none ∧ τ.heap o2 = some (.cells [.lit (.slice none 0 0), .lit (.slice none 0 0)])) (fun ⟨τ, i, L, y, k⟩ => [(0, .ref o 0), (2, .ref o2 0), (3, .sl 3 (C.map az_) false), (4, vInt N), (5, .own k 5 (L.map sSib)), (6, vInt i)]) (fun ⟨τ, i, L, y, k⟩ => τ) ((υ.set o (rfO x0)).newTok none k5 (60, 5), 0, [], x0, k5) ?_ ?_ ?_ ?_
 ·exact ⟨Nat.zero_le _, rfl, rfl, Store.set_get .., SubX.newTok (SubX.trans hu2 SubX.self) (fun j hj => by cases hj) hk5, Store.newTok_get .., SubX.noTok hu2 hk5, by simp (disch := omega) only [Store.newTok_heap, Store.set_ne, v2]⟩
 ·have R := hN; exact cv_
 ·rw [hx0]; exact Store.Wk.refl _
 rintro ⟨τ, i, L, y, k⟩ ⟨h1, h2, h7, h3, h4, h5, h6, h8⟩
 simp only [ak_, am_]
 refine ab_ ?_
 refine ab_ ?_
 have R := h3
 refine r_ ?_
 iterate 4 refine s_ ?_
 refine gt_ ?_
 refine gt_ ?_
 refine gt_ ?_
 refine gt_ ?_
 refine gt_ ?_
 refine s_ ?_
 refine aa_ ?_
 refine cd_ (fun hc5 => ?_) (fun hc5 => ?_)
 ·obtain ⟨hcj, hy⟩ := hc5
  have hmi : N - i = (N - i - 1) + 1 := by omega
  refine ae_ ?_
  refine ab_ ?_
  refine ag_ ?_
  refine r_ ?_
  iterate 2 refine s_ ?_
  refine x_ g_ va_ (tZ_ h3) ?_; rintro _ φ ⟨rfl, q1, q2⟩
  have R := q2.2 _ _ h5
  have q3 := keep q2 h8 (by simp; omega)
  refine ao_ rfl rfl rfl g_ g_ rfl rfl h_ c2_ (by decide) ?_
  refine aM_ rfl rfl rfl g_ g_ v_ h_ v_ c_ (by simp; omega) fun k27 hk27 => ?_
  refine s_ ?_
  refine aa_ ?_
  refine r_ ?_
  iterate 3 refine s_ ?_
  refine aa_ ?_
  refine aC_ (ι := Store × Nat × List Sib × Rd × Nat) (i := ⟨τ, i, L, y, k⟩) (φ.newTok (some k) k27 (60, 5), i + 1, L ++ [(cq_ y).1], (cq_ y).2, k27) ?_ ?_ ?_ ?_
  ·show N - (i + 1) < N - i; omega
  ·exact ⟨by show i + 1 ≤ N; omega, by simp [h2], by rw [h7, hmi, aQ_, hy]; simp [show N - i - 1 = N - (i + 1) by omega], q1, SubX.newTok (SubX.trans h4 q2) (fun j hj => by cases hj; exact h6) hk27, Store.newTok_get .., SubX.noTok (SubX.trans h4 q2) hk27, q3⟩
  ·exact cv_
  ·exact Store.Wk.refl _
 ·refine an_ ?_
  refine ad_ ?_
  refine ad_ ?_
  refine aj_ ?_
  refine ab_ ?_
  refine ab_ ?_
  skip
  have hf : bp_ cq_ c2 = if y.2 then (L, y) else ([], y) := hj_ (by rw [hN, hx0, h7, fz_ (n := N - i) _ (by rcases hc5 with h | h; exact .inl (by omega); exact .inr h)]; simp)
  have hr : bf_ x = if (bp_ cq_ (bT_ x).2).2.2 then (⟨(bT_ x).1, (bp_ cq_ (bT_ x).2).1⟩, (bp_ cq_ (bT_ x).2).2) else (⟨[], []⟩, (bp_ cq_ (bT_ x).2).2) := rfl
  rw [hC, hc2, hf] at hr
  have R := h3
  refine r_ ?_
  iterate 4 refine s_ ?_
  refine aa_ ?_
  refine cd_ (fun hc8 => ?_) (fun hc8 => ?_)
  ·refine ab_ ?_
   have R := h8
   refine r_ ?_
   refine s_ ?_
   refine st_ ?_
   refine aa_ ?_
   refine af_ ?_
   have hy : y.2 = false := by simpa using hc8
   rw [hy] at hr
   have hr1 : bf_ x = (⟨[], []⟩, y) := by rw [hr, ← hy]; simp [hy]
   rw [hr1]
   exact aw_ (v := sObj ⟨[], []⟩) (v' := .agg [.lit (.slice none 0 0), .lit (.slice none 0 0)]) va_ (.agg _ _ rfl (fun i hi hi' => by match i, hi with | 0, _ => exact .nil _ _ | 1, _ => exact .nil _ _)) (Store.Wk.refl _) ⟨rfl, by simp (disch := omega) only [Store.set_ne, h3], ar_ ho2 h4⟩
  ·refine ae_ ?_
   refine ab_ ?_
   have R := h8
   refine r_ ?_
   iterate 3 refine s_ ?_
   refine st_ ?_
   refine aa_ ?_
   refine af_ ?_
   have hy : y.2 = true := by simpa using hc8
   rw [hy] at hr
   have hr1 : bf_ x = (⟨C, L⟩, y) := by rw [hr]; simp [hy]
   rw [hr1]
   exact aw_ (v := sObj ⟨C, L⟩) (v' := .agg [.sl 3 (C.map az_) false, .own k 5 (L.map sSib)]) va_ (.agg _ _ rfl (fun i hi hi' => by match i, hi with | 0, _ => exact .refl _ | 1, _ => exact .own1 _ _ _)) (Store.Wk.refl _) ⟨rfl, by simp (disch := omega) only [Store.set_ne, h3], ar_ ho2 h4⟩
def WA (o : Nat) (a : AVal) : Prop := a = .ref o 0 ∨ a = .nilp o 164 2
def WR (σ : Store) (o : Nat) (l : List UInt8) : Prop := ∃ a b old, σ.heap o = some (.cells [a, b]) ∧ WA o a ∧ cY_ σ 5 1 (aJ_ (B l)) b old
def Hld (σ : Store) (o t : Nat) : Prop := ∃ a sz l, σ.heap o = some (.cells [a, .own t sz l])
def WF (o : Nat) (σ σ' : Store) : Prop := (∀ i x, i ≠ o → σ.heap i = some x → σ'.heap i = some x) ∧ ∀ t n, σ.tok t = some n → ¬ Hld σ o t → σ'.tok t = some n ∧ ¬ Hld σ' o t
theorem WF.refl {o : Nat} {σ : Store} : WF o σ σ := ⟨fun _ _ _ h => h, fun _ _ h k => ⟨h, k⟩⟩
theorem WF.trans {o : Nat} {a b c : Store} (h : WF o a b) (k : WF o b c) : WF o a c :=
 ⟨fun i x hi hx => k.1 i x hi (h.1 i x hi hx), fun t n ht hn => k.2 t n (h.2 t n ht hn).1 (h.2 t n ht hn).2⟩
theorem WF.sub {o : Nat} {σ σ' : Store} {x : AObj} (ho : σ.heap o = none) (h : WF o (σ.set o x) σ') (hx : ∀ a t sz l, x ≠ .cells [a, .own t sz l]) : σ.Sub σ' :=
 ⟨fun i y hy => h.1 i y (fun hh => by rw [hh, ho] at hy; cases hy) (by rw [Store.set_ne _ _ (fun hh => by rw [hh, ho] at hy; cases hy)]; exact hy), fun t n ht => (h.2 t n ht fun ⟨a, sz, l, hh⟩ => by
  rw [Store.set_get] at hh
  exact hx _ _ _ _ (Option.some.inj hh)).1⟩
theorem WF.put {σ : Store} {o k : Nat} {a b c : AVal} {l l' : List AVal} {old : Option Nat} {p : TypeId × Nat} {e : TypeId} {sz sz' : Nat} (ho : σ.heap o = some (.cells [a, b])) (hb : cY_ σ e sz l b old) (hk : σ.tok k = none) :
  WF o σ ((σ.newTok old k p).set o (.cells [c, .own k sz' l'])) := by
 refine ⟨fun i x hi hx => by rw [Store.set_ne _ _ hi]; exact hx, fun t n ht hn => ?_⟩
 have hkt : t ≠ k := fun hh => by rw [hh, hk] at ht; cases ht
 refine ⟨?_, ?_⟩
 ·rw [Store.set_tok]
  simp only [Store.newTok]
  rw [if_neg hkt, if_neg (fun hh => ?_)]
  ·exact ht
  ·rcases hb with ⟨j, rfl, _, hj⟩ | ⟨rfl, _, hj⟩
   ·rw [hj] at hh
    obtain rfl := Option.some.inj hh
    exact hn ⟨_, _, _, ho⟩
   ·rw [hj] at hh; cases hh
 ·rintro ⟨a', sz2, l2, hh⟩
  rw [Store.set_get] at hh
  simp only [Option.some.injEq, AObj.cells.injEq, List.cons.injEq, AVal.own.injEq, and_true] at hh
  exact hkt hh.2.1.symm
theorem m2_ {σ : Store} {c : Bool} {o : Nat} : abin Tryz.prog σ .neq 159 c (.ref o 0) (.ref o 0) = some (.lit (.bool false)) := by
 simp only [abin, aeq, go_sem]
theorem ll_ {o : Nat} {b : AVal} {σ : Store} (ho : σ.heap o = some (.cells [.ref o 0, b])) : ai_ Tryz.prog 248 [.ref o 0] σ fun v σ' => v = .tup [] ∧ σ' = σ.set o (.cells [.ref o 0, b]) := by
 refine en_ Tryz.func248 Tryz.ntmps248 Tryz.results248 ?_
 refine ab_ ?_
 have R := And.intro ho @m2_
 refine r_ ?_
 iterate 5 refine s_ ?_
 refine aa_ ?_
 refine cd_ (fun hc0 => ?_) (fun hc0 => ?_)
 ·cases hc0
 ·refine ab_ ?_
  have R := And.intro ho @m2_
  refine r_ ?_
  iterate 6 refine s_ ?_
  refine aa_ ?_
  refine cd_ (fun hc2 => ?_) (fun hc2 => ?_)
  ·cases hc2
  ·refine ae_ ?_
   refine bz_ v_ (Store.Wk.refl _) ?_
   exact ⟨rfl, (Store.set_self ho).symm⟩
theorem lm_ {o : Nat} {b : AVal} {σ : Store} (ho : σ.heap o = some (.cells [.nilp o 164 2, b])) : ai_ Tryz.prog 248 [.ref o 0] σ fun v σ' => v = .tup [] ∧ σ' = σ.set o (.cells [.ref o 0, b]) := by
 refine en_ Tryz.func248 Tryz.ntmps248 Tryz.results248 ?_
 refine ab_ ?_
 have R := ho
 refine r_ ?_
 iterate 5 refine s_ ?_
 refine aa_ ?_
 refine cd_ (fun hc0 => ?_) (fun hc0 => ?_)
 ·have R := ho
  refine r_ ?_
  iterate 2 refine s_ ?_
  refine aL_X rfl rfl (jQ_ (t := 162) rfl Tryz.underlying159 Tryz.underlying276 kr_ g_ ho (by decide) ?_)
  refine aL_X rfl rfl (dO_ rfl (e := Extern.AbiNoEscape.same) kr_ g_ (fun κ ev _ h => t8_ (h _ (by simp))) ?_)
  refine aL_X rfl rfl (im_ (u := 162) rfl Tryz.underlying276 Tryz.underlying159 kr_ g_ ho kr_ ?_)
  iterate 2 refine s_ ?_
  refine st_ ?_
  refine aa_ ?_
  refine bz_ v_ (Store.Wk.refl _) ?_
  exact ⟨rfl, rfl⟩
 ·cases hc0
theorem hA_ {o : Nat} {a b : AVal} {σ : Store} (ho : σ.heap o = some (.cells [a, b])) (ha : WA o a) : ai_ Tryz.prog 248 [.ref o 0] σ fun v σ' => v = .tup [] ∧ σ' = σ.set o (.cells [.ref o 0, b]) := by
 rcases ha with rfl | rfl
 ·exact ll_ ho
 ·exact lm_ ho
theorem lX_ {o : Nat} {a b : AVal} {σ : Store} {c : UInt8} {l : List UInt8} {old : Option Nat} (ho : σ.heap o = some (.cells [a, b])) (ha : WA o a) (hb : cY_ σ 5 1 (aJ_ (B l)) b old) (hl : l.length ≤ 1099511627776) :
  ai_ Tryz.prog 247 [.ref o 0, .lit (.int .u8 (c.toNat : Int))] σ fun v σ' => ∃ k, v = .lit .nilIface ∧ σ.tok k = none ∧ σ' = (σ.newTok old k (5, 1)).set o (.cells [.ref o 0, .own k 1 (aJ_ (B (l ++ [c])))]) := by
 have e1 : aJ_ (B (l ++ [c])) = aJ_ (B l) ++ [.lit (.int .u8 (c.toNat : Int))] := by rw [ea_, ea_, List.map_append]; rfl
 have hbl : (aJ_ (B l)).length = l.length := by rw [aN_, a3_]
 refine en_ Tryz.func247 Tryz.ntmps247 Tryz.results247 ?_
 refine rr_ ?_
 refine s_ ?_
 refine aa_ ?_
 refine rr_ ?_
 refine s_ ?_
 refine x_ g_ va_ (hA_ ho ha) ?_; rintro _ _ ⟨rfl, rfl⟩
 refine aa_ ?_
 refine rr_ ?_
 iterate 6 refine s_ ?_
 refine ao_ rfl rfl rfl g_ g_ rfl rfl h_ c2_ (by decide) ?_
 refine aL_X rfl rfl (bl_ rfl g_ g_ (cY_.of hb va_) (.inl ⟨⟨_, g_⟩, .inl v_, c_⟩) (by simp; omega) fun k14 hk14 => ?_)
 iterate 2 refine s_ ?_
 refine st_ ?_
 refine aa_ ?_
 refine rr_ ?_
 refine s_ ?_
 refine aa_ ?_
 refine af_ ?_
 refine au_ v_ (Store.Wk.refl _) ?_
 exact ⟨k14, rfl, hk14, by rw [e1, Store.newTok_set, Store.set_set]⟩
theorem jL_ {o : Nat} {a b : AVal} {σ : Store} {s : ByteArray} {l : List UInt8} {old : Option Nat} (ho : σ.heap o = some (.cells [a, b])) (ha : WA o a) (hb : cY_ σ 5 1 (aJ_ (B l)) b old) (hl : l.length ≤ 1099511627776) (hs : s.size ≤ 1099511627776) :
  ai_ Tryz.prog 204 [.ref o 0, vStr s] σ fun v σ' => ∃ k, v = .tup [vInt s.size, .lit .nilIface] ∧ σ.tok k = none ∧ σ' = (σ.newTok old k (5, 1)).set o (.cells [.ref o 0, .own k 1 (aJ_ (B (l ++ Lb s)))]) := by
 have e1 : aJ_ (B l) ++ aJ_ s = aJ_ (B (l ++ Lb s)) := by rw [fM_, ← l1_, B_Lb]
 have hbl : (aJ_ (B l)).length = l.length := by rw [aN_, a3_]
 have hsl := aN_ s
 refine en_ Tryz.func204 Tryz.ntmps204 Tryz.results204 ?_
 refine rr_ ?_
 iterate 2 refine s_ ?_
 refine aa_ ?_
 refine rr_ ?_
 refine s_ ?_
 refine x_ g_ va_ (hA_ ho ha) ?_; rintro _ _ ⟨rfl, rfl⟩
 refine aa_ ?_
 refine rr_ ?_
 iterate 6 refine s_ ?_
 refine aL_X rfl rfl (bl_ rfl g_ g_ (cY_.of hb va_) (l0_ g_) (by simp; omega) fun k14 hk14 => ?_); rw [e1]
 iterate 2 refine s_ ?_
 refine st_ ?_
 refine aa_ ?_
 refine rr_ ?_
 iterate 4 refine s_ ?_
 refine aa_ ?_
 refine af_ ?_
 refine au_ v_ (Store.Wk.refl _) ?_
 exact ⟨k14, rfl, hk14, by rw [Store.newTok_set, Store.set_set]⟩
theorem r3_ {o k : Nat} {s : ByteArray} {σ : Store} {a : AVal} (ho : σ.heap o = some (.cells [a, .own k 1 (aJ_ s)])) (hk : σ.tok k = some (5, 1)) (hs : s.size ≤ 1099511627776) : ai_ Tryz.prog 151 [.ref o 0] σ fun v σ' => v = vStr s ∧ σ' = σ.delTok k := by
 have hsl := aN_ s
 refine en_ Tryz.func151 Tryz.ntmps151 Tryz.results151 ?_
 refine ab_ ?_
 have R := And.intro ho hsl
 refine r_ ?_
 refine s_ ?_
 refine aa_ ?_
 refine ab_ ?_
 have R := And.intro ho hsl
 refine ap_ (.op 0 0 (.op 1 0 (.op 2 0 (.op 3 0 (.op 5 0 (.op 6 0 (.op 7 0 (.op 8 0 (.op 9 0 (.op 4 1 (.op 10 2 (.op 11 0 .nil)))))))))))) Tryz.mixed kr_ ?_
 iterate 9 refine ds_ ?_
 refine dR_X o_ (by rfl) (by rfl) (fG_ (by rfl) g_ (.inl ⟨va_, hk⟩) ⟨sub_, ?_⟩)
 refine dR_T o_ (by rfl) (by rfl) (gT_ (by rfl) g_ kr_ va_ va_ (.inr hk) (by omega) ?_)
 refine ds_ ?_
 refine aB_ ?_
 refine af_ ?_
 refine au_ v_ (Store.Wk.refl _) ?_
 exact ⟨rfl, rfl⟩
theorem r4_ {o : Nat} {σ : Store} {a : AVal} (ho : σ.heap o = some (.cells [a, .lit (.slice none 0 0)])) : ai_ Tryz.prog 151 [.ref o 0] σ fun v σ' => v = vStr (B []) ∧ σ = σ' := by
 refine en_ Tryz.func151 Tryz.ntmps151 Tryz.results151 ?_
 refine ab_ ?_
 have R := ho
 refine r_ ?_
 refine s_ ?_
 refine aa_ ?_
 refine ab_ ?_
 have R := ho
 refine ap_ (.op 0 0 (.op 1 0 (.op 2 0 (.op 3 0 (.op 5 0 (.op 6 0 (.op 7 0 (.op 8 0 (.op 9 0 (.op 4 1 (.op 10 2 (.op 11 0 .nil)))))))))))) Tryz.mixed kr_ ?_
 iterate 9 refine ds_ ?_
 refine dR_X o_ (by rfl) (by rfl) (fG_ (k := 0) (l := []) (e0 := 0) (by rfl) g_ (.inr ⟨va_, rfl⟩) ⟨sub_, ?_⟩)
 refine dR_T o_ (by rfl) (by rfl) (gk_ (by rfl) va_ va_ ?_)
 refine ds_ ?_
 refine aB_ ?_
 refine af_ ?_
 refine er_ σ ?_
 exact ⟨rfl, rfl⟩
theorem mm_ (n : Int) (k : Nat) : n / 2 ^ (8 * k) = n / 256 ^ k := by
 rw [show (256 : Int) = 2 ^ 8 from rfl, ← Int.pow_mul]
theorem ng_ (n : Int) (k j : Nat) (h : j < k) : (beI k n)[j]? = some (eA_ (n / 256 ^ (k - 1 - j))) := by
 induction k generalizing j with
 |zero => omega
 |succ k ih =>
  rw [beI]
  cases j with
  |zero => simp
  |succ j => rw [List.getElem?_cons_succ, ih j (by omega)]; congr 4; omega
theorem tv_ {o k : Nat} {n : Int} {l : List UInt8} {σ : Store} (ho : WR σ o l) (hk : k ≤ 8) (hl : l.length ≤ 1000000000000) : ai_ Tryz.prog 202 [.ref o 0, vInt n, vInt k] σ fun v σ' => v = .tup [] ∧ WR σ' o (l ++ beI k n) ∧ WF o σ σ' := by
 have h00 : (k : Int) - 1 - ((0 : Nat) : Int) = (k : Int) - 1 := by omega
 refine en_ Tryz.func202 Tryz.ntmps202 Tryz.results202 ?_
 refine ab_ ?_
 refine rr_ ?_
 iterate 2 refine s_ ?_
 refine aa_ ?_
 refine cd_ (fun hc0 => ?_) (fun hc0 => ?_)
 ·cases hc0
 ·refine ae_ ?_
  refine rr_ ?_
  iterate 3 refine s_ ?_
  refine aa_ ?_
  refine ag_ ?_
  refine ah_ (ι := Store × Nat) (fun ⟨τ, j⟩ => k - j) (fun ⟨τ, j⟩ => j ≤ k ∧ WR τ o (l ++ (beI k n).take j) ∧ WF o σ τ) (fun ⟨τ, j⟩ => [(0, .ref o 0), (1, vInt n), (6, vInt ((k : Int) - 1 - j))]) (fun ⟨τ, j⟩ => τ) (σ, 0) ?_ ?_ ?_ ?_
  ·exact ⟨Nat.zero_le _, by simpa using ho, WF.refl⟩
  ·have R := h00; exact cv_
  ·exact Store.Wk.refl _
  rintro ⟨τ, j⟩ ⟨h1, h2, h3⟩
  simp only [ak_, am_]
  refine ab_ ?_
  refine rr_ ?_
  iterate 2 refine s_ ?_
  refine aa_ ?_
  refine cd_ (fun hc2 => ?_) (fun hc2 => ?_)
  ·refine ae_ ?_
   refine ab_ ?_
   refine ag_ ?_
   have hj : j < k := by omega
   have hbj := ng_ n k j hj
   obtain ⟨a, b, old, hw, ha, hb⟩ := h2
   have hll : (l ++ (beI k n).take j).length ≤ 1099511627776 := by rw [List.length_append, List.length_take]; omega
   have hcv : (k : Int) - 1 - j - 1 = (k : Int) - 1 - ((j + 1 : Nat) : Int) := by omega
   have hsh : ((8 : Int) * ((k : Int) - 1 - j)).toNat = 8 * (k - 1 - j) := by omega
   have hby := (j4_ (n / 256 ^ (k - 1 - j))).symm
   have R := And.intro hsh (And.intro mm_ (And.intro lW_ hby))
   refine ap_ (.op 0 0 (.op 1 0 (.op 2 0 (.op 3 0 (.op 4 0 (.op 5 0 (.op 6 0 (.op 7 0 (.op 8 2 .nil))))))))) Tryz.mixed kr_ ?_
   iterate 8 refine ds_ ?_
   refine tx_ o_ g_ va_ (lX_ (c := eA_ (n / 256 ^ (k - 1 - j))) hw ha hb hll) ?_; rintro _ _ ⟨k23, rfl, hk23, rfl⟩
   refine aB_ ?_
   refine r_ ?_
   iterate 3 refine s_ ?_
   refine aa_ ?_
   refine aC_ (ι := Store × Nat) (i := ⟨τ, j⟩) ((τ.newTok old k23 (5, 1)).set o (.cells [.ref o 0, .own k23 1 (aJ_ (B (l ++ (beI k n).take j ++ [eA_ (n / 256 ^ (k - 1 - j))])))]), j + 1) ?_ ?_ ?_ ?_
   ·show k - (j + 1) < k - j; omega
   ·exact ⟨by show j + 1 ≤ k; omega, ⟨_, _, some k23, Store.set_get .., .inl rfl, .inl ⟨k23, by rw [ax_ hbj, List.append_assoc], by rw [Store.set_tok]; exact Store.newTok_get .., rfl⟩⟩, h3.trans (WF.put hw hb hk23)⟩
   ·have R := hcv; exact cv_
   ·exact Store.Wk.refl _
  ·refine an_ ?_
   refine ad_ ?_
   refine ad_ ?_
   refine aj_ ?_
   refine bz_ v_ (Store.Wk.refl _) ?_
   exact ⟨rfl, by rwa [List.take_of_length_le (by rw [ay_]; omega)] at h2, h3⟩
theorem nj_ {o : Nat} {n : Int} {l : List UInt8} {σ : Store} (ho : WR σ o l) (hl : l.length ≤ 1000000000000) : ai_ Tryz.prog 145 [.ref o 0, vInt n] σ fun v σ' => v = .tup [] ∧ WR σ' o (l ++ beI 1 n) ∧ WF o σ σ' := by
 refine en_ Tryz.func145 Tryz.ntmps145 Tryz.results145 ?_
 refine r_ ?_
 iterate 2 refine s_ ?_
 refine x_ g_ va_ (tv_ (k := 1) ho (by decide) hl) ?_; rintro _ τ ⟨rfl, h1, h2⟩
 refine aa_ ?_
 refine bz_ v_ (Store.Wk.refl _) ?_
 exact ⟨rfl, h1, h2⟩
theorem ik_ {o : Nat} {n : Int} {l : List UInt8} {σ : Store} (ho : WR σ o l) (hl : l.length ≤ 1000000000000) : ai_ Tryz.prog 150 [.ref o 0, vInt n] σ fun v σ' => v = .tup [] ∧ WR σ' o (l ++ beI 8 n) ∧ WF o σ σ' := by
 refine en_ Tryz.func150 Tryz.ntmps150 Tryz.results150 ?_
 refine r_ ?_
 iterate 2 refine s_ ?_
 refine x_ g_ va_ (tv_ (k := 8) ho (by decide) hl) ?_; rintro _ τ ⟨rfl, h1, h2⟩
 refine aa_ ?_
 refine bz_ v_ (Store.Wk.refl _) ?_
 exact ⟨rfl, h1, h2⟩
theorem d4_ {o : Nat} {n : Int} {l : List UInt8} {σ : Store} (ho : WR σ o l) (hl : l.length ≤ 1000000000000) : ai_ Tryz.prog 203 [.ref o 0, vInt n] σ fun v σ' => v = .tup [] ∧ WR σ' o (l ++ beI 4 n) ∧ WF o σ σ' := by
 refine en_ Tryz.func203 Tryz.ntmps203 Tryz.results203 ?_
 refine r_ ?_
 iterate 2 refine s_ ?_
 refine x_ g_ va_ (tv_ (k := 4) ho (by decide) hl) ?_; rintro _ τ ⟨rfl, h1, h2⟩
 refine aa_ ?_
 refine bz_ v_ (Store.Wk.refl _) ?_
 exact ⟨rfl, h1, h2⟩
def a9_ (s : ByteArray) : List UInt8 := beI 4 s.size ++ Lb s
theorem aP_ (s : ByteArray) : (a9_ s).length = 4 + s.size := by rw [a9_, List.length_append, ay_, cr_]
theorem gh_ {o : Nat} {s : ByteArray} {l : List UInt8} {σ : Store} (ho : WR σ o l) (hl : l.length ≤ 999999999990) (hs : s.size ≤ 1000000000) : ai_ Tryz.prog 146 [.ref o 0, vStr s] σ fun v σ' => v = .tup [] ∧ WR σ' o (l ++ a9_ s) ∧ WF o σ σ' := by
 refine en_ Tryz.func146 Tryz.ntmps146 Tryz.results146 ?_
 refine rr_ ?_
 iterate 3 refine s_ ?_
 refine x_ g_ va_ (d4_ ho (by omega)) ?_; rintro _ τ ⟨rfl, h1, h2⟩
 refine aa_ ?_
 refine rr_ ?_
 iterate 2 refine s_ ?_
 refine aa_ ?_
 refine cd_ (fun hc1 => ?_) (fun hc1 => ?_)
 ·obtain ⟨a, b, old, hw, ha, hb⟩ := h1
  have hll : (l ++ beI 4 s.size).length ≤ 1099511627776 := by rw [List.length_append, ay_]; omega
  refine r_ ?_
  iterate 4 refine s_ ?_
  refine x_ g_ va_ (jL_ hw ha hb hll (by omega)) ?_; rintro _ _ ⟨k14, rfl, hk14, rfl⟩
  refine aa_ ?_
  refine bz_ v_ (Store.Wk.refl _) ?_
  exact ⟨rfl, ⟨_, _, some k14, Store.set_get .., .inl rfl, .inl ⟨k14, by rw [a9_, ← List.append_assoc], by rw [Store.set_tok]; exact Store.newTok_get .., rfl⟩⟩, h2.trans (WF.put hw hb hk14)⟩
 ·cases hc1
theorem WF.del {σ : Store} {o k : Nat} {a : AVal} {l : List AVal} {sz : Nat} (ho : σ.heap o = some (.cells [a, .own k sz l])) : WF o σ (σ.delTok k) := by
 refine ⟨fun i x _ hx => hx, fun t n ht hn => ⟨?_, hn⟩⟩
 have : t ≠ k := fun hh => hn ⟨_, _, _, by rw [hh]; exact ho⟩
 simp [Store.delTok, this, ht]
theorem qo_ {o k : Nat} {s : ByteArray} {σ : Store} {a : AVal} (ho : σ.heap o = some (.cells [a, .own k 1 (aJ_ s)])) (hk : σ.tok k = some (5, 1)) (hs : s.size ≤ 1099511627776) : ai_ Tryz.prog 89 [.ref o 0] σ fun v σ' => v = vStr s ∧ WF o σ σ' := by
 refine en_ Tryz.func89 Tryz.ntmps89 Tryz.results89 ?_
 refine rr_ ?_
 refine s_ ?_
 refine aa_ ?_
 refine ab_ ?_
 refine rr_ ?_
 iterate 2 refine s_ ?_
 refine aa_ ?_
 refine cd_ (fun hc1 => ?_) (fun hc1 => ?_)
 ·cases hc1
 ·refine ae_ ?_
  refine rr_ ?_
  iterate 3 refine s_ ?_
  refine x_ g_ va_ (r3_ ho hk hs) ?_; rintro _ _ ⟨rfl, rfl⟩
  refine s_ ?_
  refine aa_ ?_
  refine af_ ?_
  refine au_ v_ (Store.Wk.refl _) ?_
  exact ⟨rfl, WF.del ho⟩
theorem qp_ {o : Nat} {σ : Store} {a : AVal} (ho : σ.heap o = some (.cells [a, .lit (.slice none 0 0)])) : ai_ Tryz.prog 89 [.ref o 0] σ fun v σ' => v = vStr (B []) ∧ WF o σ σ' := by
 refine en_ Tryz.func89 Tryz.ntmps89 Tryz.results89 ?_
 refine rr_ ?_
 refine s_ ?_
 refine aa_ ?_
 refine ab_ ?_
 refine rr_ ?_
 iterate 2 refine s_ ?_
 refine aa_ ?_
 refine cd_ (fun hc1 => ?_) (fun hc1 => ?_)
 ·cases hc1
 ·refine ae_ ?_
  refine rr_ ?_
  iterate 3 refine s_ ?_
  refine x_ g_ va_ (r4_ ho) ?_; rintro _ _ ⟨rfl, rfl⟩
  refine s_ ?_
  refine aa_ ?_
  refine af_ ?_
  refine au_ v_ (Store.Wk.refl _) ?_
  exact ⟨rfl, WF.refl⟩
theorem eX_ {o : Nat} {l : List UInt8} {σ : Store} (ho : WR σ o l) (hl : l.length ≤ 1000000000000) : ai_ Tryz.prog 89 [.ref o 0] σ fun v σ' => v = vStr (B l) ∧ WF o σ σ' := by
 obtain ⟨a, b, old, hw, ha, hb⟩ := ho
 rcases hb with ⟨k, rfl, hk, _⟩ | ⟨rfl, hl0, _⟩
 ·refine qo_ hw hk (by rw [a3_]; omega)
 ·have : l = [] := by
   have := congrArg List.length hl0
   rw [aN_, a3_] at this
   exact List.eq_nil_of_length_eq_zero this
  subst this
  exact qp_ hw
def dd_ {α : Type} (f : α → List UInt8) (l : List α) : List UInt8 := beI 4 l.length ++ l.flatMap f
def dA_ (x : Seen) : List UInt8 := a9_ x.node ++ beI 8 x.base ++ dd_ (beI 8) x.more
def ctxB (c : List Seen) : List UInt8 := dd_ dA_ c
def fs_ (b : Bool) : Int := if b then 1 else 0
def sibB (x : Sib) : List UInt8 := a9_ x.node ++ beI 8 x.n ++ a9_ x.value ++ beI 1 (fs_ x.gone) ++ beI 8 x.time
def objB (o : Obj') : List UInt8 := ctxB o.ctx ++ dd_ sibB o.sibs
theorem a0_ {α β : Type} {f : α → List β} {l : List α} {i : Nat} {x : α} (h : l[i]? = some x) : (l.take (i + 1)).flatMap f = (l.take i).flatMap f ++ f x := by
 rw [ax_ h, List.flatMap_append]; simp
theorem bi_ {α β : Type} {f : α → List β} (l : List α) (i : Nat) : ((l.take i).flatMap f).length ≤ (l.flatMap f).length := by
 conv => rhs; rw [← List.take_append_drop i l, List.flatMap_append, List.length_append]
 omega
theorem WF.keep {o i : Nat} {a b : Store} {x : AObj} (h : WF o a b) (hx : a.heap i = some x) (hi : i ≠ o) : b.heap i = some x := h.1 i x hi hx
theorem WF.alloc {o i : Nat} {a b : Store} {x : AObj} (h : WF o a b) (hi : b.heap i = none) (ho : i ≠ o) : WF o a (b.set i x) :=
 ⟨fun j y hj hy => by rw [Store.set_ne _ _ (fun hh => by have := h.1 j y hj hy; rw [hh, hi] at this; cases this)]; exact h.1 j y hj hy, fun t n ht hn => ⟨(h.2 t n ht hn).1, fun ⟨a, sz, l, hh⟩ => (h.2 t n ht hn).2 ⟨a, sz, l, by rw [Store.set_ne _ _ (Ne.symm ho)] at hh; exact hh⟩⟩⟩
theorem WR.alloc {o i : Nat} {l : List UInt8} {σ : Store} {x : AObj} (h : WR σ o l) (hi : i ≠ o) : WR (σ.set i x) o l := by
 obtain ⟨a, b, old, h1, h2, h3⟩ := h
 exact ⟨a, b, old, by rw [Store.set_ne _ _ (Ne.symm hi)]; exact h1, h2, h3⟩
theorem WR.alloc2 {o i : Nat} {l : List UInt8} {σ : Store} {x y : AObj} (h : WR σ o l) (hi : i ≠ o) : WR ((σ.set i x).set i y) o l := (h.alloc hi).alloc hi
theorem WF.alloc2 {o i : Nat} {a b : Store} {x y : AObj} (h : WF o a b) (hi : b.heap i = none) (ho : i ≠ o) : WF o a ((b.set i x).set i y) := by
 rw [Store.set_set]; exact h.alloc hi ho
theorem WR.some {o : Nat} {l : List UInt8} {σ : Store} (h : WR σ o l) : ∃ x, σ.heap o = some x := by obtain ⟨a, b, old, h1, _⟩ := h; exact ⟨_, h1⟩
theorem oU_ {o G : Nat} {l : List UInt8} {L : List Int} {t : Bool} {σ : Store} {fs cp : List AVal} {wb : Int → List UInt8} (Kp : Store → Prop) (hgo : isGo Tryz.prog G = true) (hK : ∀ τ τ', Kp τ → WF o τ τ' → Kp τ') (ho : WR σ o l) (hKσ : Kp σ)
  (hL : l.length + 4 + (L.flatMap wb).length ≤ 999999999000) (hLb : L.length ≤ 1000000)
  (hf : ∀ τ l x, x ∈ L → WR τ o l → Kp τ → l.length + (wb x).length ≤ 999999999000 → ai_ Tryz.prog G (fs ++ [vInt x] ++ cp) τ fun v τ' => v = .tup [] ∧ WR τ' o (l ++ wb x) ∧ WF o τ τ') :
  ai_ Tryz.prog 207 [.ref o 0, .sl 1 (L.map vInt) t, .fn (.func G) fs cp] σ fun v σ' => v = .tup [] ∧ WR σ' o (l ++ dd_ wb L) ∧ WF o σ σ' := by
 refine en_ Tryz.func207 Tryz.ntmps207 Tryz.results207 ?_
 refine rr_ ?_
 iterate 3 refine s_ ?_
 refine x_ g_ va_ (d4_ (n := (L.length : Int)) ho (by omega)) ?_; rintro _ τ0 ⟨rfl, g1, g2⟩
 refine aa_ ?_
 refine rr_ ?_
 iterate 3 refine s_ ?_
 refine aa_ ?_
 refine ag_ ?_
 refine ah_ (ι := Store × Nat) (fun ⟨τ, i⟩ => L.length - i) (fun ⟨τ, i⟩ => i ≤ L.length ∧ WR τ o (l ++ beI 4 L.length ++ (L.take i).flatMap wb) ∧ WF o σ τ) (fun ⟨τ, i⟩ => [(2, .fn (.func G) fs cp), (12, .sl 1 (L.map vInt) t), (13, vInt L.length), (14, vInt i)]) (fun ⟨τ, i⟩ => τ) (τ0, 0) ?_ ?_ ?_ ?_
 ·exact ⟨Nat.zero_le _, by simpa using g1, g2⟩
 ·exact cv_
 ·exact Store.Wk.refl _
 rintro ⟨τ, i⟩ ⟨h1, h2, h3⟩
 simp only [ak_, am_]
 refine rr_ ?_
 refine s_ ?_
 refine aa_ ?_
 refine ab_ ?_
 refine cd_ (fun hc2 => ?_) (fun hc2 => ?_)
 ·refine ae_ ?_
  refine ab_ ?_
  refine ag_ ?_
  refine ab_ ?_
  obtain ⟨x, hx⟩ : ∃ x, L[i]? = some x := ⟨L[i]'(by omega), List.getElem?_eq_getElem _⟩
  have hle := bi_ (f := wb) L (i + 1)
  rw [a0_ hx, List.length_append] at hle
  have hb : (l ++ beI 4 L.length ++ (L.take i).flatMap wb).length + (wb x).length ≤ 999999999000 := by rw [List.length_append, List.length_append, ay_]; omega
  have hxm := List.mem_of_getElem? hx
  have R := hx
  refine r_ ?_
  iterate 3 refine s_ ?_
  refine aa_ ?_
  skip
  refine r_ ?_
  iterate 2 refine s_ ?_
  refine aL_X rfl rfl (aU_ rfl rfl (.inl v_) g_ va_ (hf _ _ x hxm h2 (hK _ _ hKσ h3) hb) ?_); rintro _ υ ⟨rfl, u1, u2⟩
  refine aa_ ?_
  refine r_ ?_
  iterate 2 refine s_ ?_
  refine aa_ ?_
  refine aC_ (ι := Store × Nat) (i := ⟨τ, i⟩) (υ, i + 1) ?_ ?_ ?_ ?_
  ·show L.length - (i + 1) < L.length - i; omega
  ·exact ⟨by show i + 1 ≤ L.length; omega, by rw [a0_ hx, ← List.append_assoc]; exact u1, WF.trans h3 u2⟩
  ·exact cv_
  ·exact Store.Wk.refl _
 ·refine an_ ?_
  refine ad_ ?_
  refine ad_ ?_
  refine aj_ ?_
  refine bz_ v_ (Store.Wk.refl _) ?_
  exact ⟨rfl, by rw [dd_, ← List.append_assoc]; rwa [List.take_of_length_le (by omega)] at h2, h3⟩
theorem nz_ {o G : Nat} {l : List UInt8} {L : List Seen} {t : Bool} {σ : Store} {fs cp : List AVal} {wb : Seen → List UInt8} (Kp : Store → Prop) (hgo : isGo Tryz.prog G = true) (hK : ∀ τ τ', Kp τ → WF o τ τ' → Kp τ') (ho : WR σ o l) (hKσ : Kp σ)
  (hL : l.length + 4 + (L.flatMap wb).length ≤ 999999999000) (hLb : L.length ≤ 1000000)
  (hf : ∀ τ l x, x ∈ L → WR τ o l → Kp τ → l.length + (wb x).length ≤ 999999999000 → ai_ Tryz.prog G (fs ++ [az_ x] ++ cp) τ fun v τ' => v = .tup [] ∧ WR τ' o (l ++ wb x) ∧ WF o τ τ') :
  ai_ Tryz.prog 205 [.ref o 0, .sl 3 (L.map az_) t, .fn (.func G) fs cp] σ fun v σ' => v = .tup [] ∧ WR σ' o (l ++ dd_ wb L) ∧ WF o σ σ' := by
 refine en_ Tryz.func205 Tryz.ntmps205 Tryz.results205 ?_
 refine rr_ ?_
 iterate 3 refine s_ ?_
 refine x_ g_ va_ (d4_ (n := (L.length : Int)) ho (by omega)) ?_; rintro _ τ0 ⟨rfl, g1, g2⟩
 refine aa_ ?_
 refine rr_ ?_
 iterate 3 refine s_ ?_
 refine aa_ ?_
 refine ag_ ?_
 refine ah_ (ι := Store × Nat) (fun ⟨τ, i⟩ => L.length - i) (fun ⟨τ, i⟩ => i ≤ L.length ∧ WR τ o (l ++ beI 4 L.length ++ (L.take i).flatMap wb) ∧ WF o σ τ) (fun ⟨τ, i⟩ => [(2, .fn (.func G) fs cp), (12, .sl 3 (L.map az_) t), (13, vInt L.length), (14, vInt i)]) (fun ⟨τ, i⟩ => τ) (τ0, 0) ?_ ?_ ?_ ?_
 ·exact ⟨Nat.zero_le _, by simpa using g1, g2⟩
 ·exact cv_
 ·exact Store.Wk.refl _
 rintro ⟨τ, i⟩ ⟨h1, h2, h3⟩
 simp only [ak_, am_]
 refine rr_ ?_
 refine s_ ?_
 refine aa_ ?_
 refine ab_ ?_
 refine cd_ (fun hc2 => ?_) (fun hc2 => ?_)
 ·refine ae_ ?_
  refine ab_ ?_
  refine ag_ ?_
  refine ab_ ?_
  obtain ⟨x, hx⟩ : ∃ x, L[i]? = some x := ⟨L[i]'(by omega), List.getElem?_eq_getElem _⟩
  have hle := bi_ (f := wb) L (i + 1)
  rw [a0_ hx, List.length_append] at hle
  have hb : (l ++ beI 4 L.length ++ (L.take i).flatMap wb).length + (wb x).length ≤ 999999999000 := by rw [List.length_append, List.length_append, ay_]; omega
  have hxm := List.mem_of_getElem? hx
  have R := hx
  refine r_ ?_
  iterate 2 refine s_ ?_
  refine lc_ fun o7 ho7 => ?_
  repeat (rw [ac_] at ho7; obtain ⟨_, ho7⟩ := ho7)
  refine st_ ?_
  refine aa_ ?_
  obtain ⟨xo, hxo⟩ := WR.some h2; have n7 := (aF_ hxo ho7).symm
  refine r_ ?_
  iterate 2 refine s_ ?_
  refine aL_X rfl rfl (aU_ rfl rfl (.inl v_) g_ va_ (hf _ _ x hxm (WR.alloc2 h2 n7) (hK _ _ hKσ (WF.alloc2 h3 ho7 n7)) hb) ?_); rintro _ υ ⟨rfl, u1, u2⟩
  refine aa_ ?_
  refine r_ ?_
  iterate 2 refine s_ ?_
  refine aa_ ?_
  refine aC_ (ι := Store × Nat) (i := ⟨τ, i⟩) (υ, i + 1) ?_ ?_ ?_ ?_
  ·show L.length - (i + 1) < L.length - i; omega
  ·exact ⟨by show i + 1 ≤ L.length; omega, by rw [a0_ hx, ← List.append_assoc]; exact u1, WF.trans (WF.alloc2 h3 ho7 n7) u2⟩
  ·exact cv_
  ·exact Store.Wk.refl _
 ·refine an_ ?_
  refine ad_ ?_
  refine ad_ ?_
  refine aj_ ?_
  refine bz_ v_ (Store.Wk.refl _) ?_
  exact ⟨rfl, by rw [dd_, ← List.append_assoc]; rwa [List.take_of_length_le (by omega)] at h2, h3⟩
theorem oV_ {o G : Nat} {l : List UInt8} {L : List Sib} {t : Bool} {σ : Store} {fs cp : List AVal} {wb : Sib → List UInt8} (Kp : Store → Prop) (hgo : isGo Tryz.prog G = true) (hK : ∀ τ τ', Kp τ → WF o τ τ' → Kp τ') (ho : WR σ o l) (hKσ : Kp σ)
  (hL : l.length + 4 + (L.flatMap wb).length ≤ 999999999000) (hLb : L.length ≤ 1000000)
  (hf : ∀ τ l x, x ∈ L → WR τ o l → Kp τ → l.length + (wb x).length ≤ 999999999000 → ai_ Tryz.prog G (fs ++ [sSib x] ++ cp) τ fun v τ' => v = .tup [] ∧ WR τ' o (l ++ wb x) ∧ WF o τ τ') :
  ai_ Tryz.prog 148 [.ref o 0, .sl 5 (L.map sSib) t, .fn (.func G) fs cp] σ fun v σ' => v = .tup [] ∧ WR σ' o (l ++ dd_ wb L) ∧ WF o σ σ' := by
 refine en_ Tryz.func148 Tryz.ntmps148 Tryz.results148 ?_
 refine rr_ ?_
 iterate 3 refine s_ ?_
 refine x_ g_ va_ (d4_ (n := (L.length : Int)) ho (by omega)) ?_; rintro _ τ0 ⟨rfl, g1, g2⟩
 refine aa_ ?_
 refine rr_ ?_
 iterate 3 refine s_ ?_
 refine aa_ ?_
 refine ag_ ?_
 refine ah_ (ι := Store × Nat) (fun ⟨τ, i⟩ => L.length - i) (fun ⟨τ, i⟩ => i ≤ L.length ∧ WR τ o (l ++ beI 4 L.length ++ (L.take i).flatMap wb) ∧ WF o σ τ) (fun ⟨τ, i⟩ => [(2, .fn (.func G) fs cp), (12, .sl 5 (L.map sSib) t), (13, vInt L.length), (14, vInt i)]) (fun ⟨τ, i⟩ => τ) (τ0, 0) ?_ ?_ ?_ ?_
 ·exact ⟨Nat.zero_le _, by simpa using g1, g2⟩
 ·exact cv_
 ·exact Store.Wk.refl _
 rintro ⟨τ, i⟩ ⟨h1, h2, h3⟩
 simp only [ak_, am_]
 refine rr_ ?_
 refine s_ ?_
 refine aa_ ?_
 refine ab_ ?_
 refine cd_ (fun hc2 => ?_) (fun hc2 => ?_)
 ·refine ae_ ?_
  refine ab_ ?_
  refine ag_ ?_
  refine ab_ ?_
  obtain ⟨x, hx⟩ : ∃ x, L[i]? = some x := ⟨L[i]'(by omega), List.getElem?_eq_getElem _⟩
  have hle := bi_ (f := wb) L (i + 1)
  rw [a0_ hx, List.length_append] at hle
  have hb : (l ++ beI 4 L.length ++ (L.take i).flatMap wb).length + (wb x).length ≤ 999999999000 := by rw [List.length_append, List.length_append, ay_]; omega
  have hxm := List.mem_of_getElem? hx
  have R := hx
  refine r_ ?_
  iterate 2 refine s_ ?_
  refine lc_ fun o7 ho7 => ?_
  repeat (rw [ac_] at ho7; obtain ⟨_, ho7⟩ := ho7)
  refine st_ ?_
  refine aa_ ?_
  obtain ⟨xo, hxo⟩ := WR.some h2; have n7 := (aF_ hxo ho7).symm
  refine r_ ?_
  iterate 2 refine s_ ?_
  refine aL_X rfl rfl (aU_ rfl rfl (.inl v_) g_ va_ (hf _ _ x hxm (WR.alloc2 h2 n7) (hK _ _ hKσ (WF.alloc2 h3 ho7 n7)) hb) ?_); rintro _ υ ⟨rfl, u1, u2⟩
  refine aa_ ?_
  refine r_ ?_
  iterate 2 refine s_ ?_
  refine aa_ ?_
  refine aC_ (ι := Store × Nat) (i := ⟨τ, i⟩) (υ, i + 1) ?_ ?_ ?_ ?_
  ·show L.length - (i + 1) < L.length - i; omega
  ·exact ⟨by show i + 1 ≤ L.length; omega, by rw [a0_ hx, ← List.append_assoc]; exact u1, WF.trans (WF.alloc2 h3 ho7 n7) u2⟩
  ·exact cv_
  ·exact Store.Wk.refl _
 ·refine an_ ?_
  refine ad_ ?_
  refine ad_ ?_
  refine aj_ ?_
  refine bz_ v_ (Store.Wk.refl _) ?_
  exact ⟨rfl, by rw [dd_, ← List.append_assoc]; rwa [List.take_of_length_le (by omega)] at h2, h3⟩
theorem uk_ {o : Nat} {l : List UInt8} {σ : Store} {n : Int} (ho : WR σ o l) (hl : l.length + (beI 8 n).length ≤ 999999999000) : ai_ Tryz.prog 150 ([.ref o 0] ++ [vInt n] ++ []) σ fun v σ' => v = .tup [] ∧ WR σ' o (l ++ beI 8 n) ∧ WF o σ σ' := ik_ ho (by omega)
theorem eK_ (l : List Int) : (l.flatMap (beI 8)).length = 8 * l.length := by
 induction l with
 |nil => rfl
 |cons x l ih => rw [List.flatMap_cons, List.length_append, ih, ay_, List.length_cons]; omega
structure SeenSm (x : Seen) : Prop where
 node : x.node.size ≤ 1000000
 more : x.more.length ≤ 1000000
structure SibSm (x : Sib) : Prop where
 node : x.node.size ≤ 1000000
 value : x.value.size ≤ 1000000
theorem eW_ (x : Seen) : (dA_ x).length = 16 + x.node.size + 8 * x.more.length := by
 simp only [dA_, dd_, List.length_append, aP_, ay_, eK_]; omega
theorem if_ (x : Sib) : (sibB x).length = 25 + x.node.size + x.value.size := by
 simp only [sibB, List.length_append, aP_, ay_]; omega
theorem lu_ {α : Type} {f : α → List UInt8} {n : Nat} : ∀ (l : List α), (∀ x ∈ l, (f x).length ≤ n) → (l.flatMap f).length ≤ n * l.length
 |[], _ => by simp
 |x :: l, h => by
  have h1 := h x (List.mem_cons_self ..)
  have h2 := lu_ l fun y hy => h y (List.mem_cons_of_mem _ hy)
  rw [List.flatMap_cons, List.length_append, List.length_cons, Nat.mul_succ]; omega
theorem sf_ {o ob : Nat} {l : List UInt8} {x : Seen} {σ : Store} (ho : WR σ o l) (hb : σ.heap ob = some (.cells [.ref o 0])) (hx : SeenSm x) (hl : l.length + (dA_ x).length ≤ 999999999000) : ai_ Tryz.prog 206 [az_ x, .ref ob 0] σ fun v σ' => v = .tup [] ∧ WR σ' o (l ++ dA_ x) ∧ WF o σ σ' := by
 have hne : ob ≠ o := fun hh => by obtain ⟨a, b, old, h1, _⟩ := ho; rw [hh, h1] at hb; cases hb
 have h1 := hx.node; have h2 := hx.more
 rw [eW_] at hl
 refine en_ Tryz.func206 Tryz.ntmps206 Tryz.results206 ?_
 refine rr_ ?_
 refine bx_ fun o2 ho2 => ?_
 repeat (rw [ac_] at ho2; obtain ⟨_, ho2⟩ := ho2)
 refine aa_ ?_
 obtain ⟨xo, hxo⟩ := WR.some ho
 have n2 := (aF_ hxo ho2).symm
 have n2b := (aF_ hb ho2)
 refine ab_ ?_
 have R := hb
 refine r_ ?_
 iterate 3 refine s_ ?_
 refine x_ g_ va_ (gh_ (WR.alloc ho n2) (by omega) (by omega)) ?_; rintro _ τ1 ⟨rfl, a1, a2⟩
 refine aa_ ?_
 refine ab_ ?_
 have b1 := WF.keep (i := ob) (x := .cells [.ref o 0]) a2 (by simp (disch := omega) only [Store.set_ne, hb]) hne
 have b2 := WF.keep (i := o2) (x := .cells (az_ x).cells) a2 (Store.set_get ..) n2
 have R := And.intro b1 b2
 refine r_ ?_
 iterate 3 refine s_ ?_
 refine x_ g_ va_ (ik_ a1 (by simp only [List.length_append, aP_]; omega)) ?_; rintro _ τ2 ⟨rfl, c1, c2⟩
 refine aa_ ?_
 have d1 := c2.keep b1 hne
 have d2 := c2.keep b2 n2
 have R := And.intro d1 d2
 refine r_ ?_
 iterate 5 refine s_ ?_
 refine x_ g_ va_ (oU_ (wb := beI 8) (fun _ => True) kr_ (fun _ _ _ _ => trivial) c1 trivial (by simp only [List.length_append, aP_, ay_, eK_]; omega) (by omega) (fun _ _ _ _ h _ hl => uk_ h hl)) ?_; rintro _ τ3 ⟨rfl, e1, e2⟩
 refine aa_ ?_
 refine bz_ v_ (Store.Wk.refl _) ?_
 exact ⟨rfl, by simpa [dA_, List.append_assoc] using e1, (WF.alloc WF.refl ho2 n2).trans (a2.trans (c2.trans e2))⟩
theorem rU_ {x : Seen} (h : SeenSm x) : (dA_ x).length ≤ 9000016 := by rw [eW_]; have := h.node; have := h.more; omega
theorem ua_ {x : Sib} (h : SibSm x) : (sibB x).length ≤ 2000025 := by rw [if_]; have := h.node; have := h.value; omega
structure ObjSm (x : Obj') : Prop where
 ctx : ∀ y ∈ x.ctx, SeenSm y
 sibs : ∀ y ∈ x.sibs, SibSm y
 nc : x.ctx.length ≤ 1000
 ns : x.sibs.length ≤ 1000
theorem hB_ {c : List Seen} (h : ∀ y ∈ c, SeenSm y) (hn : c.length ≤ 1000) : (c.flatMap dA_).length ≤ 9000016000 := by
 have := lu_ (f := dA_) c fun x hx => rU_ (h x hx)
 have h2 := Nat.mul_le_mul_left 9000016 hn
 omega
theorem jD_ {c : List Sib} (h : ∀ y ∈ c, SibSm y) (hn : c.length ≤ 1000) : (c.flatMap sibB).length ≤ 2000025000 := by
 have := lu_ (f := sibB) c fun x hx => ua_ (h x hx)
 have h2 := Nat.mul_le_mul_left 2000025 hn
 omega
theorem uj_ {o : Nat} {l : List UInt8} {c : List Seen} {t : Bool} {σ : Store} (ho : WR σ o l) (hc : ∀ y ∈ c, SeenSm y) (hn : c.length ≤ 1000) (hl : l.length ≤ 980000000000) : ai_ Tryz.prog 147 [.ref o 0, .sl 3 (c.map az_) t] σ fun v σ' => v = .tup [] ∧ WR σ' o (l ++ ctxB c) ∧ WF o σ σ' := by
 have hle := hB_ hc hn
 refine en_ Tryz.func147 Tryz.ntmps147 Tryz.results147 ?_
 refine rr_ ?_
 refine bx_ fun o2 ho2 => ?_
 repeat (rw [ac_] at ho2; obtain ⟨_, ho2⟩ := ho2)
 refine aa_ ?_
 obtain ⟨xo, hxo⟩ := WR.some ho
 have n2 := (aF_ hxo ho2).symm
 refine r_ ?_
 iterate 3 refine s_ ?_
 refine x_ g_ va_ (nz_ (wb := dA_) (fun τ => τ.heap o2 = some (.cells [.ref o 0])) kr_ (fun _ _ h k => k.keep h n2) (WR.alloc ho n2) (Store.set_get ..) (by omega) (by omega) (fun _ _ _ hm h hb hl => sf_ h hb (hc _ hm) hl)) ?_; rintro _ τ ⟨rfl, a1, a2⟩
 refine aa_ ?_
 refine bz_ v_ (Store.Wk.refl _) ?_
 exact ⟨rfl, a1, (WF.alloc WF.refl ho2 n2).trans a2⟩
theorem um_ {o ob : Nat} {l : List UInt8} {x : Sib} {σ : Store} (ho : WR σ o l) (hb : σ.heap ob = some (.cells [.ref o 0])) (hx : SibSm x) (hl : l.length + (sibB x).length ≤ 999999999000) : ai_ Tryz.prog 149 [sSib x, .ref ob 0] σ fun v σ' => v = .tup [] ∧ WR σ' o (l ++ sibB x) ∧ WF o σ σ' := by
 have hne : ob ≠ o := fun hh => by obtain ⟨a, b, old, h1, _⟩ := ho; rw [hh, h1] at hb; cases hb
 have h1 := hx.node; have h2 := hx.value
 rw [if_] at hl
 refine en_ Tryz.func149 Tryz.ntmps149 Tryz.results149 ?_
 refine rr_ ?_
 refine bx_ fun o2 ho2 => ?_
 repeat (rw [ac_] at ho2; obtain ⟨_, ho2⟩ := ho2)
 refine aa_ ?_
 obtain ⟨xo, hxo⟩ := WR.some ho
 have n2 := (aF_ hxo ho2).symm
 have n2b := (aF_ hb ho2)
 refine ab_ ?_
 have R := hb
 refine r_ ?_
 iterate 4 refine s_ ?_
 refine x_ g_ va_ (gh_ (WR.alloc ho n2) (by omega) (by omega)) ?_; rintro _ τ1 ⟨rfl, a1, a2⟩
 refine aa_ ?_
 refine ab_ ?_
 have b1 := WF.keep (i := ob) (x := .cells [.ref o 0]) a2 (by simp (disch := omega) only [Store.set_ne, hb]) hne
 have b2 := WF.keep (i := o2) (x := .cells (sSib x).cells) a2 (Store.set_get ..) n2
 have R := And.intro b1 b2
 refine r_ ?_
 iterate 4 refine s_ ?_
 refine x_ g_ va_ (ik_ a1 (by simp only [List.length_append, aP_]; omega)) ?_; rintro _ τ2 ⟨rfl, c1, c2⟩
 refine aa_ ?_
 refine ab_ ?_
 have d1 := c2.keep b1 hne
 have d2 := c2.keep b2 n2
 have R := And.intro d1 d2
 refine r_ ?_
 iterate 3 refine s_ ?_
 refine x_ g_ va_ (gh_ c1 (by simp only [List.length_append, aP_, ay_]; omega) (by omega)) ?_; rintro _ τ3 ⟨rfl, e1, e2⟩
 refine aa_ ?_
 refine ab_ ?_
 have f1 := e2.keep d1 hne
 have f2 := e2.keep d2 n2
 refine r_ ?_
 refine s_ ?_
 refine aa_ ?_
 refine cf_ (ι := Unit) (fun _ => True) (fun _ => [(1, .ref ob 0), (2, .ref o2 0), (3, vInt (fs_ x.gone))]) (fun _ => τ3) ?_ ?_
 ·refine ab_ ?_
  have R := f2
  refine r_ ?_
  iterate 2 refine s_ ?_
  refine aa_ ?_
  refine cd_ (fun hc5 => ?_) (fun hc5 => ?_)
  ·have hg1 : fs_ x.gone = 1 := by rw [hc5]; rfl
   refine r_ ?_
   refine s_ ?_
   refine aa_ ?_
   refine ⟨(), ?_, ?_, ?_⟩
   ·trivial
   ·have R := hg1; exact cv_
   ·exact Store.Wk.refl _
  ·have hg2 : fs_ x.gone = 0 := by rw [hc5]; rfl
   refine ae_ ?_
   refine ⟨(), ?_, ?_, ?_⟩
   ·trivial
   ·have R := hg2; exact cv_
   ·exact Store.Wk.refl _
 ·rintro _ _
  simp only [ak_, am_]
  refine ab_ ?_
  have R := f1
  refine r_ ?_
  iterate 2 refine s_ ?_
  refine x_ g_ va_ (nj_ e1 (by simp only [List.length_append, aP_, ay_]; omega)) ?_; rintro _ τ4 ⟨rfl, g1, g2⟩
  refine aa_ ?_
  have i1 := g2.keep f1 hne
  have i2 := g2.keep f2 n2
  have R := And.intro i1 i2
  refine r_ ?_
  iterate 3 refine s_ ?_
  refine x_ g_ va_ (ik_ g1 (by simp only [List.length_append, aP_, ay_]; omega)) ?_; rintro _ τ5 ⟨rfl, k1, k2⟩
  refine aa_ ?_
  refine bz_ v_ (Store.Wk.refl _) ?_
  exact ⟨rfl, by simpa [sibB, List.append_assoc] using k1, (WF.alloc WF.refl ho2 n2).trans (a2.trans (c2.trans (e2.trans (g2.trans k2))))⟩
theorem ul_ {o : Nat} {l : List UInt8} {x : Obj'} {σ : Store} (ho : WR σ o l) (hx : ObjSm x) (hl : l.length ≤ 900000000000) : ai_ Tryz.prog 88 [.ref o 0, sObj x] σ fun v σ' => v = .tup [] ∧ WR σ' o (l ++ objB x) ∧ WF o σ σ' := by
 have hle := hB_ hx.ctx hx.nc
 have hle2 := jD_ hx.sibs hx.ns
 have hn := hx.ns
 refine en_ Tryz.func88 Tryz.ntmps88 Tryz.results88 ?_
 refine rr_ ?_
 refine bx_ fun o2 ho2 => ?_
 repeat (rw [ac_] at ho2; obtain ⟨_, ho2⟩ := ho2)
 refine bx_ fun o3 ho3 => ?_
 repeat (rw [ac_] at ho3; obtain ⟨_, ho3⟩ := ho3)
 refine aa_ ?_
 obtain ⟨xo, hxo⟩ := WR.some ho
 have n2 := (aF_ hxo ho2).symm
 have n3 := (aF_ hxo ho3).symm
 have wf := WF.alloc (x := .cells (sObj x).cells) (WF.alloc (x := .cells [.ref o 0]) WF.refl ho2 n2) (i := o3) (by simp (disch := omega) only [Store.set_ne, ho3]) n3
 refine rr_ ?_
 iterate 3 refine s_ ?_
 refine x_ g_ va_ (uj_ (WR.alloc (WR.alloc ho n2) n3) hx.ctx hx.nc (by omega)) ?_; rintro _ τ1 ⟨rfl, a1, a2⟩
 refine aa_ ?_
 have b1 := WF.keep (i := o2) (x := .cells [.ref o 0]) a2 h_ n2
 have b2 := WF.keep (i := o3) (x := .cells (sObj x).cells) a2 h_ n3
 have R := And.intro b1 b2
 refine r_ ?_
 iterate 4 refine s_ ?_
 refine x_ g_ va_ (oV_ (wb := sibB) (fun τ => τ.heap o2 = some (.cells [.ref o 0])) kr_ (fun _ _ h k => k.keep h n2) a1 b1 (by simp only [List.length_append, ctxB, dd_, ay_]; omega) (by omega) (fun _ _ _ hm h hb hl => um_ h hb (hx.sibs _ hm) hl)) ?_; rintro _ τ2 ⟨rfl, c1, c2⟩
 refine aa_ ?_
 refine bz_ v_ (Store.Wk.refl _) ?_
 exact ⟨rfl, by simpa [objB, List.append_assoc] using c1, wf.trans (a2.trans c2)⟩
def lett (c : Int) : Bool := decide (97 ≤ c) && decide (c ≤ 122) || (decide (48 ≤ c) && decide (c ≤ 57)) || decide (c = 45)
def letB (b : UInt8) : Bool := lett b.toNat
def bS_ (s : ByteArray) : Bool := decide (1 ≤ s.size) && decide (s.size ≤ 16) && (Lb s).all letB
theorem l2_ {s : ByteArray} {p : Nat} (h : p < s.size) : (Lb s)[p]? = some (s[p]'h) := by
 rw [List.getElem?_eq_getElem (by rw [cr_]; exact h)]
 rfl
theorem t7_ {s : ByteArray} {p : Nat} (h : p < s.size) (ha : (s[p]'h).toNat < 128) : d0_ s p = ((s[p]'h).toNat : Int) ∧ n4_ s p = 1 := by
 have := decode_ascii s p h ha
 exact ⟨by rw [d0_, this], by rw [n4_, this]⟩
theorem m8_ {s : ByteArray} {p : Nat} (h : p < s.size) : lett (d0_ s p) = letB (s[p]'h) ∧ (letB (s[p]'h) = true → n4_ s p = 1) := by
 by_cases ha : (s[p]'h).toNat < 128
 ·obtain ⟨h1, h2⟩ := t7_ h ha
  exact ⟨by rw [h1]; rfl, fun _ => h2⟩
 ·have h1 := (decode_high s p h (by omega)).1
  have e1 : lett (d0_ s p) = false := by
   have : (128 : Int) ≤ d0_ s p := by unfold d0_; omega
   unfold lett
   rw [decide_eq_false (show ¬ d0_ s p ≤ 122 by omega), decide_eq_false (show ¬ d0_ s p ≤ 57 by omega), decide_eq_false (show ¬ d0_ s p = 45 by omega)]
   simp
  have e2 : letB (s[p]'h) = false := by
   unfold letB lett
   rw [decide_eq_false (show ¬ (((s[p]'h).toNat : Nat) : Int) ≤ 122 by omega), decide_eq_false (show ¬ (((s[p]'h).toNat : Nat) : Int) ≤ 57 by omega), decide_eq_false (show ¬ (((s[p]'h).toNat : Nat) : Int) = 45 by omega)]
   simp
  exact ⟨by rw [e1, e2], fun hh => by rw [e2] at hh; cases hh⟩
theorem d7_ {l : List UInt8} {p : Nat} {c : UInt8} (f : UInt8 → Bool) (h : l[p]? = some c) (ha : (l.take p).all f = true) (hc : f c = true) : (l.take (p + 1)).all f = true := by
 rw [ax_ h, List.all_append, ha]; simp [hc]
theorem oq_ {l : List UInt8} {p : Nat} {c : UInt8} (f : UInt8 → Bool) (h : l[p]? = some c) (hc : f c = false) : l.all f = false := by
 rw [List.all_eq_false]
 exact ⟨c, List.mem_of_getElem? h, by simp [hc]⟩
theorem iK_ {c : Int} {σ : Store} : ai_ Tryz.prog 169 [.lit (.int .i32 c)] σ fun v σ' => v = .lit (.bool (lett c)) ∧ σ = σ' := by
 refine en_ Tryz.func169 Tryz.ntmps169 Tryz.results169 ?_
 refine rr_ ?_
 refine s_ ?_
 refine aa_ ?_
 refine rr_ ?_
 iterate 3 refine s_ ?_
 refine gt_ ?_
 refine gt_ ?_
 iterate 2 refine s_ ?_
 refine gf_ ?_
 refine gf_ ?_
 refine gf_ ?_
 refine c7_ rfl rfl v_ rfl vg_ ?_
 refine c7_ rfl rfl v_ rfl vg_ ?_
 refine gf_ ?_
 iterate 2 refine s_ ?_
 refine gf_ ?_
 refine gf_ ?_
 iterate 2 refine s_ ?_
 refine aa_ ?_
 refine af_ ?_
 refine er_ σ ?_
 refine ⟨?_, rfl⟩
 try unfold lett
 by_cases h1 : 97 ≤ c <;> by_cases h2 : c ≤ 122 <;> by_cases h3 : 48 ≤ c <;> by_cases h4 : c ≤ 57 <;> by_cases h5 : c = 45 <;> simp [h1, h2, h3, h4, h5]
theorem jo_ {s : ByteArray} {σ : Store} (hs : s.size ≤ 1000000000000) : ai_ Tryz.prog 113 [vStr s] σ fun v σ' => v = .lit (.bool (bS_ s)) ∧ σ = σ' := by
 have h0 : s = ⟨#[]⟩ ↔ s.size = 0 := ⟨fun h => by rw [h]; rfl, fun h => by apply ByteArray.ext; exact Array.eq_empty_of_size_eq_zero h⟩
 refine en_ Tryz.func113 Tryz.ntmps113 Tryz.results113 ?_
 refine rr_ ?_
 refine s_ ?_
 refine aa_ ?_
 refine ab_ ?_
 refine ab_ ?_
 have R := h0
 refine r_ ?_
 iterate 3 refine s_ ?_
 refine gf_ ?_
 refine gf_ ?_
 refine gf_ ?_
 refine s_ ?_
 refine aa_ ?_
 refine cd_ (fun hc1 => ?_) (fun hc1 => ?_)
 ·refine rr_ ?_
  refine s_ ?_
  refine aa_ ?_
  refine af_ ?_
  refine er_ σ ?_
  refine ⟨?_, rfl⟩
  simp only [bS_]
  rcases hc1 with h | h
  ·rw [decide_eq_false (show ¬ 1 ≤ s.size by omega)]; rfl
  ·rw [decide_eq_false (show ¬ s.size ≤ 16 by omega)]; simp
 ·refine ae_ ?_
  refine ab_ ?_
  refine rr_ ?_
  refine s_ ?_
  refine aL_X rfl rfl (nm_ rfl g_ va_ fun o13 ho13 => ?_)
  refine aa_ ?_
  refine ag_ ?_
  refine ah_ (ι := Nat) (fun p => s.size - p) (fun p => p ≤ s.size ∧ ((Lb s).take p).all letB = true) (fun p => [(13, .ref o13 0)]) (fun p => (σ.set o13 (.raw (.stringIter s p)))) 0 ?_ ?_ ?_ ?_
  ·exact ⟨Nat.zero_le _, rfl⟩
  ·exact cv_
  ·exact Store.Wk.refl _
  rintro p ⟨hp, ha⟩
  simp only [ak_, am_]
  refine ab_ ?_
  by_cases hs4 : p < s.size
  ·refine r_ ?_
   first | (refine aL_X rfl rfl (fF_ rfl va_ (Store.set_get ..) (fun _ => ?_) (fun hp => absurd hs4 hp))) | (refine aL_X rfl rfl (fF_ rfl va_ (Store.set_get ..) (fun hp => absurd hp hs4) (fun _ => ?_)))
   refine s_ ?_
   refine aa_ ?_
   refine ab_ ?_
   refine cd_ (fun hc4 => ?_) (fun hc4 => ?_)
   ·first
     |(exfalso; revert hc4; decide)
     |skip
      refine ae_ ?_
      refine ag_ ?_
      refine ab_ ?_
      obtain ⟨hl, hl2⟩ := m8_ hs4
      have hg := l2_ hs4
      refine r_ ?_
      iterate 2 refine s_ ?_
      refine aa_ ?_
      refine rr_ ?_
      refine s_ ?_
      refine x_ g_ va_ (iK_) ?_; rintro _ _ ⟨rfl, rfl⟩
      refine s_ ?_
      refine aa_ ?_
      refine cd_ (fun hc6 => ?_) (fun hc6 => ?_)
      ·refine rr_ ?_
       refine s_ ?_
       refine aa_ ?_
       refine af_ ?_
       refine er_ σ ?_
       refine ⟨?_, rfl⟩
       have hlf : letB (s[p]'hs4) = false := by rw [← hl]; simpa using hc6
       simp only [bS_]
       rw [oq_ letB hg hlf]; simp
      ·have hlt : letB (s[p]'hs4) = true := by rw [← hl]; simpa using hc6
       have hw := hl2 hlt
       have hnx := d7_ letB hg ha hlt
       refine ae_ ?_
       refine aC_ (ι := Nat) (i := p) (p + 1) ?_ ?_ ?_ ?_
       ·omega
       ·exact ⟨by omega, hnx⟩
       ·exact cv_
       ·rw [Store.set_set, hw]; exact Store.Wk.refl _
   ·first
     |(exfalso; revert hc4; decide)
     |skip
      refine an_ ?_
      refine ad_ ?_
      refine ad_ ?_
      refine aj_ ?_
      refine rr_ ?_
      refine s_ ?_
      refine aa_ ?_
      refine af_ ?_
      refine er_ σ ?_
      exact ⟨rfl, rfl⟩
  ·refine r_ ?_
   first | (refine aL_X rfl rfl (fF_ rfl va_ (Store.set_get ..) (fun _ => ?_) (fun hp => absurd hs4 hp))) | (refine aL_X rfl rfl (fF_ rfl va_ (Store.set_get ..) (fun hp => absurd hp hs4) (fun _ => ?_)))
   refine s_ ?_
   refine aa_ ?_
   refine ab_ ?_
   refine cd_ (fun hc4 => ?_) (fun hc4 => ?_)
   ·first
     |(exfalso; revert hc4; decide)
     |skip
      refine ae_ ?_
      refine ag_ ?_
      refine ab_ ?_
      obtain ⟨hl, hl2⟩ := m8_ hs4
      have hg := l2_ hs4
      refine r_ ?_
      iterate 2 refine s_ ?_
      refine aa_ ?_
      refine rr_ ?_
      refine s_ ?_
      refine x_ g_ va_ (iK_) ?_; rintro _ _ ⟨rfl, rfl⟩
      refine s_ ?_
      refine aa_ ?_
      refine cd_ (fun hc6 => ?_) (fun hc6 => ?_)
      ·refine rr_ ?_
       refine s_ ?_
       refine aa_ ?_
       refine af_ ?_
       refine er_ σ ?_
       exact ⟨rfl, rfl⟩
      ·have hlt : letB (s[p]'hs4) = true := by rw [← hl]; simpa using hc6
       have hw := hl2 hlt
       have hnx := d7_ letB hg ha hlt
       refine ae_ ?_
       refine aC_ (ι := Nat) (i := p) (p + 1) ?_ ?_ ?_ ?_
       ·omega
       ·exact ⟨by omega, hnx⟩
       ·exact cv_
       ·rw [Store.set_set, hw]; exact Store.Wk.refl _
   ·first
     |(exfalso; revert hc4; decide)
     |skip
      refine an_ ?_
      refine ad_ ?_
      refine ad_ ?_
      refine aj_ ?_
      refine rr_ ?_
      refine s_ ?_
      refine aa_ ?_
      refine af_ ?_
      refine er_ σ ?_
      refine ⟨?_, rfl⟩
      obtain rfl : p = s.size := by omega
      rw [List.take_of_length_le (by rw [cr_]; exact Nat.le_refl _)] at ha
      simp only [bS_]
      rw [ha, decide_eq_true (show 1 ≤ s.size by omega), decide_eq_true (show s.size ≤ 16 by omega)]; rfl
theorem rg_ (c : UInt8) : letB c = true ↔ ((97 ≤ ((c.toNat : Nat) : Int) ∧ ((c.toNat : Nat) : Int) ≤ 122) ∨ (48 ≤ ((c.toNat : Nat) : Int) ∧ ((c.toNat : Nat) : Int) ≤ 57)) ∨ ((c.toNat : Nat) : Int) = 45 := by simp [letB, lett]
theorem tM_ {s : ByteArray} {σ : Store} (hs : s.size ≤ 1000000000000) : ai_ Tryz.prog 115 [vStr s] σ fun v σ' => v = .lit (.bool (bS_ s)) ∧ σ = σ' := by
 refine en_ Tryz.func115 Tryz.ntmps115 Tryz.results115 ?_
 refine rr_ ?_
 refine s_ ?_
 refine aa_ ?_
 refine ab_ ?_
 refine rr_ ?_
 refine s_ ?_
 refine aa_ ?_
 refine ag_ ?_
 refine ah_ (ι := Nat) (fun p => s.size - p) (fun p => p ≤ s.size ∧ ((Lb s).take p).all letB = true) (fun p => [(0, vStr s), (3, vInt p)]) (fun p => σ) 0 ?_ ?_ ?_ ?_
 ·exact ⟨Nat.zero_le _, rfl⟩
 ·exact cv_
 ·exact sub_
 rintro p ⟨hp, ha⟩
 simp only [ak_, am_]
 refine ab_ ?_
 refine rr_ ?_
 iterate 4 refine s_ ?_
 refine aa_ ?_
 refine cd_ (fun hc2 => ?_) (fun hc2 => ?_)
 ·refine ae_ ?_
  refine ab_ ?_
  refine ag_ ?_
  refine ab_ ?_
  have hp' : p < s.size := by omega
  have hg := l2_ hp'
  have hg2 : s[p]? = some (s[p]'hp') := getElem?_pos s p hp'
  obtain ⟨c, hc⟩ : ∃ c, s[p]'hp' = c := ⟨_, rfl⟩
  rw [hc] at hg hg2
  have hcl := rg_ c
  have R := hg2
  refine r_ ?_
  iterate 5 refine s_ ?_
  refine gf_ ?_
  refine gf_ ?_
  refine gf_ ?_
  refine gf_ ?_
  iterate 2 refine s_ ?_
  refine gt_ ?_
  refine gt_ ?_
  refine gt_ ?_
  refine gt_ ?_
  refine gt_ ?_
  refine dB_ rfl rfl v_ rfl vg_ ?_
  refine dB_ rfl rfl v_ rfl vg_ ?_
  refine dB_ rfl rfl v_ rfl vg_ ?_
  refine dB_ rfl rfl v_ rfl vg_ ?_
  refine gt_ ?_
  iterate 2 refine s_ ?_
  refine gt_ ?_
  refine gt_ ?_
  refine gt_ ?_
  refine gt_ ?_
  refine s_ ?_
  refine aa_ ?_
  refine cd_ (fun hc4 => ?_) (fun hc4 => ?_)
  ·skip
   have hlf : letB c = false := by
    cases h : letB c with
    |false => rfl
    |true => rw [hcl] at h; omega
   refine rr_ ?_
   refine s_ ?_
   refine aa_ ?_
   refine af_ ?_
   refine er_ σ ?_
   refine ⟨?_, rfl⟩
   simp only [bS_]
   rw [oq_ letB hg hlf]; simp
  ·have hnx := d7_ letB hg ha (hcl.2 (by omega))
   refine ae_ ?_
   refine r_ ?_
   iterate 3 refine s_ ?_
   refine aa_ ?_
   refine aC_ (ι := Nat) (i := p) (p + 1) ?_ ?_ ?_ ?_
   ·omega
   ·exact ⟨by omega, hnx⟩
   ·exact cv_
   ·exact sub_
 ·refine an_ ?_
  refine ad_ ?_
  refine ad_ ?_
  refine aj_ ?_
  refine rr_ ?_
  iterate 4 refine s_ ?_
  refine gt_ ?_
  refine gt_ ?_
  refine gt_ ?_
  iterate 2 refine s_ ?_
  refine aa_ ?_
  refine af_ ?_
  refine er_ σ ?_
  refine ⟨?_, rfl⟩
  obtain rfl : p = s.size := by omega
  rw [List.take_of_length_le (by rw [cr_]; exact Nat.le_refl _)] at ha
  simp only [bS_]
  rw [ha, Bool.and_true]
  congr 2
  rw [Bool.eq_iff_iff]; simp; omega
def cl_ : Int → List Int → Bool
 |_, [] => true
 |last, n :: l => decide (last < n) && decide (n ≤ 9007199254740992) && cl_ n l
def du_ (x : Seen) : Bool := bS_ x.node && decide (0 ≤ x.base) && decide (x.base ≤ 9007199254740992) && !(decide (x.base = 0) && decide (x.more.length = 0))
def cF_ (x : Seen) : Bool := du_ x && cl_ (x.base + 1) x.more
def b3_ (pv : Option ByteArray) (s : ByteArray) : Bool := match pv with | none => true | some p => sLt p s
def eb_ : Option ByteArray → Int → List Seen → Bool
 |_, _, [] => true
 |pv, room, x :: l => cF_ x && b3_ pv x.node && decide ((x.more.length : Int) ≤ room) && eb_ (some x.node) (room - x.more.length) l
def b5_ (c : List Seen) : Bool := eb_ none 4096 c
theorem bh_ {α : Type} {l : List α} {k : Nat} {x : α} (h : l[k]? = some x) : l.drop k = x :: l.drop (k + 1) := by
 obtain ⟨hk, rfl⟩ := List.getElem?_eq_some_iff.1 h
 exact List.drop_eq_getElem_cons hk
theorem aq_ {α : Type} {l : List α} {k : Nat} (h : k < l.length) : ∃ x, l[k]? = some x := ⟨l[k], List.getElem?_eq_getElem h⟩
theorem kQ_ {x : Seen} (h : du_ x = false) : cF_ x = false := by simp [cF_, h]
theorem i2_ {x : Seen} (h : ((bS_ x.node = true ∧ 0 ≤ x.base) ∧ x.base ≤ 9007199254740992) ∧ (¬ x.base = 0 ∨ ¬ (x.more.length : Int) = 0)) : du_ x = true := by
 obtain ⟨⟨⟨h1, h2⟩, h3⟩, h4⟩ := h
 unfold du_
 rw [h1, decide_eq_true h2, decide_eq_true h3]
 rcases h4 with h | h
 ·rw [decide_eq_false h]; rfl
 ·rw [decide_eq_false (show ¬ x.more.length = 0 by omega)]; simp
theorem d1_ {x : Seen} (h : ((bS_ x.node = false ∨ x.base < 0) ∨ 9007199254740992 < x.base) ∨ x.base = 0 ∧ (x.more.length : Int) = 0) : du_ x = false := by
 unfold du_
 rcases h with ((h | h) | h) | ⟨h, h'⟩
 ·rw [h]; rfl
 ·rw [decide_eq_false (show ¬ 0 ≤ x.base by omega)]; simp
 ·rw [decide_eq_false (show ¬ x.base ≤ 9007199254740992 by omega)]; simp
 ·rw [decide_eq_true h, decide_eq_true (show x.more.length = 0 by omega)]; simp
theorem re_ {x : Seen} {σ : Store} (hx : SeenSm x) : ai_ Tryz.prog 178 [az_ x] σ fun v σ' => v = .lit (.bool (cF_ x)) ∧ σ = σ' := by
 have h1 := hx.node; have h2 := hx.more
 refine en_ Tryz.func178 Tryz.ntmps178 Tryz.results178 ?_
 refine rr_ ?_
 refine bx_ fun o1 ho1 => ?_
 repeat (rw [ac_] at ho1; obtain ⟨_, ho1⟩ := ho1)
 refine s_ ?_
 refine aa_ ?_
 refine ab_ ?_
 refine rr_ ?_
 iterate 2 refine s_ ?_
 refine x_ g_ va_ (jo_ (by omega)) ?_; rintro _ _ ⟨rfl, rfl⟩
 iterate 2 refine s_ ?_
 refine gf_ ?_
 refine gf_ ?_
 refine gf_ ?_
 iterate 2 refine s_ ?_
 refine gf_ ?_
 refine gf_ ?_
 refine gf_ ?_
 iterate 2 refine s_ ?_
 refine gf_ ?_
 refine gf_ ?_
 refine gf_ ?_
 refine gf_ ?_
 refine c7_ rfl rfl v_ rfl vg_ ?_
 refine c7_ rfl rfl v_ rfl vg_ ?_
 refine c7_ rfl rfl v_ rfl vg_ ?_
 refine c7_ rfl rfl v_ rfl vg_ ?_
 refine gf_ ?_
 refine s_ ?_
 refine aa_ ?_
 refine cd_ (fun hc1 => ?_) (fun hc1 => ?_)
 ·skip
  have hf : cF_ x = false := by
   refine kQ_ ?_
   exact d1_ hc1
  refine rr_ ?_
  refine s_ ?_
  refine aa_ ?_
  refine af_ ?_
  refine er_ σ ?_
  exact ⟨by rw [hf], rfl⟩
 ·skip
  have hf : du_ x = true := i2_ hc1
  have hb : 0 ≤ x.base ∧ x.base ≤ 9007199254740992 := by omega
  refine ae_ ?_
  refine rr_ ?_
  iterate 4 refine s_ ?_
  refine aa_ ?_
  refine ab_ ?_
  refine rr_ ?_
  iterate 4 refine s_ ?_
  refine aa_ ?_
  refine ag_ ?_
  refine ah_ (ι := Nat × Int) (fun ⟨k, z⟩ => x.more.length - k) (fun ⟨k, z⟩ => k ≤ x.more.length ∧ cl_ z (x.more.drop k) = cl_ (x.base + 1) x.more) (fun ⟨k, z⟩ => [(3, vInt z), (35, .sl 1 (x.more.map vInt) false), (36, vInt x.more.length), (37, vInt k)]) (fun ⟨k, z⟩ => (σ.set o1 (.cells (az_ x).cells))) (0, x.base + 1) ?_ ?_ ?_ ?_
  ·exact ⟨Nat.zero_le _, rfl⟩
  ·exact cv_
  ·exact Store.Wk.refl _
  rintro ⟨k, z⟩ ⟨hk, hr⟩
  simp only [ak_, am_]
  refine rr_ ?_
  refine s_ ?_
  refine aa_ ?_
  refine ab_ ?_
  refine cd_ (fun hc5 => ?_) (fun hc5 => ?_)
  ·refine ae_ ?_
   refine ab_ ?_
   refine ag_ ?_
   refine ab_ ?_
   obtain ⟨n, hn⟩ := aq_ (l := x.more) (k := k) (by omega)
   have hrn : cl_ z (x.more.drop k) = (decide (z < n) && decide (n ≤ 9007199254740992) && cl_ n (x.more.drop (k + 1))) := by rw [bh_ hn]; rfl
   have R := hn
   refine r_ ?_
   iterate 3 refine s_ ?_
   refine aa_ ?_
   refine ab_ ?_
   refine rr_ ?_
   iterate 4 refine s_ ?_
   refine gf_ ?_
   refine gf_ ?_
   refine s_ ?_
   refine aa_ ?_
   refine cd_ (fun hc7 => ?_) (fun hc7 => ?_)
   ·refine rr_ ?_
    refine s_ ?_
    refine aa_ ?_
    refine af_ ?_
    refine er_ σ ?_
    refine ⟨?_, rfl⟩
    have : cF_ x = false := by
     unfold cF_
     rw [← hr, hrn]
     rcases hc7 with h | h
     ·rw [decide_eq_false (show ¬ z < n by omega)]; simp
     ·rw [decide_eq_false (show ¬ n ≤ 9007199254740992 by omega)]; simp
    rw [this]
   ·refine ae_ ?_
    refine r_ ?_
    iterate 2 refine s_ ?_
    refine aa_ ?_
    refine r_ ?_
    iterate 2 refine s_ ?_
    refine aa_ ?_
    refine aC_ (ι := Nat × Int) (i := ⟨k, z⟩) (k + 1, n) ?_ ?_ ?_ ?_
    ·show x.more.length - (k + 1) < x.more.length - k; omega
    ·exact ⟨by show k + 1 ≤ x.more.length; omega, by rw [← hr, hrn, decide_eq_true (show z < n by omega), decide_eq_true (show n ≤ 9007199254740992 by omega)]; rfl⟩
    ·exact cv_
    ·exact Store.Wk.refl _
  ·refine an_ ?_
   refine ad_ ?_
   refine ad_ ?_
   refine aj_ ?_
   refine rr_ ?_
   refine s_ ?_
   refine aa_ ?_
   refine af_ ?_
   refine er_ σ ?_
   refine ⟨?_, rfl⟩
   have : cF_ x = true := by
    unfold cF_
    rw [← hr, hf, List.drop_eq_nil_of_le (by omega)]; rfl
   rw [this]
def pvOf (c : List Seen) (k : Nat) : Option ByteArray := if k = 0 then none else (c[k - 1]?).map (·.node)
theorem pA_ {c : List Seen} {k : Nat} {x : Seen} (h : c[k]? = some x) : pvOf c (k + 1) = some x.node := by simp [pvOf, h]
theorem pB_ (c : List Seen) (k : Nat) (hk : k < c.length) : ∃ y : Seen, (0 < k → c[((k : Int) - 1).toNat]? = some y) ∧ ∀ s, b3_ (pvOf c k) s = (decide (k = 0) || sLt y.node s) := by
 by_cases h0 : k = 0
 ·subst h0
  exact ⟨⟨.empty, 0, []⟩, fun h => by omega, fun s => rfl⟩
 ·obtain ⟨y, hy⟩ := aq_ (l := c) (k := k - 1) (by omega)
  have e : ((k : Int) - 1).toNat = k - 1 := by omega
  exact ⟨y, fun _ => by rw [e]; exact hy, fun s => by simp [pvOf, h0, hy, b3_]⟩
theorem oP_ {a b : Bool} {n room : Int} {r : Bool} {k : Nat} {s : Bool} (hb : b = (decide (k = 0) || s)) (h : (a = false ∨ 0 < (k : Int) ∧ s = false) ∨ room < n) : (a && b && decide (n ≤ room) && r) = false := by
 rcases h with (h | ⟨h, h'⟩) | h
 ·rw [h]; rfl
 ·rw [hb, h', decide_eq_false (show ¬ k = 0 by omega)]; simp
 ·rw [decide_eq_false (show ¬ n ≤ room by omega)]; simp
theorem oQ_ {a b : Bool} {n room : Int} {r : Bool} {k : Nat} {s : Bool} (hb : b = (decide (k = 0) || s)) (h : (a = true ∧ ((k : Int) ≤ 0 ∨ s = true)) ∧ n ≤ room) : (a && b && decide (n ≤ room) && r) = r := by
 obtain ⟨⟨h1, h2⟩, h3⟩ := h
 have : b = true := by
  rw [hb]
  rcases h2 with h | h
  ·rw [decide_eq_true (show k = 0 by omega)]; rfl
  ·rw [h]; simp
 rw [h1, this, decide_eq_true h3]; rfl
theorem ja_ {c : List Seen} {t : Bool} {σ : Store} (hx : ∀ x ∈ c, SeenSm x) (hn : c.length ≤ 1000000) : ai_ Tryz.prog 128 [.sl 3 (c.map az_) t] σ fun v σ' => v = vInt (if b5_ c then 0 else 1) ∧ σ = σ' := by
 refine en_ Tryz.func128 Tryz.ntmps128 Tryz.results128 ?_
 refine rr_ ?_
 refine s_ ?_
 refine aa_ ?_
 refine rr_ ?_
 refine s_ ?_
 refine aa_ ?_
 refine ab_ ?_
 refine rr_ ?_
 iterate 3 refine s_ ?_
 refine aa_ ?_
 refine ag_ ?_
 refine ah_ (ι := Nat × Int) (fun ⟨k, room⟩ => c.length - k) (fun ⟨k, room⟩ => k ≤ c.length ∧ eb_ (pvOf c k) room (c.drop k) = b5_ c ∧ (room ≤ 4096 ∧ 0 ≤ room)) (fun ⟨k, room⟩ => [(0, .sl 3 (c.map az_) t), (3, vInt room), (6, .sl 3 (c.map az_) t), (7, vInt c.length), (8, vInt k)]) (fun ⟨k, room⟩ => σ) (0, 4096) ?_ ?_ ?_ ?_
 ·exact ⟨Nat.zero_le _, rfl, by decide⟩
 ·exact cv_
 ·exact sub_
 rintro ⟨k, room⟩ ⟨hk, hr, hrm⟩
 simp only [ak_, am_]
 refine rr_ ?_
 refine s_ ?_
 refine aa_ ?_
 refine ab_ ?_
 refine cd_ (fun hc3 => ?_) (fun hc3 => ?_)
 ·refine ae_ ?_
  refine ab_ ?_
  refine ag_ ?_
  refine ab_ ?_
  obtain ⟨x, hxk⟩ := aq_ (l := c) (k := k) (by omega)
  have hsx := hx x (List.mem_of_getElem? hxk)
  have hlm := hsx.more
  obtain ⟨y, hy, hah⟩ := pB_ c k (by omega)
  have hst : eb_ (pvOf c k) room (c.drop k) = (cF_ x && b3_ (pvOf c k) x.node && decide ((x.more.length : Int) ≤ room) && eb_ (some x.node) (room - x.more.length) (c.drop (k + 1))) := by rw [bh_ hxk]; rfl
  have R := hxk
  refine r_ ?_
  iterate 3 refine s_ ?_
  refine lc_ fun o5 ho5 => ?_
  repeat (rw [ac_] at ho5; obtain ⟨_, ho5⟩ := ho5)
  refine s_ ?_
  refine st_ ?_
  refine aa_ ?_
  refine ab_ ?_
  refine ab_ ?_
  have R := hy
  refine ap_ (.op 0 0 (.op 1 1 (.op 2 0 (.op 3 0 (.op 4 0 (.op 5 0 (.op 6 0 (.op 7 0 (.op 8 0 (.op 9 0 (.op 10 0 (.op 11 0 (.op 12 0 (.op 13 0 (.op 14 0 (.op 15 0 (.op 16 0 (.op 17 0 (.op 18 0 (.op 19 0 (.op 20 0 (.op 21 0 (.op 22 0 (.op 23 0 (.op 24 0 .nil))))))))))))))))))))))))) Tryz.mixed kr_ ?_
  refine ds_ ?_
  refine dx_ o_ g_ va_ (re_ hsx) ?_; rintro _ _ ⟨rfl, rfl⟩; refine ⟨sub_, ?_⟩
  iterate 2 refine ds_ ?_
  refine dgf_ ?_
  refine dgf_ ?_
  refine dgf_ ?_
  refine aK_ ?_
  refine aK_ ?_
  refine aK_ ?_
  refine aK_ ?_
  refine aK_ ?_
  refine aK_ ?_
  refine aK_ ?_
  refine aK_ ?_
  refine aK_ ?_
  refine dgf_ ?_
  iterate 2 refine ds_ ?_
  refine dgf_ ?_
  refine dgf_ ?_
  refine dgf_ ?_
  refine dgf_ ?_
  refine dgf_ ?_
  refine ds_ ?_
  refine aB_ ?_
  refine cd_ (fun hc5 => ?_) (fun hc5 => ?_)
  ·refine rr_ ?_
   refine s_ ?_
   refine aa_ ?_
   refine af_ ?_
   refine er_ σ ?_
   refine ⟨?_, rfl⟩
   rw [← hr, hst, oP_ (hah _) hc5]; rfl
  ·have hnx : eb_ (pvOf c (k + 1)) (room - x.more.length) (c.drop (k + 1)) = b5_ c := by rw [pA_ hxk, ← hr, hst, oQ_ (hah _) hc5]
   have hrm2 : room - (x.more.length : Int) ≤ 4096 ∧ 0 ≤ room - (x.more.length : Int) := by omega
   refine ae_ ?_
   refine r_ ?_
   iterate 6 refine s_ ?_
   refine aa_ ?_
   refine r_ ?_
   iterate 2 refine s_ ?_
   refine aa_ ?_
   refine aC_ (ι := Nat × Int) (i := ⟨k, room⟩) (k + 1, room - x.more.length) ?_ ?_ ?_ ?_
   ·show c.length - (k + 1) < c.length - k; omega
   ·exact ⟨by show k + 1 ≤ c.length; omega, hnx, hrm2⟩
   ·exact cv_
   ·exact sub_
 ·refine an_ ?_
  refine ad_ ?_
  refine ad_ ?_
  refine aj_ ?_
  refine rr_ ?_
  refine s_ ?_
  refine aa_ ?_
  refine af_ ?_
  refine er_ σ ?_
  refine ⟨?_, rfl⟩
  rw [← hr, List.drop_eq_nil_of_le (by omega)]; rfl
theorem vD_ {x : Seen} {k : Nat} {s : Bool} {n : Int} (h : ((((bS_ x.node = true ∧ ((k : Int) ≤ 0 ∨ s = true)) ∧ 0 ≤ x.base) ∧ x.base ≤ 9007199254740992) ∧ (¬ x.base = 0 ∨ ¬ (x.more.length : Int) = 0)) ∧ (x.more.length : Int) ≤ n) : du_ x = true ∧ ((k : Int) ≤ 0 ∨ s = true) ∧ (x.more.length : Int) ≤ n :=
 ⟨i2_ ⟨⟨⟨h.1.1.1.1.1, h.1.1.1.2⟩, h.1.1.2⟩, h.1.2⟩, h.1.1.1.1.2, h.2⟩
theorem ty_ {x : Seen} {k : Nat} {s : Bool} {n : Int} (h : ((((bS_ x.node = false ∨ (0 < (k : Int) ∧ s = false)) ∨ x.base < 0) ∨ 9007199254740992 < x.base) ∨ (x.base = 0 ∧ (x.more.length : Int) = 0)) ∨ n < (x.more.length : Int)) : (du_ x = false ∨ 0 < (k : Int) ∧ s = false) ∨ n < (x.more.length : Int) := by
 rcases h with ((((h | h) | h) | h) | h) | h
 ·exact .inl (.inl (d1_ (.inl (.inl (.inl h)))))
 ·exact .inl (.inr h)
 ·exact .inl (.inl (d1_ (.inl (.inl (.inr h)))))
 ·exact .inl (.inl (d1_ (.inl (.inr h))))
 ·exact .inl (.inl (d1_ (.inr h)))
 ·exact .inr h
theorem fa_ {c : List Seen} {t : Bool} {σ : Store} (hx : ∀ x ∈ c, SeenSm x) (hn : c.length ≤ 1000000) : ai_ Tryz.prog 58 [.sl 3 (c.map az_) t] σ fun v σ' => v = .lit (.bool (b5_ c)) ∧ σ = σ' := by
 refine en_ Tryz.func58 Tryz.ntmps58 Tryz.results58 ?_
 refine rr_ ?_
 refine s_ ?_
 refine aa_ ?_
 refine rr_ ?_
 refine s_ ?_
 refine aa_ ?_
 refine ab_ ?_
 refine rr_ ?_
 refine s_ ?_
 refine aa_ ?_
 refine ag_ ?_
 refine ah_ (ι := Nat × Int) (fun ⟨k, n⟩ => c.length - k) (fun ⟨k, n⟩ => k ≤ c.length ∧ eb_ (pvOf c k) (4096 - n) (c.drop k) = b5_ c ∧ (n ≤ 4096 ∧ 0 ≤ n)) (fun ⟨k, n⟩ => [(0, .sl 3 (c.map az_) t), (3, vInt n), (4, vInt k)]) (fun ⟨k, n⟩ => σ) (0, 0) ?_ ?_ ?_ ?_
 ·exact ⟨Nat.zero_le _, rfl, by decide⟩
 ·exact cv_
 ·exact sub_
 rintro ⟨k, n⟩ ⟨hk, hr, hrm⟩
 simp only [ak_, am_]
 refine ab_ ?_
 refine rr_ ?_
 iterate 4 refine s_ ?_
 refine aa_ ?_
 refine cd_ (fun hc3 => ?_) (fun hc3 => ?_)
 ·refine ae_ ?_
  refine ab_ ?_
  refine ag_ ?_
  refine ab_ ?_
  obtain ⟨x, hxk⟩ := aq_ (l := c) (k := k) (by omega)
  have hsx := hx x (List.mem_of_getElem? hxk)
  have hlm := hsx.more
  have hnm := hsx.node
  obtain ⟨y, hy, hah⟩ := pB_ c k (by omega)
  have hst : eb_ (pvOf c k) (4096 - n) (c.drop k) = ((du_ x && cl_ (x.base + 1) x.more) && b3_ (pvOf c k) x.node && decide ((x.more.length : Int) ≤ 4096 - n) && eb_ (some x.node) (4096 - n - x.more.length) (c.drop (k + 1))) := by rw [bh_ hxk]; rfl
  have R := hxk
  refine r_ ?_
  iterate 4 refine s_ ?_
  refine lc_ fun o5 ho5 => ?_
  repeat (rw [ac_] at ho5; obtain ⟨_, ho5⟩ := ho5)
  refine st_ ?_
  refine aa_ ?_
  refine ab_ ?_
  refine ab_ ?_
  have R := hy
  refine ap_ (.op 0 0 (.op 1 0 (.op 2 1 (.op 3 0 (.op 4 0 (.op 5 0 (.op 6 0 (.op 7 0 (.op 8 0 (.op 9 0 (.op 10 0 (.op 11 0 (.op 12 0 (.op 13 0 (.op 14 0 (.op 15 0 (.op 16 0 (.op 17 0 (.op 18 0 (.op 19 0 (.op 20 0 (.op 21 0 (.op 22 0 (.op 23 0 (.op 24 0 (.op 25 0 (.op 26 0 (.op 27 0 (.op 28 0 (.op 29 0 (.op 30 0 (.op 31 0 (.op 32 0 (.op 33 0 (.op 34 0 (.op 35 0 (.op 36 0 (.op 37 0 (.op 38 0 (.op 39 0 (.op 40 0 (.op 41 0 (.op 42 0 (.op 43 0 (.op 44 0 (.op 45 0 (.op 46 0 (.op 47 0 .nil)))))))))))))))))))))))))))))))))))))))))))))))) Tryz.mixed kr_ ?_
  iterate 2 refine ds_ ?_
  refine dx_ o_ g_ va_ (tM_ (by omega)) ?_; rintro _ _ ⟨rfl, rfl⟩; refine ⟨sub_, ?_⟩
  iterate 2 refine ds_ ?_
  refine dgf_ ?_
  refine dgf_ ?_
  refine dgf_ ?_
  refine aK_ ?_
  refine aK_ ?_
  refine aK_ ?_
  refine aK_ ?_
  refine aK_ ?_
  refine aK_ ?_
  refine aK_ ?_
  refine aK_ ?_
  refine aK_ ?_
  refine dgf_ ?_
  iterate 2 refine ds_ ?_
  refine dgf_ ?_
  refine dgf_ ?_
  refine dgf_ ?_
  iterate 2 refine ds_ ?_
  refine dgf_ ?_
  refine dgf_ ?_
  refine dgf_ ?_
  iterate 2 refine ds_ ?_
  refine dgf_ ?_
  refine dgf_ ?_
  refine dgf_ ?_
  refine dgf_ ?_
  refine aK_ ?_
  refine aK_ ?_
  refine aK_ ?_
  refine aK_ ?_
  refine dgf_ ?_
  iterate 2 refine ds_ ?_
  refine dgf_ ?_
  refine dgf_ ?_
  refine dgf_ ?_
  refine dgf_ ?_
  refine dgf_ ?_
  refine dgf_ ?_
  refine ds_ ?_
  refine aB_ ?_
  refine cd_ (fun hc6 => ?_) (fun hc6 => ?_)
  ·have hno := ty_ hc6
   refine rr_ ?_
   refine s_ ?_
   refine aa_ ?_
   refine af_ ?_
   refine er_ σ ?_
   refine ⟨?_, rfl⟩
   have : b5_ c = false := by
    rw [← hr, hst]
    rcases hno with (h | h) | h
    ·rw [h]; rfl
    ·exact oP_ (hah _) (.inl (.inr h))
    ·exact oP_ (hah _) (.inr h)
   rw [this]
  ·have hyes := vD_ hc6
   refine ae_ ?_
   refine rr_ ?_
   iterate 6 refine s_ ?_
   refine aa_ ?_
   refine rr_ ?_
   iterate 4 refine s_ ?_
   refine aa_ ?_
   refine rr_ ?_
   refine s_ ?_
   refine aa_ ?_
   refine ag_ ?_
   refine ah_ (ι := Nat × Int) (fun ⟨j, z⟩ => x.more.length - j) (fun ⟨j, z⟩ => j ≤ x.more.length ∧ cl_ z (x.more.drop j) = cl_ (x.base + 1) x.more) (fun ⟨j, z⟩ => [(0, .sl 3 (c.map az_) t), (3, vInt (n + x.more.length)), (4, vInt k), (5, .ref o5 0), (6, vInt z), (7, vInt j)]) (fun ⟨j, z⟩ => (σ.set o5 (.cells (az_ x).cells))) (0, x.base + 1) ?_ ?_ ?_ ?_
   ·exact ⟨Nat.zero_le _, rfl⟩
   ·exact cv_
   ·rw [Store.set_set]; exact Store.Wk.refl _
   rintro ⟨j, z⟩ ⟨hj, hz⟩
   simp only [ak_, am_]
   refine ab_ ?_
   refine rr_ ?_
   iterate 5 refine s_ ?_
   refine aa_ ?_
   refine cd_ (fun hc11 => ?_) (fun hc11 => ?_)
   ·refine ae_ ?_
    refine ab_ ?_
    refine ag_ ?_
    refine ab_ ?_
    refine ab_ ?_
    obtain ⟨m, hm⟩ := aq_ (l := x.more) (k := j) (by omega)
    have hrn : cl_ z (x.more.drop j) = (decide (z < m) && decide (m ≤ 9007199254740992) && cl_ m (x.more.drop (j + 1))) := by rw [bh_ hm]; rfl
    have R := hm
    refine r_ ?_
    iterate 8 refine s_ ?_
    refine gf_ ?_
    refine gf_ ?_
    refine gf_ ?_
    refine gf_ ?_
    refine gf_ ?_
    refine gf_ ?_
    refine s_ ?_
    refine aa_ ?_
    refine cd_ (fun hc13 => ?_) (fun hc13 => ?_)
    ·refine rr_ ?_
     refine s_ ?_
     refine aa_ ?_
     refine af_ ?_
     refine er_ σ ?_
     refine ⟨?_, rfl⟩
     have : cl_ (x.base + 1) x.more = false := by
      rw [← hz, hrn]
      rcases hc13 with h | h
      ·rw [decide_eq_false (show ¬ z < m by omega)]; simp
      ·rw [decide_eq_false (show ¬ m ≤ 9007199254740992 by omega)]; simp
     rw [← hr, hst, this]; simp
    ·refine ae_ ?_
     have R := hm
     refine r_ ?_
     iterate 6 refine s_ ?_
     refine aa_ ?_
     refine r_ ?_
     iterate 3 refine s_ ?_
     refine aa_ ?_
     refine aC_ (ι := Nat × Int) (i := ⟨j, z⟩) (j + 1, m) ?_ ?_ ?_ ?_
     ·show x.more.length - (j + 1) < x.more.length - j; omega
     ·exact ⟨by show j + 1 ≤ x.more.length; omega, by rw [← hz, hrn, decide_eq_true (show z < m by omega), decide_eq_true (show m ≤ 9007199254740992 by omega)]; rfl⟩
     ·exact cv_
     ·exact Store.Wk.refl _
   ·refine an_ ?_
    refine ad_ ?_
    refine ad_ ?_
    refine aj_ ?_
    have hrise : cl_ (x.base + 1) x.more = true := by rw [← hz, List.drop_eq_nil_of_le (by omega)]; rfl
    have hnx : eb_ (pvOf c (k + 1)) (4096 - (n + x.more.length)) (c.drop (k + 1)) = b5_ c := by
     rw [pA_ hxk, ← hr, hst, hrise, hyes.1, Bool.true_and, oQ_ (hah _) ⟨⟨rfl, hyes.2.1⟩, hyes.2.2⟩]
     congr 1; omega
    have hrm2 : n + (x.more.length : Int) ≤ 4096 ∧ 0 ≤ n + (x.more.length : Int) := by omega
    refine r_ ?_
    iterate 3 refine s_ ?_
    refine aa_ ?_
    refine aC_ (ι := Nat × Int) (i := ⟨k, n⟩) (k + 1, n + x.more.length) ?_ ?_ ?_ ?_
    ·show c.length - (k + 1) < c.length - k; omega
    ·exact ⟨by show k + 1 ≤ c.length; omega, hnx, hrm2⟩
    ·exact cv_
    ·exact sub_
 ·refine an_ ?_
  refine ad_ ?_
  refine ad_ ?_
  refine aj_ ?_
  refine rr_ ?_
  refine s_ ?_
  refine aa_ ?_
  refine af_ ?_
  refine er_ σ ?_
  refine ⟨?_, rfl⟩
  rw [← hr, List.drop_eq_nil_of_le (by omega)]; rfl
end Go.Proofs.YtcaflcpcbcneiaaGreat
end
