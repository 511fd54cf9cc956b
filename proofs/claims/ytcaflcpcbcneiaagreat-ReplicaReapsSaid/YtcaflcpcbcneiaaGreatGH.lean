/-
  The program's values of two objects: the greater one, where a dot's value stands, what another object lets be; The reference's objects merged; The library's sort and compaction of values, of a row that grew; objects merged; Values of one dot taken once: the library's CompactFunc, of a row that is written; The program's objects merged; Objects: covering, size, one write's object; the program's and the reference's; Objects without values that are gone: the library's Clone and DeleteFunc; Rows with something put in, in the abstract: what slices.Insert and a binary search need. Own work (an AI agent).
-/
import Derived.Test.YtcaflcpcbcneiaaGreatGG
import Derived.Test.YtcaflcpcbcneiaaGreatGF
import Derived.Shelf.SlSortCmp.NoneTotal
import Derived.Test.YtcaflcpcbcneiaaGreatGD

section
set_option linter.all false
set_option maxRecDepth 100000
namespace Go.Proofs.YtcaflcpcbcneiaaGreat
open Go.Ab
theorem tG_ {a b c : Int} {t : Bool} {σ : Store} : ai_ Tryz.prog 189 [.sl 1 [vInt a, vInt b, vInt c] t] σ fun v σ' => v = vInt (if a ≠ 0 then a else if b ≠ 0 then b else c) ∧ σ = σ' := by
 refine en_ Tryz.func189 Tryz.ntmps189 Tryz.results189 ?_
 refine rr_ ?_
 refine s_ ?_
 refine aa_ ?_
 refine rr_ ?_
 refine s_ ?_
 refine aa_ ?_
 refine ab_ ?_
 refine rr_ ?_
 iterate 3 refine s_ ?_
 refine aa_ ?_
 refine ag_ ?_
 refine ah_ (ι := Nat) (fun k => 3 - k) (fun k => k ≤ 3 ∧ (1 ≤ k → a = 0) ∧ (2 ≤ k → b = 0) ∧ (3 ≤ k → c = 0)) (fun k => [(3, vInt 0), (6, .sl 1 [vInt a, vInt b, vInt c] t), (7, vInt 3), (8, vInt k)]) (fun k => σ) 0 ?_ ?_ ?_ ?_
 ·exact ⟨Nat.zero_le _, fun h => by omega, fun h => by omega, fun h => by omega⟩
 ·exact cv_
 ·exact sub_
 rintro k ⟨hk, h1, h2, h3⟩
 simp only [ak_, am_]
 refine rr_ ?_
 refine s_ ?_
 refine aa_ ?_
 refine ab_ ?_
 refine cd_ (fun hc3 => ?_) (fun hc3 => ?_)
 ·refine ae_ ?_
  refine ab_ ?_
  refine ag_ ?_
  refine ab_ ?_
  skip
  obtain ⟨x, hxk, hx0, hx1, hx2⟩ : ∃ x, [vInt a, vInt b, vInt c][k]? = some (vInt x) ∧ (k = 0 → x = a) ∧ (k = 1 → x = b) ∧ (k = 2 → x = c) := by
   match k, (show k < 3 by omega) with
   |0, _ => exact ⟨a, rfl, fun _ => rfl, (fun h => by cases h), fun h => by cases h⟩
   |1, _ => exact ⟨b, rfl, (fun h => by cases h), (fun _ => rfl), fun h => by cases h⟩
   |2, _ => exact ⟨c, rfl, (fun h => by cases h), (fun h => by cases h), fun _ => rfl⟩
  have R := hxk
  refine r_ ?_
  iterate 3 refine s_ ?_
  refine aa_ ?_
  refine rr_ ?_
  iterate 3 refine s_ ?_
  refine aa_ ?_
  refine cd_ (fun hc5 => ?_) (fun hc5 => ?_)
  ·refine rr_ ?_
   iterate 2 refine s_ ?_
   refine aa_ ?_
   refine af_ ?_
   refine er_ σ ?_
   refine ⟨?_, rfl⟩
   rcases Nat.lt_or_ge k 1 with h | h
   ·obtain rfl := hx0 (by omega)
    rw [if_pos hc5]
   ·rw [if_neg (by rw [h1 h]; simp)]
    rcases Nat.lt_or_ge k 2 with h' | h'
    ·obtain rfl := hx1 (by omega)
     rw [if_pos hc5]
    ·obtain rfl := hx2 (by omega)
     rw [if_neg (by rw [h2 h']; simp)]
  ·have hs1 : a = 0 := by rcases Nat.lt_or_ge k 1 with h | h; exact (hx0 (by omega)) ▸ hc5; exact h1 h
   have hs2 : 2 ≤ k + 1 → b = 0 := fun h => by rcases Nat.lt_or_ge k 2 with h' | h'; exact (hx1 (by omega)) ▸ hc5; exact h2 h'
   have hs3 : 3 ≤ k + 1 → c = 0 := fun h => (hx2 (by omega)) ▸ hc5
   refine ae_ ?_
   refine r_ ?_
   iterate 2 refine s_ ?_
   refine aa_ ?_
   refine aC_ (ι := Nat) (i := k) (k + 1) ?_ ?_ ?_ ?_
   ·omega
   ·exact ⟨by omega, fun _ => hs1, fun h => hs2 h, fun h => hs3 h⟩
   ·exact cv_
   ·exact sub_
 ·refine an_ ?_
  refine ad_ ?_
  refine ad_ ?_
  refine aj_ ?_
  refine rr_ ?_
  iterate 2 refine s_ ?_
  refine aa_ ?_
  refine af_ ?_
  refine er_ σ ?_
  refine ⟨?_, rfl⟩
  rw [if_neg (by rw [h1 (by omega)]; simp), if_neg (by rw [h2 (by omega)]; simp), h3 (by omega)]
theorem cmpV {a b : Sib} {g : Int} (hg : g < 0 ↔ (a.gone = false ∧ b.gone = true)) : ((if cmpI a.time b.time ≠ 0 then cmpI a.time b.time else if cmpS a.value b.value ≠ 0 then cmpS a.value b.value else g) < 0) ↔ ltV a b = true := by
 rw [c4_]
 unfold cmpI cmpS
 by_cases h1 : a.time < b.time
 ·simp [h1]
 ·by_cases h2 : b.time < a.time
  ·have : a.time ≠ b.time := by omega
   simp [h1, h2, this]
  ·have : a.time = b.time := by omega
   cases h3 : sLt a.value b.value with
   |true => simp [this]
   |false => by_cases h4 : a.value = b.value <;> simp [this, h4, hg]
theorem o7_ {a b : Sib} {g : Int} (hg : g < 0 ↔ (a.gone = false ∧ b.gone = true)) (h : (if ¬cmpI a.time b.time = 0 then cmpI a.time b.time else if ¬cmpS a.value b.value = 0 then cmpS a.value b.value else g) < 0) : grS a b = b := by
 rw [grS, if_pos ((cmpV hg).1 h)]
theorem tn_ {a b : Sib} {g : Int} (hg : g < 0 ↔ (a.gone = false ∧ b.gone = true)) (h : 0 ≤ (if ¬cmpI a.time b.time = 0 then cmpI a.time b.time else if ¬cmpS a.value b.value = 0 then cmpS a.value b.value else g)) : grS a b = a := by
 rw [grS, if_neg fun k => by
  have := (cmpV hg).2 k
  have e : (if cmpI a.time b.time ≠ 0 then cmpI a.time b.time else if cmpS a.value b.value ≠ 0 then cmpS a.value b.value else g) = (if ¬cmpI a.time b.time = 0 then cmpI a.time b.time else if ¬cmpS a.value b.value = 0 then cmpS a.value b.value else g) := rfl
  omega]
theorem o8_ {a b : Sib} {σ : Store} : ai_ Tryz.prog 138 [sSib a, sSib b] σ fun v σ' => v = sSib (grS a b) ∧ σ = σ' := by
 refine en_ Tryz.func138 Tryz.ntmps138 Tryz.results138 ?_
 refine rr_ ?_
 refine bx_ fun o2 ho2 => ?_
 repeat (rw [ac_] at ho2; obtain ⟨_, ho2⟩ := ho2)
 refine bx_ fun o3 ho3 => ?_
 repeat (rw [ac_] at ho3; obtain ⟨_, ho3⟩ := ho3)
 refine lc_ fun o4 ho4 => ?_
 repeat (rw [ac_] at ho4; obtain ⟨_, ho4⟩ := ho4)
 refine aa_ ?_
 refine rr_ ?_
 refine s_ ?_
 refine aa_ ?_
 refine ab_ ?_
 refine rr_ ?_
 iterate 2 refine s_ ?_
 refine aa_ ?_
 refine cd_ (fun hc2 => ?_) (fun hc2 => ?_)
 ·refine r_ ?_
  refine s_ ?_
  refine aa_ ?_
  refine ab_ ?_
  refine ab_ ?_
  refine ap_ (.op 0 0 (.op 1 0 (.op 2 0 (.op 3 0 (.op 5 0 (.op 6 0 (.op 7 0 (.op 8 0 (.op 10 0 (.op 4 1 (.op 9 1 (.op 11 1 (.op 12 1 (.op 13 0 .nil)))))))))))))) Tryz.mixed kr_ ?_
  iterate 9 refine ds_ ?_
  refine dx_ o_ g_ va_ (dE_) ?_; rintro _ _ ⟨rfl, rfl⟩; refine ⟨sub_, ?_⟩
  refine dx_ o_ g_ va_ (bV_) ?_; rintro _ _ ⟨rfl, rfl⟩; refine ⟨sub_, ?_⟩
  refine dR_X o_ (by rfl) (by rfl) (aS_ (by rfl) g_ g_ (by rfl) (by rfl) h_ c2_ (by decide) ⟨sub_, ?_⟩)
  refine dx_ o_ g_ va_ (tG_ (a := cmpI a.time b.time) (b := cmpS a.value b.value)) ?_; rintro _ _ ⟨rfl, rfl⟩; refine ⟨sub_, ?_⟩
  refine ds_ ?_
  refine aB_ ?_
  refine cd_ (fun hc6 => ?_) (fun hc6 => ?_)
  ·refine rr_ ?_
   refine s_ ?_
   refine st_ ?_
   refine aa_ ?_
   refine af_ ?_
   refine er_ σ ?_
   exact ⟨by rw [o7_ (by simp [hc2]) hc6], rfl⟩
  ·refine ae_ ?_
   refine rr_ ?_
   refine s_ ?_
   refine st_ ?_
   refine aa_ ?_
   refine af_ ?_
   refine er_ σ ?_
   exact ⟨by rw [tn_ (by simp [hc2]) hc6], rfl⟩
 ·refine rr_ ?_
  iterate 2 refine s_ ?_
  refine aa_ ?_
  refine cd_ (fun hc4 => ?_) (fun hc4 => ?_)
  ·refine r_ ?_
   refine s_ ?_
   refine aa_ ?_
   refine ab_ ?_
   refine ab_ ?_
   refine ap_ (.op 0 0 (.op 1 0 (.op 2 0 (.op 3 0 (.op 5 0 (.op 6 0 (.op 7 0 (.op 8 0 (.op 10 0 (.op 4 1 (.op 9 1 (.op 11 1 (.op 12 1 (.op 13 0 .nil)))))))))))))) Tryz.mixed kr_ ?_
   iterate 9 refine ds_ ?_
   refine dx_ o_ g_ va_ (dE_) ?_; rintro _ _ ⟨rfl, rfl⟩; refine ⟨sub_, ?_⟩
   refine dx_ o_ g_ va_ (bV_) ?_; rintro _ _ ⟨rfl, rfl⟩; refine ⟨sub_, ?_⟩
   refine dR_X o_ (by rfl) (by rfl) (aS_ (by rfl) g_ g_ (by rfl) (by rfl) h_ c2_ (by decide) ⟨sub_, ?_⟩)
   refine dx_ o_ g_ va_ (tG_ (a := cmpI a.time b.time) (b := cmpS a.value b.value)) ?_; rintro _ _ ⟨rfl, rfl⟩; refine ⟨sub_, ?_⟩
   refine ds_ ?_
   refine aB_ ?_
   refine cd_ (fun hc6 => ?_) (fun hc6 => ?_)
   ·refine rr_ ?_
    refine s_ ?_
    refine st_ ?_
    refine aa_ ?_
    refine af_ ?_
    refine er_ σ ?_
    exact ⟨by rw [o7_ (by simp [hc2, hc4]) hc6], rfl⟩
   ·refine ae_ ?_
    refine rr_ ?_
    refine s_ ?_
    refine st_ ?_
    refine aa_ ?_
    refine af_ ?_
    refine er_ σ ?_
    exact ⟨by rw [tn_ (by simp [hc2, hc4]) hc6], rfl⟩
  ·refine ae_ ?_
   refine ab_ ?_
   refine ab_ ?_
   refine ap_ (.op 0 0 (.op 1 0 (.op 2 0 (.op 3 0 (.op 5 0 (.op 6 0 (.op 7 0 (.op 8 0 (.op 10 0 (.op 4 1 (.op 9 1 (.op 11 1 (.op 12 1 (.op 13 0 .nil)))))))))))))) Tryz.mixed kr_ ?_
   iterate 9 refine ds_ ?_
   refine dx_ o_ g_ va_ (dE_) ?_; rintro _ _ ⟨rfl, rfl⟩; refine ⟨sub_, ?_⟩
   refine dx_ o_ g_ va_ (bV_) ?_; rintro _ _ ⟨rfl, rfl⟩; refine ⟨sub_, ?_⟩
   refine dR_X o_ (by rfl) (by rfl) (aS_ (by rfl) g_ g_ (by rfl) (by rfl) h_ c2_ (by decide) ⟨sub_, ?_⟩)
   refine dx_ o_ g_ va_ (tG_ (a := cmpI a.time b.time) (b := cmpS a.value b.value)) ?_; rintro _ _ ⟨rfl, rfl⟩; refine ⟨sub_, ?_⟩
   refine ds_ ?_
   refine aB_ ?_
   refine cd_ (fun hc6 => ?_) (fun hc6 => ?_)
   ·refine rr_ ?_
    refine s_ ?_
    refine st_ ?_
    refine aa_ ?_
    refine af_ ?_
    refine er_ σ ?_
    exact ⟨by rw [o7_ (by simp [hc2, hc4]) hc6], rfl⟩
   ·refine ae_ ?_
    refine rr_ ?_
    refine s_ ?_
    refine st_ ?_
    refine aa_ ?_
    refine af_ ?_
    refine er_ σ ?_
    exact ⟨by rw [tn_ (by simp [hc2, hc4]) hc6], rfl⟩
theorem jz_ {l : List Sib} (h : cm_ l) {j k : Nat} {x y : Sib} (hjk : j < k) (hj : l[j]? = some x) (hk : l[k]? = some y) : b4_ x y = true := by
 obtain ⟨h1, rfl⟩ := List.getElem?_eq_some_iff.1 hj
 obtain ⟨h2, rfl⟩ := List.getElem?_eq_some_iff.1 hk
 exact List.pairwise_iff_getElem.1 h j k h1 h2 hjk
theorem ft_ {x y z : Sib} (h1 : b4_ x y = true) (h2 : b4_ y z = true) : b4_ x z = true := cL_ h1 h2
theorem oJ_ {s : ByteArray} {n : Int} {s' : ByteArray} {n' : Int} : cmpD s n s' n' = 0 ↔ s = s' ∧ n = n' := by
 unfold cmpD cmpS cmpI
 cases h1 : sLt s s' with
 |true => simp; intro h; rw [h, bk_] at h1; cases h1
 |false =>
  by_cases h2 : s = s' <;> simp [h2]
  by_cases h3 : n < n' <;> by_cases h4 : n' < n <;> simp [h3, h4] <;> omega
def LoD (l : List Sib) (x : Sib) (i : Nat) : Prop := ∀ m y, m < i → l[m]? = some y → b4_ y x = true
def HiD (l : List Sib) (x : Sib) (j : Nat) : Prop := ∀ m y, j ≤ m → l[m]? = some y → b4_ y x = false
theorem nv_ {l : List Sib} {s : Sib} {t : Bool} {σ : Store} (hr : cm_ l) (hn : l.length ≤ 1000000) :
  ai_ Tryz.prog 137 [.sl 5 (l.map sSib) t, sSib s, .lit (.func (.func 81) #[] #[])] σ fun v σ' => (∃ r : Nat, ∃ b : Bool, v = .tup [vInt r, vB b] ∧ r ≤ l.length ∧ LoD l s r ∧ HiD l s r ∧ (b = true ↔ ∃ y, l[r]? = some y ∧ Dot y s)) ∧ σ = σ' := by
 refine en_ Tryz.func137 Tryz.ntmps137 Tryz.results137 ?_
 refine rr_ ?_
 refine bx_ fun o4 ho4 => ?_
 repeat (rw [ac_] at ho4; obtain ⟨_, ho4⟩ := ho4)
 iterate 2 refine s_ ?_
 refine aa_ ?_
 refine rr_ ?_
 iterate 3 refine s_ ?_
 refine aa_ ?_
 refine rr_ ?_
 iterate 3 refine s_ ?_
 refine aa_ ?_
 refine ab_ ?_
 refine ag_ ?_
 refine ah_ (ι := Nat × Nat) (fun ⟨i, j⟩ => j - i) (fun ⟨i, j⟩ => i ≤ j ∧ j ≤ l.length ∧ LoD l s i ∧ HiD l s j) (fun ⟨i, j⟩ => [(0, .sl 5 (l.map sSib) t), (4, .ref o4 0), (2, .lit (.func (.func 81) #[] #[])), (8, vInt l.length), (9, vInt i), (10, vInt j)]) (fun ⟨i, j⟩ => (σ.set o4 (.cells (sSib s).cells))) (0, l.length) ?_ ?_ ?_ ?_
 ·exact ⟨Nat.zero_le _, Nat.le_refl _, (fun m x h => by omega), fun m x h hx => by rw [List.getElem?_eq_none (by omega)] at hx; cases hx⟩
 ·exact cv_
 ·exact Store.Wk.refl _
 rintro ⟨i, j⟩ ⟨hij, hj, hlo, hhi⟩
 simp only [ak_, am_]
 refine ab_ ?_
 refine rr_ ?_
 iterate 3 refine s_ ?_
 refine aa_ ?_
 refine cd_ (fun hc3 => ?_) (fun hc3 => ?_)
 ·refine ae_ ?_
  refine ag_ ?_
  refine ab_ ?_
  have hdiv : ((i : Int) + j) / 2 ^ 1 = (((i + j) / 2 : Nat) : Int) := by omega
  obtain ⟨x, hx⟩ := aq_ (l := l) (k := (i + j) / 2) (by omega)
  have R := And.intro dl_ hdiv
  refine r_ ?_
  iterate 7 refine s_ ?_
  refine aa_ ?_
  refine ab_ ?_
  have R := hx
  refine ap_ (.op 0 0 (.op 1 0 (.op 2 0 (.op 3 0 (.op 4 0 (.op 5 0 (.op 6 1 (.op 7 0 .nil)))))))) Tryz.mixed kr_ ?_
  iterate 6 refine ds_ ?_
  refine dR_X o_ (by rfl) (by rfl) (aU_ (by rfl) (by rfl) (.inr ⟨va_, by rfl, by rfl⟩) g_ va_ (js_) ?_); rintro _ _ ⟨rfl, rfl⟩; refine ⟨sub_, ?_⟩
  refine ds_ ?_
  refine aB_ ?_
  refine cd_ (fun hc5 => ?_) (fun hc5 => ?_)
  ·have hlt := j5_.1 hc5
   have hlo' : LoD l s ((i + j) / 2 + 1) := fun m y hm hy => by
    rcases Nat.lt_or_eq_of_le (Nat.le_of_lt_succ hm) with h | h
    ·exact ft_ (jz_ hr h hy hx) hlt
    ·rw [h, hx] at hy; obtain rfl := Option.some.inj hy; exact hlt
   refine r_ ?_
   iterate 3 refine s_ ?_
   refine aa_ ?_
   refine aC_ (ι := Nat × Nat) (i := ⟨i, j⟩) ((i + j) / 2 + 1, j) ?_ ?_ ?_ ?_
   ·show j - ((i + j) / 2 + 1) < j - i; omega
   ·exact ⟨by show (i + j) / 2 + 1 ≤ j; omega, hj, hlo', hhi⟩
   ·have R := hdiv; exact cv_
   ·exact sub_
  ·skip
   have hge := mg_.1 hc5
   have hhi' : HiD l s ((i + j) / 2) := fun m y hm hy => by
    rcases Nat.lt_or_eq_of_le hm with h | h
    ·cases k : b4_ y s with
     |false => rfl
     |true => have := ft_ (jz_ hr h hx hy) k; rw [b4_, hge] at this; cases this
    ·rw [← h, hx] at hy; obtain rfl := Option.some.inj hy; exact hge
   refine r_ ?_
   iterate 2 refine s_ ?_
   refine aa_ ?_
   refine aC_ (ι := Nat × Nat) (i := ⟨i, j⟩) (i, (i + j) / 2) ?_ ?_ ?_ ?_
   ·show (i + j) / 2 - i < j - i; omega
   ·exact ⟨by show i ≤ (i + j) / 2; omega, by show (i + j) / 2 ≤ l.length; omega, hlo, hhi'⟩
   ·have R := hdiv; exact cv_
   ·exact sub_
 ·refine an_ ?_
  refine ad_ ?_
  refine ad_ ?_
  refine aj_ ?_
  refine ab_ ?_
  skip
  obtain rfl : i = j := by omega
  obtain ⟨x, hx⟩ := eO_ l i
  have R := hx
  refine ap_ (.op 0 0 (.op 1 0 (.op 2 0 (.op 3 0 (.op 4 0 (.op 5 0 (.op 6 0 (.op 7 0 (.op 8 0 (.op 9 0 (.op 10 0 (.op 11 1 (.op 12 0 (.op 13 0 (.op 14 0 (.op 15 0 .nil)))))))))))))))) Tryz.mixed kr_ ?_
  iterate 5 refine ds_ ?_
  refine dgt_ ?_
  refine dgt_ ?_
  refine dgt_ ?_
  refine dgt_ ?_
  refine dgt_ ?_
  refine dgt_ ?_
  refine fi_ o_ (by rfl) (by rfl) v_ (by rfl) sub_ (fun hb => av_ (by rfl) (by rfl) (.inr ⟨vh_, by rfl, by rfl⟩) g_ cg_ (js_)) ?_
  refine dgt_ ?_
  iterate 3 refine ds_ ?_
  refine aB_ ?_
  refine af_ ?_
  refine er_ σ ?_
  refine ⟨⟨i, _, rfl, hj, hlo, hhi, ?_⟩, rfl⟩
  rw [Bool.and_eq_true, decide_eq_true_eq, decide_eq_true_eq, oJ_]
  constructor
  ·rintro ⟨h1, h2⟩; exact ⟨x, hx (by omega), h2⟩
  ·rintro ⟨y, hy, h2⟩
   have h1 := (List.getElem?_eq_some_iff.1 hy).1
   rw [hx h1] at hy
   obtain rfl := Option.some.inj hy
   exact ⟨by omega, h2⟩
theorem nD_ {l : List Sib} {s : Sib} {r : Nat} {b : Bool} (hr : cm_ l) (hlo : LoD l s r) (hhi : HiD l s r) (hb : b = true ↔ ∃ y, l[r]? = some y ∧ Dot y s) : (b = true → ∃ y, l[r]? = some y ∧ fnd l s.node s.n = some y) ∧ (b = false → fnd l s.node s.n = none) := by
 refine ⟨fun h => ?_, fun h => ?_⟩
 ·obtain ⟨y, hy, hd⟩ := hb.1 h
  refine ⟨y, hy, ?_⟩
  have := mr_ hr.uq (List.mem_of_getElem? hy)
  rwa [hd.1, hd.2] at this
 ·refine eg_.2 fun z hz hd => ?_
  obtain ⟨m, hm⟩ := List.mem_iff_getElem?.1 hz
  rcases Nat.lt_trichotomy m r with k | k | k
  ·exact e7_ (hlo m z k hm) hd
  ·subst k
   have := hb.2 ⟨z, hm, hd⟩
   rw [h] at this; cases this
  ·obtain ⟨y, hy⟩ := aq_ (l := l) (k := r) (by have := (List.getElem?_eq_some_iff.1 hm).1; omega)
   have h1 := jz_ hr k hy hm
   have h2 := hhi r y (Nat.le_refl _) hy
   unfold b4_ at h1 h2
   rw [hd.1, hd.2, h2] at h1
   cases h1
set_option maxHeartbeats 1000000 in
theorem sB_ {o p : Obj'} {σ : Store} (ho : ObjSm o) (hp : ObjSm p) (hr : cm_ p.sibs) : ai_ Tryz.prog 79 [sObj o, sObj p] σ fun v σ' => v = .sl 5 ((c0_ o p).map sSib) false ∧ σ = σ' := by
 have hns := ho.ns; have hnp := hp.ns; have hnc := hp.nc
 refine en_ Tryz.func79 Tryz.ntmps79 Tryz.results79 ?_
 refine rr_ ?_
 refine bx_ fun o2 ho2 => ?_
 repeat (rw [ac_] at ho2; obtain ⟨_, ho2⟩ := ho2)
 refine bx_ fun o3 ho3 => ?_
 repeat (rw [ac_] at ho3; obtain ⟨_, ho3⟩ := ho3)
 refine s_ ?_
 refine aa_ ?_
 refine rr_ ?_
 refine a8_ 60 5 rfl rfl rfl (by rfl) fun k5 hk5 => ?_
 refine aa_ ?_
 refine ab_ ?_
 refine rr_ ?_
 iterate 4 refine s_ ?_
 refine aa_ ?_
 refine ag_ ?_
 refine ah_ (ι := Nat × Nat) (fun ⟨t, k⟩ => o.sibs.length - k) (fun ⟨t, k⟩ => k ≤ o.sibs.length ∧ σ.tok t = none) (fun ⟨t, k⟩ => [(3, .ref o3 0), (5, .own t 5 (((o.sibs.take k).filterMap (bH_ p)).map sSib)), (11, .sl 5 (o.sibs.map sSib) false), (12, vInt o.sibs.length), (13, vInt k)]) (fun ⟨t, k⟩ => (((σ.newTok none t (60, 5)).set o2 (.cells (sObj o).cells)).set o3 (.cells (sObj p).cells))) (k5, 0) ?_ ?_ ?_ ?_
 ·exact ⟨Nat.zero_le _, hk5⟩
 ·exact cv_
 ·exact Store.Wk.refl _
 rintro ⟨t, k⟩ ⟨hk, ht⟩
 simp only [ak_, am_]
 refine rr_ ?_
 refine s_ ?_
 refine aa_ ?_
 refine ab_ ?_
 refine cd_ (fun hc3 => ?_) (fun hc3 => ?_)
 ·refine ae_ ?_
  refine ab_ ?_
  refine ag_ ?_
  refine ab_ ?_
  obtain ⟨x, hx⟩ := aq_ (l := o.sibs) (k := k) (by omega)
  have hlen : ((o.sibs.take k).filterMap (bH_ p)).length ≤ k := Nat.le_trans (List.length_filterMap_le ..) (by simp; omega)
  have hsx := ho.sibs x (List.mem_of_getElem? hx)
  have hnx := hsx.node
  have R := hx
  refine r_ ?_
  iterate 2 refine s_ ?_
  refine lc_ fun o7 ho7 => ?_
  repeat (rw [ac_] at ho7; obtain ⟨_, ho7⟩ := ho7)
  refine st_ ?_
  refine aa_ ?_
  refine rr_ ?_
  iterate 3 refine s_ ?_
  refine x_ g_ va_ (nv_ hr (by omega)) ?_; rintro _ _ ⟨⟨r, b, rfl, h1, h2, h3, h4⟩, rfl⟩
  have hfs := nD_ hr h2 h3 h4
  iterate 5 refine s_ ?_
  refine aa_ ?_
  refine ag_ ?_
  refine rr_ ?_
  iterate 2 refine s_ ?_
  refine aa_ ?_
  refine cd_ (fun hc6 => ?_) (fun hc6 => ?_)
  ·obtain ⟨y, hy, hf⟩ := hfs.1 hc6
   have hrl := (List.getElem?_eq_some_iff.1 hy).1
   have hkf : bH_ p x = some (grS x y) := by simp [bH_, hf]
   have hcov : ((o.sibs.take (k + 1)).filterMap (bH_ p)).map sSib = ((o.sibs.take k).filterMap (bH_ p)).map sSib ++ [sSib (grS x y)] := by rw [ax_ hx, List.filterMap_append, List.map_append]; simp [hkf]
   have R := hy
   refine ap_ (.op 0 0 (.op 1 0 (.op 2 0 (.op 3 0 (.op 4 0 (.op 5 0 (.op 6 0 (.op 7 1 (.op 8 1 (.op 9 2 (.op 10 0 .nil))))))))))) Tryz.mixed kr_ ?_
   iterate 7 refine ds_ ?_
   refine dx_ o_ g_ va_ (o8_) ?_; rintro _ _ ⟨rfl, rfl⟩; refine ⟨sub_, ?_⟩
   refine dR_X o_ (by rfl) (by rfl) (aS_ (by rfl) g_ g_ (by rfl) (by rfl) h_ c2_ (by decide) ⟨sub_, ?_⟩)
   refine dR_T o_ (by rfl) (by rfl) (bl_ (by rfl) g_ g_ (.inl ⟨_, va_, h_, rfl⟩) (.inl ⟨⟨_, g_⟩, .inl v_, c_⟩) (by simp; omega) fun k35 hk35 => ?_)
   refine ds_ ?_
   refine aB_ ?_
   refine r_ ?_
   iterate 2 refine s_ ?_
   refine aa_ ?_
   refine aC_ (ι := Nat × Nat) (i := ⟨t, k⟩) (k35, k + 1) ?_ ?_ ?_ ?_
   ·show o.sibs.length - (k + 1) < o.sibs.length - k; omega
   ·exact ⟨by show k + 1 ≤ o.sibs.length; omega, (aE_ hk35).2⟩
   ·have R := hcov; exact cv_
   ·exact sub_
  ·have hf := hfs.2 hc6
   refine rr_ ?_
   iterate 4 refine s_ ?_
   refine x_ g_ va_ (vo_ hp.ctx (by omega)) ?_; rintro _ _ ⟨rfl, rfl⟩
   iterate 2 refine s_ ?_
   refine aa_ ?_
   refine cd_ (fun hc8 => ?_) (fun hc8 => ?_)
   ·have hkf : bH_ p x = some x := by simp [bH_, hf, hc8]
    have hcov : ((o.sibs.take (k + 1)).filterMap (bH_ p)).map sSib = ((o.sibs.take k).filterMap (bH_ p)).map sSib ++ [sSib x] := by rw [ax_ hx, List.filterMap_append, List.map_append]; simp [hkf]
    refine r_ ?_
    iterate 2 refine s_ ?_
    refine ao_ rfl rfl rfl g_ g_ rfl rfl h_ c2_ (by decide) ?_
    refine aM_ rfl rfl rfl g_ g_ v_ h_ v_ c_ (by simp; omega) fun k46 hk46 => ?_
    refine s_ ?_
    refine aa_ ?_
    refine r_ ?_
    iterate 2 refine s_ ?_
    refine aa_ ?_
    refine aC_ (ι := Nat × Nat) (i := ⟨t, k⟩) (k46, k + 1) ?_ ?_ ?_ ?_
    ·show o.sibs.length - (k + 1) < o.sibs.length - k; omega
    ·exact ⟨by show k + 1 ≤ o.sibs.length; omega, (aE_ hk46).2⟩
    ·have R := hcov; exact cv_
    ·exact sub_
   ·have hkf : bH_ p x = none := by simp [bH_, hf, hc8]
    have hcov : ((o.sibs.take (k + 1)).filterMap (bH_ p)).map sSib = ((o.sibs.take k).filterMap (bH_ p)).map sSib := by rw [ax_ hx, List.filterMap_append, List.map_append]; simp [hkf]
    refine ae_ ?_
    refine r_ ?_
    iterate 2 refine s_ ?_
    refine aa_ ?_
    refine aC_ (ι := Nat × Nat) (i := ⟨t, k⟩) (t, k + 1) ?_ ?_ ?_ ?_
    ·show o.sibs.length - (k + 1) < o.sibs.length - k; omega
    ·exact ⟨by show k + 1 ≤ o.sibs.length; omega, ht⟩
    ·have R := hcov; exact cv_
    ·exact sub_
 ·refine an_ ?_
  refine ad_ ?_
  refine ad_ ?_
  refine aj_ ?_
  refine ab_ ?_
  skip
  have hfin : (o.sibs.take k).filterMap (bH_ p) = c0_ o p := by rw [List.take_of_length_le (by omega)]; rfl
  refine r_ ?_
  iterate 2 refine s_ ?_
  refine aa_ ?_
  refine af_ ?_
  rw [← hfin]
  exact aw_ (v := .sl 5 (((o.sibs.take k).filterMap (bH_ p)).map sSib) false) (v' := .own t 5 (((o.sibs.take k).filterMap (bH_ p)).map sSib)) va_ (.own1 _ _ _) sub_ ⟨rfl, rfl⟩
theorem vd_ {l : List Sib} {s : ByteArray} {n : Int} {r : Nat} {x : Sib} (hx : l[r]? = some x) (hd : x.node = s ∧ x.n = n) (hm : ∀ m y, m < r → l[m]? = some y → ¬ (y.node = s ∧ y.n = n)) : fnd l s n = some x :=
 eI_ (r := r) hx (b8_.2 hd) fun m y hmr hy => by
  cases h : lB_ s n y with
  |false => rfl
  |true => exact absurd (b8_.1 h) (hm m y hmr hy)
theorem pC_ {l : List Sib} {s : ByteArray} {n : Int} {t : Bool} {σ : Store} (hn : l.length ≤ 1000000) : ai_ Tryz.prog 93 [.sl 5 (l.map sSib) t, sDot s n] σ fun v σ' => (∃ r : Int, v = vInt r ∧ (0 ≤ r → r < l.length ∧ ∃ y, l[r.toNat]? = some y ∧ fnd l s n = some y) ∧ (r < 0 → fnd l s n = none) ∧ -1 ≤ r) ∧ σ = σ' := by
 refine en_ Tryz.func93 Tryz.ntmps93 Tryz.results93 ?_
 refine rr_ ?_
 refine bx_ fun o3 ho3 => ?_
 repeat (rw [ac_] at ho3; obtain ⟨_, ho3⟩ := ho3)
 refine s_ ?_
 refine aa_ ?_
 refine ab_ ?_
 refine rr_ ?_
 refine s_ ?_
 refine aa_ ?_
 refine ag_ ?_
 refine ah_ (ι := Nat) (fun k => l.length - k) (fun k => k ≤ l.length ∧ ∀ m y, m < k → l[m]? = some y → ¬ (y.node = s ∧ y.n = n)) (fun k => [(0, .sl 5 (l.map sSib) t), (3, .ref o3 0), (5, vInt k)]) (fun k => (σ.set o3 (.cells (sDot s n).cells))) 0 ?_ ?_ ?_ ?_
 ·exact ⟨Nat.zero_le _, fun m y h => by omega⟩
 ·exact cv_
 ·exact Store.Wk.refl _
 rintro k ⟨hk, ha⟩
 simp only [ak_, am_]
 refine ab_ ?_
 refine rr_ ?_
 iterate 4 refine s_ ?_
 refine aa_ ?_
 refine cd_ (fun hc2 => ?_) (fun hc2 => ?_)
 ·refine ae_ ?_
  refine ab_ ?_
  refine ag_ ?_
  refine ab_ ?_
  obtain ⟨x, hx⟩ := aq_ (l := l) (k := k) (by omega)
  have R := hx
  refine ap_ (.op 0 0 (.op 1 0 (.op 2 0 (.op 3 0 (.op 4 0 (.op 5 0 (.op 6 0 .nil))))))) Tryz.mixed kr_ ?_
  iterate 7 refine ds_ ?_
  refine aB_ ?_
  refine cd_ (fun hc4 => ?_) (fun hc4 => ?_)
  ·refine rr_ ?_
   iterate 2 refine s_ ?_
   refine aa_ ?_
   refine af_ ?_
   refine er_ σ ?_
   exact ⟨⟨(k : Int), rfl, fun _ => ⟨by omega, x, by simpa using hx, vd_ hx hc4 ha⟩, fun h => by omega, by omega⟩, rfl⟩
  ·refine ae_ ?_
   refine r_ ?_
   iterate 3 refine s_ ?_
   refine aa_ ?_
   refine aC_ (ι := Nat) (i := k) (k + 1) ?_ ?_ ?_ ?_
   ·omega
   ·exact ⟨by omega, fun m y hm hy => by rcases Nat.lt_or_eq_of_le (Nat.le_of_lt_succ hm) with h | h; exact ha m y h hy; rw [h, hx] at hy; obtain rfl := Option.some.inj hy; exact fun hh => by simp [hh.1, hh.2] at hc4⟩
   ·exact cv_
   ·exact sub_
 ·refine an_ ?_
  refine ad_ ?_
  refine ad_ ?_
  refine aj_ ?_
  refine rr_ ?_
  refine s_ ?_
  refine aa_ ?_
  refine af_ ?_
  refine er_ σ ?_
  exact ⟨⟨-1, rfl, fun h => by omega, fun _ => eg_.2 fun x hx hh => by
   obtain ⟨m, hm⟩ := List.mem_iff_getElem?.1 hx
   exact ha m x (by have := (List.getElem?_eq_some_iff.1 hm).1; omega) hm hh, by omega⟩, rfl⟩
theorem gr_ {a b : Sib} (hd : Dot a b) : grS a b = if a.time = b.time then (if a.value = b.value then (if a.gone then a else b) else if sLt b.value a.value then a else b) else if b.time < a.time then a else b := by
 by_cases h1 : a.time = b.time
 ·rw [if_pos h1]
  by_cases h2 : a.value = b.value
  ·rw [if_pos h2]
   cases h3 : a.gone with
   |true => rw [if_pos rfl, grS, if_neg]; rw [c4_, h2, bk_, h3]; simp [h1]
   |false =>
    rw [if_neg (by simp)]
    cases h4 : b.gone with
    |true => rw [grS, if_pos]; rw [c4_]; exact .inr ⟨h1, .inr ⟨h2, h3, h4⟩⟩
    |false =>
     have : a = b := lE_ (by rw [← Bool.not_eq_true, c4_, h2, bk_, h3, h4]; simp [h1]) (by rw [← Bool.not_eq_true, c4_, h2, bk_, h3, h4]; simp [h1]) hd
     rw [this, mu_]
  ·rw [if_neg h2]
   cases h3 : sLt b.value a.value with
   |true => rw [if_pos rfl, grS, if_neg]; rw [c4_, id_ h3]; simp [h1, h2]
   |false => rw [if_neg (by simp), grS, if_pos]; rw [c4_]; exact .inr ⟨h1, .inl (fD_ h3 (Ne.symm h2))⟩
 ·rw [if_neg h1]
  by_cases h2 : b.time < a.time
  ·rw [if_pos h2, grS, if_neg]; rw [c4_]; rintro (h | h)
   ·omega
   ·exact h1 h.1
  ·rw [if_neg h2, grS, if_pos]; rw [c4_]; left; omega
theorem nS_ {a b : Sib} {σ : Store} (hd : Dot a b) : ai_ Tryz.prog 95 [sSib a, sSib b] σ fun v σ' => v = sSib (grS a b) ∧ σ = σ' := by
 refine en_ Tryz.func95 Tryz.ntmps95 Tryz.results95 ?_
 refine rr_ ?_
 refine bx_ fun o2 ho2 => ?_
 repeat (rw [ac_] at ho2; obtain ⟨_, ho2⟩ := ho2)
 refine bx_ fun o3 ho3 => ?_
 repeat (rw [ac_] at ho3; obtain ⟨_, ho3⟩ := ho3)
 refine lc_ fun o4 ho4 => ?_
 repeat (rw [ac_] at ho4; obtain ⟨_, ho4⟩ := ho4)
 refine aa_ ?_
 refine ab_ ?_
 refine rr_ ?_
 iterate 5 refine s_ ?_
 refine aa_ ?_
 refine cd_ (fun hc1 => ?_) (fun hc1 => ?_)
 ·refine ab_ ?_
  refine rr_ ?_
  iterate 5 refine s_ ?_
  refine aa_ ?_
  refine cd_ (fun hc2 => ?_) (fun hc2 => ?_)
  ·refine rr_ ?_
   refine s_ ?_
   refine st_ ?_
   refine aa_ ?_
   refine af_ ?_
   refine er_ σ ?_
   exact ⟨by rw [gr_ hd, if_neg hc1, if_pos hc2], rfl⟩
  ·refine ae_ ?_
   refine rr_ ?_
   refine s_ ?_
   refine st_ ?_
   refine aa_ ?_
   refine af_ ?_
   refine er_ σ ?_
   exact ⟨by rw [gr_ hd, if_neg hc1, if_neg (by omega)], rfl⟩
 ·refine ae_ ?_
  refine ab_ ?_
  refine rr_ ?_
  iterate 5 refine s_ ?_
  refine aa_ ?_
  refine cd_ (fun hc5 => ?_) (fun hc5 => ?_)
  ·refine ab_ ?_
   refine rr_ ?_
   iterate 5 refine s_ ?_
   refine aa_ ?_
   refine cd_ (fun hc6 => ?_) (fun hc6 => ?_)
   ·refine rr_ ?_
    refine s_ ?_
    refine st_ ?_
    refine aa_ ?_
    refine af_ ?_
    refine er_ σ ?_
    exact ⟨by rw [gr_ hd, if_pos hc1, if_neg hc5, if_pos (fD_ hc6.1 hc5)], rfl⟩
   ·refine ae_ ?_
    refine rr_ ?_
    refine s_ ?_
    refine st_ ?_
    refine aa_ ?_
    refine af_ ?_
    refine er_ σ ?_
    exact ⟨by rw [gr_ hd, if_pos hc1, if_neg hc5, if_neg (by rcases hc6 with h | h; rw [id_ h]; simp; exact absurd h hc5)], rfl⟩
  ·refine ae_ ?_
   refine ab_ ?_
   refine rr_ ?_
   iterate 2 refine s_ ?_
   refine aa_ ?_
   refine cd_ (fun hc9 => ?_) (fun hc9 => ?_)
   ·refine rr_ ?_
    refine s_ ?_
    refine st_ ?_
    refine aa_ ?_
    refine af_ ?_
    refine er_ σ ?_
    exact ⟨by rw [gr_ hd, if_pos hc1, if_pos hc5, if_pos hc9], rfl⟩
   ·refine ae_ ?_
    refine rr_ ?_
    refine s_ ?_
    refine st_ ?_
    refine aa_ ?_
    refine af_ ?_
    refine er_ σ ?_
    exact ⟨by rw [gr_ hd, if_pos hc1, if_pos hc5, if_neg (by rw [hc9]; simp)], rfl⟩
theorem pw_ {s : Sib} : ∀ {l : List Sib} {k : Nat}, (∀ j x, j < k → l[j]? = some x → b4_ x s = true) → (∀ x, l[k]? = some x → b4_ x s = false) → k ≤ l.length → putD l s = l.take k ++ s :: l.drop k
 |[], k, _, _, hk => by
  obtain rfl : k = 0 := by simpa using hk
  simp [putD]
 |m :: l, 0, _, h2, _ => by
  have := h2 m rfl
  rw [putD, if_neg (by rw [this]; simp)]; rfl
 |m :: l, k + 1, h1, h2, hk => by
  have hm := h1 0 m (by omega) rfl
  have ih := pw_ (s := s) (l := l) (k := k) (fun j x hj hx => h1 (j + 1) x (by omega) hx) (fun x hx => h2 x hx) (by simpa using hk)
  rw [putD, if_pos hm, ih]; rfl
theorem mR_ (s : Sib) : ∀ (l : List Sib), (putD l s).length = l.length + 1
 |[] => rfl
 |y :: l => by
  unfold putD
  split
  ·simp [mR_ s l]
  ·simp
theorem f4_ : ∀ (M l : List Sib), (M.foldl putD l).length = l.length + M.length
 |[], l => by simp
 |s :: M, l => by rw [List.foldl_cons, f4_ M, mR_, List.length_cons]; omega
theorem lK_ {l : List Sib} {s : Sib} {t : Bool} {σ : Store} (hl : l.length ≤ 1000000) : ai_ Tryz.prog 94 [.sl 5 (l.map sSib) t, sSib s] σ fun v σ' => v = .sl 5 ((putD l s).map sSib) false ∧ σ = σ' := by
 refine en_ Tryz.func94 Tryz.ntmps94 Tryz.results94 ?_
 refine rr_ ?_
 refine bx_ fun o3 ho3 => ?_
 repeat (rw [ac_] at ho3; obtain ⟨_, ho3⟩ := ho3)
 refine s_ ?_
 refine aa_ ?_
 refine rr_ ?_
 refine s_ ?_
 refine aa_ ?_
 refine ab_ ?_
 refine ag_ ?_
 refine ah_ (ι := Nat) (fun k => l.length - k) (fun k => k ≤ l.length ∧ ∀ j x, j < k → l[j]? = some x → b4_ x s = true) (fun k => [(0, .sl 5 (l.map sSib) t), (3, .ref o3 0), (5, vInt k)]) (fun k => (σ.set o3 (.cells (sSib s).cells))) 0 ?_ ?_ ?_ ?_
 ·exact ⟨Nat.zero_le _, fun j x h => by omega⟩
 ·exact cv_
 ·exact Store.Wk.refl _
 rintro k ⟨hk, ha⟩
 simp only [ak_, am_]
 refine ab_ ?_
 refine ab_ ?_
 obtain ⟨x, hx⟩ := eO_ l k
 have R := hx
 refine ap_ (.op 0 0 (.op 1 0 (.op 2 0 (.op 3 0 (.op 4 0 (.op 5 0 (.op 6 0 (.op 7 0 (.op 8 0 (.op 9 0 (.op 10 0 (.op 11 0 (.op 12 1 (.op 13 0 .nil)))))))))))))) Tryz.mixed kr_ ?_
 iterate 5 refine ds_ ?_
 refine dgt_ ?_
 refine dgt_ ?_
 refine dgt_ ?_
 refine dgt_ ?_
 refine dgt_ ?_
 refine dgt_ ?_
 refine dgt_ ?_
 refine fi_ o_ (by rfl) (by rfl) v_ (by rfl) sub_ (fun hb => av_ (by rfl) (by rfl) (.inr ⟨by rfl, by rfl, by rfl⟩) g_ cg_ (pD_)) ?_
 refine ds_ ?_
 refine aB_ ?_
 refine cd_ (fun hc2 => ?_) (fun hc2 => ?_)
 ·refine ae_ ?_
  refine ag_ ?_
  refine r_ ?_
  iterate 3 refine s_ ?_
  refine aa_ ?_
  refine aC_ (ι := Nat) (i := k) (k + 1) ?_ ?_ ?_ ?_
  ·omega
  ·exact ⟨by omega, fun j y hj hy => by rcases Nat.lt_or_eq_of_le (Nat.le_of_lt_succ hj) with h | h; exact ha j y h hy; rw [h, hx (by omega)] at hy; obtain rfl := Option.some.inj hy; exact hc2.2⟩
  ·exact cv_
  ·exact sub_
 ·refine an_ ?_
  refine ad_ ?_
  refine ad_ ?_
  refine aj_ ?_
  refine ab_ ?_
  skip
  have hat : putD l s = l.take k ++ s :: l.drop k := pw_ ha (fun y hy => by
   have h1 := (List.getElem?_eq_some_iff.1 hy).1
   rw [hx h1] at hy; obtain rfl := Option.some.inj hy
   rcases hc2 with h | h
   ·omega
   ·exact h) hk
  have m1 : (l.map sSib).take k = (l.take k).map sSib := List.map_take.symm
  have m2 : ((l.map sSib).take l.length).drop k = (l.drop k).map sSib := by rw [List.take_of_length_le (by simp), List.map_drop]
  have m3 : (l.map sSib).drop k = (l.drop k).map sSib := List.map_drop.symm
  refine r_ ?_
  refine a8_ 60 5 rfl rfl rfl (by rfl) fun k6 hk6 => ?_
  refine aa_ ?_
  refine ab_ ?_
  have R := m1
  refine r_ ?_
  iterate 4 refine s_ ?_
  refine aM_ rfl rfl rfl g_ g_ v_ h_ v_ (mM_ _) (by simp; omega) fun k27 hk27 => ?_
  have s6 : σ.tok k6 = none := hk6
  have t27 := (aE_ hk27).2
  have s27 : σ.tok k27 = none := t27
  refine s_ ?_
  refine aa_ ?_
  refine rr_ ?_
  iterate 2 refine s_ ?_
  refine ao_ rfl rfl rfl g_ g_ rfl rfl h_ c2_ (by decide) ?_
  refine aM_ rfl rfl rfl g_ g_ v_ h_ v_ c_ (by simp; omega) fun k31 hk31 => ?_
  rw [Store.newTok_step (show Store.tok (σ.set o3 (.cells (sSib s).cells)) k6 = none from hk6)] at hk31
  have t31 := (aE_ hk31).2
  have s31 : σ.tok k31 = none := t31
  refine s_ ?_
  refine aa_ ?_
  refine ab_ ?_
  have R := And.intro m2 m3
  refine r_ ?_
  iterate 4 refine s_ ?_
  refine aM_ rfl rfl rfl g_ g_ v_ h_ v_ (mM_ _) (by simp; omega) fun k36 hk36 => ?_
  rw [Store.newTok_step (show Store.tok (σ.set o3 (.cells (sSib s).cells)) k6 = none from hk6), Store.newTok_step t27] at hk36
  have t36 := (aE_ hk36).2
  have s36 : σ.tok k36 = none := t36
  refine s_ ?_
  refine aa_ ?_
  refine rr_ ?_
  iterate 2 refine s_ ?_
  refine aa_ ?_
  refine af_ ?_
  rw [hat, show (l.take k ++ s :: l.drop k).map sSib = (l.take k).map sSib ++ [sSib s] ++ (l.drop k).map sSib from by simp]
  exact aw_ (v := .sl 5 ((l.take k).map sSib ++ [sSib s] ++ (l.drop k).map sSib) false) (v' := .own k36 5 ((l.take k).map sSib ++ [sSib s] ++ (l.drop k).map sSib)) va_ (.own1 _ _ _) sub_ ⟨rfl, rfl⟩
set_option maxHeartbeats 2000000 in
theorem mX_ {a b : Obj'} {σ : Store} (ha : ObjSm a) (hB : ObjSm b) : ai_ Tryz.prog 40 [sObj a, sObj b] σ fun v σ' => v = .tup [sObj (ba_ a b).1, vInt (ba_ a b).2] ∧ σ = σ' := by
 have na := ha.ns; have nb := hB.ns; have ca := ha.nc; have cb := hB.nc
 refine en_ Tryz.func40 Tryz.ntmps40 Tryz.results40 ?_
 refine rr_ ?_
 refine bx_ fun o2 ho2 => ?_
 repeat (rw [ac_] at ho2; obtain ⟨_, ho2⟩ := ho2)
 refine bx_ fun o3 ho3 => ?_
 repeat (rw [ac_] at ho3; obtain ⟨_, ho3⟩ := ho3)
 refine lc_ fun o4 ho4 => ?_
 repeat (rw [ac_] at ho4; obtain ⟨_, ho4⟩ := ho4)
 refine s_ ?_
 refine aa_ ?_
 refine ab_ ?_
 refine rr_ ?_
 refine s_ ?_
 refine x_ g_ va_ (dF_ ha) ?_; rintro _ _ ⟨rfl, rfl⟩
 iterate 2 refine s_ ?_
 refine gf_ ?_
 refine bt_ rfl rfl v_ rfl (fun hb => av_ (by rfl) (by rfl) (.inr ⟨by rfl, by rfl, by rfl⟩) g_ cg_ (dF_ hB)) ?_
 refine gf_ ?_
 refine s_ ?_
 refine aa_ ?_
 refine cd_ (fun hc1 => ?_) (fun hc1 => ?_)
 ·refine rr_ ?_
  refine s_ ?_
  refine st_ ?_
  refine s_ ?_
  refine aa_ ?_
  refine af_ ?_
  rw [show ba_ a b = (⟨[], []⟩, 1) from by
   unfold ba_
   cases h1 : be_ a <;> cases h2 : be_ b <;> simp [h1, h2] at hc1 ⊢]
  exact aw_ (v := .tup [sObj ⟨[], []⟩, vInt 1]) (v' := .tup [.agg [vNil, vNil], vInt 1]) va_ (.tup _ _ rfl (fun i hi hi' => by match i, hi with | 0, _ => exact .agg _ _ rfl (fun j hj hj' => by match j, hj with | 0, _ => exact .nil _ _ | 1, _ => exact .nil _ _) | 1, _ => exact .refl _)) sub_ ⟨rfl, rfl⟩
 ·refine ae_ ?_
  refine rr_ ?_
  iterate 4 refine s_ ?_
  refine x_ g_ va_ (lJ_ ha.ctx hB.ctx (by omega) (by omega)) ?_; rintro _ _ ⟨rfl, rfl⟩
  iterate 5 refine s_ ?_
  refine aa_ ?_
  refine ab_ ?_
  refine rr_ ?_
  iterate 2 refine s_ ?_
  refine aa_ ?_
  refine cd_ (fun hc4 => ?_) (fun hc4 => ?_)
  ·refine rr_ ?_
   iterate 2 refine s_ ?_
   refine st_ ?_
   refine s_ ?_
   refine aa_ ?_
   refine af_ ?_
   rw [show ba_ a b = (⟨[], []⟩, (bB_ a.ctx b.ctx).2) from by simp [ba_, hc1.1, hc1.2, hc4]]
   exact aw_ (v := .tup [sObj ⟨[], []⟩, vInt (bB_ a.ctx b.ctx).2]) (v' := .tup [.agg [vNil, vNil], vInt (bB_ a.ctx b.ctx).2]) va_ (.tup _ _ rfl (fun i hi hi' => by match i, hi with | 0, _ => exact .agg _ _ rfl (fun j hj hj' => by match j, hj with | 0, _ => exact .nil _ _ | 1, _ => exact .nil _ _) | 1, _ => exact .refl _)) sub_ ⟨rfl, rfl⟩
  ·have hms : ba_ a b = (⟨(bB_ a.ctx b.ctx).1, c3_ a b⟩, 0) := by simp [ba_, hc1.1, hc1.2, hc4]
   obtain ⟨J, hJ⟩ : ∃ J, (bB_ a.ctx b.ctx).1 = J := ⟨_, rfl⟩
   rw [hJ] at hms ⊢
   refine ae_ ?_
   refine rr_ ?_
   refine l5_ 5 rfl rfl rfl (by rfl) ?_
   refine aa_ ?_
   refine ab_ ?_
   refine rr_ ?_
   refine s_ ?_
   refine aa_ ?_
   refine ag_ ?_
   refine ah_ (ι := Nat) (fun i => a.sibs.length - i) (fun i => i ≤ a.sibs.length) (fun i => [(2, .ref o2 0), (3, .ref o3 0), (4, .ref o4 0), (6, .sl 3 (J.map az_) false), (8, .sl 5 ((((a.sibs.take i).filterMap (bH_ b)).foldl putD []).map sSib) false), (9, vInt i)]) (fun i => (((σ.set o2 (.cells (sObj a).cells)).set o3 (.cells (sObj b).cells)).set o4 (.cells [.lit (.slice none 0 0), .lit (.slice none 0 0)]))) 0 ?_ ?_ ?_ ?_
   ·exact Nat.zero_le _
   ·exact cv_
   ·exact Store.Wk.refl _
   rintro i hi
   simp only [ak_, am_]
   refine ab_ ?_
   refine rr_ ?_
   iterate 5 refine s_ ?_
   refine aa_ ?_
   refine cd_ (fun hc8 => ?_) (fun hc8 => ?_)
   ·refine ae_ ?_
    refine ab_ ?_
    refine ag_ ?_
    refine ab_ ?_
    obtain ⟨x, hx⟩ := aq_ (l := a.sibs) (k := i) (by omega)
    have hl1 : ((a.sibs.take i).filterMap (bH_ b)).length ≤ i := Nat.le_trans (List.length_filterMap_le ..) (by simp; omega)
    have hl2 := f4_ ((a.sibs.take i).filterMap (bH_ b)) []
    rw [List.length_nil] at hl2
    have hsx := ha.sibs x (List.mem_of_getElem? hx)
    have hnx := hsx.node
    have hstep : ∀ y, bH_ b x = y → ((a.sibs.take (i + 1)).filterMap (bH_ b)).foldl putD [] = (match y with | some z => putD (((a.sibs.take i).filterMap (bH_ b)).foldl putD []) z | none => ((a.sibs.take i).filterMap (bH_ b)).foldl putD []) := fun y hy => by
     rw [ax_ hx, List.filterMap_append, List.foldl_append]
     cases y <;> simp [hy]
    have R := hx
    refine r_ ?_
    iterate 5 refine s_ ?_
    refine lc_ fun o10 ho10 => ?_
    repeat (rw [ac_] at ho10; obtain ⟨_, ho10⟩ := ho10)
    refine st_ ?_
    refine aa_ ?_
    refine rr_ ?_
    iterate 4 refine s_ ?_
    refine x_ g_ va_ (pC_ (by omega)) ?_; rintro _ _ ⟨⟨r, rfl, h1, h2, h3⟩, rfl⟩
    refine s_ ?_
    refine aa_ ?_
    refine rr_ ?_
    iterate 2 refine s_ ?_
    refine aa_ ?_
    refine cd_ (fun hc12 => ?_) (fun hc12 => ?_)
    ·obtain ⟨hrl, y, hy, hf⟩ := h1 hc12
     have hd := (do_ hf).2
     have hcov := hstep (some (grS x y)) (by simp [bH_, hf])
     have R := hy
     refine ap_ (.op 0 0 (.op 1 0 (.op 2 0 (.op 3 0 (.op 4 0 (.op 5 0 (.op 6 0 (.op 7 1 (.op 8 1 (.op 9 0 .nil)))))))))) Tryz.mixed kr_ ?_
     iterate 7 refine ds_ ?_
     refine dx_ o_ g_ va_ (nS_ ⟨hd.1.symm, hd.2.symm⟩) ?_; rintro _ _ ⟨rfl, rfl⟩; refine ⟨sub_, ?_⟩
     refine dx_ o_ g_ va_ (lK_ (by omega)) ?_; rintro _ _ ⟨rfl, rfl⟩; refine ⟨sub_, ?_⟩
     refine ds_ ?_
     refine aB_ ?_
     refine r_ ?_
     iterate 3 refine s_ ?_
     refine aa_ ?_
     refine aC_ (ι := Nat) (i := i) (i + 1) ?_ ?_ ?_ ?_
     ·omega
     ·show i + 1 ≤ a.sibs.length; omega
     ·have R := hcov; exact cv_
     ·exact sub_
    ·have hf := h2 hc12
     refine rr_ ?_
     iterate 4 refine s_ ?_
     refine x_ g_ va_ (mU_ hB.ctx (by omega)) ?_; rintro _ _ ⟨rfl, rfl⟩
     refine s_ ?_
     refine aa_ ?_
     refine cd_ (fun hc14 => ?_) (fun hc14 => ?_)
     ·have hcov := hstep (some x) (by simp [bH_, hf, hc14])
      refine r_ ?_
      iterate 2 refine s_ ?_
      refine x_ g_ va_ (lK_ (by omega)) ?_; rintro _ _ ⟨rfl, rfl⟩
      refine s_ ?_
      refine aa_ ?_
      refine r_ ?_
      iterate 3 refine s_ ?_
      refine aa_ ?_
      refine aC_ (ι := Nat) (i := i) (i + 1) ?_ ?_ ?_ ?_
      ·omega
      ·show i + 1 ≤ a.sibs.length; omega
      ·have R := hcov; exact cv_
      ·exact sub_
     ·have hcov := hstep none (by simp [bH_, hf, hc14])
      refine ae_ ?_
      refine r_ ?_
      iterate 3 refine s_ ?_
      refine aa_ ?_
      refine aC_ (ι := Nat) (i := i) (i + 1) ?_ ?_ ?_ ?_
      ·omega
      ·show i + 1 ≤ a.sibs.length; omega
      ·have R := hcov; exact cv_
      ·exact sub_
   ·refine an_ ?_
    refine ad_ ?_
    refine ad_ ?_
    refine aj_ ?_
    refine ab_ ?_
    refine ab_ ?_
    skip
    have hA : (a.sibs.take i).filterMap (bH_ b) = c0_ a b := by rw [List.take_of_length_le (by omega)]; rfl
    have hlA : (c0_ a b).length ≤ a.sibs.length := List.length_filterMap_le ..
    rw [hA]
    have hic : c0_ a b ++ List.filterMap (dV_ a) [] = c0_ a b := by simp
    refine r_ ?_
    refine s_ ?_
    refine aa_ ?_
    refine ag_ ?_
    refine ah_ (ι := Nat) (fun i => b.sibs.length - i) (fun i => i ≤ b.sibs.length) (fun i => [(2, .ref o2 0), (3, .ref o3 0), (4, .ref o4 0), (6, .sl 3 (J.map az_) false), (8, .sl 5 (((c0_ a b ++ (b.sibs.take i).filterMap (dV_ a)).foldl putD []).map sSib) false), (12, vInt i)]) (fun i => (((σ.set o2 (.cells (sObj a).cells)).set o3 (.cells (sObj b).cells)).set o4 (.cells [.lit (.slice none 0 0), .lit (.slice none 0 0)]))) 0 ?_ ?_ ?_ ?_
    ·exact Nat.zero_le _
    ·have R := hic; exact cv_
    ·exact Store.Wk.refl _
    rintro i hi
    simp only [ak_, am_]
    refine ab_ ?_
    refine rr_ ?_
    iterate 5 refine s_ ?_
    refine aa_ ?_
    refine cd_ (fun hc17 => ?_) (fun hc17 => ?_)
    ·refine ae_ ?_
     refine ab_ ?_
     refine ag_ ?_
     refine ab_ ?_
     obtain ⟨x, hx⟩ := aq_ (l := b.sibs) (k := i) (by omega)
     have hl1 : ((b.sibs.take i).filterMap (dV_ a)).length ≤ i := Nat.le_trans (List.length_filterMap_le ..) (by simp; omega)
     have hl2 := f4_ (c0_ a b ++ (b.sibs.take i).filterMap (dV_ a)) []
     rw [List.length_nil, List.length_append] at hl2
     have hsx := hB.sibs x (List.mem_of_getElem? hx)
     have hnx := hsx.node
     have hstep : ∀ y, dV_ a x = y → (c0_ a b ++ (b.sibs.take (i + 1)).filterMap (dV_ a)).foldl putD [] = (match y with | some z => putD ((c0_ a b ++ (b.sibs.take i).filterMap (dV_ a)).foldl putD []) z | none => (c0_ a b ++ (b.sibs.take i).filterMap (dV_ a)).foldl putD []) := fun y hy => by
      rw [ax_ hx, List.filterMap_append, ← List.append_assoc, List.foldl_append (l' := [x].filterMap (dV_ a))]
      cases y <;> simp [hy]
     have R := hx
     refine r_ ?_
     iterate 5 refine s_ ?_
     refine lc_ fun o13 ho13 => ?_
     repeat (rw [ac_] at ho13; obtain ⟨_, ho13⟩ := ho13)
     refine st_ ?_
     refine aa_ ?_
     refine rr_ ?_
     iterate 4 refine s_ ?_
     refine x_ g_ va_ (pC_ (by omega)) ?_; rintro _ _ ⟨⟨r, rfl, h1, h2, h3⟩, rfl⟩
     iterate 2 refine s_ ?_
     refine gt_ ?_
     refine gt_ ?_
     refine gt_ ?_
     refine gt_ ?_
     refine cE_ rfl rfl v_ rfl (fun hb => av_ (by rfl) (by rfl) (.inr ⟨by rfl, by rfl, by rfl⟩) g_ cg_ (mU_ ha.ctx (by omega))) ?_
     refine gt_ ?_
     refine s_ ?_
     refine aa_ ?_
     refine cd_ (fun hc20 => ?_) (fun hc20 => ?_)
     ·have hcov := hstep (some x) (by simp [dV_, h2 hc20.1, hc20.2])
      refine r_ ?_
      iterate 2 refine s_ ?_
      refine x_ g_ va_ (lK_ (by omega)) ?_; rintro _ _ ⟨rfl, rfl⟩
      refine s_ ?_
      refine aa_ ?_
      refine r_ ?_
      iterate 3 refine s_ ?_
      refine aa_ ?_
      refine aC_ (ι := Nat) (i := i) (i + 1) ?_ ?_ ?_ ?_
      ·omega
      ·show i + 1 ≤ b.sibs.length; omega
      ·have R := hcov; exact cv_
      ·exact sub_
     ·skip
      have hcov := hstep none (by
       rcases hc20 with h | h
       ·obtain ⟨_, y, _, hf⟩ := h1 h
        simp [dV_, hf]
       ·simp [dV_, h])
      refine ae_ ?_
      refine r_ ?_
      iterate 3 refine s_ ?_
      refine aa_ ?_
      refine aC_ (ι := Nat) (i := i) (i + 1) ?_ ?_ ?_ ?_
      ·omega
      ·show i + 1 ≤ b.sibs.length; omega
      ·have R := hcov; exact cv_
      ·exact sub_
    ·refine an_ ?_
     refine ad_ ?_
     refine ad_ ?_
     refine aj_ ?_
     refine ab_ ?_
     skip
     have hM : (c0_ a b ++ (b.sibs.take i).filterMap (dV_ a)).foldl putD [] = c3_ a b := by rw [List.take_of_length_le (by omega)]; rfl
     rw [hM]
     refine r_ ?_
     iterate 3 refine s_ ?_
     refine st_ ?_
     refine s_ ?_
     refine aa_ ?_
     refine af_ ?_
     refine er_ σ ?_
     exact ⟨by rw [hms], rfl⟩
end Go.Proofs.YtcaflcpcbcneiaaGreat
end

section
set_option linter.all false
set_option maxRecDepth 100000
namespace Go.Proofs.YtcaflcpcbcneiaaGreat
open Go.Ab Go.Shelf Go.Proofs
abbrev fOrd : AVal := .lit (.func (.func 81) #[] #[])
theorem oc_ {f : FuncId} {fv : Value} {σ : Store} (h : ∀ w, Calls Tryz.prog f #[.slice none 0 0, fv] w fun e w' => e = .returned (.tuple #[]) ∧ w' = w) :
  ai_ Tryz.prog f [.lit (.slice none 0 0), .lit fv] σ fun v σ' => v = .tup [] ∧ σ' = σ := by
 intro κ vs hI hn hv
 have e0 := (hv 0 (by simp)).litInv
 have e1 := (hv 1 (by simp)).litInv
 have hvs : vs = #[.slice none 0 0, fv] := by
  apply Array.ext (by simpa using hn)
  intro i h1 h2
  have eg : vs.getD i undef = vs[i] := by simp [h1]
  match i, h2 with
  |0, _ => rw [← eg, e0]; rfl
  |1, _ => rw [← eg, e1]; rfl
 rw [hvs]
 exact (h κ.w).mono fun ex w' ⟨he, hw⟩ => ⟨_, he, by rw [hw]; exact ju_ (K.Le.refl κ) hI ⟨rfl, rfl⟩⟩
theorem p4_ {σ0 σ : Store} {L : List Sib} {a : AVal} (h : CBp σ0 σ 5 (L.map sSib) a) (hl : L.length ≤ 1000000000) :
  ai_ Tryz.prog 80 [a, fOrd] σ fun v σ' => v = .tup [] ∧ ∃ L' : List Sib, L'.Perm L ∧ L'.Pairwise (fun x y => b4_ y x = false) ∧ CBp σ0 σ' 5 (L'.map sSib) a := by
 rcases h with ⟨rfl, h0, rfl⟩ | ⟨o, ho, rfl, rfl⟩
 ·obtain rfl : L = [] := by simpa using h0
  exact (oc_ fun w => AnyF.slices_SortFunc_none v9_ none 0 _ w).wkS fun v σ' ⟨hv, hs⟩ => ⟨v, σ', .refl _, .refl _, hv, [], .refl _, .nil, .inl ⟨rfl, rfl, hs⟩⟩
 ·rw [List.length_map]
  exact (ob_ (Store.set_get ..) hl).wkS fun v σ' ⟨hv, L', h1, h2, h3⟩ => ⟨v, σ', .refl _, .refl _, hv, L', h1, h2, .inr ⟨o, ho, by rw [List.length_map, h1.length_eq], by rw [h3, Store.set_set]⟩⟩
theorem cZ_ (L : List Sib) : (flat (L.map sSib)).length = L.length * 5 := by rw [aR_ (jH_ L), List.length_map]
theorem eL_ : ∀ {L : List Sib} {j : Nat} {x : Sib}, L[j]? = some x → ((flat (L.map sSib)).drop (j * 5)).take 5 = [vStr x.node, vInt x.n, vStr x.value, .lit (.bool x.gone), vInt x.time]
 |[], j, x, h => by simp at h
 |y :: L, 0, x, h => by
  simp only [List.getElem?_cons_zero, Option.some.injEq] at h
  subst h
  rfl
 |y :: L, j + 1, x, h => by
  rw [List.map_cons, a5_, show (j + 1) * 5 = 5 + j * 5 by omega, ← List.drop_drop]
  exact eL_ (L := L) (j := j) h
theorem ou_ {M : List Sib} {j : Nat} {x : Sib} (hj : j < M.length) : aput (flat (M.map sSib)) (j * 5) [vStr x.node, vInt x.n, vStr x.value, .lit (.bool x.gone), vInt x.time] = flat ((M.set j x).map sSib) := by
 have e : M.set j x = M.take j ++ x :: M.drop (j + 1) := by rw [List.set_eq_take_append_cons_drop, if_pos hj]
 have e2 : M = M.take j ++ M[j] :: M.drop (j + 1) := by rw [List.getElem_cons_drop hj, List.take_append_drop]
 have hl : (flat ((M.take j).map sSib)).length = j * 5 := by rw [cZ_, List.length_take, Nat.min_eq_left (by omega)]
 rw [e]
 conv => lhs; rw [e2]
 unfold aput
 rw [List.map_append, List.map_cons, a7_, a5_, List.map_append, List.map_cons, a7_, a5_, List.take_left' hl, List.drop_append, List.drop_of_length_le (by rw [hl]; simp), hl, show j * 5 + [vStr x.node, vInt x.n, vStr x.value, AVal.lit (.bool x.gone), vInt x.time].length - j * 5 = 5 from by simp]
 simp [AVal.cells]
theorem qh_ {M : List Sib} {j : Nat} {zs : List AVal} : aput (flat (M.map sSib)) (j * 5) zs = flat ((M.take j).map sSib) ++ (zs ++ (flat (M.map sSib)).drop (j * 5 + zs.length)) := by
 unfold aput
 rw [List.append_assoc, List.map_take, eM_ (jH_ M)]
theorem ko_ {x y : Sib} {σ : Store} : ai_ Tryz.prog 83 [sSib x, sSib y] σ fun v σ' => v = vB (decide (x.node = y.node) && decide (x.n = y.n)) ∧ σ = σ' := by
 refine en_ Tryz.func83 Tryz.ntmps83 Tryz.results83 ?_
 refine rr_ ?_
 refine bx_ fun o2 ho2 => ?_
 repeat (rw [ac_] at ho2; obtain ⟨_, ho2⟩ := ho2)
 refine bx_ fun o3 ho3 => ?_
 repeat (rw [ac_] at ho3; obtain ⟨_, ho3⟩ := ho3)
 refine s_ ?_
 refine aa_ ?_
 refine rr_ ?_
 iterate 6 refine s_ ?_
 refine aa_ ?_
 refine af_ ?_
 refine er_ σ ?_
 exact ⟨rfl, rfl⟩
theorem hO_ {L : List Sib} {k : Nat} {x y : Sib} (hk : 0 < k) (hx : L[k]? = some x) (hy : L[k - 1]? = some y) : Lib.compactUpTo L.toArray (k + 1) = Lib.compactUpTo L.toArray k ++ (if x = y then [] else [x]) := by
 have h1 := (List.getElem?_eq_some_iff.1 hx).1
 have h2 := (List.getElem?_eq_some_iff.1 hy).1
 have e1 : L.toArray[k]! = x := by
  have := (List.getElem?_eq_some_iff.1 hx).2
  simp [h1, this]
 have e2 : L.toArray[k - 1]! = y := by
  have := (List.getElem?_eq_some_iff.1 hy).2
  simp [h2, this]
 rw [Lib.compactUpTo_succ]
 congr 1
 simp only [Lib.keeps, e1, e2]
 by_cases h : x = y
 ·simp [h, show k ≠ 0 by omega]
 ·simp [h]
end Go.Proofs.YtcaflcpcbcneiaaGreat
end

section
set_option linter.all false
set_option maxRecDepth 100000
namespace Go.Proofs.YtcaflcpcbcneiaaGreat
open Go.Ab
structure CmI (L : List Sib) (j : Nat) (kk : Nat) (M : List Sib) : Prop where
 len : M.length = L.length
 tk : M.take kk = Lib.compactUpTo L.toArray j
 cnt : (Lib.compactUpTo L.toArray j).length = kk
 lt : kk < j
 le : j ≤ L.length
 dr : M.drop (j - 1) = L.drop (j - 1)
theorem ml_ {L M : List Sib} {d j : Nat} (h : M.drop d = L.drop d) (hj : d ≤ j) : M[j]? = L[j]? := by
 have := congrArg (fun l => l[j - d]?) h
 simp only [List.getElem?_drop] at this
 rwa [show d + (j - d) = j by omega] at this
theorem CmI.put {L : List Sib} {j kk : Nat} {M : List Sib} {x y : Sib} (h : CmI L j kk M) (hx : L[j]? = some x) (hy : L[j - 1]? = some y) (hn : x ≠ y) : CmI L (j + 1) (kk + 1) (M.set kk x) := by
 have h1 := (List.getElem?_eq_some_iff.1 hx).1
 have hk := h.lt
 have hs := hO_ (by omega) hx hy
 rw [if_neg hn] at hs
 have hl := h.len
 refine ⟨by rw [List.length_set]; exact h.len, ?_, by rw [hs, List.length_append, h.cnt]; rfl, by omega, by omega, ?_⟩
 ·rw [hs, ← h.tk]
  rw [ax_ (show (M.set kk x)[kk]? = some x by rw [List.getElem?_set_self]; omega), List.take_set_of_le (Nat.le_refl _)]
 ·rw [Nat.add_sub_cancel, List.drop_set_of_lt (by omega)]
  have := congrArg (List.drop 1) h.dr
  rwa [List.drop_drop, List.drop_drop, show j - 1 + 1 = j by omega] at this
theorem CmI.skip {L : List Sib} {j kk : Nat} {M : List Sib} {x : Sib} (h : CmI L j kk M) (hx : L[j]? = some x) (hy : L[j - 1]? = some x) : CmI L (j + 1) kk M := by
 have h1 := (List.getElem?_eq_some_iff.1 hx).1
 have hk := h.lt
 have hs := hO_ (by omega) hx hy
 rw [if_pos rfl, List.append_nil] at hs
 refine ⟨h.len, by rw [hs]; exact h.tk, by rw [hs]; exact h.cnt, by omega, by omega, ?_⟩
 have := congrArg (List.drop 1) h.dr
 rwa [List.drop_drop, List.drop_drop, show j - 1 + 1 = j by omega] at this
theorem mk_ {L : List Sib} (hu : Uq L) {j i : Nat} {x y : Sib} (hx : L[j]? = some x) (hy : L[i]? = some y) : (decide (x.node = y.node) && decide (x.n = y.n)) = true ↔ x = y := by
 rw [Bool.and_eq_true, decide_eq_true_eq, decide_eq_true_eq]
 exact ⟨fun h => hu x (List.mem_of_getElem? hx) y (List.mem_of_getElem? hy) h, fun h => by rw [h]; exact ⟨rfl, rfl⟩⟩
theorem fN_ {L : List Sib} (h : L.length < 2) : Lib.compact L = L := by
 match L, h with
 |[], _ => rfl
 |[x], _ => exact fq_ x
set_option maxHeartbeats 2000000 in
theorem nx_ {o : Nat} {L : List Sib} {σ : Store} (ho : σ.heap o = some (.cells (flat (L.map sSib)))) (hu : Uq L) (hl : L.length ≤ 1000000) :
  ai_ Tryz.prog 82 [.msl o 5 0 L.length, .lit (.func (.func 83) #[] #[])] σ fun v σ' => ∃ zs : List AVal, v = .msl o 5 0 (Lib.compact L).length ∧ σ' = σ.set o (.cells (flat ((Lib.compact L).map sSib) ++ zs)) := by
 have hfl := cZ_ L
 refine en_ Tryz.func82 Tryz.ntmps82 Tryz.results82 ?_
 refine rr_ ?_
 refine s_ ?_
 refine aa_ ?_
 refine ab_ ?_
 refine rr_ ?_
 iterate 3 refine s_ ?_
 refine aa_ ?_
 refine cd_ (fun hc1 => ?_) (fun hc1 => ?_)
 ·refine rr_ ?_
  iterate 2 refine s_ ?_
  refine aa_ ?_
  refine af_ ?_
  refine au_ v_ (Store.Wk.refl _) ?_
  exact ⟨[], by rw [fN_ (by omega)], by rw [fN_ (by omega), List.append_nil, Store.set_same ho]⟩
 ·refine ae_ ?_
  refine ab_ ?_
  refine rr_ ?_
  refine s_ ?_
  refine aa_ ?_
  refine ag_ ?_
  refine ah_ (ι := Nat) (fun k => L.length - k) (fun k => 1 ≤ k ∧ k ≤ L.length ∧ Lib.compactUpTo L.toArray k = L.take k) (fun k => [(0, .msl o 5 0 L.length), (1, .lit (.func (.func 83) #[] #[])), (5, vInt k)]) (fun k => σ) 1 ?_ ?_ ?_ ?_
  ·exact ⟨Nat.le_refl _, by omega, by rw [Lib.compactUpTo_succ]; simp [Lib.compactUpTo, Lib.keeps, show 0 < L.length by omega]; cases L with | nil => simp at hc1 | cons a l => simp⟩
  ·exact cv_
  ·exact sub_
  rintro k ⟨hk1, hk, hc⟩
  simp only [ak_, am_]
  refine ab_ ?_
  refine rr_ ?_
  iterate 4 refine s_ ?_
  refine aa_ ?_
  refine cd_ (fun hc4 => ?_) (fun hc4 => ?_)
  ·refine ae_ ?_
   refine ab_ ?_
   refine ag_ ?_
   refine ab_ ?_
   obtain ⟨x, hx⟩ := aq_ (l := L) (k := k) (by omega)
   obtain ⟨y, hy⟩ := aq_ (l := L) (k := k - 1) (by omega)
   have px := eL_ hx
   have py := eL_ hy
   have hkk : ((k : Int) - 1).toNat = k - 1 := by omega
   have hks := hO_ hk1 hx hy
   have hdi := mk_ hu hx hy
   have R := And.intro px (And.intro py (And.intro ho (And.intro hfl hkk)))
   refine ap_ (.op 0 0 (.op 1 0 (.op 2 0 (.op 3 0 (.op 4 0 (.op 5 0 (.op 6 0 (.op 7 0 (.op 8 0 (.op 9 0 (.op 10 2 .nil))))))))))) Tryz.mixed kr_ ?_
   iterate 10 refine ds_ ?_
   refine dR_T o_ (by rfl) (by rfl) (aU_ (by rfl) (by rfl) (.inr ⟨va_, by rfl, by rfl⟩) g_ va_ (ko_) ?_); rintro _ _ ⟨rfl, rfl⟩
   refine aB_ ?_
   refine cd_ (fun hc6 => ?_) (fun hc6 => ?_)
   ·obtain rfl : x = y := hdi.1 (by simpa using hc6)
    rw [if_pos rfl, List.append_nil] at hks
    have hI0 : CmI L (k + 1) k L := ⟨rfl, by rw [hks, hc], by rw [hks, hc, List.length_take]; omega, by omega, by omega, by rw [Nat.add_sub_cancel]⟩
    have hset : σ = σ.set o (.cells (flat (L.map sSib))) := (Store.set_same ho).symm
    refine rr_ ?_
    iterate 4 refine s_ ?_
    refine aa_ ?_
    refine ab_ ?_
    refine rr_ ?_
    refine s_ ?_
    refine aa_ ?_
    refine ag_ ?_
    refine ah_ (ι := Nat × Nat × List Sib) (fun ⟨k2, kk, M⟩ => L.length - (k + k2)) (fun ⟨k2, kk, M⟩ => 1 ≤ k2 ∧ CmI L (k + k2) kk M) (fun ⟨k2, kk, M⟩ => [(0, .msl o 5 0 L.length), (1, .lit (.func (.func 83) #[] #[])), (5, vInt kk), (6, .msl o 5 (k * 5) (L.length - k)), (7, vInt k2)]) (fun ⟨k2, kk, M⟩ => (σ.set o (.cells (flat (M.map sSib))))) (1, k, L) ?_ ?_ ?_ ?_
    ·exact ⟨Nat.le_refl _, hI0⟩
    ·exact cv_
    ·(try dsimp only); rw [Store.set_same ho]; exact Store.Wk.refl _
    rintro ⟨k2, kk, M⟩ ⟨hk2, hI⟩
    simp only [ak_, am_]
    refine ab_ ?_
    refine rr_ ?_
    iterate 4 refine s_ ?_
    refine aa_ ?_
    refine cd_ (fun hc9 => ?_) (fun hc9 => ?_)
    ·refine ae_ ?_
     refine ab_ ?_
     refine ag_ ?_
     refine ab_ ?_
     have hjl : k + k2 < L.length := by omega
     obtain ⟨x, hx⟩ := aq_ (l := L) (k := k + k2) hjl
     obtain ⟨y, hy⟩ := aq_ (l := L) (k := k + k2 - 1) (by omega)
     have hMx : M[k + k2]? = some x := by rw [ml_ hI.dr (by omega)]; exact hx
     have hMy : M[k + (k2 - 1)]? = some y := by rw [ml_ hI.dr (by omega), show k + (k2 - 1) = k + k2 - 1 by omega]; exact hy
     have px := eL_ hMx
     have py := eL_ hMy
     rw [Nat.add_mul] at px py
     have hkk : ((k2 : Int) - 1).toNat = k2 - 1 := by omega
     have hdi := mk_ hu hx hy
     have hflM := cZ_ M
     rw [hI.len] at hflM
     have hkl := hI.lt
     have R := And.intro px (And.intro py (And.intro hflM hkk))
     refine ap_ (.op 0 0 (.op 1 0 (.op 2 0 (.op 3 0 (.op 4 0 (.op 5 0 (.op 6 0 (.op 7 0 (.op 8 0 (.op 9 0 (.op 10 1 (.op 11 0 .nil)))))))))))) Tryz.mixed kr_ ?_
     iterate 10 refine ds_ ?_
     refine dR_X o_ (by rfl) (by rfl) (aU_ (by rfl) (by rfl) (.inr ⟨va_, by rfl, by rfl⟩) g_ va_ (ko_) ?_); rintro _ _ ⟨rfl, rfl⟩; refine ⟨sub_, ?_⟩
     refine ds_ ?_
     refine aB_ ?_
     refine cd_ (fun hc11 => ?_) (fun hc11 => ?_)
     ·have hne : x ≠ y := fun h => by have := hdi.2 h; simp at this; simp [this] at hc11
      refine ab_ ?_
      have R := And.intro px hflM
      refine r_ ?_
      iterate 7 refine s_ ?_
      refine bX_ rfl rfl rfl v_ v_ h_ g_ rfl g_ c_ (by rfl) (by rw [hflM]; omega) (ou_ (by rw [hI.len]; omega)) ?_
      refine aa_ ?_
      refine r_ ?_
      iterate 3 refine s_ ?_
      refine aa_ ?_
      refine r_ ?_
      iterate 3 refine s_ ?_
      refine aa_ ?_
      refine aC_ (ι := Nat × Nat × List Sib) (i := ⟨k2, kk, M⟩) (k2 + 1, kk + 1, M.set kk x) ?_ ?_ ?_ ?_
      ·show L.length - (k + (k2 + 1)) < L.length - (k + k2); omega
      ·exact ⟨by show 1 ≤ k2 + 1; omega, hI.put hx hy hne⟩
      ·exact cv_
      ·rw [Store.set_set]; exact Store.Wk.refl _
     ·obtain rfl : x = y := hdi.1 (by simpa using hc11)
      refine ae_ ?_
      refine r_ ?_
      iterate 3 refine s_ ?_
      refine aa_ ?_
      refine aC_ (ι := Nat × Nat × List Sib) (i := ⟨k2, kk, M⟩) (k2 + 1, kk, M) ?_ ?_ ?_ ?_
      ·show L.length - (k + (k2 + 1)) < L.length - (k + k2); omega
      ·exact ⟨by show 1 ≤ k2 + 1; omega, hI.skip hx hy⟩
      ·exact cv_
      ·exact Store.Wk.refl _
    ·refine an_ ?_
     refine ad_ ?_
     refine ad_ ?_
     refine aj_ ?_
     refine ab_ ?_
     have hkl := hI.lt
     have hle := hI.le
     have hj : k + k2 = L.length := by omega
     have hflM := cZ_ M
     rw [hI.len] at hflM
     have hcnt := hI.cnt
     have htk := hI.tk
     rw [hj] at hcnt htk
     refine r_ ?_
     iterate 3 refine s_ ?_
     refine qz_ rfl rfl (hn_ (sz := 5) rfl g_ g_ (by rfl) (by decide) va_ h_ (by rw [hflM]; omega) fun zs hz => ?_)
     refine aa_ ?_
     refine rr_ ?_
     iterate 4 refine s_ ?_
     refine aa_ ?_
     refine af_ ?_
     refine au_ v_ (Store.Wk.refl _) ?_
     exact ⟨zs ++ (flat (M.map sSib)).drop (kk * 5 + zs.length), by rw [← hcnt]; rfl, by rw [Store.set_set, qh_, htk]; rfl⟩
   ·have hnx : Lib.compactUpTo L.toArray (k + 1) = L.take (k + 1) := by rw [hks, if_neg (fun h => by have := hdi.2 h; simp at this; simp [this] at hc6), hc, ax_ hx]
    refine ae_ ?_
    refine r_ ?_
    iterate 3 refine s_ ?_
    refine aa_ ?_
    refine aC_ (ι := Nat) (i := k) (k + 1) ?_ ?_ ?_ ?_
    ·omega
    ·exact ⟨by omega, by omega, hnx⟩
    ·exact cv_
    ·exact sub_
  ·refine an_ ?_
   refine ad_ ?_
   refine ad_ ?_
   refine aj_ ?_
   refine ab_ ?_
   skip
   have hfin : Lib.compactUpTo L.toArray L.length = L := by
    have := hc
    rwa [show k = L.length by omega, List.take_length] at this
   refine r_ ?_
   iterate 2 refine s_ ?_
   refine aa_ ?_
   refine af_ ?_
   refine au_ v_ (Store.Wk.refl _) ?_
   exact ⟨[], by rw [show Lib.compact L = L from hfin], by rw [show Lib.compact L = L from hfin, List.append_nil, Store.set_same ho]⟩
abbrev fEq : AVal := .lit (.func (.func 83) #[] #[])
theorem j9_ {σ : Store} : ai_ Tryz.prog 82 [vNil, fEq] σ fun v σ' => v = vNil ∧ σ = σ' := by
 refine en_ Tryz.func82 Tryz.ntmps82 Tryz.results82 ?_
 refine rr_ ?_
 refine s_ ?_
 refine aa_ ?_
 refine ab_ ?_
 refine rr_ ?_
 iterate 3 refine s_ ?_
 refine aa_ ?_
 refine cd_ (fun hc1 => ?_) (fun hc1 => ?_)
 ·refine rr_ ?_
  iterate 2 refine s_ ?_
  refine aa_ ?_
  refine af_ ?_
  refine er_ σ ?_
  exact ⟨rfl, rfl⟩
 ·simp at hc1
theorem j6_ {σ0 σ : Store} {L : List Sib} {a : AVal} (h : CBp σ0 σ 5 (L.map sSib) a) (hu : Uq L) (hl : L.length ≤ 1000000) :
  ai_ Tryz.prog 82 [a, fEq] σ fun v σ' => v = .sl 5 ((Lib.compact L).map sSib) false ∧ σ0 = σ' := by
 rcases h with ⟨rfl, h0, rfl⟩ | ⟨o, ho, rfl, rfl⟩
 ·obtain rfl : L = [] := by simpa using h0
  exact j9_.wkS fun v σ' ⟨hv, hs⟩ => ⟨_, σ', by rw [hv]; exact .nil 5 false, .refl _, rfl, hs⟩
 ·rw [List.length_map]
  refine (nx_ (Store.set_get ..) hu hl).after ?_
  rintro κ _ _ cv hI hr ⟨zs, rfl, rfl⟩
  obtain ⟨κ', h1, h2, h3, h4⟩ := Ab.freeze hI hr (Store.set_get ..) (l := (Lib.compact L).map sSib) (by rw [List.take_left' (by rw [cZ_])]) (by simp) (jH_ _)
  rw [Store.set_set, Store.set_del ho] at h3
  exact ⟨κ', _, _, h1, h2, h3, h4, rfl, rfl⟩
theorem pe_ {a b : Obj'} (ha : cm_ a.sibs) (hb : cm_ b.sibs) (x : Sib) : x ∈ c0_ a b ++ c0_ b a ↔ x ∈ c0_ a b ++ nH_ a b := by
 rw [List.mem_append, List.mem_append]
 constructor
 ·rintro (h | h)
  ·exact .inl h
  ·obtain ⟨y, hy, hf⟩ := List.mem_filterMap.1 h
   cases hz : fnd a.sibs y.node y.n with
   |some z =>
    obtain ⟨hz1, hz2⟩ := do_ hz
    have e : grS y z = x := by simpa [bH_, hz] using hf
    have hzb : fnd b.sibs z.node z.n = some y := by rw [hz2.1, hz2.2]; exact mr_ hb.uq hy
    exact .inl (List.mem_filterMap.2 ⟨z, hz1, by simp only [bH_, hzb]; rw [← e, mt_ (x := z) (y := y) hz2]⟩)
   |none =>
    cases hh : hasS a.ctx y.node y.n with
    |true => simp [bH_, hz, hh] at hf
    |false =>
     obtain rfl : y = x := by simpa [bH_, hz, hh] using hf
     exact .inr (List.mem_filterMap.2 ⟨y, hy, by simp [dV_, hz, hh]⟩)
 ·rintro (h | h)
  ·exact .inl h
  ·obtain ⟨y, hy, hg⟩ := List.mem_filterMap.1 h
   obtain ⟨rfl, h1, h2⟩ := ha_ hg
   exact .inr (List.mem_filterMap.2 ⟨x, hy, by simp [bH_, h1, h2]⟩)
theorem nO_ {a b : Obj'} {L : List Sib} (ha : cm_ a.sibs) (hb : cm_ b.sibs) (hp : L.Perm (c0_ a b ++ c0_ b a)) (hs : L.Pairwise fun x y => b4_ y x = false) : Uq L ∧ Lib.compact L = c3_ a b := by
 obtain ⟨m1, m2⟩ := fu_ ha hb
 have hm : ∀ x, x ∈ L ↔ x ∈ c3_ a b := fun x => by rw [hp.mem_iff, pe_ ha hb, m2]
 have hu : Uq L := fun x hx y hy e => m1.uq x ((hm x).1 hx) y ((hm y).1 hy) e
 refine ⟨hu, ?_⟩
 have hst : L.Pairwise fun x y => x = y ∨ b4_ x y = true := by
  rw [List.pairwise_iff_getElem] at hs ⊢
  intro i j hi hj hij
  have h1 := hs i j hi hj hij
  by_cases hd : Dot L[j] L[i]
  ·exact .inl (hu _ (List.getElem_mem hi) _ (List.getElem_mem hj) hd.symm)
  ·exact .inr (hP_ h1 hd)
 obtain ⟨c1, c2⟩ := eE_ (r := fun x y : Sib => b4_ x y = true) (fun x y z h1 h2 => ft_ h1 h2) L hst
 exact gO_ c1 m1 fun x => by rw [c2, hm]
set_option maxHeartbeats 1000000 in
theorem pm_ {a b : Obj'} {σ : Store} (ha : ObjSm a) (hB : ObjSm b) : ai_ Tryz.prog 34 [sObj a, sObj b] σ fun v σ' => v = .tup [sObj (ba_ a b).1, vInt (ba_ a b).2] ∧ σ = σ' := by
 have na := ha.ns; have nb := hB.ns; have ca := ha.nc; have cb := hB.nc
 refine en_ Tryz.func34 Tryz.ntmps34 Tryz.results34 ?_
 refine rr_ ?_
 refine bx_ fun o2 ho2 => ?_
 repeat (rw [ac_] at ho2; obtain ⟨_, ho2⟩ := ho2)
 refine bx_ fun o3 ho3 => ?_
 repeat (rw [ac_] at ho3; obtain ⟨_, ho3⟩ := ho3)
 refine lc_ fun o4 ho4 => ?_
 repeat (rw [ac_] at ho4; obtain ⟨_, ho4⟩ := ho4)
 refine s_ ?_
 refine aa_ ?_
 refine ab_ ?_
 refine rr_ ?_
 refine s_ ?_
 refine x_ g_ va_ (he_ ha) ?_; rintro _ _ ⟨rfl, rfl⟩
 iterate 2 refine s_ ?_
 refine gf_ ?_
 refine bt_ rfl rfl v_ rfl (fun hb => av_ (by rfl) (by rfl) (.inr ⟨by rfl, by rfl, by rfl⟩) g_ cg_ (he_ hB)) ?_
 refine gf_ ?_
 refine s_ ?_
 refine aa_ ?_
 refine cd_ (fun hc1 => ?_) (fun hc1 => ?_)
 ·refine rr_ ?_
  refine s_ ?_
  refine st_ ?_
  refine s_ ?_
  refine aa_ ?_
  refine af_ ?_
  rw [show ba_ a b = (⟨[], []⟩, 1) from by
   rw [chk0, chk0] at hc1
   unfold ba_
   cases h1 : be_ a <;> cases h2 : be_ b <;> simp [h1, h2] at hc1 ⊢]
  exact aw_ (v := .tup [sObj ⟨[], []⟩, vInt 1]) (v' := .tup [.agg [vNil, vNil], vInt 1]) va_ (.tup _ _ rfl (fun i hi hi' => by match i, hi with | 0, _ => exact .agg _ _ rfl (fun j hj hj' => by match j, hj with | 0, _ => exact .nil _ _ | 1, _ => exact .nil _ _) | 1, _ => exact .refl _)) sub_ ⟨rfl, rfl⟩
 ·rw [chk0, chk0] at hc1
  have ga := (bL_.1 hc1.1).1.rise
  have gb := (bL_.1 hc1.2).1.rise
  refine ae_ ?_
  refine rr_ ?_
  iterate 4 refine s_ ?_
  refine x_ g_ va_ (pc_ ha.ctx hB.ctx (by omega) (by omega)) ?_; rintro _ _ ⟨rfl, rfl⟩
  iterate 5 refine s_ ?_
  refine aa_ ?_
  refine ab_ ?_
  refine rr_ ?_
  iterate 2 refine s_ ?_
  refine aa_ ?_
  refine cd_ (fun hc4 => ?_) (fun hc4 => ?_)
  ·refine rr_ ?_
   iterate 2 refine s_ ?_
   refine st_ ?_
   refine s_ ?_
   refine aa_ ?_
   refine af_ ?_
   rw [show ba_ a b = (⟨[], []⟩, (bB_ a.ctx b.ctx).2) from by simp [ba_, hc1.1, hc1.2, hc4]]
   exact aw_ (v := .tup [sObj ⟨[], []⟩, vInt (bB_ a.ctx b.ctx).2]) (v' := .tup [.agg [vNil, vNil], vInt (bB_ a.ctx b.ctx).2]) va_ (.tup _ _ rfl (fun i hi hi' => by match i, hi with | 0, _ => exact .agg _ _ rfl (fun j hj hj' => by match j, hj with | 0, _ => exact .nil _ _ | 1, _ => exact .nil _ _) | 1, _ => exact .refl _)) sub_ ⟨rfl, rfl⟩
  ·have hms : ba_ a b = (⟨(bB_ a.ctx b.ctx).1, c3_ a b⟩, 0) := by simp [ba_, hc1.1, hc1.2, hc4]
   obtain ⟨J, hJ⟩ : ∃ J, (bB_ a.ctx b.ctx).1 = J := ⟨_, rfl⟩
   rw [hJ] at hms ⊢
   have l1 : (c0_ a b).length ≤ a.sibs.length := List.length_filterMap_le ..
   have l2 : (c0_ b a).length ≤ b.sibs.length := List.length_filterMap_le ..
   refine ae_ ?_
   refine ab_ ?_
   refine ap_ (.op 0 0 (.op 1 0 (.op 3 0 (.op 4 0 (.op 2 1 (.op 5 1 (.op 6 1 (.op 7 2 (.op 8 0 .nil))))))))) Tryz.mixed kr_ ?_
   iterate 4 refine ds_ ?_
   refine dx_ o_ g_ va_ (sB_ ha hB gb) ?_; rintro _ _ ⟨rfl, rfl⟩; refine ⟨sub_, ?_⟩
   refine dx_ o_ g_ va_ (sB_ hB ha ga) ?_; rintro _ _ ⟨rfl, rfl⟩; refine ⟨sub_, ?_⟩
   refine dR_X o_ (by rfl) (by rfl) (aS_ (by rfl) g_ g_ (by rfl) (by rfl) h_ c2_ (by decide) ⟨sub_, ?_⟩)
   refine tx_ o_ g_ va_ (li_ (L1 := c0_ a b) (L2 := c0_ b a) (by omega) (by omega)) ?_; rintro _ τ0 hC0
   refine ds_ ?_
   refine aB_ ?_
   refine rr_ ?_
   refine s_ ?_
   refine x_ g_ va_ (p4_ hC0 (by rw [List.length_append]; omega)) ?_; rintro _ τ1 ⟨rfl, L, hp, hs, hC1⟩
   obtain ⟨hu, hcm⟩ := nO_ ga gb hp hs
   have hlL : L.length ≤ 1000000 := by rw [hp.length_eq, List.length_append]; omega
   refine aa_ ?_
   refine rr_ ?_
   iterate 2 refine s_ ?_
   refine x_ g_ va_ (j6_ hC1 hu hlL) ?_; rintro _ _ ⟨rfl, rfl⟩
   rw [hcm]
   refine s_ ?_
   refine st_ ?_
   refine s_ ?_
   refine aa_ ?_
   refine af_ ?_
   refine er_ σ ?_
   exact ⟨by rw [hms], rfl⟩
theorem lo_ {a b : List Int} {ta tb : Bool} {σ : Store} (ha : a.length ≤ 1000000) (hb : b.length ≤ 1000000) : ai_ Tryz.prog 144 [.sl 1 (a.map vInt) ta, .sl 1 (b.map vInt) tb] σ fun v σ' => v = vB (decide (a = b)) ∧ σ = σ' := by
 refine en_ Tryz.func144 Tryz.ntmps144 Tryz.results144 ?_
 refine rr_ ?_
 refine s_ ?_
 refine aa_ ?_
 refine ab_ ?_
 refine rr_ ?_
 iterate 5 refine s_ ?_
 refine aa_ ?_
 refine cd_ (fun hc1 => ?_) (fun hc1 => ?_)
 ·refine rr_ ?_
  refine s_ ?_
  refine aa_ ?_
  refine af_ ?_
  refine er_ σ ?_
  exact ⟨by rw [decide_eq_false]; intro h; rw [h] at hc1; omega, rfl⟩
 ·refine ae_ ?_
  refine ab_ ?_
  refine rr_ ?_
  iterate 3 refine s_ ?_
  refine aa_ ?_
  refine ag_ ?_
  refine ah_ (ι := Nat) (fun k => a.length - k) (fun k => k ≤ a.length ∧ a.take k = b.take k) (fun k => [(0, .sl 1 (a.map vInt) ta), (1, .sl 1 (b.map vInt) tb), (12, vInt a.length), (13, vInt k)]) (fun k => σ) 0 ?_ ?_ ?_ ?_
  ·exact ⟨Nat.zero_le _, rfl⟩
  ·exact cv_
  ·exact sub_
  rintro k ⟨hk, he⟩
  simp only [ak_, am_]
  refine rr_ ?_
  refine s_ ?_
  refine aa_ ?_
  refine ab_ ?_
  refine cd_ (fun hc4 => ?_) (fun hc4 => ?_)
  ·refine ae_ ?_
   refine ab_ ?_
   refine ag_ ?_
   refine rr_ ?_
   iterate 2 refine s_ ?_
   refine aa_ ?_
   refine ab_ ?_
   obtain ⟨x, hx⟩ := aq_ (l := a) (k := k) (by omega)
   obtain ⟨y, hy⟩ := aq_ (l := b) (k := k) (by omega)
   have R := And.intro hx hy
   refine ap_ (.op 0 0 (.op 1 0 (.op 2 0 (.op 3 0 (.op 4 0 (.op 5 0 (.op 6 0 (.op 7 0 (.op 8 0 .nil))))))))) Tryz.mixed kr_ ?_
   iterate 9 refine ds_ ?_
   refine aB_ ?_
   refine cd_ (fun hc6 => ?_) (fun hc6 => ?_)
   ·refine rr_ ?_
    refine s_ ?_
    refine aa_ ?_
    refine af_ ?_
    refine er_ σ ?_
    exact ⟨by rw [decide_eq_false]; intro h; rw [h, hy] at hx; exact hc6 (Option.some.inj hx).symm, rfl⟩
   ·refine ae_ ?_
    refine r_ ?_
    iterate 2 refine s_ ?_
    refine aa_ ?_
    refine aC_ (ι := Nat) (i := k) (k + 1) ?_ ?_ ?_ ?_
    ·omega
    ·exact ⟨by omega, by rw [ax_ hx, ax_ hy, he, hc6]⟩
    ·exact cv_
    ·exact sub_
  ·refine an_ ?_
   refine ad_ ?_
   refine ad_ ?_
   refine aj_ ?_
   refine rr_ ?_
   refine s_ ?_
   refine aa_ ?_
   refine af_ ?_
   refine er_ σ ?_
   exact ⟨by rw [decide_eq_true]; rwa [List.take_of_length_le (by omega), List.take_of_length_le (by omega)] at he, rfl⟩
theorem lp_ {a b : List Sib} {ta tb : Bool} {σ : Store} (hla : a.length ≤ 1000000) (hlb : b.length ≤ 1000000) : ai_ Tryz.prog 85 [.sl 5 (a.map sSib) ta, .sl 5 (b.map sSib) tb] σ fun v σ' => v = vB (decide (a = b)) ∧ σ = σ' := by
 refine en_ Tryz.func85 Tryz.ntmps85 Tryz.results85 ?_
 refine rr_ ?_
 refine s_ ?_
 refine aa_ ?_
 refine ab_ ?_
 refine rr_ ?_
 iterate 5 refine s_ ?_
 refine aa_ ?_
 refine cd_ (fun hc1 => ?_) (fun hc1 => ?_)
 ·refine rr_ ?_
  refine s_ ?_
  refine aa_ ?_
  refine af_ ?_
  refine er_ σ ?_
  exact ⟨by rw [decide_eq_false]; intro h; rw [h] at hc1; omega, rfl⟩
 ·refine ae_ ?_
  refine ab_ ?_
  refine rr_ ?_
  iterate 3 refine s_ ?_
  refine aa_ ?_
  refine ag_ ?_
  refine ah_ (ι := Nat) (fun k => a.length - k) (fun k => k ≤ a.length ∧ a.take k = b.take k) (fun k => [(0, .sl 5 (a.map sSib) ta), (1, .sl 5 (b.map sSib) tb), (12, vInt a.length), (13, vInt k)]) (fun k => σ) 0 ?_ ?_ ?_ ?_
  ·exact ⟨Nat.zero_le _, rfl⟩
  ·exact cv_
  ·exact sub_
  rintro k ⟨hk, he⟩
  simp only [ak_, am_]
  refine rr_ ?_
  refine s_ ?_
  refine aa_ ?_
  refine ab_ ?_
  refine cd_ (fun hc4 => ?_) (fun hc4 => ?_)
  ·refine ae_ ?_
   refine ab_ ?_
   refine ag_ ?_
   refine rr_ ?_
   iterate 2 refine s_ ?_
   refine aa_ ?_
   refine ab_ ?_
   obtain ⟨x, hx⟩ := aq_ (l := a) (k := k) (by omega)
   obtain ⟨y, hy⟩ := aq_ (l := b) (k := k) (by omega)
   have R := And.intro hx hy
   refine ap_ (.op 0 0 (.op 1 0 (.op 2 0 (.op 3 0 (.op 4 0 (.op 5 0 (.op 6 0 (.op 7 0 (.op 8 0 .nil))))))))) Tryz.mixed kr_ ?_
   iterate 9 refine ds_ ?_
   refine aB_ ?_
   refine cd_ (fun hc6 => ?_) (fun hc6 => ?_)
   ·refine rr_ ?_
    refine s_ ?_
    refine aa_ ?_
    refine af_ ?_
    refine er_ σ ?_
    exact ⟨by rw [decide_eq_false]; intro h; rw [h, hy] at hx; obtain rfl := Option.some.inj hx; simp at hc6, rfl⟩
   ·have hxy : x = y := by cases x; cases y; simp at hc6 ⊢; exact ⟨hc6.1.1, hc6.1.2, hc6.2.1, hc6.2.2.1, hc6.2.2.2⟩
    refine ae_ ?_
    refine r_ ?_
    iterate 2 refine s_ ?_
    refine aa_ ?_
    refine aC_ (ι := Nat) (i := k) (k + 1) ?_ ?_ ?_ ?_
    ·omega
    ·exact ⟨by omega, by rw [ax_ hx, ax_ hy, he, hxy]⟩
    ·exact cv_
    ·exact sub_
  ·refine an_ ?_
   refine ad_ ?_
   refine ad_ ?_
   refine aj_ ?_
   refine rr_ ?_
   refine s_ ?_
   refine aa_ ?_
   refine af_ ?_
   refine er_ σ ?_
   exact ⟨by rw [decide_eq_true]; rwa [List.take_of_length_le (by omega), List.take_of_length_le (by omega)] at he, rfl⟩
theorem qX_ {x y : Seen} {σ : Store} (hx : SeenSm x) (hy : SeenSm y) : ai_ Tryz.prog 143 [az_ x, az_ y] σ fun v σ' => v = vB (decide (x = y)) ∧ σ = σ' := by
 have h1 := hx.more; have h2 := hy.more
 refine en_ Tryz.func143 Tryz.ntmps143 Tryz.results143 ?_
 refine rr_ ?_
 refine bx_ fun o2 ho2 => ?_
 repeat (rw [ac_] at ho2; obtain ⟨_, ho2⟩ := ho2)
 refine bx_ fun o3 ho3 => ?_
 repeat (rw [ac_] at ho3; obtain ⟨_, ho3⟩ := ho3)
 refine s_ ?_
 refine aa_ ?_
 refine rr_ ?_
 iterate 6 refine s_ ?_
 refine gt_ ?_
 refine gt_ ?_
 refine gt_ ?_
 refine gt_ ?_
 refine gt_ ?_
 iterate 2 refine s_ ?_
 refine gt_ ?_
 refine gt_ ?_
 refine gt_ ?_
 refine gt_ ?_
 refine cE_ rfl rfl v_ rfl (fun hb => av_ (by rfl) (by rfl) (.inr ⟨by rfl, by rfl, by rfl⟩) g_ cg_ (lo_ h1 h2)) ?_
 iterate 2 refine s_ ?_
 refine aa_ ?_
 refine af_ ?_
 refine er_ σ ?_
 refine ⟨?_, rfl⟩
 congr 2
 rw [Bool.eq_iff_iff]
 cases x; cases y
 simp [and_assoc]
theorem kf_ {a b : List Seen} {ta tb : Bool} {σ : Store} (hA : ∀ x ∈ a, SeenSm x) (hB : ∀ x ∈ b, SeenSm x) (hla : a.length ≤ 1000000) (hlb : b.length ≤ 1000000) : ai_ Tryz.prog 142 [.sl 3 (a.map az_) ta, .sl 3 (b.map az_) tb, .lit (.func (.func 143) #[] #[])] σ fun v σ' => v = vB (decide (a = b)) ∧ σ = σ' := by
 refine en_ Tryz.func142 Tryz.ntmps142 Tryz.results142 ?_
 refine rr_ ?_
 refine s_ ?_
 refine aa_ ?_
 refine ab_ ?_
 refine rr_ ?_
 iterate 5 refine s_ ?_
 refine aa_ ?_
 refine cd_ (fun hc1 => ?_) (fun hc1 => ?_)
 ·refine rr_ ?_
  refine s_ ?_
  refine aa_ ?_
  refine af_ ?_
  refine er_ σ ?_
  exact ⟨by rw [decide_eq_false]; intro h; rw [h] at hc1; omega, rfl⟩
 ·refine ae_ ?_
  refine ab_ ?_
  refine rr_ ?_
  iterate 3 refine s_ ?_
  refine aa_ ?_
  refine ag_ ?_
  refine ah_ (ι := Nat) (fun k => a.length - k) (fun k => k ≤ a.length ∧ a.take k = b.take k) (fun k => [(1, .sl 3 (b.map az_) tb), (2, .lit (.func (.func 143) #[] #[])), (15, .sl 3 (a.map az_) ta), (16, vInt a.length), (17, vInt k)]) (fun k => σ) 0 ?_ ?_ ?_ ?_
  ·exact ⟨Nat.zero_le _, rfl⟩
  ·exact cv_
  ·exact sub_
  rintro k ⟨hk, he⟩
  simp only [ak_, am_]
  refine rr_ ?_
  refine s_ ?_
  refine aa_ ?_
  refine ab_ ?_
  refine cd_ (fun hc4 => ?_) (fun hc4 => ?_)
  ·refine ae_ ?_
   refine ab_ ?_
   refine ag_ ?_
   refine ab_ ?_
   obtain ⟨x, hx⟩ := aq_ (l := a) (k := k) (by omega)
   obtain ⟨y, hy⟩ := aq_ (l := b) (k := k) (by omega)
   have sx := hA x (List.mem_of_getElem? hx)
   have sy := hB y (List.mem_of_getElem? hy)
   have R := And.intro hx hy
   refine r_ ?_
   iterate 3 refine s_ ?_
   refine lc_ fun o8 ho8 => ?_
   repeat (rw [ac_] at ho8; obtain ⟨_, ho8⟩ := ho8)
   refine s_ ?_
   refine st_ ?_
   refine aa_ ?_
   refine ab_ ?_
   have R := And.intro hx hy
   refine r_ ?_
   iterate 4 refine s_ ?_
   refine lc_ fun o9 ho9 => ?_
   repeat (rw [ac_] at ho9; obtain ⟨_, ho9⟩ := ho9)
   refine st_ ?_
   refine aa_ ?_
   refine rr_ ?_
   iterate 3 refine s_ ?_
   refine aL_X rfl rfl (aU_ rfl rfl (.inr ⟨va_, rfl, rfl⟩) g_ va_ (qX_ sx sy) ?_); rintro _ _ ⟨rfl, rfl⟩
   refine s_ ?_
   refine aa_ ?_
   refine cd_ (fun hc7 => ?_) (fun hc7 => ?_)
   ·refine rr_ ?_
    refine s_ ?_
    refine aa_ ?_
    refine af_ ?_
    refine er_ σ ?_
    exact ⟨by rw [decide_eq_false]; intro h; rw [h, hy] at hx; exact hc7 (Option.some.inj hx).symm, rfl⟩
   ·refine ae_ ?_
    refine r_ ?_
    iterate 2 refine s_ ?_
    refine aa_ ?_
    refine aC_ (ι := Nat) (i := k) (k + 1) ?_ ?_ ?_ ?_
    ·omega
    ·exact ⟨by omega, by rw [ax_ hx, ax_ hy, he, hc7]⟩
    ·exact cv_
    ·exact sub_
  ·refine an_ ?_
   refine ad_ ?_
   refine ad_ ?_
   refine aj_ ?_
   refine rr_ ?_
   refine s_ ?_
   refine aa_ ?_
   refine af_ ?_
   refine er_ σ ?_
   exact ⟨by rw [decide_eq_true]; rwa [List.take_of_length_le (by omega), List.take_of_length_le (by omega)] at he, rfl⟩
theorem tc_ {a b : List Seen} {ta tb : Bool} {σ : Store} (hA : ∀ x ∈ a, SeenSm x) (hB : ∀ x ∈ b, SeenSm x) (hla : a.length ≤ 1000000) (hlb : b.length ≤ 1000000) : ai_ Tryz.prog 84 [.sl 3 (a.map az_) ta, .sl 3 (b.map az_) tb] σ fun v σ' => v = vB (decide (a = b)) ∧ σ = σ' := by
 refine en_ Tryz.func84 Tryz.ntmps84 Tryz.results84 ?_
 refine rr_ ?_
 refine s_ ?_
 refine aa_ ?_
 refine rr_ ?_
 iterate 2 refine s_ ?_
 refine x_ g_ va_ (kf_ hA hB hla hlb) ?_; rintro _ _ ⟨rfl, rfl⟩
 refine s_ ?_
 refine aa_ ?_
 refine af_ ?_
 refine er_ σ ?_
 exact ⟨rfl, rfl⟩
theorem pr_ {a b : Obj'} {σ : Store} (hA : ObjSm a) (hB : ObjSm b) : ai_ Tryz.prog 35 [sObj a, sObj b] σ fun v σ' => v = vB (decide (a = b)) ∧ σ = σ' := by
 have n1 := hA.nc; have n2 := hA.ns; have n3 := hB.nc; have n4 := hB.ns
 refine en_ Tryz.func35 Tryz.ntmps35 Tryz.results35 ?_
 refine rr_ ?_
 refine bx_ fun o2 ho2 => ?_
 repeat (rw [ac_] at ho2; obtain ⟨_, ho2⟩ := ho2)
 refine bx_ fun o3 ho3 => ?_
 repeat (rw [ac_] at ho3; obtain ⟨_, ho3⟩ := ho3)
 refine s_ ?_
 refine aa_ ?_
 refine rr_ ?_
 iterate 4 refine s_ ?_
 refine x_ g_ va_ (tc_ hA.ctx hB.ctx (by omega) (by omega)) ?_; rintro _ _ ⟨rfl, rfl⟩
 refine s_ ?_
 refine gt_ ?_
 refine gt_ ?_
 refine gt_ ?_
 refine gt_ ?_
 refine cE_ rfl rfl v_ rfl (fun hb => av_ (by rfl) (by rfl) (.inr ⟨by rfl, by rfl, by rfl⟩) g_ cg_ (lp_ (by omega) (by omega))) ?_
 iterate 2 refine s_ ?_
 refine aa_ ?_
 refine af_ ?_
 refine er_ σ ?_
 refine ⟨?_, rfl⟩
 congr 2
 rw [Bool.eq_iff_iff]
 cases a; cases b
 simp
def bO_ (a b : Obj') : Bool := decide ((ba_ a b).2 = 0) && decide (a = (ba_ a b).1)
theorem qT_ {a b : Obj'} {σ : Store} (ha : ObjSm a) (hB : ObjSm b) (hm : ObjSm (ba_ a b).1) : ai_ Tryz.prog 42 [sObj a, sObj b] σ fun v σ' => v = vB (bO_ a b) ∧ σ = σ' := by
 obtain ⟨q, hq⟩ : ∃ q, ba_ a b = q := ⟨_, rfl⟩
 have hc : bO_ a b = (decide (q.2 = 0) && decide (a = q.1)) := by rw [bO_, hq]
 rw [hq] at hm
 rw [hc]
 refine en_ Tryz.func42 Tryz.ntmps42 Tryz.results42 ?_
 refine rr_ ?_
 refine bx_ fun o2 ho2 => ?_
 repeat (rw [ac_] at ho2; obtain ⟨_, ho2⟩ := ho2)
 refine bx_ fun o3 ho3 => ?_
 repeat (rw [ac_] at ho3; obtain ⟨_, ho3⟩ := ho3)
 refine s_ ?_
 refine aa_ ?_
 refine rr_ ?_
 iterate 2 refine s_ ?_
 refine x_ g_ va_ (pm_ ha hB) ?_; rintro _ _ ⟨rfl, rfl⟩
 rw [hq]
 iterate 3 refine s_ ?_
 refine lc_ fun o5 ho5 => ?_
 repeat (rw [ac_] at ho5; obtain ⟨_, ho5⟩ := ho5)
 refine st_ ?_
 refine s_ ?_
 refine aa_ ?_
 refine rr_ ?_
 iterate 3 refine s_ ?_
 refine gt_ ?_
 refine gt_ ?_
 refine cE_ rfl rfl v_ rfl (fun hb => av_ (by rfl) (by rfl) (.inr ⟨by rfl, by rfl, by rfl⟩) g_ cg_ (pr_ ha hm)) ?_
 iterate 2 refine s_ ?_
 refine aa_ ?_
 refine af_ ?_
 refine er_ σ ?_
 exact ⟨rfl, rfl⟩
theorem f5_ {a b : Obj'} {σ : Store} (ha : ObjSm a) (hB : ObjSm b) (hm : ObjSm (ba_ a b).1) : ai_ Tryz.prog 27 [sObj a, sObj b] σ fun v σ' => v = vB (bO_ a b) ∧ σ = σ' := by
 obtain ⟨q, hq⟩ : ∃ q, ba_ a b = q := ⟨_, rfl⟩
 have hc : bO_ a b = (decide (q.2 = 0) && decide (a = q.1)) := by rw [bO_, hq]
 rw [hq] at hm
 rw [hc]
 refine en_ Tryz.func27 Tryz.ntmps27 Tryz.results27 ?_
 refine rr_ ?_
 refine bx_ fun o2 ho2 => ?_
 repeat (rw [ac_] at ho2; obtain ⟨_, ho2⟩ := ho2)
 refine bx_ fun o3 ho3 => ?_
 repeat (rw [ac_] at ho3; obtain ⟨_, ho3⟩ := ho3)
 refine s_ ?_
 refine aa_ ?_
 refine rr_ ?_
 iterate 2 refine s_ ?_
 refine x_ g_ va_ (mX_ ha hB) ?_; rintro _ _ ⟨rfl, rfl⟩
 rw [hq]
 iterate 3 refine s_ ?_
 refine lc_ fun o5 ho5 => ?_
 repeat (rw [ac_] at ho5; obtain ⟨_, ho5⟩ := ho5)
 refine st_ ?_
 refine s_ ?_
 refine aa_ ?_
 refine rr_ ?_
 iterate 3 refine s_ ?_
 refine gt_ ?_
 refine gt_ ?_
 refine cE_ rfl rfl v_ rfl (fun hb => av_ (by rfl) (by rfl) (.inr ⟨by rfl, by rfl, by rfl⟩) g_ cg_ (gc_ ha hm)) ?_
 iterate 2 refine s_ ?_
 refine aa_ ?_
 refine af_ ?_
 refine er_ σ ?_
 exact ⟨rfl, rfl⟩
def dw_ (x : Seen) : Nat := 16 + 16 * x.more.length
def fSib (x : Sib) : Nat := 64 + x.value.size
def kT_ (o : Obj') : Nat := (o.ctx.map dw_).sum + (o.sibs.map fSib).sum
theorem i4_ {α : Type} {f : α → Nat} {c : Nat} : ∀ {l : List α}, (∀ x ∈ l, f x ≤ c) → (l.map f).sum ≤ c * l.length
 |[], _ => by simp
 |x :: l, h => by
  have h1 := i4_ (l := l) fun y hy => h y (.tail _ hy)
  have h2 := h x (.head _)
  simp only [List.map_cons, List.sum_cons, List.length_cons, Nat.mul_add, Nat.mul_one]; omega
theorem ff_ {α : Type} {f : α → Nat} {l : List α} {k : Nat} {x : α} (hx : l[k]? = some x) : ((l.take (k + 1)).map f).sum = ((l.take k).map f).sum + f x := by
 rw [ax_ hx, List.map_append, List.sum_append]; simp
theorem et_ {o : Obj'} (ho : ObjSm o) (i j : Nat) : ((o.ctx.take i).map dw_).sum ≤ 16000016000 ∧ ((o.sibs.take j).map fSib).sum ≤ 1000064000 := by
 have h1 := i4_ (f := dw_) (c := 16000016) (l := o.ctx.take i) fun x hx => by have := (ho.ctx x (List.mem_of_mem_take hx)).more; unfold dw_; omega
 have h2 := i4_ (f := fSib) (c := 1000064) (l := o.sibs.take j) fun x hx => by have := (ho.sibs x (List.mem_of_mem_take hx)).value; unfold fSib; omega
 have h3 := ho.nc; have h4 := ho.ns
 rw [List.length_take] at h1 h2
 refine ⟨Nat.le_trans h1 (Nat.le_trans (Nat.mul_le_mul_left _ (show min i o.ctx.length ≤ 1000 by omega)) (by decide)), Nat.le_trans h2 (Nat.le_trans (Nat.mul_le_mul_left _ (show min j o.sibs.length ≤ 1000 by omega)) (by decide))⟩
theorem v7_ {o : Obj'} {σ : Store} (ho : ObjSm o) : ai_ Tryz.prog 91 [sObj o] σ fun v σ' => v = vInt (kT_ o) ∧ σ = σ' := by
 have hnc := ho.nc; have hns := ho.ns
 refine en_ Tryz.func91 Tryz.ntmps91 Tryz.results91 ?_
 refine rr_ ?_
 refine bx_ fun o1 ho1 => ?_
 repeat (rw [ac_] at ho1; obtain ⟨_, ho1⟩ := ho1)
 refine s_ ?_
 refine aa_ ?_
 refine rr_ ?_
 refine s_ ?_
 refine aa_ ?_
 refine ab_ ?_
 refine rr_ ?_
 iterate 4 refine s_ ?_
 refine aa_ ?_
 refine ag_ ?_
 refine ah_ (ι := Nat) (fun k => o.ctx.length - k) (fun k => k ≤ o.ctx.length) (fun k => [(1, .ref o1 0), (3, vInt (((o.ctx.take k).map dw_).sum : Nat)), (9, .sl 3 (o.ctx.map az_) false), (10, vInt o.ctx.length), (11, vInt k)]) (fun k => (σ.set o1 (.cells (sObj o).cells))) 0 ?_ ?_ ?_ ?_
 ·exact Nat.zero_le _
 ·exact cv_
 ·exact Store.Wk.refl _
 rintro k hk
 simp only [ak_, am_]
 refine rr_ ?_
 refine s_ ?_
 refine aa_ ?_
 refine ab_ ?_
 refine cd_ (fun hc3 => ?_) (fun hc3 => ?_)
 ·refine ae_ ?_
  refine ab_ ?_
  refine ag_ ?_
  refine ab_ ?_
  obtain ⟨x, hx⟩ := aq_ (l := o.ctx) (k := k) (by omega)
  have hb := (et_ ho k 0).1
  have hxm := (ho.ctx x (List.mem_of_getElem? hx)).more
  have hs : (((o.ctx.take k).map dw_).sum : Int) + (16 + 16 * (x.more.length : Int)) = ((((o.ctx.take (k + 1)).map dw_).sum : Nat) : Int) := by rw [ff_ hx]; simp [dw_]
  have R := hx
  refine r_ ?_
  iterate 2 refine s_ ?_
  refine lc_ fun o5 ho5 => ?_
  repeat (rw [ac_] at ho5; obtain ⟨_, ho5⟩ := ho5)
  refine st_ ?_
  refine aa_ ?_
  have R := hs
  refine r_ ?_
  iterate 8 refine s_ ?_
  refine aa_ ?_
  refine r_ ?_
  iterate 2 refine s_ ?_
  refine aa_ ?_
  refine aC_ (ι := Nat) (i := k) (k + 1) ?_ ?_ ?_ ?_
  ·omega
  ·show k + 1 ≤ o.ctx.length; omega
  ·have R := hs; exact cv_
  ·exact sub_
 ·refine an_ ?_
  refine ad_ ?_
  refine ad_ ?_
  refine aj_ ?_
  refine ab_ ?_
  refine ab_ ?_
  have hfull : o.ctx.take k = o.ctx := List.take_of_length_le (by omega)
  have hb1 := (et_ ho k 0).1
  rw [hfull] at hb1 ⊢
  refine r_ ?_
  iterate 4 refine s_ ?_
  refine aa_ ?_
  have hz : (((o.ctx.map dw_).sum + ((o.sibs.take 0).map fSib).sum : Nat) : Int) = ((o.ctx.map dw_).sum : Nat) := by simp
  refine ag_ ?_
  refine ah_ (ι := Nat) (fun k => o.sibs.length - k) (fun k => k ≤ o.sibs.length) (fun k => [(3, vInt (((o.ctx.map dw_).sum + ((o.sibs.take k).map fSib).sum : Nat))), (24, .sl 5 (o.sibs.map sSib) false), (25, vInt o.sibs.length), (26, vInt k)]) (fun k => (σ.set o1 (.cells (sObj o).cells))) 0 ?_ ?_ ?_ ?_
  ·exact Nat.zero_le _
  ·have R := hz; exact cv_
  ·exact Store.Wk.refl _
  rintro k hk
  simp only [ak_, am_]
  refine rr_ ?_
  refine s_ ?_
  refine aa_ ?_
  refine ab_ ?_
  refine cd_ (fun hc8 => ?_) (fun hc8 => ?_)
  ·refine ae_ ?_
   refine ab_ ?_
   refine ag_ ?_
   refine ab_ ?_
   obtain ⟨x, hx⟩ := aq_ (l := o.sibs) (k := k) (by omega)
   have hb := (et_ ho 0 k).2
   have hxm := (ho.sibs x (List.mem_of_getElem? hx)).value
   have hs : (((o.ctx.map dw_).sum + ((o.sibs.take k).map fSib).sum : Nat) : Int) + (64 + (x.value.size : Int)) = (((o.ctx.map dw_).sum + ((o.sibs.take (k + 1)).map fSib).sum : Nat) : Int) := by rw [ff_ hx]; simp [fSib]; omega
   have R := hx
   refine r_ ?_
   iterate 2 refine s_ ?_
   refine lc_ fun o7 ho7 => ?_
   repeat (rw [ac_] at ho7; obtain ⟨_, ho7⟩ := ho7)
   refine st_ ?_
   refine aa_ ?_
   have R := hs
   refine r_ ?_
   iterate 7 refine s_ ?_
   refine aa_ ?_
   refine r_ ?_
   iterate 2 refine s_ ?_
   refine aa_ ?_
   refine aC_ (ι := Nat) (i := k) (k + 1) ?_ ?_ ?_ ?_
   ·omega
   ·show k + 1 ≤ o.sibs.length; omega
   ·have R := hs; exact cv_
   ·exact sub_
  ·refine an_ ?_
   refine ad_ ?_
   refine ad_ ?_
   refine aj_ ?_
   refine ab_ ?_
   have hfull2 : o.sibs.take k = o.sibs := List.take_of_length_le (by omega)
   rw [hfull2]
   refine r_ ?_
   iterate 2 refine s_ ?_
   refine aa_ ?_
   refine af_ ?_
   refine er_ σ ?_
   exact ⟨rfl, rfl⟩
theorem tO_ {o : Obj'} {σ : Store} (ho : ObjSm o) : ai_ Tryz.prog 70 [sObj o] σ fun v σ' => v = vInt (kT_ o) ∧ σ = σ' := by
 have hnc := ho.nc; have hns := ho.ns
 refine en_ Tryz.func70 Tryz.ntmps70 Tryz.results70 ?_
 refine rr_ ?_
 refine bx_ fun o1 ho1 => ?_
 repeat (rw [ac_] at ho1; obtain ⟨_, ho1⟩ := ho1)
 refine s_ ?_
 refine aa_ ?_
 refine rr_ ?_
 refine s_ ?_
 refine aa_ ?_
 refine ab_ ?_
 refine rr_ ?_
 refine s_ ?_
 refine aa_ ?_
 refine ag_ ?_
 refine ah_ (ι := Nat) (fun k => o.ctx.length - k) (fun k => k ≤ o.ctx.length) (fun k => [(1, .ref o1 0), (3, vInt (((o.ctx.take k).map dw_).sum : Nat)), (4, vInt k)]) (fun k => (σ.set o1 (.cells (sObj o).cells))) 0 ?_ ?_ ?_ ?_
 ·exact Nat.zero_le _
 ·exact cv_
 ·exact Store.Wk.refl _
 rintro k hk
 simp only [ak_, am_]
 refine ab_ ?_
 refine rr_ ?_
 iterate 5 refine s_ ?_
 refine aa_ ?_
 refine cd_ (fun hc3 => ?_) (fun hc3 => ?_)
 ·refine ae_ ?_
  refine ab_ ?_
  refine ag_ ?_
  obtain ⟨x, hx⟩ := aq_ (l := o.ctx) (k := k) (by omega)
  have hb := (et_ ho k 0).1
  have hxm := (ho.ctx x (List.mem_of_getElem? hx)).more
  have hs : (((o.ctx.take k).map dw_).sum : Int) + 16 + 16 * (x.more.length : Int) = ((((o.ctx.take (k + 1)).map dw_).sum : Nat) : Int) := by rw [ff_ hx]; simp [dw_]; omega
  have R := And.intro hx hs
  refine r_ ?_
  iterate 12 refine s_ ?_
  refine aa_ ?_
  refine r_ ?_
  iterate 3 refine s_ ?_
  refine aa_ ?_
  refine aC_ (ι := Nat) (i := k) (k + 1) ?_ ?_ ?_ ?_
  ·omega
  ·show k + 1 ≤ o.ctx.length; omega
  ·have R := hs; exact cv_
  ·exact sub_
 ·refine an_ ?_
  refine ad_ ?_
  refine ad_ ?_
  refine aj_ ?_
  refine ab_ ?_
  refine ab_ ?_
  have hfull : o.ctx.take k = o.ctx := List.take_of_length_le (by omega)
  have hb1 := (et_ ho k 0).1
  rw [hfull] at hb1 ⊢
  have hz : (((o.ctx.map dw_).sum + ((o.sibs.take 0).map fSib).sum : Nat) : Int) = ((o.ctx.map dw_).sum : Nat) := by simp
  refine r_ ?_
  refine s_ ?_
  refine aa_ ?_
  refine ag_ ?_
  refine ah_ (ι := Nat) (fun k => o.sibs.length - k) (fun k => k ≤ o.sibs.length) (fun k => [(1, .ref o1 0), (3, vInt (((o.ctx.map dw_).sum + ((o.sibs.take k).map fSib).sum : Nat))), (5, vInt k)]) (fun k => (σ.set o1 (.cells (sObj o).cells))) 0 ?_ ?_ ?_ ?_
  ·exact Nat.zero_le _
  ·have R := hz; exact cv_
  ·exact Store.Wk.refl _
  rintro k hk
  simp only [ak_, am_]
  refine ab_ ?_
  refine rr_ ?_
  iterate 5 refine s_ ?_
  refine aa_ ?_
  refine cd_ (fun hc7 => ?_) (fun hc7 => ?_)
  ·refine ae_ ?_
   refine ab_ ?_
   refine ag_ ?_
   obtain ⟨x, hx⟩ := aq_ (l := o.sibs) (k := k) (by omega)
   have hb := (et_ ho 0 k).2
   have hxm := (ho.sibs x (List.mem_of_getElem? hx)).value
   have hs : (((o.ctx.map dw_).sum + ((o.sibs.take k).map fSib).sum : Nat) : Int) + 64 + (x.value.size : Int) = (((o.ctx.map dw_).sum + ((o.sibs.take (k + 1)).map fSib).sum : Nat) : Int) := by rw [ff_ hx]; simp [fSib]; omega
   have R := And.intro hx hs
   refine r_ ?_
   iterate 11 refine s_ ?_
   refine aa_ ?_
   refine r_ ?_
   iterate 3 refine s_ ?_
   refine aa_ ?_
   refine aC_ (ι := Nat) (i := k) (k + 1) ?_ ?_ ?_ ?_
   ·omega
   ·show k + 1 ≤ o.sibs.length; omega
   ·have R := hs; exact cv_
   ·exact sub_
  ·refine an_ ?_
   refine ad_ ?_
   refine ad_ ?_
   refine aj_ ?_
   refine ab_ ?_
   have hfull2 : o.sibs.take k = o.sibs := List.take_of_length_le (by omega)
   rw [hfull2]
   refine r_ ?_
   iterate 2 refine s_ ?_
   refine aa_ ?_
   refine af_ ?_
   refine er_ σ ?_
   exact ⟨rfl, rfl⟩
def obj1 (c : List Seen) (s : Sib) : Obj' := ⟨c, [s]⟩
def newS (c : List Seen) (s : Sib) : Obj' × Int := if gH_ s = true ∧ hasS c s.node s.n = false then (if (addS c s.node s.n).2 = 0 then (obj1 (addS c s.node s.n).1 s, 0) else (⟨[], []⟩, (addS c s.node s.n).2)) else (⟨[], []⟩, 1)
theorem vL_ {c : List Seen} {s : Sib} {t : Bool} {σ : Store} (hA : ∀ x ∈ c, SeenSm x) (hn : c.length ≤ 100000) (hs : SibSm s) : ai_ Tryz.prog 31 [.sl 3 (c.map az_) t, sSib s] σ fun v σ' => v = .tup [sObj (newS c s).1, vInt (newS c s).2] ∧ σ = σ' := by
 have hnd := hs.node
 refine en_ Tryz.func31 Tryz.ntmps31 Tryz.results31 ?_
 refine rr_ ?_
 refine bx_ fun o3 ho3 => ?_
 repeat (rw [ac_] at ho3; obtain ⟨_, ho3⟩ := ho3)
 refine lc_ fun o4 ho4 => ?_
 repeat (rw [ac_] at ho4; obtain ⟨_, ho4⟩ := ho4)
 refine s_ ?_
 refine aa_ ?_
 refine ab_ ?_
 refine rr_ ?_
 refine s_ ?_
 refine x_ g_ va_ (fa_ hA (by omega)) ?_; rintro _ _ ⟨rfl, rfl⟩
 iterate 2 refine s_ ?_
 refine gf_ ?_
 refine bt_ rfl rfl v_ rfl (fun hb => av_ (by rfl) (by rfl) (.inr ⟨by rfl, by rfl, by rfl⟩) g_ cg_ (mW_ hs)) ?_
 refine gf_ ?_
 iterate 2 refine s_ ?_
 refine gf_ ?_
 refine gf_ ?_
 refine gf_ ?_
 refine bt_ rfl rfl v_ rfl (fun hb => av_ (by rfl) (by rfl) (.inr ⟨by rfl, by rfl, by rfl⟩) g_ cg_ (mU_ hA (by omega))) ?_
 refine s_ ?_
 refine aa_ ?_
 refine cd_ (fun hc1 => ?_) (fun hc1 => ?_)
 ·refine rr_ ?_
  refine s_ ?_
  refine st_ ?_
  refine s_ ?_
  refine aa_ ?_
  refine af_ ?_
  rw [show newS c s = (⟨[], []⟩, 1) from by
   unfold newS
   by_cases h : gH_ s = true ∧ hasS c s.node s.n = false
   ·rw [if_pos h]
    have hk : b5_ c = false := by
     rcases hc1 with (h' | h') | h'
     ·exact h'
     ·rw [h.1] at h'; cases h'
     ·rw [h.2] at h'; cases h'
    have : (addS c s.node s.n).2 = 1 := by
     unfold addS
     split
     ·simp [bB_, hk]
     ·rfl
    rw [if_neg (by rw [this]; decide), this]
   ·rw [if_neg h]]
  exact aw_ (v := .tup [sObj ⟨[], []⟩, vInt 1]) (v' := .tup [.agg [vNil, vNil], vInt 1]) va_ (.tup _ _ rfl (fun i hi hi' => by match i, hi with | 0, _ => exact .agg _ _ rfl (fun j hj hj' => by match j, hj with | 0, _ => exact .nil _ _ | 1, _ => exact .nil _ _) | 1, _ => exact .refl _)) sub_ ⟨rfl, rfl⟩
 ·have hnew : newS c s = if (addS c s.node s.n).2 = 0 then (obj1 (addS c s.node s.n).1 s, 0) else (⟨[], []⟩, (addS c s.node s.n).2) := by rw [newS, if_pos ⟨hc1.1.2, hc1.2⟩]
  refine ae_ ?_
  refine rr_ ?_
  iterate 3 refine s_ ?_
  refine x_ g_ va_ (vJ_ hA hn hnd) ?_; rintro _ _ ⟨rfl, rfl⟩
  iterate 5 refine s_ ?_
  refine aa_ ?_
  refine ab_ ?_
  refine rr_ ?_
  iterate 2 refine s_ ?_
  refine aa_ ?_
  refine cd_ (fun hc4 => ?_) (fun hc4 => ?_)
  ·refine rr_ ?_
   iterate 2 refine s_ ?_
   refine st_ ?_
   refine s_ ?_
   refine aa_ ?_
   refine af_ ?_
   rw [hnew, if_neg hc4]
   exact aw_ (v := .tup [sObj ⟨[], []⟩, vInt (addS c s.node s.n).2]) (v' := .tup [.agg [vNil, vNil], vInt (addS c s.node s.n).2]) va_ (.tup _ _ rfl (fun i hi hi' => by match i, hi with | 0, _ => exact .agg _ _ rfl (fun j hj hj' => by match j, hj with | 0, _ => exact .nil _ _ | 1, _ => exact .nil _ _) | 1, _ => exact .refl _)) sub_ ⟨rfl, rfl⟩
  ·refine ae_ ?_
   refine rr_ ?_
   iterate 2 refine s_ ?_
   refine ao_ rfl rfl rfl g_ g_ rfl rfl h_ c2_ (by decide) ?_
   refine s_ ?_
   refine st_ ?_
   refine s_ ?_
   refine aa_ ?_
   refine af_ ?_
   rw [hnew, if_pos hc4]
   exact aw_ (v := .tup [.agg [.sl 3 ((addS c s.node s.n).1.map az_) false, .sl 5 [sSib s] false], vInt 0]) (v' := .tup [.agg [.sl 3 ((addS c s.node s.n).1.map az_) false, .sl 5 [sSib s] true], vInt 0]) va_ (.tup _ _ rfl (fun i hi hi' => by match i, hi with | 0, _ => exact .agg _ _ rfl (fun j hj hj' => by match j, hj with | 0, _ => exact .refl _ | 1, _ => exact .sl1 _ _ _) | 1, _ => exact .refl _)) sub_ ⟨rfl, rfl⟩
end Go.Proofs.YtcaflcpcbcneiaaGreat
end

section
set_option linter.all false
set_option maxRecDepth 100000
namespace Go.Ab
open Go.RowKit (Below)
section
variable {P : Program} {o : Oper} {α : Operand → AVal} {σ : Store} {Kk : AVal → Store → Prop}
theorem pY_ {κ : K} {sz : Nat} {tight : Bool} {v : Value} (h : Rv κ (.sl sz [] tight) v) : ∃ a cap, v = .slice a 0 cap ∧ Rv κ (.sl sz [] false) v := by
 generalize hl : ([] : List AVal) = l at h
 cases h with
 |slNil => exact ⟨_, _, rfl, .slNil _ _⟩
 |slE => exact ⟨_, _, rfl, .slE _ _ _⟩
 |sl _ _ _ b off cap vals hcap ht hsz hc hv => subst hl; exact ⟨_, _, rfl, .sl sz [] false b off cap vals hcap (by simp) hsz hc hv⟩
theorem gj_ {t yt : TypeId} {x y : Operand} {sz e : Nat} {tight : Bool} (ho : o.op = .binOp .eql t x y yt) (hse : aA_ P t = some e) (hx : α x = .sl sz [] tight) (hy : α y = .lit (.slice none 0 0)) (hk : ∀ b, Kk (.lit (.bool b)) σ) : AOp P o α σ Kk := by
 obtain ⟨dst, op, ty, pos, after, guard⟩ := o
 obtain rfl : op = _ := ho
 intro κ ev hI hxx
 have hvx := hxx x (by simp [Op.operands])
 have hvy := hxx y (by simp [Op.operands])
 rw [hx] at hvx
 rw [hy] at hvy
 have hts : P.underlying t = some (.slice e) := by
  unfold aA_ at hse
  split at hse
  ·rename_i e' he'; obtain rfl := Option.some.inj hse; exact he'
  ·cases hse
 obtain ⟨a, cap, hev, _⟩ := pY_ hvx
 have hb : (binOp .eql t (ev x) (ev y)).run P κ.w = .ok (.bool a.isNone) κ.w := by
  have e1 : binOp .eql t (ev x) (ev y) = (do pure (.bool (← Op.equal t (ev x) (ev y)))) := by
   rw [hev, hvy.litInv]
   rfl
  rw [e1, hev, hvy.litInv]
  simp only [Sem.run_bind, run_equal_slice_nil κ.w t e a 0 cap hts, Result.andThen_ok, Sem.run_pure]
 have hg : (eqGuard .eql t x y (ev x) (ev y)).run P κ.w = .ok () κ.w := bE_ (by rintro u v ⟨h1, _⟩; rw [hev] at h1; cases h1) (by intro h1; rw [hev] at h1; cases h1)
 refine bj_ (s := do eqGuard .eql t x y (ev x) (ev y); binOp .eql t (ev x) (ev y)) (by simp [execOp]) ⟨.bool a.isNone, κ.w, ?_, κ, .lit (.bool a.isNone), σ, rfl, .refl κ, hI, .lit _, hk _⟩
 simp only [Sem.run_bind, hg, Result.andThen_ok, hb]
end
end Go.Ab
namespace Go.Proofs.YtcaflcpcbcneiaaGreat
open Go.Ab
def live (x : Sib) : Bool := !x.gone
structure DlI (L : List Sib) (j i : Nat) (M : List Sib) : Prop where
 len : M.length = L.length
 tk : M.take i = (L.take j).filter live
 cnt : ((L.take j).filter live).length = i
 lt : i < j
 le : j ≤ L.length
 dr : M.drop j = L.drop j
theorem DlI.put {L : List Sib} {j i : Nat} {M : List Sib} {x : Sib} (h : DlI L j i M) (hx : L[j]? = some x) (hg : x.gone = false) : DlI L (j + 1) (i + 1) (M.set i x) := by
 have h1 := (List.getElem?_eq_some_iff.1 hx).1
 have hk := h.lt
 have hl := h.len
 have hf : (L.take (j + 1)).filter live = (L.take j).filter live ++ [x] := by rw [ax_ hx, List.filter_append]; simp [live, hg]
 refine ⟨by rw [List.length_set]; exact hl, ?_, by rw [hf, List.length_append, h.cnt]; rfl, by omega, by omega, ?_⟩
 ·rw [hf, ← h.tk, ax_ (show (M.set i x)[i]? = some x by rw [List.getElem?_set_self]; omega), List.take_set_of_le (Nat.le_refl _)]
 ·rw [List.drop_set_of_lt (by omega)]
  have := congrArg (List.drop 1) h.dr
  rwa [List.drop_drop, List.drop_drop] at this
theorem DlI.skip {L : List Sib} {j i : Nat} {M : List Sib} {x : Sib} (h : DlI L j i M) (hx : L[j]? = some x) (hg : x.gone = true) : DlI L (j + 1) i M := by
 have h1 := (List.getElem?_eq_some_iff.1 hx).1
 have hk := h.lt
 have hf : (L.take (j + 1)).filter live = (L.take j).filter live := by rw [ax_ hx, List.filter_append]; simp [live, hg]
 refine ⟨h.len, by rw [hf]; exact h.tk, by rw [hf]; exact h.cnt, by omega, by omega, ?_⟩
 have := congrArg (List.drop 1) h.dr
 rwa [List.drop_drop, List.drop_drop] at this
end Go.Proofs.YtcaflcpcbcneiaaGreat
end

section
set_option linter.all false
set_option maxRecDepth 100000
namespace Go.Ab
section
variable {P : Program} {o : Oper} {α : Operand → AVal} {σ : Store} {Kk : AVal → Store → Prop}
theorem d5_ {s x : Operand} {t e : TypeId} {sz by_ : Nat} {t1 t2 : Bool}
  (ho : o.op = .call { callee := .builtin .append, args := #[s, x], argTypes := #[t, t] }) (hse : aA_ P t = some e) (hte : a6_ P e = some (sz, by_))
  (hs : α s = .sl sz [] t1) (hx : α x = .sl sz [] t2) (hk : Kk (.sl sz [] t1) σ) : AOp P o α σ Kk := by
 obtain ⟨dst, op, ty, pos, after, guard⟩ := o
 obtain rfl : op = .call { callee := .builtin .append, args := #[s, x], argTypes := #[t, t] } := ho
 intro κ ev hI hxx
 obtain ⟨i, z, hi, hz, hisz, hiby, hzs, hsz, hby⟩ := aZ_ hte
 have hts := bb_ hse
 have hvs := hxx s (by simp [Op.operands, Call.operands])
 have hvx := hxx x (by simp [Op.operands, Call.operands])
 have hsrc0 : ASrc P sz t (α x) [] := sV_ hts (by rw [hx]; rfl) (by simp)
 obtain ⟨vs, _, hvsr, hsrc⟩ := hsrc0.spec hvx
 have hv0 : vs = [] := List.eq_nil_of_length_eq_zero (by rw [← hvsr.1]; rfl)
 subst hv0
 rw [hs] at hvs
 obtain ⟨a, cap, hev, hw⟩ := pY_ hvs
 refine bj_ (s := Builtin.append_ #[t, t] ty #[ev s, ev x]) (by simp [execOp, resolve, invoke, builtin]) ⟨ev s, κ.w, ?_, κ, .sl sz [] t1, σ, rfl, .refl κ, hI, hvs, hk⟩
 rw [hev]
 exact dt_ hts hi hisz hsrc a 0 cap (Nat.zero_le _)
end
section
variable {P : Program} {ops : Array Oper} {s0 : Store} {Kk : Env → Store → Prop} {o : Oper} {i : Nat} {r : DT} {e : Env} {σ : Store}
theorem uZ_ {d j dj : Nat} {a : AVal} {b : Bool} (ho : ops[i]? = some o) (hg : o.guard = some (j, true)) (hj : (ops[j]?).bind (·.dst) = some dj) (he : e dj = .lit (.bool b)) (hd : o.dst = some d) (ha : ∀ s, b = true → aval P o.op (aev e) s = some a)
  (h : dRun P ops s0 Kk r (upd e d (gval b a)) σ) : dRun P ops s0 Kk (.any i r) e σ := by
 have hw := bG_ hg hj he
 cases b with
 |true => exact ⟨o, a, ho, fun s => .inl ⟨hw, ha s rfl⟩, by rw [hd]; exact h⟩
 |false => exact ⟨o, .lit undef, ho, fun s => .inr ⟨hw, rfl⟩, by rw [hd]; exact h⟩
end
end Go.Ab
namespace Go.Proofs.YtcaflcpcbcneiaaGreat
open Go.Ab
instance : Inhabited Itm := ⟨⟨ByteArray.empty, ⟨[], []⟩⟩⟩
instance : Inhabited Mnt := ⟨⟨ByteArray.empty, 0⟩⟩
theorem al_ {p : Prop} (h : p := by simp [go_sem, alow, fJ_, ev_]) : p := h
theorem r7_ (l : List Mnt) : ∀ y ∈ l.map sMnt, y.cells.length = 2 := hQ_ sMnt (fun x => rfl) l
theorem pt_ (l : List Mnt) : ∀ y ∈ l.map sMnt, ∀ c ∈ y.cells, c.one = true := fY_ sMnt (fun x c hc => by simp [AVal.cells] at hc; rcases hc with rfl | rfl <;> rfl) l
theorem py_ {A D X W : List AVal} (hw : W.length = X.length + D.length) : aput (aput (A ++ W) A.length X) (A.length + X.length) D = A ++ (X ++ D) := by
 unfold aput
 rw [List.take_left, List.drop_append, List.drop_of_length_le (Nat.le_add_right _ _), List.nil_append, show A.length + X.length - A.length = X.length by omega]
 have e1 : (A ++ X ++ W.drop X.length).take (A.length + X.length) = A ++ X := List.take_left' (by simp)
 have e2 : (A ++ X ++ W.drop X.length).drop (A.length + X.length + D.length) = [] := List.drop_of_length_le (by simp; omega)
 rw [e1, e2, List.append_nil, List.append_assoc]
theorem mT_ {A D X W : List AVal} (hw : W.length = X.length) : aput (aput (A ++ D ++ W) (A.length + X.length) D) A.length X = A ++ (X ++ D) := by
 have e0 : aput (A ++ D ++ W) (A.length + X.length) D = A ++ ((D ++ W).take X.length ++ D) := by
  unfold aput
  rw [List.append_assoc A D W, List.take_append, List.take_of_length_le (Nat.le_add_right _ _), show A.length + X.length - A.length = X.length by omega, List.drop_of_length_le (by simp; omega), List.append_nil, List.append_assoc]
 rw [e0]
 unfold aput
 rw [List.take_left, List.drop_append, List.drop_of_length_le (Nat.le_add_right _ _), List.nil_append, show A.length + X.length - A.length = X.length by omega, List.drop_left' (by simp; omega), List.append_assoc]
theorem fP_ {σ : Store} {ov o' : Nat} (h : (σ.del ov).heap o' = none) : o' = ov ∨ σ.heap o' = none := by
 rcases Nat.decEq o' ov with hh | hh
 ·rw [Store.del_ne _ hh] at h; exact .inr h
 ·exact .inl hh
theorem nf_ {σ : Store} {ov o' : Nat} {l : List Nat} {y : AObj} (h : (σ.del ov).heap o' = none) : SubX (ov :: l) σ ((σ.del ov).set o' y) := ⟨fun i x hi hx => by
 have hi' : i ≠ ov := fun hh => hi (by rw [hh]; exact .head _)
 have h2 : (σ.del ov).heap i = some x := by rw [Store.del_ne _ hi']; exact hx
 rw [Store.set_ne _ _ (fun hh => by rw [hh, h] at h2; cases h2)]; exact h2, fun t n ht => by rw [Store.set_tok]; exact ht⟩
theorem kW_ {σ : Store} {o ov o' : Nat} {y : AObj} (h : (σ.del ov).heap o' = none) : SubX [o, ov] σ (((σ.del ov).delO (some o)).set o' y) := ⟨fun i x hi hx => by
 have hi' : i ≠ ov := fun hh => hi (by rw [hh]; exact .tail _ (.head _))
 have hio : i ≠ o := fun hh => hi (by rw [hh]; exact .head _)
 have h2 : (σ.del ov).heap i = some x := by rw [Store.del_ne _ hi']; exact hx
 rw [Store.set_ne _ _ (fun hh => by rw [hh, h] at h2; cases h2)]
 show ((σ.del ov).del o).heap i = some x
 rw [Store.del_ne _ hio]; exact h2, fun t n ht => by rw [Store.set_tok]; exact ht⟩
theorem c5_ {σ : Store} {o i : Nat} {x y : AObj} (ho : σ.heap o = none) (h : σ.heap i = some y) : (σ.set o x).heap i = some y := by
 rw [Store.set_ne _ _ (fun hh => by rw [hh, ho] at h; cases h)]; exact h
theorem fe_ {σ : Store} {o p i : Nat} {x z y : AObj} (ho : σ.heap o = none) (hp : (σ.set o x).heap p = none) (h : σ.heap i = some y) : ((σ.set o x).set p z).heap i = some y := c5_ hp (c5_ ho h)
theorem jp_ {S : Store} {o i : Nat} {y : AObj} (ho : S.heap o = none) (h : S.heap i = some y) : i ∉ [o] := fun hh => by rw [List.mem_singleton.1 hh, ho] at h; cases h
theorem pq_ {S : Store} {o p i : Nat} {x y : AObj} (ho : S.heap o = none) (hp : (S.set o x).heap p = none) (h : S.heap i = some y) : i ∉ [o, p] := fun hh => by
 rcases List.mem_cons.1 hh with e | e
 ·rw [e, ho] at h; cases h
 ·have h2 := c5_ (x := x) ho h
  rw [List.mem_singleton.1 e, hp] at h2; cases h2
theorem gu_ {σ S τ : Store} {l : List Nat} {o' : Nat} (hS : ∀ i y, σ.heap i = some y → i ∉ l ∧ S.heap i = some y) (ht : ∀ t n, σ.tok t = some n → S.tok t = some n) (ho' : o' ∈ l ∨ S.heap o' = none) (hs : SubX l S τ) : σ.Wk (τ.del o') := Store.Sub.wk ⟨fun i y hy => by
 obtain ⟨h1, h2⟩ := hS i y hy
 have hne : i ≠ o' := fun hh => by
  rcases ho' with h | h
  ·exact h1 (by rw [hh]; exact h)
  ·rw [hh, h] at h2; cases h2
 rw [Store.del_ne _ hne]; exact hs.1 i y h1 h2, fun t n h => hs.2 t n (ht t n h)⟩
def LoK {α : Type} (key : α → ByteArray) (l : List α) (s : ByteArray) (i : Nat) : Prop := ∀ m y, m < i → l[m]? = some y → sLt (key y) s = true
def HiK {α : Type} (key : α → ByteArray) (l : List α) (s : ByteArray) (j : Nat) : Prop := ∀ m y, j ≤ m → l[m]? = some y → sLt (key y) s = false
theorem ib_ {α : Type} {key : α → ByteArray} {l : List α} (h : cn_ key l) {i j : Nat} {x y : α} (hij : i < j) (hx : l[i]? = some x) (hy : l[j]? = some y) : sLt (key x) (key y) = true := by
 obtain ⟨hi, rfl⟩ := List.getElem?_eq_some_iff.1 hx
 obtain ⟨hj, rfl⟩ := List.getElem?_eq_some_iff.1 hy
 exact List.pairwise_iff_getElem.1 h i j hi hj hij
theorem hb_ {α : Type} {key : α → ByteArray} {l : List α} {s : ByteArray} {k : Nat} {x : α} (h : cn_ key l) (hx : l[k]? = some x) (hlt : cmpS (key x) s < 0) : LoK key l s (k + 1) := fun m y hm hy => by
 have hlt' := g4_.1 hlt
 rcases Nat.lt_or_eq_of_le (Nat.le_of_lt_succ hm) with h1 | h1
 ·exact bs_ (ib_ h h1 hy hx) hlt'
 ·rw [h1, hx] at hy; obtain rfl := Option.some.inj hy; exact hlt'
theorem g8_ {α : Type} {key : α → ByteArray} {l : List α} {s : ByteArray} {k : Nat} {x : α} (h : cn_ key l) (hx : l[k]? = some x) (hge : 0 ≤ cmpS (key x) s) : HiK key l s k := fun m y hm hy => by
 have hge' : sLt (key x) s = false := by
  cases hh : sLt (key x) s with
  |false => rfl
  |true => have := g4_.2 hh; omega
 rcases Nat.lt_or_eq_of_le hm with h1 | h1
 ·cases hk : sLt (key y) s with
  |false => rfl
  |true => rw [bs_ (ib_ h h1 hx hy) hk] at hge'; cases hge'
 ·rw [← h1, hx] at hy; obtain rfl := Option.some.inj hy; exact hge'
theorem km_ {α : Type} {key : α → ByteArray} {l : List α} {s : ByteArray} {k : Nat} (hk : k ≤ l.length) (h1 : LoK key l s k) (h2 : HiK key l s k) : lowK key s l = k := lC_ h1 hk fun y hy => h2 k y (Nat.le_refl _) hy
def atK {α : Type} (key : α → ByteArray) (l : List α) (s : ByteArray) : Bool := (l[lowK key s l]?).any fun y => decide (key y = s)
theorem j0_ {α : Type} {key : α → ByteArray} {l : List α} {s : ByteArray} {k : Nat} {x : α} (hk : lowK key s l = k) (hx : k < l.length → l[k]? = some x) : (decide (k < l.length) && decide (cmpS (key x) s = 0)) = atK key l s := by
 unfold atK
 rw [hk]
 by_cases h : k < l.length
 ·rw [hx h, decide_eq_true h, Bool.true_and]
  simp only [Option.any_some, decide_eq_decide]
  exact hw_
 ·rw [decide_eq_false h, Bool.false_and, List.getElem?_eq_none (by omega)]; rfl
theorem hr_ {α : Type} {key : α → ByteArray} {l : List α} {s : ByteArray} (h : atK key l s = true) : lowK key s l < l.length := by
 unfold atK at h
 by_cases hl : lowK key s l < l.length
 ·exact hl
 ·rw [List.getElem?_eq_none (by omega)] at h; cases h
theorem jm_ {α : Type} {key : α → ByteArray} {x : α} {l : List α} (hr : cn_ key l) (h : atK key l (key x) = true) : insK key x l = l.set (lowK key (key x) l) x := by
 have h' : (l[lowK key (key x) l]?).any (fun y => decide (key y = key x)) = true := h
 rw [ly_ hr, if_pos h']
theorem lA_ {α : Type} {key : α → ByteArray} {x : α} {l : List α} (hr : cn_ key l) (h : atK key l (key x) = false) : insK key x l = l.take (lowK key (key x) l) ++ x :: l.drop (lowK key (key x) l) := by
 have h' : ¬ (l[lowK key (key x) l]?).any (fun y => decide (key y = key x)) = true := by unfold atK at h; rw [h]; simp
 rw [ly_ hr, if_neg h']
end Go.Proofs.YtcaflcpcbcneiaaGreat
end
