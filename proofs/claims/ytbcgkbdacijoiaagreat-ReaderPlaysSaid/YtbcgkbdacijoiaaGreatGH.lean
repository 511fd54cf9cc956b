/-
  The program's values of two objects: the greater one, where a dot's value stands, what another object lets be; The reference's objects merged; The library's sort and compaction of values, of a row that grew; objects merged; Values of one dot taken once: the library's CompactFunc, of a row that is written; The program's objects merged; Objects: covering, size, one write's object; the program's and the reference's; Objects without values that are gone: the library's Clone and DeleteFunc; Objects: what must come, whatever the arguments are; A scope through which the code goes without a jump; a label. Own work (an AI agent).
-/
import Derived.Test.YtbcgkbdacijoiaaGreatGG
import Derived.Test.YtbcgkbdacijoiaaGreatGF
import Derived.Shelf.SlSortCmp.NoneTotal
import Derived.Test.YtbcgkbdacijoiaaGreatGD
import Derived.Scope

section
set_option linter.all false
set_option maxRecDepth 100000
namespace Go.Proofs.YtbcgkbdacijoiaaGreat
open Go.Ab

theorem or3_c {a b c : Int} {t : Bool} {σ : Store} : ACalls Tryz.prog 273 [.sl 1 [vInt a, vInt b, vInt c] t] σ fun v σ' => v = vInt (if a ≠ 0 then a else if b ≠ 0 then b else c) ∧ σ = σ' := by
  refine ACalls_of Tryz.func273 rfl Tryz.ntmps273 (congrArg Array.toList Tryz.results273) (by simp only [List.length_cons, List.length_nil]; decide) ?_; simp only [envOf_cons, envOf_nil, Nat.reduceAdd]
  refine awp_seq ?_
  refine awp_region (by kernel_rfl) ?_
  (refine aL_S rfl rfl v_ ?_)
  refine aL_nil ?_
  refine awp_seq ?_
  refine awp_region (by kernel_rfl) ?_
  (refine aL_S rfl rfl v_ ?_)
  refine aL_nil ?_
  refine awp_seq ?_
  refine awp_seq ?_
  refine awp_region (by kernel_rfl) ?_
  iterate 3 (refine aL_S rfl rfl v_ ?_)
  refine aL_nil ?_
  refine awp_block ?_
  refine awp_loop_env (ι := Nat) (fun k => 3 - k) (fun k => k ≤ 3 ∧ (1 ≤ k → a = 0) ∧ (2 ≤ k → b = 0) ∧ (3 ≤ k → c = 0)) (fun k => [(3, vInt 0), (6, .sl 1 [vInt a, vInt b, vInt c] t), (7, vInt 3), (8, vInt k)]) (fun k => σ) 0 ?_ ?_ ?_ ?_
  · exact ⟨Nat.zero_le _, fun h => by omega, fun h => by omega, fun h => by omega⟩
  · exact cv_
  · exact sub_
  rintro k ⟨hk, h1, h2, h3⟩
  simp only [envL_cons, envL_nil]
  refine awp_seq ?_
  refine awp_region (by kernel_rfl) ?_
  (refine aL_S rfl rfl v_ ?_)
  refine aL_nil ?_
  refine awp_seq ?_
  refine awp_cond v_ (fun hc3 => ?_) (fun hc3 => ?_)
  · replace hc3 := nm_ hc3
    refine awp_skip ?_
    refine awp_seq ?_
    refine awp_block ?_
    refine awp_seq ?_
    skip
    obtain ⟨x, hxk, hx0, hx1, hx2⟩ : ∃ x, [vInt a, vInt b, vInt c][k]? = some (vInt x) ∧ (k = 0 → x = a) ∧ (k = 1 → x = b) ∧ (k = 2 → x = c) := by
      match k, (show k < 3 by omega) with
      | 0, _ => exact ⟨a, rfl, fun _ => rfl, (fun h => by cases h), fun h => by cases h⟩
      | 1, _ => exact ⟨b, rfl, (fun h => by cases h), (fun _ => rfl), fun h => by cases h⟩
      | 2, _ => exact ⟨c, rfl, (fun h => by cases h), (fun h => by cases h), fun _ => rfl⟩
    have R := hxk
    refine awp_region (by kernel_rfl) ?_
    iterate 3 (refine aL_S rfl rfl v_ ?_)
    refine aL_nil ?_
    refine awp_seq ?_
    refine awp_region (by kernel_rfl) ?_
    iterate 3 (refine aL_S rfl rfl v_ ?_)
    refine aL_nil ?_
    refine awp_cond v_ (fun hc5 => ?_) (fun hc5 => ?_)
    · replace hc5 := nm_ hc5
      refine awp_seq ?_
      refine awp_region (by kernel_rfl) ?_
      iterate 2 (refine aL_S rfl rfl v_ ?_)
      refine aL_nil ?_
      refine awp_ret ?_
      refine aEnd_ret (σ' := σ) v_ sub_ ?_
      refine ⟨?_, rfl⟩
      rcases Nat.lt_or_ge k 1 with h | h
      · obtain rfl := hx0 (by omega)
        rw [if_pos hc5]
      · rw [if_neg (by rw [h1 h]; simp)]
        rcases Nat.lt_or_ge k 2 with h' | h'
        · obtain rfl := hx1 (by omega)
          rw [if_pos hc5]
        · obtain rfl := hx2 (by omega)
          rw [if_neg (by rw [h2 h']; simp)]
    · replace hc5 := nm_ hc5
      have hs1 : a = 0 := by rcases Nat.lt_or_ge k 1 with h | h; exact (hx0 (by omega)) ▸ hc5; exact h1 h
      have hs2 : 2 ≤ k + 1 → b = 0 := fun h => by rcases Nat.lt_or_ge k 2 with h' | h'; exact (hx1 (by omega)) ▸ hc5; exact h2 h'
      have hs3 : 3 ≤ k + 1 → c = 0 := fun h => (hx2 (by omega)) ▸ hc5
      refine awp_skip ?_
      refine awp_region (by kernel_rfl) ?_
      iterate 2 (refine aL_S rfl rfl v_ ?_)
      refine aL_nil ?_
      refine aNext (ι := Nat) (i := k) (k + 1) ?_ ?_ ?_ ?_
      · omega
      · exact ⟨by omega, fun _ => hs1, fun h => hs2 h, fun h => hs3 h⟩
      · exact cv_
      · exact sub_
  · replace hc3 := nm_ hc3
    refine awp_exit ?_
    refine aThen_exit ?_
    refine aThen_exit ?_
    refine aBlock_hit ?_
    refine awp_seq ?_
    refine awp_region (by kernel_rfl) ?_
    iterate 2 (refine aL_S rfl rfl v_ ?_)
    refine aL_nil ?_
    refine awp_ret ?_
    refine aEnd_ret (σ' := σ) v_ sub_ ?_
    refine ⟨?_, rfl⟩
    rw [if_neg (by rw [h1 (by omega)]; simp), if_neg (by rw [h2 (by omega)]; simp), h3 (by omega)]
theorem cmpV {a b : Sib} {g : Int} (hg : g < 0 ↔ (a.gone = false ∧ b.gone = true)) : ((if cmpI a.time b.time ≠ 0 then cmpI a.time b.time else if cmpS a.value b.value ≠ 0 then cmpS a.value b.value else g) < 0) ↔ ltV a b = true := by
  rw [ltV_iff]
  unfold cmpI cmpS
  by_cases h1 : a.time < b.time
  · simp [h1]
  · by_cases h2 : b.time < a.time
    · have : a.time ≠ b.time := by omega
      simp [h1, h2, this]
    · have : a.time = b.time := by omega
      cases h3 : sLt a.value b.value with
      | true => simp [this]
      | false => by_cases h4 : a.value = b.value <;> simp [this, h4, hg]
theorem gr_yes {a b : Sib} {g : Int} (hg : g < 0 ↔ (a.gone = false ∧ b.gone = true)) (h : (if ¬cmpI a.time b.time = 0 then cmpI a.time b.time else if ¬cmpS a.value b.value = 0 then cmpS a.value b.value else g) < 0) : grS a b = b := by
  rw [grS, if_pos ((cmpV hg).1 h)]
theorem gr_no {a b : Sib} {g : Int} (hg : g < 0 ↔ (a.gone = false ∧ b.gone = true)) (h : 0 ≤ (if ¬cmpI a.time b.time = 0 then cmpI a.time b.time else if ¬cmpS a.value b.value = 0 then cmpS a.value b.value else g)) : grS a b = a := by
  rw [grS, if_neg fun k => by
    have := (cmpV hg).2 k
    have e : (if cmpI a.time b.time ≠ 0 then cmpI a.time b.time else if cmpS a.value b.value ≠ 0 then cmpS a.value b.value else g) = (if ¬cmpI a.time b.time = 0 then cmpI a.time b.time else if ¬cmpS a.value b.value = 0 then cmpS a.value b.value else g) := rfl
    omega]
theorem greater_c {a b : Sib} {σ : Store} : ACalls Tryz.prog 213 [sSib a, sSib b] σ fun v σ' => v = sSib (grS a b) ∧ σ = σ' := by
  refine ACalls_of Tryz.func213 rfl Tryz.ntmps213 (congrArg Array.toList Tryz.results213) (by simp only [List.length_cons, List.length_nil]; decide) ?_; simp only [envOf_cons, envOf_nil, Nat.reduceAdd]
  refine awp_seq ?_
  refine awp_region (by kernel_rfl) ?_
  refine aL_box rfl rfl rfl v_ rfl g_ fun o2 ho2 => ?_
  repeat (rw [none_set_iff] at ho2; obtain ⟨_, ho2⟩ := ho2)
  refine aL_box rfl rfl rfl v_ rfl g_ fun o3 ho3 => ?_
  repeat (rw [none_set_iff] at ho3; obtain ⟨_, ho3⟩ := ho3)
  refine aL_alloc rfl rfl rfl g_ gl_ fun o4 ho4 => ?_
  repeat (rw [none_set_iff] at ho4; obtain ⟨_, ho4⟩ := ho4)
  refine aL_nil ?_
  refine awp_seq ?_
  refine awp_region (by kernel_rfl) ?_
  (refine aL_S rfl rfl v_ ?_)
  refine aL_nil ?_
  refine awp_seq ?_
  refine awp_seq ?_
  refine awp_region (by kernel_rfl) ?_
  iterate 2 (refine aL_S rfl rfl v_ ?_)
  refine aL_nil ?_
  refine awp_cond v_ (fun hc2 => ?_) (fun hc2 => ?_)
  · replace hc2 := nm_ hc2
    refine awp_region (by kernel_rfl) ?_
    (refine aL_S rfl rfl v_ ?_)
    refine aL_nil ?_
    refine awp_seq ?_
    refine awp_seq ?_
    refine awp_draw (.op 0 0 (.op 1 0 (.op 2 0 (.op 3 0 (.op 5 0 (.op 6 0 (.op 7 0 (.op 8 0 (.op 10 0 (.op 4 1 (.op 9 1 (.op 11 1 (.op 12 1 (.op 13 0 .nil)))))))))))))) Tryz.mixed (by kernel_rfl) ?_
    iterate 9 (refine dR_S o_ (by rfl) (by rfl) v_ ?_)
    refine dR_X o_ (by rfl) (by rfl) (AOp_use (by rfl) (by rfl) (.inr ⟨by rfl, by rfl, by rfl⟩) g_ va_ (intCompare_c) ?_); rintro _ _ ⟨rfl, rfl⟩; refine ⟨sub_, ?_⟩
    refine dR_X o_ (by rfl) (by rfl) (AOp_use (by rfl) (by rfl) (.inr ⟨by rfl, by rfl, by rfl⟩) g_ va_ (strCompare_c) ?_); rintro _ _ ⟨rfl, rfl⟩; refine ⟨sub_, ?_⟩
    refine dR_X o_ (by rfl) (by rfl) (AOp_buildSlice' (by rfl) g_ g_ (by rfl) (by rfl) h_ c2_ (by decide) ⟨sub_, ?_⟩)
    refine dR_X o_ (by rfl) (by rfl) (AOp_use (by rfl) (by rfl) (.inr ⟨by rfl, by rfl, by rfl⟩) g_ va_ (or3_c (a := cmpI a.time b.time) (b := cmpS a.value b.value)) ?_); rintro _ _ ⟨rfl, rfl⟩; refine ⟨sub_, ?_⟩
    (refine dR_S o_ (by rfl) (by rfl) v_ ?_)
    refine dR_nil ?_
    refine awp_cond v_ (fun hc6 => ?_) (fun hc6 => ?_)
    · replace hc6 := nm_ hc6
      refine awp_seq ?_
      refine awp_region (by kernel_rfl) ?_
      (refine aL_S rfl rfl v_ ?_)
      refine aL_store rfl rfl rfl v_ v_ h_ g_ rfl g_ c_ (by rfl) le_ v_ ?_
      refine aL_nil ?_
      refine awp_ret ?_
      refine aEnd_ret (σ' := σ) v_ sub_ ?_
      exact ⟨by rw [gr_yes (by simp [hc2]) hc6], rfl⟩
    · replace hc6 := nm_ hc6
      refine awp_skip ?_
      refine awp_seq ?_
      refine awp_region (by kernel_rfl) ?_
      (refine aL_S rfl rfl v_ ?_)
      refine aL_store rfl rfl rfl v_ v_ h_ g_ rfl g_ c_ (by rfl) le_ v_ ?_
      refine aL_nil ?_
      refine awp_ret ?_
      refine aEnd_ret (σ' := σ) v_ sub_ ?_
      exact ⟨by rw [gr_no (by simp [hc2]) hc6], rfl⟩
  · replace hc2 := nm_ hc2
    refine awp_seq ?_
    refine awp_region (by kernel_rfl) ?_
    iterate 2 (refine aL_S rfl rfl v_ ?_)
    refine aL_nil ?_
    refine awp_cond v_ (fun hc4 => ?_) (fun hc4 => ?_)
    · replace hc4 := nm_ hc4
      refine awp_region (by kernel_rfl) ?_
      (refine aL_S rfl rfl v_ ?_)
      refine aL_nil ?_
      refine awp_seq ?_
      refine awp_seq ?_
      refine awp_draw (.op 0 0 (.op 1 0 (.op 2 0 (.op 3 0 (.op 5 0 (.op 6 0 (.op 7 0 (.op 8 0 (.op 10 0 (.op 4 1 (.op 9 1 (.op 11 1 (.op 12 1 (.op 13 0 .nil)))))))))))))) Tryz.mixed (by kernel_rfl) ?_
      iterate 9 (refine dR_S o_ (by rfl) (by rfl) v_ ?_)
      refine dR_X o_ (by rfl) (by rfl) (AOp_use (by rfl) (by rfl) (.inr ⟨by rfl, by rfl, by rfl⟩) g_ va_ (intCompare_c) ?_); rintro _ _ ⟨rfl, rfl⟩; refine ⟨sub_, ?_⟩
      refine dR_X o_ (by rfl) (by rfl) (AOp_use (by rfl) (by rfl) (.inr ⟨by rfl, by rfl, by rfl⟩) g_ va_ (strCompare_c) ?_); rintro _ _ ⟨rfl, rfl⟩; refine ⟨sub_, ?_⟩
      refine dR_X o_ (by rfl) (by rfl) (AOp_buildSlice' (by rfl) g_ g_ (by rfl) (by rfl) h_ c2_ (by decide) ⟨sub_, ?_⟩)
      refine dR_X o_ (by rfl) (by rfl) (AOp_use (by rfl) (by rfl) (.inr ⟨by rfl, by rfl, by rfl⟩) g_ va_ (or3_c (a := cmpI a.time b.time) (b := cmpS a.value b.value)) ?_); rintro _ _ ⟨rfl, rfl⟩; refine ⟨sub_, ?_⟩
      (refine dR_S o_ (by rfl) (by rfl) v_ ?_)
      refine dR_nil ?_
      refine awp_cond v_ (fun hc6 => ?_) (fun hc6 => ?_)
      · replace hc6 := nm_ hc6
        refine awp_seq ?_
        refine awp_region (by kernel_rfl) ?_
        (refine aL_S rfl rfl v_ ?_)
        refine aL_store rfl rfl rfl v_ v_ h_ g_ rfl g_ c_ (by rfl) le_ v_ ?_
        refine aL_nil ?_
        refine awp_ret ?_
        refine aEnd_ret (σ' := σ) v_ sub_ ?_
        exact ⟨by rw [gr_yes (by simp [hc2, hc4]) hc6], rfl⟩
      · replace hc6 := nm_ hc6
        refine awp_skip ?_
        refine awp_seq ?_
        refine awp_region (by kernel_rfl) ?_
        (refine aL_S rfl rfl v_ ?_)
        refine aL_store rfl rfl rfl v_ v_ h_ g_ rfl g_ c_ (by rfl) le_ v_ ?_
        refine aL_nil ?_
        refine awp_ret ?_
        refine aEnd_ret (σ' := σ) v_ sub_ ?_
        exact ⟨by rw [gr_no (by simp [hc2, hc4]) hc6], rfl⟩
    · replace hc4 := nm_ hc4
      refine awp_skip ?_
      refine awp_seq ?_
      refine awp_seq ?_
      refine awp_draw (.op 0 0 (.op 1 0 (.op 2 0 (.op 3 0 (.op 5 0 (.op 6 0 (.op 7 0 (.op 8 0 (.op 10 0 (.op 4 1 (.op 9 1 (.op 11 1 (.op 12 1 (.op 13 0 .nil)))))))))))))) Tryz.mixed (by kernel_rfl) ?_
      iterate 9 (refine dR_S o_ (by rfl) (by rfl) v_ ?_)
      refine dR_X o_ (by rfl) (by rfl) (AOp_use (by rfl) (by rfl) (.inr ⟨by rfl, by rfl, by rfl⟩) g_ va_ (intCompare_c) ?_); rintro _ _ ⟨rfl, rfl⟩; refine ⟨sub_, ?_⟩
      refine dR_X o_ (by rfl) (by rfl) (AOp_use (by rfl) (by rfl) (.inr ⟨by rfl, by rfl, by rfl⟩) g_ va_ (strCompare_c) ?_); rintro _ _ ⟨rfl, rfl⟩; refine ⟨sub_, ?_⟩
      refine dR_X o_ (by rfl) (by rfl) (AOp_buildSlice' (by rfl) g_ g_ (by rfl) (by rfl) h_ c2_ (by decide) ⟨sub_, ?_⟩)
      refine dR_X o_ (by rfl) (by rfl) (AOp_use (by rfl) (by rfl) (.inr ⟨by rfl, by rfl, by rfl⟩) g_ va_ (or3_c (a := cmpI a.time b.time) (b := cmpS a.value b.value)) ?_); rintro _ _ ⟨rfl, rfl⟩; refine ⟨sub_, ?_⟩
      (refine dR_S o_ (by rfl) (by rfl) v_ ?_)
      refine dR_nil ?_
      refine awp_cond v_ (fun hc6 => ?_) (fun hc6 => ?_)
      · replace hc6 := nm_ hc6
        refine awp_seq ?_
        refine awp_region (by kernel_rfl) ?_
        (refine aL_S rfl rfl v_ ?_)
        refine aL_store rfl rfl rfl v_ v_ h_ g_ rfl g_ c_ (by rfl) le_ v_ ?_
        refine aL_nil ?_
        refine awp_ret ?_
        refine aEnd_ret (σ' := σ) v_ sub_ ?_
        exact ⟨by rw [gr_yes (by simp [hc2, hc4]) hc6], rfl⟩
      · replace hc6 := nm_ hc6
        refine awp_skip ?_
        refine awp_seq ?_
        refine awp_region (by kernel_rfl) ?_
        (refine aL_S rfl rfl v_ ?_)
        refine aL_store rfl rfl rfl v_ v_ h_ g_ rfl g_ c_ (by rfl) le_ v_ ?_
        refine aL_nil ?_
        refine awp_ret ?_
        refine aEnd_ret (σ' := σ) v_ sub_ ?_
        exact ⟨by rw [gr_no (by simp [hc2, hc4]) hc6], rfl⟩
theorem rise_get {l : List Sib} (h : RiseD l) {j k : Nat} {x y : Sib} (hjk : j < k) (hj : l[j]? = some x) (hk : l[k]? = some y) : lessX x y = true := by
  obtain ⟨h1, rfl⟩ := List.getElem?_eq_some_iff.1 hj
  obtain ⟨h2, rfl⟩ := List.getElem?_eq_some_iff.1 hk
  exact List.pairwise_iff_getElem.1 h j k h1 h2 hjk
theorem lessX_trans {x y z : Sib} (h1 : lessX x y = true) (h2 : lessX y z = true) : lessX x z = true := lessD_trans h1 h2
theorem cmpD_zero {s : ByteArray} {n : Int} {s' : ByteArray} {n' : Int} : cmpD s n s' n' = 0 ↔ s = s' ∧ n = n' := by
  unfold cmpD cmpS cmpI
  cases h1 : sLt s s' with
  | true => simp; intro h; rw [h, sLt_irrefl] at h1; cases h1
  | false =>
    by_cases h2 : s = s' <;> simp [h2]
    by_cases h3 : n < n' <;> by_cases h4 : n' < n <;> simp [h3, h4] <;> omega
def LoD (l : List Sib) (x : Sib) (i : Nat) : Prop := ∀ m y, m < i → l[m]? = some y → lessX y x = true
def HiD (l : List Sib) (x : Sib) (j : Nat) : Prop := ∀ m y, j ≤ m → l[m]? = some y → lessX y x = false
theorem bsearchD_c {l : List Sib} {s : Sib} {t : Bool} {σ : Store} (hr : RiseD l) (hn : l.length ≤ 1000000) :
    ACalls Tryz.prog 212 [.sl 5 (l.map sSib) t, sSib s, .lit (.func (.func 131) #[] #[])] σ fun v σ' => (∃ r : Nat, ∃ b : Bool, v = .tup [vInt r, vB b] ∧ r ≤ l.length ∧ LoD l s r ∧ HiD l s r ∧ (b = true ↔ ∃ y, l[r]? = some y ∧ Dot y s)) ∧ σ = σ' := by
  refine ACalls_of Tryz.func212 rfl Tryz.ntmps212 (congrArg Array.toList Tryz.results212) (by simp only [List.length_cons, List.length_nil]; decide) ?_; simp only [envOf_cons, envOf_nil, Nat.reduceAdd]
  refine awp_seq ?_
  refine awp_region (by kernel_rfl) ?_
  refine aL_box rfl rfl rfl v_ rfl g_ fun o4 ho4 => ?_
  repeat (rw [none_set_iff] at ho4; obtain ⟨_, ho4⟩ := ho4)
  iterate 2 (refine aL_S rfl rfl v_ ?_)
  refine aL_nil ?_
  refine awp_seq ?_
  refine awp_region (by kernel_rfl) ?_
  iterate 3 (refine aL_S rfl rfl v_ ?_)
  refine aL_nil ?_
  refine awp_seq ?_
  refine awp_region (by kernel_rfl) ?_
  iterate 3 (refine aL_S rfl rfl v_ ?_)
  refine aL_nil ?_
  refine awp_seq ?_
  refine awp_block ?_
  refine awp_loop_env (ι := Nat × Nat) (fun ⟨i, j⟩ => j - i) (fun ⟨i, j⟩ => i ≤ j ∧ j ≤ l.length ∧ LoD l s i ∧ HiD l s j) (fun ⟨i, j⟩ => [(0, .sl 5 (l.map sSib) t), (4, .ref o4 0), (2, .lit (.func (.func 131) #[] #[])), (8, vInt l.length), (9, vInt i), (10, vInt j)]) (fun ⟨i, j⟩ => (σ.set o4 (.cells (sSib s).cells))) (0, l.length) ?_ ?_ ?_ ?_
  · exact ⟨Nat.zero_le _, Nat.le_refl _, (fun m x h => by omega), fun m x h hx => by rw [List.getElem?_eq_none (by omega)] at hx; cases hx⟩
  · exact cv_
  · exact Store.Wk.refl _
  rintro ⟨i, j⟩ ⟨hij, hj, hlo, hhi⟩
  simp only [envL_cons, envL_nil]
  refine awp_seq ?_
  refine awp_seq ?_
  refine awp_region (by kernel_rfl) ?_
  iterate 3 (refine aL_S rfl rfl v_ ?_)
  refine aL_nil ?_
  refine awp_cond v_ (fun hc3 => ?_) (fun hc3 => ?_)
  · replace hc3 := nm_ hc3
    refine awp_skip ?_
    refine awp_block ?_
    refine awp_seq ?_
    have hdiv : ((i : Int) + j) / 2 ^ 1 = (((i + j) / 2 : Nat) : Int) := by omega
    obtain ⟨x, hx⟩ := get_some (l := l) (k := (i + j) / 2) (by omega)
    have R := And.intro wrap_u64_m hdiv
    refine awp_region (by kernel_rfl) ?_
    iterate 7 (refine aL_S rfl rfl v_ ?_)
    refine aL_nil ?_
    refine awp_seq ?_
    have R := hx
    refine awp_draw (.op 0 0 (.op 1 0 (.op 2 0 (.op 3 0 (.op 4 0 (.op 5 0 (.op 6 1 (.op 7 0 .nil)))))))) Tryz.mixed (by kernel_rfl) ?_
    iterate 6 (refine dR_S o_ (by rfl) (by rfl) v_ ?_)
    refine dR_X o_ (by rfl) (by rfl) (AOp_use (by rfl) (by rfl) (.inr ⟨va_, by rfl, by rfl⟩) g_ va_ (order_c) ?_); rintro _ _ ⟨rfl, rfl⟩; refine ⟨sub_, ?_⟩
    (refine dR_S o_ (by rfl) (by rfl) v_ ?_)
    refine dR_nil ?_
    refine awp_cond v_ (fun hc5 => ?_) (fun hc5 => ?_)
    · replace hc5 := nm_ hc5
      have hlt := cmp_less'.1 hc5
      have hlo' : LoD l s ((i + j) / 2 + 1) := fun m y hm hy => by
        rcases Nat.lt_or_eq_of_le (Nat.le_of_lt_succ hm) with h | h
        · exact lessX_trans (rise_get hr h hy hx) hlt
        · rw [h, hx] at hy; obtain rfl := Option.some.inj hy; exact hlt
      refine awp_region (by kernel_rfl) ?_
      iterate 3 (refine aL_S rfl rfl v_ ?_)
      refine aL_nil ?_
      refine aNext (ι := Nat × Nat) (i := ⟨i, j⟩) ((i + j) / 2 + 1, j) ?_ ?_ ?_ ?_
      · show j - ((i + j) / 2 + 1) < j - i; omega
      · exact ⟨by show (i + j) / 2 + 1 ≤ j; omega, hj, hlo', hhi⟩
      · have R := hdiv; exact cv_
      · exact sub_
    · replace hc5 := nm_ hc5
      skip
      have hge := cmp_less.1 hc5
      have hhi' : HiD l s ((i + j) / 2) := fun m y hm hy => by
        rcases Nat.lt_or_eq_of_le hm with h | h
        · cases k : lessX y s with
          | false => rfl
          | true => have := lessX_trans (rise_get hr h hx hy) k; rw [lessX, hge] at this; cases this
        · rw [← h, hx] at hy; obtain rfl := Option.some.inj hy; exact hge
      refine awp_region (by kernel_rfl) ?_
      iterate 2 (refine aL_S rfl rfl v_ ?_)
      refine aL_nil ?_
      refine aNext (ι := Nat × Nat) (i := ⟨i, j⟩) (i, (i + j) / 2) ?_ ?_ ?_ ?_
      · show (i + j) / 2 - i < j - i; omega
      · exact ⟨by show i ≤ (i + j) / 2; omega, by show (i + j) / 2 ≤ l.length; omega, hlo, hhi'⟩
      · have R := hdiv; exact cv_
      · exact sub_
  · replace hc3 := nm_ hc3
    refine awp_exit ?_
    refine aThen_exit ?_
    refine aThen_exit ?_
    refine aBlock_hit ?_
    refine awp_seq ?_
    skip
    obtain rfl : i = j := by omega
    obtain ⟨x, hx⟩ := get_if l i
    have R := hx
    refine awp_draw (.op 0 0 (.op 1 0 (.op 2 0 (.op 3 0 (.op 4 0 (.op 5 0 (.op 6 0 (.op 7 0 (.op 8 0 (.op 9 0 (.op 10 0 (.op 11 1 (.op 12 0 (.op 13 0 (.op 14 0 (.op 15 0 .nil)))))))))))))))) Tryz.mixed (by kernel_rfl) ?_
    iterate 5 (refine dR_S o_ (by rfl) (by rfl) v_ ?_)
    refine dR_GT o_ (by rfl) (by rfl) v_ (by rfl) vg_ ?_
    refine dR_GT o_ (by rfl) (by rfl) v_ (by rfl) vg_ ?_
    refine dR_GT o_ (by rfl) (by rfl) v_ (by rfl) vg_ ?_
    refine dR_GT o_ (by rfl) (by rfl) v_ (by rfl) vg_ ?_
    refine dR_GT o_ (by rfl) (by rfl) v_ (by rfl) vg_ ?_
    refine dR_GT o_ (by rfl) (by rfl) v_ (by rfl) vg_ ?_
    refine dR_GTX o_ (by rfl) (by rfl) v_ (by rfl) sub_ (fun hb => AOp_useV (by rfl) (by rfl) (.inr ⟨vh_, by rfl, by rfl⟩) g_ cg_ (order_c)) ?_
    refine dR_GT o_ (by rfl) (by rfl) v_ (by rfl) vg_ ?_
    iterate 3 (refine dR_S o_ (by rfl) (by rfl) v_ ?_)
    refine dR_nil ?_
    refine awp_ret ?_
    refine aEnd_ret (σ' := σ) v_ sub_ ?_
    refine ⟨⟨i, _, rfl, hj, hlo, hhi, ?_⟩, rfl⟩
    rw [Bool.and_eq_true, decide_eq_true_eq, decide_eq_true_eq, cmpD_zero]
    constructor
    · rintro ⟨h1, h2⟩; exact ⟨x, hx (by omega), h2⟩
    · rintro ⟨y, hy, h2⟩
      have h1 := (List.getElem?_eq_some_iff.1 hy).1
      rw [hx h1] at hy
      obtain rfl := Option.some.inj hy
      exact ⟨by omega, h2⟩
theorem fnd_search {l : List Sib} {s : Sib} {r : Nat} {b : Bool} (hr : RiseD l) (hlo : LoD l s r) (hhi : HiD l s r) (hb : b = true ↔ ∃ y, l[r]? = some y ∧ Dot y s) : (b = true → ∃ y, l[r]? = some y ∧ fnd l s.node s.n = some y) ∧ (b = false → fnd l s.node s.n = none) := by
  refine ⟨fun h => ?_, fun h => ?_⟩
  · obtain ⟨y, hy, hd⟩ := hb.1 h
    refine ⟨y, hy, ?_⟩
    have := fnd_uq hr.uq (List.mem_of_getElem? hy)
    rwa [hd.1, hd.2] at this
  · refine fnd_none.2 fun z hz hd => ?_
    obtain ⟨m, hm⟩ := List.mem_iff_getElem?.1 hz
    rcases Nat.lt_trichotomy m r with k | k | k
    · exact lessD_ne (hlo m z k hm) hd
    · subst k
      have := hb.2 ⟨z, hm, hd⟩
      rw [h] at this; cases this
    · obtain ⟨y, hy⟩ := get_some (l := l) (k := r) (by have := (List.getElem?_eq_some_iff.1 hm).1; omega)
      have h1 := rise_get hr k hy hm
      have h2 := hhi r y (Nat.le_refl _) hy
      unfold lessX at h1 h2
      rw [hd.1, hd.2, h2] at h1
      cases h1
set_option maxHeartbeats 1000000 in
theorem kept_c {o p : Obj'} {σ : Store} (ho : ObjSm o) (hp : ObjSm p) (hr : RiseD p.sibs) : ACalls Tryz.prog 129 [sObj o, sObj p] σ fun v σ' => v = .sl 5 ((keptA o p).map sSib) false ∧ σ = σ' := by
  have hns := ho.ns; have hnp := hp.ns; have hnc := hp.nc
  refine ACalls_of Tryz.func129 rfl Tryz.ntmps129 (congrArg Array.toList Tryz.results129) (by simp only [List.length_cons, List.length_nil]; decide) ?_; simp only [envOf_cons, envOf_nil, Nat.reduceAdd]
  refine awp_seq ?_
  refine awp_region (by kernel_rfl) ?_
  refine aL_box rfl rfl rfl v_ rfl g_ fun o2 ho2 => ?_
  repeat (rw [none_set_iff] at ho2; obtain ⟨_, ho2⟩ := ho2)
  refine aL_box rfl rfl rfl v_ rfl g_ fun o3 ho3 => ?_
  repeat (rw [none_set_iff] at ho3; obtain ⟨_, ho3⟩ := ho3)
  (refine aL_S rfl rfl v_ ?_)
  refine aL_nil ?_
  refine awp_seq ?_
  refine awp_region (by kernel_rfl) ?_
  refine aL_nilOwn 102 5 rfl rfl rfl (by rfl) fun k5 hk5 => ?_
  refine aL_nil ?_
  refine awp_seq ?_
  refine awp_seq ?_
  refine awp_region (by kernel_rfl) ?_
  iterate 4 (refine aL_S rfl rfl v_ ?_)
  refine aL_nil ?_
  refine awp_block ?_
  refine awp_loop_env (ι := Nat × Nat) (fun ⟨t, k⟩ => o.sibs.length - k) (fun ⟨t, k⟩ => k ≤ o.sibs.length ∧ σ.tok t = none) (fun ⟨t, k⟩ => [(3, .ref o3 0), (5, .own t 5 (((o.sibs.take k).filterMap (keptF p)).map sSib)), (11, .sl 5 (o.sibs.map sSib) false), (12, vInt o.sibs.length), (13, vInt k)]) (fun ⟨t, k⟩ => (((σ.newTok none t (102, 5)).set o2 (.cells (sObj o).cells)).set o3 (.cells (sObj p).cells))) (k5, 0) ?_ ?_ ?_ ?_
  · exact ⟨Nat.zero_le _, hk5⟩
  · exact cv_
  · exact Store.Wk.refl _
  rintro ⟨t, k⟩ ⟨hk, ht⟩
  simp only [envL_cons, envL_nil]
  refine awp_seq ?_
  refine awp_region (by kernel_rfl) ?_
  (refine aL_S rfl rfl v_ ?_)
  refine aL_nil ?_
  refine awp_seq ?_
  refine awp_cond v_ (fun hc3 => ?_) (fun hc3 => ?_)
  · replace hc3 := nm_ hc3
    refine awp_skip ?_
    refine awp_seq ?_
    refine awp_block ?_
    refine awp_seq ?_
    obtain ⟨x, hx⟩ := get_some (l := o.sibs) (k := k) (by omega)
    have hlen : ((o.sibs.take k).filterMap (keptF p)).length ≤ k := Nat.le_trans (List.length_filterMap_le ..) (by simp; omega)
    have hsx := ho.sibs x (List.mem_of_getElem? hx)
    have hnx := hsx.node
    have R := hx
    refine awp_region (by kernel_rfl) ?_
    iterate 2 (refine aL_S rfl rfl v_ ?_)
    refine aL_alloc rfl rfl rfl g_ gl_ fun o7 ho7 => ?_
    repeat (rw [none_set_iff] at ho7; obtain ⟨_, ho7⟩ := ho7)
    refine aL_store rfl rfl rfl v_ v_ h_ g_ rfl g_ c_ (by rfl) le_ v_ ?_
    refine aL_nil ?_
    refine awp_seq ?_
    refine awp_region (by kernel_rfl) ?_
    iterate 3 (refine aL_S rfl rfl v_ ?_)
    refine aL_X rfl rfl (AOp_use rfl rfl (.inr ⟨rfl, rfl, rfl⟩) g_ va_ (bsearchD_c hr (by omega)) ?_); rintro _ _ ⟨⟨r, b, rfl, h1, h2, h3, h4⟩, rfl⟩
    have hfs := fnd_search hr h2 h3 h4
    iterate 5 (refine aL_S rfl rfl v_ ?_)
    refine aL_nil ?_
    refine awp_block ?_
    refine awp_seq ?_
    refine awp_region (by kernel_rfl) ?_
    iterate 2 (refine aL_S rfl rfl v_ ?_)
    refine aL_nil ?_
    refine awp_cond v_ (fun hc6 => ?_) (fun hc6 => ?_)
    · replace hc6 := nm_ hc6
      obtain ⟨y, hy, hf⟩ := hfs.1 hc6
      have hrl := (List.getElem?_eq_some_iff.1 hy).1
      have hkf : keptF p x = some (grS x y) := by simp [keptF, hf]
      have hcov : ((o.sibs.take (k + 1)).filterMap (keptF p)).map sSib = ((o.sibs.take k).filterMap (keptF p)).map sSib ++ [sSib (grS x y)] := by rw [take_snoc hx, List.filterMap_append, List.map_append]; simp [hkf]
      have R := hy
      refine awp_draw (.op 0 0 (.op 1 0 (.op 2 0 (.op 3 0 (.op 4 0 (.op 5 0 (.op 6 0 (.op 7 1 (.op 8 1 (.op 9 2 (.op 10 0 .nil))))))))))) Tryz.mixed (by kernel_rfl) ?_
      iterate 7 (refine dR_S o_ (by rfl) (by rfl) v_ ?_)
      refine dR_X o_ (by rfl) (by rfl) (AOp_use (by rfl) (by rfl) (.inr ⟨by rfl, by rfl, by rfl⟩) g_ va_ (greater_c) ?_); rintro _ _ ⟨rfl, rfl⟩; refine ⟨sub_, ?_⟩
      refine dR_X o_ (by rfl) (by rfl) (AOp_buildSlice' (by rfl) g_ g_ (by rfl) (by rfl) h_ c2_ (by decide) ⟨sub_, ?_⟩)
      refine dR_T o_ (by rfl) (by rfl) (AOp_appendS (by rfl) g_ g_ (.inl ⟨_, va_, h_, rfl⟩) (.inl ⟨⟨_, g_⟩, .inl v_, c_⟩) (by simp; omega) fun k35 hk35 => ?_)
      (refine dR_S o_ (by rfl) (by rfl) v_ ?_)
      refine dR_nil ?_
      refine awp_region (by kernel_rfl) ?_
      iterate 2 (refine aL_S rfl rfl v_ ?_)
      refine aL_nil ?_
      refine aNext (ι := Nat × Nat) (i := ⟨t, k⟩) (k35, k + 1) ?_ ?_ ?_ ?_
      · show o.sibs.length - (k + 1) < o.sibs.length - k; omega
      · exact ⟨by show k + 1 ≤ o.sibs.length; omega, (newTok_none hk35).2⟩
      · have R := hcov; exact cv_
      · exact sub_
    · replace hc6 := nm_ hc6
      have hf := hfs.2 hc6
      refine awp_seq ?_
      refine awp_region (by kernel_rfl) ?_
      iterate 4 (refine aL_S rfl rfl v_ ?_)
      refine aL_X rfl rfl (AOp_use rfl rfl (.inr ⟨rfl, rfl, rfl⟩) g_ va_ (has_c hp.ctx (by omega)) ?_); rintro _ _ ⟨rfl, rfl⟩
      iterate 2 (refine aL_S rfl rfl v_ ?_)
      refine aL_nil ?_
      refine awp_cond v_ (fun hc8 => ?_) (fun hc8 => ?_)
      · replace hc8 := nm_ hc8
        have hkf : keptF p x = some x := by simp [keptF, hf, hc8]
        have hcov : ((o.sibs.take (k + 1)).filterMap (keptF p)).map sSib = ((o.sibs.take k).filterMap (keptF p)).map sSib ++ [sSib x] := by rw [take_snoc hx, List.filterMap_append, List.map_append]; simp [hkf]
        refine awp_region (by kernel_rfl) ?_
        iterate 2 (refine aL_S rfl rfl v_ ?_)
        refine aL_buildSlice rfl rfl rfl g_ g_ rfl rfl h_ c2_ (by decide) ?_
        refine aL_append rfl rfl rfl g_ g_ v_ h_ v_ c_ (by simp; omega) fun k46 hk46 => ?_
        (refine aL_S rfl rfl v_ ?_)
        refine aL_nil ?_
        refine awp_region (by kernel_rfl) ?_
        iterate 2 (refine aL_S rfl rfl v_ ?_)
        refine aL_nil ?_
        refine aNext (ι := Nat × Nat) (i := ⟨t, k⟩) (k46, k + 1) ?_ ?_ ?_ ?_
        · show o.sibs.length - (k + 1) < o.sibs.length - k; omega
        · exact ⟨by show k + 1 ≤ o.sibs.length; omega, (newTok_none hk46).2⟩
        · have R := hcov; exact cv_
        · exact sub_
      · replace hc8 := nm_ hc8
        have hkf : keptF p x = none := by simp [keptF, hf, hc8]
        have hcov : ((o.sibs.take (k + 1)).filterMap (keptF p)).map sSib = ((o.sibs.take k).filterMap (keptF p)).map sSib := by rw [take_snoc hx, List.filterMap_append, List.map_append]; simp [hkf]
        refine awp_skip ?_
        refine awp_region (by kernel_rfl) ?_
        iterate 2 (refine aL_S rfl rfl v_ ?_)
        refine aL_nil ?_
        refine aNext (ι := Nat × Nat) (i := ⟨t, k⟩) (t, k + 1) ?_ ?_ ?_ ?_
        · show o.sibs.length - (k + 1) < o.sibs.length - k; omega
        · exact ⟨by show k + 1 ≤ o.sibs.length; omega, ht⟩
        · have R := hcov; exact cv_
        · exact sub_
  · replace hc3 := nm_ hc3
    refine awp_exit ?_
    refine aThen_exit ?_
    refine aThen_exit ?_
    refine aBlock_hit ?_
    refine awp_seq ?_
    skip
    have hfin : (o.sibs.take k).filterMap (keptF p) = keptA o p := by rw [List.take_of_length_le (by omega)]; rfl
    refine awp_region (by kernel_rfl) ?_
    iterate 2 (refine aL_S rfl rfl v_ ?_)
    refine aL_nil ?_
    refine awp_ret ?_
    rw [← hfin]
    exact aEnd_retW (v := .sl 5 (((o.sibs.take k).filterMap (keptF p)).map sSib) false) (v' := .own t 5 (((o.sibs.take k).filterMap (keptF p)).map sSib)) va_ (.own1 _ _ _) sub_ ⟨rfl, rfl⟩
end Go.Proofs.YtbcgkbdacijoiaaGreat
end

section
set_option linter.all false
set_option maxRecDepth 100000
namespace Go.Proofs.YtbcgkbdacijoiaaGreat
open Go.Ab

theorem fnd_at {l : List Sib} {s : ByteArray} {n : Int} {r : Nat} {x : Sib} (hx : l[r]? = some x) (hd : x.node = s ∧ x.n = n) (hm : ∀ m y, m < r → l[m]? = some y → ¬ (y.node = s ∧ y.n = n)) : fnd l s n = some x :=
  find_at (r := r) hx (isDot_iff.2 hd) fun m y hmr hy => by
    cases h : isDot s n y with
    | false => rfl
    | true => exact absurd (isDot_iff.1 h) (hm m y hmr hy)
theorem rFind_c {l : List Sib} {s : ByteArray} {n : Int} {t : Bool} {σ : Store} (hn : l.length ≤ 1000000) : ACalls Tryz.prog 123 [.sl 5 (l.map sSib) t, sDot s n] σ fun v σ' => (∃ r : Int, v = vInt r ∧ (0 ≤ r → r < l.length ∧ ∃ y, l[r.toNat]? = some y ∧ fnd l s n = some y) ∧ (r < 0 → fnd l s n = none) ∧ -1 ≤ r) ∧ σ = σ' := by
  refine ACalls_of Tryz.func123 rfl Tryz.ntmps123 (congrArg Array.toList Tryz.results123) (by simp only [List.length_cons, List.length_nil]; decide) ?_; simp only [envOf_cons, envOf_nil, Nat.reduceAdd]
  refine awp_seq ?_
  refine awp_region (by kernel_rfl) ?_
  refine aL_box rfl rfl rfl v_ rfl g_ fun o3 ho3 => ?_
  repeat (rw [none_set_iff] at ho3; obtain ⟨_, ho3⟩ := ho3)
  (refine aL_S rfl rfl v_ ?_)
  refine aL_nil ?_
  refine awp_seq ?_
  refine awp_seq ?_
  refine awp_region (by kernel_rfl) ?_
  (refine aL_S rfl rfl v_ ?_)
  refine aL_nil ?_
  refine awp_block ?_
  refine awp_loop_env (ι := Nat) (fun k => l.length - k) (fun k => k ≤ l.length ∧ ∀ m y, m < k → l[m]? = some y → ¬ (y.node = s ∧ y.n = n)) (fun k => [(0, .sl 5 (l.map sSib) t), (3, .ref o3 0), (5, vInt k)]) (fun k => (σ.set o3 (.cells (sDot s n).cells))) 0 ?_ ?_ ?_ ?_
  · exact ⟨Nat.zero_le _, fun m y h => by omega⟩
  · exact cv_
  · exact Store.Wk.refl _
  rintro k ⟨hk, ha⟩
  simp only [envL_cons, envL_nil]
  refine awp_seq ?_
  refine awp_seq ?_
  refine awp_region (by kernel_rfl) ?_
  iterate 4 (refine aL_S rfl rfl v_ ?_)
  refine aL_nil ?_
  refine awp_cond v_ (fun hc2 => ?_) (fun hc2 => ?_)
  · replace hc2 := nm_ hc2
    refine awp_skip ?_
    refine awp_seq ?_
    refine awp_block ?_
    refine awp_seq ?_
    obtain ⟨x, hx⟩ := get_some (l := l) (k := k) (by omega)
    have R := hx
    refine awp_draw (.op 0 0 (.op 1 0 (.op 2 0 (.op 3 0 (.op 4 0 (.op 5 0 (.op 6 0 .nil))))))) Tryz.mixed (by kernel_rfl) ?_
    iterate 7 (refine dR_S o_ (by rfl) (by rfl) v_ ?_)
    refine dR_nil ?_
    refine awp_cond v_ (fun hc4 => ?_) (fun hc4 => ?_)
    · replace hc4 := nm_ hc4
      refine awp_seq ?_
      refine awp_region (by kernel_rfl) ?_
      iterate 2 (refine aL_S rfl rfl v_ ?_)
      refine aL_nil ?_
      refine awp_ret ?_
      refine aEnd_ret (σ' := σ) v_ sub_ ?_
      exact ⟨⟨(k : Int), rfl, fun _ => ⟨by omega, x, by simpa using hx, fnd_at hx hc4 ha⟩, fun h => by omega, by omega⟩, rfl⟩
    · replace hc4 := nm_ hc4
      refine awp_skip ?_
      refine awp_region (by kernel_rfl) ?_
      iterate 3 (refine aL_S rfl rfl v_ ?_)
      refine aL_nil ?_
      refine aNext (ι := Nat) (i := k) (k + 1) ?_ ?_ ?_ ?_
      · omega
      · exact ⟨by omega, fun m y hm hy => by rcases Nat.lt_or_eq_of_le (Nat.le_of_lt_succ hm) with h | h; exact ha m y h hy; rw [h, hx] at hy; obtain rfl := Option.some.inj hy; exact fun hh => by simp [hh.1, hh.2] at hc4⟩
      · exact cv_
      · exact sub_
  · replace hc2 := nm_ hc2
    refine awp_exit ?_
    refine aThen_exit ?_
    refine aThen_exit ?_
    refine aBlock_hit ?_
    refine awp_seq ?_
    refine awp_region (by kernel_rfl) ?_
    (refine aL_S rfl rfl v_ ?_)
    refine aL_nil ?_
    refine awp_ret ?_
    refine aEnd_ret (σ' := σ) v_ sub_ ?_
    exact ⟨⟨-1, rfl, fun h => by omega, fun _ => fnd_none.2 fun x hx hh => by
    obtain ⟨m, hm⟩ := List.mem_iff_getElem?.1 hx
    exact ha m x (by have := (List.getElem?_eq_some_iff.1 hm).1; omega) hm hh, by omega⟩, rfl⟩
theorem grS_ref {a b : Sib} (hd : Dot a b) : grS a b = if a.time = b.time then (if a.value = b.value then (if a.gone then a else b) else if sLt b.value a.value then a else b) else if b.time < a.time then a else b := by
  by_cases h1 : a.time = b.time
  · rw [if_pos h1]
    by_cases h2 : a.value = b.value
    · rw [if_pos h2]
      cases h3 : a.gone with
      | true => rw [if_pos rfl, grS, if_neg]; rw [ltV_iff, h2, sLt_irrefl, h3]; simp [h1]
      | false =>
        rw [if_neg (by simp)]
        cases h4 : b.gone with
        | true => rw [grS, if_pos]; rw [ltV_iff]; exact .inr ⟨h1, .inr ⟨h2, h3, h4⟩⟩
        | false =>
          have : a = b := ltV_tri (by rw [← Bool.not_eq_true, ltV_iff, h2, sLt_irrefl, h3, h4]; simp [h1]) (by rw [← Bool.not_eq_true, ltV_iff, h2, sLt_irrefl, h3, h4]; simp [h1]) hd
          rw [this, grS_self]
    · rw [if_neg h2]
      cases h3 : sLt b.value a.value with
      | true => rw [if_pos rfl, grS, if_neg]; rw [ltV_iff, sLt_asymm h3]; simp [h1, h2]
      | false => rw [if_neg (by simp), grS, if_pos]; rw [ltV_iff]; exact .inr ⟨h1, .inl (sLt_tri h3 (Ne.symm h2))⟩
  · rw [if_neg h1]
    by_cases h2 : b.time < a.time
    · rw [if_pos h2, grS, if_neg]; rw [ltV_iff]; rintro (h | h)
      · omega
      · exact h1 h.1
    · rw [if_neg h2, grS, if_pos]; rw [ltV_iff]; left; omega
theorem rGreater_c {a b : Sib} {σ : Store} (hd : Dot a b) : ACalls Tryz.prog 125 [sSib a, sSib b] σ fun v σ' => v = sSib (grS a b) ∧ σ = σ' := by
  refine ACalls_of Tryz.func125 rfl Tryz.ntmps125 (congrArg Array.toList Tryz.results125) (by simp only [List.length_cons, List.length_nil]; decide) ?_; simp only [envOf_cons, envOf_nil, Nat.reduceAdd]
  refine awp_seq ?_
  refine awp_region (by kernel_rfl) ?_
  refine aL_box rfl rfl rfl v_ rfl g_ fun o2 ho2 => ?_
  repeat (rw [none_set_iff] at ho2; obtain ⟨_, ho2⟩ := ho2)
  refine aL_box rfl rfl rfl v_ rfl g_ fun o3 ho3 => ?_
  repeat (rw [none_set_iff] at ho3; obtain ⟨_, ho3⟩ := ho3)
  refine aL_alloc rfl rfl rfl g_ gl_ fun o4 ho4 => ?_
  repeat (rw [none_set_iff] at ho4; obtain ⟨_, ho4⟩ := ho4)
  refine aL_nil ?_
  refine awp_seq ?_
  refine awp_seq ?_
  refine awp_region (by kernel_rfl) ?_
  iterate 5 (refine aL_S rfl rfl v_ ?_)
  refine aL_nil ?_
  refine awp_cond v_ (fun hc1 => ?_) (fun hc1 => ?_)
  · replace hc1 := nm_ hc1
    refine awp_seq ?_
    refine awp_seq ?_
    refine awp_region (by kernel_rfl) ?_
    iterate 5 (refine aL_S rfl rfl v_ ?_)
    refine aL_nil ?_
    refine awp_cond v_ (fun hc2 => ?_) (fun hc2 => ?_)
    · replace hc2 := nm_ hc2
      refine awp_seq ?_
      refine awp_region (by kernel_rfl) ?_
      (refine aL_S rfl rfl v_ ?_)
      refine aL_store rfl rfl rfl v_ v_ h_ g_ rfl g_ c_ (by rfl) le_ v_ ?_
      refine aL_nil ?_
      refine awp_ret ?_
      refine aEnd_ret (σ' := σ) v_ sub_ ?_
      exact ⟨by rw [grS_ref hd, if_neg hc1, if_pos hc2], rfl⟩
    · replace hc2 := nm_ hc2
      refine awp_skip ?_
      refine awp_seq ?_
      refine awp_region (by kernel_rfl) ?_
      (refine aL_S rfl rfl v_ ?_)
      refine aL_store rfl rfl rfl v_ v_ h_ g_ rfl g_ c_ (by rfl) le_ v_ ?_
      refine aL_nil ?_
      refine awp_ret ?_
      refine aEnd_ret (σ' := σ) v_ sub_ ?_
      exact ⟨by rw [grS_ref hd, if_neg hc1, if_neg (by omega)], rfl⟩
  · replace hc1 := nm_ hc1
    refine awp_skip ?_
    refine awp_seq ?_
    refine awp_seq ?_
    refine awp_region (by kernel_rfl) ?_
    iterate 5 (refine aL_S rfl rfl v_ ?_)
    refine aL_nil ?_
    refine awp_cond v_ (fun hc5 => ?_) (fun hc5 => ?_)
    · replace hc5 := nm_ hc5
      refine awp_seq ?_
      refine awp_seq ?_
      refine awp_region (by kernel_rfl) ?_
      iterate 5 (refine aL_S rfl rfl v_ ?_)
      refine aL_nil ?_
      refine awp_cond v_ (fun hc6 => ?_) (fun hc6 => ?_)
      · replace hc6 := nm_ hc6
        refine awp_seq ?_
        refine awp_region (by kernel_rfl) ?_
        (refine aL_S rfl rfl v_ ?_)
        refine aL_store rfl rfl rfl v_ v_ h_ g_ rfl g_ c_ (by rfl) le_ v_ ?_
        refine aL_nil ?_
        refine awp_ret ?_
        refine aEnd_ret (σ' := σ) v_ sub_ ?_
        exact ⟨by rw [grS_ref hd, if_pos hc1, if_neg hc5, if_pos (sLt_tri hc6.1 hc5)], rfl⟩
      · replace hc6 := nm_ hc6
        refine awp_skip ?_
        refine awp_seq ?_
        refine awp_region (by kernel_rfl) ?_
        (refine aL_S rfl rfl v_ ?_)
        refine aL_store rfl rfl rfl v_ v_ h_ g_ rfl g_ c_ (by rfl) le_ v_ ?_
        refine aL_nil ?_
        refine awp_ret ?_
        refine aEnd_ret (σ' := σ) v_ sub_ ?_
        exact ⟨by rw [grS_ref hd, if_pos hc1, if_neg hc5, if_neg (by rcases hc6 with h | h; rw [sLt_asymm h]; simp; exact absurd h hc5)], rfl⟩
    · replace hc5 := nm_ hc5
      refine awp_skip ?_
      refine awp_seq ?_
      refine awp_seq ?_
      refine awp_region (by kernel_rfl) ?_
      iterate 2 (refine aL_S rfl rfl v_ ?_)
      refine aL_nil ?_
      refine awp_cond v_ (fun hc9 => ?_) (fun hc9 => ?_)
      · replace hc9 := nm_ hc9
        refine awp_seq ?_
        refine awp_region (by kernel_rfl) ?_
        (refine aL_S rfl rfl v_ ?_)
        refine aL_store rfl rfl rfl v_ v_ h_ g_ rfl g_ c_ (by rfl) le_ v_ ?_
        refine aL_nil ?_
        refine awp_ret ?_
        refine aEnd_ret (σ' := σ) v_ sub_ ?_
        exact ⟨by rw [grS_ref hd, if_pos hc1, if_pos hc5, if_pos hc9], rfl⟩
      · replace hc9 := nm_ hc9
        refine awp_skip ?_
        refine awp_seq ?_
        refine awp_region (by kernel_rfl) ?_
        (refine aL_S rfl rfl v_ ?_)
        refine aL_store rfl rfl rfl v_ v_ h_ g_ rfl g_ c_ (by rfl) le_ v_ ?_
        refine aL_nil ?_
        refine awp_ret ?_
        refine aEnd_ret (σ' := σ) v_ sub_ ?_
        exact ⟨by rw [grS_ref hd, if_pos hc1, if_pos hc5, if_neg (by rw [hc9]; simp)], rfl⟩
theorem putD_at {s : Sib} : ∀ {l : List Sib} {k : Nat}, (∀ j x, j < k → l[j]? = some x → lessX x s = true) → (∀ x, l[k]? = some x → lessX x s = false) → k ≤ l.length → putD l s = l.take k ++ s :: l.drop k
  | [], k, _, _, hk => by
    obtain rfl : k = 0 := by simpa using hk
    simp [putD]
  | m :: l, 0, _, h2, _ => by
    have := h2 m rfl
    rw [putD, if_neg (by rw [this]; simp)]; rfl
  | m :: l, k + 1, h1, h2, hk => by
    have hm := h1 0 m (by omega) rfl
    have ih := putD_at (s := s) (l := l) (k := k) (fun j x hj hx => h1 (j + 1) x (by omega) hx) (fun x hx => h2 x hx) (by simpa using hk)
    rw [putD, if_pos hm, ih]; rfl
theorem putD_len (s : Sib) : ∀ (l : List Sib), (putD l s).length = l.length + 1
  | [] => rfl
  | y :: l => by
    unfold putD
    split
    · simp [putD_len s l]
    · simp
theorem putsD_len : ∀ (M l : List Sib), (M.foldl putD l).length = l.length + M.length
  | [], l => by simp
  | s :: M, l => by rw [List.foldl_cons, putsD_len M, putD_len, List.length_cons]; omega
theorem rPutD_c {l : List Sib} {s : Sib} {t : Bool} {σ : Store} (hl : l.length ≤ 1000000) : ACalls Tryz.prog 124 [.sl 5 (l.map sSib) t, sSib s] σ fun v σ' => v = .sl 5 ((putD l s).map sSib) false ∧ σ = σ' := by
  refine ACalls_of Tryz.func124 rfl Tryz.ntmps124 (congrArg Array.toList Tryz.results124) (by simp only [List.length_cons, List.length_nil]; decide) ?_; simp only [envOf_cons, envOf_nil, Nat.reduceAdd]
  refine awp_seq ?_
  refine awp_region (by kernel_rfl) ?_
  refine aL_box rfl rfl rfl v_ rfl g_ fun o3 ho3 => ?_
  repeat (rw [none_set_iff] at ho3; obtain ⟨_, ho3⟩ := ho3)
  (refine aL_S rfl rfl v_ ?_)
  refine aL_nil ?_
  refine awp_seq ?_
  refine awp_region (by kernel_rfl) ?_
  (refine aL_S rfl rfl v_ ?_)
  refine aL_nil ?_
  refine awp_seq ?_
  refine awp_block ?_
  refine awp_loop_env (ι := Nat) (fun k => l.length - k) (fun k => k ≤ l.length ∧ ∀ j x, j < k → l[j]? = some x → lessX x s = true) (fun k => [(0, .sl 5 (l.map sSib) t), (3, .ref o3 0), (5, vInt k)]) (fun k => (σ.set o3 (.cells (sSib s).cells))) 0 ?_ ?_ ?_ ?_
  · exact ⟨Nat.zero_le _, fun j x h => by omega⟩
  · exact cv_
  · exact Store.Wk.refl _
  rintro k ⟨hk, ha⟩
  simp only [envL_cons, envL_nil]
  refine awp_seq ?_
  refine awp_seq ?_
  obtain ⟨x, hx⟩ := get_if l k
  have R := hx
  refine awp_draw (.op 0 0 (.op 1 0 (.op 2 0 (.op 3 0 (.op 4 0 (.op 5 0 (.op 6 0 (.op 7 0 (.op 8 0 (.op 9 0 (.op 10 0 (.op 11 0 (.op 12 1 (.op 13 0 .nil)))))))))))))) Tryz.mixed (by kernel_rfl) ?_
  iterate 5 (refine dR_S o_ (by rfl) (by rfl) v_ ?_)
  refine dR_GT o_ (by rfl) (by rfl) v_ (by rfl) vg_ ?_
  refine dR_GT o_ (by rfl) (by rfl) v_ (by rfl) vg_ ?_
  refine dR_GT o_ (by rfl) (by rfl) v_ (by rfl) vg_ ?_
  refine dR_GT o_ (by rfl) (by rfl) v_ (by rfl) vg_ ?_
  refine dR_GT o_ (by rfl) (by rfl) v_ (by rfl) vg_ ?_
  refine dR_GT o_ (by rfl) (by rfl) v_ (by rfl) vg_ ?_
  refine dR_GT o_ (by rfl) (by rfl) v_ (by rfl) vg_ ?_
  refine dR_GTX o_ (by rfl) (by rfl) v_ (by rfl) sub_ (fun hb => AOp_useV (by rfl) (by rfl) (.inr ⟨by rfl, by rfl, by rfl⟩) g_ cg_ (rLess_c)) ?_
  (refine dR_S o_ (by rfl) (by rfl) v_ ?_)
  refine dR_nil ?_
  refine awp_cond v_ (fun hc2 => ?_) (fun hc2 => ?_)
  · replace hc2 := nm_ hc2
    refine awp_skip ?_
    refine awp_block ?_
    refine awp_region (by kernel_rfl) ?_
    iterate 3 (refine aL_S rfl rfl v_ ?_)
    refine aL_nil ?_
    refine aNext (ι := Nat) (i := k) (k + 1) ?_ ?_ ?_ ?_
    · omega
    · exact ⟨by omega, fun j y hj hy => by rcases Nat.lt_or_eq_of_le (Nat.le_of_lt_succ hj) with h | h; exact ha j y h hy; rw [h, hx (by omega)] at hy; obtain rfl := Option.some.inj hy; exact hc2.2⟩
    · exact cv_
    · exact sub_
  · replace hc2 := nm_ hc2
    refine awp_exit ?_
    refine aThen_exit ?_
    refine aThen_exit ?_
    refine aBlock_hit ?_
    refine awp_seq ?_
    skip
    have hat : putD l s = l.take k ++ s :: l.drop k := putD_at ha (fun y hy => by
      have h1 := (List.getElem?_eq_some_iff.1 hy).1
      rw [hx h1] at hy; obtain rfl := Option.some.inj hy
      rcases hc2 with h | h
      · omega
      · exact h) hk
    have m1 : (l.map sSib).take k = (l.take k).map sSib := List.map_take.symm
    have m2 : ((l.map sSib).take l.length).drop k = (l.drop k).map sSib := by rw [List.take_of_length_le (by simp), List.map_drop]
    have m3 : (l.map sSib).drop k = (l.drop k).map sSib := List.map_drop.symm
    refine awp_region (by kernel_rfl) ?_
    refine aL_nilOwn 102 5 rfl rfl rfl (by rfl) fun k6 hk6 => ?_
    refine aL_nil ?_
    refine awp_seq ?_
    have R := m1
    refine awp_region (by kernel_rfl) ?_
    iterate 4 (refine aL_S rfl rfl v_ ?_)
    refine aL_append rfl rfl rfl g_ g_ v_ h_ v_ (oneSib _) (by simp; omega) fun k27 hk27 => ?_
    have s6 : σ.tok k6 = none := hk6
    have t27 := (newTok_none hk27).2
    have s27 : σ.tok k27 = none := t27
    (refine aL_S rfl rfl v_ ?_)
    refine aL_nil ?_
    refine awp_seq ?_
    refine awp_region (by kernel_rfl) ?_
    iterate 2 (refine aL_S rfl rfl v_ ?_)
    refine aL_buildSlice rfl rfl rfl g_ g_ rfl rfl h_ c2_ (by decide) ?_
    refine aL_append rfl rfl rfl g_ g_ v_ h_ v_ c_ (by simp; omega) fun k31 hk31 => ?_
    rw [Store.newTok_step (show Store.tok (σ.set o3 (.cells (sSib s).cells)) k6 = none from hk6)] at hk31
    have t31 := (newTok_none hk31).2
    have s31 : σ.tok k31 = none := t31
    (refine aL_S rfl rfl v_ ?_)
    refine aL_nil ?_
    refine awp_seq ?_
    have R := And.intro m2 m3
    refine awp_region (by kernel_rfl) ?_
    iterate 4 (refine aL_S rfl rfl v_ ?_)
    refine aL_append rfl rfl rfl g_ g_ v_ h_ v_ (oneSib _) (by simp; omega) fun k36 hk36 => ?_
    rw [Store.newTok_step (show Store.tok (σ.set o3 (.cells (sSib s).cells)) k6 = none from hk6), Store.newTok_step t27] at hk36
    have t36 := (newTok_none hk36).2
    have s36 : σ.tok k36 = none := t36
    (refine aL_S rfl rfl v_ ?_)
    refine aL_nil ?_
    refine awp_seq ?_
    refine awp_region (by kernel_rfl) ?_
    iterate 2 (refine aL_S rfl rfl v_ ?_)
    refine aL_nil ?_
    refine awp_ret ?_
    rw [hat, show (l.take k ++ s :: l.drop k).map sSib = (l.take k).map sSib ++ [sSib s] ++ (l.drop k).map sSib from by simp]
    exact aEnd_retW (v := .sl 5 ((l.take k).map sSib ++ [sSib s] ++ (l.drop k).map sSib) false) (v' := .own k36 5 ((l.take k).map sSib ++ [sSib s] ++ (l.drop k).map sSib)) va_ (.own1 _ _ _) sub_ ⟨rfl, rfl⟩
set_option maxHeartbeats 2000000 in
theorem rMerge_c {a b : Obj'} {σ : Store} (ha : ObjSm a) (hB : ObjSm b) : ACalls Tryz.prog 63 [sObj a, sObj b] σ fun v σ' => v = .tup [sObj (mergeS a b).1, vInt (mergeS a b).2] ∧ σ = σ' := by
  have na := ha.ns; have nb := hB.ns; have ca := ha.nc; have cb := hB.nc
  refine ACalls_of Tryz.func63 rfl Tryz.ntmps63 (congrArg Array.toList Tryz.results63) (by simp only [List.length_cons, List.length_nil]; decide) ?_; simp only [envOf_cons, envOf_nil, Nat.reduceAdd]
  refine awp_seq ?_
  refine awp_region (by kernel_rfl) ?_
  refine aL_box rfl rfl rfl v_ rfl g_ fun o2 ho2 => ?_
  repeat (rw [none_set_iff] at ho2; obtain ⟨_, ho2⟩ := ho2)
  refine aL_box rfl rfl rfl v_ rfl g_ fun o3 ho3 => ?_
  repeat (rw [none_set_iff] at ho3; obtain ⟨_, ho3⟩ := ho3)
  refine aL_alloc rfl rfl rfl g_ gl_ fun o4 ho4 => ?_
  repeat (rw [none_set_iff] at ho4; obtain ⟨_, ho4⟩ := ho4)
  (refine aL_S rfl rfl v_ ?_)
  refine aL_nil ?_
  refine awp_seq ?_
  refine awp_seq ?_
  refine awp_region (by kernel_rfl) ?_
  (refine aL_S rfl rfl v_ ?_)
  refine aL_X rfl rfl (AOp_use rfl rfl (.inr ⟨rfl, rfl, rfl⟩) g_ va_ (rMay07_c ha) ?_); rintro _ _ ⟨rfl, rfl⟩
  iterate 2 (refine aL_S rfl rfl v_ ?_)
  refine aL_GF rfl rfl v_ rfl vg_ ?_
  refine aL_GFX rfl rfl v_ rfl (fun hb => AOp_useV (by rfl) (by rfl) (.inr ⟨by rfl, by rfl, by rfl⟩) g_ cg_ (rMay07_c hB)) ?_
  refine aL_GF rfl rfl v_ rfl vg_ ?_
  (refine aL_S rfl rfl v_ ?_)
  refine aL_nil ?_
  refine awp_cond v_ (fun hc1 => ?_) (fun hc1 => ?_)
  · replace hc1 := nm_ hc1
    refine awp_seq ?_
    refine awp_region (by kernel_rfl) ?_
    (refine aL_S rfl rfl v_ ?_)
    refine aL_store rfl rfl rfl v_ v_ h_ g_ rfl g_ c_ (by rfl) le_ v_ ?_
    (refine aL_S rfl rfl v_ ?_)
    refine aL_nil ?_
    refine awp_ret ?_
    rw [show mergeS a b = (⟨[], []⟩, 1) from by
      unfold mergeS
      cases h1 : objOk a <;> cases h2 : objOk b <;> simp [h1, h2] at hc1 ⊢]
    exact aEnd_retW (v := .tup [sObj ⟨[], []⟩, vInt 1]) (v' := .tup [.agg [vNil, vNil], vInt 1]) va_ (.tup _ _ rfl (fun i hi hi' => by match i, hi with | 0, _ => exact .agg _ _ rfl (fun j hj hj' => by match j, hj with | 0, _ => exact .nil _ _ | 1, _ => exact .nil _ _) | 1, _ => exact .refl _)) sub_ ⟨rfl, rfl⟩
  · replace hc1 := nm_ hc1
    refine awp_skip ?_
    refine awp_seq ?_
    refine awp_region (by kernel_rfl) ?_
    iterate 4 (refine aL_S rfl rfl v_ ?_)
    refine aL_X rfl rfl (AOp_use rfl rfl (.inr ⟨rfl, rfl, rfl⟩) g_ va_ (rJoin_c ha.ctx hB.ctx (by omega) (by omega)) ?_); rintro _ _ ⟨rfl, rfl⟩
    iterate 5 (refine aL_S rfl rfl v_ ?_)
    refine aL_nil ?_
    refine awp_seq ?_
    refine awp_seq ?_
    refine awp_region (by kernel_rfl) ?_
    iterate 2 (refine aL_S rfl rfl v_ ?_)
    refine aL_nil ?_
    refine awp_cond v_ (fun hc4 => ?_) (fun hc4 => ?_)
    · replace hc4 := nm_ hc4
      refine awp_seq ?_
      refine awp_region (by kernel_rfl) ?_
      iterate 2 (refine aL_S rfl rfl v_ ?_)
      refine aL_store rfl rfl rfl v_ v_ h_ g_ rfl g_ c_ (by rfl) le_ v_ ?_
      (refine aL_S rfl rfl v_ ?_)
      refine aL_nil ?_
      refine awp_ret ?_
      rw [show mergeS a b = (⟨[], []⟩, (joinS a.ctx b.ctx).2) from by simp [mergeS, hc1.1, hc1.2, hc4]]
      exact aEnd_retW (v := .tup [sObj ⟨[], []⟩, vInt (joinS a.ctx b.ctx).2]) (v' := .tup [.agg [vNil, vNil], vInt (joinS a.ctx b.ctx).2]) va_ (.tup _ _ rfl (fun i hi hi' => by match i, hi with | 0, _ => exact .agg _ _ rfl (fun j hj hj' => by match j, hj with | 0, _ => exact .nil _ _ | 1, _ => exact .nil _ _) | 1, _ => exact .refl _)) sub_ ⟨rfl, rfl⟩
    · replace hc4 := nm_ hc4
      have hms : mergeS a b = (⟨(joinS a.ctx b.ctx).1, mergeL a b⟩, 0) := by simp [mergeS, hc1.1, hc1.2, hc4]
      obtain ⟨J, hJ⟩ : ∃ J, (joinS a.ctx b.ctx).1 = J := ⟨_, rfl⟩
      rw [hJ] at hms ⊢
      refine awp_skip ?_
      refine awp_seq ?_
      refine awp_region (by kernel_rfl) ?_
      refine aL_nilSl 5 rfl rfl rfl (by rfl) ?_
      refine aL_nil ?_
      refine awp_seq ?_
      refine awp_seq ?_
      refine awp_region (by kernel_rfl) ?_
      (refine aL_S rfl rfl v_ ?_)
      refine aL_nil ?_
      refine awp_block ?_
      refine awp_loop_env (ι := Nat) (fun i => a.sibs.length - i) (fun i => i ≤ a.sibs.length) (fun i => [(2, .ref o2 0), (3, .ref o3 0), (4, .ref o4 0), (6, .sl 3 (J.map sSeen) false), (8, .sl 5 ((((a.sibs.take i).filterMap (keptF b)).foldl putD []).map sSib) false), (9, vInt i)]) (fun i => (((σ.set o2 (.cells (sObj a).cells)).set o3 (.cells (sObj b).cells)).set o4 (.cells [.lit (.slice none 0 0), .lit (.slice none 0 0)]))) 0 ?_ ?_ ?_ ?_
      · exact Nat.zero_le _
      · exact cv_
      · exact Store.Wk.refl _
      rintro i hi
      simp only [envL_cons, envL_nil]
      refine awp_seq ?_
      refine awp_seq ?_
      refine awp_region (by kernel_rfl) ?_
      iterate 5 (refine aL_S rfl rfl v_ ?_)
      refine aL_nil ?_
      refine awp_cond v_ (fun hc8 => ?_) (fun hc8 => ?_)
      · replace hc8 := nm_ hc8
        refine awp_skip ?_
        refine awp_seq ?_
        refine awp_block ?_
        refine awp_seq ?_
        obtain ⟨x, hx⟩ := get_some (l := a.sibs) (k := i) (by omega)
        have hl1 : ((a.sibs.take i).filterMap (keptF b)).length ≤ i := Nat.le_trans (List.length_filterMap_le ..) (by simp; omega)
        have hl2 := putsD_len ((a.sibs.take i).filterMap (keptF b)) []
        rw [List.length_nil] at hl2
        have hsx := ha.sibs x (List.mem_of_getElem? hx)
        have hnx := hsx.node
        have hstep : ∀ y, keptF b x = y → ((a.sibs.take (i + 1)).filterMap (keptF b)).foldl putD [] = (match y with | some z => putD (((a.sibs.take i).filterMap (keptF b)).foldl putD []) z | none => ((a.sibs.take i).filterMap (keptF b)).foldl putD []) := fun y hy => by
          rw [take_snoc hx, List.filterMap_append, List.foldl_append]
          cases y <;> simp [hy]
        have R := hx
        refine awp_region (by kernel_rfl) ?_
        iterate 5 (refine aL_S rfl rfl v_ ?_)
        refine aL_alloc rfl rfl rfl g_ gl_ fun o10 ho10 => ?_
        repeat (rw [none_set_iff] at ho10; obtain ⟨_, ho10⟩ := ho10)
        refine aL_store rfl rfl rfl v_ v_ h_ g_ rfl g_ c_ (by rfl) le_ v_ ?_
        refine aL_nil ?_
        refine awp_seq ?_
        refine awp_region (by kernel_rfl) ?_
        iterate 4 (refine aL_S rfl rfl v_ ?_)
        refine aL_X rfl rfl (AOp_use rfl rfl (.inr ⟨rfl, rfl, rfl⟩) g_ va_ (rFind_c (by omega)) ?_); rintro _ _ ⟨⟨r, rfl, h1, h2, h3⟩, rfl⟩
        (refine aL_S rfl rfl v_ ?_)
        refine aL_nil ?_
        refine awp_seq ?_
        refine awp_region (by kernel_rfl) ?_
        iterate 2 (refine aL_S rfl rfl v_ ?_)
        refine aL_nil ?_
        refine awp_cond v_ (fun hc12 => ?_) (fun hc12 => ?_)
        · replace hc12 := nm_ hc12
          obtain ⟨hrl, y, hy, hf⟩ := h1 hc12
          have hd := (fnd_mem hf).2
          have hcov := hstep (some (grS x y)) (by simp [keptF, hf])
          have R := hy
          refine awp_draw (.op 0 0 (.op 1 0 (.op 2 0 (.op 3 0 (.op 4 0 (.op 5 0 (.op 6 0 (.op 7 1 (.op 8 1 (.op 9 0 .nil)))))))))) Tryz.mixed (by kernel_rfl) ?_
          iterate 7 (refine dR_S o_ (by rfl) (by rfl) v_ ?_)
          refine dR_X o_ (by rfl) (by rfl) (AOp_use (by rfl) (by rfl) (.inr ⟨by rfl, by rfl, by rfl⟩) g_ va_ (rGreater_c ⟨hd.1.symm, hd.2.symm⟩) ?_); rintro _ _ ⟨rfl, rfl⟩; refine ⟨sub_, ?_⟩
          refine dR_X o_ (by rfl) (by rfl) (AOp_use (by rfl) (by rfl) (.inr ⟨by rfl, by rfl, by rfl⟩) g_ va_ (rPutD_c (by omega)) ?_); rintro _ _ ⟨rfl, rfl⟩; refine ⟨sub_, ?_⟩
          (refine dR_S o_ (by rfl) (by rfl) v_ ?_)
          refine dR_nil ?_
          refine awp_region (by kernel_rfl) ?_
          iterate 3 (refine aL_S rfl rfl v_ ?_)
          refine aL_nil ?_
          refine aNext (ι := Nat) (i := i) (i + 1) ?_ ?_ ?_ ?_
          · omega
          · show i + 1 ≤ a.sibs.length; omega
          · have R := hcov; exact cv_
          · exact sub_
        · replace hc12 := nm_ hc12
          have hf := h2 hc12
          refine awp_seq ?_
          refine awp_region (by kernel_rfl) ?_
          iterate 4 (refine aL_S rfl rfl v_ ?_)
          refine aL_X rfl rfl (AOp_use rfl rfl (.inr ⟨rfl, rfl, rfl⟩) g_ va_ (rHas_c hB.ctx (by omega)) ?_); rintro _ _ ⟨rfl, rfl⟩
          (refine aL_S rfl rfl v_ ?_)
          refine aL_nil ?_
          refine awp_cond v_ (fun hc14 => ?_) (fun hc14 => ?_)
          · replace hc14 := nm_ hc14
            have hcov := hstep (some x) (by simp [keptF, hf, hc14])
            refine awp_region (by kernel_rfl) ?_
            iterate 2 (refine aL_S rfl rfl v_ ?_)
            refine aL_X rfl rfl (AOp_use rfl rfl (.inr ⟨rfl, rfl, rfl⟩) g_ va_ (rPutD_c (by omega)) ?_); rintro _ _ ⟨rfl, rfl⟩
            (refine aL_S rfl rfl v_ ?_)
            refine aL_nil ?_
            refine awp_region (by kernel_rfl) ?_
            iterate 3 (refine aL_S rfl rfl v_ ?_)
            refine aL_nil ?_
            refine aNext (ι := Nat) (i := i) (i + 1) ?_ ?_ ?_ ?_
            · omega
            · show i + 1 ≤ a.sibs.length; omega
            · have R := hcov; exact cv_
            · exact sub_
          · replace hc14 := nm_ hc14
            have hcov := hstep none (by simp [keptF, hf, hc14])
            refine awp_skip ?_
            refine awp_region (by kernel_rfl) ?_
            iterate 3 (refine aL_S rfl rfl v_ ?_)
            refine aL_nil ?_
            refine aNext (ι := Nat) (i := i) (i + 1) ?_ ?_ ?_ ?_
            · omega
            · show i + 1 ≤ a.sibs.length; omega
            · have R := hcov; exact cv_
            · exact sub_
      · replace hc8 := nm_ hc8
        refine awp_exit ?_
        refine aThen_exit ?_
        refine aThen_exit ?_
        refine aBlock_hit ?_
        refine awp_seq ?_
        refine awp_seq ?_
        skip
        have hA : (a.sibs.take i).filterMap (keptF b) = keptA a b := by rw [List.take_of_length_le (by omega)]; rfl
        have hlA : (keptA a b).length ≤ a.sibs.length := List.length_filterMap_le ..
        rw [hA]
        have hic : keptA a b ++ List.filterMap (keptG a) [] = keptA a b := by simp
        refine awp_region (by kernel_rfl) ?_
        (refine aL_S rfl rfl v_ ?_)
        refine aL_nil ?_
        refine awp_block ?_
        refine awp_loop_env (ι := Nat) (fun i => b.sibs.length - i) (fun i => i ≤ b.sibs.length) (fun i => [(2, .ref o2 0), (3, .ref o3 0), (4, .ref o4 0), (6, .sl 3 (J.map sSeen) false), (8, .sl 5 (((keptA a b ++ (b.sibs.take i).filterMap (keptG a)).foldl putD []).map sSib) false), (12, vInt i)]) (fun i => (((σ.set o2 (.cells (sObj a).cells)).set o3 (.cells (sObj b).cells)).set o4 (.cells [.lit (.slice none 0 0), .lit (.slice none 0 0)]))) 0 ?_ ?_ ?_ ?_
        · exact Nat.zero_le _
        · have R := hic; exact cv_
        · exact Store.Wk.refl _
        rintro i hi
        simp only [envL_cons, envL_nil]
        refine awp_seq ?_
        refine awp_seq ?_
        refine awp_region (by kernel_rfl) ?_
        iterate 5 (refine aL_S rfl rfl v_ ?_)
        refine aL_nil ?_
        refine awp_cond v_ (fun hc17 => ?_) (fun hc17 => ?_)
        · replace hc17 := nm_ hc17
          refine awp_skip ?_
          refine awp_seq ?_
          refine awp_block ?_
          refine awp_seq ?_
          obtain ⟨x, hx⟩ := get_some (l := b.sibs) (k := i) (by omega)
          have hl1 : ((b.sibs.take i).filterMap (keptG a)).length ≤ i := Nat.le_trans (List.length_filterMap_le ..) (by simp; omega)
          have hl2 := putsD_len (keptA a b ++ (b.sibs.take i).filterMap (keptG a)) []
          rw [List.length_nil, List.length_append] at hl2
          have hsx := hB.sibs x (List.mem_of_getElem? hx)
          have hnx := hsx.node
          have hstep : ∀ y, keptG a x = y → (keptA a b ++ (b.sibs.take (i + 1)).filterMap (keptG a)).foldl putD [] = (match y with | some z => putD ((keptA a b ++ (b.sibs.take i).filterMap (keptG a)).foldl putD []) z | none => (keptA a b ++ (b.sibs.take i).filterMap (keptG a)).foldl putD []) := fun y hy => by
            rw [take_snoc hx, List.filterMap_append, ← List.append_assoc, List.foldl_append (l' := [x].filterMap (keptG a))]
            cases y <;> simp [hy]
          have R := hx
          refine awp_region (by kernel_rfl) ?_
          iterate 5 (refine aL_S rfl rfl v_ ?_)
          refine aL_alloc rfl rfl rfl g_ gl_ fun o13 ho13 => ?_
          repeat (rw [none_set_iff] at ho13; obtain ⟨_, ho13⟩ := ho13)
          refine aL_store rfl rfl rfl v_ v_ h_ g_ rfl g_ c_ (by rfl) le_ v_ ?_
          refine aL_nil ?_
          refine awp_seq ?_
          refine awp_region (by kernel_rfl) ?_
          iterate 4 (refine aL_S rfl rfl v_ ?_)
          refine aL_X rfl rfl (AOp_use rfl rfl (.inr ⟨rfl, rfl, rfl⟩) g_ va_ (rFind_c (by omega)) ?_); rintro _ _ ⟨⟨r, rfl, h1, h2, h3⟩, rfl⟩
          iterate 2 (refine aL_S rfl rfl v_ ?_)
          refine aL_GT rfl rfl v_ rfl vg_ ?_
          refine aL_GT rfl rfl v_ rfl vg_ ?_
          refine aL_GT rfl rfl v_ rfl vg_ ?_
          refine aL_GT rfl rfl v_ rfl vg_ ?_
          refine aL_GTX rfl rfl v_ rfl (fun hb => AOp_useV (by rfl) (by rfl) (.inr ⟨by rfl, by rfl, by rfl⟩) g_ cg_ (rHas_c ha.ctx (by omega))) ?_
          refine aL_GT rfl rfl v_ rfl vg_ ?_
          (refine aL_S rfl rfl v_ ?_)
          refine aL_nil ?_
          refine awp_cond v_ (fun hc20 => ?_) (fun hc20 => ?_)
          · replace hc20 := nm_ hc20
            have hcov := hstep (some x) (by simp [keptG, h2 hc20.1, hc20.2])
            refine awp_region (by kernel_rfl) ?_
            iterate 2 (refine aL_S rfl rfl v_ ?_)
            refine aL_X rfl rfl (AOp_use rfl rfl (.inr ⟨rfl, rfl, rfl⟩) g_ va_ (rPutD_c (by omega)) ?_); rintro _ _ ⟨rfl, rfl⟩
            (refine aL_S rfl rfl v_ ?_)
            refine aL_nil ?_
            refine awp_region (by kernel_rfl) ?_
            iterate 3 (refine aL_S rfl rfl v_ ?_)
            refine aL_nil ?_
            refine aNext (ι := Nat) (i := i) (i + 1) ?_ ?_ ?_ ?_
            · omega
            · show i + 1 ≤ b.sibs.length; omega
            · have R := hcov; exact cv_
            · exact sub_
          · replace hc20 := nm_ hc20
            skip
            have hcov := hstep none (by
              rcases hc20 with h | h
              · obtain ⟨_, y, _, hf⟩ := h1 h
                simp [keptG, hf]
              · simp [keptG, h])
            refine awp_skip ?_
            refine awp_region (by kernel_rfl) ?_
            iterate 3 (refine aL_S rfl rfl v_ ?_)
            refine aL_nil ?_
            refine aNext (ι := Nat) (i := i) (i + 1) ?_ ?_ ?_ ?_
            · omega
            · show i + 1 ≤ b.sibs.length; omega
            · have R := hcov; exact cv_
            · exact sub_
        · replace hc17 := nm_ hc17
          refine awp_exit ?_
          refine aThen_exit ?_
          refine aThen_exit ?_
          refine aBlock_hit ?_
          refine awp_seq ?_
          skip
          have hM : (keptA a b ++ (b.sibs.take i).filterMap (keptG a)).foldl putD [] = mergeL a b := by rw [List.take_of_length_le (by omega)]; rfl
          rw [hM]
          refine awp_region (by kernel_rfl) ?_
          iterate 3 (refine aL_S rfl rfl v_ ?_)
          refine aL_store rfl rfl rfl v_ v_ h_ g_ rfl g_ c_ (by rfl) le_ v_ ?_
          (refine aL_S rfl rfl v_ ?_)
          refine aL_nil ?_
          refine awp_ret ?_
          refine aEnd_ret (σ' := σ) v_ sub_ ?_
          exact ⟨by rw [hms], rfl⟩
end Go.Proofs.YtbcgkbdacijoiaaGreat
end

section
set_option linter.all false
set_option maxRecDepth 100000
namespace Go.Proofs.YtbcgkbdacijoiaaGreat
open Go.Ab Go.Shelf Go.Proofs

abbrev fOrd : AVal := .lit (.func (.func 131) #[] #[])
theorem sortNil2_c {f : FuncId} {fv : Value} {σ : Store} (h : ∀ w, Calls Tryz.prog f #[.slice none 0 0, fv] w fun e w' => e = .returned (.tuple #[]) ∧ w' = w) :
    ACalls Tryz.prog f [.lit (.slice none 0 0), .lit fv] σ fun v σ' => v = .tup [] ∧ σ' = σ := by
  intro κ vs hI hn hv
  have e0 := (hv 0 (by simp)).litInv
  have e1 := (hv 1 (by simp)).litInv
  have hvs : vs = #[.slice none 0 0, fv] := by
    apply Array.ext (by simpa using hn)
    intro i h1 h2
    have eg : vs.getD i undef = vs[i] := by simp [h1]
    match i, h2 with
    | 0, _ => rw [← eg, e0]; rfl
    | 1, _ => rw [← eg, e1]; rfl
  rw [hvs]
  exact (h κ.w).mono fun ex w' ⟨he, hw⟩ => ⟨_, he, by rw [hw]; exact postNil (K.Le.refl κ) hI ⟨rfl, rfl⟩⟩
theorem sortFuncC {σ0 σ : Store} {L : List Sib} {a : AVal} (h : CBp σ0 σ 5 (L.map sSib) a) (hl : L.length ≤ 1000000000) :
    ACalls Tryz.prog 130 [a, fOrd] σ fun v σ' => v = .tup [] ∧ ∃ L' : List Sib, L'.Perm L ∧ L'.Pairwise (fun x y => lessX y x = false) ∧ CBp σ0 σ' 5 (L'.map sSib) a := by
  rcases h with ⟨rfl, h0, rfl⟩ | ⟨o, ho, rfl, rfl⟩
  · obtain rfl : L = [] := by simpa using h0
    exact (sortNil2_c fun w => AnyF.slices_SortFunc_none sortF none 0 _ w).wkS fun v σ' ⟨hv, hs⟩ => ⟨v, σ', .refl _, .refl _, hv, [], .refl _, .nil, .inl ⟨rfl, rfl, hs⟩⟩
  · rw [List.length_map]
    exact (sortFunc_c (Store.set_get ..) hl).wkS fun v σ' ⟨hv, L', h1, h2, h3⟩ => ⟨v, σ', .refl _, .refl _, hv, L', h1, h2, .inr ⟨o, ho, by rw [List.length_map, h1.length_eq], by rw [h3, Store.set_set]⟩⟩
theorem flat_sib_len (L : List Sib) : (flat (L.map sSib)).length = L.length * 5 := by rw [flat_length (szSib L), List.length_map]
theorem flat_part : ∀ {L : List Sib} {j : Nat} {x : Sib}, L[j]? = some x → ((flat (L.map sSib)).drop (j * 5)).take 5 = [vStr x.node, vInt x.n, vStr x.value, .lit (.bool x.gone), vInt x.time]
  | [], j, x, h => by simp at h
  | y :: L, 0, x, h => by
    simp only [List.getElem?_cons_zero, Option.some.injEq] at h
    subst h
    rfl
  | y :: L, j + 1, x, h => by
    rw [List.map_cons, flat_cons, show (j + 1) * 5 = 5 + j * 5 by omega, ← List.drop_drop]
    exact flat_part (L := L) (j := j) h
theorem aput_flat {M : List Sib} {j : Nat} {x : Sib} (hj : j < M.length) : aput (flat (M.map sSib)) (j * 5) [vStr x.node, vInt x.n, vStr x.value, .lit (.bool x.gone), vInt x.time] = flat ((M.set j x).map sSib) := by
  have e : M.set j x = M.take j ++ x :: M.drop (j + 1) := by rw [List.set_eq_take_append_cons_drop, if_pos hj]
  have e2 : M = M.take j ++ M[j] :: M.drop (j + 1) := by rw [List.getElem_cons_drop hj, List.take_append_drop]
  have hl : (flat ((M.take j).map sSib)).length = j * 5 := by rw [flat_sib_len, List.length_take, Nat.min_eq_left (by omega)]
  rw [e]
  conv => lhs; rw [e2]
  unfold aput
  rw [List.map_append, List.map_cons, flat_append, flat_cons, List.map_append, List.map_cons, flat_append, flat_cons, List.take_left' hl, List.drop_append, List.drop_of_length_le (by rw [hl]; simp), hl, show j * 5 + [vStr x.node, vInt x.n, vStr x.value, AVal.lit (.bool x.gone), vInt x.time].length - j * 5 = 5 from by simp]
  simp [AVal.cells]
theorem take_flat {M : List Sib} {j : Nat} {zs : List AVal} : aput (flat (M.map sSib)) (j * 5) zs = flat ((M.take j).map sSib) ++ (zs ++ (flat (M.map sSib)).drop (j * 5 + zs.length)) := by
  unfold aput
  rw [List.append_assoc, List.map_take, flat_take (szSib M)]
theorem mergeEq_c {x y : Sib} {σ : Store} : ACalls Tryz.prog 133 [sSib x, sSib y] σ fun v σ' => v = vB (decide (x.node = y.node) && decide (x.n = y.n)) ∧ σ = σ' := by
  refine ACalls_of Tryz.func133 rfl Tryz.ntmps133 (congrArg Array.toList Tryz.results133) (by simp only [List.length_cons, List.length_nil]; decide) ?_; simp only [envOf_cons, envOf_nil, Nat.reduceAdd]
  refine awp_seq ?_
  refine awp_region (by kernel_rfl) ?_
  refine aL_box rfl rfl rfl v_ rfl g_ fun o2 ho2 => ?_
  repeat (rw [none_set_iff] at ho2; obtain ⟨_, ho2⟩ := ho2)
  refine aL_box rfl rfl rfl v_ rfl g_ fun o3 ho3 => ?_
  repeat (rw [none_set_iff] at ho3; obtain ⟨_, ho3⟩ := ho3)
  (refine aL_S rfl rfl v_ ?_)
  refine aL_nil ?_
  refine awp_seq ?_
  refine awp_region (by kernel_rfl) ?_
  iterate 6 (refine aL_S rfl rfl v_ ?_)
  refine aL_nil ?_
  refine awp_ret ?_
  refine aEnd_ret (σ' := σ) v_ sub_ ?_
  exact ⟨rfl, rfl⟩
theorem keeps_pos {L : List Sib} {k : Nat} {x y : Sib} (hk : 0 < k) (hx : L[k]? = some x) (hy : L[k - 1]? = some y) : Lib.compactUpTo L.toArray (k + 1) = Lib.compactUpTo L.toArray k ++ (if x = y then [] else [x]) := by
  have h1 := (List.getElem?_eq_some_iff.1 hx).1
  have h2 := (List.getElem?_eq_some_iff.1 hy).1
  have e1 : L.toArray[k]! = x := by
    have := (List.getElem?_eq_some_iff.1 hx).2
    simp [h1, this]
  have e2 : L.toArray[k - 1]! = y := by
    have := (List.getElem?_eq_some_iff.1 hy).2
    simp [h2, this]
  rw [Lib.compactUpTo_succ]
  congr 1
  simp only [Lib.keeps, e1, e2]
  by_cases h : x = y
  · simp [h, show k ≠ 0 by omega]
  · simp [h]
end Go.Proofs.YtbcgkbdacijoiaaGreat
end

section
set_option linter.all false
set_option maxRecDepth 100000
namespace Go.Proofs.YtbcgkbdacijoiaaGreat
open Go.Ab

structure CmI (L : List Sib) (j : Nat) (kk : Nat) (M : List Sib) : Prop where
  len : M.length = L.length
  tk : M.take kk = Lib.compactUpTo L.toArray j
  cnt : (Lib.compactUpTo L.toArray j).length = kk
  lt : kk < j
  le : j ≤ L.length
  dr : M.drop (j - 1) = L.drop (j - 1)
theorem drop_get {L M : List Sib} {d j : Nat} (h : M.drop d = L.drop d) (hj : d ≤ j) : M[j]? = L[j]? := by
  have := congrArg (fun l => l[j - d]?) h
  simp only [List.getElem?_drop] at this
  rwa [show d + (j - d) = j by omega] at this
theorem CmI.put {L : List Sib} {j kk : Nat} {M : List Sib} {x y : Sib} (h : CmI L j kk M) (hx : L[j]? = some x) (hy : L[j - 1]? = some y) (hn : x ≠ y) : CmI L (j + 1) (kk + 1) (M.set kk x) := by
  have h1 := (List.getElem?_eq_some_iff.1 hx).1
  have hk := h.lt
  have hs := keeps_pos (by omega) hx hy
  rw [if_neg hn] at hs
  have hl := h.len
  refine ⟨by rw [List.length_set]; exact h.len, ?_, by rw [hs, List.length_append, h.cnt]; rfl, by omega, by omega, ?_⟩
  · rw [hs, ← h.tk]
    rw [take_snoc (show (M.set kk x)[kk]? = some x by rw [List.getElem?_set_self]; omega), List.take_set_of_le (Nat.le_refl _)]
  · rw [Nat.add_sub_cancel, List.drop_set_of_lt (by omega)]
    have := congrArg (List.drop 1) h.dr
    rwa [List.drop_drop, List.drop_drop, show j - 1 + 1 = j by omega] at this
theorem CmI.skip {L : List Sib} {j kk : Nat} {M : List Sib} {x : Sib} (h : CmI L j kk M) (hx : L[j]? = some x) (hy : L[j - 1]? = some x) : CmI L (j + 1) kk M := by
  have h1 := (List.getElem?_eq_some_iff.1 hx).1
  have hk := h.lt
  have hs := keeps_pos (by omega) hx hy
  rw [if_pos rfl, List.append_nil] at hs
  refine ⟨h.len, by rw [hs]; exact h.tk, by rw [hs]; exact h.cnt, by omega, by omega, ?_⟩
  have := congrArg (List.drop 1) h.dr
  rwa [List.drop_drop, List.drop_drop, show j - 1 + 1 = j by omega] at this
theorem dotb_iff {L : List Sib} (hu : Uq L) {j i : Nat} {x y : Sib} (hx : L[j]? = some x) (hy : L[i]? = some y) : (decide (x.node = y.node) && decide (x.n = y.n)) = true ↔ x = y := by
  rw [Bool.and_eq_true, decide_eq_true_eq, decide_eq_true_eq]
  exact ⟨fun h => hu x (List.mem_of_getElem? hx) y (List.mem_of_getElem? hy) h, fun h => by rw [h]; exact ⟨rfl, rfl⟩⟩
theorem compact_short {L : List Sib} (h : L.length < 2) : Lib.compact L = L := by
  match L, h with
  | [], _ => rfl
  | [x], _ => exact compact_one x
set_option maxHeartbeats 2000000 in
theorem compactM_c {o : Nat} {L : List Sib} {σ : Store} (ho : σ.heap o = some (.cells (flat (L.map sSib)))) (hu : Uq L) (hl : L.length ≤ 1000000) :
    ACalls Tryz.prog 132 [.msl o 5 0 L.length, .lit (.func (.func 133) #[] #[])] σ fun v σ' => ∃ zs : List AVal, v = .msl o 5 0 (Lib.compact L).length ∧ σ' = σ.set o (.cells (flat ((Lib.compact L).map sSib) ++ zs)) := by
  have hfl := flat_sib_len L
  refine ACalls_of Tryz.func132 rfl Tryz.ntmps132 (congrArg Array.toList Tryz.results132) (by simp only [List.length_cons, List.length_nil]; decide) ?_; simp only [envOf_cons, envOf_nil, Nat.reduceAdd]
  refine awp_seq ?_
  refine awp_region (by kernel_rfl) ?_
  (refine aL_S rfl rfl v_ ?_)
  refine aL_nil ?_
  refine awp_seq ?_
  refine awp_seq ?_
  refine awp_region (by kernel_rfl) ?_
  iterate 3 (refine aL_S rfl rfl v_ ?_)
  refine aL_nil ?_
  refine awp_cond v_ (fun hc1 => ?_) (fun hc1 => ?_)
  · replace hc1 := nm_ hc1
    refine awp_seq ?_
    refine awp_region (by kernel_rfl) ?_
    iterate 2 (refine aL_S rfl rfl v_ ?_)
    refine aL_nil ?_
    refine awp_ret ?_
    refine aEnd_ret v_ (Store.Wk.refl _) ?_
    exact ⟨[], by rw [compact_short (by omega)], by rw [compact_short (by omega), List.append_nil, Store.set_same ho]⟩
  · replace hc1 := nm_ hc1
    refine awp_skip ?_
    refine awp_seq ?_
    refine awp_seq ?_
    refine awp_region (by kernel_rfl) ?_
    (refine aL_S rfl rfl v_ ?_)
    refine aL_nil ?_
    refine awp_block ?_
    refine awp_loop_env (ι := Nat) (fun k => L.length - k) (fun k => 1 ≤ k ∧ k ≤ L.length ∧ Lib.compactUpTo L.toArray k = L.take k) (fun k => [(0, .msl o 5 0 L.length), (1, .lit (.func (.func 133) #[] #[])), (5, vInt k)]) (fun k => σ) 1 ?_ ?_ ?_ ?_
    · exact ⟨Nat.le_refl _, by omega, by rw [Lib.compactUpTo_succ]; simp [Lib.compactUpTo, Lib.keeps, show 0 < L.length by omega]; cases L with | nil => simp at hc1 | cons a l => simp⟩
    · exact cv_
    · exact sub_
    rintro k ⟨hk1, hk, hc⟩
    simp only [envL_cons, envL_nil]
    refine awp_seq ?_
    refine awp_seq ?_
    refine awp_region (by kernel_rfl) ?_
    iterate 4 (refine aL_S rfl rfl v_ ?_)
    refine aL_nil ?_
    refine awp_cond v_ (fun hc4 => ?_) (fun hc4 => ?_)
    · replace hc4 := nm_ hc4
      refine awp_skip ?_
      refine awp_seq ?_
      refine awp_block ?_
      refine awp_seq ?_
      obtain ⟨x, hx⟩ := get_some (l := L) (k := k) (by omega)
      obtain ⟨y, hy⟩ := get_some (l := L) (k := k - 1) (by omega)
      have px := flat_part hx
      have py := flat_part hy
      have hkk : ((k : Int) - 1).toNat = k - 1 := by omega
      have hks := keeps_pos hk1 hx hy
      have hdi := dotb_iff hu hx hy
      have R := And.intro px (And.intro py (And.intro ho (And.intro hfl hkk)))
      refine awp_draw (.op 0 0 (.op 1 0 (.op 2 0 (.op 3 0 (.op 4 0 (.op 5 0 (.op 6 0 (.op 7 0 (.op 8 0 (.op 9 0 (.op 10 2 .nil))))))))))) Tryz.mixed (by kernel_rfl) ?_
      iterate 10 (refine dR_S o_ (by rfl) (by rfl) v_ ?_)
      refine dR_T o_ (by rfl) (by rfl) (AOp_use (by rfl) (by rfl) (.inr ⟨va_, by rfl, by rfl⟩) g_ va_ (mergeEq_c) ?_); rintro _ _ ⟨rfl, rfl⟩
      refine dR_nil ?_
      refine awp_cond v_ (fun hc6 => ?_) (fun hc6 => ?_)
      · replace hc6 := nm_ hc6
        obtain rfl : x = y := hdi.1 (by simpa using hc6)
        rw [if_pos rfl, List.append_nil] at hks
        have hI0 : CmI L (k + 1) k L := ⟨rfl, by rw [hks, hc], by rw [hks, hc, List.length_take]; omega, by omega, by omega, by rw [Nat.add_sub_cancel]⟩
        have hset : σ = σ.set o (.cells (flat (L.map sSib))) := (Store.set_same ho).symm
        refine awp_seq ?_
        refine awp_region (by kernel_rfl) ?_
        iterate 4 (refine aL_S rfl rfl v_ ?_)
        refine aL_nil ?_
        refine awp_seq ?_
        refine awp_seq ?_
        refine awp_region (by kernel_rfl) ?_
        (refine aL_S rfl rfl v_ ?_)
        refine aL_nil ?_
        refine awp_block ?_
        refine awp_loop_env (ι := Nat × Nat × List Sib) (fun ⟨k2, kk, M⟩ => L.length - (k + k2)) (fun ⟨k2, kk, M⟩ => 1 ≤ k2 ∧ CmI L (k + k2) kk M) (fun ⟨k2, kk, M⟩ => [(0, .msl o 5 0 L.length), (1, .lit (.func (.func 133) #[] #[])), (5, vInt kk), (6, .msl o 5 (k * 5) (L.length - k)), (7, vInt k2)]) (fun ⟨k2, kk, M⟩ => (σ.set o (.cells (flat (M.map sSib))))) (1, k, L) ?_ ?_ ?_ ?_
        · exact ⟨Nat.le_refl _, hI0⟩
        · exact cv_
        · (try dsimp only); rw [Store.set_same ho]; exact Store.Wk.refl _
        rintro ⟨k2, kk, M⟩ ⟨hk2, hI⟩
        simp only [envL_cons, envL_nil]
        refine awp_seq ?_
        refine awp_seq ?_
        refine awp_region (by kernel_rfl) ?_
        iterate 4 (refine aL_S rfl rfl v_ ?_)
        refine aL_nil ?_
        refine awp_cond v_ (fun hc9 => ?_) (fun hc9 => ?_)
        · replace hc9 := nm_ hc9
          refine awp_skip ?_
          refine awp_seq ?_
          refine awp_block ?_
          refine awp_seq ?_
          have hjl : k + k2 < L.length := by omega
          obtain ⟨x, hx⟩ := get_some (l := L) (k := k + k2) hjl
          obtain ⟨y, hy⟩ := get_some (l := L) (k := k + k2 - 1) (by omega)
          have hMx : M[k + k2]? = some x := by rw [drop_get hI.dr (by omega)]; exact hx
          have hMy : M[k + (k2 - 1)]? = some y := by rw [drop_get hI.dr (by omega), show k + (k2 - 1) = k + k2 - 1 by omega]; exact hy
          have px := flat_part hMx
          have py := flat_part hMy
          rw [Nat.add_mul] at px py
          have hkk : ((k2 : Int) - 1).toNat = k2 - 1 := by omega
          have hdi := dotb_iff hu hx hy
          have hflM := flat_sib_len M
          rw [hI.len] at hflM
          have hkl := hI.lt
          have R := And.intro px (And.intro py (And.intro hflM hkk))
          refine awp_draw (.op 0 0 (.op 1 0 (.op 2 0 (.op 3 0 (.op 4 0 (.op 5 0 (.op 6 0 (.op 7 0 (.op 8 0 (.op 9 0 (.op 10 1 (.op 11 0 .nil)))))))))))) Tryz.mixed (by kernel_rfl) ?_
          iterate 10 (refine dR_S o_ (by rfl) (by rfl) v_ ?_)
          refine dR_X o_ (by rfl) (by rfl) (AOp_use (by rfl) (by rfl) (.inr ⟨va_, by rfl, by rfl⟩) g_ va_ (mergeEq_c) ?_); rintro _ _ ⟨rfl, rfl⟩; refine ⟨sub_, ?_⟩
          (refine dR_S o_ (by rfl) (by rfl) v_ ?_)
          refine dR_nil ?_
          refine awp_cond v_ (fun hc11 => ?_) (fun hc11 => ?_)
          · replace hc11 := nm_ hc11
            have hne : x ≠ y := fun h => by have := hdi.2 h; simp at this; simp [this] at hc11
            refine awp_seq ?_
            have R := And.intro px hflM
            refine awp_region (by kernel_rfl) ?_
            iterate 7 (refine aL_S rfl rfl v_ ?_)
            refine aL_store rfl rfl rfl v_ v_ h_ g_ rfl g_ c_ (by rfl) (by rw [hflM]; omega) (aput_flat (by rw [hI.len]; omega)) ?_
            refine aL_nil ?_
            refine awp_region (by kernel_rfl) ?_
            iterate 3 (refine aL_S rfl rfl v_ ?_)
            refine aL_nil ?_
            refine awp_region (by kernel_rfl) ?_
            iterate 3 (refine aL_S rfl rfl v_ ?_)
            refine aL_nil ?_
            refine aNext (ι := Nat × Nat × List Sib) (i := ⟨k2, kk, M⟩) (k2 + 1, kk + 1, M.set kk x) ?_ ?_ ?_ ?_
            · show L.length - (k + (k2 + 1)) < L.length - (k + k2); omega
            · exact ⟨by show 1 ≤ k2 + 1; omega, hI.put hx hy hne⟩
            · exact cv_
            · rw [Store.set_set]; exact Store.Wk.refl _
          · replace hc11 := nm_ hc11
            obtain rfl : x = y := hdi.1 (by simpa using hc11)
            refine awp_skip ?_
            refine awp_region (by kernel_rfl) ?_
            iterate 3 (refine aL_S rfl rfl v_ ?_)
            refine aL_nil ?_
            refine aNext (ι := Nat × Nat × List Sib) (i := ⟨k2, kk, M⟩) (k2 + 1, kk, M) ?_ ?_ ?_ ?_
            · show L.length - (k + (k2 + 1)) < L.length - (k + k2); omega
            · exact ⟨by show 1 ≤ k2 + 1; omega, hI.skip hx hy⟩
            · exact cv_
            · exact Store.Wk.refl _
        · replace hc9 := nm_ hc9
          refine awp_exit ?_
          refine aThen_exit ?_
          refine aThen_exit ?_
          refine aBlock_hit ?_
          refine awp_seq ?_
          have hkl := hI.lt
          have hle := hI.le
          have hj : k + k2 = L.length := by omega
          have hflM := flat_sib_len M
          rw [hI.len] at hflM
          have hcnt := hI.cnt
          have htk := hI.tk
          rw [hj] at hcnt htk
          refine awp_region (by kernel_rfl) ?_
          iterate 3 (refine aL_S rfl rfl v_ ?_)
          refine aL_X0 rfl rfl (AOp_clear (sz := 5) rfl g_ g_ (by rfl) (by decide) va_ h_ (by rw [hflM]; omega) fun zs hz => ?_)
          refine aL_nil ?_
          refine awp_seq ?_
          refine awp_region (by kernel_rfl) ?_
          iterate 4 (refine aL_S rfl rfl v_ ?_)
          refine aL_nil ?_
          refine awp_ret ?_
          refine aEnd_ret v_ (Store.Wk.refl _) ?_
          exact ⟨zs ++ (flat (M.map sSib)).drop (kk * 5 + zs.length), by rw [← hcnt]; rfl, by rw [Store.set_set, take_flat, htk]; rfl⟩
      · replace hc6 := nm_ hc6
        have hnx : Lib.compactUpTo L.toArray (k + 1) = L.take (k + 1) := by rw [hks, if_neg (fun h => by have := hdi.2 h; simp at this; simp [this] at hc6), hc, take_snoc hx]
        refine awp_skip ?_
        refine awp_region (by kernel_rfl) ?_
        iterate 3 (refine aL_S rfl rfl v_ ?_)
        refine aL_nil ?_
        refine aNext (ι := Nat) (i := k) (k + 1) ?_ ?_ ?_ ?_
        · omega
        · exact ⟨by omega, by omega, hnx⟩
        · exact cv_
        · exact sub_
    · replace hc4 := nm_ hc4
      refine awp_exit ?_
      refine aThen_exit ?_
      refine aThen_exit ?_
      refine aBlock_hit ?_
      refine awp_seq ?_
      skip
      have hfin : Lib.compactUpTo L.toArray L.length = L := by
        have := hc
        rwa [show k = L.length by omega, List.take_length] at this
      refine awp_region (by kernel_rfl) ?_
      iterate 2 (refine aL_S rfl rfl v_ ?_)
      refine aL_nil ?_
      refine awp_ret ?_
      refine aEnd_ret v_ (Store.Wk.refl _) ?_
      exact ⟨[], by rw [show Lib.compact L = L from hfin], by rw [show Lib.compact L = L from hfin, List.append_nil, Store.set_same ho]⟩
end Go.Proofs.YtbcgkbdacijoiaaGreat
end

section
set_option linter.all false
set_option maxRecDepth 100000
namespace Go.Proofs.YtbcgkbdacijoiaaGreat
open Go.Ab

abbrev fEq : AVal := .lit (.func (.func 133) #[] #[])
theorem compactNil_c {σ : Store} : ACalls Tryz.prog 132 [vNil, fEq] σ fun v σ' => v = vNil ∧ σ = σ' := by
  refine ACalls_of Tryz.func132 rfl Tryz.ntmps132 (congrArg Array.toList Tryz.results132) (by simp only [List.length_cons, List.length_nil]; decide) ?_; simp only [envOf_cons, envOf_nil, Nat.reduceAdd]
  refine awp_seq ?_
  refine awp_region (by kernel_rfl) ?_
  (refine aL_S rfl rfl v_ ?_)
  refine aL_nil ?_
  refine awp_seq ?_
  refine awp_seq ?_
  refine awp_region (by kernel_rfl) ?_
  iterate 3 (refine aL_S rfl rfl v_ ?_)
  refine aL_nil ?_
  refine awp_cond v_ (fun hc1 => ?_) (fun hc1 => ?_)
  · replace hc1 := nm_ hc1
    refine awp_seq ?_
    refine awp_region (by kernel_rfl) ?_
    iterate 2 (refine aL_S rfl rfl v_ ?_)
    refine aL_nil ?_
    refine awp_ret ?_
    refine aEnd_ret (σ' := σ) v_ sub_ ?_
    exact ⟨rfl, rfl⟩
  · replace hc1 := nm_ hc1
    simp at hc1
theorem compactFuncC {σ0 σ : Store} {L : List Sib} {a : AVal} (h : CBp σ0 σ 5 (L.map sSib) a) (hu : Uq L) (hl : L.length ≤ 1000000) :
    ACalls Tryz.prog 132 [a, fEq] σ fun v σ' => v = .sl 5 ((Lib.compact L).map sSib) false ∧ σ0 = σ' := by
  rcases h with ⟨rfl, h0, rfl⟩ | ⟨o, ho, rfl, rfl⟩
  · obtain rfl : L = [] := by simpa using h0
    exact compactNil_c.wkS fun v σ' ⟨hv, hs⟩ => ⟨_, σ', by rw [hv]; exact .nil 5 false, .refl _, rfl, hs⟩
  · rw [List.length_map]
    refine (compactM_c (Store.set_get ..) hu hl).after ?_
    rintro κ _ _ cv hI hr ⟨zs, rfl, rfl⟩
    obtain ⟨κ', h1, h2, h3, h4⟩ := Ab.freeze hI hr (Store.set_get ..) (l := (Lib.compact L).map sSib) (by rw [List.take_left' (by rw [flat_sib_len])]) (by simp) (szSib _)
    rw [Store.set_set, Store.set_del ho] at h3
    exact ⟨κ', _, _, h1, h2, h3, h4, rfl, rfl⟩
theorem kept_both {a b : Obj'} (ha : RiseD a.sibs) (hb : RiseD b.sibs) (x : Sib) : x ∈ keptA a b ++ keptA b a ↔ x ∈ keptA a b ++ keptB a b := by
  rw [List.mem_append, List.mem_append]
  constructor
  · rintro (h | h)
    · exact .inl h
    · obtain ⟨y, hy, hf⟩ := List.mem_filterMap.1 h
      cases hz : fnd a.sibs y.node y.n with
      | some z =>
        obtain ⟨hz1, hz2⟩ := fnd_mem hz
        have e : grS y z = x := by simpa [keptF, hz] using hf
        have hzb : fnd b.sibs z.node z.n = some y := by rw [hz2.1, hz2.2]; exact fnd_uq hb.uq hy
        exact .inl (List.mem_filterMap.2 ⟨z, hz1, by simp only [keptF, hzb]; rw [← e, grS_comm (x := z) (y := y) hz2]⟩)
      | none =>
        cases hh : hasS a.ctx y.node y.n with
        | true => simp [keptF, hz, hh] at hf
        | false =>
          obtain rfl : y = x := by simpa [keptF, hz, hh] using hf
          exact .inr (List.mem_filterMap.2 ⟨y, hy, by simp [keptG, hz, hh]⟩)
  · rintro (h | h)
    · exact .inl h
    · obtain ⟨y, hy, hg⟩ := List.mem_filterMap.1 h
      obtain ⟨rfl, h1, h2⟩ := keptG_eq hg
      exact .inr (List.mem_filterMap.2 ⟨x, hy, by simp [keptF, h1, h2]⟩)
theorem merged_row {a b : Obj'} {L : List Sib} (ha : RiseD a.sibs) (hb : RiseD b.sibs) (hp : L.Perm (keptA a b ++ keptA b a)) (hs : L.Pairwise fun x y => lessX y x = false) : Uq L ∧ Lib.compact L = mergeL a b := by
  obtain ⟨m1, m2⟩ := mergeL_spec ha hb
  have hm : ∀ x, x ∈ L ↔ x ∈ mergeL a b := fun x => by rw [hp.mem_iff, kept_both ha hb, m2]
  have hu : Uq L := fun x hx y hy e => m1.uq x ((hm x).1 hx) y ((hm y).1 hy) e
  refine ⟨hu, ?_⟩
  have hst : L.Pairwise fun x y => x = y ∨ lessX x y = true := by
    rw [List.pairwise_iff_getElem] at hs ⊢
    intro i j hi hj hij
    have h1 := hs i j hi hj hij
    by_cases hd : Dot L[j] L[i]
    · exact .inl (hu _ (List.getElem_mem hi) _ (List.getElem_mem hj) hd.symm)
    · exact .inr (lessD_tri h1 hd)
  obtain ⟨c1, c2⟩ := compact_spec (r := fun x y : Sib => lessX x y = true) (fun x y z h1 h2 => lessX_trans h1 h2) L hst
  exact riseD_unique c1 m1 fun x => by rw [c2, hm]
set_option maxHeartbeats 1000000 in
theorem merge_c {a b : Obj'} {σ : Store} (ha : ObjSm a) (hB : ObjSm b) : ACalls Tryz.prog 65 [sObj a, sObj b] σ fun v σ' => v = .tup [sObj (mergeS a b).1, vInt (mergeS a b).2] ∧ σ = σ' := by
  have na := ha.ns; have nb := hB.ns; have ca := ha.nc; have cb := hB.nc
  refine ACalls_of Tryz.func65 rfl Tryz.ntmps65 (congrArg Array.toList Tryz.results65) (by simp only [List.length_cons, List.length_nil]; decide) ?_; simp only [envOf_cons, envOf_nil, Nat.reduceAdd]
  refine awp_seq ?_
  refine awp_region (by kernel_rfl) ?_
  refine aL_box rfl rfl rfl v_ rfl g_ fun o2 ho2 => ?_
  repeat (rw [none_set_iff] at ho2; obtain ⟨_, ho2⟩ := ho2)
  refine aL_box rfl rfl rfl v_ rfl g_ fun o3 ho3 => ?_
  repeat (rw [none_set_iff] at ho3; obtain ⟨_, ho3⟩ := ho3)
  refine aL_alloc rfl rfl rfl g_ gl_ fun o4 ho4 => ?_
  repeat (rw [none_set_iff] at ho4; obtain ⟨_, ho4⟩ := ho4)
  (refine aL_S rfl rfl v_ ?_)
  refine aL_nil ?_
  refine awp_seq ?_
  refine awp_seq ?_
  refine awp_region (by kernel_rfl) ?_
  (refine aL_S rfl rfl v_ ?_)
  refine aL_X rfl rfl (AOp_use rfl rfl (.inr ⟨rfl, rfl, rfl⟩) g_ va_ (oCheck_c ha) ?_); rintro _ _ ⟨rfl, rfl⟩
  iterate 2 (refine aL_S rfl rfl v_ ?_)
  refine aL_GF rfl rfl v_ rfl vg_ ?_
  refine aL_GFX rfl rfl v_ rfl (fun hb => AOp_useV (by rfl) (by rfl) (.inr ⟨by rfl, by rfl, by rfl⟩) g_ cg_ (oCheck_c hB)) ?_
  refine aL_GF rfl rfl v_ rfl vg_ ?_
  (refine aL_S rfl rfl v_ ?_)
  refine aL_nil ?_
  refine awp_cond v_ (fun hc1 => ?_) (fun hc1 => ?_)
  · replace hc1 := nm_ hc1
    refine awp_seq ?_
    refine awp_region (by kernel_rfl) ?_
    (refine aL_S rfl rfl v_ ?_)
    refine aL_store rfl rfl rfl v_ v_ h_ g_ rfl g_ c_ (by rfl) le_ v_ ?_
    (refine aL_S rfl rfl v_ ?_)
    refine aL_nil ?_
    refine awp_ret ?_
    rw [show mergeS a b = (⟨[], []⟩, 1) from by
      rw [chk0, chk0] at hc1
      unfold mergeS
      cases h1 : objOk a <;> cases h2 : objOk b <;> simp [h1, h2] at hc1 ⊢]
    exact aEnd_retW (v := .tup [sObj ⟨[], []⟩, vInt 1]) (v' := .tup [.agg [vNil, vNil], vInt 1]) va_ (.tup _ _ rfl (fun i hi hi' => by match i, hi with | 0, _ => exact .agg _ _ rfl (fun j hj hj' => by match j, hj with | 0, _ => exact .nil _ _ | 1, _ => exact .nil _ _) | 1, _ => exact .refl _)) sub_ ⟨rfl, rfl⟩
  · replace hc1 := nm_ hc1
    rw [chk0, chk0] at hc1
    have ga := (objOk_iff.1 hc1.1).1.rise
    have gb := (objOk_iff.1 hc1.2).1.rise
    refine awp_skip ?_
    refine awp_seq ?_
    refine awp_region (by kernel_rfl) ?_
    iterate 4 (refine aL_S rfl rfl v_ ?_)
    refine aL_X rfl rfl (AOp_use rfl rfl (.inr ⟨rfl, rfl, rfl⟩) g_ va_ (join_c ha.ctx hB.ctx (by omega) (by omega)) ?_); rintro _ _ ⟨rfl, rfl⟩
    iterate 5 (refine aL_S rfl rfl v_ ?_)
    refine aL_nil ?_
    refine awp_seq ?_
    refine awp_seq ?_
    refine awp_region (by kernel_rfl) ?_
    iterate 2 (refine aL_S rfl rfl v_ ?_)
    refine aL_nil ?_
    refine awp_cond v_ (fun hc4 => ?_) (fun hc4 => ?_)
    · replace hc4 := nm_ hc4
      refine awp_seq ?_
      refine awp_region (by kernel_rfl) ?_
      iterate 2 (refine aL_S rfl rfl v_ ?_)
      refine aL_store rfl rfl rfl v_ v_ h_ g_ rfl g_ c_ (by rfl) le_ v_ ?_
      (refine aL_S rfl rfl v_ ?_)
      refine aL_nil ?_
      refine awp_ret ?_
      rw [show mergeS a b = (⟨[], []⟩, (joinS a.ctx b.ctx).2) from by simp [mergeS, hc1.1, hc1.2, hc4]]
      exact aEnd_retW (v := .tup [sObj ⟨[], []⟩, vInt (joinS a.ctx b.ctx).2]) (v' := .tup [.agg [vNil, vNil], vInt (joinS a.ctx b.ctx).2]) va_ (.tup _ _ rfl (fun i hi hi' => by match i, hi with | 0, _ => exact .agg _ _ rfl (fun j hj hj' => by match j, hj with | 0, _ => exact .nil _ _ | 1, _ => exact .nil _ _) | 1, _ => exact .refl _)) sub_ ⟨rfl, rfl⟩
    · replace hc4 := nm_ hc4
      have hms : mergeS a b = (⟨(joinS a.ctx b.ctx).1, mergeL a b⟩, 0) := by simp [mergeS, hc1.1, hc1.2, hc4]
      obtain ⟨J, hJ⟩ : ∃ J, (joinS a.ctx b.ctx).1 = J := ⟨_, rfl⟩
      rw [hJ] at hms ⊢
      have l1 : (keptA a b).length ≤ a.sibs.length := List.length_filterMap_le ..
      have l2 : (keptA b a).length ≤ b.sibs.length := List.length_filterMap_le ..
      refine awp_skip ?_
      refine awp_seq ?_
      refine awp_draw (.op 0 0 (.op 1 0 (.op 3 0 (.op 4 0 (.op 2 1 (.op 5 1 (.op 6 1 (.op 7 2 (.op 8 0 .nil))))))))) Tryz.mixed (by kernel_rfl) ?_
      iterate 4 (refine dR_S o_ (by rfl) (by rfl) v_ ?_)
      refine dR_X o_ (by rfl) (by rfl) (AOp_use (by rfl) (by rfl) (.inr ⟨by rfl, by rfl, by rfl⟩) g_ va_ (kept_c ha hB gb) ?_); rintro _ _ ⟨rfl, rfl⟩; refine ⟨sub_, ?_⟩
      refine dR_X o_ (by rfl) (by rfl) (AOp_use (by rfl) (by rfl) (.inr ⟨by rfl, by rfl, by rfl⟩) g_ va_ (kept_c hB ha ga) ?_); rintro _ _ ⟨rfl, rfl⟩; refine ⟨sub_, ?_⟩
      refine dR_X o_ (by rfl) (by rfl) (AOp_buildSlice' (by rfl) g_ g_ (by rfl) (by rfl) h_ c2_ (by decide) ⟨sub_, ?_⟩)
      refine dR_T o_ (by rfl) (by rfl) (AOp_use (by rfl) (by rfl) (.inr ⟨by rfl, by rfl, by rfl⟩) g_ va_ (concatSib_c (L1 := keptA a b) (L2 := keptA b a) (by omega) (by omega)) ?_); rintro _ τ0 hC0
      (refine dR_S o_ (by rfl) (by rfl) v_ ?_)
      refine dR_nil ?_
      refine awp_seq ?_
      refine awp_region (by kernel_rfl) ?_
      (refine aL_S rfl rfl v_ ?_)
      refine aL_X rfl rfl (AOp_use rfl rfl (.inr ⟨rfl, rfl, rfl⟩) g_ va_ (sortFuncC hC0 (by rw [List.length_append]; omega)) ?_); rintro _ τ1 ⟨rfl, L, hp, hs, hC1⟩
      obtain ⟨hu, hcm⟩ := merged_row ga gb hp hs
      have hlL : L.length ≤ 1000000 := by rw [hp.length_eq, List.length_append]; omega
      refine aL_nil ?_
      refine awp_seq ?_
      refine awp_region (by kernel_rfl) ?_
      iterate 2 (refine aL_S rfl rfl v_ ?_)
      refine aL_X rfl rfl (AOp_use rfl rfl (.inr ⟨rfl, rfl, rfl⟩) g_ va_ (compactFuncC hC1 hu hlL) ?_); rintro _ _ ⟨rfl, rfl⟩
      rw [hcm]
      (refine aL_S rfl rfl v_ ?_)
      refine aL_store rfl rfl rfl v_ v_ h_ g_ rfl g_ c_ (by rfl) le_ v_ ?_
      (refine aL_S rfl rfl v_ ?_)
      refine aL_nil ?_
      refine awp_ret ?_
      refine aEnd_ret (σ' := σ) v_ sub_ ?_
      exact ⟨by rw [hms], rfl⟩
theorem equalInts_c {a b : List Int} {ta tb : Bool} {σ : Store} (ha : a.length ≤ 1000000) (hb : b.length ≤ 1000000) : ACalls Tryz.prog 225 [.sl 1 (a.map vInt) ta, .sl 1 (b.map vInt) tb] σ fun v σ' => v = vB (decide (a = b)) ∧ σ = σ' := by
  refine ACalls_of Tryz.func225 rfl Tryz.ntmps225 (congrArg Array.toList Tryz.results225) (by simp only [List.length_cons, List.length_nil]; decide) ?_; simp only [envOf_cons, envOf_nil, Nat.reduceAdd]
  refine awp_seq ?_
  refine awp_region (by kernel_rfl) ?_
  (refine aL_S rfl rfl v_ ?_)
  refine aL_nil ?_
  refine awp_seq ?_
  refine awp_seq ?_
  refine awp_region (by kernel_rfl) ?_
  iterate 5 (refine aL_S rfl rfl v_ ?_)
  refine aL_nil ?_
  refine awp_cond v_ (fun hc1 => ?_) (fun hc1 => ?_)
  · replace hc1 := nm_ hc1
    refine awp_seq ?_
    refine awp_region (by kernel_rfl) ?_
    (refine aL_S rfl rfl v_ ?_)
    refine aL_nil ?_
    refine awp_ret ?_
    refine aEnd_ret (σ' := σ) v_ sub_ ?_
    exact ⟨by rw [decide_eq_false]; intro h; rw [h] at hc1; omega, rfl⟩
  · replace hc1 := nm_ hc1
    refine awp_skip ?_
    refine awp_seq ?_
    refine awp_seq ?_
    refine awp_region (by kernel_rfl) ?_
    iterate 3 (refine aL_S rfl rfl v_ ?_)
    refine aL_nil ?_
    refine awp_block ?_
    refine awp_loop_env (ι := Nat) (fun k => a.length - k) (fun k => k ≤ a.length ∧ a.take k = b.take k) (fun k => [(0, .sl 1 (a.map vInt) ta), (1, .sl 1 (b.map vInt) tb), (12, vInt a.length), (13, vInt k)]) (fun k => σ) 0 ?_ ?_ ?_ ?_
    · exact ⟨Nat.zero_le _, rfl⟩
    · exact cv_
    · exact sub_
    rintro k ⟨hk, he⟩
    simp only [envL_cons, envL_nil]
    refine awp_seq ?_
    refine awp_region (by kernel_rfl) ?_
    (refine aL_S rfl rfl v_ ?_)
    refine aL_nil ?_
    refine awp_seq ?_
    refine awp_cond v_ (fun hc4 => ?_) (fun hc4 => ?_)
    · replace hc4 := nm_ hc4
      refine awp_skip ?_
      refine awp_seq ?_
      refine awp_block ?_
      refine awp_seq ?_
      refine awp_region (by kernel_rfl) ?_
      iterate 2 (refine aL_S rfl rfl v_ ?_)
      refine aL_nil ?_
      refine awp_seq ?_
      obtain ⟨x, hx⟩ := get_some (l := a) (k := k) (by omega)
      obtain ⟨y, hy⟩ := get_some (l := b) (k := k) (by omega)
      have R := And.intro hx hy
      refine awp_draw (.op 0 0 (.op 1 0 (.op 2 0 (.op 3 0 (.op 4 0 (.op 5 0 (.op 6 0 (.op 7 0 (.op 8 0 .nil))))))))) Tryz.mixed (by kernel_rfl) ?_
      iterate 9 (refine dR_S o_ (by rfl) (by rfl) v_ ?_)
      refine dR_nil ?_
      refine awp_cond v_ (fun hc6 => ?_) (fun hc6 => ?_)
      · replace hc6 := nm_ hc6
        refine awp_seq ?_
        refine awp_region (by kernel_rfl) ?_
        (refine aL_S rfl rfl v_ ?_)
        refine aL_nil ?_
        refine awp_ret ?_
        refine aEnd_ret (σ' := σ) v_ sub_ ?_
        exact ⟨by rw [decide_eq_false]; intro h; rw [h, hy] at hx; exact hc6 (Option.some.inj hx).symm, rfl⟩
      · replace hc6 := nm_ hc6
        refine awp_skip ?_
        refine awp_region (by kernel_rfl) ?_
        iterate 2 (refine aL_S rfl rfl v_ ?_)
        refine aL_nil ?_
        refine aNext (ι := Nat) (i := k) (k + 1) ?_ ?_ ?_ ?_
        · omega
        · exact ⟨by omega, by rw [take_snoc hx, take_snoc hy, he, hc6]⟩
        · exact cv_
        · exact sub_
    · replace hc4 := nm_ hc4
      refine awp_exit ?_
      refine aThen_exit ?_
      refine aThen_exit ?_
      refine aBlock_hit ?_
      refine awp_seq ?_
      refine awp_region (by kernel_rfl) ?_
      (refine aL_S rfl rfl v_ ?_)
      refine aL_nil ?_
      refine awp_ret ?_
      refine aEnd_ret (σ' := σ) v_ sub_ ?_
      exact ⟨by rw [decide_eq_true]; rwa [List.take_of_length_le (by omega), List.take_of_length_le (by omega)] at he, rfl⟩
theorem equalSibs_c {a b : List Sib} {ta tb : Bool} {σ : Store} (hla : a.length ≤ 1000000) (hlb : b.length ≤ 1000000) : ACalls Tryz.prog 139 [.sl 5 (a.map sSib) ta, .sl 5 (b.map sSib) tb] σ fun v σ' => v = vB (decide (a = b)) ∧ σ = σ' := by
  refine ACalls_of Tryz.func139 rfl Tryz.ntmps139 (congrArg Array.toList Tryz.results139) (by simp only [List.length_cons, List.length_nil]; decide) ?_; simp only [envOf_cons, envOf_nil, Nat.reduceAdd]
  refine awp_seq ?_
  refine awp_region (by kernel_rfl) ?_
  (refine aL_S rfl rfl v_ ?_)
  refine aL_nil ?_
  refine awp_seq ?_
  refine awp_seq ?_
  refine awp_region (by kernel_rfl) ?_
  iterate 5 (refine aL_S rfl rfl v_ ?_)
  refine aL_nil ?_
  refine awp_cond v_ (fun hc1 => ?_) (fun hc1 => ?_)
  · replace hc1 := nm_ hc1
    refine awp_seq ?_
    refine awp_region (by kernel_rfl) ?_
    (refine aL_S rfl rfl v_ ?_)
    refine aL_nil ?_
    refine awp_ret ?_
    refine aEnd_ret (σ' := σ) v_ sub_ ?_
    exact ⟨by rw [decide_eq_false]; intro h; rw [h] at hc1; omega, rfl⟩
  · replace hc1 := nm_ hc1
    refine awp_skip ?_
    refine awp_seq ?_
    refine awp_seq ?_
    refine awp_region (by kernel_rfl) ?_
    iterate 3 (refine aL_S rfl rfl v_ ?_)
    refine aL_nil ?_
    refine awp_block ?_
    refine awp_loop_env (ι := Nat) (fun k => a.length - k) (fun k => k ≤ a.length ∧ a.take k = b.take k) (fun k => [(0, .sl 5 (a.map sSib) ta), (1, .sl 5 (b.map sSib) tb), (12, vInt a.length), (13, vInt k)]) (fun k => σ) 0 ?_ ?_ ?_ ?_
    · exact ⟨Nat.zero_le _, rfl⟩
    · exact cv_
    · exact sub_
    rintro k ⟨hk, he⟩
    simp only [envL_cons, envL_nil]
    refine awp_seq ?_
    refine awp_region (by kernel_rfl) ?_
    (refine aL_S rfl rfl v_ ?_)
    refine aL_nil ?_
    refine awp_seq ?_
    refine awp_cond v_ (fun hc4 => ?_) (fun hc4 => ?_)
    · replace hc4 := nm_ hc4
      refine awp_skip ?_
      refine awp_seq ?_
      refine awp_block ?_
      refine awp_seq ?_
      refine awp_region (by kernel_rfl) ?_
      iterate 2 (refine aL_S rfl rfl v_ ?_)
      refine aL_nil ?_
      refine awp_seq ?_
      obtain ⟨x, hx⟩ := get_some (l := a) (k := k) (by omega)
      obtain ⟨y, hy⟩ := get_some (l := b) (k := k) (by omega)
      have R := And.intro hx hy
      refine awp_draw (.op 0 0 (.op 1 0 (.op 2 0 (.op 3 0 (.op 4 0 (.op 5 0 (.op 6 0 (.op 7 0 (.op 8 0 .nil))))))))) Tryz.mixed (by kernel_rfl) ?_
      iterate 9 (refine dR_S o_ (by rfl) (by rfl) v_ ?_)
      refine dR_nil ?_
      refine awp_cond v_ (fun hc6 => ?_) (fun hc6 => ?_)
      · replace hc6 := nm_ hc6
        refine awp_seq ?_
        refine awp_region (by kernel_rfl) ?_
        (refine aL_S rfl rfl v_ ?_)
        refine aL_nil ?_
        refine awp_ret ?_
        refine aEnd_ret (σ' := σ) v_ sub_ ?_
        exact ⟨by rw [decide_eq_false]; intro h; rw [h, hy] at hx; obtain rfl := Option.some.inj hx; simp at hc6, rfl⟩
      · replace hc6 := nm_ hc6
        have hxy : x = y := by cases x; cases y; simp at hc6 ⊢; exact ⟨hc6.1.1, hc6.1.2, hc6.2.1, hc6.2.2.1, hc6.2.2.2⟩
        refine awp_skip ?_
        refine awp_region (by kernel_rfl) ?_
        iterate 2 (refine aL_S rfl rfl v_ ?_)
        refine aL_nil ?_
        refine aNext (ι := Nat) (i := k) (k + 1) ?_ ?_ ?_ ?_
        · omega
        · exact ⟨by omega, by rw [take_snoc hx, take_snoc hy, he, hxy]⟩
        · exact cv_
        · exact sub_
    · replace hc4 := nm_ hc4
      refine awp_exit ?_
      refine aThen_exit ?_
      refine aThen_exit ?_
      refine aBlock_hit ?_
      refine awp_seq ?_
      refine awp_region (by kernel_rfl) ?_
      (refine aL_S rfl rfl v_ ?_)
      refine aL_nil ?_
      refine awp_ret ?_
      refine aEnd_ret (σ' := σ) v_ sub_ ?_
      exact ⟨by rw [decide_eq_true]; rwa [List.take_of_length_le (by omega), List.take_of_length_le (by omega)] at he, rfl⟩
theorem dSame1_c {x y : Seen} {σ : Store} (hx : SeenSm x) (hy : SeenSm y) : ACalls Tryz.prog 224 [sSeen x, sSeen y] σ fun v σ' => v = vB (decide (x = y)) ∧ σ = σ' := by
  have h1 := hx.more; have h2 := hy.more
  refine ACalls_of Tryz.func224 rfl Tryz.ntmps224 (congrArg Array.toList Tryz.results224) (by simp only [List.length_cons, List.length_nil]; decide) ?_; simp only [envOf_cons, envOf_nil, Nat.reduceAdd]
  refine awp_seq ?_
  refine awp_region (by kernel_rfl) ?_
  refine aL_box rfl rfl rfl v_ rfl g_ fun o2 ho2 => ?_
  repeat (rw [none_set_iff] at ho2; obtain ⟨_, ho2⟩ := ho2)
  refine aL_box rfl rfl rfl v_ rfl g_ fun o3 ho3 => ?_
  repeat (rw [none_set_iff] at ho3; obtain ⟨_, ho3⟩ := ho3)
  (refine aL_S rfl rfl v_ ?_)
  refine aL_nil ?_
  refine awp_seq ?_
  refine awp_region (by kernel_rfl) ?_
  iterate 6 (refine aL_S rfl rfl v_ ?_)
  refine aL_GT rfl rfl v_ rfl vg_ ?_
  refine aL_GT rfl rfl v_ rfl vg_ ?_
  refine aL_GT rfl rfl v_ rfl vg_ ?_
  refine aL_GT rfl rfl v_ rfl vg_ ?_
  refine aL_GT rfl rfl v_ rfl vg_ ?_
  iterate 2 (refine aL_S rfl rfl v_ ?_)
  refine aL_GT rfl rfl v_ rfl vg_ ?_
  refine aL_GT rfl rfl v_ rfl vg_ ?_
  refine aL_GT rfl rfl v_ rfl vg_ ?_
  refine aL_GT rfl rfl v_ rfl vg_ ?_
  refine aL_GTX rfl rfl v_ rfl (fun hb => AOp_useV (by rfl) (by rfl) (.inr ⟨by rfl, by rfl, by rfl⟩) g_ cg_ (equalInts_c h1 h2)) ?_
  iterate 2 (refine aL_S rfl rfl v_ ?_)
  refine aL_nil ?_
  refine awp_ret ?_
  refine aEnd_ret (σ' := σ) v_ sub_ ?_
  refine ⟨?_, rfl⟩
  congr 2
  rw [Bool.eq_iff_iff]
  cases x; cases y
  simp [and_assoc]
theorem equalSeens_c {a b : List Seen} {ta tb : Bool} {σ : Store} (hA : ∀ x ∈ a, SeenSm x) (hB : ∀ x ∈ b, SeenSm x) (hla : a.length ≤ 1000000) (hlb : b.length ≤ 1000000) : ACalls Tryz.prog 223 [.sl 3 (a.map sSeen) ta, .sl 3 (b.map sSeen) tb, .lit (.func (.func 224) #[] #[])] σ fun v σ' => v = vB (decide (a = b)) ∧ σ = σ' := by
  refine ACalls_of Tryz.func223 rfl Tryz.ntmps223 (congrArg Array.toList Tryz.results223) (by simp only [List.length_cons, List.length_nil]; decide) ?_; simp only [envOf_cons, envOf_nil, Nat.reduceAdd]
  refine awp_seq ?_
  refine awp_region (by kernel_rfl) ?_
  (refine aL_S rfl rfl v_ ?_)
  refine aL_nil ?_
  refine awp_seq ?_
  refine awp_seq ?_
  refine awp_region (by kernel_rfl) ?_
  iterate 5 (refine aL_S rfl rfl v_ ?_)
  refine aL_nil ?_
  refine awp_cond v_ (fun hc1 => ?_) (fun hc1 => ?_)
  · replace hc1 := nm_ hc1
    refine awp_seq ?_
    refine awp_region (by kernel_rfl) ?_
    (refine aL_S rfl rfl v_ ?_)
    refine aL_nil ?_
    refine awp_ret ?_
    refine aEnd_ret (σ' := σ) v_ sub_ ?_
    exact ⟨by rw [decide_eq_false]; intro h; rw [h] at hc1; omega, rfl⟩
  · replace hc1 := nm_ hc1
    refine awp_skip ?_
    refine awp_seq ?_
    refine awp_seq ?_
    refine awp_region (by kernel_rfl) ?_
    iterate 3 (refine aL_S rfl rfl v_ ?_)
    refine aL_nil ?_
    refine awp_block ?_
    refine awp_loop_env (ι := Nat) (fun k => a.length - k) (fun k => k ≤ a.length ∧ a.take k = b.take k) (fun k => [(1, .sl 3 (b.map sSeen) tb), (2, .lit (.func (.func 224) #[] #[])), (15, .sl 3 (a.map sSeen) ta), (16, vInt a.length), (17, vInt k)]) (fun k => σ) 0 ?_ ?_ ?_ ?_
    · exact ⟨Nat.zero_le _, rfl⟩
    · exact cv_
    · exact sub_
    rintro k ⟨hk, he⟩
    simp only [envL_cons, envL_nil]
    refine awp_seq ?_
    refine awp_region (by kernel_rfl) ?_
    (refine aL_S rfl rfl v_ ?_)
    refine aL_nil ?_
    refine awp_seq ?_
    refine awp_cond v_ (fun hc4 => ?_) (fun hc4 => ?_)
    · replace hc4 := nm_ hc4
      refine awp_skip ?_
      refine awp_seq ?_
      refine awp_block ?_
      refine awp_seq ?_
      obtain ⟨x, hx⟩ := get_some (l := a) (k := k) (by omega)
      obtain ⟨y, hy⟩ := get_some (l := b) (k := k) (by omega)
      have sx := hA x (List.mem_of_getElem? hx)
      have sy := hB y (List.mem_of_getElem? hy)
      have R := And.intro hx hy
      refine awp_region (by kernel_rfl) ?_
      iterate 3 (refine aL_S rfl rfl v_ ?_)
      refine aL_alloc rfl rfl rfl g_ gl_ fun o8 ho8 => ?_
      repeat (rw [none_set_iff] at ho8; obtain ⟨_, ho8⟩ := ho8)
      (refine aL_S rfl rfl v_ ?_)
      refine aL_store rfl rfl rfl v_ v_ h_ g_ rfl g_ c_ (by rfl) le_ v_ ?_
      refine aL_nil ?_
      refine awp_seq ?_
      have R := And.intro hx hy
      refine awp_region (by kernel_rfl) ?_
      iterate 4 (refine aL_S rfl rfl v_ ?_)
      refine aL_alloc rfl rfl rfl g_ gl_ fun o9 ho9 => ?_
      repeat (rw [none_set_iff] at ho9; obtain ⟨_, ho9⟩ := ho9)
      refine aL_store rfl rfl rfl v_ v_ h_ g_ rfl g_ c_ (by rfl) le_ v_ ?_
      refine aL_nil ?_
      refine awp_seq ?_
      refine awp_region (by kernel_rfl) ?_
      iterate 3 (refine aL_S rfl rfl v_ ?_)
      refine aL_X rfl rfl (AOp_use rfl rfl (.inr ⟨va_, rfl, rfl⟩) g_ va_ (dSame1_c sx sy) ?_); rintro _ _ ⟨rfl, rfl⟩
      (refine aL_S rfl rfl v_ ?_)
      refine aL_nil ?_
      refine awp_cond v_ (fun hc7 => ?_) (fun hc7 => ?_)
      · replace hc7 := nm_ hc7
        refine awp_seq ?_
        refine awp_region (by kernel_rfl) ?_
        (refine aL_S rfl rfl v_ ?_)
        refine aL_nil ?_
        refine awp_ret ?_
        refine aEnd_ret (σ' := σ) v_ sub_ ?_
        exact ⟨by rw [decide_eq_false]; intro h; rw [h, hy] at hx; exact hc7 (Option.some.inj hx).symm, rfl⟩
      · replace hc7 := nm_ hc7
        refine awp_skip ?_
        refine awp_region (by kernel_rfl) ?_
        iterate 2 (refine aL_S rfl rfl v_ ?_)
        refine aL_nil ?_
        refine aNext (ι := Nat) (i := k) (k + 1) ?_ ?_ ?_ ?_
        · omega
        · exact ⟨by omega, by rw [take_snoc hx, take_snoc hy, he, hc7]⟩
        · exact cv_
        · exact sub_
    · replace hc4 := nm_ hc4
      refine awp_exit ?_
      refine aThen_exit ?_
      refine aThen_exit ?_
      refine aBlock_hit ?_
      refine awp_seq ?_
      refine awp_region (by kernel_rfl) ?_
      (refine aL_S rfl rfl v_ ?_)
      refine aL_nil ?_
      refine awp_ret ?_
      refine aEnd_ret (σ' := σ) v_ sub_ ?_
      exact ⟨by rw [decide_eq_true]; rwa [List.take_of_length_le (by omega), List.take_of_length_le (by omega)] at he, rfl⟩
theorem dSame_c {a b : List Seen} {ta tb : Bool} {σ : Store} (hA : ∀ x ∈ a, SeenSm x) (hB : ∀ x ∈ b, SeenSm x) (hla : a.length ≤ 1000000) (hlb : b.length ≤ 1000000) : ACalls Tryz.prog 138 [.sl 3 (a.map sSeen) ta, .sl 3 (b.map sSeen) tb] σ fun v σ' => v = vB (decide (a = b)) ∧ σ = σ' := by
  refine ACalls_of Tryz.func138 rfl Tryz.ntmps138 (congrArg Array.toList Tryz.results138) (by simp only [List.length_cons, List.length_nil]; decide) ?_; simp only [envOf_cons, envOf_nil, Nat.reduceAdd]
  refine awp_seq ?_
  refine awp_region (by kernel_rfl) ?_
  (refine aL_S rfl rfl v_ ?_)
  refine aL_nil ?_
  refine awp_seq ?_
  refine awp_region (by kernel_rfl) ?_
  iterate 2 (refine aL_S rfl rfl v_ ?_)
  refine aL_X rfl rfl (AOp_use rfl rfl (.inr ⟨rfl, rfl, rfl⟩) g_ va_ (equalSeens_c hA hB hla hlb) ?_); rintro _ _ ⟨rfl, rfl⟩
  (refine aL_S rfl rfl v_ ?_)
  refine aL_nil ?_
  refine awp_ret ?_
  refine aEnd_ret (σ' := σ) v_ sub_ ?_
  exact ⟨rfl, rfl⟩
theorem oSame_c {a b : Obj'} {σ : Store} (hA : ObjSm a) (hB : ObjSm b) : ACalls Tryz.prog 69 [sObj a, sObj b] σ fun v σ' => v = vB (decide (a = b)) ∧ σ = σ' := by
  have n1 := hA.nc; have n2 := hA.ns; have n3 := hB.nc; have n4 := hB.ns
  refine ACalls_of Tryz.func69 rfl Tryz.ntmps69 (congrArg Array.toList Tryz.results69) (by simp only [List.length_cons, List.length_nil]; decide) ?_; simp only [envOf_cons, envOf_nil, Nat.reduceAdd]
  refine awp_seq ?_
  refine awp_region (by kernel_rfl) ?_
  refine aL_box rfl rfl rfl v_ rfl g_ fun o2 ho2 => ?_
  repeat (rw [none_set_iff] at ho2; obtain ⟨_, ho2⟩ := ho2)
  refine aL_box rfl rfl rfl v_ rfl g_ fun o3 ho3 => ?_
  repeat (rw [none_set_iff] at ho3; obtain ⟨_, ho3⟩ := ho3)
  (refine aL_S rfl rfl v_ ?_)
  refine aL_nil ?_
  refine awp_seq ?_
  refine awp_region (by kernel_rfl) ?_
  iterate 4 (refine aL_S rfl rfl v_ ?_)
  refine aL_X rfl rfl (AOp_use rfl rfl (.inr ⟨rfl, rfl, rfl⟩) g_ va_ (dSame_c hA.ctx hB.ctx (by omega) (by omega)) ?_); rintro _ _ ⟨rfl, rfl⟩
  (refine aL_S rfl rfl v_ ?_)
  refine aL_GT rfl rfl v_ rfl vg_ ?_
  refine aL_GT rfl rfl v_ rfl vg_ ?_
  refine aL_GT rfl rfl v_ rfl vg_ ?_
  refine aL_GT rfl rfl v_ rfl vg_ ?_
  refine aL_GTX rfl rfl v_ rfl (fun hb => AOp_useV (by rfl) (by rfl) (.inr ⟨by rfl, by rfl, by rfl⟩) g_ cg_ (equalSibs_c (by omega) (by omega))) ?_
  iterate 2 (refine aL_S rfl rfl v_ ?_)
  refine aL_nil ?_
  refine awp_ret ?_
  refine aEnd_ret (σ' := σ) v_ sub_ ?_
  refine ⟨?_, rfl⟩
  congr 2
  rw [Bool.eq_iff_iff]
  cases a; cases b
  simp
end Go.Proofs.YtbcgkbdacijoiaaGreat
end

section
set_option linter.all false
set_option maxRecDepth 100000
namespace Go.Proofs.YtbcgkbdacijoiaaGreat
open Go.Ab

theorem sum_bd {α : Type} {f : α → Nat} {c : Nat} : ∀ {l : List α}, (∀ x ∈ l, f x ≤ c) → (l.map f).sum ≤ c * l.length
  | [], _ => by simp
  | x :: l, h => by
    have h1 := sum_bd (l := l) fun y hy => h y (.tail _ hy)
    have h2 := h x (.head _)
    simp only [List.map_cons, List.sum_cons, List.length_cons, Nat.mul_add, Nat.mul_one]; omega
def obj1 (c : List Seen) (s : Sib) : Obj' := ⟨c, [s]⟩
def newS (c : List Seen) (s : Sib) : Obj' × Int := if sibOk s = true ∧ hasS c s.node s.n = false then (if (addS c s.node s.n).2 = 0 then (obj1 (addS c s.node s.n).1 s, 0) else (⟨[], []⟩, (addS c s.node s.n).2)) else (⟨[], []⟩, 1)
theorem rNew_c {c : List Seen} {s : Sib} {t : Bool} {σ : Store} (hA : ∀ x ∈ c, SeenSm x) (hn : c.length ≤ 100000) (hs : SibSm s) : ACalls Tryz.prog 55 [.sl 3 (c.map sSeen) t, sSib s] σ fun v σ' => v = .tup [sObj (newS c s).1, vInt (newS c s).2] ∧ σ = σ' := by
  have hnd := hs.node
  refine ACalls_of Tryz.func55 rfl Tryz.ntmps55 (congrArg Array.toList Tryz.results55) (by simp only [List.length_cons, List.length_nil]; decide) ?_; simp only [envOf_cons, envOf_nil, Nat.reduceAdd]
  refine awp_seq ?_
  refine awp_region (by kernel_rfl) ?_
  refine aL_box rfl rfl rfl v_ rfl g_ fun o3 ho3 => ?_
  repeat (rw [none_set_iff] at ho3; obtain ⟨_, ho3⟩ := ho3)
  refine aL_alloc rfl rfl rfl g_ gl_ fun o4 ho4 => ?_
  repeat (rw [none_set_iff] at ho4; obtain ⟨_, ho4⟩ := ho4)
  (refine aL_S rfl rfl v_ ?_)
  refine aL_nil ?_
  refine awp_seq ?_
  refine awp_seq ?_
  refine awp_region (by kernel_rfl) ?_
  (refine aL_S rfl rfl v_ ?_)
  refine aL_X rfl rfl (AOp_use rfl rfl (.inr ⟨rfl, rfl, rfl⟩) g_ va_ (rMay06_c hA (by omega)) ?_); rintro _ _ ⟨rfl, rfl⟩
  iterate 2 (refine aL_S rfl rfl v_ ?_)
  refine aL_GF rfl rfl v_ rfl vg_ ?_
  refine aL_GFX rfl rfl v_ rfl (fun hb => AOp_useV (by rfl) (by rfl) (.inr ⟨by rfl, by rfl, by rfl⟩) g_ cg_ (rIsSib_c hs)) ?_
  refine aL_GF rfl rfl v_ rfl vg_ ?_
  iterate 2 (refine aL_S rfl rfl v_ ?_)
  refine aL_GF rfl rfl v_ rfl vg_ ?_
  refine aL_GF rfl rfl v_ rfl vg_ ?_
  refine aL_GF rfl rfl v_ rfl vg_ ?_
  refine aL_GFX rfl rfl v_ rfl (fun hb => AOp_useV (by rfl) (by rfl) (.inr ⟨by rfl, by rfl, by rfl⟩) g_ cg_ (rHas_c hA (by omega))) ?_
  (refine aL_S rfl rfl v_ ?_)
  refine aL_nil ?_
  refine awp_cond v_ (fun hc1 => ?_) (fun hc1 => ?_)
  · replace hc1 := nm_ hc1
    refine awp_seq ?_
    refine awp_region (by kernel_rfl) ?_
    (refine aL_S rfl rfl v_ ?_)
    refine aL_store rfl rfl rfl v_ v_ h_ g_ rfl g_ c_ (by rfl) le_ v_ ?_
    (refine aL_S rfl rfl v_ ?_)
    refine aL_nil ?_
    refine awp_ret ?_
    rw [show newS c s = (⟨[], []⟩, 1) from by
      unfold newS
      by_cases h : sibOk s = true ∧ hasS c s.node s.n = false
      · rw [if_pos h]
        have hk : ctxOk c = false := by
          rcases hc1 with (h' | h') | h'
          · exact h'
          · rw [h.1] at h'; cases h'
          · rw [h.2] at h'; cases h'
        have : (addS c s.node s.n).2 = 1 := by
          unfold addS
          split
          · simp [joinS, hk]
          · rfl
        rw [if_neg (by rw [this]; decide), this]
      · rw [if_neg h]]
    exact aEnd_retW (v := .tup [sObj ⟨[], []⟩, vInt 1]) (v' := .tup [.agg [vNil, vNil], vInt 1]) va_ (.tup _ _ rfl (fun i hi hi' => by match i, hi with | 0, _ => exact .agg _ _ rfl (fun j hj hj' => by match j, hj with | 0, _ => exact .nil _ _ | 1, _ => exact .nil _ _) | 1, _ => exact .refl _)) sub_ ⟨rfl, rfl⟩
  · replace hc1 := nm_ hc1
    have hnew : newS c s = if (addS c s.node s.n).2 = 0 then (obj1 (addS c s.node s.n).1 s, 0) else (⟨[], []⟩, (addS c s.node s.n).2) := by rw [newS, if_pos ⟨hc1.1.2, hc1.2⟩]
    refine awp_skip ?_
    refine awp_seq ?_
    refine awp_region (by kernel_rfl) ?_
    iterate 3 (refine aL_S rfl rfl v_ ?_)
    refine aL_X rfl rfl (AOp_use rfl rfl (.inr ⟨rfl, rfl, rfl⟩) g_ va_ (rAdd_c hA hn hnd) ?_); rintro _ _ ⟨rfl, rfl⟩
    iterate 5 (refine aL_S rfl rfl v_ ?_)
    refine aL_nil ?_
    refine awp_seq ?_
    refine awp_seq ?_
    refine awp_region (by kernel_rfl) ?_
    iterate 2 (refine aL_S rfl rfl v_ ?_)
    refine aL_nil ?_
    refine awp_cond v_ (fun hc4 => ?_) (fun hc4 => ?_)
    · replace hc4 := nm_ hc4
      refine awp_seq ?_
      refine awp_region (by kernel_rfl) ?_
      iterate 2 (refine aL_S rfl rfl v_ ?_)
      refine aL_store rfl rfl rfl v_ v_ h_ g_ rfl g_ c_ (by rfl) le_ v_ ?_
      (refine aL_S rfl rfl v_ ?_)
      refine aL_nil ?_
      refine awp_ret ?_
      rw [hnew, if_neg hc4]
      exact aEnd_retW (v := .tup [sObj ⟨[], []⟩, vInt (addS c s.node s.n).2]) (v' := .tup [.agg [vNil, vNil], vInt (addS c s.node s.n).2]) va_ (.tup _ _ rfl (fun i hi hi' => by match i, hi with | 0, _ => exact .agg _ _ rfl (fun j hj hj' => by match j, hj with | 0, _ => exact .nil _ _ | 1, _ => exact .nil _ _) | 1, _ => exact .refl _)) sub_ ⟨rfl, rfl⟩
    · replace hc4 := nm_ hc4
      refine awp_skip ?_
      refine awp_seq ?_
      refine awp_region (by kernel_rfl) ?_
      iterate 2 (refine aL_S rfl rfl v_ ?_)
      refine aL_buildSlice rfl rfl rfl g_ g_ rfl rfl h_ c2_ (by decide) ?_
      (refine aL_S rfl rfl v_ ?_)
      refine aL_store rfl rfl rfl v_ v_ h_ g_ rfl g_ c_ (by rfl) le_ v_ ?_
      (refine aL_S rfl rfl v_ ?_)
      refine aL_nil ?_
      refine awp_ret ?_
      rw [hnew, if_pos hc4]
      exact aEnd_retW (v := .tup [.agg [.sl 3 ((addS c s.node s.n).1.map sSeen) false, .sl 5 [sSib s] false], vInt 0]) (v' := .tup [.agg [.sl 3 ((addS c s.node s.n).1.map sSeen) false, .sl 5 [sSib s] true], vInt 0]) va_ (.tup _ _ rfl (fun i hi hi' => by match i, hi with | 0, _ => exact .agg _ _ rfl (fun j hj hj' => by match j, hj with | 0, _ => exact .refl _ | 1, _ => exact .sl1 _ _ _) | 1, _ => exact .refl _)) sub_ ⟨rfl, rfl⟩
end Go.Proofs.YtbcgkbdacijoiaaGreat
end

section
set_option linter.all false
set_option maxRecDepth 100000
namespace Go.Ab
open Go.RowKit (Below)
section
variable {P : Program} {o : Oper} {α : Operand → AVal} {σ : Store} {Kk : AVal → Store → Prop}
theorem sl0_val {κ : K} {sz : Nat} {tight : Bool} {v : Value} (h : Rv κ (.sl sz [] tight) v) : ∃ a cap, v = .slice a 0 cap ∧ Rv κ (.sl sz [] false) v := by
  generalize hl : ([] : List AVal) = l at h
  cases h with
  | slNil => exact ⟨_, _, rfl, .slNil _ _⟩
  | slE => exact ⟨_, _, rfl, .slE _ _ _⟩
  | sl _ _ _ b off cap vals hcap ht hsz hc hv => subst hl; exact ⟨_, _, rfl, .sl sz [] false b off cap vals hcap (by simp) hsz hc hv⟩
/-- an empty slice held against nil: either way -/
theorem AOp_eqNil0 {t yt : TypeId} {x y : Operand} {sz e : Nat} {tight : Bool} (ho : o.op = .binOp .eql t x y yt) (hse : sliceElem P t = some e) (hx : α x = .sl sz [] tight) (hy : α y = .lit (.slice none 0 0)) (hk : ∀ b, Kk (.lit (.bool b)) σ) : AOp P o α σ Kk := by
  obtain ⟨dst, op, ty, pos, after, guard⟩ := o
  obtain rfl : op = _ := ho
  intro κ ev hI hxx
  have hvx := hxx x (by simp [Op.operands])
  have hvy := hxx y (by simp [Op.operands])
  rw [hx] at hvx
  rw [hy] at hvy
  have hts : P.underlying t = some (.slice e) := by
    unfold sliceElem at hse
    split at hse
    · rename_i e' he'; obtain rfl := Option.some.inj hse; exact he'
    · cases hse
  obtain ⟨a, cap, hev, _⟩ := sl0_val hvx
  have hb : (binOp .eql t (ev x) (ev y)).run P κ.w = .ok (.bool a.isNone) κ.w := by
    have e1 : binOp .eql t (ev x) (ev y) = (do pure (.bool (← Op.equal t (ev x) (ev y)))) := by
      rw [hev, hvy.litInv]
      rfl
    rw [e1, hev, hvy.litInv]
    simp only [Sem.run_bind, run_equal_slice_nil κ.w t e a 0 cap hts, Result.andThen_ok, Sem.run_pure]
  have hg : (eqGuard .eql t x y (ev x) (ev y)).run P κ.w = .ok () κ.w := run_eqGuard_other (by rintro u v ⟨h1, _⟩; rw [hev] at h1; cases h1) (by intro h1; rw [hev] at h1; cases h1)
  refine upon_v (s := do eqGuard .eql t x y (ev x) (ev y); binOp .eql t (ev x) (ev y)) (by simp [execOp]) ⟨.bool a.isNone, κ.w, ?_, κ, .lit (.bool a.isNone), σ, rfl, .refl κ, hI, .lit _, hk _⟩
  simp only [Sem.run_bind, hg, Result.andThen_ok, hb]
/-- nothing, appended to nothing -/
theorem AOp_append00 {s x : Operand} {t e : TypeId} {sz by_ : Nat} {t1 t2 : Bool}
    (ho : o.op = .call { callee := .builtin .append, args := #[s, x], argTypes := #[t, t] }) (hse : sliceElem P t = some e) (hte : appInfo P e = some (sz, by_))
    (hs : α s = .sl sz [] t1) (hx : α x = .sl sz [] t2) (hk : Kk (.sl sz [] false) σ) : AOp P o α σ Kk := by
  obtain ⟨dst, op, ty, pos, after, guard⟩ := o
  obtain rfl : op = .call { callee := .builtin .append, args := #[s, x], argTypes := #[t, t] } := ho
  intro κ ev hI hxx
  obtain ⟨i, z, hi, hz, hisz, hiby, hzs, hsz, hby⟩ := appInfo_spec hte
  have hts : P.underlying t = some (.slice e) := by
    unfold sliceElem at hse
    split at hse
    · rename_i e' he'; obtain rfl := Option.some.inj hse; exact he'
    · cases hse
  have hvs := hxx s (by simp [Op.operands, Call.operands])
  have hvx := hxx x (by simp [Op.operands, Call.operands])
  have hsrc0 : ASrc P sz t (α x) [] := ASrc_sl hts (by rw [hx]; rfl) (by simp)
  obtain ⟨vs, _, hvsr, hsrc⟩ := hsrc0.spec hvx
  have hv0 : vs = [] := List.eq_nil_of_length_eq_zero (by rw [← hvsr.1]; rfl)
  subst hv0
  rw [hs] at hvs
  obtain ⟨a, cap, hev, hw⟩ := sl0_val hvs
  refine upon_v (s := Builtin.append_ #[t, t] ty #[ev s, ev x]) (by simp [execOp, resolve, invoke, builtin]) ⟨ev s, κ.w, ?_, κ, .sl sz [] false, σ, rfl, .refl κ, hI, hw, hk⟩
  rw [hev]
  exact run_append_zero hts hi hisz hsrc a 0 cap (Nat.zero_le _)
end
end Go.Ab
namespace Go.Proofs.YtbcgkbdacijoiaaGreat
open Go.Ab

def CBq (σ0 σ : Store) (L : List Sib) (v : AVal) : Prop := (L = [] ∧ v = .sl 5 [] false ∧ σ = σ0) ∨ ∃ o, σ0.heap o = none ∧ v = .msl o 5 0 L.length ∧ σ = σ0.set o (.cells (flat (L.map sSib)))
theorem clone0_c {t : Bool} {σ : Store} : ACalls Tryz.prog 218 [.sl 5 [] t] σ fun v σ' => v = .sl 5 [] false ∧ σ = σ' := by
  refine ACalls_of Tryz.func218 rfl Tryz.ntmps218 (congrArg Array.toList Tryz.results218) (by simp only [List.length_cons, List.length_nil]; decide) ?_; simp only [envOf_cons, envOf_nil, Nat.reduceAdd]
  refine awp_seq ?_
  refine awp_region (by kernel_rfl) ?_
  (refine aL_S rfl rfl v_ ?_)
  refine aL_nil ?_
  refine awp_seq ?_
  refine awp_seq ?_
  refine awp_region (by kernel_rfl) ?_
  (refine aL_S rfl rfl v_ ?_)
  refine aL_X rfl rfl (AOp_eqNil0 rfl g_ va_ va_ fun b => ?_)
  refine aL_nil ?_
  refine awp_cond v_ (fun hc1 => ?_) (fun hc1 => ?_)
  · replace hc1 := nm_ hc1
    refine awp_seq ?_
    refine awp_region (by kernel_rfl) ?_
    (refine aL_S rfl rfl v_ ?_)
    refine aL_nil ?_
    refine awp_ret ?_
    exact aEnd_retW (v := .sl 5 [] false) (v' := vNil) va_ (.nil _ _) sub_ ⟨rfl, rfl⟩
  · replace hc1 := nm_ hc1
    refine awp_skip ?_
    refine awp_seq ?_
    refine awp_region (by kernel_rfl) ?_
    refine aL_buildSlice rfl rfl rfl g_ g_ rfl rfl h_ c2_ (by decide) ?_
    (refine aL_S rfl rfl v_ ?_)
    refine aL_X rfl rfl (AOp_append00 rfl g_ g_ va_ va_ ?_)
    (refine aL_S rfl rfl v_ ?_)
    refine aL_nil ?_
    refine awp_ret ?_
    refine aEnd_ret (σ' := σ) v_ sub_ ?_
    exact ⟨rfl, rfl⟩
theorem clone1_c {L : List Sib} {t : Bool} {σ : Store} (h0 : L ≠ []) (hl : L.length ≤ 1000000) : ACalls Tryz.prog 218 [.sl 5 (L.map sSib) t] σ fun v σ' => ∃ o, σ.heap o = none ∧ v = .msl o 5 0 L.length ∧ σ' = σ.set o (.cells (flat (L.map sSib))) := by
  have hne : L.map sSib ≠ [] := by simpa using h0
  refine ACalls_of Tryz.func218 rfl Tryz.ntmps218 (congrArg Array.toList Tryz.results218) (by simp only [List.length_cons, List.length_nil]; decide) ?_; simp only [envOf_cons, envOf_nil, Nat.reduceAdd]
  refine awp_seq ?_
  refine awp_region (by kernel_rfl) ?_
  (refine aL_S rfl rfl v_ ?_)
  refine aL_nil ?_
  refine awp_seq ?_
  refine awp_seq ?_
  refine awp_region (by kernel_rfl) ?_
  (refine aL_S rfl rfl v_ ?_)
  refine aL_X rfl rfl (AOp_eqNil rfl g_ v_ (by exact hne) va_ ?_)
  refine aL_nil ?_
  refine awp_cond v_ (fun hc1 => ?_) (fun hc1 => ?_)
  · replace hc1 := nm_ hc1
    cases hc1
  · replace hc1 := nm_ hc1
    refine awp_skip ?_
    refine awp_seq ?_
    refine awp_region (by kernel_rfl) ?_
    refine aL_buildSlice rfl rfl rfl g_ g_ rfl rfl h_ c2_ (by decide) ?_
    (refine aL_S rfl rfl v_ ?_)
    refine aL_X rfl rfl (AOp_copyM rfl g_ g_ va_ v_ (by exact hne) (by simp; omega) fun o7 ho7 => ?_)
    (refine aL_S rfl rfl v_ ?_)
    refine aL_nil ?_
    refine awp_ret ?_
    refine aEnd_ret v_ (Store.Wk.refl _) ?_
    exact ⟨o7, ho7, by simp, rfl⟩
theorem cloneC {L : List Sib} {t : Bool} {σ : Store} (hl : L.length ≤ 1000000) : ACalls Tryz.prog 218 [.sl 5 (L.map sSib) t] σ fun v σ' => CBq σ σ' L v := by
  by_cases h : L = []
  · subst h
    exact clone0_c.wkS fun v σ' ⟨hv, hs⟩ => ⟨v, σ', .refl _, .refl _, .inl ⟨rfl, hv, hs.symm⟩⟩
  · exact (clone1_c h hl).wkS fun v σ' ⟨o, h1, h2, h3⟩ => ⟨v, σ', .refl _, .refl _, .inr ⟨o, h1, h2, h3⟩⟩
def live (x : Sib) : Bool := !x.gone
structure DlI (L : List Sib) (j i : Nat) (M : List Sib) : Prop where
  len : M.length = L.length
  tk : M.take i = (L.take j).filter live
  cnt : ((L.take j).filter live).length = i
  lt : i < j
  le : j ≤ L.length
  dr : M.drop j = L.drop j
theorem DlI.put {L : List Sib} {j i : Nat} {M : List Sib} {x : Sib} (h : DlI L j i M) (hx : L[j]? = some x) (hg : x.gone = false) : DlI L (j + 1) (i + 1) (M.set i x) := by
  have h1 := (List.getElem?_eq_some_iff.1 hx).1
  have hk := h.lt
  have hl := h.len
  have hf : (L.take (j + 1)).filter live = (L.take j).filter live ++ [x] := by rw [take_snoc hx, List.filter_append]; simp [live, hg]
  refine ⟨by rw [List.length_set]; exact hl, ?_, by rw [hf, List.length_append, h.cnt]; rfl, by omega, by omega, ?_⟩
  · rw [hf, ← h.tk, take_snoc (show (M.set i x)[i]? = some x by rw [List.getElem?_set_self]; omega), List.take_set_of_le (Nat.le_refl _)]
  · rw [List.drop_set_of_lt (by omega)]
    have := congrArg (List.drop 1) h.dr
    rwa [List.drop_drop, List.drop_drop] at this
theorem DlI.skip {L : List Sib} {j i : Nat} {M : List Sib} {x : Sib} (h : DlI L j i M) (hx : L[j]? = some x) (hg : x.gone = true) : DlI L (j + 1) i M := by
  have h1 := (List.getElem?_eq_some_iff.1 hx).1
  have hk := h.lt
  have hf : (L.take (j + 1)).filter live = (L.take j).filter live := by rw [take_snoc hx, List.filter_append]; simp [live, hg]
  refine ⟨h.len, by rw [hf]; exact h.tk, by rw [hf]; exact h.cnt, by omega, by omega, ?_⟩
  have := congrArg (List.drop 1) h.dr
  rwa [List.drop_drop, List.drop_drop] at this
end Go.Proofs.YtbcgkbdacijoiaaGreat
end

section
set_option linter.all false
set_option maxRecDepth 100000
namespace Go.Proofs.YtbcgkbdacijoiaaGreat
open Go.Ab

/-! ### objects that may be, with few parts -/
structure OkO (k : Nat) (o : Obj') : Prop where
  ok : objOk o = true
  rm : room o.ctx ≤ 480 * k
  nc : o.ctx.length ≤ 12 * k
  ns : o.sibs.length ≤ 12 * k
theorem sm_of {o : Obj'} (h : objOk o = true) (hn : o.ctx.length ≤ 1000) (hs : o.sibs.length ≤ 1000) : ObjSm o := by
  have hk := objOk_iff.1 h
  have gd := ctxOk_gd (ctxOk_iff.2 ⟨hk.1.ctx, hk.2⟩)
  refine ⟨sizes_gd gd, fun x hx => ?_, hn, hs⟩
  have h1 := (hk.1.ok x hx).1
  simp only [sibOk, Bool.and_eq_true, decide_eq_true_eq] at h1
  exact ⟨by have := nameOk_size (dotOk_iff.1 h1.1.1.1.1).1.1; omega, by omega⟩
theorem OkO.sm {k : Nat} {o : Obj'} (h : OkO k o) (hk : k ≤ 8) : ObjSm o := sm_of h.ok (by have := h.nc; omega) (by have := h.ns; omega)
theorem OkO.good {k : Nat} {o : Obj'} (h : OkO k o) : ObjG o := (objOk_iff.1 h.ok).1
theorem joinAll_len (a b : List Seen) : (joinAll a b).length ≤ a.length + b.length := by rw [joinAll, List.length_map]; exact nodesS_len a b
theorem mergeL_len (a b : Obj') : (mergeL a b).length ≤ a.sibs.length + b.sibs.length := by
  rw [mergeL, putsD_len, List.length_append]
  have h1 : (keptA a b).length ≤ a.sibs.length := List.length_filterMap_le ..
  have h2 : (keptB a b).length ≤ b.sibs.length := List.length_filterMap_le ..
  simp; omega
theorem OkO.merge {j k : Nat} {a b : Obj'} (ha : OkO j a) (hB : OkO k b) (h : j + k ≤ 8) : mergeS a b = (mergeO a b, 0) ∧ OkO (j + k) (mergeO a b) := by
  have h1 := ha.rm; have h2 := hB.rm; have h3 := ha.nc; have h4 := hB.nc; have h5 := ha.ns; have h6 := hB.ns
  obtain ⟨m1, m2⟩ := mergeS_ok ha.ok hB.ok (by omega)
  refine ⟨m1, m2, ?_, ?_, ?_⟩
  · have := join_room a.ctx b.ctx
    show room (joinAll a.ctx b.ctx) ≤ _
    omega
  · have := joinAll_len a.ctx b.ctx
    show (joinAll a.ctx b.ctx).length ≤ _
    omega
  · have := mergeL_len a b
    show (mergeL a b).length ≤ _
    omega
theorem room_bd {c : List Seen} {m : Nat} (h : ∀ x ∈ c, x.more.length ≤ m) : room c ≤ m * c.length := sum_bd h
theorem joinAll_is {a b c : List Seen} (ha : CtxG a) (hB : CtxG b) (hc : CtxG c) (h : ∀ s n, hasS c s n = (hasS a s n || hasS b s n)) : joinAll a b = c :=
  ctx_unique (join_spec ha hB).1 hc fun s n => by rw [(join_spec ha hB).2, h]

/-! ### the objects -/
def xA : Sib := ⟨B [97], 1, B [120], false, 0⟩
def kA : Seen := ⟨B [97], 1, []⟩
def zA : Obj' := ⟨[kA], [xA]⟩
theorem ok_A : OkO 1 zA := ⟨by decide +kernel, by decide, by decide, by decide⟩
theorem new_A : newS [] xA = (zA, 0) := by
  have hd : dotOk xA.node xA.n = true := by decide +kernel
  have h1 : (addS [] xA.node xA.n).2 = 0 := by rw [addNil, hd]; rfl
  have h2 : (addS [] xA.node xA.n).1 = [kA] := by
    have e := joinAll_one hd
    have hk : ctxOk [oneS xA.node xA.n] = true := ctxOk_one hd
    have : addS [] xA.node xA.n = ([oneS xA.node xA.n], 0) := by rw [addS, hd, if_pos rfl, joinS, hk, e, hk]; rfl
    rw [this]; rfl
  rw [newS, if_pos ⟨by decide +kernel, rfl⟩, if_pos h1, h2]; rfl
theorem merge_is {j k : Nat} {a b c : Obj'} (ha : OkO j a) (hB : OkO k b) (h : j + k ≤ 8) (hc : CtxG c.ctx) (h1 : ∀ s n, hasS c.ctx s n = (hasS a.ctx s n || hasS b.ctx s n)) (h2 : mergeL a b = c.sibs) : mergeS a b = (c, 0) := by
  rw [(ha.merge hB h).1, mergeO, joinAll_is ha.good.ctx hB.good.ctx hc h1, h2]
end Go.Proofs.YtbcgkbdacijoiaaGreat
end

section
set_option linter.all false
namespace Go.Ab
/-- what a store says of objects alone -/
def bare (S : Store) : Store := { S with tok := fun _ => none }
theorem bare_self (S : Store) : (bare S).Sub S := ⟨fun _ _ h => h, fun _ _ h => by cases h⟩
theorem bare_app (S : Store) (a : Option Nat) (k : Nat) (p : TypeId × Nat) : (bare S).Sub (S.newTok a k p) := ⟨fun _ _ h => h, fun _ _ h => by cases h⟩
theorem bare_app2 (S : Store) (a b : Option Nat) (k j : Nat) (p q : TypeId × Nat) : (bare S).Sub ((S.newTok a k p).newTok b j q) := ⟨fun _ _ h => h, fun _ _ h => by cases h⟩
theorem bare_of (S : Store) : ∃ T : Store, (∀ i, T.heap i = S.heap i) ∧ T.Sub S ∧ (∀ a k p, T.Sub (S.newTok a k p)) ∧ ∀ a b k j p q, T.Sub ((S.newTok a k p).newTok b j q) :=
  ⟨bare S, fun _ => rfl, bare_self S, bare_app S, bare_app2 S⟩
/-- an order of one's choice, by what a smaller store says -/
theorem awp_draw0 {P : Program} {n id : Nat} {l : List Oper} {Q : Exit → Env → Store → Prop} {e : Env} {σ : Store} (t : DT) (hm : P.follows .mixedOrders = true) (s0 : Store) (h0 : s0.Sub σ) (hB : okDraw n l.toArray t = true)
    (h : dRun P l.toArray s0 (Q .normal) t e σ) : awp P n (.region id l.toArray true) Q e σ := by
  intro κ a hs
  simp only [okDraw, Bool.and_eq_true, decide_eq_true_eq] at hB
  obtain ⟨⟨hlen, hdst⟩, hok⟩ := hB
  have hI := hs.inv.drew
  have hs' : ASat { κ with w := κ.w.drew } n e σ a := ⟨hs.defers, hs.size, fun k => (hs.env k).mono hI.1, hI.2⟩
  refine wp_region_any hm ?_
  have key := (aAny_of_dRun (P := P) (ops := l.toArray) (hd := fun i => !t.tails.contains i) (s0 := s0) (Kk := Q .normal) t false (Array.replicate l.toArray.size false) e σ ⟨by simp, fun j oj _ hl => (by rw [none_listed] at hl; cases hl)⟩ (.inr h0) h).1 hok _ hlen
  exact wpAny_of_aAny (κ0 := κ) (fun i o ho => Array.all_eq_true_iff_forall_mem.1 hdst o (Array.mem_of_getElem? ho)) (fun κ' e' σ' a' hle hs'' hk => ⟨κ', e', σ', rfl, hle, hs'', hk⟩) _ _ e σ { κ with w := κ.w.drew } a hI.1 hs' key
theorem q_gen {K : Exit → Env → Store → Prop} {ex : Exit} {e : Env} {σ : Store} (h : ∀ S, S = σ → K ex e S) : K ex e σ := h σ rfl
end Go.Ab
end
