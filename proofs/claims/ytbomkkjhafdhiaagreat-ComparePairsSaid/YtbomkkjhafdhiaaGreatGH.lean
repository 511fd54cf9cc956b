/-
  The program's values of two objects: the greater one, where a dot's value stands, what another object lets be; The reference's objects merged; The library's sort and compaction of values, of a row that grew; objects merged; Values of one dot taken once: the library's CompactFunc, of a row that is written; The program's objects merged; Objects: covering, size, one write's object; the program's and the reference's; Objects without values that are gone: the library's Clone and DeleteFunc; Objects: what must come, whatever the arguments are; A scope through which the code goes without a jump; a label; Items merged, as the program does it: two rows gone through side by side. Own work (an AI agent).
-/
import Derived.Test.YtbomkkjhafdhiaaGreatGG
import Derived.Test.YtbomkkjhafdhiaaGreatGF
import Derived.Shelf.SlSortCmp.NoneTotal
import Derived.Test.YtbomkkjhafdhiaaGreatGD
import Derived.Scope

section
set_option linter.all false
set_option maxRecDepth 100000
namespace Go.Proofs.YtbomkkjhafdhiaaGreat
open Go.Ab

theorem or3_c {a b c : Int} {t : Bool} {σ : Store} : ACalls Tryz.prog 118 [.sl 1 [vInt a, vInt b, vInt c] t] σ fun v σ' => v = vInt (if a ≠ 0 then a else if b ≠ 0 then b else c) ∧ σ = σ' := by
  refine ACalls_of Tryz.func118 rfl Tryz.ntmps118 (congrArg Array.toList Tryz.results118) (by simp only [List.length_cons, List.length_nil]; decide) ?_; simp only [envOf_cons, envOf_nil, Nat.reduceAdd]
  refine awp_seq ?_
  refine awp_region (by kernel_rfl) ?_
  (refine aL_S rfl rfl v_ ?_)
  refine aL_nil ?_
  refine awp_seq ?_
  refine awp_region (by kernel_rfl) ?_
  (refine aL_S rfl rfl v_ ?_)
  refine aL_nil ?_
  refine awp_seq ?_
  refine awp_seq ?_
  refine awp_region (by kernel_rfl) ?_
  iterate 3 (refine aL_S rfl rfl v_ ?_)
  refine aL_nil ?_
  refine awp_block ?_
  refine awp_loop_env (ι := Nat) (fun k => 3 - k) (fun k => k ≤ 3 ∧ (1 ≤ k → a = 0) ∧ (2 ≤ k → b = 0) ∧ (3 ≤ k → c = 0)) (fun k => [(3, vInt 0), (6, .sl 1 [vInt a, vInt b, vInt c] t), (7, vInt 3), (8, vInt k)]) (fun k => σ) 0 ?_ ?_ ?_ ?_
  · exact ⟨Nat.zero_le _, fun h => by omega, fun h => by omega, fun h => by omega⟩
  · exact cv_
  · exact sub_
  rintro k ⟨hk, h1, h2, h3⟩
  simp only [envL_cons, envL_nil]
  refine awp_seq ?_
  refine awp_region (by kernel_rfl) ?_
  (refine aL_S rfl rfl v_ ?_)
  refine aL_nil ?_
  refine awp_seq ?_
  refine awp_cond v_ (fun hc3 => ?_) (fun hc3 => ?_)
  · replace hc3 := nm_ hc3
    refine awp_skip ?_
    refine awp_seq ?_
    refine awp_block ?_
    refine awp_seq ?_
    skip
    obtain ⟨x, hxk, hx0, hx1, hx2⟩ : ∃ x, [vInt a, vInt b, vInt c][k]? = some (vInt x) ∧ (k = 0 → x = a) ∧ (k = 1 → x = b) ∧ (k = 2 → x = c) := by
      match k, (show k < 3 by omega) with
      | 0, _ => exact ⟨a, rfl, fun _ => rfl, (fun h => by cases h), fun h => by cases h⟩
      | 1, _ => exact ⟨b, rfl, (fun h => by cases h), (fun _ => rfl), fun h => by cases h⟩
      | 2, _ => exact ⟨c, rfl, (fun h => by cases h), (fun h => by cases h), fun _ => rfl⟩
    have R := hxk
    refine awp_region (by kernel_rfl) ?_
    iterate 3 (refine aL_S rfl rfl v_ ?_)
    refine aL_nil ?_
    refine awp_seq ?_
    refine awp_region (by kernel_rfl) ?_
    iterate 3 (refine aL_S rfl rfl v_ ?_)
    refine aL_nil ?_
    refine awp_cond v_ (fun hc5 => ?_) (fun hc5 => ?_)
    · replace hc5 := nm_ hc5
      refine awp_seq ?_
      refine awp_region (by kernel_rfl) ?_
      iterate 2 (refine aL_S rfl rfl v_ ?_)
      refine aL_nil ?_
      refine awp_ret ?_
      refine aEnd_ret (σ' := σ) v_ sub_ ?_
      refine ⟨?_, rfl⟩
      rcases Nat.lt_or_ge k 1 with h | h
      · obtain rfl := hx0 (by omega)
        rw [if_pos hc5]
      · rw [if_neg (by rw [h1 h]; simp)]
        rcases Nat.lt_or_ge k 2 with h' | h'
        · obtain rfl := hx1 (by omega)
          rw [if_pos hc5]
        · obtain rfl := hx2 (by omega)
          rw [if_neg (by rw [h2 h']; simp)]
    · replace hc5 := nm_ hc5
      have hs1 : a = 0 := by rcases Nat.lt_or_ge k 1 with h | h; exact (hx0 (by omega)) ▸ hc5; exact h1 h
      have hs2 : 2 ≤ k + 1 → b = 0 := fun h => by rcases Nat.lt_or_ge k 2 with h' | h'; exact (hx1 (by omega)) ▸ hc5; exact h2 h'
      have hs3 : 3 ≤ k + 1 → c = 0 := fun h => (hx2 (by omega)) ▸ hc5
      refine awp_skip ?_
      refine awp_region (by kernel_rfl) ?_
      iterate 2 (refine aL_S rfl rfl v_ ?_)
      refine aL_nil ?_
      refine aNext (ι := Nat) (i := k) (k + 1) ?_ ?_ ?_ ?_
      · omega
      · exact ⟨by omega, fun _ => hs1, fun h => hs2 h, fun h => hs3 h⟩
      · exact cv_
      · exact sub_
  · replace hc3 := nm_ hc3
    refine awp_exit ?_
    refine aThen_exit ?_
    refine aThen_exit ?_
    refine aBlock_hit ?_
    refine awp_seq ?_
    refine awp_region (by kernel_rfl) ?_
    iterate 2 (refine aL_S rfl rfl v_ ?_)
    refine aL_nil ?_
    refine awp_ret ?_
    refine aEnd_ret (σ' := σ) v_ sub_ ?_
    refine ⟨?_, rfl⟩
    rw [if_neg (by rw [h1 (by omega)]; simp), if_neg (by rw [h2 (by omega)]; simp), h3 (by omega)]
theorem cmpV {a b : Sib} {g : Int} (hg : g < 0 ↔ (a.gone = false ∧ b.gone = true)) : ((if cmpI a.time b.time ≠ 0 then cmpI a.time b.time else if cmpS a.value b.value ≠ 0 then cmpS a.value b.value else g) < 0) ↔ ltV a b = true := by
  rw [ltV_iff]
  unfold cmpI cmpS
  by_cases h1 : a.time < b.time
  · simp [h1]
  · by_cases h2 : b.time < a.time
    · have : a.time ≠ b.time := by omega
      simp [h1, h2, this]
    · have : a.time = b.time := by omega
      cases h3 : sLt a.value b.value with
      | true => simp [this]
      | false => by_cases h4 : a.value = b.value <;> simp [this, h4, hg]
theorem gr_yes {a b : Sib} {g : Int} (hg : g < 0 ↔ (a.gone = false ∧ b.gone = true)) (h : (if ¬cmpI a.time b.time = 0 then cmpI a.time b.time else if ¬cmpS a.value b.value = 0 then cmpS a.value b.value else g) < 0) : grS a b = b := by
  rw [grS, if_pos ((cmpV hg).1 h)]
theorem gr_no {a b : Sib} {g : Int} (hg : g < 0 ↔ (a.gone = false ∧ b.gone = true)) (h : 0 ≤ (if ¬cmpI a.time b.time = 0 then cmpI a.time b.time else if ¬cmpS a.value b.value = 0 then cmpS a.value b.value else g)) : grS a b = a := by
  rw [grS, if_neg fun k => by
    have := (cmpV hg).2 k
    have e : (if cmpI a.time b.time ≠ 0 then cmpI a.time b.time else if cmpS a.value b.value ≠ 0 then cmpS a.value b.value else g) = (if ¬cmpI a.time b.time = 0 then cmpI a.time b.time else if ¬cmpS a.value b.value = 0 then cmpS a.value b.value else g) := rfl
    omega]
theorem greater_c {a b : Sib} {σ : Store} : ACalls Tryz.prog 83 [sSib a, sSib b] σ fun v σ' => v = sSib (grS a b) ∧ σ = σ' := by
  refine ACalls_of Tryz.func83 rfl Tryz.ntmps83 (congrArg Array.toList Tryz.results83) (by simp only [List.length_cons, List.length_nil]; decide) ?_; simp only [envOf_cons, envOf_nil, Nat.reduceAdd]
  refine awp_seq ?_
  refine awp_region (by kernel_rfl) ?_
  refine aL_box rfl rfl rfl v_ rfl g_ fun o2 ho2 => ?_
  repeat (rw [none_set_iff] at ho2; obtain ⟨_, ho2⟩ := ho2)
  refine aL_box rfl rfl rfl v_ rfl g_ fun o3 ho3 => ?_
  repeat (rw [none_set_iff] at ho3; obtain ⟨_, ho3⟩ := ho3)
  refine aL_alloc rfl rfl rfl g_ gl_ fun o4 ho4 => ?_
  repeat (rw [none_set_iff] at ho4; obtain ⟨_, ho4⟩ := ho4)
  refine aL_nil ?_
  refine awp_seq ?_
  refine awp_region (by kernel_rfl) ?_
  (refine aL_S rfl rfl v_ ?_)
  refine aL_nil ?_
  refine awp_seq ?_
  refine awp_seq ?_
  refine awp_region (by kernel_rfl) ?_
  iterate 2 (refine aL_S rfl rfl v_ ?_)
  refine aL_nil ?_
  refine awp_cond v_ (fun hc2 => ?_) (fun hc2 => ?_)
  · replace hc2 := nm_ hc2
    refine awp_region (by kernel_rfl) ?_
    (refine aL_S rfl rfl v_ ?_)
    refine aL_nil ?_
    refine awp_seq ?_
    refine awp_seq ?_
    refine awp_draw (.op 0 0 (.op 1 0 (.op 2 0 (.op 3 0 (.op 5 0 (.op 6 0 (.op 7 0 (.op 8 0 (.op 10 0 (.op 4 1 (.op 9 1 (.op 11 1 (.op 12 1 (.op 13 0 .nil)))))))))))))) Tryz.mixed (by kernel_rfl) ?_
    iterate 9 (refine dR_S o_ (by rfl) (by rfl) v_ ?_)
    refine dR_X o_ (by rfl) (by rfl) (AOp_use (by rfl) (by rfl) (.inr ⟨by rfl, by rfl, by rfl⟩) g_ va_ (intCompare_c) ?_); rintro _ _ ⟨rfl, rfl⟩; refine ⟨sub_, ?_⟩
    refine dR_X o_ (by rfl) (by rfl) (AOp_use (by rfl) (by rfl) (.inr ⟨by rfl, by rfl, by rfl⟩) g_ va_ (strCompare_c) ?_); rintro _ _ ⟨rfl, rfl⟩; refine ⟨sub_, ?_⟩
    refine dR_X o_ (by rfl) (by rfl) (AOp_buildSlice' (by rfl) g_ g_ (by rfl) (by rfl) h_ c2_ (by decide) ⟨sub_, ?_⟩)
    refine dR_X o_ (by rfl) (by rfl) (AOp_use (by rfl) (by rfl) (.inr ⟨by rfl, by rfl, by rfl⟩) g_ va_ (or3_c (a := cmpI a.time b.time) (b := cmpS a.value b.value)) ?_); rintro _ _ ⟨rfl, rfl⟩; refine ⟨sub_, ?_⟩
    (refine dR_S o_ (by rfl) (by rfl) v_ ?_)
    refine dR_nil ?_
    refine awp_cond v_ (fun hc6 => ?_) (fun hc6 => ?_)
    · replace hc6 := nm_ hc6
      refine awp_seq ?_
      refine awp_region (by kernel_rfl) ?_
      (refine aL_S rfl rfl v_ ?_)
      refine aL_store rfl rfl rfl v_ v_ h_ g_ rfl g_ c_ (by rfl) le_ v_ ?_
      refine aL_nil ?_
      refine awp_ret ?_
      refine aEnd_ret (σ' := σ) v_ sub_ ?_
      exact ⟨by rw [gr_yes (by simp [hc2]) hc6], rfl⟩
    · replace hc6 := nm_ hc6
      refine awp_skip ?_
      refine awp_seq ?_
      refine awp_region (by kernel_rfl) ?_
      (refine aL_S rfl rfl v_ ?_)
      refine aL_store rfl rfl rfl v_ v_ h_ g_ rfl g_ c_ (by rfl) le_ v_ ?_
      refine aL_nil ?_
      refine awp_ret ?_
      refine aEnd_ret (σ' := σ) v_ sub_ ?_
      exact ⟨by rw [gr_no (by simp [hc2]) hc6], rfl⟩
  · replace hc2 := nm_ hc2
    refine awp_seq ?_
    refine awp_region (by kernel_rfl) ?_
    iterate 2 (refine aL_S rfl rfl v_ ?_)
    refine aL_nil ?_
    refine awp_cond v_ (fun hc4 => ?_) (fun hc4 => ?_)
    · replace hc4 := nm_ hc4
      refine awp_region (by kernel_rfl) ?_
      (refine aL_S rfl rfl v_ ?_)
      refine aL_nil ?_
      refine awp_seq ?_
      refine awp_seq ?_
      refine awp_draw (.op 0 0 (.op 1 0 (.op 2 0 (.op 3 0 (.op 5 0 (.op 6 0 (.op 7 0 (.op 8 0 (.op 10 0 (.op 4 1 (.op 9 1 (.op 11 1 (.op 12 1 (.op 13 0 .nil)))))))))))))) Tryz.mixed (by kernel_rfl) ?_
      iterate 9 (refine dR_S o_ (by rfl) (by rfl) v_ ?_)
      refine dR_X o_ (by rfl) (by rfl) (AOp_use (by rfl) (by rfl) (.inr ⟨by rfl, by rfl, by rfl⟩) g_ va_ (intCompare_c) ?_); rintro _ _ ⟨rfl, rfl⟩; refine ⟨sub_, ?_⟩
      refine dR_X o_ (by rfl) (by rfl) (AOp_use (by rfl) (by rfl) (.inr ⟨by rfl, by rfl, by rfl⟩) g_ va_ (strCompare_c) ?_); rintro _ _ ⟨rfl, rfl⟩; refine ⟨sub_, ?_⟩
      refine dR_X o_ (by rfl) (by rfl) (AOp_buildSlice' (by rfl) g_ g_ (by rfl) (by rfl) h_ c2_ (by decide) ⟨sub_, ?_⟩)
      refine dR_X o_ (by rfl) (by rfl) (AOp_use (by rfl) (by rfl) (.inr ⟨by rfl, by rfl, by rfl⟩) g_ va_ (or3_c (a := cmpI a.time b.time) (b := cmpS a.value b.value)) ?_); rintro _ _ ⟨rfl, rfl⟩; refine ⟨sub_, ?_⟩
      (refine dR_S o_ (by rfl) (by rfl) v_ ?_)
      refine dR_nil ?_
      refine awp_cond v_ (fun hc6 => ?_) (fun hc6 => ?_)
      · replace hc6 := nm_ hc6
        refine awp_seq ?_
        refine awp_region (by kernel_rfl) ?_
        (refine aL_S rfl rfl v_ ?_)
        refine aL_store rfl rfl rfl v_ v_ h_ g_ rfl g_ c_ (by rfl) le_ v_ ?_
        refine aL_nil ?_
        refine awp_ret ?_
        refine aEnd_ret (σ' := σ) v_ sub_ ?_
        exact ⟨by rw [gr_yes (by simp [hc2, hc4]) hc6], rfl⟩
      · replace hc6 := nm_ hc6
        refine awp_skip ?_
        refine awp_seq ?_
        refine awp_region (by kernel_rfl) ?_
        (refine aL_S rfl rfl v_ ?_)
        refine aL_store rfl rfl rfl v_ v_ h_ g_ rfl g_ c_ (by rfl) le_ v_ ?_
        refine aL_nil ?_
        refine awp_ret ?_
        refine aEnd_ret (σ' := σ) v_ sub_ ?_
        exact ⟨by rw [gr_no (by simp [hc2, hc4]) hc6], rfl⟩
    · replace hc4 := nm_ hc4
      refine awp_skip ?_
      refine awp_seq ?_
      refine awp_seq ?_
      refine awp_draw (.op 0 0 (.op 1 0 (.op 2 0 (.op 3 0 (.op 5 0 (.op 6 0 (.op 7 0 (.op 8 0 (.op 10 0 (.op 4 1 (.op 9 1 (.op 11 1 (.op 12 1 (.op 13 0 .nil)))))))))))))) Tryz.mixed (by kernel_rfl) ?_
      iterate 9 (refine dR_S o_ (by rfl) (by rfl) v_ ?_)
      refine dR_X o_ (by rfl) (by rfl) (AOp_use (by rfl) (by rfl) (.inr ⟨by rfl, by rfl, by rfl⟩) g_ va_ (intCompare_c) ?_); rintro _ _ ⟨rfl, rfl⟩; refine ⟨sub_, ?_⟩
      refine dR_X o_ (by rfl) (by rfl) (AOp_use (by rfl) (by rfl) (.inr ⟨by rfl, by rfl, by rfl⟩) g_ va_ (strCompare_c) ?_); rintro _ _ ⟨rfl, rfl⟩; refine ⟨sub_, ?_⟩
      refine dR_X o_ (by rfl) (by rfl) (AOp_buildSlice' (by rfl) g_ g_ (by rfl) (by rfl) h_ c2_ (by decide) ⟨sub_, ?_⟩)
      refine dR_X o_ (by rfl) (by rfl) (AOp_use (by rfl) (by rfl) (.inr ⟨by rfl, by rfl, by rfl⟩) g_ va_ (or3_c (a := cmpI a.time b.time) (b := cmpS a.value b.value)) ?_); rintro _ _ ⟨rfl, rfl⟩; refine ⟨sub_, ?_⟩
      (refine dR_S o_ (by rfl) (by rfl) v_ ?_)
      refine dR_nil ?_
      refine awp_cond v_ (fun hc6 => ?_) (fun hc6 => ?_)
      · replace hc6 := nm_ hc6
        refine awp_seq ?_
        refine awp_region (by kernel_rfl) ?_
        (refine aL_S rfl rfl v_ ?_)
        refine aL_store rfl rfl rfl v_ v_ h_ g_ rfl g_ c_ (by rfl) le_ v_ ?_
        refine aL_nil ?_
        refine awp_ret ?_
        refine aEnd_ret (σ' := σ) v_ sub_ ?_
        exact ⟨by rw [gr_yes (by simp [hc2, hc4]) hc6], rfl⟩
      · replace hc6 := nm_ hc6
        refine awp_skip ?_
        refine awp_seq ?_
        refine awp_region (by kernel_rfl) ?_
        (refine aL_S rfl rfl v_ ?_)
        refine aL_store rfl rfl rfl v_ v_ h_ g_ rfl g_ c_ (by rfl) le_ v_ ?_
        refine aL_nil ?_
        refine awp_ret ?_
        refine aEnd_ret (σ' := σ) v_ sub_ ?_
        exact ⟨by rw [gr_no (by simp [hc2, hc4]) hc6], rfl⟩
theorem rise_get {l : List Sib} (h : RiseD l) {j k : Nat} {x y : Sib} (hjk : j < k) (hj : l[j]? = some x) (hk : l[k]? = some y) : lessX x y = true := by
  obtain ⟨h1, rfl⟩ := List.getElem?_eq_some_iff.1 hj
  obtain ⟨h2, rfl⟩ := List.getElem?_eq_some_iff.1 hk
  exact List.pairwise_iff_getElem.1 h j k h1 h2 hjk
theorem lessX_trans {x y z : Sib} (h1 : lessX x y = true) (h2 : lessX y z = true) : lessX x z = true := lessD_trans h1 h2
theorem cmpD_zero {s : ByteArray} {n : Int} {s' : ByteArray} {n' : Int} : cmpD s n s' n' = 0 ↔ s = s' ∧ n = n' := by
  unfold cmpD cmpS cmpI
  cases h1 : sLt s s' with
  | true => simp; intro h; rw [h, sLt_irrefl] at h1; cases h1
  | false =>
    by_cases h2 : s = s' <;> simp [h2]
    by_cases h3 : n < n' <;> by_cases h4 : n' < n <;> simp [h3, h4] <;> omega
def LoD (l : List Sib) (x : Sib) (i : Nat) : Prop := ∀ m y, m < i → l[m]? = some y → lessX y x = true
def HiD (l : List Sib) (x : Sib) (j : Nat) : Prop := ∀ m y, j ≤ m → l[m]? = some y → lessX y x = false
theorem bsearchD_c {l : List Sib} {s : Sib} {t : Bool} {σ : Store} (hr : RiseD l) (hn : l.length ≤ 1000000) :
    ACalls Tryz.prog 82 [.sl 5 (l.map sSib) t, sSib s, .lit (.func (.func 41) #[] #[])] σ fun v σ' => (∃ r : Nat, ∃ b : Bool, v = .tup [vInt r, vB b] ∧ r ≤ l.length ∧ LoD l s r ∧ HiD l s r ∧ (b = true ↔ ∃ y, l[r]? = some y ∧ Dot y s)) ∧ σ = σ' := by
  refine ACalls_of Tryz.func82 rfl Tryz.ntmps82 (congrArg Array.toList Tryz.results82) (by simp only [List.length_cons, List.length_nil]; decide) ?_; simp only [envOf_cons, envOf_nil, Nat.reduceAdd]
  refine awp_seq ?_
  refine awp_region (by kernel_rfl) ?_
  refine aL_box rfl rfl rfl v_ rfl g_ fun o4 ho4 => ?_
  repeat (rw [none_set_iff] at ho4; obtain ⟨_, ho4⟩ := ho4)
  iterate 2 (refine aL_S rfl rfl v_ ?_)
  refine aL_nil ?_
  refine awp_seq ?_
  refine awp_region (by kernel_rfl) ?_
  iterate 3 (refine aL_S rfl rfl v_ ?_)
  refine aL_nil ?_
  refine awp_seq ?_
  refine awp_region (by kernel_rfl) ?_
  iterate 3 (refine aL_S rfl rfl v_ ?_)
  refine aL_nil ?_
  refine awp_seq ?_
  refine awp_block ?_
  refine awp_loop_env (ι := Nat × Nat) (fun ⟨i, j⟩ => j - i) (fun ⟨i, j⟩ => i ≤ j ∧ j ≤ l.length ∧ LoD l s i ∧ HiD l s j) (fun ⟨i, j⟩ => [(0, .sl 5 (l.map sSib) t), (4, .ref o4 0), (2, .lit (.func (.func 41) #[] #[])), (8, vInt l.length), (9, vInt i), (10, vInt j)]) (fun ⟨i, j⟩ => (σ.set o4 (.cells (sSib s).cells))) (0, l.length) ?_ ?_ ?_ ?_
  · exact ⟨Nat.zero_le _, Nat.le_refl _, (fun m x h => by omega), fun m x h hx => by rw [List.getElem?_eq_none (by omega)] at hx; cases hx⟩
  · exact cv_
  · exact Store.Wk.refl _
  rintro ⟨i, j⟩ ⟨hij, hj, hlo, hhi⟩
  simp only [envL_cons, envL_nil]
  refine awp_seq ?_
  refine awp_seq ?_
  refine awp_region (by kernel_rfl) ?_
  iterate 3 (refine aL_S rfl rfl v_ ?_)
  refine aL_nil ?_
  refine awp_cond v_ (fun hc3 => ?_) (fun hc3 => ?_)
  · replace hc3 := nm_ hc3
    refine awp_skip ?_
    refine awp_block ?_
    refine awp_seq ?_
    have hdiv : ((i : Int) + j) / 2 ^ 1 = (((i + j) / 2 : Nat) : Int) := by omega
    obtain ⟨x, hx⟩ := get_some (l := l) (k := (i + j) / 2) (by omega)
    have R := And.intro wrap_u64_m hdiv
    refine awp_region (by kernel_rfl) ?_
    iterate 7 (refine aL_S rfl rfl v_ ?_)
    refine aL_nil ?_
    refine awp_seq ?_
    have R := hx
    refine awp_draw (.op 0 0 (.op 1 0 (.op 2 0 (.op 3 0 (.op 4 0 (.op 5 0 (.op 6 1 (.op 7 0 .nil)))))))) Tryz.mixed (by kernel_rfl) ?_
    iterate 6 (refine dR_S o_ (by rfl) (by rfl) v_ ?_)
    refine dR_X o_ (by rfl) (by rfl) (AOp_use (by rfl) (by rfl) (.inr ⟨va_, by rfl, by rfl⟩) g_ va_ (order_c) ?_); rintro _ _ ⟨rfl, rfl⟩; refine ⟨sub_, ?_⟩
    (refine dR_S o_ (by rfl) (by rfl) v_ ?_)
    refine dR_nil ?_
    refine awp_cond v_ (fun hc5 => ?_) (fun hc5 => ?_)
    · replace hc5 := nm_ hc5
      have hlt := cmp_less'.1 hc5
      have hlo' : LoD l s ((i + j) / 2 + 1) := fun m y hm hy => by
        rcases Nat.lt_or_eq_of_le (Nat.le_of_lt_succ hm) with h | h
        · exact lessX_trans (rise_get hr h hy hx) hlt
        · rw [h, hx] at hy; obtain rfl := Option.some.inj hy; exact hlt
      refine awp_region (by kernel_rfl) ?_
      iterate 3 (refine aL_S rfl rfl v_ ?_)
      refine aL_nil ?_
      refine aNext (ι := Nat × Nat) (i := ⟨i, j⟩) ((i + j) / 2 + 1, j) ?_ ?_ ?_ ?_
      · show j - ((i + j) / 2 + 1) < j - i; omega
      · exact ⟨by show (i + j) / 2 + 1 ≤ j; omega, hj, hlo', hhi⟩
      · have R := hdiv; exact cv_
      · exact sub_
    · replace hc5 := nm_ hc5
      skip
      have hge := cmp_less.1 hc5
      have hhi' : HiD l s ((i + j) / 2) := fun m y hm hy => by
        rcases Nat.lt_or_eq_of_le hm with h | h
        · cases k : lessX y s with
          | false => rfl
          | true => have := lessX_trans (rise_get hr h hx hy) k; rw [lessX, hge] at this; cases this
        · rw [← h, hx] at hy; obtain rfl := Option.some.inj hy; exact hge
      refine awp_region (by kernel_rfl) ?_
      iterate 2 (refine aL_S rfl rfl v_ ?_)
      refine aL_nil ?_
      refine aNext (ι := Nat × Nat) (i := ⟨i, j⟩) (i, (i + j) / 2) ?_ ?_ ?_ ?_
      · show (i + j) / 2 - i < j - i; omega
      · exact ⟨by show i ≤ (i + j) / 2; omega, by show (i + j) / 2 ≤ l.length; omega, hlo, hhi'⟩
      · have R := hdiv; exact cv_
      · exact sub_
  · replace hc3 := nm_ hc3
    refine awp_exit ?_
    refine aThen_exit ?_
    refine aThen_exit ?_
    refine aBlock_hit ?_
    refine awp_seq ?_
    skip
    obtain rfl : i = j := by omega
    obtain ⟨x, hx⟩ := get_if l i
    have R := hx
    refine awp_draw (.op 0 0 (.op 1 0 (.op 2 0 (.op 3 0 (.op 4 0 (.op 5 0 (.op 6 0 (.op 7 0 (.op 8 0 (.op 9 0 (.op 10 0 (.op 11 1 (.op 12 0 (.op 13 0 (.op 14 0 (.op 15 0 .nil)))))))))))))))) Tryz.mixed (by kernel_rfl) ?_
    iterate 5 (refine dR_S o_ (by rfl) (by rfl) v_ ?_)
    refine dR_GT o_ (by rfl) (by rfl) v_ (by rfl) vg_ ?_
    refine dR_GT o_ (by rfl) (by rfl) v_ (by rfl) vg_ ?_
    refine dR_GT o_ (by rfl) (by rfl) v_ (by rfl) vg_ ?_
    refine dR_GT o_ (by rfl) (by rfl) v_ (by rfl) vg_ ?_
    refine dR_GT o_ (by rfl) (by rfl) v_ (by rfl) vg_ ?_
    refine dR_GT o_ (by rfl) (by rfl) v_ (by rfl) vg_ ?_
    refine dR_GTX o_ (by rfl) (by rfl) v_ (by rfl) sub_ (fun hb => AOp_useV (by rfl) (by rfl) (.inr ⟨vh_, by rfl, by rfl⟩) g_ cg_ (order_c)) ?_
    refine dR_GT o_ (by rfl) (by rfl) v_ (by rfl) vg_ ?_
    iterate 3 (refine dR_S o_ (by rfl) (by rfl) v_ ?_)
    refine dR_nil ?_
    refine awp_ret ?_
    refine aEnd_ret (σ' := σ) v_ sub_ ?_
    refine ⟨⟨i, _, rfl, hj, hlo, hhi, ?_⟩, rfl⟩
    rw [Bool.and_eq_true, decide_eq_true_eq, decide_eq_true_eq, cmpD_zero]
    constructor
    · rintro ⟨h1, h2⟩; exact ⟨x, hx (by omega), h2⟩
    · rintro ⟨y, hy, h2⟩
      have h1 := (List.getElem?_eq_some_iff.1 hy).1
      rw [hx h1] at hy
      obtain rfl := Option.some.inj hy
      exact ⟨by omega, h2⟩
theorem fnd_search {l : List Sib} {s : Sib} {r : Nat} {b : Bool} (hr : RiseD l) (hlo : LoD l s r) (hhi : HiD l s r) (hb : b = true ↔ ∃ y, l[r]? = some y ∧ Dot y s) : (b = true → ∃ y, l[r]? = some y ∧ fnd l s.node s.n = some y) ∧ (b = false → fnd l s.node s.n = none) := by
  refine ⟨fun h => ?_, fun h => ?_⟩
  · obtain ⟨y, hy, hd⟩ := hb.1 h
    refine ⟨y, hy, ?_⟩
    have := fnd_uq hr.uq (List.mem_of_getElem? hy)
    rwa [hd.1, hd.2] at this
  · refine fnd_none.2 fun z hz hd => ?_
    obtain ⟨m, hm⟩ := List.mem_iff_getElem?.1 hz
    rcases Nat.lt_trichotomy m r with k | k | k
    · exact lessD_ne (hlo m z k hm) hd
    · subst k
      have := hb.2 ⟨z, hm, hd⟩
      rw [h] at this; cases this
    · obtain ⟨y, hy⟩ := get_some (l := l) (k := r) (by have := (List.getElem?_eq_some_iff.1 hm).1; omega)
      have h1 := rise_get hr k hy hm
      have h2 := hhi r y (Nat.le_refl _) hy
      unfold lessX at h1 h2
      rw [hd.1, hd.2, h2] at h1
      cases h1
set_option maxHeartbeats 1000000 in
theorem kept_c {o p : Obj'} {σ : Store} (ho : ObjSm o) (hp : ObjSm p) (hr : RiseD p.sibs) : ACalls Tryz.prog 39 [sObj o, sObj p] σ fun v σ' => v = .sl 5 ((keptA o p).map sSib) false ∧ σ = σ' := by
  have hns := ho.ns; have hnp := hp.ns; have hnc := hp.nc
  refine ACalls_of Tryz.func39 rfl Tryz.ntmps39 (congrArg Array.toList Tryz.results39) (by simp only [List.length_cons, List.length_nil]; decide) ?_; simp only [envOf_cons, envOf_nil, Nat.reduceAdd]
  refine awp_seq ?_
  refine awp_region (by kernel_rfl) ?_
  refine aL_box rfl rfl rfl v_ rfl g_ fun o2 ho2 => ?_
  repeat (rw [none_set_iff] at ho2; obtain ⟨_, ho2⟩ := ho2)
  refine aL_box rfl rfl rfl v_ rfl g_ fun o3 ho3 => ?_
  repeat (rw [none_set_iff] at ho3; obtain ⟨_, ho3⟩ := ho3)
  (refine aL_S rfl rfl v_ ?_)
  refine aL_nil ?_
  refine awp_seq ?_
  refine awp_region (by kernel_rfl) ?_
  refine aL_nilOwn 75 5 rfl rfl rfl (by rfl) fun k5 hk5 => ?_
  refine aL_nil ?_
  refine awp_seq ?_
  refine awp_seq ?_
  refine awp_region (by kernel_rfl) ?_
  iterate 4 (refine aL_S rfl rfl v_ ?_)
  refine aL_nil ?_
  refine awp_block ?_
  refine awp_loop_env (ι := Nat × Nat) (fun ⟨t, k⟩ => o.sibs.length - k) (fun ⟨t, k⟩ => k ≤ o.sibs.length ∧ σ.tok t = none) (fun ⟨t, k⟩ => [(3, .ref o3 0), (5, .own t 5 (((o.sibs.take k).filterMap (keptF p)).map sSib)), (11, .sl 5 (o.sibs.map sSib) false), (12, vInt o.sibs.length), (13, vInt k)]) (fun ⟨t, k⟩ => (((σ.newTok none t (75, 5)).set o2 (.cells (sObj o).cells)).set o3 (.cells (sObj p).cells))) (k5, 0) ?_ ?_ ?_ ?_
  · exact ⟨Nat.zero_le _, hk5⟩
  · exact cv_
  · exact Store.Wk.refl _
  rintro ⟨t, k⟩ ⟨hk, ht⟩
  simp only [envL_cons, envL_nil]
  refine awp_seq ?_
  refine awp_region (by kernel_rfl) ?_
  (refine aL_S rfl rfl v_ ?_)
  refine aL_nil ?_
  refine awp_seq ?_
  refine awp_cond v_ (fun hc3 => ?_) (fun hc3 => ?_)
  · replace hc3 := nm_ hc3
    refine awp_skip ?_
    refine awp_seq ?_
    refine awp_block ?_
    refine awp_seq ?_
    obtain ⟨x, hx⟩ := get_some (l := o.sibs) (k := k) (by omega)
    have hlen : ((o.sibs.take k).filterMap (keptF p)).length ≤ k := Nat.le_trans (List.length_filterMap_le ..) (by simp; omega)
    have hsx := ho.sibs x (List.mem_of_getElem? hx)
    have hnx := hsx.node
    have R := hx
    refine awp_region (by kernel_rfl) ?_
    iterate 2 (refine aL_S rfl rfl v_ ?_)
    refine aL_alloc rfl rfl rfl g_ gl_ fun o7 ho7 => ?_
    repeat (rw [none_set_iff] at ho7; obtain ⟨_, ho7⟩ := ho7)
    refine aL_store rfl rfl rfl v_ v_ h_ g_ rfl g_ c_ (by rfl) le_ v_ ?_
    refine aL_nil ?_
    refine awp_seq ?_
    refine awp_region (by kernel_rfl) ?_
    iterate 3 (refine aL_S rfl rfl v_ ?_)
    refine aL_X rfl rfl (AOp_use rfl rfl (.inr ⟨rfl, rfl, rfl⟩) g_ va_ (bsearchD_c hr (by omega)) ?_); rintro _ _ ⟨⟨r, b, rfl, h1, h2, h3, h4⟩, rfl⟩
    have hfs := fnd_search hr h2 h3 h4
    iterate 5 (refine aL_S rfl rfl v_ ?_)
    refine aL_nil ?_
    refine awp_block ?_
    refine awp_seq ?_
    refine awp_region (by kernel_rfl) ?_
    iterate 2 (refine aL_S rfl rfl v_ ?_)
    refine aL_nil ?_
    refine awp_cond v_ (fun hc6 => ?_) (fun hc6 => ?_)
    · replace hc6 := nm_ hc6
      obtain ⟨y, hy, hf⟩ := hfs.1 hc6
      have hrl := (List.getElem?_eq_some_iff.1 hy).1
      have hkf : keptF p x = some (grS x y) := by simp [keptF, hf]
      have hcov : ((o.sibs.take (k + 1)).filterMap (keptF p)).map sSib = ((o.sibs.take k).filterMap (keptF p)).map sSib ++ [sSib (grS x y)] := by rw [take_snoc hx, List.filterMap_append, List.map_append]; simp [hkf]
      have R := hy
      refine awp_draw (.op 0 0 (.op 1 0 (.op 2 0 (.op 3 0 (.op 4 0 (.op 5 0 (.op 6 0 (.op 7 1 (.op 8 1 (.op 9 2 (.op 10 0 .nil))))))))))) Tryz.mixed (by kernel_rfl) ?_
      iterate 7 (refine dR_S o_ (by rfl) (by rfl) v_ ?_)
      refine dR_X o_ (by rfl) (by rfl) (AOp_use (by rfl) (by rfl) (.inr ⟨by rfl, by rfl, by rfl⟩) g_ va_ (greater_c) ?_); rintro _ _ ⟨rfl, rfl⟩; refine ⟨sub_, ?_⟩
      refine dR_X o_ (by rfl) (by rfl) (AOp_buildSlice' (by rfl) g_ g_ (by rfl) (by rfl) h_ c2_ (by decide) ⟨sub_, ?_⟩)
      refine dR_T o_ (by rfl) (by rfl) (AOp_appendS (by rfl) g_ g_ (.inl ⟨_, va_, h_, rfl⟩) (.inl ⟨⟨_, g_⟩, .inl v_, c_⟩) (by simp; omega) fun k35 hk35 => ?_)
      (refine dR_S o_ (by rfl) (by rfl) v_ ?_)
      refine dR_nil ?_
      refine awp_region (by kernel_rfl) ?_
      iterate 2 (refine aL_S rfl rfl v_ ?_)
      refine aL_nil ?_
      refine aNext (ι := Nat × Nat) (i := ⟨t, k⟩) (k35, k + 1) ?_ ?_ ?_ ?_
      · show o.sibs.length - (k + 1) < o.sibs.length - k; omega
      · exact ⟨by show k + 1 ≤ o.sibs.length; omega, (newTok_none hk35).2⟩
      · have R := hcov; exact cv_
      · exact sub_
    · replace hc6 := nm_ hc6
      have hf := hfs.2 hc6
      refine awp_seq ?_
      refine awp_region (by kernel_rfl) ?_
      iterate 4 (refine aL_S rfl rfl v_ ?_)
      refine aL_X rfl rfl (AOp_use rfl rfl (.inr ⟨rfl, rfl, rfl⟩) g_ va_ (has_c hp.ctx (by omega)) ?_); rintro _ _ ⟨rfl, rfl⟩
      iterate 2 (refine aL_S rfl rfl v_ ?_)
      refine aL_nil ?_
      refine awp_cond v_ (fun hc8 => ?_) (fun hc8 => ?_)
      · replace hc8 := nm_ hc8
        have hkf : keptF p x = some x := by simp [keptF, hf, hc8]
        have hcov : ((o.sibs.take (k + 1)).filterMap (keptF p)).map sSib = ((o.sibs.take k).filterMap (keptF p)).map sSib ++ [sSib x] := by rw [take_snoc hx, List.filterMap_append, List.map_append]; simp [hkf]
        refine awp_region (by kernel_rfl) ?_
        iterate 2 (refine aL_S rfl rfl v_ ?_)
        refine aL_buildSlice rfl rfl rfl g_ g_ rfl rfl h_ c2_ (by decide) ?_
        refine aL_append rfl rfl rfl g_ g_ v_ h_ v_ c_ (by simp; omega) fun k46 hk46 => ?_
        (refine aL_S rfl rfl v_ ?_)
        refine aL_nil ?_
        refine awp_region (by kernel_rfl) ?_
        iterate 2 (refine aL_S rfl rfl v_ ?_)
        refine aL_nil ?_
        refine aNext (ι := Nat × Nat) (i := ⟨t, k⟩) (k46, k + 1) ?_ ?_ ?_ ?_
        · show o.sibs.length - (k + 1) < o.sibs.length - k; omega
        · exact ⟨by show k + 1 ≤ o.sibs.length; omega, (newTok_none hk46).2⟩
        · have R := hcov; exact cv_
        · exact sub_
      · replace hc8 := nm_ hc8
        have hkf : keptF p x = none := by simp [keptF, hf, hc8]
        have hcov : ((o.sibs.take (k + 1)).filterMap (keptF p)).map sSib = ((o.sibs.take k).filterMap (keptF p)).map sSib := by rw [take_snoc hx, List.filterMap_append, List.map_append]; simp [hkf]
        refine awp_skip ?_
        refine awp_region (by kernel_rfl) ?_
        iterate 2 (refine aL_S rfl rfl v_ ?_)
        refine aL_nil ?_
        refine aNext (ι := Nat × Nat) (i := ⟨t, k⟩) (t, k + 1) ?_ ?_ ?_ ?_
        · show o.sibs.length - (k + 1) < o.sibs.length - k; omega
        · exact ⟨by show k + 1 ≤ o.sibs.length; omega, ht⟩
        · have R := hcov; exact cv_
        · exact sub_
  · replace hc3 := nm_ hc3
    refine awp_exit ?_
    refine aThen_exit ?_
    refine aThen_exit ?_
    refine aBlock_hit ?_
    refine awp_seq ?_
    skip
    have hfin : (o.sibs.take k).filterMap (keptF p) = keptA o p := by rw [List.take_of_length_le (by omega)]; rfl
    refine awp_region (by kernel_rfl) ?_
    iterate 2 (refine aL_S rfl rfl v_ ?_)
    refine aL_nil ?_
    refine awp_ret ?_
    rw [← hfin]
    exact aEnd_retW (v := .sl 5 (((o.sibs.take k).filterMap (keptF p)).map sSib) false) (v' := .own t 5 (((o.sibs.take k).filterMap (keptF p)).map sSib)) va_ (.own1 _ _ _) sub_ ⟨rfl, rfl⟩
end Go.Proofs.YtbomkkjhafdhiaaGreat
end

section
set_option linter.all false
set_option maxRecDepth 100000
namespace Go.Proofs.YtbomkkjhafdhiaaGreat
open Go.Ab

theorem putD_len (s : Sib) : ∀ (l : List Sib), (putD l s).length = l.length + 1
  | [] => rfl
  | y :: l => by
    unfold putD
    split
    · simp [putD_len s l]
    · simp
theorem putsD_len : ∀ (M l : List Sib), (M.foldl putD l).length = l.length + M.length
  | [], l => by simp
  | s :: M, l => by rw [List.foldl_cons, putsD_len M, putD_len, List.length_cons]; omega
end Go.Proofs.YtbomkkjhafdhiaaGreat
end

section
set_option linter.all false
set_option maxRecDepth 100000
namespace Go.Proofs.YtbomkkjhafdhiaaGreat
open Go.Ab Go.Shelf Go.Proofs

abbrev fOrd : AVal := .lit (.func (.func 41) #[] #[])
theorem sortNil2_c {f : FuncId} {fv : Value} {σ : Store} (h : ∀ w, Calls Tryz.prog f #[.slice none 0 0, fv] w fun e w' => e = .returned (.tuple #[]) ∧ w' = w) :
    ACalls Tryz.prog f [.lit (.slice none 0 0), .lit fv] σ fun v σ' => v = .tup [] ∧ σ' = σ := by
  intro κ vs hI hn hv
  have e0 := (hv 0 (by simp)).litInv
  have e1 := (hv 1 (by simp)).litInv
  have hvs : vs = #[.slice none 0 0, fv] := by
    apply Array.ext (by simpa using hn)
    intro i h1 h2
    have eg : vs.getD i undef = vs[i] := by simp [h1]
    match i, h2 with
    | 0, _ => rw [← eg, e0]; rfl
    | 1, _ => rw [← eg, e1]; rfl
  rw [hvs]
  exact (h κ.w).mono fun ex w' ⟨he, hw⟩ => ⟨_, he, by rw [hw]; exact postNil (K.Le.refl κ) hI ⟨rfl, rfl⟩⟩
theorem sortFuncC {σ0 σ : Store} {L : List Sib} {a : AVal} (h : CBp σ0 σ 5 (L.map sSib) a) (hl : L.length ≤ 1000000000) :
    ACalls Tryz.prog 40 [a, fOrd] σ fun v σ' => v = .tup [] ∧ ∃ L' : List Sib, L'.Perm L ∧ L'.Pairwise (fun x y => lessX y x = false) ∧ CBp σ0 σ' 5 (L'.map sSib) a := by
  rcases h with ⟨rfl, h0, rfl⟩ | ⟨o, ho, rfl, rfl⟩
  · obtain rfl : L = [] := by simpa using h0
    exact (sortNil2_c fun w => AnyF.slices_SortFunc_none sortF none 0 _ w).wkS fun v σ' ⟨hv, hs⟩ => ⟨v, σ', .refl _, .refl _, hv, [], .refl _, .nil, .inl ⟨rfl, rfl, hs⟩⟩
  · rw [List.length_map]
    exact (sortFunc_c (Store.set_get ..) hl).wkS fun v σ' ⟨hv, L', h1, h2, h3⟩ => ⟨v, σ', .refl _, .refl _, hv, L', h1, h2, .inr ⟨o, ho, by rw [List.length_map, h1.length_eq], by rw [h3, Store.set_set]⟩⟩
theorem flat_sib_len (L : List Sib) : (flat (L.map sSib)).length = L.length * 5 := by rw [flat_length (szSib L), List.length_map]
theorem flat_part : ∀ {L : List Sib} {j : Nat} {x : Sib}, L[j]? = some x → ((flat (L.map sSib)).drop (j * 5)).take 5 = [vStr x.node, vInt x.n, vStr x.value, .lit (.bool x.gone), vInt x.time]
  | [], j, x, h => by simp at h
  | y :: L, 0, x, h => by
    simp only [List.getElem?_cons_zero, Option.some.injEq] at h
    subst h
    rfl
  | y :: L, j + 1, x, h => by
    rw [List.map_cons, flat_cons, show (j + 1) * 5 = 5 + j * 5 by omega, ← List.drop_drop]
    exact flat_part (L := L) (j := j) h
theorem aput_flat {M : List Sib} {j : Nat} {x : Sib} (hj : j < M.length) : aput (flat (M.map sSib)) (j * 5) [vStr x.node, vInt x.n, vStr x.value, .lit (.bool x.gone), vInt x.time] = flat ((M.set j x).map sSib) := by
  have e : M.set j x = M.take j ++ x :: M.drop (j + 1) := by rw [List.set_eq_take_append_cons_drop, if_pos hj]
  have e2 : M = M.take j ++ M[j] :: M.drop (j + 1) := by rw [List.getElem_cons_drop hj, List.take_append_drop]
  have hl : (flat ((M.take j).map sSib)).length = j * 5 := by rw [flat_sib_len, List.length_take, Nat.min_eq_left (by omega)]
  rw [e]
  conv => lhs; rw [e2]
  unfold aput
  rw [List.map_append, List.map_cons, flat_append, flat_cons, List.map_append, List.map_cons, flat_append, flat_cons, List.take_left' hl, List.drop_append, List.drop_of_length_le (by rw [hl]; simp), hl, show j * 5 + [vStr x.node, vInt x.n, vStr x.value, AVal.lit (.bool x.gone), vInt x.time].length - j * 5 = 5 from by simp]
  simp [AVal.cells]
theorem take_flat {M : List Sib} {j : Nat} {zs : List AVal} : aput (flat (M.map sSib)) (j * 5) zs = flat ((M.take j).map sSib) ++ (zs ++ (flat (M.map sSib)).drop (j * 5 + zs.length)) := by
  unfold aput
  rw [List.append_assoc, List.map_take, flat_take (szSib M)]
theorem mergeEq_c {x y : Sib} {σ : Store} : ACalls Tryz.prog 43 [sSib x, sSib y] σ fun v σ' => v = vB (decide (x.node = y.node) && decide (x.n = y.n)) ∧ σ = σ' := by
  refine ACalls_of Tryz.func43 rfl Tryz.ntmps43 (congrArg Array.toList Tryz.results43) (by simp only [List.length_cons, List.length_nil]; decide) ?_; simp only [envOf_cons, envOf_nil, Nat.reduceAdd]
  refine awp_seq ?_
  refine awp_region (by kernel_rfl) ?_
  refine aL_box rfl rfl rfl v_ rfl g_ fun o2 ho2 => ?_
  repeat (rw [none_set_iff] at ho2; obtain ⟨_, ho2⟩ := ho2)
  refine aL_box rfl rfl rfl v_ rfl g_ fun o3 ho3 => ?_
  repeat (rw [none_set_iff] at ho3; obtain ⟨_, ho3⟩ := ho3)
  (refine aL_S rfl rfl v_ ?_)
  refine aL_nil ?_
  refine awp_seq ?_
  refine awp_region (by kernel_rfl) ?_
  iterate 6 (refine aL_S rfl rfl v_ ?_)
  refine aL_nil ?_
  refine awp_ret ?_
  refine aEnd_ret (σ' := σ) v_ sub_ ?_
  exact ⟨rfl, rfl⟩
theorem keeps_pos {L : List Sib} {k : Nat} {x y : Sib} (hk : 0 < k) (hx : L[k]? = some x) (hy : L[k - 1]? = some y) : Lib.compactUpTo L.toArray (k + 1) = Lib.compactUpTo L.toArray k ++ (if x = y then [] else [x]) := by
  have h1 := (List.getElem?_eq_some_iff.1 hx).1
  have h2 := (List.getElem?_eq_some_iff.1 hy).1
  have e1 : L.toArray[k]! = x := by
    have := (List.getElem?_eq_some_iff.1 hx).2
    simp [h1, this]
  have e2 : L.toArray[k - 1]! = y := by
    have := (List.getElem?_eq_some_iff.1 hy).2
    simp [h2, this]
  rw [Lib.compactUpTo_succ]
  congr 1
  simp only [Lib.keeps, e1, e2]
  by_cases h : x = y
  · simp [h, show k ≠ 0 by omega]
  · simp [h]
end Go.Proofs.YtbomkkjhafdhiaaGreat
end

section
set_option linter.all false
set_option maxRecDepth 100000
namespace Go.Proofs.YtbomkkjhafdhiaaGreat
open Go.Ab

structure CmI (L : List Sib) (j : Nat) (kk : Nat) (M : List Sib) : Prop where
  len : M.length = L.length
  tk : M.take kk = Lib.compactUpTo L.toArray j
  cnt : (Lib.compactUpTo L.toArray j).length = kk
  lt : kk < j
  le : j ≤ L.length
  dr : M.drop (j - 1) = L.drop (j - 1)
theorem drop_get {L M : List Sib} {d j : Nat} (h : M.drop d = L.drop d) (hj : d ≤ j) : M[j]? = L[j]? := by
  have := congrArg (fun l => l[j - d]?) h
  simp only [List.getElem?_drop] at this
  rwa [show d + (j - d) = j by omega] at this
theorem CmI.put {L : List Sib} {j kk : Nat} {M : List Sib} {x y : Sib} (h : CmI L j kk M) (hx : L[j]? = some x) (hy : L[j - 1]? = some y) (hn : x ≠ y) : CmI L (j + 1) (kk + 1) (M.set kk x) := by
  have h1 := (List.getElem?_eq_some_iff.1 hx).1
  have hk := h.lt
  have hs := keeps_pos (by omega) hx hy
  rw [if_neg hn] at hs
  have hl := h.len
  refine ⟨by rw [List.length_set]; exact h.len, ?_, by rw [hs, List.length_append, h.cnt]; rfl, by omega, by omega, ?_⟩
  · rw [hs, ← h.tk]
    rw [take_snoc (show (M.set kk x)[kk]? = some x by rw [List.getElem?_set_self]; omega), List.take_set_of_le (Nat.le_refl _)]
  · rw [Nat.add_sub_cancel, List.drop_set_of_lt (by omega)]
    have := congrArg (List.drop 1) h.dr
    rwa [List.drop_drop, List.drop_drop, show j - 1 + 1 = j by omega] at this
theorem CmI.skip {L : List Sib} {j kk : Nat} {M : List Sib} {x : Sib} (h : CmI L j kk M) (hx : L[j]? = some x) (hy : L[j - 1]? = some x) : CmI L (j + 1) kk M := by
  have h1 := (List.getElem?_eq_some_iff.1 hx).1
  have hk := h.lt
  have hs := keeps_pos (by omega) hx hy
  rw [if_pos rfl, List.append_nil] at hs
  refine ⟨h.len, by rw [hs]; exact h.tk, by rw [hs]; exact h.cnt, by omega, by omega, ?_⟩
  have := congrArg (List.drop 1) h.dr
  rwa [List.drop_drop, List.drop_drop, show j - 1 + 1 = j by omega] at this
theorem dotb_iff {L : List Sib} (hu : Uq L) {j i : Nat} {x y : Sib} (hx : L[j]? = some x) (hy : L[i]? = some y) : (decide (x.node = y.node) && decide (x.n = y.n)) = true ↔ x = y := by
  rw [Bool.and_eq_true, decide_eq_true_eq, decide_eq_true_eq]
  exact ⟨fun h => hu x (List.mem_of_getElem? hx) y (List.mem_of_getElem? hy) h, fun h => by rw [h]; exact ⟨rfl, rfl⟩⟩
theorem compact_short {L : List Sib} (h : L.length < 2) : Lib.compact L = L := by
  match L, h with
  | [], _ => rfl
  | [x], _ => exact compact_one x
set_option maxHeartbeats 2000000 in
theorem compactM_c {o : Nat} {L : List Sib} {σ : Store} (ho : σ.heap o = some (.cells (flat (L.map sSib)))) (hu : Uq L) (hl : L.length ≤ 1000000) :
    ACalls Tryz.prog 42 [.msl o 5 0 L.length, .lit (.func (.func 43) #[] #[])] σ fun v σ' => ∃ zs : List AVal, v = .msl o 5 0 (Lib.compact L).length ∧ σ' = σ.set o (.cells (flat ((Lib.compact L).map sSib) ++ zs)) := by
  have hfl := flat_sib_len L
  refine ACalls_of Tryz.func42 rfl Tryz.ntmps42 (congrArg Array.toList Tryz.results42) (by simp only [List.length_cons, List.length_nil]; decide) ?_; simp only [envOf_cons, envOf_nil, Nat.reduceAdd]
  refine awp_seq ?_
  refine awp_region (by kernel_rfl) ?_
  (refine aL_S rfl rfl v_ ?_)
  refine aL_nil ?_
  refine awp_seq ?_
  refine awp_seq ?_
  refine awp_region (by kernel_rfl) ?_
  iterate 3 (refine aL_S rfl rfl v_ ?_)
  refine aL_nil ?_
  refine awp_cond v_ (fun hc1 => ?_) (fun hc1 => ?_)
  · replace hc1 := nm_ hc1
    refine awp_seq ?_
    refine awp_region (by kernel_rfl) ?_
    iterate 2 (refine aL_S rfl rfl v_ ?_)
    refine aL_nil ?_
    refine awp_ret ?_
    refine aEnd_ret v_ (Store.Wk.refl _) ?_
    exact ⟨[], by rw [compact_short (by omega)], by rw [compact_short (by omega), List.append_nil, Store.set_same ho]⟩
  · replace hc1 := nm_ hc1
    refine awp_skip ?_
    refine awp_seq ?_
    refine awp_seq ?_
    refine awp_region (by kernel_rfl) ?_
    (refine aL_S rfl rfl v_ ?_)
    refine aL_nil ?_
    refine awp_block ?_
    refine awp_loop_env (ι := Nat) (fun k => L.length - k) (fun k => 1 ≤ k ∧ k ≤ L.length ∧ Lib.compactUpTo L.toArray k = L.take k) (fun k => [(0, .msl o 5 0 L.length), (1, .lit (.func (.func 43) #[] #[])), (5, vInt k)]) (fun k => σ) 1 ?_ ?_ ?_ ?_
    · exact ⟨Nat.le_refl _, by omega, by rw [Lib.compactUpTo_succ]; simp [Lib.compactUpTo, Lib.keeps, show 0 < L.length by omega]; cases L with | nil => simp at hc1 | cons a l => simp⟩
    · exact cv_
    · exact sub_
    rintro k ⟨hk1, hk, hc⟩
    simp only [envL_cons, envL_nil]
    refine awp_seq ?_
    refine awp_seq ?_
    refine awp_region (by kernel_rfl) ?_
    iterate 4 (refine aL_S rfl rfl v_ ?_)
    refine aL_nil ?_
    refine awp_cond v_ (fun hc4 => ?_) (fun hc4 => ?_)
    · replace hc4 := nm_ hc4
      refine awp_skip ?_
      refine awp_seq ?_
      refine awp_block ?_
      refine awp_seq ?_
      obtain ⟨x, hx⟩ := get_some (l := L) (k := k) (by omega)
      obtain ⟨y, hy⟩ := get_some (l := L) (k := k - 1) (by omega)
      have px := flat_part hx
      have py := flat_part hy
      have hkk : ((k : Int) - 1).toNat = k - 1 := by omega
      have hks := keeps_pos hk1 hx hy
      have hdi := dotb_iff hu hx hy
      have R := And.intro px (And.intro py (And.intro ho (And.intro hfl hkk)))
      refine awp_draw (.op 0 0 (.op 1 0 (.op 2 0 (.op 3 0 (.op 4 0 (.op 5 0 (.op 6 0 (.op 7 0 (.op 8 0 (.op 9 0 (.op 10 2 .nil))))))))))) Tryz.mixed (by kernel_rfl) ?_
      iterate 10 (refine dR_S o_ (by rfl) (by rfl) v_ ?_)
      refine dR_T o_ (by rfl) (by rfl) (AOp_use (by rfl) (by rfl) (.inr ⟨va_, by rfl, by rfl⟩) g_ va_ (mergeEq_c) ?_); rintro _ _ ⟨rfl, rfl⟩
      refine dR_nil ?_
      refine awp_cond v_ (fun hc6 => ?_) (fun hc6 => ?_)
      · replace hc6 := nm_ hc6
        obtain rfl : x = y := hdi.1 (by simpa using hc6)
        rw [if_pos rfl, List.append_nil] at hks
        have hI0 : CmI L (k + 1) k L := ⟨rfl, by rw [hks, hc], by rw [hks, hc, List.length_take]; omega, by omega, by omega, by rw [Nat.add_sub_cancel]⟩
        have hset : σ = σ.set o (.cells (flat (L.map sSib))) := (Store.set_same ho).symm
        refine awp_seq ?_
        refine awp_region (by kernel_rfl) ?_
        iterate 4 (refine aL_S rfl rfl v_ ?_)
        refine aL_nil ?_
        refine awp_seq ?_
        refine awp_seq ?_
        refine awp_region (by kernel_rfl) ?_
        (refine aL_S rfl rfl v_ ?_)
        refine aL_nil ?_
        refine awp_block ?_
        refine awp_loop_env (ι := Nat × Nat × List Sib) (fun ⟨k2, kk, M⟩ => L.length - (k + k2)) (fun ⟨k2, kk, M⟩ => 1 ≤ k2 ∧ CmI L (k + k2) kk M) (fun ⟨k2, kk, M⟩ => [(0, .msl o 5 0 L.length), (1, .lit (.func (.func 43) #[] #[])), (5, vInt kk), (6, .msl o 5 (k * 5) (L.length - k)), (7, vInt k2)]) (fun ⟨k2, kk, M⟩ => (σ.set o (.cells (flat (M.map sSib))))) (1, k, L) ?_ ?_ ?_ ?_
        · exact ⟨Nat.le_refl _, hI0⟩
        · exact cv_
        · (try dsimp only); rw [Store.set_same ho]; exact Store.Wk.refl _
        rintro ⟨k2, kk, M⟩ ⟨hk2, hI⟩
        simp only [envL_cons, envL_nil]
        refine awp_seq ?_
        refine awp_seq ?_
        refine awp_region (by kernel_rfl) ?_
        iterate 4 (refine aL_S rfl rfl v_ ?_)
        refine aL_nil ?_
        refine awp_cond v_ (fun hc9 => ?_) (fun hc9 => ?_)
        · replace hc9 := nm_ hc9
          refine awp_skip ?_
          refine awp_seq ?_
          refine awp_block ?_
          refine awp_seq ?_
          have hjl : k + k2 < L.length := by omega
          obtain ⟨x, hx⟩ := get_some (l := L) (k := k + k2) hjl
          obtain ⟨y, hy⟩ := get_some (l := L) (k := k + k2 - 1) (by omega)
          have hMx : M[k + k2]? = some x := by rw [drop_get hI.dr (by omega)]; exact hx
          have hMy : M[k + (k2 - 1)]? = some y := by rw [drop_get hI.dr (by omega), show k + (k2 - 1) = k + k2 - 1 by omega]; exact hy
          have px := flat_part hMx
          have py := flat_part hMy
          rw [Nat.add_mul] at px py
          have hkk : ((k2 : Int) - 1).toNat = k2 - 1 := by omega
          have hdi := dotb_iff hu hx hy
          have hflM := flat_sib_len M
          rw [hI.len] at hflM
          have hkl := hI.lt
          have R := And.intro px (And.intro py (And.intro hflM hkk))
          refine awp_draw (.op 0 0 (.op 1 0 (.op 2 0 (.op 3 0 (.op 4 0 (.op 5 0 (.op 6 0 (.op 7 0 (.op 8 0 (.op 9 0 (.op 10 1 (.op 11 0 .nil)))))))))))) Tryz.mixed (by kernel_rfl) ?_
          iterate 10 (refine dR_S o_ (by rfl) (by rfl) v_ ?_)
          refine dR_X o_ (by rfl) (by rfl) (AOp_use (by rfl) (by rfl) (.inr ⟨va_, by rfl, by rfl⟩) g_ va_ (mergeEq_c) ?_); rintro _ _ ⟨rfl, rfl⟩; refine ⟨sub_, ?_⟩
          (refine dR_S o_ (by rfl) (by rfl) v_ ?_)
          refine dR_nil ?_
          refine awp_cond v_ (fun hc11 => ?_) (fun hc11 => ?_)
          · replace hc11 := nm_ hc11
            have hne : x ≠ y := fun h => by have := hdi.2 h; simp at this; simp [this] at hc11
            refine awp_seq ?_
            have R := And.intro px hflM
            refine awp_region (by kernel_rfl) ?_
            iterate 7 (refine aL_S rfl rfl v_ ?_)
            refine aL_store rfl rfl rfl v_ v_ h_ g_ rfl g_ c_ (by rfl) (by rw [hflM]; omega) (aput_flat (by rw [hI.len]; omega)) ?_
            refine aL_nil ?_
            refine awp_region (by kernel_rfl) ?_
            iterate 3 (refine aL_S rfl rfl v_ ?_)
            refine aL_nil ?_
            refine awp_region (by kernel_rfl) ?_
            iterate 3 (refine aL_S rfl rfl v_ ?_)
            refine aL_nil ?_
            refine aNext (ι := Nat × Nat × List Sib) (i := ⟨k2, kk, M⟩) (k2 + 1, kk + 1, M.set kk x) ?_ ?_ ?_ ?_
            · show L.length - (k + (k2 + 1)) < L.length - (k + k2); omega
            · exact ⟨by show 1 ≤ k2 + 1; omega, hI.put hx hy hne⟩
            · exact cv_
            · rw [Store.set_set]; exact Store.Wk.refl _
          · replace hc11 := nm_ hc11
            obtain rfl : x = y := hdi.1 (by simpa using hc11)
            refine awp_skip ?_
            refine awp_region (by kernel_rfl) ?_
            iterate 3 (refine aL_S rfl rfl v_ ?_)
            refine aL_nil ?_
            refine aNext (ι := Nat × Nat × List Sib) (i := ⟨k2, kk, M⟩) (k2 + 1, kk, M) ?_ ?_ ?_ ?_
            · show L.length - (k + (k2 + 1)) < L.length - (k + k2); omega
            · exact ⟨by show 1 ≤ k2 + 1; omega, hI.skip hx hy⟩
            · exact cv_
            · exact Store.Wk.refl _
        · replace hc9 := nm_ hc9
          refine awp_exit ?_
          refine aThen_exit ?_
          refine aThen_exit ?_
          refine aBlock_hit ?_
          refine awp_seq ?_
          have hkl := hI.lt
          have hle := hI.le
          have hj : k + k2 = L.length := by omega
          have hflM := flat_sib_len M
          rw [hI.len] at hflM
          have hcnt := hI.cnt
          have htk := hI.tk
          rw [hj] at hcnt htk
          refine awp_region (by kernel_rfl) ?_
          iterate 3 (refine aL_S rfl rfl v_ ?_)
          refine aL_X0 rfl rfl (AOp_clear (sz := 5) rfl g_ g_ (by rfl) (by decide) va_ h_ (by rw [hflM]; omega) fun zs hz => ?_)
          refine aL_nil ?_
          refine awp_seq ?_
          refine awp_region (by kernel_rfl) ?_
          iterate 4 (refine aL_S rfl rfl v_ ?_)
          refine aL_nil ?_
          refine awp_ret ?_
          refine aEnd_ret v_ (Store.Wk.refl _) ?_
          exact ⟨zs ++ (flat (M.map sSib)).drop (kk * 5 + zs.length), by rw [← hcnt]; rfl, by rw [Store.set_set, take_flat, htk]; rfl⟩
      · replace hc6 := nm_ hc6
        have hnx : Lib.compactUpTo L.toArray (k + 1) = L.take (k + 1) := by rw [hks, if_neg (fun h => by have := hdi.2 h; simp at this; simp [this] at hc6), hc, take_snoc hx]
        refine awp_skip ?_
        refine awp_region (by kernel_rfl) ?_
        iterate 3 (refine aL_S rfl rfl v_ ?_)
        refine aL_nil ?_
        refine aNext (ι := Nat) (i := k) (k + 1) ?_ ?_ ?_ ?_
        · omega
        · exact ⟨by omega, by omega, hnx⟩
        · exact cv_
        · exact sub_
    · replace hc4 := nm_ hc4
      refine awp_exit ?_
      refine aThen_exit ?_
      refine aThen_exit ?_
      refine aBlock_hit ?_
      refine awp_seq ?_
      skip
      have hfin : Lib.compactUpTo L.toArray L.length = L := by
        have := hc
        rwa [show k = L.length by omega, List.take_length] at this
      refine awp_region (by kernel_rfl) ?_
      iterate 2 (refine aL_S rfl rfl v_ ?_)
      refine aL_nil ?_
      refine awp_ret ?_
      refine aEnd_ret v_ (Store.Wk.refl _) ?_
      exact ⟨[], by rw [show Lib.compact L = L from hfin], by rw [show Lib.compact L = L from hfin, List.append_nil, Store.set_same ho]⟩
end Go.Proofs.YtbomkkjhafdhiaaGreat
end

section
set_option linter.all false
set_option maxRecDepth 100000
namespace Go.Proofs.YtbomkkjhafdhiaaGreat
open Go.Ab

abbrev fEq : AVal := .lit (.func (.func 43) #[] #[])
theorem compactNil_c {σ : Store} : ACalls Tryz.prog 42 [vNil, fEq] σ fun v σ' => v = vNil ∧ σ = σ' := by
  refine ACalls_of Tryz.func42 rfl Tryz.ntmps42 (congrArg Array.toList Tryz.results42) (by simp only [List.length_cons, List.length_nil]; decide) ?_; simp only [envOf_cons, envOf_nil, Nat.reduceAdd]
  refine awp_seq ?_
  refine awp_region (by kernel_rfl) ?_
  (refine aL_S rfl rfl v_ ?_)
  refine aL_nil ?_
  refine awp_seq ?_
  refine awp_seq ?_
  refine awp_region (by kernel_rfl) ?_
  iterate 3 (refine aL_S rfl rfl v_ ?_)
  refine aL_nil ?_
  refine awp_cond v_ (fun hc1 => ?_) (fun hc1 => ?_)
  · replace hc1 := nm_ hc1
    refine awp_seq ?_
    refine awp_region (by kernel_rfl) ?_
    iterate 2 (refine aL_S rfl rfl v_ ?_)
    refine aL_nil ?_
    refine awp_ret ?_
    refine aEnd_ret (σ' := σ) v_ sub_ ?_
    exact ⟨rfl, rfl⟩
  · replace hc1 := nm_ hc1
    simp at hc1
theorem compactFuncC {σ0 σ : Store} {L : List Sib} {a : AVal} (h : CBp σ0 σ 5 (L.map sSib) a) (hu : Uq L) (hl : L.length ≤ 1000000) :
    ACalls Tryz.prog 42 [a, fEq] σ fun v σ' => v = .sl 5 ((Lib.compact L).map sSib) false ∧ σ0 = σ' := by
  rcases h with ⟨rfl, h0, rfl⟩ | ⟨o, ho, rfl, rfl⟩
  · obtain rfl : L = [] := by simpa using h0
    exact compactNil_c.wkS fun v σ' ⟨hv, hs⟩ => ⟨_, σ', by rw [hv]; exact .nil 5 false, .refl _, rfl, hs⟩
  · rw [List.length_map]
    refine (compactM_c (Store.set_get ..) hu hl).after ?_
    rintro κ _ _ cv hI hr ⟨zs, rfl, rfl⟩
    obtain ⟨κ', h1, h2, h3, h4⟩ := Ab.freeze hI hr (Store.set_get ..) (l := (Lib.compact L).map sSib) (by rw [List.take_left' (by rw [flat_sib_len])]) (by simp) (szSib _)
    rw [Store.set_set, Store.set_del ho] at h3
    exact ⟨κ', _, _, h1, h2, h3, h4, rfl, rfl⟩
theorem kept_both {a b : Obj'} (ha : RiseD a.sibs) (hb : RiseD b.sibs) (x : Sib) : x ∈ keptA a b ++ keptA b a ↔ x ∈ keptA a b ++ keptB a b := by
  rw [List.mem_append, List.mem_append]
  constructor
  · rintro (h | h)
    · exact .inl h
    · obtain ⟨y, hy, hf⟩ := List.mem_filterMap.1 h
      cases hz : fnd a.sibs y.node y.n with
      | some z =>
        obtain ⟨hz1, hz2⟩ := fnd_mem hz
        have e : grS y z = x := by simpa [keptF, hz] using hf
        have hzb : fnd b.sibs z.node z.n = some y := by rw [hz2.1, hz2.2]; exact fnd_uq hb.uq hy
        exact .inl (List.mem_filterMap.2 ⟨z, hz1, by simp only [keptF, hzb]; rw [← e, grS_comm (x := z) (y := y) hz2]⟩)
      | none =>
        cases hh : hasS a.ctx y.node y.n with
        | true => simp [keptF, hz, hh] at hf
        | false =>
          obtain rfl : y = x := by simpa [keptF, hz, hh] using hf
          exact .inr (List.mem_filterMap.2 ⟨y, hy, by simp [keptG, hz, hh]⟩)
  · rintro (h | h)
    · exact .inl h
    · obtain ⟨y, hy, hg⟩ := List.mem_filterMap.1 h
      obtain ⟨rfl, h1, h2⟩ := keptG_eq hg
      exact .inr (List.mem_filterMap.2 ⟨x, hy, by simp [keptF, h1, h2]⟩)
theorem merged_row {a b : Obj'} {L : List Sib} (ha : RiseD a.sibs) (hb : RiseD b.sibs) (hp : L.Perm (keptA a b ++ keptA b a)) (hs : L.Pairwise fun x y => lessX y x = false) : Uq L ∧ Lib.compact L = mergeL a b := by
  obtain ⟨m1, m2⟩ := mergeL_spec ha hb
  have hm : ∀ x, x ∈ L ↔ x ∈ mergeL a b := fun x => by rw [hp.mem_iff, kept_both ha hb, m2]
  have hu : Uq L := fun x hx y hy e => m1.uq x ((hm x).1 hx) y ((hm y).1 hy) e
  refine ⟨hu, ?_⟩
  have hst : L.Pairwise fun x y => x = y ∨ lessX x y = true := by
    rw [List.pairwise_iff_getElem] at hs ⊢
    intro i j hi hj hij
    have h1 := hs i j hi hj hij
    by_cases hd : Dot L[j] L[i]
    · exact .inl (hu _ (List.getElem_mem hi) _ (List.getElem_mem hj) hd.symm)
    · exact .inr (lessD_tri h1 hd)
  obtain ⟨c1, c2⟩ := compact_spec (r := fun x y : Sib => lessX x y = true) (fun x y z h1 h2 => lessX_trans h1 h2) L hst
  exact riseD_unique c1 m1 fun x => by rw [c2, hm]
set_option maxHeartbeats 1000000 in
theorem merge_c {a b : Obj'} {σ : Store} (ha : ObjSm a) (hB : ObjSm b) : ACalls Tryz.prog 20 [sObj a, sObj b] σ fun v σ' => v = .tup [sObj (mergeS a b).1, vInt (mergeS a b).2] ∧ σ = σ' := by
  have na := ha.ns; have nb := hB.ns; have ca := ha.nc; have cb := hB.nc
  refine ACalls_of Tryz.func20 rfl Tryz.ntmps20 (congrArg Array.toList Tryz.results20) (by simp only [List.length_cons, List.length_nil]; decide) ?_; simp only [envOf_cons, envOf_nil, Nat.reduceAdd]
  refine awp_seq ?_
  refine awp_region (by kernel_rfl) ?_
  refine aL_box rfl rfl rfl v_ rfl g_ fun o2 ho2 => ?_
  repeat (rw [none_set_iff] at ho2; obtain ⟨_, ho2⟩ := ho2)
  refine aL_box rfl rfl rfl v_ rfl g_ fun o3 ho3 => ?_
  repeat (rw [none_set_iff] at ho3; obtain ⟨_, ho3⟩ := ho3)
  refine aL_alloc rfl rfl rfl g_ gl_ fun o4 ho4 => ?_
  repeat (rw [none_set_iff] at ho4; obtain ⟨_, ho4⟩ := ho4)
  (refine aL_S rfl rfl v_ ?_)
  refine aL_nil ?_
  refine awp_seq ?_
  refine awp_seq ?_
  refine awp_region (by kernel_rfl) ?_
  (refine aL_S rfl rfl v_ ?_)
  refine aL_X rfl rfl (AOp_use rfl rfl (.inr ⟨rfl, rfl, rfl⟩) g_ va_ (oCheck_c ha) ?_); rintro _ _ ⟨rfl, rfl⟩
  iterate 2 (refine aL_S rfl rfl v_ ?_)
  refine aL_GF rfl rfl v_ rfl vg_ ?_
  refine aL_GFX rfl rfl v_ rfl (fun hb => AOp_useV (by rfl) (by rfl) (.inr ⟨by rfl, by rfl, by rfl⟩) g_ cg_ (oCheck_c hB)) ?_
  refine aL_GF rfl rfl v_ rfl vg_ ?_
  (refine aL_S rfl rfl v_ ?_)
  refine aL_nil ?_
  refine awp_cond v_ (fun hc1 => ?_) (fun hc1 => ?_)
  · replace hc1 := nm_ hc1
    refine awp_seq ?_
    refine awp_region (by kernel_rfl) ?_
    (refine aL_S rfl rfl v_ ?_)
    refine aL_store rfl rfl rfl v_ v_ h_ g_ rfl g_ c_ (by rfl) le_ v_ ?_
    (refine aL_S rfl rfl v_ ?_)
    refine aL_nil ?_
    refine awp_ret ?_
    rw [show mergeS a b = (⟨[], []⟩, 1) from by
      rw [chk0, chk0] at hc1
      unfold mergeS
      cases h1 : objOk a <;> cases h2 : objOk b <;> simp [h1, h2] at hc1 ⊢]
    exact aEnd_retW (v := .tup [sObj ⟨[], []⟩, vInt 1]) (v' := .tup [.agg [vNil, vNil], vInt 1]) va_ (.tup _ _ rfl (fun i hi hi' => by match i, hi with | 0, _ => exact .agg _ _ rfl (fun j hj hj' => by match j, hj with | 0, _ => exact .nil _ _ | 1, _ => exact .nil _ _) | 1, _ => exact .refl _)) sub_ ⟨rfl, rfl⟩
  · replace hc1 := nm_ hc1
    rw [chk0, chk0] at hc1
    have ga := (objOk_iff.1 hc1.1).1.rise
    have gb := (objOk_iff.1 hc1.2).1.rise
    refine awp_skip ?_
    refine awp_seq ?_
    refine awp_region (by kernel_rfl) ?_
    iterate 4 (refine aL_S rfl rfl v_ ?_)
    refine aL_X rfl rfl (AOp_use rfl rfl (.inr ⟨rfl, rfl, rfl⟩) g_ va_ (join_c ha.ctx hB.ctx (by omega) (by omega)) ?_); rintro _ _ ⟨rfl, rfl⟩
    iterate 5 (refine aL_S rfl rfl v_ ?_)
    refine aL_nil ?_
    refine awp_seq ?_
    refine awp_seq ?_
    refine awp_region (by kernel_rfl) ?_
    iterate 2 (refine aL_S rfl rfl v_ ?_)
    refine aL_nil ?_
    refine awp_cond v_ (fun hc4 => ?_) (fun hc4 => ?_)
    · replace hc4 := nm_ hc4
      refine awp_seq ?_
      refine awp_region (by kernel_rfl) ?_
      iterate 2 (refine aL_S rfl rfl v_ ?_)
      refine aL_store rfl rfl rfl v_ v_ h_ g_ rfl g_ c_ (by rfl) le_ v_ ?_
      (refine aL_S rfl rfl v_ ?_)
      refine aL_nil ?_
      refine awp_ret ?_
      rw [show mergeS a b = (⟨[], []⟩, (joinS a.ctx b.ctx).2) from by simp [mergeS, hc1.1, hc1.2, hc4]]
      exact aEnd_retW (v := .tup [sObj ⟨[], []⟩, vInt (joinS a.ctx b.ctx).2]) (v' := .tup [.agg [vNil, vNil], vInt (joinS a.ctx b.ctx).2]) va_ (.tup _ _ rfl (fun i hi hi' => by match i, hi with | 0, _ => exact .agg _ _ rfl (fun j hj hj' => by match j, hj with | 0, _ => exact .nil _ _ | 1, _ => exact .nil _ _) | 1, _ => exact .refl _)) sub_ ⟨rfl, rfl⟩
    · replace hc4 := nm_ hc4
      have hms : mergeS a b = (⟨(joinS a.ctx b.ctx).1, mergeL a b⟩, 0) := by simp [mergeS, hc1.1, hc1.2, hc4]
      obtain ⟨J, hJ⟩ : ∃ J, (joinS a.ctx b.ctx).1 = J := ⟨_, rfl⟩
      rw [hJ] at hms ⊢
      have l1 : (keptA a b).length ≤ a.sibs.length := List.length_filterMap_le ..
      have l2 : (keptA b a).length ≤ b.sibs.length := List.length_filterMap_le ..
      refine awp_skip ?_
      refine awp_seq ?_
      refine awp_draw (.op 0 0 (.op 1 0 (.op 3 0 (.op 4 0 (.op 2 1 (.op 5 1 (.op 6 1 (.op 7 2 (.op 8 0 .nil))))))))) Tryz.mixed (by kernel_rfl) ?_
      iterate 4 (refine dR_S o_ (by rfl) (by rfl) v_ ?_)
      refine dR_X o_ (by rfl) (by rfl) (AOp_use (by rfl) (by rfl) (.inr ⟨by rfl, by rfl, by rfl⟩) g_ va_ (kept_c ha hB gb) ?_); rintro _ _ ⟨rfl, rfl⟩; refine ⟨sub_, ?_⟩
      refine dR_X o_ (by rfl) (by rfl) (AOp_use (by rfl) (by rfl) (.inr ⟨by rfl, by rfl, by rfl⟩) g_ va_ (kept_c hB ha ga) ?_); rintro _ _ ⟨rfl, rfl⟩; refine ⟨sub_, ?_⟩
      refine dR_X o_ (by rfl) (by rfl) (AOp_buildSlice' (by rfl) g_ g_ (by rfl) (by rfl) h_ c2_ (by decide) ⟨sub_, ?_⟩)
      refine dR_T o_ (by rfl) (by rfl) (AOp_use (by rfl) (by rfl) (.inr ⟨by rfl, by rfl, by rfl⟩) g_ va_ (concatSib_c (L1 := keptA a b) (L2 := keptA b a) (by omega) (by omega)) ?_); rintro _ τ0 hC0
      (refine dR_S o_ (by rfl) (by rfl) v_ ?_)
      refine dR_nil ?_
      refine awp_seq ?_
      refine awp_region (by kernel_rfl) ?_
      (refine aL_S rfl rfl v_ ?_)
      refine aL_X rfl rfl (AOp_use rfl rfl (.inr ⟨rfl, rfl, rfl⟩) g_ va_ (sortFuncC hC0 (by rw [List.length_append]; omega)) ?_); rintro _ τ1 ⟨rfl, L, hp, hs, hC1⟩
      obtain ⟨hu, hcm⟩ := merged_row ga gb hp hs
      have hlL : L.length ≤ 1000000 := by rw [hp.length_eq, List.length_append]; omega
      refine aL_nil ?_
      refine awp_seq ?_
      refine awp_region (by kernel_rfl) ?_
      iterate 2 (refine aL_S rfl rfl v_ ?_)
      refine aL_X rfl rfl (AOp_use rfl rfl (.inr ⟨rfl, rfl, rfl⟩) g_ va_ (compactFuncC hC1 hu hlL) ?_); rintro _ _ ⟨rfl, rfl⟩
      rw [hcm]
      (refine aL_S rfl rfl v_ ?_)
      refine aL_store rfl rfl rfl v_ v_ h_ g_ rfl g_ c_ (by rfl) le_ v_ ?_
      (refine aL_S rfl rfl v_ ?_)
      refine aL_nil ?_
      refine awp_ret ?_
      refine aEnd_ret (σ' := σ) v_ sub_ ?_
      exact ⟨by rw [hms], rfl⟩
theorem equalInts_c {a b : List Int} {ta tb : Bool} {σ : Store} (ha : a.length ≤ 1000000) (hb : b.length ≤ 1000000) : ACalls Tryz.prog 89 [.sl 1 (a.map vInt) ta, .sl 1 (b.map vInt) tb] σ fun v σ' => v = vB (decide (a = b)) ∧ σ = σ' := by
  refine ACalls_of Tryz.func89 rfl Tryz.ntmps89 (congrArg Array.toList Tryz.results89) (by simp only [List.length_cons, List.length_nil]; decide) ?_; simp only [envOf_cons, envOf_nil, Nat.reduceAdd]
  refine awp_seq ?_
  refine awp_region (by kernel_rfl) ?_
  (refine aL_S rfl rfl v_ ?_)
  refine aL_nil ?_
  refine awp_seq ?_
  refine awp_seq ?_
  refine awp_region (by kernel_rfl) ?_
  iterate 5 (refine aL_S rfl rfl v_ ?_)
  refine aL_nil ?_
  refine awp_cond v_ (fun hc1 => ?_) (fun hc1 => ?_)
  · replace hc1 := nm_ hc1
    refine awp_seq ?_
    refine awp_region (by kernel_rfl) ?_
    (refine aL_S rfl rfl v_ ?_)
    refine aL_nil ?_
    refine awp_ret ?_
    refine aEnd_ret (σ' := σ) v_ sub_ ?_
    exact ⟨by rw [decide_eq_false]; intro h; rw [h] at hc1; omega, rfl⟩
  · replace hc1 := nm_ hc1
    refine awp_skip ?_
    refine awp_seq ?_
    refine awp_seq ?_
    refine awp_region (by kernel_rfl) ?_
    iterate 3 (refine aL_S rfl rfl v_ ?_)
    refine aL_nil ?_
    refine awp_block ?_
    refine awp_loop_env (ι := Nat) (fun k => a.length - k) (fun k => k ≤ a.length ∧ a.take k = b.take k) (fun k => [(0, .sl 1 (a.map vInt) ta), (1, .sl 1 (b.map vInt) tb), (12, vInt a.length), (13, vInt k)]) (fun k => σ) 0 ?_ ?_ ?_ ?_
    · exact ⟨Nat.zero_le _, rfl⟩
    · exact cv_
    · exact sub_
    rintro k ⟨hk, he⟩
    simp only [envL_cons, envL_nil]
    refine awp_seq ?_
    refine awp_region (by kernel_rfl) ?_
    (refine aL_S rfl rfl v_ ?_)
    refine aL_nil ?_
    refine awp_seq ?_
    refine awp_cond v_ (fun hc4 => ?_) (fun hc4 => ?_)
    · replace hc4 := nm_ hc4
      refine awp_skip ?_
      refine awp_seq ?_
      refine awp_block ?_
      refine awp_seq ?_
      refine awp_region (by kernel_rfl) ?_
      iterate 2 (refine aL_S rfl rfl v_ ?_)
      refine aL_nil ?_
      refine awp_seq ?_
      obtain ⟨x, hx⟩ := get_some (l := a) (k := k) (by omega)
      obtain ⟨y, hy⟩ := get_some (l := b) (k := k) (by omega)
      have R := And.intro hx hy
      refine awp_draw (.op 0 0 (.op 1 0 (.op 2 0 (.op 3 0 (.op 4 0 (.op 5 0 (.op 6 0 (.op 7 0 (.op 8 0 .nil))))))))) Tryz.mixed (by kernel_rfl) ?_
      iterate 9 (refine dR_S o_ (by rfl) (by rfl) v_ ?_)
      refine dR_nil ?_
      refine awp_cond v_ (fun hc6 => ?_) (fun hc6 => ?_)
      · replace hc6 := nm_ hc6
        refine awp_seq ?_
        refine awp_region (by kernel_rfl) ?_
        (refine aL_S rfl rfl v_ ?_)
        refine aL_nil ?_
        refine awp_ret ?_
        refine aEnd_ret (σ' := σ) v_ sub_ ?_
        exact ⟨by rw [decide_eq_false]; intro h; rw [h, hy] at hx; exact hc6 (Option.some.inj hx).symm, rfl⟩
      · replace hc6 := nm_ hc6
        refine awp_skip ?_
        refine awp_region (by kernel_rfl) ?_
        iterate 2 (refine aL_S rfl rfl v_ ?_)
        refine aL_nil ?_
        refine aNext (ι := Nat) (i := k) (k + 1) ?_ ?_ ?_ ?_
        · omega
        · exact ⟨by omega, by rw [take_snoc hx, take_snoc hy, he, hc6]⟩
        · exact cv_
        · exact sub_
    · replace hc4 := nm_ hc4
      refine awp_exit ?_
      refine aThen_exit ?_
      refine aThen_exit ?_
      refine aBlock_hit ?_
      refine awp_seq ?_
      refine awp_region (by kernel_rfl) ?_
      (refine aL_S rfl rfl v_ ?_)
      refine aL_nil ?_
      refine awp_ret ?_
      refine aEnd_ret (σ' := σ) v_ sub_ ?_
      exact ⟨by rw [decide_eq_true]; rwa [List.take_of_length_le (by omega), List.take_of_length_le (by omega)] at he, rfl⟩
theorem equalSibs_c {a b : List Sib} {ta tb : Bool} {σ : Store} (hla : a.length ≤ 1000000) (hlb : b.length ≤ 1000000) : ACalls Tryz.prog 45 [.sl 5 (a.map sSib) ta, .sl 5 (b.map sSib) tb] σ fun v σ' => v = vB (decide (a = b)) ∧ σ = σ' := by
  refine ACalls_of Tryz.func45 rfl Tryz.ntmps45 (congrArg Array.toList Tryz.results45) (by simp only [List.length_cons, List.length_nil]; decide) ?_; simp only [envOf_cons, envOf_nil, Nat.reduceAdd]
  refine awp_seq ?_
  refine awp_region (by kernel_rfl) ?_
  (refine aL_S rfl rfl v_ ?_)
  refine aL_nil ?_
  refine awp_seq ?_
  refine awp_seq ?_
  refine awp_region (by kernel_rfl) ?_
  iterate 5 (refine aL_S rfl rfl v_ ?_)
  refine aL_nil ?_
  refine awp_cond v_ (fun hc1 => ?_) (fun hc1 => ?_)
  · replace hc1 := nm_ hc1
    refine awp_seq ?_
    refine awp_region (by kernel_rfl) ?_
    (refine aL_S rfl rfl v_ ?_)
    refine aL_nil ?_
    refine awp_ret ?_
    refine aEnd_ret (σ' := σ) v_ sub_ ?_
    exact ⟨by rw [decide_eq_false]; intro h; rw [h] at hc1; omega, rfl⟩
  · replace hc1 := nm_ hc1
    refine awp_skip ?_
    refine awp_seq ?_
    refine awp_seq ?_
    refine awp_region (by kernel_rfl) ?_
    iterate 3 (refine aL_S rfl rfl v_ ?_)
    refine aL_nil ?_
    refine awp_block ?_
    refine awp_loop_env (ι := Nat) (fun k => a.length - k) (fun k => k ≤ a.length ∧ a.take k = b.take k) (fun k => [(0, .sl 5 (a.map sSib) ta), (1, .sl 5 (b.map sSib) tb), (12, vInt a.length), (13, vInt k)]) (fun k => σ) 0 ?_ ?_ ?_ ?_
    · exact ⟨Nat.zero_le _, rfl⟩
    · exact cv_
    · exact sub_
    rintro k ⟨hk, he⟩
    simp only [envL_cons, envL_nil]
    refine awp_seq ?_
    refine awp_region (by kernel_rfl) ?_
    (refine aL_S rfl rfl v_ ?_)
    refine aL_nil ?_
    refine awp_seq ?_
    refine awp_cond v_ (fun hc4 => ?_) (fun hc4 => ?_)
    · replace hc4 := nm_ hc4
      refine awp_skip ?_
      refine awp_seq ?_
      refine awp_block ?_
      refine awp_seq ?_
      refine awp_region (by kernel_rfl) ?_
      iterate 2 (refine aL_S rfl rfl v_ ?_)
      refine aL_nil ?_
      refine awp_seq ?_
      obtain ⟨x, hx⟩ := get_some (l := a) (k := k) (by omega)
      obtain ⟨y, hy⟩ := get_some (l := b) (k := k) (by omega)
      have R := And.intro hx hy
      refine awp_draw (.op 0 0 (.op 1 0 (.op 2 0 (.op 3 0 (.op 4 0 (.op 5 0 (.op 6 0 (.op 7 0 (.op 8 0 .nil))))))))) Tryz.mixed (by kernel_rfl) ?_
      iterate 9 (refine dR_S o_ (by rfl) (by rfl) v_ ?_)
      refine dR_nil ?_
      refine awp_cond v_ (fun hc6 => ?_) (fun hc6 => ?_)
      · replace hc6 := nm_ hc6
        refine awp_seq ?_
        refine awp_region (by kernel_rfl) ?_
        (refine aL_S rfl rfl v_ ?_)
        refine aL_nil ?_
        refine awp_ret ?_
        refine aEnd_ret (σ' := σ) v_ sub_ ?_
        exact ⟨by rw [decide_eq_false]; intro h; rw [h, hy] at hx; obtain rfl := Option.some.inj hx; simp at hc6, rfl⟩
      · replace hc6 := nm_ hc6
        have hxy : x = y := by cases x; cases y; simp at hc6 ⊢; exact ⟨hc6.1.1, hc6.1.2, hc6.2.1, hc6.2.2.1, hc6.2.2.2⟩
        refine awp_skip ?_
        refine awp_region (by kernel_rfl) ?_
        iterate 2 (refine aL_S rfl rfl v_ ?_)
        refine aL_nil ?_
        refine aNext (ι := Nat) (i := k) (k + 1) ?_ ?_ ?_ ?_
        · omega
        · exact ⟨by omega, by rw [take_snoc hx, take_snoc hy, he, hxy]⟩
        · exact cv_
        · exact sub_
    · replace hc4 := nm_ hc4
      refine awp_exit ?_
      refine aThen_exit ?_
      refine aThen_exit ?_
      refine aBlock_hit ?_
      refine awp_seq ?_
      refine awp_region (by kernel_rfl) ?_
      (refine aL_S rfl rfl v_ ?_)
      refine aL_nil ?_
      refine awp_ret ?_
      refine aEnd_ret (σ' := σ) v_ sub_ ?_
      exact ⟨by rw [decide_eq_true]; rwa [List.take_of_length_le (by omega), List.take_of_length_le (by omega)] at he, rfl⟩
theorem dSame1_c {x y : Seen} {σ : Store} (hx : SeenSm x) (hy : SeenSm y) : ACalls Tryz.prog 88 [sSeen x, sSeen y] σ fun v σ' => v = vB (decide (x = y)) ∧ σ = σ' := by
  have h1 := hx.more; have h2 := hy.more
  refine ACalls_of Tryz.func88 rfl Tryz.ntmps88 (congrArg Array.toList Tryz.results88) (by simp only [List.length_cons, List.length_nil]; decide) ?_; simp only [envOf_cons, envOf_nil, Nat.reduceAdd]
  refine awp_seq ?_
  refine awp_region (by kernel_rfl) ?_
  refine aL_box rfl rfl rfl v_ rfl g_ fun o2 ho2 => ?_
  repeat (rw [none_set_iff] at ho2; obtain ⟨_, ho2⟩ := ho2)
  refine aL_box rfl rfl rfl v_ rfl g_ fun o3 ho3 => ?_
  repeat (rw [none_set_iff] at ho3; obtain ⟨_, ho3⟩ := ho3)
  (refine aL_S rfl rfl v_ ?_)
  refine aL_nil ?_
  refine awp_seq ?_
  refine awp_region (by kernel_rfl) ?_
  iterate 6 (refine aL_S rfl rfl v_ ?_)
  refine aL_GT rfl rfl v_ rfl vg_ ?_
  refine aL_GT rfl rfl v_ rfl vg_ ?_
  refine aL_GT rfl rfl v_ rfl vg_ ?_
  refine aL_GT rfl rfl v_ rfl vg_ ?_
  refine aL_GT rfl rfl v_ rfl vg_ ?_
  iterate 2 (refine aL_S rfl rfl v_ ?_)
  refine aL_GT rfl rfl v_ rfl vg_ ?_
  refine aL_GT rfl rfl v_ rfl vg_ ?_
  refine aL_GT rfl rfl v_ rfl vg_ ?_
  refine aL_GT rfl rfl v_ rfl vg_ ?_
  refine aL_GTX rfl rfl v_ rfl (fun hb => AOp_useV (by rfl) (by rfl) (.inr ⟨by rfl, by rfl, by rfl⟩) g_ cg_ (equalInts_c h1 h2)) ?_
  iterate 2 (refine aL_S rfl rfl v_ ?_)
  refine aL_nil ?_
  refine awp_ret ?_
  refine aEnd_ret (σ' := σ) v_ sub_ ?_
  refine ⟨?_, rfl⟩
  congr 2
  rw [Bool.eq_iff_iff]
  cases x; cases y
  simp [and_assoc]
theorem equalSeens_c {a b : List Seen} {ta tb : Bool} {σ : Store} (hA : ∀ x ∈ a, SeenSm x) (hB : ∀ x ∈ b, SeenSm x) (hla : a.length ≤ 1000000) (hlb : b.length ≤ 1000000) : ACalls Tryz.prog 87 [.sl 3 (a.map sSeen) ta, .sl 3 (b.map sSeen) tb, .lit (.func (.func 88) #[] #[])] σ fun v σ' => v = vB (decide (a = b)) ∧ σ = σ' := by
  refine ACalls_of Tryz.func87 rfl Tryz.ntmps87 (congrArg Array.toList Tryz.results87) (by simp only [List.length_cons, List.length_nil]; decide) ?_; simp only [envOf_cons, envOf_nil, Nat.reduceAdd]
  refine awp_seq ?_
  refine awp_region (by kernel_rfl) ?_
  (refine aL_S rfl rfl v_ ?_)
  refine aL_nil ?_
  refine awp_seq ?_
  refine awp_seq ?_
  refine awp_region (by kernel_rfl) ?_
  iterate 5 (refine aL_S rfl rfl v_ ?_)
  refine aL_nil ?_
  refine awp_cond v_ (fun hc1 => ?_) (fun hc1 => ?_)
  · replace hc1 := nm_ hc1
    refine awp_seq ?_
    refine awp_region (by kernel_rfl) ?_
    (refine aL_S rfl rfl v_ ?_)
    refine aL_nil ?_
    refine awp_ret ?_
    refine aEnd_ret (σ' := σ) v_ sub_ ?_
    exact ⟨by rw [decide_eq_false]; intro h; rw [h] at hc1; omega, rfl⟩
  · replace hc1 := nm_ hc1
    refine awp_skip ?_
    refine awp_seq ?_
    refine awp_seq ?_
    refine awp_region (by kernel_rfl) ?_
    iterate 3 (refine aL_S rfl rfl v_ ?_)
    refine aL_nil ?_
    refine awp_block ?_
    refine awp_loop_env (ι := Nat) (fun k => a.length - k) (fun k => k ≤ a.length ∧ a.take k = b.take k) (fun k => [(1, .sl 3 (b.map sSeen) tb), (2, .lit (.func (.func 88) #[] #[])), (15, .sl 3 (a.map sSeen) ta), (16, vInt a.length), (17, vInt k)]) (fun k => σ) 0 ?_ ?_ ?_ ?_
    · exact ⟨Nat.zero_le _, rfl⟩
    · exact cv_
    · exact sub_
    rintro k ⟨hk, he⟩
    simp only [envL_cons, envL_nil]
    refine awp_seq ?_
    refine awp_region (by kernel_rfl) ?_
    (refine aL_S rfl rfl v_ ?_)
    refine aL_nil ?_
    refine awp_seq ?_
    refine awp_cond v_ (fun hc4 => ?_) (fun hc4 => ?_)
    · replace hc4 := nm_ hc4
      refine awp_skip ?_
      refine awp_seq ?_
      refine awp_block ?_
      refine awp_seq ?_
      obtain ⟨x, hx⟩ := get_some (l := a) (k := k) (by omega)
      obtain ⟨y, hy⟩ := get_some (l := b) (k := k) (by omega)
      have sx := hA x (List.mem_of_getElem? hx)
      have sy := hB y (List.mem_of_getElem? hy)
      have R := And.intro hx hy
      refine awp_region (by kernel_rfl) ?_
      iterate 3 (refine aL_S rfl rfl v_ ?_)
      refine aL_alloc rfl rfl rfl g_ gl_ fun o8 ho8 => ?_
      repeat (rw [none_set_iff] at ho8; obtain ⟨_, ho8⟩ := ho8)
      (refine aL_S rfl rfl v_ ?_)
      refine aL_store rfl rfl rfl v_ v_ h_ g_ rfl g_ c_ (by rfl) le_ v_ ?_
      refine aL_nil ?_
      refine awp_seq ?_
      have R := And.intro hx hy
      refine awp_region (by kernel_rfl) ?_
      iterate 4 (refine aL_S rfl rfl v_ ?_)
      refine aL_alloc rfl rfl rfl g_ gl_ fun o9 ho9 => ?_
      repeat (rw [none_set_iff] at ho9; obtain ⟨_, ho9⟩ := ho9)
      refine aL_store rfl rfl rfl v_ v_ h_ g_ rfl g_ c_ (by rfl) le_ v_ ?_
      refine aL_nil ?_
      refine awp_seq ?_
      refine awp_region (by kernel_rfl) ?_
      iterate 3 (refine aL_S rfl rfl v_ ?_)
      refine aL_X rfl rfl (AOp_use rfl rfl (.inr ⟨va_, rfl, rfl⟩) g_ va_ (dSame1_c sx sy) ?_); rintro _ _ ⟨rfl, rfl⟩
      (refine aL_S rfl rfl v_ ?_)
      refine aL_nil ?_
      refine awp_cond v_ (fun hc7 => ?_) (fun hc7 => ?_)
      · replace hc7 := nm_ hc7
        refine awp_seq ?_
        refine awp_region (by kernel_rfl) ?_
        (refine aL_S rfl rfl v_ ?_)
        refine aL_nil ?_
        refine awp_ret ?_
        refine aEnd_ret (σ' := σ) v_ sub_ ?_
        exact ⟨by rw [decide_eq_false]; intro h; rw [h, hy] at hx; exact hc7 (Option.some.inj hx).symm, rfl⟩
      · replace hc7 := nm_ hc7
        refine awp_skip ?_
        refine awp_region (by kernel_rfl) ?_
        iterate 2 (refine aL_S rfl rfl v_ ?_)
        refine aL_nil ?_
        refine aNext (ι := Nat) (i := k) (k + 1) ?_ ?_ ?_ ?_
        · omega
        · exact ⟨by omega, by rw [take_snoc hx, take_snoc hy, he, hc7]⟩
        · exact cv_
        · exact sub_
    · replace hc4 := nm_ hc4
      refine awp_exit ?_
      refine aThen_exit ?_
      refine aThen_exit ?_
      refine aBlock_hit ?_
      refine awp_seq ?_
      refine awp_region (by kernel_rfl) ?_
      (refine aL_S rfl rfl v_ ?_)
      refine aL_nil ?_
      refine awp_ret ?_
      refine aEnd_ret (σ' := σ) v_ sub_ ?_
      exact ⟨by rw [decide_eq_true]; rwa [List.take_of_length_le (by omega), List.take_of_length_le (by omega)] at he, rfl⟩
theorem dSame_c {a b : List Seen} {ta tb : Bool} {σ : Store} (hA : ∀ x ∈ a, SeenSm x) (hB : ∀ x ∈ b, SeenSm x) (hla : a.length ≤ 1000000) (hlb : b.length ≤ 1000000) : ACalls Tryz.prog 44 [.sl 3 (a.map sSeen) ta, .sl 3 (b.map sSeen) tb] σ fun v σ' => v = vB (decide (a = b)) ∧ σ = σ' := by
  refine ACalls_of Tryz.func44 rfl Tryz.ntmps44 (congrArg Array.toList Tryz.results44) (by simp only [List.length_cons, List.length_nil]; decide) ?_; simp only [envOf_cons, envOf_nil, Nat.reduceAdd]
  refine awp_seq ?_
  refine awp_region (by kernel_rfl) ?_
  (refine aL_S rfl rfl v_ ?_)
  refine aL_nil ?_
  refine awp_seq ?_
  refine awp_region (by kernel_rfl) ?_
  iterate 2 (refine aL_S rfl rfl v_ ?_)
  refine aL_X rfl rfl (AOp_use rfl rfl (.inr ⟨rfl, rfl, rfl⟩) g_ va_ (equalSeens_c hA hB hla hlb) ?_); rintro _ _ ⟨rfl, rfl⟩
  (refine aL_S rfl rfl v_ ?_)
  refine aL_nil ?_
  refine awp_ret ?_
  refine aEnd_ret (σ' := σ) v_ sub_ ?_
  exact ⟨rfl, rfl⟩
theorem oSame_c {a b : Obj'} {σ : Store} (hA : ObjSm a) (hB : ObjSm b) : ACalls Tryz.prog 21 [sObj a, sObj b] σ fun v σ' => v = vB (decide (a = b)) ∧ σ = σ' := by
  have n1 := hA.nc; have n2 := hA.ns; have n3 := hB.nc; have n4 := hB.ns
  refine ACalls_of Tryz.func21 rfl Tryz.ntmps21 (congrArg Array.toList Tryz.results21) (by simp only [List.length_cons, List.length_nil]; decide) ?_; simp only [envOf_cons, envOf_nil, Nat.reduceAdd]
  refine awp_seq ?_
  refine awp_region (by kernel_rfl) ?_
  refine aL_box rfl rfl rfl v_ rfl g_ fun o2 ho2 => ?_
  repeat (rw [none_set_iff] at ho2; obtain ⟨_, ho2⟩ := ho2)
  refine aL_box rfl rfl rfl v_ rfl g_ fun o3 ho3 => ?_
  repeat (rw [none_set_iff] at ho3; obtain ⟨_, ho3⟩ := ho3)
  (refine aL_S rfl rfl v_ ?_)
  refine aL_nil ?_
  refine awp_seq ?_
  refine awp_region (by kernel_rfl) ?_
  iterate 4 (refine aL_S rfl rfl v_ ?_)
  refine aL_X rfl rfl (AOp_use rfl rfl (.inr ⟨rfl, rfl, rfl⟩) g_ va_ (dSame_c hA.ctx hB.ctx (by omega) (by omega)) ?_); rintro _ _ ⟨rfl, rfl⟩
  (refine aL_S rfl rfl v_ ?_)
  refine aL_GT rfl rfl v_ rfl vg_ ?_
  refine aL_GT rfl rfl v_ rfl vg_ ?_
  refine aL_GT rfl rfl v_ rfl vg_ ?_
  refine aL_GT rfl rfl v_ rfl vg_ ?_
  refine aL_GTX rfl rfl v_ rfl (fun hb => AOp_useV (by rfl) (by rfl) (.inr ⟨by rfl, by rfl, by rfl⟩) g_ cg_ (equalSibs_c (by omega) (by omega))) ?_
  iterate 2 (refine aL_S rfl rfl v_ ?_)
  refine aL_nil ?_
  refine awp_ret ?_
  refine aEnd_ret (σ' := σ) v_ sub_ ?_
  refine ⟨?_, rfl⟩
  congr 2
  rw [Bool.eq_iff_iff]
  cases a; cases b
  simp
end Go.Proofs.YtbomkkjhafdhiaaGreat
end

section
set_option linter.all false
set_option maxRecDepth 100000
namespace Go.Proofs.YtbomkkjhafdhiaaGreat
open Go.Ab

theorem sum_bd {α : Type} {f : α → Nat} {c : Nat} : ∀ {l : List α}, (∀ x ∈ l, f x ≤ c) → (l.map f).sum ≤ c * l.length
  | [], _ => by simp
  | x :: l, h => by
    have h1 := sum_bd (l := l) fun y hy => h y (.tail _ hy)
    have h2 := h x (.head _)
    simp only [List.map_cons, List.sum_cons, List.length_cons, Nat.mul_add, Nat.mul_one]; omega
end Go.Proofs.YtbomkkjhafdhiaaGreat
end

section
set_option linter.all false
set_option maxRecDepth 100000
namespace Go.Ab
open Go.RowKit (Below)
section
variable {P : Program} {o : Oper} {α : Operand → AVal} {σ : Store} {Kk : AVal → Store → Prop}
theorem sl0_val {κ : K} {sz : Nat} {tight : Bool} {v : Value} (h : Rv κ (.sl sz [] tight) v) : ∃ a cap, v = .slice a 0 cap ∧ Rv κ (.sl sz [] false) v := by
  generalize hl : ([] : List AVal) = l at h
  cases h with
  | slNil => exact ⟨_, _, rfl, .slNil _ _⟩
  | slE => exact ⟨_, _, rfl, .slE _ _ _⟩
  | sl _ _ _ b off cap vals hcap ht hsz hc hv => subst hl; exact ⟨_, _, rfl, .sl sz [] false b off cap vals hcap (by simp) hsz hc hv⟩
/-- an empty slice held against nil: either way -/
theorem AOp_eqNil0 {t yt : TypeId} {x y : Operand} {sz e : Nat} {tight : Bool} (ho : o.op = .binOp .eql t x y yt) (hse : sliceElem P t = some e) (hx : α x = .sl sz [] tight) (hy : α y = .lit (.slice none 0 0)) (hk : ∀ b, Kk (.lit (.bool b)) σ) : AOp P o α σ Kk := by
  obtain ⟨dst, op, ty, pos, after, guard⟩ := o
  obtain rfl : op = _ := ho
  intro κ ev hI hxx
  have hvx := hxx x (by simp [Op.operands])
  have hvy := hxx y (by simp [Op.operands])
  rw [hx] at hvx
  rw [hy] at hvy
  have hts : P.underlying t = some (.slice e) := by
    unfold sliceElem at hse
    split at hse
    · rename_i e' he'; obtain rfl := Option.some.inj hse; exact he'
    · cases hse
  obtain ⟨a, cap, hev, _⟩ := sl0_val hvx
  have hb : (binOp .eql t (ev x) (ev y)).run P κ.w = .ok (.bool a.isNone) κ.w := by
    have e1 : binOp .eql t (ev x) (ev y) = (do pure (.bool (← Op.equal t (ev x) (ev y)))) := by
      rw [hev, hvy.litInv]
      rfl
    rw [e1, hev, hvy.litInv]
    simp only [Sem.run_bind, run_equal_slice_nil κ.w t e a 0 cap hts, Result.andThen_ok, Sem.run_pure]
  have hg : (eqGuard .eql t x y (ev x) (ev y)).run P κ.w = .ok () κ.w := run_eqGuard_other (by rintro u v ⟨h1, _⟩; rw [hev] at h1; cases h1) (by intro h1; rw [hev] at h1; cases h1)
  refine upon_v (s := do eqGuard .eql t x y (ev x) (ev y); binOp .eql t (ev x) (ev y)) (by simp [execOp]) ⟨.bool a.isNone, κ.w, ?_, κ, .lit (.bool a.isNone), σ, rfl, .refl κ, hI, .lit _, hk _⟩
  simp only [Sem.run_bind, hg, Result.andThen_ok, hb]
/-- nothing, appended to nothing -/
theorem AOp_append00 {s x : Operand} {t e : TypeId} {sz by_ : Nat} {t1 t2 : Bool}
    (ho : o.op = .call { callee := .builtin .append, args := #[s, x], argTypes := #[t, t] }) (hse : sliceElem P t = some e) (hte : appInfo P e = some (sz, by_))
    (hs : α s = .sl sz [] t1) (hx : α x = .sl sz [] t2) (hk : Kk (.sl sz [] false) σ) : AOp P o α σ Kk := by
  obtain ⟨dst, op, ty, pos, after, guard⟩ := o
  obtain rfl : op = .call { callee := .builtin .append, args := #[s, x], argTypes := #[t, t] } := ho
  intro κ ev hI hxx
  obtain ⟨i, z, hi, hz, hisz, hiby, hzs, hsz, hby⟩ := appInfo_spec hte
  have hts : P.underlying t = some (.slice e) := by
    unfold sliceElem at hse
    split at hse
    · rename_i e' he'; obtain rfl := Option.some.inj hse; exact he'
    · cases hse
  have hvs := hxx s (by simp [Op.operands, Call.operands])
  have hvx := hxx x (by simp [Op.operands, Call.operands])
  have hsrc0 : ASrc P sz t (α x) [] := ASrc_sl hts (by rw [hx]; rfl) (by simp)
  obtain ⟨vs, _, hvsr, hsrc⟩ := hsrc0.spec hvx
  have hv0 : vs = [] := List.eq_nil_of_length_eq_zero (by rw [← hvsr.1]; rfl)
  subst hv0
  rw [hs] at hvs
  obtain ⟨a, cap, hev, hw⟩ := sl0_val hvs
  refine upon_v (s := Builtin.append_ #[t, t] ty #[ev s, ev x]) (by simp [execOp, resolve, invoke, builtin]) ⟨ev s, κ.w, ?_, κ, .sl sz [] false, σ, rfl, .refl κ, hI, hw, hk⟩
  rw [hev]
  exact run_append_zero hts hi hisz hsrc a 0 cap (Nat.zero_le _)
end
end Go.Ab
namespace Go.Proofs.YtbomkkjhafdhiaaGreat
open Go.Ab

def live (x : Sib) : Bool := !x.gone
structure DlI (L : List Sib) (j i : Nat) (M : List Sib) : Prop where
  len : M.length = L.length
  tk : M.take i = (L.take j).filter live
  cnt : ((L.take j).filter live).length = i
  lt : i < j
  le : j ≤ L.length
  dr : M.drop j = L.drop j
theorem DlI.put {L : List Sib} {j i : Nat} {M : List Sib} {x : Sib} (h : DlI L j i M) (hx : L[j]? = some x) (hg : x.gone = false) : DlI L (j + 1) (i + 1) (M.set i x) := by
  have h1 := (List.getElem?_eq_some_iff.1 hx).1
  have hk := h.lt
  have hl := h.len
  have hf : (L.take (j + 1)).filter live = (L.take j).filter live ++ [x] := by rw [take_snoc hx, List.filter_append]; simp [live, hg]
  refine ⟨by rw [List.length_set]; exact hl, ?_, by rw [hf, List.length_append, h.cnt]; rfl, by omega, by omega, ?_⟩
  · rw [hf, ← h.tk, take_snoc (show (M.set i x)[i]? = some x by rw [List.getElem?_set_self]; omega), List.take_set_of_le (Nat.le_refl _)]
  · rw [List.drop_set_of_lt (by omega)]
    have := congrArg (List.drop 1) h.dr
    rwa [List.drop_drop, List.drop_drop] at this
theorem DlI.skip {L : List Sib} {j i : Nat} {M : List Sib} {x : Sib} (h : DlI L j i M) (hx : L[j]? = some x) (hg : x.gone = true) : DlI L (j + 1) i M := by
  have h1 := (List.getElem?_eq_some_iff.1 hx).1
  have hk := h.lt
  have hf : (L.take (j + 1)).filter live = (L.take j).filter live := by rw [take_snoc hx, List.filter_append]; simp [live, hg]
  refine ⟨h.len, by rw [hf]; exact h.tk, by rw [hf]; exact h.cnt, by omega, by omega, ?_⟩
  have := congrArg (List.drop 1) h.dr
  rwa [List.drop_drop, List.drop_drop] at this
end Go.Proofs.YtbomkkjhafdhiaaGreat
end

section
set_option linter.all false
set_option maxRecDepth 100000
namespace Go.Proofs.YtbomkkjhafdhiaaGreat
open Go.Ab

/-! ### objects that may be, with few parts -/
structure OkO (k : Nat) (o : Obj') : Prop where
  ok : objOk o = true
  rm : room o.ctx ≤ 480 * k
  nc : o.ctx.length ≤ 12 * k
  ns : o.sibs.length ≤ 12 * k
theorem sm_of {o : Obj'} (h : objOk o = true) (hn : o.ctx.length ≤ 1000) (hs : o.sibs.length ≤ 1000) : ObjSm o := by
  have hk := objOk_iff.1 h
  have gd := ctxOk_gd (ctxOk_iff.2 ⟨hk.1.ctx, hk.2⟩)
  refine ⟨sizes_gd gd, fun x hx => ?_, hn, hs⟩
  have h1 := (hk.1.ok x hx).1
  simp only [sibOk, Bool.and_eq_true, decide_eq_true_eq] at h1
  exact ⟨by have := nameOk_size (dotOk_iff.1 h1.1.1.1.1).1.1; omega, by omega⟩
theorem OkO.sm {k : Nat} {o : Obj'} (h : OkO k o) (hk : k ≤ 8) : ObjSm o := sm_of h.ok (by have := h.nc; omega) (by have := h.ns; omega)
theorem OkO.good {k : Nat} {o : Obj'} (h : OkO k o) : ObjG o := (objOk_iff.1 h.ok).1
theorem joinAll_len (a b : List Seen) : (joinAll a b).length ≤ a.length + b.length := by rw [joinAll, List.length_map]; exact nodesS_len a b
theorem mergeL_len (a b : Obj') : (mergeL a b).length ≤ a.sibs.length + b.sibs.length := by
  rw [mergeL, putsD_len, List.length_append]
  have h1 : (keptA a b).length ≤ a.sibs.length := List.length_filterMap_le ..
  have h2 : (keptB a b).length ≤ b.sibs.length := List.length_filterMap_le ..
  simp; omega
theorem OkO.merge {j k : Nat} {a b : Obj'} (ha : OkO j a) (hB : OkO k b) (h : j + k ≤ 8) : mergeS a b = (mergeO a b, 0) ∧ OkO (j + k) (mergeO a b) := by
  have h1 := ha.rm; have h2 := hB.rm; have h3 := ha.nc; have h4 := hB.nc; have h5 := ha.ns; have h6 := hB.ns
  obtain ⟨m1, m2⟩ := mergeS_ok ha.ok hB.ok (by omega)
  refine ⟨m1, m2, ?_, ?_, ?_⟩
  · have := join_room a.ctx b.ctx
    show room (joinAll a.ctx b.ctx) ≤ _
    omega
  · have := joinAll_len a.ctx b.ctx
    show (joinAll a.ctx b.ctx).length ≤ _
    omega
  · have := mergeL_len a b
    show (mergeL a b).length ≤ _
    omega
theorem room_bd {c : List Seen} {m : Nat} (h : ∀ x ∈ c, x.more.length ≤ m) : room c ≤ m * c.length := sum_bd h
theorem FewO.okO {o : Obj'} (h : FewO o) (hk : objOk o = true) : OkO 1 o := by
  have h1 := room_bd (m := 40) fun x hx => (h.1.2 x hx).2
  have h2 := h.1.1
  exact ⟨hk, by omega, by omega, by have := h.2.1; omega⟩
theorem mergeS_sm {a b : Obj'} (h1 : a.ctx.length + b.ctx.length ≤ 1000) (h2 : a.sibs.length + b.sibs.length ≤ 1000) : ObjSm (mergeS a b).1 := by
  have h0 : ObjSm ⟨[], []⟩ := ⟨(fun y hy => by cases hy), (fun y hy => by cases hy), by show 0 ≤ _; decide, by show 0 ≤ _; decide⟩
  unfold mergeS
  split
  · rename_i hk
    rw [Bool.and_eq_true] at hk
    split
    · rename_i hj
      have ga := objOk_iff.1 hk.1; have gb := objOk_iff.1 hk.2
      have hjj : ctxOk (joinAll a.ctx b.ctx) = true ∧ (joinS a.ctx b.ctx).1 = joinAll a.ctx b.ctx := by
        have ca : ctxOk a.ctx = true := ctxOk_iff.2 ⟨ga.1.ctx, ga.2⟩
        have cb : ctxOk b.ctx = true := ctxOk_iff.2 ⟨gb.1.ctx, gb.2⟩
        cases h : ctxOk (joinAll a.ctx b.ctx) with
        | true => exact ⟨rfl, by simp [joinS, ca, cb, h]⟩
        | false => simp [joinS, ca, cb, h] at hj
      rw [hjj.2]
      have hok : objOk (mergeO a b) = true := objOk_iff.2 ⟨merge_good ga.1 gb.1, (ctxOk_iff.1 hjj.1).2⟩
      exact sm_of hok (by have := joinAll_len a.ctx b.ctx; show (joinAll a.ctx b.ctx).length ≤ _; omega) (by have := mergeL_len a b; show (mergeL a b).length ≤ _; omega)
    · exact h0
  · exact h0
theorem joinAll_is {a b c : List Seen} (ha : CtxG a) (hB : CtxG b) (hc : CtxG c) (h : ∀ s n, hasS c s n = (hasS a s n || hasS b s n)) : joinAll a b = c :=
  ctx_unique (join_spec ha hB).1 hc fun s n => by rw [(join_spec ha hB).2, h]

/-! ### the objects -/
def kA : Seen := ⟨B [97], 1, []⟩
def kB : Seen := ⟨B [98], 1, []⟩
theorem merge_is {j k : Nat} {a b c : Obj'} (ha : OkO j a) (hB : OkO k b) (h : j + k ≤ 8) (hc : CtxG c.ctx) (h1 : ∀ s n, hasS c.ctx s n = (hasS a.ctx s n || hasS b.ctx s n)) (h2 : mergeL a b = c.sibs) : mergeS a b = (c, 0) := by
  rw [(ha.merge hB h).1, mergeO, joinAll_is ha.good.ctx hB.good.ctx hc h1, h2]
end Go.Proofs.YtbomkkjhafdhiaaGreat
end

section
set_option linter.all false
namespace Go.Ab
def aScope (Q : Exit → Env → Store → Prop) : Exit → Env → Store → Prop
  | .goto _, _, _ => False
  | ex, e, σ => Q ex e σ
theorem awp_scope {P : Program} {n : Nat} {c : Code} {Q : Exit → Env → Store → Prop} {e : Env} {σ : Store} (h : awp P n c (aScope Q) e σ) : awp P n (.scope c) Q e σ := by
  intro κ a hs
  refine wp_scope_straight (wp_mono (h κ a hs) fun ex a' w' ⟨κ', e', σ', h1, h2, h3, h4⟩ => ?_)
  cases ex with
  | goto l => exact h4.elim
  | normal => exact ⟨κ', e', σ', h1, h2, h3, h4⟩
  | exit id => exact ⟨κ', e', σ', h1, h2, h3, h4⟩
  | ret => exact ⟨κ', e', σ', h1, h2, h3, h4⟩
  | panic c => exact ⟨κ', e', σ', h1, h2, h3, h4⟩
  | outgrown => exact ⟨κ', e', σ', h1, h2, h3, h4⟩
theorem awp_label {P : Program} {n l : Nat} {Q : Exit → Env → Store → Prop} {e : Env} {σ : Store} (h : Q .normal e σ) : awp P n (.label l) Q e σ :=
  fun κ a hs => wp_label ⟨κ, e, σ, rfl, .refl κ, hs, h⟩
/-- what a store says of objects alone -/
def bare (S : Store) : Store := { S with tok := fun _ => none }
theorem bare_self (S : Store) : (bare S).Sub S := ⟨fun _ _ h => h, fun _ _ h => by cases h⟩
theorem bare_app (S : Store) (a : Option Nat) (k : Nat) (p : TypeId × Nat) : (bare S).Sub (S.newTok a k p) := ⟨fun _ _ h => h, fun _ _ h => by cases h⟩
theorem bare_app2 (S : Store) (a b : Option Nat) (k j : Nat) (p q : TypeId × Nat) : (bare S).Sub ((S.newTok a k p).newTok b j q) := ⟨fun _ _ h => h, fun _ _ h => by cases h⟩
theorem bare_of (S : Store) : ∃ T : Store, (∀ i, T.heap i = S.heap i) ∧ T.Sub S ∧ (∀ a k p, T.Sub (S.newTok a k p)) ∧ ∀ a b k j p q, T.Sub ((S.newTok a k p).newTok b j q) :=
  ⟨bare S, fun _ => rfl, bare_self S, bare_app S, bare_app2 S⟩
/-- an order of one's choice, by what a smaller store says -/
theorem awp_draw0 {P : Program} {n id : Nat} {l : List Oper} {Q : Exit → Env → Store → Prop} {e : Env} {σ : Store} (t : DT) (hm : P.follows .mixedOrders = true) (s0 : Store) (h0 : s0.Sub σ) (hB : okDraw n l.toArray t = true)
    (h : dRun P l.toArray s0 (Q .normal) t e σ) : awp P n (.region id l.toArray true) Q e σ := by
  intro κ a hs
  simp only [okDraw, Bool.and_eq_true, decide_eq_true_eq] at hB
  obtain ⟨⟨hlen, hdst⟩, hok⟩ := hB
  have hI := hs.inv.drew
  have hs' : ASat { κ with w := κ.w.drew } n e σ a := ⟨hs.defers, hs.size, fun k => (hs.env k).mono hI.1, hI.2⟩
  refine wp_region_any hm ?_
  have key := (aAny_of_dRun (P := P) (ops := l.toArray) (hd := fun i => !t.tails.contains i) (s0 := s0) (Kk := Q .normal) t false (Array.replicate l.toArray.size false) e σ ⟨by simp, fun j oj _ hl => (by rw [none_listed] at hl; cases hl)⟩ (.inr h0) h).1 hok _ hlen
  exact wpAny_of_aAny (κ0 := κ) (fun i o ho => Array.all_eq_true_iff_forall_mem.1 hdst o (Array.mem_of_getElem? ho)) (fun κ' e' σ' a' hle hs'' hk => ⟨κ', e', σ', rfl, hle, hs'', hk⟩) _ _ e σ { κ with w := κ.w.drew } a hI.1 hs' key
theorem q_gen {K : Exit → Env → Store → Prop} {ex : Exit} {e : Env} {σ : Store} (h : ∀ S, S = σ → K ex e S) : K ex e σ := h σ rfl
end Go.Ab
end

section
set_option linter.all false
set_option maxRecDepth 100000
namespace Go.Proofs.YtbomkkjhafdhiaaGreat
open Go.Ab

/-! ### a store with two rows of one's own -/
structure Two (σ S : Store) (p : TypeId × Nat) (kd kk : Nat) : Prop where
  td : S.tok kd = some p
  tk : S.tok kk = some p
  ne : kd ≠ kk
  sd : σ.tok kd = none
  sk : σ.tok kk = none
  sub : SubX [] σ S
theorem Two.put {σ S : Store} {p : TypeId × Nat} {kd kk o : Nat} {x : AObj} (h : Two σ S p kd kk) (ho : σ.heap o = none) : Two σ (S.set o x) p kd kk := ⟨h.td, h.tk, h.ne, h.sd, h.sk, subx_new ho h.sub⟩
theorem Two.app1 {σ S : Store} {p : TypeId × Nat} {kd kk k : Nat} (h : Two σ S p kd kk) (hk : S.tok k = none) : Two σ (S.newTok (some kd) k p) p k kk := by
  have d1 : kk ≠ k := fun hh => by have := h.tk; rw [hh, hk] at this; cases this
  refine ⟨Store.newTok_get .., ?_, Ne.symm d1, SubX.noTok h.sub hk, h.sk, SubX.newTok h.sub (fun j hj => by cases hj; exact h.sd) hk⟩
  simp only [Store.newTok]
  rw [if_neg d1, if_neg (by simpa using Ne.symm h.ne)]
  exact h.tk
theorem Two.swap {σ S : Store} {p : TypeId × Nat} {kd kk : Nat} (h : Two σ S p kd kk) : Two σ S p kk kd := ⟨h.tk, h.td, Ne.symm h.ne, h.sk, h.sd, h.sub⟩
theorem Two.app2 {σ S : Store} {p : TypeId × Nat} {kd kk k : Nat} (h : Two σ S p kd kk) (hk : S.tok k = none) : Two σ (S.newTok (some kk) k p) p kd k := (h.swap.app1 hk).swap
theorem may_c {l : List Itm} {t : Bool} {σ : Store} (hx : ∀ x ∈ l, ItemSm x) (hn : l.length ≤ 1000000) : ACalls Tryz.prog 18 [.sl 3 (l.map sItem) t] σ fun v σ' => v = vB (itemsOk l) ∧ σ = σ' := by
  refine ACalls_of Tryz.func18 rfl Tryz.ntmps18 (congrArg Array.toList Tryz.results18) (by simp only [List.length_cons, List.length_nil]; decide) ?_; simp only [envOf_cons, envOf_nil, Nat.reduceAdd]
  refine awp_seq ?_
  refine awp_region (by kernel_rfl) ?_
  (refine aL_S rfl rfl v_ ?_)
  refine aL_nil ?_
  refine awp_seq ?_
  refine awp_region (by kernel_rfl) ?_
  iterate 2 (refine aL_S rfl rfl v_ ?_)
  refine aL_X rfl rfl (AOp_use rfl rfl (.inr ⟨rfl, rfl, rfl⟩) g_ va_ (bookCheck_c hx hn) ?_); rintro _ _ ⟨rfl, rfl⟩
  iterate 2 (refine aL_S rfl rfl v_ ?_)
  refine aL_nil ?_
  refine awp_ret ?_
  refine aEnd_ret (σ' := σ) v_ sub_ ?_
  refine ⟨?_, rfl⟩
  cases itemsOk l <;> rfl
theorem cmpS_m1 {a b : ByteArray} : cmpS a b = -1 ↔ sLt a b = true := by
  unfold cmpS
  cases h : sLt a b with
  | true => simp
  | false => simp; split <;> simp
theorem cmpS_p1 {a b : ByteArray} (h : cmpS a b = 1) : sLt a b = false ∧ sLt b a = true := by
  unfold cmpS at h
  cases h1 : sLt a b with
  | true => simp [h1] at h
  | false =>
    simp only [h1, Bool.false_eq_true, if_false] at h
    by_cases h2 : a = b
    · simp [h2] at h
    · exact ⟨rfl, sLt_tri h1 h2⟩
theorem cmpS_0 {a b : ByteArray} (h : ¬ cmpS a b = -1) (h' : ¬ cmpS a b = 1) : a = b := by
  unfold cmpS at h h'
  by_cases h2 : a = b
  · exact h2
  · cases h1 : sLt a b <;> simp [h1, h2] at h h'
abbrev pItm : TypeId × Nat := (35, 3)
/-- what holds at each turn -/
structure MI (l os A R out ch : List Itm) : Prop where
  am : ∀ x ∈ A, x ∈ l
  bm : ∀ x ∈ R, x ∈ os
  eq : mgC out ch (mgG A R) = mgG l os
  an : A.length ≤ l.length
  bn : R.length ≤ os.length
  lo : out.length + A.length + R.length ≤ l.length + os.length
  lc : ch.length + R.length ≤ os.length
theorem MI.low {l os A R out ch : List Itm} {a b : Itm} (h : MI l os (a :: A) (b :: R) out ch) (hc : sLt a.place b.place = true) : MI l os A (b :: R) (out ++ [a]) ch :=
  ⟨fun x hx => h.am x (.tail _ hx), h.bm, by rw [← h.eq, mgC_low hc], by have := h.an; simp at this; omega, h.bn, by have := h.lo; simp at this ⊢; omega, h.lc⟩
theorem MI.high {l os A R out ch : List Itm} {a b : Itm} (h : MI l os (a :: A) (b :: R) out ch) (hc : sLt a.place b.place = false ∧ sLt b.place a.place = true) : MI l os (a :: A) R (out ++ [b]) (ch ++ [b]) :=
  ⟨h.am, fun x hx => h.bm x (.tail _ hx), by rw [← h.eq, mgC_high hc.1 hc.2], h.an, by have := h.bn; simp at this; omega, by have := h.lo; simp at this ⊢; omega, by have := h.lc; simp at this ⊢; omega⟩
theorem MI.eqC {l os A R out ch : List Itm} {a b : Itm} (h : MI l os (a :: A) (b :: R) out ch) (hc : a.place = b.place) (he : (mergeS a.obj b.obj).2 = 0) (hs : ¬ (mergeS a.obj b.obj).1 = a.obj) : MI l os A R (out ++ [⟨a.place, (mergeS a.obj b.obj).1⟩]) (ch ++ [⟨a.place, (mergeS a.obj b.obj).1⟩]) :=
  ⟨fun x hx => h.am x (.tail _ hx), fun x hx => h.bm x (.tail _ hx), by rw [← h.eq, mgC_eq hc he, if_neg hs], by have := h.an; simp at this; omega, by have := h.bn; simp at this; omega, by have := h.lo; simp at this ⊢; omega, by have := h.lc; simp at this ⊢; omega⟩
theorem MI.eqS {l os A R out ch : List Itm} {a b : Itm} (h : MI l os (a :: A) (b :: R) out ch) (hc : a.place = b.place) (he : (mergeS a.obj b.obj).2 = 0) (hs : (mergeS a.obj b.obj).1 = a.obj) : MI l os A R (out ++ [⟨a.place, (mergeS a.obj b.obj).1⟩]) ch :=
  ⟨fun x hx => h.am x (.tail _ hx), fun x hx => h.bm x (.tail _ hx), by rw [← h.eq, mgC_eq hc he, if_pos hs], by have := h.an; simp at this; omega, by have := h.bn; simp at this; omega, by have := h.lo; simp at this ⊢; omega, by have := h.lc; simp at this ⊢; omega⟩
theorem MI.done {l os A R out ch : List Itm} (h : MI l os A R out ch) (hz : A = [] ∨ R = []) : mgG l os = ([out, A, R].flatten, [ch, R].flatten, 0) := by
  rw [← h.eq]
  rcases hz with rfl | rfl
  · rw [mgG_nil, mgC, if_pos rfl]; simp
  · rw [mgG_nil2, mgC, if_pos rfl]; simp
theorem cons_of {α : Type} {l : List α} (h : 0 < (l.length : Int)) : ∃ a m, l = a :: m := by
  cases l with
  | nil => simp at h
  | cons a m => exact ⟨a, m, rfl⟩
theorem wkNil3 {n : Int} : Wk (.tup [vNil, vNil, vInt n]) (.tup [.sl 3 ([] : List AVal) false, .sl 3 [] false, vInt n]) :=
  .tup _ _ rfl (fun i hi hi' => by match i, hi with | 0, _ => exact .nil _ _ | 1, _ => exact .nil _ _ | 2, _ => exact .refl _)
set_option maxHeartbeats 4000000 in
theorem merge29_c {l os : List Itm} {σ : Store} (hl : ∀ x ∈ l, ItemSm x) (ho : ∀ x ∈ os, ItemSm x) (hM : ∀ x ∈ l, ∀ y ∈ os, ObjSm (mergeS x.obj y.obj).1) (hn : l.length ≤ 100000) (hn2 : os.length ≤ 100000) :
    ACalls Tryz.prog 9 [.sl 3 (l.map sItem) false, .sl 3 (os.map sItem) false] σ fun v σ' => v = .tup [.sl 3 ((mergeI l os).1.map sItem) false, .sl 3 ((mergeI l os).2.1.map sItem) false, vInt (mergeI l os).2.2] ∧ σ = σ' := by
  refine ACalls_of Tryz.func9 rfl Tryz.ntmps9 (congrArg Array.toList Tryz.results9) (by simp only [List.length_cons, List.length_nil]; decide) ?_; simp only [envOf_cons, envOf_nil, Nat.reduceAdd]
  refine awp_seq ?_
  refine awp_region (by kernel_rfl) ?_
  iterate 3 (refine aL_S rfl rfl v_ ?_)
  refine aL_nil ?_
  refine awp_scope ?_
  refine awp_seq ?_
  refine awp_seq ?_
  refine awp_region (by kernel_rfl) ?_
  (refine aL_S rfl rfl v_ ?_)
  refine aL_X rfl rfl (AOp_use rfl rfl (.inr ⟨rfl, rfl, rfl⟩) g_ va_ (may_c hl (by omega)) ?_); rintro _ _ ⟨rfl, rfl⟩
  iterate 2 (refine aL_S rfl rfl v_ ?_)
  refine aL_GF rfl rfl v_ rfl vg_ ?_
  refine aL_GFX rfl rfl v_ rfl (fun hb => AOp_useV (by rfl) (by rfl) (.inr ⟨by rfl, by rfl, by rfl⟩) g_ cg_ (may_c ho (by omega))) ?_
  refine aL_GF rfl rfl v_ rfl vg_ ?_
  (refine aL_S rfl rfl v_ ?_)
  refine aL_nil ?_
  refine awp_cond v_ (fun hc1 => ?_) (fun hc1 => ?_)
  · replace hc1 := nm_ hc1
    refine awp_seq ?_
    refine awp_region (by kernel_rfl) ?_
    iterate 3 (refine aL_S rfl rfl v_ ?_)
    refine aL_nil ?_
    refine awp_ret ?_
    rw [show mergeI l os = ([], [], 1) from by
      unfold mergeI
      cases h1 : itemsOk l <;> cases h2 : itemsOk os <;> simp [h1, h2] at hc1 ⊢]
    exact aEnd_retW (v := .tup [.sl 3 [] false, .sl 3 [] false, vInt 1]) (v' := .tup [vNil, vNil, vInt 1]) va_ wkNil3 sub_ ⟨rfl, rfl⟩
  · replace hc1 := nm_ hc1
    have hmi : mergeI l os = mgG l os := by simp [mergeI, hc1.1, hc1.2]
    refine awp_skip ?_
    refine awp_seq ?_
    refine awp_region (by kernel_rfl) ?_
    refine aL_nilOwn 35 3 rfl rfl rfl (by rfl) fun k7 hk7 => ?_
    refine aL_nilOwn 35 3 rfl rfl rfl (by rfl) fun k8 hk8 => ?_
    refine aL_nil ?_
    skip
    have h78 := newTok_none hk8
    refine awp_gen fun S0 hS => ?_
    have hT0 : Two σ S0 pItm k7 k8 := by
      rw [hS]
      refine ⟨?_, Store.newTok_get .., Ne.symm h78.1, hk7, h78.2, subx_newTok h78.2 (subx_newTok hk7 subx_refl)⟩
      simp only [Store.newTok]; rw [if_neg (Ne.symm h78.1)]; simp
    clear hS
    have hI0 : MI l os l os [] [] := ⟨fun _ h => h, fun _ h => h, by
      unfold mgC
      split
      · rename_i h; simp only [List.nil_append]; rw [← h]
      · rename_i h; exact (mgG_err _ l os (Nat.le_refl _) h).symm, Nat.le_refl _, Nat.le_refl _, by simp, by simp⟩
    refine awp_seq ?_
    refine awp_label ?_
    refine awp_seq ?_
    refine awp_block ?_
    refine awp_loop_env (ι := Store × Nat × Nat × List Itm × List Itm × List Itm × List Itm) (fun ⟨S, kd, kk, A, R0, out, ch⟩ => A.length + R0.length) (fun ⟨S, kd, kk, A, R0, out, ch⟩ => Two σ S pItm kd kk ∧ MI l os A R0 out ch) (fun ⟨S, kd, kk, A, R0, out, ch⟩ => [(0, .sl 3 (A.map sItem) false), (1, .sl 3 (R0.map sItem) false), (7, .own kd 3 (out.map sItem)), (8, .own kk 3 (ch.map sItem))]) (fun ⟨S, kd, kk, A, R0, out, ch⟩ => S) (S0, k7, k8, l, os, [], []) ?_ ?_ ?_ ?_
    · exact ⟨hT0, hI0⟩
    · exact cv_
    · exact Store.Wk.refl _
    rintro ⟨S, kd, kk, A, R0, out, ch⟩ ⟨hT, hI⟩
    simp only [envL_cons, envL_nil]
    refine awp_seq ?_
    refine awp_seq ?_
    refine awp_region (by kernel_rfl) ?_
    iterate 4 (refine aL_S rfl rfl v_ ?_)
    refine aL_GT rfl rfl v_ rfl vg_ ?_
    refine aL_GT rfl rfl v_ rfl vg_ ?_
    refine aL_GT rfl rfl v_ rfl vg_ ?_
    (refine aL_S rfl rfl v_ ?_)
    refine aL_nil ?_
    refine awp_cond v_ (fun hc4 => ?_) (fun hc4 => ?_)
    · replace hc4 := nm_ hc4
      obtain ⟨a, A1, rfl⟩ := cons_of hc4.1
      obtain ⟨b, R1, rfl⟩ := cons_of hc4.2
      have e1 : ((a :: A1).map sItem)[0]? = some (sItem a) := rfl
      have e2 : ((b :: R1).map sItem)[0]? = some (sItem b) := rfl
      have sa := hl a (hI.am a (.head _)); have sb := ho b (hI.bm b (.head _))
      have sm := hM a (hI.am a (.head _)) b (hI.bm b (.head _))
      have lo := hI.lo; have lc := hI.lc
      have d1 : (((a :: A1).map sItem).take (a :: A1).length).drop 1 = A1.map sItem := by rw [List.take_of_length_le (by simp)]; rfl
      have d2 : (((b :: R1).map sItem).take (b :: R1).length).drop 1 = R1.map sItem := by rw [List.take_of_length_le (by simp)]; rfl
      have d3 : ((a :: A1).map sItem).drop 1 = A1.map sItem := rfl
      have d4 : ((b :: R1).map sItem).drop 1 = R1.map sItem := rfl
      have tA : (A1.map sItem).take A1.length = A1.map sItem := List.take_of_length_le (by simp)
      have tB : (R1.map sItem).take R1.length = R1.map sItem := List.take_of_length_le (by simp)
      simp only [List.length_cons] at lo lc
      refine awp_skip ?_
      refine awp_block ?_
      refine awp_seq_mid (ι := Store × Nat × Nat) (fun ⟨S1, p9, p10⟩ => Two σ S1 pItm kd kk ∧ S1.heap p9 = some (.cells (sItem a).cells) ∧ S1.heap p10 = some (.cells (sItem b).cells)) (fun ⟨S1, p9, p10⟩ => [(0, .sl 3 ((a :: A1).map sItem) false), (1, .sl 3 ((b :: R1).map sItem) false), (7, .own kd 3 (out.map sItem)), (8, .own kk 3 (ch.map sItem)), (9, .ref p9 0), (10, .ref p10 0)]) (fun ⟨S1, p9, p10⟩ => S1) ?_ ?_
      · have R := And.intro e1 e2
        refine awp_draw (.op 0 0 (.op 1 0 (.op 2 0 (.op 3 0 (.op 4 0 (.any 5 (.alt 6 1 (.op 7 1 (.op 8 2 (.op 9 2 .nil))) (.op 7 1 (.op 6 1 (.op 8 2 (.op 9 2 .nil))))))))))) Tryz.mixed (by kernel_rfl) ?_
        iterate 5 (refine dR_S o_ (by rfl) (by rfl) v_ ?_)
        refine dR_A o_ (by rfl) (by rfl) (fun _ => v_) ?_
        refine dR_alt ?_ ?_
        · refine dR_alloc o_ (by rfl) (by rfl) (by rfl) g_ gl_ sub_ fun o9 ho9 => ?_
          repeat (rw [none_set_iff] at ho9; obtain ⟨_, ho9⟩ := ho9)
          refine dR_alloc o_ (by rfl) (by rfl) (by rfl) g_ gl_ sub_ fun o10 ho10 => ?_
          repeat (rw [none_set_iff] at ho10; obtain ⟨_, ho10⟩ := ho10)
          refine dR_store o_ (by rfl) (by rfl) (by rfl) v_ v_ h_ g_ rfl g_ c_ (by rfl) le_ v_ ?_
          refine dR_store o_ (by rfl) (by rfl) (by rfl) v_ v_ h_ g_ rfl g_ c_ (by rfl) le_ v_ ?_
          refine dR_nil ?_
          skip
          refine q_gen fun S1 hS => ?_
          have n9 : σ.heap o9 = none := SubX.noObj hT.sub ho9 (by simp)
          have n10 : σ.heap o10 = none := SubX.noObj hT.sub ho10 (by simp)
          have n910 : o9 ≠ o10 := by first | assumption | exact Ne.symm (by assumption)
          have f10 : S1.heap o10 = some (.cells (sItem b).cells) := by rw [hS]; exact Store.set_get ..
          have f9 : S1.heap o9 = some (.cells (sItem a).cells) := by rw [hS, Store.set_ne _ _ n910]; exact Store.set_get ..
          have hT1 : Two σ S1 pItm kd kk := by
            rw [hS]
            first
            | exact (((hT.put n9).put n10).put n9).put n10
            | exact (((hT.put n10).put n9).put n9).put n10
          clear hS
          refine ⟨(S1, o9, o10), ?_, ?_, ?_⟩
          · exact ⟨hT1, f9, f10⟩
          · exact cv_
          · exact Store.Wk.refl _
        refine dR_alloc o_ (by rfl) (by rfl) (by rfl) g_ gl_ sub_ fun o10 ho10 => ?_
        repeat (rw [none_set_iff] at ho10; obtain ⟨_, ho10⟩ := ho10)
        refine dR_alloc o_ (by rfl) (by rfl) (by rfl) g_ gl_ sub_ fun o9 ho9 => ?_
        repeat (rw [none_set_iff] at ho9; obtain ⟨_, ho9⟩ := ho9)
        refine dR_store o_ (by rfl) (by rfl) (by rfl) v_ v_ h_ g_ rfl g_ c_ (by rfl) le_ v_ ?_
        refine dR_store o_ (by rfl) (by rfl) (by rfl) v_ v_ h_ g_ rfl g_ c_ (by rfl) le_ v_ ?_
        refine dR_nil ?_
        skip
        refine q_gen fun S1 hS => ?_
        have n9 : σ.heap o9 = none := SubX.noObj hT.sub ho9 (by simp)
        have n10 : σ.heap o10 = none := SubX.noObj hT.sub ho10 (by simp)
        have n910 : o9 ≠ o10 := by first | assumption | exact Ne.symm (by assumption)
        have f10 : S1.heap o10 = some (.cells (sItem b).cells) := by rw [hS]; exact Store.set_get ..
        have f9 : S1.heap o9 = some (.cells (sItem a).cells) := by rw [hS, Store.set_ne _ _ n910]; exact Store.set_get ..
        have hT1 : Two σ S1 pItm kd kk := by
          rw [hS]
          first
          | exact (((hT.put n9).put n10).put n9).put n10
          | exact (((hT.put n10).put n9).put n9).put n10
        clear hS
        refine ⟨(S1, o9, o10), ?_, ?_, ?_⟩
        · exact ⟨hT1, f9, f10⟩
        · exact cv_
        · exact Store.Wk.refl _
      · rintro ⟨S1, p9, p10⟩ ⟨hT1, f9, f10⟩
        simp only [envL_cons, envL_nil]
        refine awp_seq ?_
        refine awp_seq ?_
        have R := And.intro f9 f10
        refine awp_region (by kernel_rfl) ?_
        iterate 4 (refine aL_S rfl rfl v_ ?_)
        refine aL_X rfl rfl (AOp_use rfl rfl (.inr ⟨rfl, rfl, rfl⟩) g_ va_ (strCompare_c) ?_); rintro _ _ ⟨rfl, rfl⟩
        refine aL_nil ?_
        refine awp_block ?_
        refine awp_seq ?_
        refine awp_region (by kernel_rfl) ?_
        iterate 2 (refine aL_S rfl rfl v_ ?_)
        refine aL_nil ?_
        refine awp_cond v_ (fun hc7 => ?_) (fun hc7 => ?_)
        · replace hc7 := nm_ hc7
          have hlow := cmpS_m1.1 hc7
          have td := hT1.td; have tk := hT1.tk
          obtain ⟨Sb, bh, b0, b1, b2⟩ := bare_of S1
          have fb := (bh p9).trans f9
          refine awp_seq ?_
          have R := And.intro fb (And.intro td (And.intro d1 d3))
          refine awp_draw0 (.op 0 0 (.op 1 0 (.op 4 0 (.op 5 0 (.op 2 1 (.op 3 1 (.op 6 0 (.op 7 0 .nil)))))))) Tryz.mixed Sb b0 (by kernel_rfl) ?_
          iterate 4 (refine dR_S o_ (by rfl) (by rfl) v_ ?_)
          refine dR_X o_ (by rfl) (by rfl) (AOp_buildSlice' (by rfl) g_ g_ (by rfl) (by rfl) h_ c2_ (by decide) ⟨b0, ?_⟩)
          refine dR_X o_ (by rfl) (by rfl) (AOp_append' (by rfl) g_ g_ v_ h_ v_ c_ (by simp; omega) fun k46 hk46 => ⟨b1 _ _ _, ?_⟩)
          iterate 2 (refine dR_S o_ (by rfl) (by rfl) v_ ?_)
          refine dR_nil ?_
          skip
          refine awp_gen fun S2 hS => ?_
          have hT2 : Two σ S2 pItm k46 kk := by rw [hS]; exact hT1.app1 hk46
          clear hS
          refine awp_exit ?_
          refine aBlock_miss (by decide) ?_
          refine aThen_exit ?_
          refine aBlock_hit ?_
          refine aNext (ι := Store × Nat × Nat × List Itm × List Itm × List Itm × List Itm) (i := (S, kd, kk, a :: A1, b :: R1, out, ch)) (S2, k46, kk, A1, b :: R1, out ++ [a], ch) ?_ ?_ ?_ ?_
          · show A1.length + (b :: R1).length < (a :: A1).length + (b :: R1).length; simp
          · exact ⟨hT2, hI.low hlow⟩
          · have R := And.intro tA tB; exact cv_
          · exact Store.Wk.refl _
        · replace hc7 := nm_ hc7
          refine awp_seq ?_
          refine awp_region (by kernel_rfl) ?_
          iterate 2 (refine aL_S rfl rfl v_ ?_)
          refine aL_nil ?_
          refine awp_cond v_ (fun hc9 => ?_) (fun hc9 => ?_)
          · replace hc9 := nm_ hc9
            have hhigh := cmpS_p1 hc9
            have td := hT1.td; have tk := hT1.tk
            obtain ⟨Sb, bh, b0, b1, b2⟩ := bare_of S1
            have fb := (bh p10).trans f10
            refine awp_seq ?_
            have R := And.intro fb (And.intro td (And.intro tk (And.intro d2 d4)))
            refine awp_draw0 (.op 0 0 (.op 1 0 (.op 4 0 (.op 5 0 (.op 8 0 (.op 9 0 (.alt 2 1 (.alt 3 1 (.op 6 1 (.op 7 1 (.op 10 0 (.op 11 0 (.op 12 0 .nil))))) (.op 6 1 (.op 3 1 (.op 7 1 (.op 10 0 (.op 11 0 (.op 12 0 .nil))))))) (.op 6 1 (.op 2 1 (.op 3 1 (.op 7 1 (.op 10 0 (.op 11 0 (.op 12 0 .nil)))))))))))))) Tryz.mixed Sb b0 (by kernel_rfl) ?_
            iterate 6 (refine dR_S o_ (by rfl) (by rfl) v_ ?_)
            refine dR_alt ?_ ?_
            · refine dR_X o_ (by rfl) (by rfl) (AOp_buildSlice' (by rfl) g_ g_ (by rfl) (by rfl) h_ c2_ (by decide) ⟨b0, ?_⟩)
              refine dR_alt ?_ ?_
              · refine dR_X o_ (by rfl) (by rfl) (AOp_append' (by rfl) g_ g_ v_ h_ v_ c_ (by simp; omega) fun k54 hk54 => ⟨b1 _ _ _, ?_⟩)
                refine dR_X o_ (by rfl) (by rfl) (AOp_buildSlice' (by rfl) g_ g_ (by rfl) (by rfl) h_ c2_ (by decide) ⟨by first | exact b0 | exact b1 _ _ _, ?_⟩)
                refine dR_X o_ (by rfl) (by rfl) (AOp_append' (by rfl) g_ g_ v_ ((hT1.app1 hk54).tk) v_ c_ (by simp; omega) fun k58 hk58 => ⟨b2 _ _ _ _ _ _, ?_⟩)
                iterate 3 (refine dR_S o_ (by rfl) (by rfl) v_ ?_)
                refine dR_nil ?_
                skip
                refine awp_gen fun S2 hS => ?_
                have hT2 : Two σ S2 pItm k54 k58 := by rw [hS]; exact (hT1.app1 hk54).app2 hk58
                clear hS
                refine awp_exit ?_
                refine aBlock_miss (by decide) ?_
                refine aThen_exit ?_
                refine aBlock_hit ?_
                refine aNext (ι := Store × Nat × Nat × List Itm × List Itm × List Itm × List Itm) (i := (S, kd, kk, a :: A1, b :: R1, out, ch)) (S2, k54, k58, a :: A1, R1, out ++ [b], ch ++ [b]) ?_ ?_ ?_ ?_
                · show (a :: A1).length + R1.length < (a :: A1).length + (b :: R1).length; simp
                · exact ⟨hT2, hI.high hhigh⟩
                · have R := And.intro tA tB; exact cv_
                · exact Store.Wk.refl _
              refine dR_X o_ (by rfl) (by rfl) (AOp_buildSlice' (by rfl) g_ g_ (by rfl) (by rfl) h_ c2_ (by decide) ⟨by first | exact b0 | exact b1 _ _ _, ?_⟩)
              refine dR_X o_ (by rfl) (by rfl) (AOp_append' (by rfl) g_ g_ v_ h_ v_ c_ (by simp; omega) fun k54 hk54 => ⟨b1 _ _ _, ?_⟩)
              refine dR_X o_ (by rfl) (by rfl) (AOp_append' (by rfl) g_ g_ v_ ((hT1.app1 hk54).tk) v_ c_ (by simp; omega) fun k58 hk58 => ⟨b2 _ _ _ _ _ _, ?_⟩)
              iterate 3 (refine dR_S o_ (by rfl) (by rfl) v_ ?_)
              refine dR_nil ?_
              skip
              refine awp_gen fun S2 hS => ?_
              have hT2 : Two σ S2 pItm k54 k58 := by rw [hS]; exact (hT1.app1 hk54).app2 hk58
              clear hS
              refine awp_exit ?_
              refine aBlock_miss (by decide) ?_
              refine aThen_exit ?_
              refine aBlock_hit ?_
              refine aNext (ι := Store × Nat × Nat × List Itm × List Itm × List Itm × List Itm) (i := (S, kd, kk, a :: A1, b :: R1, out, ch)) (S2, k54, k58, a :: A1, R1, out ++ [b], ch ++ [b]) ?_ ?_ ?_ ?_
              · show (a :: A1).length + R1.length < (a :: A1).length + (b :: R1).length; simp
              · exact ⟨hT2, hI.high hhigh⟩
              · have R := And.intro tA tB; exact cv_
              · exact Store.Wk.refl _
            refine dR_X o_ (by rfl) (by rfl) (AOp_buildSlice' (by rfl) g_ g_ (by rfl) (by rfl) h_ c2_ (by decide) ⟨by first | exact b0 | exact b1 _ _ _, ?_⟩)
            refine dR_X o_ (by rfl) (by rfl) (AOp_buildSlice' (by rfl) g_ g_ (by rfl) (by rfl) h_ c2_ (by decide) ⟨b0, ?_⟩)
            refine dR_X o_ (by rfl) (by rfl) (AOp_append' (by rfl) g_ g_ v_ h_ v_ c_ (by simp; omega) fun k54 hk54 => ⟨b1 _ _ _, ?_⟩)
            refine dR_X o_ (by rfl) (by rfl) (AOp_append' (by rfl) g_ g_ v_ ((hT1.app1 hk54).tk) v_ c_ (by simp; omega) fun k58 hk58 => ⟨b2 _ _ _ _ _ _, ?_⟩)
            iterate 3 (refine dR_S o_ (by rfl) (by rfl) v_ ?_)
            refine dR_nil ?_
            skip
            refine awp_gen fun S2 hS => ?_
            have hT2 : Two σ S2 pItm k54 k58 := by rw [hS]; exact (hT1.app1 hk54).app2 hk58
            clear hS
            refine awp_exit ?_
            refine aBlock_miss (by decide) ?_
            refine aThen_exit ?_
            refine aBlock_hit ?_
            refine aNext (ι := Store × Nat × Nat × List Itm × List Itm × List Itm × List Itm) (i := (S, kd, kk, a :: A1, b :: R1, out, ch)) (S2, k54, k58, a :: A1, R1, out ++ [b], ch ++ [b]) ?_ ?_ ?_ ?_
            · show (a :: A1).length + R1.length < (a :: A1).length + (b :: R1).length; simp
            · exact ⟨hT2, hI.high hhigh⟩
            · have R := And.intro tA tB; exact cv_
            · exact Store.Wk.refl _
          · replace hc9 := nm_ hc9
            have hpl := cmpS_0 hc7 hc9
            refine awp_skip ?_
            refine awp_seq ?_
            have R := And.intro f9 f10
            refine awp_region (by kernel_rfl) ?_
            iterate 4 (refine aL_S rfl rfl v_ ?_)
            refine aL_X rfl rfl (AOp_use rfl rfl (.inr ⟨rfl, rfl, rfl⟩) g_ va_ (merge_c sa.obj sb.obj) ?_); rintro _ _ ⟨rfl, rfl⟩
            iterate 3 (refine aL_S rfl rfl v_ ?_)
            refine aL_alloc rfl rfl rfl g_ gl_ fun o11 ho11 => ?_
            repeat (rw [none_set_iff] at ho11; obtain ⟨_, ho11⟩ := ho11)
            refine aL_store rfl rfl rfl v_ v_ h_ g_ rfl g_ c_ (by rfl) le_ v_ ?_
            (refine aL_S rfl rfl v_ ?_)
            refine aL_nil ?_
            skip
            have n11 := SubX.noObj hT1.sub ho11 (by simp)
            refine awp_gen fun S3 hS => ?_
            have f11 : S3.heap o11 = some (.cells (sObj (mergeS a.obj b.obj).1).cells) := gen_get hS
            replace f9 := gen_keep hS ho11 f9
            have hT3 : Two σ S3 pItm kd kk := by rw [hS]; exact (hT1.put n11).put n11
            clear hS
            refine awp_seq ?_
            refine awp_seq ?_
            refine awp_region (by kernel_rfl) ?_
            iterate 2 (refine aL_S rfl rfl v_ ?_)
            refine aL_nil ?_
            refine awp_cond v_ (fun hc12 => ?_) (fun hc12 => ?_)
            · replace hc12 := nm_ hc12
              refine awp_seq ?_
              refine awp_region (by kernel_rfl) ?_
              iterate 4 (refine aL_S rfl rfl v_ ?_)
              refine aL_nil ?_
              refine awp_ret ?_
              rw [hmi, show mgG l os = ([], [], (mergeS a.obj b.obj).2) from by rw [← hI.eq, mgC_err hpl hc12]]
              exact aEnd_retW (v := .tup [.sl 3 [] false, .sl 3 [] false, vInt (mergeS a.obj b.obj).2]) (v' := .tup [vNil, vNil, vInt (mergeS a.obj b.obj).2]) va_ wkNil3 (Store.Sub.wk ⟨fun i x hx => hT3.sub.1 i x (by simp) hx, hT3.sub.2⟩) ⟨rfl, rfl⟩
            · replace hc12 := nm_ hc12
              refine awp_skip ?_
              refine awp_seq ?_
              have R := And.intro f9 f11
              refine awp_region (by kernel_rfl) ?_
              iterate 4 (refine aL_S rfl rfl v_ ?_)
              refine aL_alloc rfl rfl rfl g_ gl_ fun o13 ho13 => ?_
              repeat (rw [none_set_iff] at ho13; obtain ⟨_, ho13⟩ := ho13)
              refine aL_store rfl rfl rfl v_ v_ h_ g_ rfl g_ c_ (by rfl) le_ v_ ?_
              refine aL_nil ?_
              skip
              have n13 := SubX.noObj hT3.sub ho13 (by simp)
              refine awp_gen fun S4 hS => ?_
              have f13 : S4.heap o13 = some (.cells (sItem ⟨a.place, (mergeS a.obj b.obj).1⟩).cells) := gen_get hS
              replace f9 := gen_keep hS ho13 f9
              replace f11 := gen_keep hS ho13 f11
              have hT4 : Two σ S4 pItm kd kk := by rw [hS]; exact (hT3.put n13).put n13
              have td := hT4.td; have tk := hT4.tk
              clear hS
              refine awp_seq ?_
              refine awp_seq ?_
              have R := And.intro f9 f11
              refine awp_region (by kernel_rfl) ?_
              iterate 3 (refine aL_S rfl rfl v_ ?_)
              refine aL_X rfl rfl (AOp_use rfl rfl (.inr ⟨rfl, rfl, rfl⟩) g_ va_ (oSame_c sm sa.obj) ?_); rintro _ _ ⟨rfl, rfl⟩
              (refine aL_S rfl rfl v_ ?_)
              refine aL_nil ?_
              refine awp_cond v_ (fun hc15 => ?_) (fun hc15 => ?_)
              · replace hc15 := nm_ hc15
                have hsm : ¬ (mergeS a.obj b.obj).1 = a.obj := by simpa using hc15
                have R := And.intro f13 tk
                refine awp_region (by kernel_rfl) ?_
                iterate 2 (refine aL_S rfl rfl v_ ?_)
                refine aL_buildSlice rfl rfl rfl g_ g_ rfl rfl h_ c2_ (by decide) ?_
                refine aL_append rfl rfl rfl g_ g_ v_ h_ v_ c_ (by simp; omega) fun k84 hk84 => ?_
                (refine aL_S rfl rfl v_ ?_)
                refine aL_nil ?_
                skip
                refine awp_gen fun S5 hS => ?_
                replace f13 : S5.heap o13 = some (.cells (sItem ⟨a.place, (mergeS a.obj b.obj).1⟩).cells) := by rw [hS]; exact f13
                replace hT4 : Two σ S5 pItm kd k84 := by rw [hS]; exact hT4.app2 hk84
                replace td := hT4.td
                clear hS
                obtain ⟨Sb, bh, b0, b1, b2⟩ := bare_of S5
                have fb := (bh o13).trans f13
                have R := And.intro fb (And.intro td (And.intro d1 (And.intro d2 (And.intro d3 d4))))
                refine awp_draw0 (.op 0 0 (.op 1 0 (.op 4 0 (.op 5 0 (.op 6 0 (.op 7 0 (.op 2 1 (.op 3 1 (.op 8 0 (.op 9 0 (.op 10 0 .nil))))))))))) Tryz.mixed Sb b0 (by kernel_rfl) ?_
                iterate 6 (refine dR_S o_ (by rfl) (by rfl) v_ ?_)
                refine dR_X o_ (by rfl) (by rfl) (AOp_buildSlice' (by rfl) g_ g_ (by rfl) (by rfl) h_ c2_ (by decide) ⟨b0, ?_⟩)
                refine dR_X o_ (by rfl) (by rfl) (AOp_append' (by rfl) g_ g_ v_ h_ v_ c_ (by simp; omega) fun k88 hk88 => ⟨b1 _ _ _, ?_⟩)
                iterate 3 (refine dR_S o_ (by rfl) (by rfl) v_ ?_)
                refine dR_nil ?_
                skip
                refine q_gen fun S6 hS => ?_
                have hT6 := hT4.app1 hk88
                rw [← hS] at hT6
                clear hS
                refine aNext (ι := Store × Nat × Nat × List Itm × List Itm × List Itm × List Itm) (i := (S, kd, kk, a :: A1, b :: R1, out, ch)) (S6, k88, k84, A1, R1, out ++ [⟨a.place, (mergeS a.obj b.obj).1⟩], ch ++ [⟨a.place, (mergeS a.obj b.obj).1⟩]) ?_ ?_ ?_ ?_
                · show A1.length + R1.length < (a :: A1).length + (b :: R1).length; simp; omega
                · exact ⟨hT6, hI.eqC hpl hc12 hsm⟩
                · have R := And.intro tA tB; exact cv_
                · exact Store.Wk.refl _
              · replace hc15 := nm_ hc15
                have hsm : (mergeS a.obj b.obj).1 = a.obj := by simpa using hc15
                obtain ⟨Sb, bh, b0, b1, b2⟩ := bare_of S4
                have fb := (bh o13).trans f13
                refine awp_skip ?_
                have R := And.intro fb (And.intro td (And.intro d1 (And.intro d2 (And.intro d3 d4))))
                refine awp_draw0 (.op 0 0 (.op 1 0 (.op 4 0 (.op 5 0 (.op 6 0 (.op 7 0 (.op 2 1 (.op 3 1 (.op 8 0 (.op 9 0 (.op 10 0 .nil))))))))))) Tryz.mixed Sb b0 (by kernel_rfl) ?_
                iterate 6 (refine dR_S o_ (by rfl) (by rfl) v_ ?_)
                refine dR_X o_ (by rfl) (by rfl) (AOp_buildSlice' (by rfl) g_ g_ (by rfl) (by rfl) h_ c2_ (by decide) ⟨b0, ?_⟩)
                refine dR_X o_ (by rfl) (by rfl) (AOp_append' (by rfl) g_ g_ v_ h_ v_ c_ (by simp; omega) fun k88 hk88 => ⟨b1 _ _ _, ?_⟩)
                iterate 3 (refine dR_S o_ (by rfl) (by rfl) v_ ?_)
                refine dR_nil ?_
                skip
                refine q_gen fun S6 hS => ?_
                have hT6 := hT4.app1 hk88
                rw [← hS] at hT6
                clear hS
                refine aNext (ι := Store × Nat × Nat × List Itm × List Itm × List Itm × List Itm) (i := (S, kd, kk, a :: A1, b :: R1, out, ch)) (S6, k88, kk, A1, R1, out ++ [⟨a.place, (mergeS a.obj b.obj).1⟩], ch) ?_ ?_ ?_ ?_
                · show A1.length + R1.length < (a :: A1).length + (b :: R1).length; simp; omega
                · exact ⟨hT6, hI.eqS hpl hc12 hsm⟩
                · have R := And.intro tA tB; exact cv_
                · exact Store.Wk.refl _
    · replace hc4 := nm_ hc4
      have hz : A = [] ∨ R0 = [] := by
        rcases hc4 with h | h
        · exact .inl (List.eq_nil_of_length_eq_zero (by omega))
        · exact .inr (List.eq_nil_of_length_eq_zero (by omega))
      have hd := hI.done hz
      have lo := hI.lo; have lc := hI.lc
      refine awp_exit ?_
      refine aThen_exit ?_
      refine aThen_exit ?_
      refine aBlock_hit ?_
      refine awp_seq ?_
      refine awp_region (by kernel_rfl) ?_
      refine aL_X rfl rfl (AOp_wk (a := .own kd 3 (out.map sItem)) (AOp_val (by rfl) ⟨rfl, rfl⟩) (.own1 _ _ _) ?_)
      iterate 2 (refine aL_S rfl rfl v_ ?_)
      refine aL_buildSlice rfl rfl rfl g_ g_ rfl rfl h_ c2_ (by decide) ?_
      refine aL_X rfl rfl (AOp_use rfl rfl (.inr ⟨rfl, rfl, rfl⟩) g_ va_ (ACalls.frozen (concatItm_c (Ls := [out, A, R0]) (by simp; omega) (by simp)) (szItm _)) ?_); rintro _ _ ⟨rfl, rfl⟩
      refine aL_X rfl rfl (AOp_wk (a := .own kk 3 (ch.map sItem)) (AOp_val (by rfl) ⟨rfl, rfl⟩) (.own1 _ _ _) ?_)
      (refine aL_S rfl rfl v_ ?_)
      refine aL_buildSlice rfl rfl rfl g_ g_ rfl rfl h_ c2_ (by decide) ?_
      refine aL_X rfl rfl (AOp_use rfl rfl (.inr ⟨rfl, rfl, rfl⟩) g_ va_ (ACalls.frozen (concatItm_c (Ls := [ch, R0]) (by simp; omega) (by simp)) (szItm _)) ?_); rintro _ _ ⟨rfl, rfl⟩
      iterate 3 (refine aL_S rfl rfl v_ ?_)
      refine aL_nil ?_
      refine awp_ret ?_
      rw [hmi, hd]
      exact aEnd_ret va_ (Store.Sub.wk ⟨fun i x hx => hT.sub.1 i x (by simp) hx, hT.sub.2⟩) ⟨rfl, rfl⟩
end Go.Proofs.YtbomkkjhafdhiaaGreat
end
