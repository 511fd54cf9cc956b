/-
  The program's values of two objects: the greater one, where a dot's value stands, what another object lets be; The reference's objects merged. Own work (an AI agent).
-/
import Derived.Test.YtgpibooklhakgaaGreatHA
import Derived.Test.YtgpibooklhakgaaGreatGP

section
set_option linter.all false
set_option maxRecDepth 100000
namespace Go.Proofs.YtgpibooklhakgaaGreat
open Go.Ab

theorem or3_c {a b c : Int} {t : Bool} {σ : Store} : ACalls Tryz.prog 228 [.sl 1 [vInt a, vInt b, vInt c] t] σ fun v σ' => v = vInt (if a ≠ 0 then a else if b ≠ 0 then b else c) ∧ σ = σ' := by
  refine ACalls_of Tryz.func228 rfl Tryz.ntmps228 (congrArg Array.toList Tryz.results228) (by simp only [List.length_cons, List.length_nil]; decide) ?_; simp only [envOf_cons, envOf_nil, Nat.reduceAdd]
  refine awp_seq ?_
  refine awp_region (by kernel_rfl) ?_
  (refine aL_S rfl rfl v_ ?_)
  refine aL_nil ?_
  refine awp_seq ?_
  refine awp_region (by kernel_rfl) ?_
  (refine aL_S rfl rfl v_ ?_)
  refine aL_nil ?_
  refine awp_seq ?_
  refine awp_seq ?_
  refine awp_region (by kernel_rfl) ?_
  iterate 3 (refine aL_S rfl rfl v_ ?_)
  refine aL_nil ?_
  refine awp_block ?_
  refine awp_loop_env (ι := Nat) (fun k => 3 - k) (fun k => k ≤ 3 ∧ (1 ≤ k → a = 0) ∧ (2 ≤ k → b = 0) ∧ (3 ≤ k → c = 0)) (fun k => [(3, vInt 0), (6, .sl 1 [vInt a, vInt b, vInt c] t), (7, vInt 3), (8, vInt k)]) (fun k => σ) 0 ?_ ?_ ?_ ?_
  · exact ⟨Nat.zero_le _, fun h => by omega, fun h => by omega, fun h => by omega⟩
  · exact cv_
  · exact sub_
  rintro k ⟨hk, h1, h2, h3⟩
  simp only [envL_cons, envL_nil]
  refine awp_seq ?_
  refine awp_region (by kernel_rfl) ?_
  (refine aL_S rfl rfl v_ ?_)
  refine aL_nil ?_
  refine awp_seq ?_
  refine awp_cond v_ (fun hc3 => ?_) (fun hc3 => ?_)
  · replace hc3 := nm_ hc3
    refine awp_skip ?_
    refine awp_seq ?_
    refine awp_block ?_
    refine awp_seq ?_
    skip
    obtain ⟨x, hxk, hx0, hx1, hx2⟩ : ∃ x, [vInt a, vInt b, vInt c][k]? = some (vInt x) ∧ (k = 0 → x = a) ∧ (k = 1 → x = b) ∧ (k = 2 → x = c) := by
      match k, (show k < 3 by omega) with
      | 0, _ => exact ⟨a, rfl, fun _ => rfl, (fun h => by cases h), fun h => by cases h⟩
      | 1, _ => exact ⟨b, rfl, (fun h => by cases h), (fun _ => rfl), fun h => by cases h⟩
      | 2, _ => exact ⟨c, rfl, (fun h => by cases h), (fun h => by cases h), fun _ => rfl⟩
    have R := hxk
    refine awp_region (by kernel_rfl) ?_
    iterate 3 (refine aL_S rfl rfl v_ ?_)
    refine aL_nil ?_
    refine awp_seq ?_
    refine awp_region (by kernel_rfl) ?_
    iterate 3 (refine aL_S rfl rfl v_ ?_)
    refine aL_nil ?_
    refine awp_cond v_ (fun hc5 => ?_) (fun hc5 => ?_)
    · replace hc5 := nm_ hc5
      refine awp_seq ?_
      refine awp_region (by kernel_rfl) ?_
      iterate 2 (refine aL_S rfl rfl v_ ?_)
      refine aL_nil ?_
      refine awp_ret ?_
      refine aEnd_ret (σ' := σ) v_ sub_ ?_
      refine ⟨?_, rfl⟩
      rcases Nat.lt_or_ge k 1 with h | h
      · obtain rfl := hx0 (by omega)
        rw [if_pos hc5]
      · rw [if_neg (by rw [h1 h]; simp)]
        rcases Nat.lt_or_ge k 2 with h' | h'
        · obtain rfl := hx1 (by omega)
          rw [if_pos hc5]
        · obtain rfl := hx2 (by omega)
          rw [if_neg (by rw [h2 h']; simp)]
    · replace hc5 := nm_ hc5
      have hs1 : a = 0 := by rcases Nat.lt_or_ge k 1 with h | h; exact (hx0 (by omega)) ▸ hc5; exact h1 h
      have hs2 : 2 ≤ k + 1 → b = 0 := fun h => by rcases Nat.lt_or_ge k 2 with h' | h'; exact (hx1 (by omega)) ▸ hc5; exact h2 h'
      have hs3 : 3 ≤ k + 1 → c = 0 := fun h => (hx2 (by omega)) ▸ hc5
      refine awp_skip ?_
      refine awp_region (by kernel_rfl) ?_
      iterate 2 (refine aL_S rfl rfl v_ ?_)
      refine aL_nil ?_
      refine aNext (ι := Nat) (i := k) (k + 1) ?_ ?_ ?_ ?_
      · omega
      · exact ⟨by omega, fun _ => hs1, fun h => hs2 h, fun h => hs3 h⟩
      · exact cv_
      · exact sub_
  · replace hc3 := nm_ hc3
    refine awp_exit ?_
    refine aThen_exit ?_
    refine aThen_exit ?_
    refine aBlock_hit ?_
    refine awp_seq ?_
    refine awp_region (by kernel_rfl) ?_
    iterate 2 (refine aL_S rfl rfl v_ ?_)
    refine aL_nil ?_
    refine awp_ret ?_
    refine aEnd_ret (σ' := σ) v_ sub_ ?_
    refine ⟨?_, rfl⟩
    rw [if_neg (by rw [h1 (by omega)]; simp), if_neg (by rw [h2 (by omega)]; simp), h3 (by omega)]
theorem cmpV {a b : Sib} {g : Int} (hg : g < 0 ↔ (a.gone = false ∧ b.gone = true)) : ((if cmpI a.time b.time ≠ 0 then cmpI a.time b.time else if cmpS a.value b.value ≠ 0 then cmpS a.value b.value else g) < 0) ↔ ltV a b = true := by
  rw [ltV_iff]
  unfold cmpI cmpS
  by_cases h1 : a.time < b.time
  · simp [h1]
  · by_cases h2 : b.time < a.time
    · have : a.time ≠ b.time := by omega
      simp [h1, h2, this]
    · have : a.time = b.time := by omega
      cases h3 : sLt a.value b.value with
      | true => simp [this]
      | false => by_cases h4 : a.value = b.value <;> simp [this, h4, hg]
theorem gr_yes {a b : Sib} {g : Int} (hg : g < 0 ↔ (a.gone = false ∧ b.gone = true)) (h : (if ¬cmpI a.time b.time = 0 then cmpI a.time b.time else if ¬cmpS a.value b.value = 0 then cmpS a.value b.value else g) < 0) : grS a b = b := by
  rw [grS, if_pos ((cmpV hg).1 h)]
theorem gr_no {a b : Sib} {g : Int} (hg : g < 0 ↔ (a.gone = false ∧ b.gone = true)) (h : 0 ≤ (if ¬cmpI a.time b.time = 0 then cmpI a.time b.time else if ¬cmpS a.value b.value = 0 then cmpS a.value b.value else g)) : grS a b = a := by
  rw [grS, if_neg fun k => by
    have := (cmpV hg).2 k
    have e : (if cmpI a.time b.time ≠ 0 then cmpI a.time b.time else if cmpS a.value b.value ≠ 0 then cmpS a.value b.value else g) = (if ¬cmpI a.time b.time = 0 then cmpI a.time b.time else if ¬cmpS a.value b.value = 0 then cmpS a.value b.value else g) := rfl
    omega]
theorem greater_c {a b : Sib} {σ : Store} : ACalls Tryz.prog 196 [sSib a, sSib b] σ fun v σ' => v = sSib (grS a b) ∧ σ = σ' := by
  refine ACalls_of Tryz.func196 rfl Tryz.ntmps196 (congrArg Array.toList Tryz.results196) (by simp only [List.length_cons, List.length_nil]; decide) ?_; simp only [envOf_cons, envOf_nil, Nat.reduceAdd]
  refine awp_seq ?_
  refine awp_region (by kernel_rfl) ?_
  refine aL_box rfl rfl rfl v_ rfl g_ fun o2 ho2 => ?_
  repeat (rw [none_set_iff] at ho2; obtain ⟨_, ho2⟩ := ho2)
  refine aL_box rfl rfl rfl v_ rfl g_ fun o3 ho3 => ?_
  repeat (rw [none_set_iff] at ho3; obtain ⟨_, ho3⟩ := ho3)
  refine aL_alloc rfl rfl rfl g_ gl_ fun o4 ho4 => ?_
  repeat (rw [none_set_iff] at ho4; obtain ⟨_, ho4⟩ := ho4)
  refine aL_nil ?_
  refine awp_seq ?_
  refine awp_region (by kernel_rfl) ?_
  (refine aL_S rfl rfl v_ ?_)
  refine aL_nil ?_
  refine awp_seq ?_
  refine awp_seq ?_
  refine awp_region (by kernel_rfl) ?_
  iterate 2 (refine aL_S rfl rfl v_ ?_)
  refine aL_nil ?_
  refine awp_cond v_ (fun hc2 => ?_) (fun hc2 => ?_)
  · replace hc2 := nm_ hc2
    refine awp_region (by kernel_rfl) ?_
    (refine aL_S rfl rfl v_ ?_)
    refine aL_nil ?_
    refine awp_seq ?_
    refine awp_seq ?_
    refine awp_draw (.op 0 0 (.op 1 0 (.op 2 0 (.op 3 0 (.op 5 0 (.op 6 0 (.op 7 0 (.op 8 0 (.op 10 0 (.op 4 1 (.op 9 1 (.op 11 1 (.op 12 1 (.op 13 0 .nil)))))))))))))) Tryz.mixed (by kernel_rfl) ?_
    iterate 9 (refine dR_S o_ (by rfl) (by rfl) v_ ?_)
    refine dR_X o_ (by rfl) (by rfl) (AOp_use (by rfl) (by rfl) (.inr ⟨by rfl, by rfl, by rfl⟩) g_ va_ (intCompare_c) ?_); rintro _ _ ⟨rfl, rfl⟩; refine ⟨sub_, ?_⟩
    refine dR_X o_ (by rfl) (by rfl) (AOp_use (by rfl) (by rfl) (.inr ⟨by rfl, by rfl, by rfl⟩) g_ va_ (strCompare_c) ?_); rintro _ _ ⟨rfl, rfl⟩; refine ⟨sub_, ?_⟩
    refine dR_X o_ (by rfl) (by rfl) (AOp_buildSlice' (by rfl) g_ g_ (by rfl) (by rfl) h_ c2_ (by decide) ⟨sub_, ?_⟩)
    refine dR_X o_ (by rfl) (by rfl) (AOp_use (by rfl) (by rfl) (.inr ⟨by rfl, by rfl, by rfl⟩) g_ va_ (or3_c (a := cmpI a.time b.time) (b := cmpS a.value b.value)) ?_); rintro _ _ ⟨rfl, rfl⟩; refine ⟨sub_, ?_⟩
    (refine dR_S o_ (by rfl) (by rfl) v_ ?_)
    refine dR_nil ?_
    refine awp_cond v_ (fun hc6 => ?_) (fun hc6 => ?_)
    · replace hc6 := nm_ hc6
      refine awp_seq ?_
      refine awp_region (by kernel_rfl) ?_
      (refine aL_S rfl rfl v_ ?_)
      refine aL_store rfl rfl rfl v_ v_ h_ g_ rfl g_ c_ (by rfl) le_ v_ ?_
      refine aL_nil ?_
      refine awp_ret ?_
      refine aEnd_ret (σ' := σ) v_ sub_ ?_
      exact ⟨by rw [gr_yes (by simp [hc2]) hc6], rfl⟩
    · replace hc6 := nm_ hc6
      refine awp_skip ?_
      refine awp_seq ?_
      refine awp_region (by kernel_rfl) ?_
      (refine aL_S rfl rfl v_ ?_)
      refine aL_store rfl rfl rfl v_ v_ h_ g_ rfl g_ c_ (by rfl) le_ v_ ?_
      refine aL_nil ?_
      refine awp_ret ?_
      refine aEnd_ret (σ' := σ) v_ sub_ ?_
      exact ⟨by rw [gr_no (by simp [hc2]) hc6], rfl⟩
  · replace hc2 := nm_ hc2
    refine awp_seq ?_
    refine awp_region (by kernel_rfl) ?_
    iterate 2 (refine aL_S rfl rfl v_ ?_)
    refine aL_nil ?_
    refine awp_cond v_ (fun hc4 => ?_) (fun hc4 => ?_)
    · replace hc4 := nm_ hc4
      refine awp_region (by kernel_rfl) ?_
      (refine aL_S rfl rfl v_ ?_)
      refine aL_nil ?_
      refine awp_seq ?_
      refine awp_seq ?_
      refine awp_draw (.op 0 0 (.op 1 0 (.op 2 0 (.op 3 0 (.op 5 0 (.op 6 0 (.op 7 0 (.op 8 0 (.op 10 0 (.op 4 1 (.op 9 1 (.op 11 1 (.op 12 1 (.op 13 0 .nil)))))))))))))) Tryz.mixed (by kernel_rfl) ?_
      iterate 9 (refine dR_S o_ (by rfl) (by rfl) v_ ?_)
      refine dR_X o_ (by rfl) (by rfl) (AOp_use (by rfl) (by rfl) (.inr ⟨by rfl, by rfl, by rfl⟩) g_ va_ (intCompare_c) ?_); rintro _ _ ⟨rfl, rfl⟩; refine ⟨sub_, ?_⟩
      refine dR_X o_ (by rfl) (by rfl) (AOp_use (by rfl) (by rfl) (.inr ⟨by rfl, by rfl, by rfl⟩) g_ va_ (strCompare_c) ?_); rintro _ _ ⟨rfl, rfl⟩; refine ⟨sub_, ?_⟩
      refine dR_X o_ (by rfl) (by rfl) (AOp_buildSlice' (by rfl) g_ g_ (by rfl) (by rfl) h_ c2_ (by decide) ⟨sub_, ?_⟩)
      refine dR_X o_ (by rfl) (by rfl) (AOp_use (by rfl) (by rfl) (.inr ⟨by rfl, by rfl, by rfl⟩) g_ va_ (or3_c (a := cmpI a.time b.time) (b := cmpS a.value b.value)) ?_); rintro _ _ ⟨rfl, rfl⟩; refine ⟨sub_, ?_⟩
      (refine dR_S o_ (by rfl) (by rfl) v_ ?_)
      refine dR_nil ?_
      refine awp_cond v_ (fun hc6 => ?_) (fun hc6 => ?_)
      · replace hc6 := nm_ hc6
        refine awp_seq ?_
        refine awp_region (by kernel_rfl) ?_
        (refine aL_S rfl rfl v_ ?_)
        refine aL_store rfl rfl rfl v_ v_ h_ g_ rfl g_ c_ (by rfl) le_ v_ ?_
        refine aL_nil ?_
        refine awp_ret ?_
        refine aEnd_ret (σ' := σ) v_ sub_ ?_
        exact ⟨by rw [gr_yes (by simp [hc2, hc4]) hc6], rfl⟩
      · replace hc6 := nm_ hc6
        refine awp_skip ?_
        refine awp_seq ?_
        refine awp_region (by kernel_rfl) ?_
        (refine aL_S rfl rfl v_ ?_)
        refine aL_store rfl rfl rfl v_ v_ h_ g_ rfl g_ c_ (by rfl) le_ v_ ?_
        refine aL_nil ?_
        refine awp_ret ?_
        refine aEnd_ret (σ' := σ) v_ sub_ ?_
        exact ⟨by rw [gr_no (by simp [hc2, hc4]) hc6], rfl⟩
    · replace hc4 := nm_ hc4
      refine awp_skip ?_
      refine awp_seq ?_
      refine awp_seq ?_
      refine awp_draw (.op 0 0 (.op 1 0 (.op 2 0 (.op 3 0 (.op 5 0 (.op 6 0 (.op 7 0 (.op 8 0 (.op 10 0 (.op 4 1 (.op 9 1 (.op 11 1 (.op 12 1 (.op 13 0 .nil)))))))))))))) Tryz.mixed (by kernel_rfl) ?_
      iterate 9 (refine dR_S o_ (by rfl) (by rfl) v_ ?_)
      refine dR_X o_ (by rfl) (by rfl) (AOp_use (by rfl) (by rfl) (.inr ⟨by rfl, by rfl, by rfl⟩) g_ va_ (intCompare_c) ?_); rintro _ _ ⟨rfl, rfl⟩; refine ⟨sub_, ?_⟩
      refine dR_X o_ (by rfl) (by rfl) (AOp_use (by rfl) (by rfl) (.inr ⟨by rfl, by rfl, by rfl⟩) g_ va_ (strCompare_c) ?_); rintro _ _ ⟨rfl, rfl⟩; refine ⟨sub_, ?_⟩
      refine dR_X o_ (by rfl) (by rfl) (AOp_buildSlice' (by rfl) g_ g_ (by rfl) (by rfl) h_ c2_ (by decide) ⟨sub_, ?_⟩)
      refine dR_X o_ (by rfl) (by rfl) (AOp_use (by rfl) (by rfl) (.inr ⟨by rfl, by rfl, by rfl⟩) g_ va_ (or3_c (a := cmpI a.time b.time) (b := cmpS a.value b.value)) ?_); rintro _ _ ⟨rfl, rfl⟩; refine ⟨sub_, ?_⟩
      (refine dR_S o_ (by rfl) (by rfl) v_ ?_)
      refine dR_nil ?_
      refine awp_cond v_ (fun hc6 => ?_) (fun hc6 => ?_)
      · replace hc6 := nm_ hc6
        refine awp_seq ?_
        refine awp_region (by kernel_rfl) ?_
        (refine aL_S rfl rfl v_ ?_)
        refine aL_store rfl rfl rfl v_ v_ h_ g_ rfl g_ c_ (by rfl) le_ v_ ?_
        refine aL_nil ?_
        refine awp_ret ?_
        refine aEnd_ret (σ' := σ) v_ sub_ ?_
        exact ⟨by rw [gr_yes (by simp [hc2, hc4]) hc6], rfl⟩
      · replace hc6 := nm_ hc6
        refine awp_skip ?_
        refine awp_seq ?_
        refine awp_region (by kernel_rfl) ?_
        (refine aL_S rfl rfl v_ ?_)
        refine aL_store rfl rfl rfl v_ v_ h_ g_ rfl g_ c_ (by rfl) le_ v_ ?_
        refine aL_nil ?_
        refine awp_ret ?_
        refine aEnd_ret (σ' := σ) v_ sub_ ?_
        exact ⟨by rw [gr_no (by simp [hc2, hc4]) hc6], rfl⟩
theorem rise_get {l : List Sib} (h : RiseD l) {j k : Nat} {x y : Sib} (hjk : j < k) (hj : l[j]? = some x) (hk : l[k]? = some y) : lessX x y = true := by
  obtain ⟨h1, rfl⟩ := List.getElem?_eq_some_iff.1 hj
  obtain ⟨h2, rfl⟩ := List.getElem?_eq_some_iff.1 hk
  exact List.pairwise_iff_getElem.1 h j k h1 h2 hjk
theorem lessX_trans {x y z : Sib} (h1 : lessX x y = true) (h2 : lessX y z = true) : lessX x z = true := lessD_trans h1 h2
theorem cmpD_zero {s : ByteArray} {n : Int} {s' : ByteArray} {n' : Int} : cmpD s n s' n' = 0 ↔ s = s' ∧ n = n' := by
  unfold cmpD cmpS cmpI
  cases h1 : sLt s s' with
  | true => simp; intro h; rw [h, sLt_irrefl] at h1; cases h1
  | false =>
    by_cases h2 : s = s' <;> simp [h2]
    by_cases h3 : n < n' <;> by_cases h4 : n' < n <;> simp [h3, h4] <;> omega
def LoD (l : List Sib) (x : Sib) (i : Nat) : Prop := ∀ m y, m < i → l[m]? = some y → lessX y x = true
def HiD (l : List Sib) (x : Sib) (j : Nat) : Prop := ∀ m y, j ≤ m → l[m]? = some y → lessX y x = false
theorem bsearchD_c {l : List Sib} {s : Sib} {t : Bool} {σ : Store} (hr : RiseD l) (hn : l.length ≤ 1000000) :
    ACalls Tryz.prog 195 [.sl 5 (l.map sSib) t, sSib s, .lit (.func (.func 131) #[] #[])] σ fun v σ' => (∃ r : Nat, ∃ b : Bool, v = .tup [vInt r, vB b] ∧ r ≤ l.length ∧ LoD l s r ∧ HiD l s r ∧ (b = true ↔ ∃ y, l[r]? = some y ∧ Dot y s)) ∧ σ = σ' := by
  refine ACalls_of Tryz.func195 rfl Tryz.ntmps195 (congrArg Array.toList Tryz.results195) (by simp only [List.length_cons, List.length_nil]; decide) ?_; simp only [envOf_cons, envOf_nil, Nat.reduceAdd]
  refine awp_seq ?_
  refine awp_region (by kernel_rfl) ?_
  refine aL_box rfl rfl rfl v_ rfl g_ fun o4 ho4 => ?_
  repeat (rw [none_set_iff] at ho4; obtain ⟨_, ho4⟩ := ho4)
  iterate 2 (refine aL_S rfl rfl v_ ?_)
  refine aL_nil ?_
  refine awp_seq ?_
  refine awp_region (by kernel_rfl) ?_
  iterate 3 (refine aL_S rfl rfl v_ ?_)
  refine aL_nil ?_
  refine awp_seq ?_
  refine awp_region (by kernel_rfl) ?_
  iterate 3 (refine aL_S rfl rfl v_ ?_)
  refine aL_nil ?_
  refine awp_seq ?_
  refine awp_block ?_
  refine awp_loop_env (ι := Nat × Nat) (fun ⟨i, j⟩ => j - i) (fun ⟨i, j⟩ => i ≤ j ∧ j ≤ l.length ∧ LoD l s i ∧ HiD l s j) (fun ⟨i, j⟩ => [(0, .sl 5 (l.map sSib) t), (4, .ref o4 0), (2, .lit (.func (.func 131) #[] #[])), (8, vInt l.length), (9, vInt i), (10, vInt j)]) (fun ⟨i, j⟩ => (σ.set o4 (.cells (sSib s).cells))) (0, l.length) ?_ ?_ ?_ ?_
  · exact ⟨Nat.zero_le _, Nat.le_refl _, (fun m x h => by omega), fun m x h hx => by rw [List.getElem?_eq_none (by omega)] at hx; cases hx⟩
  · exact cv_
  · exact Store.Wk.refl _
  rintro ⟨i, j⟩ ⟨hij, hj, hlo, hhi⟩
  simp only [envL_cons, envL_nil]
  refine awp_seq ?_
  refine awp_seq ?_
  refine awp_region (by kernel_rfl) ?_
  iterate 3 (refine aL_S rfl rfl v_ ?_)
  refine aL_nil ?_
  refine awp_cond v_ (fun hc3 => ?_) (fun hc3 => ?_)
  · replace hc3 := nm_ hc3
    refine awp_skip ?_
    refine awp_block ?_
    refine awp_seq ?_
    have hdiv : ((i : Int) + j) / 2 ^ 1 = (((i + j) / 2 : Nat) : Int) := by omega
    obtain ⟨x, hx⟩ := get_some (l := l) (k := (i + j) / 2) (by omega)
    have R := And.intro wrap_u64_m hdiv
    refine awp_region (by kernel_rfl) ?_
    iterate 7 (refine aL_S rfl rfl v_ ?_)
    refine aL_nil ?_
    refine awp_seq ?_
    have R := hx
    refine awp_draw (.op 0 0 (.op 1 0 (.op 2 0 (.op 3 0 (.op 4 0 (.op 5 0 (.op 6 1 (.op 7 0 .nil)))))))) Tryz.mixed (by kernel_rfl) ?_
    iterate 6 (refine dR_S o_ (by rfl) (by rfl) v_ ?_)
    refine dR_X o_ (by rfl) (by rfl) (AOp_use (by rfl) (by rfl) (.inr ⟨va_, by rfl, by rfl⟩) g_ va_ (order_c) ?_); rintro _ _ ⟨rfl, rfl⟩; refine ⟨sub_, ?_⟩
    (refine dR_S o_ (by rfl) (by rfl) v_ ?_)
    refine dR_nil ?_
    refine awp_cond v_ (fun hc5 => ?_) (fun hc5 => ?_)
    · replace hc5 := nm_ hc5
      have hlt := cmp_less'.1 hc5
      have hlo' : LoD l s ((i + j) / 2 + 1) := fun m y hm hy => by
        rcases Nat.lt_or_eq_of_le (Nat.le_of_lt_succ hm) with h | h
        · exact lessX_trans (rise_get hr h hy hx) hlt
        · rw [h, hx] at hy; obtain rfl := Option.some.inj hy; exact hlt
      refine awp_region (by kernel_rfl) ?_
      iterate 3 (refine aL_S rfl rfl v_ ?_)
      refine aL_nil ?_
      refine aNext (ι := Nat × Nat) (i := ⟨i, j⟩) ((i + j) / 2 + 1, j) ?_ ?_ ?_ ?_
      · show j - ((i + j) / 2 + 1) < j - i; omega
      · exact ⟨by show (i + j) / 2 + 1 ≤ j; omega, hj, hlo', hhi⟩
      · have R := hdiv; exact cv_
      · exact sub_
    · replace hc5 := nm_ hc5
      skip
      have hge := cmp_less.1 hc5
      have hhi' : HiD l s ((i + j) / 2) := fun m y hm hy => by
        rcases Nat.lt_or_eq_of_le hm with h | h
        · cases k : lessX y s with
          | false => rfl
          | true => have := lessX_trans (rise_get hr h hx hy) k; rw [lessX, hge] at this; cases this
        · rw [← h, hx] at hy; obtain rfl := Option.some.inj hy; exact hge
      refine awp_region (by kernel_rfl) ?_
      iterate 2 (refine aL_S rfl rfl v_ ?_)
      refine aL_nil ?_
      refine aNext (ι := Nat × Nat) (i := ⟨i, j⟩) (i, (i + j) / 2) ?_ ?_ ?_ ?_
      · show (i + j) / 2 - i < j - i; omega
      · exact ⟨by show i ≤ (i + j) / 2; omega, by show (i + j) / 2 ≤ l.length; omega, hlo, hhi'⟩
      · have R := hdiv; exact cv_
      · exact sub_
  · replace hc3 := nm_ hc3
    refine awp_exit ?_
    refine aThen_exit ?_
    refine aThen_exit ?_
    refine aBlock_hit ?_
    refine awp_seq ?_
    skip
    obtain rfl : i = j := by omega
    obtain ⟨x, hx⟩ := get_if l i
    have R := hx
    refine awp_draw (.op 0 0 (.op 1 0 (.op 2 0 (.op 3 0 (.op 4 0 (.op 5 0 (.op 6 0 (.op 7 0 (.op 8 0 (.op 9 0 (.op 10 0 (.op 11 1 (.op 12 0 (.op 13 0 (.op 14 0 (.op 15 0 .nil)))))))))))))))) Tryz.mixed (by kernel_rfl) ?_
    iterate 5 (refine dR_S o_ (by rfl) (by rfl) v_ ?_)
    refine dR_GT o_ (by rfl) (by rfl) v_ (by rfl) vg_ ?_
    refine dR_GT o_ (by rfl) (by rfl) v_ (by rfl) vg_ ?_
    refine dR_GT o_ (by rfl) (by rfl) v_ (by rfl) vg_ ?_
    refine dR_GT o_ (by rfl) (by rfl) v_ (by rfl) vg_ ?_
    refine dR_GT o_ (by rfl) (by rfl) v_ (by rfl) vg_ ?_
    refine dR_GT o_ (by rfl) (by rfl) v_ (by rfl) vg_ ?_
    refine dR_GTX o_ (by rfl) (by rfl) v_ (by rfl) sub_ (fun hb => AOp_useV (by rfl) (by rfl) (.inr ⟨vh_, by rfl, by rfl⟩) g_ cg_ (order_c)) ?_
    refine dR_GT o_ (by rfl) (by rfl) v_ (by rfl) vg_ ?_
    iterate 3 (refine dR_S o_ (by rfl) (by rfl) v_ ?_)
    refine dR_nil ?_
    refine awp_ret ?_
    refine aEnd_ret (σ' := σ) v_ sub_ ?_
    refine ⟨⟨i, _, rfl, hj, hlo, hhi, ?_⟩, rfl⟩
    rw [Bool.and_eq_true, decide_eq_true_eq, decide_eq_true_eq, cmpD_zero]
    constructor
    · rintro ⟨h1, h2⟩; exact ⟨x, hx (by omega), h2⟩
    · rintro ⟨y, hy, h2⟩
      have h1 := (List.getElem?_eq_some_iff.1 hy).1
      rw [hx h1] at hy
      obtain rfl := Option.some.inj hy
      exact ⟨by omega, h2⟩
theorem fnd_search {l : List Sib} {s : Sib} {r : Nat} {b : Bool} (hr : RiseD l) (hlo : LoD l s r) (hhi : HiD l s r) (hb : b = true ↔ ∃ y, l[r]? = some y ∧ Dot y s) : (b = true → ∃ y, l[r]? = some y ∧ fnd l s.node s.n = some y) ∧ (b = false → fnd l s.node s.n = none) := by
  refine ⟨fun h => ?_, fun h => ?_⟩
  · obtain ⟨y, hy, hd⟩ := hb.1 h
    refine ⟨y, hy, ?_⟩
    have := fnd_uq hr.uq (List.mem_of_getElem? hy)
    rwa [hd.1, hd.2] at this
  · refine fnd_none.2 fun z hz hd => ?_
    obtain ⟨m, hm⟩ := List.mem_iff_getElem?.1 hz
    rcases Nat.lt_trichotomy m r with k | k | k
    · exact lessD_ne (hlo m z k hm) hd
    · subst k
      have := hb.2 ⟨z, hm, hd⟩
      rw [h] at this; cases this
    · obtain ⟨y, hy⟩ := get_some (l := l) (k := r) (by have := (List.getElem?_eq_some_iff.1 hm).1; omega)
      have h1 := rise_get hr k hy hm
      have h2 := hhi r y (Nat.le_refl _) hy
      unfold lessX at h1 h2
      rw [hd.1, hd.2, h2] at h1
      cases h1
set_option maxHeartbeats 1000000 in
theorem kept_c {o p : Obj'} {σ : Store} (ho : ObjSm o) (hp : ObjSm p) (hr : RiseD p.sibs) : ACalls Tryz.prog 135 [sObj o, sObj p] σ fun v σ' => v = .sl 5 ((keptA o p).map sSib) false ∧ σ = σ' := by
  have hns := ho.ns; have hnp := hp.ns; have hnc := hp.nc
  refine ACalls_of Tryz.func135 rfl Tryz.ntmps135 (congrArg Array.toList Tryz.results135) (by simp only [List.length_cons, List.length_nil]; decide) ?_; simp only [envOf_cons, envOf_nil, Nat.reduceAdd]
  refine awp_seq ?_
  refine awp_region (by kernel_rfl) ?_
  refine aL_box rfl rfl rfl v_ rfl g_ fun o2 ho2 => ?_
  repeat (rw [none_set_iff] at ho2; obtain ⟨_, ho2⟩ := ho2)
  refine aL_box rfl rfl rfl v_ rfl g_ fun o3 ho3 => ?_
  repeat (rw [none_set_iff] at ho3; obtain ⟨_, ho3⟩ := ho3)
  (refine aL_S rfl rfl v_ ?_)
  refine aL_nil ?_
  refine awp_seq ?_
  refine awp_region (by kernel_rfl) ?_
  refine aL_nilOwn 77 5 rfl rfl rfl (by rfl) fun k5 hk5 => ?_
  refine aL_nil ?_
  refine awp_seq ?_
  refine awp_seq ?_
  refine awp_region (by kernel_rfl) ?_
  iterate 4 (refine aL_S rfl rfl v_ ?_)
  refine aL_nil ?_
  refine awp_block ?_
  refine awp_loop_env (ι := Nat × Nat) (fun ⟨t, k⟩ => o.sibs.length - k) (fun ⟨t, k⟩ => k ≤ o.sibs.length ∧ σ.tok t = none) (fun ⟨t, k⟩ => [(3, .ref o3 0), (5, .own t 5 (((o.sibs.take k).filterMap (keptF p)).map sSib)), (11, .sl 5 (o.sibs.map sSib) false), (12, vInt o.sibs.length), (13, vInt k)]) (fun ⟨t, k⟩ => (((σ.newTok none t (77, 5)).set o2 (.cells (sObj o).cells)).set o3 (.cells (sObj p).cells))) (k5, 0) ?_ ?_ ?_ ?_
  · exact ⟨Nat.zero_le _, hk5⟩
  · exact cv_
  · exact Store.Wk.refl _
  rintro ⟨t, k⟩ ⟨hk, ht⟩
  simp only [envL_cons, envL_nil]
  refine awp_seq ?_
  refine awp_region (by kernel_rfl) ?_
  (refine aL_S rfl rfl v_ ?_)
  refine aL_nil ?_
  refine awp_seq ?_
  refine awp_cond v_ (fun hc3 => ?_) (fun hc3 => ?_)
  · replace hc3 := nm_ hc3
    refine awp_skip ?_
    refine awp_seq ?_
    refine awp_block ?_
    refine awp_seq ?_
    obtain ⟨x, hx⟩ := get_some (l := o.sibs) (k := k) (by omega)
    have hlen : ((o.sibs.take k).filterMap (keptF p)).length ≤ k := Nat.le_trans (List.length_filterMap_le ..) (by simp; omega)
    have hsx := ho.sibs x (List.mem_of_getElem? hx)
    have hnx := hsx.node
    have R := hx
    refine awp_region (by kernel_rfl) ?_
    iterate 2 (refine aL_S rfl rfl v_ ?_)
    refine aL_alloc rfl rfl rfl g_ gl_ fun o7 ho7 => ?_
    repeat (rw [none_set_iff] at ho7; obtain ⟨_, ho7⟩ := ho7)
    refine aL_store rfl rfl rfl v_ v_ h_ g_ rfl g_ c_ (by rfl) le_ v_ ?_
    refine aL_nil ?_
    refine awp_seq ?_
    refine awp_region (by kernel_rfl) ?_
    iterate 3 (refine aL_S rfl rfl v_ ?_)
    refine aL_X rfl rfl (AOp_use rfl rfl (.inr ⟨rfl, rfl, rfl⟩) g_ va_ (bsearchD_c hr (by omega)) ?_); rintro _ _ ⟨⟨r, b, rfl, h1, h2, h3, h4⟩, rfl⟩
    have hfs := fnd_search hr h2 h3 h4
    iterate 5 (refine aL_S rfl rfl v_ ?_)
    refine aL_nil ?_
    refine awp_block ?_
    refine awp_seq ?_
    refine awp_region (by kernel_rfl) ?_
    iterate 2 (refine aL_S rfl rfl v_ ?_)
    refine aL_nil ?_
    refine awp_cond v_ (fun hc6 => ?_) (fun hc6 => ?_)
    · replace hc6 := nm_ hc6
      obtain ⟨y, hy, hf⟩ := hfs.1 hc6
      have hrl := (List.getElem?_eq_some_iff.1 hy).1
      have hkf : keptF p x = some (grS x y) := by simp [keptF, hf]
      have hcov : ((o.sibs.take (k + 1)).filterMap (keptF p)).map sSib = ((o.sibs.take k).filterMap (keptF p)).map sSib ++ [sSib (grS x y)] := by rw [take_snoc hx, List.filterMap_append, List.map_append]; simp [hkf]
      have R := hy
      refine awp_draw (.op 0 0 (.op 1 0 (.op 2 0 (.op 3 0 (.op 4 0 (.op 5 0 (.op 6 0 (.op 7 1 (.op 8 1 (.op 9 2 (.op 10 0 .nil))))))))))) Tryz.mixed (by kernel_rfl) ?_
      iterate 7 (refine dR_S o_ (by rfl) (by rfl) v_ ?_)
      refine dR_X o_ (by rfl) (by rfl) (AOp_use (by rfl) (by rfl) (.inr ⟨by rfl, by rfl, by rfl⟩) g_ va_ (greater_c) ?_); rintro _ _ ⟨rfl, rfl⟩; refine ⟨sub_, ?_⟩
      refine dR_X o_ (by rfl) (by rfl) (AOp_buildSlice' (by rfl) g_ g_ (by rfl) (by rfl) h_ c2_ (by decide) ⟨sub_, ?_⟩)
      refine dR_T o_ (by rfl) (by rfl) (AOp_appendS (by rfl) g_ g_ (.inl ⟨_, va_, h_, rfl⟩) (.inl ⟨⟨_, g_⟩, .inl v_, c_⟩) (by simp; omega) fun k35 hk35 => ?_)
      (refine dR_S o_ (by rfl) (by rfl) v_ ?_)
      refine dR_nil ?_
      refine awp_region (by kernel_rfl) ?_
      iterate 2 (refine aL_S rfl rfl v_ ?_)
      refine aL_nil ?_
      refine aNext (ι := Nat × Nat) (i := ⟨t, k⟩) (k35, k + 1) ?_ ?_ ?_ ?_
      · show o.sibs.length - (k + 1) < o.sibs.length - k; omega
      · exact ⟨by show k + 1 ≤ o.sibs.length; omega, (newTok_none hk35).2⟩
      · have R := hcov; exact cv_
      · exact sub_
    · replace hc6 := nm_ hc6
      have hf := hfs.2 hc6
      refine awp_seq ?_
      refine awp_region (by kernel_rfl) ?_
      iterate 4 (refine aL_S rfl rfl v_ ?_)
      refine aL_X rfl rfl (AOp_use rfl rfl (.inr ⟨rfl, rfl, rfl⟩) g_ va_ (has_c hp.ctx (by omega)) ?_); rintro _ _ ⟨rfl, rfl⟩
      iterate 2 (refine aL_S rfl rfl v_ ?_)
      refine aL_nil ?_
      refine awp_cond v_ (fun hc8 => ?_) (fun hc8 => ?_)
      · replace hc8 := nm_ hc8
        have hkf : keptF p x = some x := by simp [keptF, hf, hc8]
        have hcov : ((o.sibs.take (k + 1)).filterMap (keptF p)).map sSib = ((o.sibs.take k).filterMap (keptF p)).map sSib ++ [sSib x] := by rw [take_snoc hx, List.filterMap_append, List.map_append]; simp [hkf]
        refine awp_region (by kernel_rfl) ?_
        iterate 2 (refine aL_S rfl rfl v_ ?_)
        refine aL_buildSlice rfl rfl rfl g_ g_ rfl rfl h_ c2_ (by decide) ?_
        refine aL_append rfl rfl rfl g_ g_ v_ h_ v_ c_ (by simp; omega) fun k46 hk46 => ?_
        (refine aL_S rfl rfl v_ ?_)
        refine aL_nil ?_
        refine awp_region (by kernel_rfl) ?_
        iterate 2 (refine aL_S rfl rfl v_ ?_)
        refine aL_nil ?_
        refine aNext (ι := Nat × Nat) (i := ⟨t, k⟩) (k46, k + 1) ?_ ?_ ?_ ?_
        · show o.sibs.length - (k + 1) < o.sibs.length - k; omega
        · exact ⟨by show k + 1 ≤ o.sibs.length; omega, (newTok_none hk46).2⟩
        · have R := hcov; exact cv_
        · exact sub_
      · replace hc8 := nm_ hc8
        have hkf : keptF p x = none := by simp [keptF, hf, hc8]
        have hcov : ((o.sibs.take (k + 1)).filterMap (keptF p)).map sSib = ((o.sibs.take k).filterMap (keptF p)).map sSib := by rw [take_snoc hx, List.filterMap_append, List.map_append]; simp [hkf]
        refine awp_skip ?_
        refine awp_region (by kernel_rfl) ?_
        iterate 2 (refine aL_S rfl rfl v_ ?_)
        refine aL_nil ?_
        refine aNext (ι := Nat × Nat) (i := ⟨t, k⟩) (t, k + 1) ?_ ?_ ?_ ?_
        · show o.sibs.length - (k + 1) < o.sibs.length - k; omega
        · exact ⟨by show k + 1 ≤ o.sibs.length; omega, ht⟩
        · have R := hcov; exact cv_
        · exact sub_
  · replace hc3 := nm_ hc3
    refine awp_exit ?_
    refine aThen_exit ?_
    refine aThen_exit ?_
    refine aBlock_hit ?_
    refine awp_seq ?_
    skip
    have hfin : (o.sibs.take k).filterMap (keptF p) = keptA o p := by rw [List.take_of_length_le (by omega)]; rfl
    refine awp_region (by kernel_rfl) ?_
    iterate 2 (refine aL_S rfl rfl v_ ?_)
    refine aL_nil ?_
    refine awp_ret ?_
    rw [← hfin]
    exact aEnd_retW (v := .sl 5 (((o.sibs.take k).filterMap (keptF p)).map sSib) false) (v' := .own t 5 (((o.sibs.take k).filterMap (keptF p)).map sSib)) va_ (.own1 _ _ _) sub_ ⟨rfl, rfl⟩
end Go.Proofs.YtgpibooklhakgaaGreat
end

section
set_option linter.all false
set_option maxRecDepth 100000
namespace Go.Proofs.YtgpibooklhakgaaGreat
open Go.Ab

theorem fnd_at {l : List Sib} {s : ByteArray} {n : Int} {r : Nat} {x : Sib} (hx : l[r]? = some x) (hd : x.node = s ∧ x.n = n) (hm : ∀ m y, m < r → l[m]? = some y → ¬ (y.node = s ∧ y.n = n)) : fnd l s n = some x :=
  find_at (r := r) hx (isDot_iff.2 hd) fun m y hmr hy => by
    cases h : isDot s n y with
    | false => rfl
    | true => exact absurd (isDot_iff.1 h) (hm m y hmr hy)
theorem rFind_c {l : List Sib} {s : ByteArray} {n : Int} {t : Bool} {σ : Store} (hn : l.length ≤ 1000000) : ACalls Tryz.prog 140 [.sl 5 (l.map sSib) t, sDot s n] σ fun v σ' => (∃ r : Int, v = vInt r ∧ (0 ≤ r → r < l.length ∧ ∃ y, l[r.toNat]? = some y ∧ fnd l s n = some y) ∧ (r < 0 → fnd l s n = none) ∧ -1 ≤ r) ∧ σ = σ' := by
  refine ACalls_of Tryz.func140 rfl Tryz.ntmps140 (congrArg Array.toList Tryz.results140) (by simp only [List.length_cons, List.length_nil]; decide) ?_; simp only [envOf_cons, envOf_nil, Nat.reduceAdd]
  refine awp_seq ?_
  refine awp_region (by kernel_rfl) ?_
  refine aL_box rfl rfl rfl v_ rfl g_ fun o3 ho3 => ?_
  repeat (rw [none_set_iff] at ho3; obtain ⟨_, ho3⟩ := ho3)
  (refine aL_S rfl rfl v_ ?_)
  refine aL_nil ?_
  refine awp_seq ?_
  refine awp_seq ?_
  refine awp_region (by kernel_rfl) ?_
  (refine aL_S rfl rfl v_ ?_)
  refine aL_nil ?_
  refine awp_block ?_
  refine awp_loop_env (ι := Nat) (fun k => l.length - k) (fun k => k ≤ l.length ∧ ∀ m y, m < k → l[m]? = some y → ¬ (y.node = s ∧ y.n = n)) (fun k => [(0, .sl 5 (l.map sSib) t), (3, .ref o3 0), (5, vInt k)]) (fun k => (σ.set o3 (.cells (sDot s n).cells))) 0 ?_ ?_ ?_ ?_
  · exact ⟨Nat.zero_le _, fun m y h => by omega⟩
  · exact cv_
  · exact Store.Wk.refl _
  rintro k ⟨hk, ha⟩
  simp only [envL_cons, envL_nil]
  refine awp_seq ?_
  refine awp_seq ?_
  refine awp_region (by kernel_rfl) ?_
  iterate 4 (refine aL_S rfl rfl v_ ?_)
  refine aL_nil ?_
  refine awp_cond v_ (fun hc2 => ?_) (fun hc2 => ?_)
  · replace hc2 := nm_ hc2
    refine awp_skip ?_
    refine awp_seq ?_
    refine awp_block ?_
    refine awp_seq ?_
    obtain ⟨x, hx⟩ := get_some (l := l) (k := k) (by omega)
    have R := hx
    refine awp_draw (.op 0 0 (.op 1 0 (.op 2 0 (.op 3 0 (.op 4 0 (.op 5 0 (.op 6 0 .nil))))))) Tryz.mixed (by kernel_rfl) ?_
    iterate 7 (refine dR_S o_ (by rfl) (by rfl) v_ ?_)
    refine dR_nil ?_
    refine awp_cond v_ (fun hc4 => ?_) (fun hc4 => ?_)
    · replace hc4 := nm_ hc4
      refine awp_seq ?_
      refine awp_region (by kernel_rfl) ?_
      iterate 2 (refine aL_S rfl rfl v_ ?_)
      refine aL_nil ?_
      refine awp_ret ?_
      refine aEnd_ret (σ' := σ) v_ sub_ ?_
      exact ⟨⟨(k : Int), rfl, fun _ => ⟨by omega, x, by simpa using hx, fnd_at hx hc4 ha⟩, fun h => by omega, by omega⟩, rfl⟩
    · replace hc4 := nm_ hc4
      refine awp_skip ?_
      refine awp_region (by kernel_rfl) ?_
      iterate 3 (refine aL_S rfl rfl v_ ?_)
      refine aL_nil ?_
      refine aNext (ι := Nat) (i := k) (k + 1) ?_ ?_ ?_ ?_
      · omega
      · exact ⟨by omega, fun m y hm hy => by rcases Nat.lt_or_eq_of_le (Nat.le_of_lt_succ hm) with h | h; exact ha m y h hy; rw [h, hx] at hy; obtain rfl := Option.some.inj hy; exact fun hh => by simp [hh.1, hh.2] at hc4⟩
      · exact cv_
      · exact sub_
  · replace hc2 := nm_ hc2
    refine awp_exit ?_
    refine aThen_exit ?_
    refine aThen_exit ?_
    refine aBlock_hit ?_
    refine awp_seq ?_
    refine awp_region (by kernel_rfl) ?_
    (refine aL_S rfl rfl v_ ?_)
    refine aL_nil ?_
    refine awp_ret ?_
    refine aEnd_ret (σ' := σ) v_ sub_ ?_
    exact ⟨⟨-1, rfl, fun h => by omega, fun _ => fnd_none.2 fun x hx hh => by
    obtain ⟨m, hm⟩ := List.mem_iff_getElem?.1 hx
    exact ha m x (by have := (List.getElem?_eq_some_iff.1 hm).1; omega) hm hh, by omega⟩, rfl⟩
theorem grS_ref {a b : Sib} (hd : Dot a b) : grS a b = if a.time = b.time then (if a.value = b.value then (if a.gone then a else b) else if sLt b.value a.value then a else b) else if b.time < a.time then a else b := by
  by_cases h1 : a.time = b.time
  · rw [if_pos h1]
    by_cases h2 : a.value = b.value
    · rw [if_pos h2]
      cases h3 : a.gone with
      | true => rw [if_pos rfl, grS, if_neg]; rw [ltV_iff, h2, sLt_irrefl, h3]; simp [h1]
      | false =>
        rw [if_neg (by simp)]
        cases h4 : b.gone with
        | true => rw [grS, if_pos]; rw [ltV_iff]; exact .inr ⟨h1, .inr ⟨h2, h3, h4⟩⟩
        | false =>
          have : a = b := ltV_tri (by rw [← Bool.not_eq_true, ltV_iff, h2, sLt_irrefl, h3, h4]; simp [h1]) (by rw [← Bool.not_eq_true, ltV_iff, h2, sLt_irrefl, h3, h4]; simp [h1]) hd
          rw [this, grS_self]
    · rw [if_neg h2]
      cases h3 : sLt b.value a.value with
      | true => rw [if_pos rfl, grS, if_neg]; rw [ltV_iff, sLt_asymm h3]; simp [h1, h2]
      | false => rw [if_neg (by simp), grS, if_pos]; rw [ltV_iff]; exact .inr ⟨h1, .inl (sLt_tri h3 (Ne.symm h2))⟩
  · rw [if_neg h1]
    by_cases h2 : b.time < a.time
    · rw [if_pos h2, grS, if_neg]; rw [ltV_iff]; rintro (h | h)
      · omega
      · exact h1 h.1
    · rw [if_neg h2, grS, if_pos]; rw [ltV_iff]; left; omega
theorem rGreater_c {a b : Sib} {σ : Store} (hd : Dot a b) : ACalls Tryz.prog 142 [sSib a, sSib b] σ fun v σ' => v = sSib (grS a b) ∧ σ = σ' := by
  refine ACalls_of Tryz.func142 rfl Tryz.ntmps142 (congrArg Array.toList Tryz.results142) (by simp only [List.length_cons, List.length_nil]; decide) ?_; simp only [envOf_cons, envOf_nil, Nat.reduceAdd]
  refine awp_seq ?_
  refine awp_region (by kernel_rfl) ?_
  refine aL_box rfl rfl rfl v_ rfl g_ fun o2 ho2 => ?_
  repeat (rw [none_set_iff] at ho2; obtain ⟨_, ho2⟩ := ho2)
  refine aL_box rfl rfl rfl v_ rfl g_ fun o3 ho3 => ?_
  repeat (rw [none_set_iff] at ho3; obtain ⟨_, ho3⟩ := ho3)
  refine aL_alloc rfl rfl rfl g_ gl_ fun o4 ho4 => ?_
  repeat (rw [none_set_iff] at ho4; obtain ⟨_, ho4⟩ := ho4)
  refine aL_nil ?_
  refine awp_seq ?_
  refine awp_seq ?_
  refine awp_region (by kernel_rfl) ?_
  iterate 5 (refine aL_S rfl rfl v_ ?_)
  refine aL_nil ?_
  refine awp_cond v_ (fun hc1 => ?_) (fun hc1 => ?_)
  · replace hc1 := nm_ hc1
    refine awp_seq ?_
    refine awp_seq ?_
    refine awp_region (by kernel_rfl) ?_
    iterate 5 (refine aL_S rfl rfl v_ ?_)
    refine aL_nil ?_
    refine awp_cond v_ (fun hc2 => ?_) (fun hc2 => ?_)
    · replace hc2 := nm_ hc2
      refine awp_seq ?_
      refine awp_region (by kernel_rfl) ?_
      (refine aL_S rfl rfl v_ ?_)
      refine aL_store rfl rfl rfl v_ v_ h_ g_ rfl g_ c_ (by rfl) le_ v_ ?_
      refine aL_nil ?_
      refine awp_ret ?_
      refine aEnd_ret (σ' := σ) v_ sub_ ?_
      exact ⟨by rw [grS_ref hd, if_neg hc1, if_pos hc2], rfl⟩
    · replace hc2 := nm_ hc2
      refine awp_skip ?_
      refine awp_seq ?_
      refine awp_region (by kernel_rfl) ?_
      (refine aL_S rfl rfl v_ ?_)
      refine aL_store rfl rfl rfl v_ v_ h_ g_ rfl g_ c_ (by rfl) le_ v_ ?_
      refine aL_nil ?_
      refine awp_ret ?_
      refine aEnd_ret (σ' := σ) v_ sub_ ?_
      exact ⟨by rw [grS_ref hd, if_neg hc1, if_neg (by omega)], rfl⟩
  · replace hc1 := nm_ hc1
    refine awp_skip ?_
    refine awp_seq ?_
    refine awp_seq ?_
    refine awp_region (by kernel_rfl) ?_
    iterate 5 (refine aL_S rfl rfl v_ ?_)
    refine aL_nil ?_
    refine awp_cond v_ (fun hc5 => ?_) (fun hc5 => ?_)
    · replace hc5 := nm_ hc5
      refine awp_seq ?_
      refine awp_seq ?_
      refine awp_region (by kernel_rfl) ?_
      iterate 5 (refine aL_S rfl rfl v_ ?_)
      refine aL_nil ?_
      refine awp_cond v_ (fun hc6 => ?_) (fun hc6 => ?_)
      · replace hc6 := nm_ hc6
        refine awp_seq ?_
        refine awp_region (by kernel_rfl) ?_
        (refine aL_S rfl rfl v_ ?_)
        refine aL_store rfl rfl rfl v_ v_ h_ g_ rfl g_ c_ (by rfl) le_ v_ ?_
        refine aL_nil ?_
        refine awp_ret ?_
        refine aEnd_ret (σ' := σ) v_ sub_ ?_
        exact ⟨by rw [grS_ref hd, if_pos hc1, if_neg hc5, if_pos (sLt_tri hc6.1 hc5)], rfl⟩
      · replace hc6 := nm_ hc6
        refine awp_skip ?_
        refine awp_seq ?_
        refine awp_region (by kernel_rfl) ?_
        (refine aL_S rfl rfl v_ ?_)
        refine aL_store rfl rfl rfl v_ v_ h_ g_ rfl g_ c_ (by rfl) le_ v_ ?_
        refine aL_nil ?_
        refine awp_ret ?_
        refine aEnd_ret (σ' := σ) v_ sub_ ?_
        exact ⟨by rw [grS_ref hd, if_pos hc1, if_neg hc5, if_neg (by rcases hc6 with h | h; rw [sLt_asymm h]; simp; exact absurd h hc5)], rfl⟩
    · replace hc5 := nm_ hc5
      refine awp_skip ?_
      refine awp_seq ?_
      refine awp_seq ?_
      refine awp_region (by kernel_rfl) ?_
      iterate 2 (refine aL_S rfl rfl v_ ?_)
      refine aL_nil ?_
      refine awp_cond v_ (fun hc9 => ?_) (fun hc9 => ?_)
      · replace hc9 := nm_ hc9
        refine awp_seq ?_
        refine awp_region (by kernel_rfl) ?_
        (refine aL_S rfl rfl v_ ?_)
        refine aL_store rfl rfl rfl v_ v_ h_ g_ rfl g_ c_ (by rfl) le_ v_ ?_
        refine aL_nil ?_
        refine awp_ret ?_
        refine aEnd_ret (σ' := σ) v_ sub_ ?_
        exact ⟨by rw [grS_ref hd, if_pos hc1, if_pos hc5, if_pos hc9], rfl⟩
      · replace hc9 := nm_ hc9
        refine awp_skip ?_
        refine awp_seq ?_
        refine awp_region (by kernel_rfl) ?_
        (refine aL_S rfl rfl v_ ?_)
        refine aL_store rfl rfl rfl v_ v_ h_ g_ rfl g_ c_ (by rfl) le_ v_ ?_
        refine aL_nil ?_
        refine awp_ret ?_
        refine aEnd_ret (σ' := σ) v_ sub_ ?_
        exact ⟨by rw [grS_ref hd, if_pos hc1, if_pos hc5, if_neg (by rw [hc9]; simp)], rfl⟩
theorem putD_at {s : Sib} : ∀ {l : List Sib} {k : Nat}, (∀ j x, j < k → l[j]? = some x → lessX x s = true) → (∀ x, l[k]? = some x → lessX x s = false) → k ≤ l.length → putD l s = l.take k ++ s :: l.drop k
  | [], k, _, _, hk => by
    obtain rfl : k = 0 := by simpa using hk
    simp [putD]
  | m :: l, 0, _, h2, _ => by
    have := h2 m rfl
    rw [putD, if_neg (by rw [this]; simp)]; rfl
  | m :: l, k + 1, h1, h2, hk => by
    have hm := h1 0 m (by omega) rfl
    have ih := putD_at (s := s) (l := l) (k := k) (fun j x hj hx => h1 (j + 1) x (by omega) hx) (fun x hx => h2 x hx) (by simpa using hk)
    rw [putD, if_pos hm, ih]; rfl
theorem putD_len (s : Sib) : ∀ (l : List Sib), (putD l s).length = l.length + 1
  | [] => rfl
  | y :: l => by
    unfold putD
    split
    · simp [putD_len s l]
    · simp
theorem putsD_len : ∀ (M l : List Sib), (M.foldl putD l).length = l.length + M.length
  | [], l => by simp
  | s :: M, l => by rw [List.foldl_cons, putsD_len M, putD_len, List.length_cons]; omega
theorem rPutD_c {l : List Sib} {s : Sib} {t : Bool} {σ : Store} (hl : l.length ≤ 1000000) : ACalls Tryz.prog 141 [.sl 5 (l.map sSib) t, sSib s] σ fun v σ' => v = .sl 5 ((putD l s).map sSib) false ∧ σ = σ' := by
  refine ACalls_of Tryz.func141 rfl Tryz.ntmps141 (congrArg Array.toList Tryz.results141) (by simp only [List.length_cons, List.length_nil]; decide) ?_; simp only [envOf_cons, envOf_nil, Nat.reduceAdd]
  refine awp_seq ?_
  refine awp_region (by kernel_rfl) ?_
  refine aL_box rfl rfl rfl v_ rfl g_ fun o3 ho3 => ?_
  repeat (rw [none_set_iff] at ho3; obtain ⟨_, ho3⟩ := ho3)
  (refine aL_S rfl rfl v_ ?_)
  refine aL_nil ?_
  refine awp_seq ?_
  refine awp_region (by kernel_rfl) ?_
  (refine aL_S rfl rfl v_ ?_)
  refine aL_nil ?_
  refine awp_seq ?_
  refine awp_block ?_
  refine awp_loop_env (ι := Nat) (fun k => l.length - k) (fun k => k ≤ l.length ∧ ∀ j x, j < k → l[j]? = some x → lessX x s = true) (fun k => [(0, .sl 5 (l.map sSib) t), (3, .ref o3 0), (5, vInt k)]) (fun k => (σ.set o3 (.cells (sSib s).cells))) 0 ?_ ?_ ?_ ?_
  · exact ⟨Nat.zero_le _, fun j x h => by omega⟩
  · exact cv_
  · exact Store.Wk.refl _
  rintro k ⟨hk, ha⟩
  simp only [envL_cons, envL_nil]
  refine awp_seq ?_
  refine awp_seq ?_
  obtain ⟨x, hx⟩ := get_if l k
  have R := hx
  refine awp_draw (.op 0 0 (.op 1 0 (.op 2 0 (.op 3 0 (.op 4 0 (.op 5 0 (.op 6 0 (.op 7 0 (.op 8 0 (.op 9 0 (.op 10 0 (.op 11 0 (.op 12 1 (.op 13 0 .nil)))))))))))))) Tryz.mixed (by kernel_rfl) ?_
  iterate 5 (refine dR_S o_ (by rfl) (by rfl) v_ ?_)
  refine dR_GT o_ (by rfl) (by rfl) v_ (by rfl) vg_ ?_
  refine dR_GT o_ (by rfl) (by rfl) v_ (by rfl) vg_ ?_
  refine dR_GT o_ (by rfl) (by rfl) v_ (by rfl) vg_ ?_
  refine dR_GT o_ (by rfl) (by rfl) v_ (by rfl) vg_ ?_
  refine dR_GT o_ (by rfl) (by rfl) v_ (by rfl) vg_ ?_
  refine dR_GT o_ (by rfl) (by rfl) v_ (by rfl) vg_ ?_
  refine dR_GT o_ (by rfl) (by rfl) v_ (by rfl) vg_ ?_
  refine dR_GTX o_ (by rfl) (by rfl) v_ (by rfl) sub_ (fun hb => AOp_useV (by rfl) (by rfl) (.inr ⟨by rfl, by rfl, by rfl⟩) g_ cg_ (rLess_c)) ?_
  (refine dR_S o_ (by rfl) (by rfl) v_ ?_)
  refine dR_nil ?_
  refine awp_cond v_ (fun hc2 => ?_) (fun hc2 => ?_)
  · replace hc2 := nm_ hc2
    refine awp_skip ?_
    refine awp_block ?_
    refine awp_region (by kernel_rfl) ?_
    iterate 3 (refine aL_S rfl rfl v_ ?_)
    refine aL_nil ?_
    refine aNext (ι := Nat) (i := k) (k + 1) ?_ ?_ ?_ ?_
    · omega
    · exact ⟨by omega, fun j y hj hy => by rcases Nat.lt_or_eq_of_le (Nat.le_of_lt_succ hj) with h | h; exact ha j y h hy; rw [h, hx (by omega)] at hy; obtain rfl := Option.some.inj hy; exact hc2.2⟩
    · exact cv_
    · exact sub_
  · replace hc2 := nm_ hc2
    refine awp_exit ?_
    refine aThen_exit ?_
    refine aThen_exit ?_
    refine aBlock_hit ?_
    refine awp_seq ?_
    skip
    have hat : putD l s = l.take k ++ s :: l.drop k := putD_at ha (fun y hy => by
      have h1 := (List.getElem?_eq_some_iff.1 hy).1
      rw [hx h1] at hy; obtain rfl := Option.some.inj hy
      rcases hc2 with h | h
      · omega
      · exact h) hk
    have m1 : (l.map sSib).take k = (l.take k).map sSib := List.map_take.symm
    have m2 : ((l.map sSib).take l.length).drop k = (l.drop k).map sSib := by rw [List.take_of_length_le (by simp), List.map_drop]
    have m3 : (l.map sSib).drop k = (l.drop k).map sSib := List.map_drop.symm
    refine awp_region (by kernel_rfl) ?_
    refine aL_nilOwn 77 5 rfl rfl rfl (by rfl) fun k6 hk6 => ?_
    refine aL_nil ?_
    refine awp_seq ?_
    have R := m1
    refine awp_region (by kernel_rfl) ?_
    iterate 4 (refine aL_S rfl rfl v_ ?_)
    refine aL_append rfl rfl rfl g_ g_ v_ h_ v_ (oneSib _) (by simp; omega) fun k27 hk27 => ?_
    have s6 : σ.tok k6 = none := hk6
    have t27 := (newTok_none hk27).2
    have s27 : σ.tok k27 = none := t27
    (refine aL_S rfl rfl v_ ?_)
    refine aL_nil ?_
    refine awp_seq ?_
    refine awp_region (by kernel_rfl) ?_
    iterate 2 (refine aL_S rfl rfl v_ ?_)
    refine aL_buildSlice rfl rfl rfl g_ g_ rfl rfl h_ c2_ (by decide) ?_
    refine aL_append rfl rfl rfl g_ g_ v_ h_ v_ c_ (by simp; omega) fun k31 hk31 => ?_
    rw [Store.newTok_step (show Store.tok (σ.set o3 (.cells (sSib s).cells)) k6 = none from hk6)] at hk31
    have t31 := (newTok_none hk31).2
    have s31 : σ.tok k31 = none := t31
    (refine aL_S rfl rfl v_ ?_)
    refine aL_nil ?_
    refine awp_seq ?_
    have R := And.intro m2 m3
    refine awp_region (by kernel_rfl) ?_
    iterate 4 (refine aL_S rfl rfl v_ ?_)
    refine aL_append rfl rfl rfl g_ g_ v_ h_ v_ (oneSib _) (by simp; omega) fun k36 hk36 => ?_
    rw [Store.newTok_step (show Store.tok (σ.set o3 (.cells (sSib s).cells)) k6 = none from hk6), Store.newTok_step t27] at hk36
    have t36 := (newTok_none hk36).2
    have s36 : σ.tok k36 = none := t36
    (refine aL_S rfl rfl v_ ?_)
    refine aL_nil ?_
    refine awp_seq ?_
    refine awp_region (by kernel_rfl) ?_
    iterate 2 (refine aL_S rfl rfl v_ ?_)
    refine aL_nil ?_
    refine awp_ret ?_
    rw [hat, show (l.take k ++ s :: l.drop k).map sSib = (l.take k).map sSib ++ [sSib s] ++ (l.drop k).map sSib from by simp]
    exact aEnd_retW (v := .sl 5 ((l.take k).map sSib ++ [sSib s] ++ (l.drop k).map sSib) false) (v' := .own k36 5 ((l.take k).map sSib ++ [sSib s] ++ (l.drop k).map sSib)) va_ (.own1 _ _ _) sub_ ⟨rfl, rfl⟩
set_option maxHeartbeats 2000000 in
theorem rMerge_c {a b : Obj'} {σ : Store} (ha : ObjSm a) (hB : ObjSm b) : ACalls Tryz.prog 59 [sObj a, sObj b] σ fun v σ' => v = .tup [sObj (mergeS a b).1, vInt (mergeS a b).2] ∧ σ = σ' := by
  have na := ha.ns; have nb := hB.ns; have ca := ha.nc; have cb := hB.nc
  refine ACalls_of Tryz.func59 rfl Tryz.ntmps59 (congrArg Array.toList Tryz.results59) (by simp only [List.length_cons, List.length_nil]; decide) ?_; simp only [envOf_cons, envOf_nil, Nat.reduceAdd]
  refine awp_seq ?_
  refine awp_region (by kernel_rfl) ?_
  refine aL_box rfl rfl rfl v_ rfl g_ fun o2 ho2 => ?_
  repeat (rw [none_set_iff] at ho2; obtain ⟨_, ho2⟩ := ho2)
  refine aL_box rfl rfl rfl v_ rfl g_ fun o3 ho3 => ?_
  repeat (rw [none_set_iff] at ho3; obtain ⟨_, ho3⟩ := ho3)
  refine aL_alloc rfl rfl rfl g_ gl_ fun o4 ho4 => ?_
  repeat (rw [none_set_iff] at ho4; obtain ⟨_, ho4⟩ := ho4)
  (refine aL_S rfl rfl v_ ?_)
  refine aL_nil ?_
  refine awp_seq ?_
  refine awp_seq ?_
  refine awp_region (by kernel_rfl) ?_
  (refine aL_S rfl rfl v_ ?_)
  refine aL_X rfl rfl (AOp_use rfl rfl (.inr ⟨rfl, rfl, rfl⟩) g_ va_ (rMay07_c ha) ?_); rintro _ _ ⟨rfl, rfl⟩
  iterate 2 (refine aL_S rfl rfl v_ ?_)
  refine aL_GF rfl rfl v_ rfl vg_ ?_
  refine aL_GFX rfl rfl v_ rfl (fun hb => AOp_useV (by rfl) (by rfl) (.inr ⟨by rfl, by rfl, by rfl⟩) g_ cg_ (rMay07_c hB)) ?_
  refine aL_GF rfl rfl v_ rfl vg_ ?_
  (refine aL_S rfl rfl v_ ?_)
  refine aL_nil ?_
  refine awp_cond v_ (fun hc1 => ?_) (fun hc1 => ?_)
  · replace hc1 := nm_ hc1
    refine awp_seq ?_
    refine awp_region (by kernel_rfl) ?_
    (refine aL_S rfl rfl v_ ?_)
    refine aL_store rfl rfl rfl v_ v_ h_ g_ rfl g_ c_ (by rfl) le_ v_ ?_
    (refine aL_S rfl rfl v_ ?_)
    refine aL_nil ?_
    refine awp_ret ?_
    rw [show mergeS a b = (⟨[], []⟩, 1) from by
      unfold mergeS
      cases h1 : objOk a <;> cases h2 : objOk b <;> simp [h1, h2] at hc1 ⊢]
    exact aEnd_retW (v := .tup [sObj ⟨[], []⟩, vInt 1]) (v' := .tup [.agg [vNil, vNil], vInt 1]) va_ (.tup _ _ rfl (fun i hi hi' => by match i, hi with | 0, _ => exact .agg _ _ rfl (fun j hj hj' => by match j, hj with | 0, _ => exact .nil _ _ | 1, _ => exact .nil _ _) | 1, _ => exact .refl _)) sub_ ⟨rfl, rfl⟩
  · replace hc1 := nm_ hc1
    refine awp_skip ?_
    refine awp_seq ?_
    refine awp_region (by kernel_rfl) ?_
    iterate 4 (refine aL_S rfl rfl v_ ?_)
    refine aL_X rfl rfl (AOp_use rfl rfl (.inr ⟨rfl, rfl, rfl⟩) g_ va_ (rJoin_c ha.ctx hB.ctx (by omega) (by omega)) ?_); rintro _ _ ⟨rfl, rfl⟩
    iterate 5 (refine aL_S rfl rfl v_ ?_)
    refine aL_nil ?_
    refine awp_seq ?_
    refine awp_seq ?_
    refine awp_region (by kernel_rfl) ?_
    iterate 2 (refine aL_S rfl rfl v_ ?_)
    refine aL_nil ?_
    refine awp_cond v_ (fun hc4 => ?_) (fun hc4 => ?_)
    · replace hc4 := nm_ hc4
      refine awp_seq ?_
      refine awp_region (by kernel_rfl) ?_
      iterate 2 (refine aL_S rfl rfl v_ ?_)
      refine aL_store rfl rfl rfl v_ v_ h_ g_ rfl g_ c_ (by rfl) le_ v_ ?_
      (refine aL_S rfl rfl v_ ?_)
      refine aL_nil ?_
      refine awp_ret ?_
      rw [show mergeS a b = (⟨[], []⟩, (joinS a.ctx b.ctx).2) from by simp [mergeS, hc1.1, hc1.2, hc4]]
      exact aEnd_retW (v := .tup [sObj ⟨[], []⟩, vInt (joinS a.ctx b.ctx).2]) (v' := .tup [.agg [vNil, vNil], vInt (joinS a.ctx b.ctx).2]) va_ (.tup _ _ rfl (fun i hi hi' => by match i, hi with | 0, _ => exact .agg _ _ rfl (fun j hj hj' => by match j, hj with | 0, _ => exact .nil _ _ | 1, _ => exact .nil _ _) | 1, _ => exact .refl _)) sub_ ⟨rfl, rfl⟩
    · replace hc4 := nm_ hc4
      have hms : mergeS a b = (⟨(joinS a.ctx b.ctx).1, mergeL a b⟩, 0) := by simp [mergeS, hc1.1, hc1.2, hc4]
      obtain ⟨J, hJ⟩ : ∃ J, (joinS a.ctx b.ctx).1 = J := ⟨_, rfl⟩
      rw [hJ] at hms ⊢
      refine awp_skip ?_
      refine awp_seq ?_
      refine awp_region (by kernel_rfl) ?_
      refine aL_nilSl 5 rfl rfl rfl (by rfl) ?_
      refine aL_nil ?_
      refine awp_seq ?_
      refine awp_seq ?_
      refine awp_region (by kernel_rfl) ?_
      (refine aL_S rfl rfl v_ ?_)
      refine aL_nil ?_
      refine awp_block ?_
      refine awp_loop_env (ι := Nat) (fun i => a.sibs.length - i) (fun i => i ≤ a.sibs.length) (fun i => [(2, .ref o2 0), (3, .ref o3 0), (4, .ref o4 0), (6, .sl 3 (J.map sSeen) false), (8, .sl 5 ((((a.sibs.take i).filterMap (keptF b)).foldl putD []).map sSib) false), (9, vInt i)]) (fun i => (((σ.set o2 (.cells (sObj a).cells)).set o3 (.cells (sObj b).cells)).set o4 (.cells [.lit (.slice none 0 0), .lit (.slice none 0 0)]))) 0 ?_ ?_ ?_ ?_
      · exact Nat.zero_le _
      · exact cv_
      · exact Store.Wk.refl _
      rintro i hi
      simp only [envL_cons, envL_nil]
      refine awp_seq ?_
      refine awp_seq ?_
      refine awp_region (by kernel_rfl) ?_
      iterate 5 (refine aL_S rfl rfl v_ ?_)
      refine aL_nil ?_
      refine awp_cond v_ (fun hc8 => ?_) (fun hc8 => ?_)
      · replace hc8 := nm_ hc8
        refine awp_skip ?_
        refine awp_seq ?_
        refine awp_block ?_
        refine awp_seq ?_
        obtain ⟨x, hx⟩ := get_some (l := a.sibs) (k := i) (by omega)
        have hl1 : ((a.sibs.take i).filterMap (keptF b)).length ≤ i := Nat.le_trans (List.length_filterMap_le ..) (by simp; omega)
        have hl2 := putsD_len ((a.sibs.take i).filterMap (keptF b)) []
        rw [List.length_nil] at hl2
        have hsx := ha.sibs x (List.mem_of_getElem? hx)
        have hnx := hsx.node
        have hstep : ∀ y, keptF b x = y → ((a.sibs.take (i + 1)).filterMap (keptF b)).foldl putD [] = (match y with | some z => putD (((a.sibs.take i).filterMap (keptF b)).foldl putD []) z | none => ((a.sibs.take i).filterMap (keptF b)).foldl putD []) := fun y hy => by
          rw [take_snoc hx, List.filterMap_append, List.foldl_append]
          cases y <;> simp [hy]
        have R := hx
        refine awp_region (by kernel_rfl) ?_
        iterate 5 (refine aL_S rfl rfl v_ ?_)
        refine aL_alloc rfl rfl rfl g_ gl_ fun o10 ho10 => ?_
        repeat (rw [none_set_iff] at ho10; obtain ⟨_, ho10⟩ := ho10)
        refine aL_store rfl rfl rfl v_ v_ h_ g_ rfl g_ c_ (by rfl) le_ v_ ?_
        refine aL_nil ?_
        refine awp_seq ?_
        refine awp_region (by kernel_rfl) ?_
        iterate 4 (refine aL_S rfl rfl v_ ?_)
        refine aL_X rfl rfl (AOp_use rfl rfl (.inr ⟨rfl, rfl, rfl⟩) g_ va_ (rFind_c (by omega)) ?_); rintro _ _ ⟨⟨r, rfl, h1, h2, h3⟩, rfl⟩
        (refine aL_S rfl rfl v_ ?_)
        refine aL_nil ?_
        refine awp_seq ?_
        refine awp_region (by kernel_rfl) ?_
        iterate 2 (refine aL_S rfl rfl v_ ?_)
        refine aL_nil ?_
        refine awp_cond v_ (fun hc12 => ?_) (fun hc12 => ?_)
        · replace hc12 := nm_ hc12
          obtain ⟨hrl, y, hy, hf⟩ := h1 hc12
          have hd := (fnd_mem hf).2
          have hcov := hstep (some (grS x y)) (by simp [keptF, hf])
          have R := hy
          refine awp_draw (.op 0 0 (.op 1 0 (.op 2 0 (.op 3 0 (.op 4 0 (.op 5 0 (.op 6 0 (.op 7 1 (.op 8 1 (.op 9 0 .nil)))))))))) Tryz.mixed (by kernel_rfl) ?_
          iterate 7 (refine dR_S o_ (by rfl) (by rfl) v_ ?_)
          refine dR_X o_ (by rfl) (by rfl) (AOp_use (by rfl) (by rfl) (.inr ⟨by rfl, by rfl, by rfl⟩) g_ va_ (rGreater_c ⟨hd.1.symm, hd.2.symm⟩) ?_); rintro _ _ ⟨rfl, rfl⟩; refine ⟨sub_, ?_⟩
          refine dR_X o_ (by rfl) (by rfl) (AOp_use (by rfl) (by rfl) (.inr ⟨by rfl, by rfl, by rfl⟩) g_ va_ (rPutD_c (by omega)) ?_); rintro _ _ ⟨rfl, rfl⟩; refine ⟨sub_, ?_⟩
          (refine dR_S o_ (by rfl) (by rfl) v_ ?_)
          refine dR_nil ?_
          refine awp_region (by kernel_rfl) ?_
          iterate 3 (refine aL_S rfl rfl v_ ?_)
          refine aL_nil ?_
          refine aNext (ι := Nat) (i := i) (i + 1) ?_ ?_ ?_ ?_
          · omega
          · show i + 1 ≤ a.sibs.length; omega
          · have R := hcov; exact cv_
          · exact sub_
        · replace hc12 := nm_ hc12
          have hf := h2 hc12
          refine awp_seq ?_
          refine awp_region (by kernel_rfl) ?_
          iterate 4 (refine aL_S rfl rfl v_ ?_)
          refine aL_X rfl rfl (AOp_use rfl rfl (.inr ⟨rfl, rfl, rfl⟩) g_ va_ (rHas_c hB.ctx (by omega)) ?_); rintro _ _ ⟨rfl, rfl⟩
          (refine aL_S rfl rfl v_ ?_)
          refine aL_nil ?_
          refine awp_cond v_ (fun hc14 => ?_) (fun hc14 => ?_)
          · replace hc14 := nm_ hc14
            have hcov := hstep (some x) (by simp [keptF, hf, hc14])
            refine awp_region (by kernel_rfl) ?_
            iterate 2 (refine aL_S rfl rfl v_ ?_)
            refine aL_X rfl rfl (AOp_use rfl rfl (.inr ⟨rfl, rfl, rfl⟩) g_ va_ (rPutD_c (by omega)) ?_); rintro _ _ ⟨rfl, rfl⟩
            (refine aL_S rfl rfl v_ ?_)
            refine aL_nil ?_
            refine awp_region (by kernel_rfl) ?_
            iterate 3 (refine aL_S rfl rfl v_ ?_)
            refine aL_nil ?_
            refine aNext (ι := Nat) (i := i) (i + 1) ?_ ?_ ?_ ?_
            · omega
            · show i + 1 ≤ a.sibs.length; omega
            · have R := hcov; exact cv_
            · exact sub_
          · replace hc14 := nm_ hc14
            have hcov := hstep none (by simp [keptF, hf, hc14])
            refine awp_skip ?_
            refine awp_region (by kernel_rfl) ?_
            iterate 3 (refine aL_S rfl rfl v_ ?_)
            refine aL_nil ?_
            refine aNext (ι := Nat) (i := i) (i + 1) ?_ ?_ ?_ ?_
            · omega
            · show i + 1 ≤ a.sibs.length; omega
            · have R := hcov; exact cv_
            · exact sub_
      · replace hc8 := nm_ hc8
        refine awp_exit ?_
        refine aThen_exit ?_
        refine aThen_exit ?_
        refine aBlock_hit ?_
        refine awp_seq ?_
        refine awp_seq ?_
        skip
        have hA : (a.sibs.take i).filterMap (keptF b) = keptA a b := by rw [List.take_of_length_le (by omega)]; rfl
        have hlA : (keptA a b).length ≤ a.sibs.length := List.length_filterMap_le ..
        rw [hA]
        have hic : keptA a b ++ List.filterMap (keptG a) [] = keptA a b := by simp
        refine awp_region (by kernel_rfl) ?_
        (refine aL_S rfl rfl v_ ?_)
        refine aL_nil ?_
        refine awp_block ?_
        refine awp_loop_env (ι := Nat) (fun i => b.sibs.length - i) (fun i => i ≤ b.sibs.length) (fun i => [(2, .ref o2 0), (3, .ref o3 0), (4, .ref o4 0), (6, .sl 3 (J.map sSeen) false), (8, .sl 5 (((keptA a b ++ (b.sibs.take i).filterMap (keptG a)).foldl putD []).map sSib) false), (12, vInt i)]) (fun i => (((σ.set o2 (.cells (sObj a).cells)).set o3 (.cells (sObj b).cells)).set o4 (.cells [.lit (.slice none 0 0), .lit (.slice none 0 0)]))) 0 ?_ ?_ ?_ ?_
        · exact Nat.zero_le _
        · have R := hic; exact cv_
        · exact Store.Wk.refl _
        rintro i hi
        simp only [envL_cons, envL_nil]
        refine awp_seq ?_
        refine awp_seq ?_
        refine awp_region (by kernel_rfl) ?_
        iterate 5 (refine aL_S rfl rfl v_ ?_)
        refine aL_nil ?_
        refine awp_cond v_ (fun hc17 => ?_) (fun hc17 => ?_)
        · replace hc17 := nm_ hc17
          refine awp_skip ?_
          refine awp_seq ?_
          refine awp_block ?_
          refine awp_seq ?_
          obtain ⟨x, hx⟩ := get_some (l := b.sibs) (k := i) (by omega)
          have hl1 : ((b.sibs.take i).filterMap (keptG a)).length ≤ i := Nat.le_trans (List.length_filterMap_le ..) (by simp; omega)
          have hl2 := putsD_len (keptA a b ++ (b.sibs.take i).filterMap (keptG a)) []
          rw [List.length_nil, List.length_append] at hl2
          have hsx := hB.sibs x (List.mem_of_getElem? hx)
          have hnx := hsx.node
          have hstep : ∀ y, keptG a x = y → (keptA a b ++ (b.sibs.take (i + 1)).filterMap (keptG a)).foldl putD [] = (match y with | some z => putD ((keptA a b ++ (b.sibs.take i).filterMap (keptG a)).foldl putD []) z | none => (keptA a b ++ (b.sibs.take i).filterMap (keptG a)).foldl putD []) := fun y hy => by
            rw [take_snoc hx, List.filterMap_append, ← List.append_assoc, List.foldl_append (l' := [x].filterMap (keptG a))]
            cases y <;> simp [hy]
          have R := hx
          refine awp_region (by kernel_rfl) ?_
          iterate 5 (refine aL_S rfl rfl v_ ?_)
          refine aL_alloc rfl rfl rfl g_ gl_ fun o13 ho13 => ?_
          repeat (rw [none_set_iff] at ho13; obtain ⟨_, ho13⟩ := ho13)
          refine aL_store rfl rfl rfl v_ v_ h_ g_ rfl g_ c_ (by rfl) le_ v_ ?_
          refine aL_nil ?_
          refine awp_seq ?_
          refine awp_region (by kernel_rfl) ?_
          iterate 4 (refine aL_S rfl rfl v_ ?_)
          refine aL_X rfl rfl (AOp_use rfl rfl (.inr ⟨rfl, rfl, rfl⟩) g_ va_ (rFind_c (by omega)) ?_); rintro _ _ ⟨⟨r, rfl, h1, h2, h3⟩, rfl⟩
          iterate 2 (refine aL_S rfl rfl v_ ?_)
          refine aL_GT rfl rfl v_ rfl vg_ ?_
          refine aL_GT rfl rfl v_ rfl vg_ ?_
          refine aL_GT rfl rfl v_ rfl vg_ ?_
          refine aL_GT rfl rfl v_ rfl vg_ ?_
          refine aL_GTX rfl rfl v_ rfl (fun hb => AOp_useV (by rfl) (by rfl) (.inr ⟨by rfl, by rfl, by rfl⟩) g_ cg_ (rHas_c ha.ctx (by omega))) ?_
          refine aL_GT rfl rfl v_ rfl vg_ ?_
          (refine aL_S rfl rfl v_ ?_)
          refine aL_nil ?_
          refine awp_cond v_ (fun hc20 => ?_) (fun hc20 => ?_)
          · replace hc20 := nm_ hc20
            have hcov := hstep (some x) (by simp [keptG, h2 hc20.1, hc20.2])
            refine awp_region (by kernel_rfl) ?_
            iterate 2 (refine aL_S rfl rfl v_ ?_)
            refine aL_X rfl rfl (AOp_use rfl rfl (.inr ⟨rfl, rfl, rfl⟩) g_ va_ (rPutD_c (by omega)) ?_); rintro _ _ ⟨rfl, rfl⟩
            (refine aL_S rfl rfl v_ ?_)
            refine aL_nil ?_
            refine awp_region (by kernel_rfl) ?_
            iterate 3 (refine aL_S rfl rfl v_ ?_)
            refine aL_nil ?_
            refine aNext (ι := Nat) (i := i) (i + 1) ?_ ?_ ?_ ?_
            · omega
            · show i + 1 ≤ b.sibs.length; omega
            · have R := hcov; exact cv_
            · exact sub_
          · replace hc20 := nm_ hc20
            skip
            have hcov := hstep none (by
              rcases hc20 with h | h
              · obtain ⟨_, y, _, hf⟩ := h1 h
                simp [keptG, hf]
              · simp [keptG, h])
            refine awp_skip ?_
            refine awp_region (by kernel_rfl) ?_
            iterate 3 (refine aL_S rfl rfl v_ ?_)
            refine aL_nil ?_
            refine aNext (ι := Nat) (i := i) (i + 1) ?_ ?_ ?_ ?_
            · omega
            · show i + 1 ≤ b.sibs.length; omega
            · have R := hcov; exact cv_
            · exact sub_
        · replace hc17 := nm_ hc17
          refine awp_exit ?_
          refine aThen_exit ?_
          refine aThen_exit ?_
          refine aBlock_hit ?_
          refine awp_seq ?_
          skip
          have hM : (keptA a b ++ (b.sibs.take i).filterMap (keptG a)).foldl putD [] = mergeL a b := by rw [List.take_of_length_le (by omega)]; rfl
          rw [hM]
          refine awp_region (by kernel_rfl) ?_
          iterate 3 (refine aL_S rfl rfl v_ ?_)
          refine aL_store rfl rfl rfl v_ v_ h_ g_ rfl g_ c_ (by rfl) le_ v_ ?_
          (refine aL_S rfl rfl v_ ?_)
          refine aL_nil ?_
          refine awp_ret ?_
          refine aEnd_ret (σ' := σ) v_ sub_ ?_
          exact ⟨by rw [hms], rfl⟩
end Go.Proofs.YtgpibooklhakgaaGreat
end
