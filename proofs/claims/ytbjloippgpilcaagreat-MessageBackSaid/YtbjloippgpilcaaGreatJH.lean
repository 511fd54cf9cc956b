/-
  Messages held against one another. Own work (an AI agent).
-/
import Derived.Test.YtbjloippgpilcaaGreatJA
import Derived.Test.YtbjloippgpilcaaGreatGP

section
set_option linter.all false
set_option maxRecDepth 100000
namespace Go.Proofs.YtbjloippgpilcaaGreat
open Go.Ab

instance : DecidableEq Leaf := fun a b => decidable_of_iff (a.place = b.place ∧ a.digest = b.digest) (by cases a; cases b; simp)
instance : DecidableEq Itm := fun a b => decidable_of_iff (a.place = b.place ∧ a.obj = b.obj) (by cases a; cases b; simp)
instance : DecidableEq Ent := fun a b => decidable_of_iff (a.key = b.key ∧ a.n = b.n ∧ a.who = b.who ∧ a.value = b.value) (by cases a; cases b; simp)
instance : DecidableEq Msg := fun a b => decidable_of_iff (a.kind = b.kind ∧ a.frm = b.frm ∧ a.to = b.to ∧ a.num = b.num ∧ a.err = b.err ∧ a.place = b.place ∧ a.obj = b.obj ∧ a.texts = b.texts ∧ a.leaves = b.leaves ∧ a.items = b.items ∧ a.ents = b.ents) (by cases a; cases b; simp)
theorem sameTx_c {a b : List ByteArray} {ta tb : Bool} {σ : Store} (hla : a.length ≤ 1000000) (hlb : b.length ≤ 1000000) : ACalls Tryz.prog 49 [.sl 1 (a.map vStr) ta, .sl 1 (b.map vStr) tb] σ fun v σ' => v = vB (decide (a = b)) ∧ σ = σ' := by
  have hinj : ∀ x y : ByteArray, vStr x = vStr y ↔ x = y := fun x y => by cases x; cases y; simp
  refine ACalls_of Tryz.func49 rfl Tryz.ntmps49 (congrArg Array.toList Tryz.results49) (by simp only [List.length_cons, List.length_nil]; decide) ?_; simp only [envOf_cons, envOf_nil, Nat.reduceAdd]
  refine awp_seq ?_
  refine awp_region (by kernel_rfl) ?_
  (refine aL_S rfl rfl v_ ?_)
  refine aL_nil ?_
  refine awp_seq ?_
  refine awp_seq ?_
  refine awp_region (by kernel_rfl) ?_
  iterate 5 (refine aL_S rfl rfl v_ ?_)
  refine aL_nil ?_
  refine awp_cond v_ (fun hc1 => ?_) (fun hc1 => ?_)
  · replace hc1 := nm_ hc1
    refine awp_seq ?_
    refine awp_region (by kernel_rfl) ?_
    (refine aL_S rfl rfl v_ ?_)
    refine aL_nil ?_
    refine awp_ret ?_
    refine aEnd_ret (σ' := σ) v_ sub_ ?_
    exact ⟨by rw [decide_eq_false]; intro h; rw [h] at hc1; omega, rfl⟩
  · replace hc1 := nm_ hc1
    have hab : a.length = b.length := by omega
    refine awp_skip ?_
    refine awp_seq ?_
    refine awp_seq ?_
    refine awp_region (by kernel_rfl) ?_
    (refine aL_S rfl rfl v_ ?_)
    refine aL_nil ?_
    refine awp_block ?_
    refine awp_loop_env (ι := Nat) (fun k => a.length - k) (fun k => k ≤ a.length ∧ a.take k = b.take k) (fun k => [(0, .sl 1 (a.map vStr) ta), (1, .sl 1 (b.map vStr) tb), (5, vInt k)]) (fun k => σ) 0 ?_ ?_ ?_ ?_
    · exact ⟨Nat.zero_le _, rfl⟩
    · exact cv_
    · exact sub_
    rintro k ⟨hk, he⟩
    simp only [envL_cons, envL_nil]
    refine awp_seq ?_
    refine awp_seq ?_
    refine awp_region (by kernel_rfl) ?_
    iterate 5 (refine aL_S rfl rfl v_ ?_)
    refine aL_GT rfl rfl v_ rfl vg_ ?_
    refine aL_GT rfl rfl v_ rfl vg_ ?_
    refine aL_GT rfl rfl v_ rfl vg_ ?_
    refine aL_GT rfl rfl v_ rfl vg_ ?_
    (refine aL_S rfl rfl v_ ?_)
    refine aL_nil ?_
    refine awp_cond v_ (fun hc4 => ?_) (fun hc4 => ?_)
    · replace hc4 := nm_ hc4
      refine awp_skip ?_
      refine awp_seq ?_
      refine awp_block ?_
      refine awp_seq ?_
      obtain ⟨x, hx⟩ := get_some (l := a) (k := k) (by omega)
      obtain ⟨y, hy⟩ := get_some (l := b) (k := k) (by omega)
      have R := And.intro hx hy
      refine awp_draw (.op 0 0 (.op 1 0 (.op 2 0 (.op 3 0 (.op 4 0 (.op 5 0 (.op 6 0 (.op 7 0 (.op 8 0 .nil))))))))) Tryz.mixed (by kernel_rfl) ?_
      iterate 9 (refine dR_S o_ (by rfl) (by rfl) v_ ?_)
      refine dR_nil ?_
      refine awp_cond v_ (fun hc6 => ?_) (fun hc6 => ?_)
      · replace hc6 := nm_ hc6
        refine awp_seq ?_
        refine awp_region (by kernel_rfl) ?_
        (refine aL_S rfl rfl v_ ?_)
        refine aL_nil ?_
        refine awp_ret ?_
        refine aEnd_ret (σ' := σ) v_ sub_ ?_
        exact ⟨by rw [decide_eq_false]; intro h; rw [h, hy] at hx; have hyx := Option.some.inj hx; subst hyx; simp at hc6, rfl⟩
      · replace hc6 := nm_ hc6
        have hxy : x = y := by first | exact hc6 | (have h := hc6; clear hx hy R hc6; cases x; cases y; simp_all)
        refine awp_skip ?_
        refine awp_region (by kernel_rfl) ?_
        iterate 3 (refine aL_S rfl rfl v_ ?_)
        refine aL_nil ?_
        refine aNext (ι := Nat) (i := k) (k + 1) ?_ ?_ ?_ ?_
        · omega
        · exact ⟨by omega, by rw [take_snoc hx, take_snoc hy, he, hxy]⟩
        · exact cv_
        · exact sub_
    · replace hc4 := nm_ hc4
      refine awp_exit ?_
      refine aThen_exit ?_
      refine aThen_exit ?_
      refine aBlock_hit ?_
      refine awp_seq ?_
      refine awp_region (by kernel_rfl) ?_
      (refine aL_S rfl rfl v_ ?_)
      refine aL_nil ?_
      refine awp_ret ?_
      refine aEnd_ret (σ' := σ) v_ sub_ ?_
      exact ⟨by rw [decide_eq_true]; rwa [List.take_of_length_le (by omega), List.take_of_length_le (by omega)] at he, rfl⟩
theorem sameLf_c {a b : List Leaf} {ta tb : Bool} {σ : Store} (hla : a.length ≤ 1000000) (hlb : b.length ≤ 1000000) : ACalls Tryz.prog 50 [.sl 2 (a.map sLeaf) ta, .sl 2 (b.map sLeaf) tb] σ fun v σ' => v = vB (decide (a = b)) ∧ σ = σ' := by
  have hinj : ∀ x y : Leaf, sLeaf x = sLeaf y ↔ x = y := fun x y => by cases x; cases y; simp
  refine ACalls_of Tryz.func50 rfl Tryz.ntmps50 (congrArg Array.toList Tryz.results50) (by simp only [List.length_cons, List.length_nil]; decide) ?_; simp only [envOf_cons, envOf_nil, Nat.reduceAdd]
  refine awp_seq ?_
  refine awp_region (by kernel_rfl) ?_
  (refine aL_S rfl rfl v_ ?_)
  refine aL_nil ?_
  refine awp_seq ?_
  refine awp_seq ?_
  refine awp_region (by kernel_rfl) ?_
  iterate 5 (refine aL_S rfl rfl v_ ?_)
  refine aL_nil ?_
  refine awp_cond v_ (fun hc1 => ?_) (fun hc1 => ?_)
  · replace hc1 := nm_ hc1
    refine awp_seq ?_
    refine awp_region (by kernel_rfl) ?_
    (refine aL_S rfl rfl v_ ?_)
    refine aL_nil ?_
    refine awp_ret ?_
    refine aEnd_ret (σ' := σ) v_ sub_ ?_
    exact ⟨by rw [decide_eq_false]; intro h; rw [h] at hc1; omega, rfl⟩
  · replace hc1 := nm_ hc1
    have hab : a.length = b.length := by omega
    refine awp_skip ?_
    refine awp_seq ?_
    refine awp_seq ?_
    refine awp_region (by kernel_rfl) ?_
    (refine aL_S rfl rfl v_ ?_)
    refine aL_nil ?_
    refine awp_block ?_
    refine awp_loop_env (ι := Nat) (fun k => a.length - k) (fun k => k ≤ a.length ∧ a.take k = b.take k) (fun k => [(0, .sl 2 (a.map sLeaf) ta), (1, .sl 2 (b.map sLeaf) tb), (5, vInt k)]) (fun k => σ) 0 ?_ ?_ ?_ ?_
    · exact ⟨Nat.zero_le _, rfl⟩
    · exact cv_
    · exact sub_
    rintro k ⟨hk, he⟩
    simp only [envL_cons, envL_nil]
    refine awp_seq ?_
    refine awp_seq ?_
    refine awp_region (by kernel_rfl) ?_
    iterate 5 (refine aL_S rfl rfl v_ ?_)
    refine aL_GT rfl rfl v_ rfl vg_ ?_
    refine aL_GT rfl rfl v_ rfl vg_ ?_
    refine aL_GT rfl rfl v_ rfl vg_ ?_
    refine aL_GT rfl rfl v_ rfl vg_ ?_
    (refine aL_S rfl rfl v_ ?_)
    refine aL_nil ?_
    refine awp_cond v_ (fun hc4 => ?_) (fun hc4 => ?_)
    · replace hc4 := nm_ hc4
      refine awp_skip ?_
      refine awp_seq ?_
      refine awp_block ?_
      refine awp_seq ?_
      obtain ⟨x, hx⟩ := get_some (l := a) (k := k) (by omega)
      obtain ⟨y, hy⟩ := get_some (l := b) (k := k) (by omega)
      have R := And.intro hx hy
      refine awp_draw (.op 0 0 (.op 1 0 (.op 2 0 (.op 3 0 (.op 4 0 (.op 5 0 (.op 6 0 (.op 7 0 (.op 8 0 .nil))))))))) Tryz.mixed (by kernel_rfl) ?_
      iterate 9 (refine dR_S o_ (by rfl) (by rfl) v_ ?_)
      refine dR_nil ?_
      refine awp_cond v_ (fun hc6 => ?_) (fun hc6 => ?_)
      · replace hc6 := nm_ hc6
        refine awp_seq ?_
        refine awp_region (by kernel_rfl) ?_
        (refine aL_S rfl rfl v_ ?_)
        refine aL_nil ?_
        refine awp_ret ?_
        refine aEnd_ret (σ' := σ) v_ sub_ ?_
        exact ⟨by rw [decide_eq_false]; intro h; rw [h, hy] at hx; have hyx := Option.some.inj hx; subst hyx; simp at hc6, rfl⟩
      · replace hc6 := nm_ hc6
        have hxy : x = y := by first | exact hc6 | (have h := hc6; clear hx hy R hc6; cases x; cases y; simp_all)
        refine awp_skip ?_
        refine awp_region (by kernel_rfl) ?_
        iterate 3 (refine aL_S rfl rfl v_ ?_)
        refine aL_nil ?_
        refine aNext (ι := Nat) (i := k) (k + 1) ?_ ?_ ?_ ?_
        · omega
        · exact ⟨by omega, by rw [take_snoc hx, take_snoc hy, he, hxy]⟩
        · exact cv_
        · exact sub_
    · replace hc4 := nm_ hc4
      refine awp_exit ?_
      refine aThen_exit ?_
      refine aThen_exit ?_
      refine aBlock_hit ?_
      refine awp_seq ?_
      refine awp_region (by kernel_rfl) ?_
      (refine aL_S rfl rfl v_ ?_)
      refine aL_nil ?_
      refine awp_ret ?_
      refine aEnd_ret (σ' := σ) v_ sub_ ?_
      exact ⟨by rw [decide_eq_true]; rwa [List.take_of_length_le (by omega), List.take_of_length_le (by omega)] at he, rfl⟩
theorem sameEn_c {a b : List Ent} {ta tb : Bool} {σ : Store} (hla : a.length ≤ 1000000) (hlb : b.length ≤ 1000000) : ACalls Tryz.prog 52 [.sl 4 (a.map sEnt) ta, .sl 4 (b.map sEnt) tb] σ fun v σ' => v = vB (decide (a = b)) ∧ σ = σ' := by
  have hinj : ∀ x y : Ent, sEnt x = sEnt y ↔ x = y := fun x y => by cases x; cases y; simp
  refine ACalls_of Tryz.func52 rfl Tryz.ntmps52 (congrArg Array.toList Tryz.results52) (by simp only [List.length_cons, List.length_nil]; decide) ?_; simp only [envOf_cons, envOf_nil, Nat.reduceAdd]
  refine awp_seq ?_
  refine awp_region (by kernel_rfl) ?_
  (refine aL_S rfl rfl v_ ?_)
  refine aL_nil ?_
  refine awp_seq ?_
  refine awp_seq ?_
  refine awp_region (by kernel_rfl) ?_
  iterate 5 (refine aL_S rfl rfl v_ ?_)
  refine aL_nil ?_
  refine awp_cond v_ (fun hc1 => ?_) (fun hc1 => ?_)
  · replace hc1 := nm_ hc1
    refine awp_seq ?_
    refine awp_region (by kernel_rfl) ?_
    (refine aL_S rfl rfl v_ ?_)
    refine aL_nil ?_
    refine awp_ret ?_
    refine aEnd_ret (σ' := σ) v_ sub_ ?_
    exact ⟨by rw [decide_eq_false]; intro h; rw [h] at hc1; omega, rfl⟩
  · replace hc1 := nm_ hc1
    have hab : a.length = b.length := by omega
    refine awp_skip ?_
    refine awp_seq ?_
    refine awp_seq ?_
    refine awp_region (by kernel_rfl) ?_
    (refine aL_S rfl rfl v_ ?_)
    refine aL_nil ?_
    refine awp_block ?_
    refine awp_loop_env (ι := Nat) (fun k => a.length - k) (fun k => k ≤ a.length ∧ a.take k = b.take k) (fun k => [(0, .sl 4 (a.map sEnt) ta), (1, .sl 4 (b.map sEnt) tb), (5, vInt k)]) (fun k => σ) 0 ?_ ?_ ?_ ?_
    · exact ⟨Nat.zero_le _, rfl⟩
    · exact cv_
    · exact sub_
    rintro k ⟨hk, he⟩
    simp only [envL_cons, envL_nil]
    refine awp_seq ?_
    refine awp_seq ?_
    refine awp_region (by kernel_rfl) ?_
    iterate 5 (refine aL_S rfl rfl v_ ?_)
    refine aL_GT rfl rfl v_ rfl vg_ ?_
    refine aL_GT rfl rfl v_ rfl vg_ ?_
    refine aL_GT rfl rfl v_ rfl vg_ ?_
    refine aL_GT rfl rfl v_ rfl vg_ ?_
    (refine aL_S rfl rfl v_ ?_)
    refine aL_nil ?_
    refine awp_cond v_ (fun hc4 => ?_) (fun hc4 => ?_)
    · replace hc4 := nm_ hc4
      refine awp_skip ?_
      refine awp_seq ?_
      refine awp_block ?_
      refine awp_seq ?_
      obtain ⟨x, hx⟩ := get_some (l := a) (k := k) (by omega)
      obtain ⟨y, hy⟩ := get_some (l := b) (k := k) (by omega)
      have R := And.intro hx hy
      refine awp_draw (.op 0 0 (.op 1 0 (.op 2 0 (.op 3 0 (.op 4 0 (.op 5 0 (.op 6 0 (.op 7 0 (.op 8 0 .nil))))))))) Tryz.mixed (by kernel_rfl) ?_
      iterate 9 (refine dR_S o_ (by rfl) (by rfl) v_ ?_)
      refine dR_nil ?_
      refine awp_cond v_ (fun hc6 => ?_) (fun hc6 => ?_)
      · replace hc6 := nm_ hc6
        refine awp_seq ?_
        refine awp_region (by kernel_rfl) ?_
        (refine aL_S rfl rfl v_ ?_)
        refine aL_nil ?_
        refine awp_ret ?_
        refine aEnd_ret (σ' := σ) v_ sub_ ?_
        exact ⟨by rw [decide_eq_false]; intro h; rw [h, hy] at hx; have hyx := Option.some.inj hx; subst hyx; simp at hc6, rfl⟩
      · replace hc6 := nm_ hc6
        have hxy : x = y := by first | exact hc6 | (have h := hc6; clear hx hy R hc6; cases x; cases y; simp_all)
        refine awp_skip ?_
        refine awp_region (by kernel_rfl) ?_
        iterate 3 (refine aL_S rfl rfl v_ ?_)
        refine aL_nil ?_
        refine aNext (ι := Nat) (i := k) (k + 1) ?_ ?_ ?_ ?_
        · omega
        · exact ⟨by omega, by rw [take_snoc hx, take_snoc hy, he, hxy]⟩
        · exact cv_
        · exact sub_
    · replace hc4 := nm_ hc4
      refine awp_exit ?_
      refine aThen_exit ?_
      refine aThen_exit ?_
      refine aBlock_hit ?_
      refine awp_seq ?_
      refine awp_region (by kernel_rfl) ?_
      (refine aL_S rfl rfl v_ ?_)
      refine aL_nil ?_
      refine awp_ret ?_
      refine aEnd_ret (σ' := σ) v_ sub_ ?_
      exact ⟨by rw [decide_eq_true]; rwa [List.take_of_length_le (by omega), List.take_of_length_le (by omega)] at he, rfl⟩
theorem sameIt_c {a b : List Itm} {ta tb : Bool} {σ : Store} (hA : ∀ x ∈ a, ObjSm x.obj) (hB : ∀ x ∈ b, ObjSm x.obj) (hla : a.length ≤ 1000000) (hlb : b.length ≤ 1000000) : ACalls Tryz.prog 51 [.agg [.sl 3 (a.map sItem) ta, .lit (.slice none 0 0)], .agg [.sl 3 (b.map sItem) tb, .lit (.slice none 0 0)]] σ fun v σ' => v = vB (decide (a = b)) ∧ σ = σ' := by
  refine ACalls_of Tryz.func51 rfl Tryz.ntmps51 (congrArg Array.toList Tryz.results51) (by simp only [List.length_cons, List.length_nil]; decide) ?_; simp only [envOf_cons, envOf_nil, Nat.reduceAdd]
  refine awp_seq ?_
  refine awp_region (by kernel_rfl) ?_
  refine aL_box rfl rfl rfl v_ rfl g_ fun o2 ho2 => ?_
  repeat (rw [none_set_iff] at ho2; obtain ⟨_, ho2⟩ := ho2)
  refine aL_box rfl rfl rfl v_ rfl g_ fun o3 ho3 => ?_
  repeat (rw [none_set_iff] at ho3; obtain ⟨_, ho3⟩ := ho3)
  (refine aL_S rfl rfl v_ ?_)
  refine aL_nil ?_
  refine awp_seq ?_
  refine awp_seq ?_
  refine awp_region (by kernel_rfl) ?_
  iterate 8 (refine aL_S rfl rfl v_ ?_)
  refine aL_GF rfl rfl v_ rfl vg_ ?_
  refine aL_GF rfl rfl v_ rfl vg_ ?_
  refine aL_GF rfl rfl v_ rfl vg_ ?_
  refine aL_GF rfl rfl v_ rfl vg_ ?_
  refine aL_GF rfl rfl v_ rfl vg_ ?_
  refine aL_GF rfl rfl v_ rfl vg_ ?_
  refine aL_GF rfl rfl v_ rfl vg_ ?_
  (refine aL_S rfl rfl v_ ?_)
  refine aL_nil ?_
  refine awp_cond v_ (fun hc1 => ?_) (fun hc1 => ?_)
  · replace hc1 := nm_ hc1
    refine awp_seq ?_
    refine awp_region (by kernel_rfl) ?_
    (refine aL_S rfl rfl v_ ?_)
    refine aL_nil ?_
    refine awp_ret ?_
    refine aEnd_ret (σ' := σ) v_ sub_ ?_
    exact ⟨by rw [decide_eq_false]; intro h; rw [h] at hc1; omega, rfl⟩
  · replace hc1 := nm_ hc1
    have hab : a.length = b.length := by omega
    refine awp_skip ?_
    refine awp_seq ?_
    refine awp_seq ?_
    refine awp_region (by kernel_rfl) ?_
    (refine aL_S rfl rfl v_ ?_)
    refine aL_nil ?_
    refine awp_block ?_
    refine awp_loop_env (ι := Nat) (fun k => a.length - k) (fun k => k ≤ a.length ∧ a.take k = b.take k) (fun k => [(2, .ref o2 0), (3, .ref o3 0), (5, vInt k)]) (fun k => ((σ.set o2 (.cells [.sl 3 (a.map sItem) ta, .lit (.slice none 0 0)])).set o3 (.cells [.sl 3 (b.map sItem) tb, .lit (.slice none 0 0)]))) 0 ?_ ?_ ?_ ?_
    · exact ⟨Nat.zero_le _, rfl⟩
    · exact cv_
    · exact Store.Wk.refl _
    rintro k ⟨hk, he⟩
    simp only [envL_cons, envL_nil]
    refine awp_seq ?_
    refine awp_seq ?_
    refine awp_region (by kernel_rfl) ?_
    iterate 6 (refine aL_S rfl rfl v_ ?_)
    refine aL_GT rfl rfl v_ rfl vg_ ?_
    refine aL_GT rfl rfl v_ rfl vg_ ?_
    refine aL_GT rfl rfl v_ rfl vg_ ?_
    refine aL_GT rfl rfl v_ rfl vg_ ?_
    refine aL_GT rfl rfl v_ rfl vg_ ?_
    (refine aL_S rfl rfl v_ ?_)
    refine aL_nil ?_
    refine awp_cond v_ (fun hc4 => ?_) (fun hc4 => ?_)
    · replace hc4 := nm_ hc4
      refine awp_skip ?_
      refine awp_seq ?_
      refine awp_block ?_
      refine awp_seq ?_
      obtain ⟨x, hx⟩ := get_some (l := a) (k := k) (by omega)
      obtain ⟨y, hy⟩ := get_some (l := b) (k := k) (by omega)
      have R := And.intro hx hy
      refine awp_draw (.op 0 0 (.op 1 0 (.op 2 0 (.op 3 0 (.op 4 0 (.op 5 0 (.op 6 0 (.op 7 0 (.op 8 0 (.op 9 0 (.op 10 0 (.op 11 0 (.op 12 0 (.op 13 0 (.op 14 0 (.op 15 0 (.op 16 0 (.op 17 0 (.op 18 0 (.op 19 0 (.op 20 0 (.op 21 0 (.op 22 0 (.op 23 0 (.op 24 0 (.op 25 0 (.op 26 1 (.op 27 0 (.op 28 0 .nil))))))))))))))))))))))))))))) Tryz.mixed (by kernel_rfl) ?_
      iterate 14 (refine dR_S o_ (by rfl) (by rfl) v_ ?_)
      refine dR_GF o_ (by rfl) (by rfl) v_ (by rfl) vg_ ?_
      refine dR_GF o_ (by rfl) (by rfl) v_ (by rfl) vg_ ?_
      refine dR_GF o_ (by rfl) (by rfl) v_ (by rfl) vg_ ?_
      refine dR_GF o_ (by rfl) (by rfl) v_ (by rfl) vg_ ?_
      refine dR_GF o_ (by rfl) (by rfl) v_ (by rfl) vg_ ?_
      refine dR_GF o_ (by rfl) (by rfl) v_ (by rfl) vg_ ?_
      refine dR_GF o_ (by rfl) (by rfl) v_ (by rfl) vg_ ?_
      refine dR_GF o_ (by rfl) (by rfl) v_ (by rfl) vg_ ?_
      refine dR_GF o_ (by rfl) (by rfl) v_ (by rfl) vg_ ?_
      refine dR_GF o_ (by rfl) (by rfl) v_ (by rfl) vg_ ?_
      refine dR_GF o_ (by rfl) (by rfl) v_ (by rfl) vg_ ?_
      refine dR_GF o_ (by rfl) (by rfl) v_ (by rfl) vg_ ?_
      refine dR_GFX o_ (by rfl) (by rfl) v_ (by rfl) sub_ (fun hb => AOp_useV (by rfl) (by rfl) (.inr ⟨by rfl, by rfl, by rfl⟩) g_ cg_ (same07_f (hA x (List.mem_of_getElem? hx)) (hB y (List.mem_of_getElem? hy)))) ?_
      refine dR_GF o_ (by rfl) (by rfl) v_ (by rfl) vg_ ?_
      (refine dR_S o_ (by rfl) (by rfl) v_ ?_)
      refine dR_nil ?_
      refine awp_cond v_ (fun hc6 => ?_) (fun hc6 => ?_)
      · replace hc6 := nm_ hc6
        refine awp_seq ?_
        refine awp_region (by kernel_rfl) ?_
        (refine aL_S rfl rfl v_ ?_)
        refine aL_nil ?_
        refine awp_ret ?_
        refine aEnd_ret (σ' := σ) v_ sub_ ?_
        exact ⟨by rw [decide_eq_false]; intro h; rw [h, hy] at hx; have hyx := Option.some.inj hx; subst hyx; simp at hc6, rfl⟩
      · replace hc6 := nm_ hc6
        have hxy : x = y := by have h := hc6; clear hx hy R hc6; cases x; cases y; simp_all
        refine awp_skip ?_
        refine awp_region (by kernel_rfl) ?_
        iterate 3 (refine aL_S rfl rfl v_ ?_)
        refine aL_nil ?_
        refine aNext (ι := Nat) (i := k) (k + 1) ?_ ?_ ?_ ?_
        · omega
        · exact ⟨by omega, by rw [take_snoc hx, take_snoc hy, he, hxy]⟩
        · exact cv_
        · exact sub_
    · replace hc4 := nm_ hc4
      refine awp_exit ?_
      refine aThen_exit ?_
      refine aThen_exit ?_
      refine aBlock_hit ?_
      refine awp_seq ?_
      refine awp_seq ?_
      refine awp_region (by kernel_rfl) ?_
      (refine aL_S rfl rfl v_ ?_)
      refine aL_nil ?_
      refine awp_block ?_
      refine awp_loop_env (ι := Nat) (fun j => 0 - j) (fun j => j = 0) (fun j => [(2, .ref o2 0), (3, .ref o3 0), (6, vInt j)]) (fun j => ((σ.set o2 (.cells [.sl 3 (a.map sItem) ta, .lit (.slice none 0 0)])).set o3 (.cells [.sl 3 (b.map sItem) tb, .lit (.slice none 0 0)]))) 0 ?_ ?_ ?_ ?_
      · rfl
      · exact cv_
      · exact Store.Wk.refl _
      rintro j hj
      simp only [envL_cons, envL_nil]
      refine awp_seq ?_
      refine awp_seq ?_
      refine awp_region (by kernel_rfl) ?_
      iterate 6 (refine aL_S rfl rfl v_ ?_)
      refine aL_GT rfl rfl v_ rfl vg_ ?_
      refine aL_GT rfl rfl v_ rfl vg_ ?_
      refine aL_GT rfl rfl v_ rfl vg_ ?_
      refine aL_GT rfl rfl v_ rfl vg_ ?_
      refine aL_GT rfl rfl v_ rfl vg_ ?_
      (refine aL_S rfl rfl v_ ?_)
      refine aL_nil ?_
      refine awp_cond v_ (fun hc9 => ?_) (fun hc9 => ?_)
      · replace hc9 := nm_ hc9
        subst hj; exact absurd hc9 (by decide)
      · replace hc9 := nm_ hc9
        refine awp_exit ?_
        refine aThen_exit ?_
        refine aThen_exit ?_
        refine aBlock_hit ?_
        refine awp_seq ?_
        refine awp_region (by kernel_rfl) ?_
        (refine aL_S rfl rfl v_ ?_)
        refine aL_nil ?_
        refine awp_ret ?_
        refine aEnd_ret (σ' := σ) v_ sub_ ?_
        exact ⟨by rw [decide_eq_true]; rwa [List.take_of_length_le (by omega), List.take_of_length_le (by omega)] at he, rfl⟩
set_option maxHeartbeats 1000000 in
theorem sameM_c {a b : Msg} {σ : Store} (hA : MsgSm a) (hB : MsgSm b) : ACalls Tryz.prog 13 [sMsg a, sMsg b] σ fun v σ' => v = vB (decide (a = b)) ∧ σ = σ' := by
  have a1 := hA.nt; have a2 := hA.nl; have a3 := hA.ni; have a4 := hA.ne
  have b1 := hB.nt; have b2 := hB.nl; have b3 := hB.ni; have b4 := hB.ne
  refine ACalls_of Tryz.func13 rfl Tryz.ntmps13 (congrArg Array.toList Tryz.results13) (by simp only [List.length_cons, List.length_nil]; decide) ?_; simp only [envOf_cons, envOf_nil, Nat.reduceAdd]
  refine awp_seq ?_
  refine awp_region (by kernel_rfl) ?_
  refine aL_box rfl rfl rfl v_ rfl g_ fun o2 ho2 => ?_
  repeat (rw [none_set_iff] at ho2; obtain ⟨_, ho2⟩ := ho2)
  refine aL_box rfl rfl rfl v_ rfl g_ fun o3 ho3 => ?_
  repeat (rw [none_set_iff] at ho3; obtain ⟨_, ho3⟩ := ho3)
  (refine aL_S rfl rfl v_ ?_)
  refine aL_nil ?_
  refine awp_seq ?_
  refine awp_region (by kernel_rfl) ?_
  iterate 6 (refine aL_S rfl rfl v_ ?_)
  refine aL_GT rfl rfl v_ rfl vg_ ?_
  refine aL_GT rfl rfl v_ rfl vg_ ?_
  refine aL_GT rfl rfl v_ rfl vg_ ?_
  refine aL_GT rfl rfl v_ rfl vg_ ?_
  refine aL_GT rfl rfl v_ rfl vg_ ?_
  iterate 2 (refine aL_S rfl rfl v_ ?_)
  refine aL_GT rfl rfl v_ rfl vg_ ?_
  refine aL_GT rfl rfl v_ rfl vg_ ?_
  refine aL_GT rfl rfl v_ rfl vg_ ?_
  refine aL_GT rfl rfl v_ rfl vg_ ?_
  refine aL_GT rfl rfl v_ rfl vg_ ?_
  iterate 2 (refine aL_S rfl rfl v_ ?_)
  refine aL_GT rfl rfl v_ rfl vg_ ?_
  refine aL_GT rfl rfl v_ rfl vg_ ?_
  refine aL_GT rfl rfl v_ rfl vg_ ?_
  refine aL_GT rfl rfl v_ rfl vg_ ?_
  refine aL_GT rfl rfl v_ rfl vg_ ?_
  iterate 2 (refine aL_S rfl rfl v_ ?_)
  refine aL_GT rfl rfl v_ rfl vg_ ?_
  refine aL_GT rfl rfl v_ rfl vg_ ?_
  refine aL_GT rfl rfl v_ rfl vg_ ?_
  refine aL_GT rfl rfl v_ rfl vg_ ?_
  refine aL_GT rfl rfl v_ rfl vg_ ?_
  iterate 2 (refine aL_S rfl rfl v_ ?_)
  refine aL_GT rfl rfl v_ rfl vg_ ?_
  refine aL_GT rfl rfl v_ rfl vg_ ?_
  refine aL_GT rfl rfl v_ rfl vg_ ?_
  refine aL_GT rfl rfl v_ rfl vg_ ?_
  refine aL_GT rfl rfl v_ rfl vg_ ?_
  iterate 2 (refine aL_S rfl rfl v_ ?_)
  refine aL_GT rfl rfl v_ rfl vg_ ?_
  refine aL_GT rfl rfl v_ rfl vg_ ?_
  refine aL_GT rfl rfl v_ rfl vg_ ?_
  refine aL_GT rfl rfl v_ rfl vg_ ?_
  refine aL_GTX rfl rfl v_ rfl (fun hb => AOp_useV (by rfl) (by rfl) (.inr ⟨by rfl, by rfl, by rfl⟩) g_ cg_ (same07_f hA.obj hB.obj)) ?_
  iterate 2 (refine aL_S rfl rfl v_ ?_)
  refine aL_GT rfl rfl v_ rfl vg_ ?_
  refine aL_GT rfl rfl v_ rfl vg_ ?_
  refine aL_GT rfl rfl v_ rfl vg_ ?_
  refine aL_GT rfl rfl v_ rfl vg_ ?_
  refine aL_GTX rfl rfl v_ rfl (fun hb => AOp_useV (by rfl) (by rfl) (.inr ⟨by rfl, by rfl, by rfl⟩) g_ cg_ (sameTx_c (by omega) (by omega))) ?_
  iterate 2 (refine aL_S rfl rfl v_ ?_)
  refine aL_GT rfl rfl v_ rfl vg_ ?_
  refine aL_GT rfl rfl v_ rfl vg_ ?_
  refine aL_GT rfl rfl v_ rfl vg_ ?_
  refine aL_GT rfl rfl v_ rfl vg_ ?_
  refine aL_GTX rfl rfl v_ rfl (fun hb => AOp_useV (by rfl) (by rfl) (.inr ⟨by rfl, by rfl, by rfl⟩) g_ cg_ (sameLf_c (by omega) (by omega))) ?_
  iterate 2 (refine aL_S rfl rfl v_ ?_)
  refine aL_GT rfl rfl v_ rfl vg_ ?_
  refine aL_GT rfl rfl v_ rfl vg_ ?_
  refine aL_GT rfl rfl v_ rfl vg_ ?_
  refine aL_GT rfl rfl v_ rfl vg_ ?_
  refine aL_GT rfl rfl v_ rfl vg_ ?_
  refine aL_GT rfl rfl v_ rfl vg_ ?_
  refine aL_GTX rfl rfl v_ rfl (fun hb => AOp_useV (by rfl) (by rfl) (.inr ⟨by rfl, by rfl, by rfl⟩) g_ cg_ (sameIt_c (fun x h => (hA.items x h).obj) (fun x h => (hB.items x h).obj) (by omega) (by omega))) ?_
  iterate 2 (refine aL_S rfl rfl v_ ?_)
  refine aL_GT rfl rfl v_ rfl vg_ ?_
  refine aL_GT rfl rfl v_ rfl vg_ ?_
  refine aL_GT rfl rfl v_ rfl vg_ ?_
  refine aL_GT rfl rfl v_ rfl vg_ ?_
  refine aL_GTX rfl rfl v_ rfl (fun hb => AOp_useV (by rfl) (by rfl) (.inr ⟨by rfl, by rfl, by rfl⟩) g_ cg_ (sameEn_c (by omega) (by omega))) ?_
  iterate 2 (refine aL_S rfl rfl v_ ?_)
  refine aL_nil ?_
  refine awp_ret ?_
  refine aEnd_ret (σ' := σ) v_ sub_ ?_
  refine ⟨?_, rfl⟩
  clear hA hB a1 a2 a3 a4 b1 b2 b3 b4
  congr 2
  rw [Bool.eq_iff_iff]
  cases a; cases b
  simp [and_assoc]
end Go.Proofs.YtbjloippgpilcaaGreat
end
