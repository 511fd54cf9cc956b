/-
  Whether a dot is known; dots and values held against each other; slices.Grow, slices.Concat. Own work (an AI agent).
-/
import Derived.Test.YtbjloippgpilcaaGreatGM
import Derived.Lib.Bytealg
import Derived.Test.YtbjloippgpilcaaGreatGE

section
set_option linter.all false
set_option maxRecDepth 100000
namespace Go.Proofs.YtbjloippgpilcaaGreat
open Go.Ab

abbrev vB (b : Bool) : AVal := .lit (.bool b)
@[reducible] def sDot (s : ByteArray) (n : Int) : AVal := .agg [.lit (.string s), vInt n]
def inS (l : List Int) (n : Int) : Bool := l.any fun m => decide (m = n)
def hasX (x : Seen) (s : ByteArray) (n : Int) : Bool := decide (x.node = s) && (decide (0 < n) && decide (n ≤ x.base) || inS x.more n)
def hasS (c : List Seen) (s : ByteArray) (n : Int) : Bool := c.any fun x => hasX x s n
theorem hasX_no {x : Seen} {s : ByteArray} {n : Int} (h : ¬ x.node = s ∨ (n ≤ 0 ∨ x.base < n) ∧ inS x.more n = false) : hasX x s n = false := by
  unfold hasX
  rcases h with h | ⟨h, h'⟩
  · rw [decide_eq_false h]; rfl
  · rw [h']
    rcases h with h | h
    · rw [decide_eq_false (show ¬ 0 < n by omega)]; simp
    · rw [decide_eq_false (show ¬ n ≤ x.base by omega)]; simp
theorem any_yes {α : Type} {l : List α} {k : Nat} {x : α} {f : α → Bool} (h : l[k]? = some x) (hf : f x = true) : l.any f = true := List.any_eq_true.2 ⟨x, List.mem_of_getElem? h, hf⟩
theorem any_next {α : Type} {l : List α} {k : Nat} {x : α} {f : α → Bool} (h : l[k]? = some x) (hf : f x = false) (ha : (l.take k).any f = false) : (l.take (k + 1)).any f = false := by
  rw [take_snoc h, List.any_append, ha]; simp [hf]
theorem any_end {α : Type} {l : List α} {k : Nat} {f : α → Bool} (h : l.length ≤ k) (ha : (l.take k).any f = false) : l.any f = false := by rwa [List.take_of_length_le h] at ha

theorem index_c {l : List Int} {n : Int} {t : Bool} {σ : Store} (hl : l.length ≤ 1000000) : ACalls Tryz.prog 130 [.sl 1 (l.map vInt) t, vInt n] σ fun v σ' => (∃ r, v = vInt r ∧ decide (0 ≤ r) = inS l n) ∧ σ = σ' := by
  refine ACalls_of Tryz.func130 rfl Tryz.ntmps130 (congrArg Array.toList Tryz.results130) (by simp only [List.length_cons, List.length_nil]; decide) ?_; simp only [envOf_cons, envOf_nil, Nat.reduceAdd]
  refine awp_seq ?_
  refine awp_region (by kernel_rfl) ?_
  (refine aL_S rfl rfl v_ ?_)
  refine aL_nil ?_
  refine awp_seq ?_
  refine awp_seq ?_
  refine awp_region (by kernel_rfl) ?_
  iterate 3 (refine aL_S rfl rfl v_ ?_)
  refine aL_nil ?_
  refine awp_block ?_
  refine awp_loop_env (ι := Nat) (fun k => l.length - k) (fun k => k ≤ l.length ∧ (l.take k).any (fun m => decide (m = n)) = false) (fun k => [(0, .sl 1 (l.map vInt) t), (1, vInt n), (7, vInt l.length), (8, vInt k)]) (fun k => σ) 0 ?_ ?_ ?_ ?_
  · exact ⟨Nat.zero_le _, rfl⟩
  · exact cv_
  · exact sub_
  rintro k ⟨hk, ha⟩
  simp only [envL_cons, envL_nil]
  refine awp_seq ?_
  refine awp_region (by kernel_rfl) ?_
  (refine aL_S rfl rfl v_ ?_)
  refine aL_nil ?_
  refine awp_seq ?_
  refine awp_cond v_ (fun hc2 => ?_) (fun hc2 => ?_)
  · replace hc2 := nm_ hc2
    refine awp_skip ?_
    refine awp_seq ?_
    refine awp_block ?_
    refine awp_seq ?_
    obtain ⟨x, hx⟩ := get_some (l := l) (k := k) (by omega)
    refine awp_region (by kernel_rfl) ?_
    iterate 2 (refine aL_S rfl rfl v_ ?_)
    refine aL_nil ?_
    refine awp_seq ?_
    have R := hx
    refine awp_region (by kernel_rfl) ?_
    iterate 6 (refine aL_S rfl rfl v_ ?_)
    refine aL_nil ?_
    refine awp_cond v_ (fun hc4 => ?_) (fun hc4 => ?_)
    · replace hc4 := nm_ hc4
      refine awp_seq ?_
      refine awp_region (by kernel_rfl) ?_
      iterate 2 (refine aL_S rfl rfl v_ ?_)
      refine aL_nil ?_
      refine awp_ret ?_
      refine aEnd_ret (σ' := σ) v_ sub_ ?_
      exact ⟨⟨(k : Int), rfl, by rw [decide_eq_true (by omega)]; exact (any_yes hx (by simp; omega)).symm⟩, rfl⟩
    · replace hc4 := nm_ hc4
      refine awp_skip ?_
      refine awp_region (by kernel_rfl) ?_
      iterate 2 (refine aL_S rfl rfl v_ ?_)
      refine aL_nil ?_
      refine aNext (ι := Nat) (i := k) (k + 1) ?_ ?_ ?_ ?_
      · omega
      · exact ⟨by omega, any_next hx (by simp; omega) ha⟩
      · exact cv_
      · exact sub_
  · replace hc2 := nm_ hc2
    refine awp_exit ?_
    refine aThen_exit ?_
    refine aThen_exit ?_
    refine aBlock_hit ?_
    refine awp_seq ?_
    refine awp_region (by kernel_rfl) ?_
    (refine aL_S rfl rfl v_ ?_)
    refine aL_nil ?_
    refine awp_ret ?_
    refine aEnd_ret (σ' := σ) v_ sub_ ?_
    exact ⟨⟨-1, rfl, (any_end (by omega) ha).symm⟩, rfl⟩
theorem contains_c {l : List Int} {n : Int} {t : Bool} {σ : Store} (hl : l.length ≤ 1000000) : ACalls Tryz.prog 108 [.sl 1 (l.map vInt) t, vInt n] σ fun v σ' => v = vB (inS l n) ∧ σ = σ' := by
  refine ACalls_of Tryz.func108 rfl Tryz.ntmps108 (congrArg Array.toList Tryz.results108) (by simp only [List.length_cons, List.length_nil]; decide) ?_; simp only [envOf_cons, envOf_nil, Nat.reduceAdd]
  refine awp_seq ?_
  refine awp_region (by kernel_rfl) ?_
  (refine aL_S rfl rfl v_ ?_)
  refine aL_nil ?_
  refine awp_seq ?_
  refine awp_region (by kernel_rfl) ?_
  iterate 2 (refine aL_S rfl rfl v_ ?_)
  refine aL_X rfl rfl (AOp_use rfl rfl (.inr ⟨rfl, rfl, rfl⟩) g_ va_ (index_c hl) ?_); rintro _ _ ⟨⟨r, rfl, hr⟩, rfl⟩
  iterate 2 (refine aL_S rfl rfl v_ ?_)
  refine aL_nil ?_
  refine awp_ret ?_
  refine aEnd_ret (σ' := σ) v_ sub_ ?_
  exact ⟨by rw [← hr], rfl⟩
theorem rIn_c {l : List Int} {n : Int} {t : Bool} {σ : Store} (hl : l.length ≤ 1000000) : ACalls Tryz.prog 115 [.sl 1 (l.map vInt) t, vInt n] σ fun v σ' => v = vB (inS l n) ∧ σ = σ' := by
  refine ACalls_of Tryz.func115 rfl Tryz.ntmps115 (congrArg Array.toList Tryz.results115) (by simp only [List.length_cons, List.length_nil]; decide) ?_; simp only [envOf_cons, envOf_nil, Nat.reduceAdd]
  refine awp_seq ?_
  refine awp_region (by kernel_rfl) ?_
  (refine aL_S rfl rfl v_ ?_)
  refine aL_nil ?_
  refine awp_seq ?_
  refine awp_seq ?_
  refine awp_region (by kernel_rfl) ?_
  (refine aL_S rfl rfl v_ ?_)
  refine aL_nil ?_
  refine awp_block ?_
  refine awp_loop_env (ι := Nat) (fun k => l.length - k) (fun k => k ≤ l.length ∧ (l.take k).any (fun m => decide (m = n)) = false) (fun k => [(0, .sl 1 (l.map vInt) t), (1, vInt n), (5, vInt k)]) (fun k => σ) 0 ?_ ?_ ?_ ?_
  · exact ⟨Nat.zero_le _, rfl⟩
  · exact cv_
  · exact sub_
  rintro k ⟨hk, ha⟩
  simp only [envL_cons, envL_nil]
  refine awp_seq ?_
  refine awp_seq ?_
  refine awp_region (by kernel_rfl) ?_
  iterate 4 (refine aL_S rfl rfl v_ ?_)
  refine aL_nil ?_
  refine awp_cond v_ (fun hc2 => ?_) (fun hc2 => ?_)
  · replace hc2 := nm_ hc2
    refine awp_skip ?_
    refine awp_seq ?_
    refine awp_block ?_
    refine awp_seq ?_
    obtain ⟨x, hx⟩ := get_some (l := l) (k := k) (by omega)
    have R := hx
    refine awp_region (by kernel_rfl) ?_
    iterate 6 (refine aL_S rfl rfl v_ ?_)
    refine aL_nil ?_
    refine awp_cond v_ (fun hc4 => ?_) (fun hc4 => ?_)
    · replace hc4 := nm_ hc4
      refine awp_seq ?_
      refine awp_region (by kernel_rfl) ?_
      (refine aL_S rfl rfl v_ ?_)
      refine aL_nil ?_
      refine awp_ret ?_
      refine aEnd_ret (σ' := σ) v_ sub_ ?_
      exact ⟨by rw [inS, any_yes hx (by simp; omega)], rfl⟩
    · replace hc4 := nm_ hc4
      refine awp_skip ?_
      refine awp_region (by kernel_rfl) ?_
      iterate 3 (refine aL_S rfl rfl v_ ?_)
      refine aL_nil ?_
      refine aNext (ι := Nat) (i := k) (k + 1) ?_ ?_ ?_ ?_
      · omega
      · exact ⟨by omega, any_next hx (by simp; omega) ha⟩
      · exact cv_
      · exact sub_
  · replace hc2 := nm_ hc2
    refine awp_exit ?_
    refine aThen_exit ?_
    refine aThen_exit ?_
    refine aBlock_hit ?_
    refine awp_seq ?_
    refine awp_region (by kernel_rfl) ?_
    (refine aL_S rfl rfl v_ ?_)
    refine aL_nil ?_
    refine awp_ret ?_
    refine aEnd_ret (σ' := σ) v_ sub_ ?_
    exact ⟨by rw [inS, any_end (by omega) ha], rfl⟩
theorem has1_c {x : Seen} {ob : Nat} {s : ByteArray} {n : Int} {σ : Store} (hb : σ.heap ob = some (.cells [.lit (.string s), vInt n])) (hx : SeenSm x) : ACalls Tryz.prog 107 [sSeen x, .ref ob 0] σ fun v σ' => v = vB (hasX x s n) ∧ σ = σ' := by
  have hl := hx.more
  refine ACalls_of Tryz.func107 rfl Tryz.ntmps107 (congrArg Array.toList Tryz.results107) (by simp only [List.length_cons, List.length_nil]; decide) ?_; simp only [envOf_cons, envOf_nil, Nat.reduceAdd]
  refine awp_seq ?_
  have R := hb
  refine awp_region (by kernel_rfl) ?_
  refine aL_box rfl rfl rfl v_ rfl g_ fun o2 ho2 => ?_
  repeat (rw [none_set_iff] at ho2; obtain ⟨_, ho2⟩ := ho2)
  (refine aL_S rfl rfl v_ ?_)
  refine aL_nil ?_
  have nb := ne_of_heap hb ho2
  refine awp_seq ?_
  have R := hb
  refine awp_region (by kernel_rfl) ?_
  iterate 6 (refine aL_S rfl rfl v_ ?_)
  refine aL_GT rfl rfl v_ rfl vg_ ?_
  refine aL_GT rfl rfl v_ rfl vg_ ?_
  refine aL_GT rfl rfl v_ rfl vg_ ?_
  refine aL_GT rfl rfl v_ rfl vg_ ?_
  refine aL_GGT rfl rfl v_ rfl vg_ ?_
  refine aL_GGT rfl rfl v_ rfl vg_ ?_
  refine aL_GGT rfl rfl v_ rfl vg_ ?_
  refine aL_GGT rfl rfl v_ rfl vg_ ?_
  refine aL_GGT rfl rfl v_ rfl vg_ ?_
  refine aL_GT rfl rfl v_ rfl vg_ ?_
  refine aL_GT rfl rfl v_ rfl vg_ ?_
  refine aL_GGF rfl rfl v_ rfl vg_ ?_
  refine aL_GGF rfl rfl v_ rfl vg_ ?_
  refine aL_GGF rfl rfl v_ rfl vg_ ?_
  refine aL_GGF rfl rfl v_ rfl vg_ ?_
  refine aL_GGFX rfl rfl v_ rfl (fun hb => AOp_useV (by rfl) (by rfl) (.inr ⟨by rfl, by rfl, by rfl⟩) g_ cg_ (contains_c hl)) ?_
  refine aL_GT rfl rfl v_ rfl vg_ ?_
  iterate 2 (refine aL_S rfl rfl v_ ?_)
  refine aL_nil ?_
  refine awp_ret ?_
  refine aEnd_ret (σ' := σ) v_ sub_ ?_
  refine ⟨?_, rfl⟩
  try unfold hasX
  by_cases h1 : x.node = s <;> by_cases h2 : 0 < n <;> by_cases h3 : n ≤ x.base <;> simp [h1, h2, h3]
theorem indexSeen_c {c : List Seen} {ob : Nat} {s : ByteArray} {n : Int} {t : Bool} {σ : Store} (hb : σ.heap ob = some (.cells [.lit (.string s), vInt n])) (hx : ∀ x ∈ c, SeenSm x) (hn : c.length ≤ 1000000) : ACalls Tryz.prog 129 [.sl 3 (c.map sSeen) t, .fn (.func 107) [] [.ref ob 0]] σ fun v σ' => (∃ r, v = vInt r ∧ decide (0 ≤ r) = hasS c s n) ∧ σ = σ' := by
  refine ACalls_of Tryz.func129 rfl Tryz.ntmps129 (congrArg Array.toList Tryz.results129) (by simp only [List.length_cons, List.length_nil]; decide) ?_; simp only [envOf_cons, envOf_nil, Nat.reduceAdd]
  refine awp_seq ?_
  refine awp_region (by kernel_rfl) ?_
  (refine aL_S rfl rfl v_ ?_)
  refine aL_nil ?_
  refine awp_seq ?_
  refine awp_seq ?_
  refine awp_region (by kernel_rfl) ?_
  iterate 3 (refine aL_S rfl rfl v_ ?_)
  refine aL_nil ?_
  refine awp_block ?_
  refine awp_loop_env (ι := Nat) (fun k => c.length - k) (fun k => k ≤ c.length ∧ (c.take k).any (fun x => hasX x s n) = false) (fun k => [(0, .sl 3 (c.map sSeen) t), (1, .fn (.func 107) [] [.ref ob 0]), (7, vInt c.length), (8, vInt k)]) (fun k => σ) 0 ?_ ?_ ?_ ?_
  · exact ⟨Nat.zero_le _, rfl⟩
  · exact cv_
  · exact sub_
  rintro k ⟨hk, ha⟩
  simp only [envL_cons, envL_nil]
  refine awp_seq ?_
  refine awp_region (by kernel_rfl) ?_
  (refine aL_S rfl rfl v_ ?_)
  refine aL_nil ?_
  refine awp_seq ?_
  refine awp_cond v_ (fun hc2 => ?_) (fun hc2 => ?_)
  · replace hc2 := nm_ hc2
    refine awp_skip ?_
    refine awp_seq ?_
    refine awp_block ?_
    refine awp_seq ?_
    obtain ⟨x, hxk⟩ := get_some (l := c) (k := k) (by omega)
    have hsx := hx x (List.mem_of_getElem? hxk)
    refine awp_region (by kernel_rfl) ?_
    iterate 2 (refine aL_S rfl rfl v_ ?_)
    refine aL_nil ?_
    refine awp_seq ?_
    have R := hxk
    refine awp_region (by kernel_rfl) ?_
    iterate 5 (refine aL_S rfl rfl v_ ?_)
    refine aL_X rfl rfl (AOp_use rfl rfl (.inl v_) g_ va_ (has1_c hb hsx) ?_); rintro _ _ ⟨rfl, rfl⟩
    refine aL_nil ?_
    refine awp_cond v_ (fun hc4 => ?_) (fun hc4 => ?_)
    · replace hc4 := nm_ hc4
      refine awp_seq ?_
      refine awp_region (by kernel_rfl) ?_
      iterate 2 (refine aL_S rfl rfl v_ ?_)
      refine aL_nil ?_
      refine awp_ret ?_
      refine aEnd_ret (σ' := σ) v_ sub_ ?_
      exact ⟨⟨(k : Int), rfl, by rw [decide_eq_true (by omega)]; exact (any_yes hxk (by simpa using hc4)).symm⟩, rfl⟩
    · replace hc4 := nm_ hc4
      refine awp_skip ?_
      refine awp_region (by kernel_rfl) ?_
      iterate 2 (refine aL_S rfl rfl v_ ?_)
      refine aL_nil ?_
      refine aNext (ι := Nat) (i := k) (k + 1) ?_ ?_ ?_ ?_
      · omega
      · exact ⟨by omega, any_next hxk (by simpa using hc4) ha⟩
      · exact cv_
      · exact sub_
  · replace hc2 := nm_ hc2
    refine awp_exit ?_
    refine aThen_exit ?_
    refine aThen_exit ?_
    refine aBlock_hit ?_
    refine awp_seq ?_
    refine awp_region (by kernel_rfl) ?_
    (refine aL_S rfl rfl v_ ?_)
    refine aL_nil ?_
    refine awp_ret ?_
    refine aEnd_ret (σ' := σ) v_ sub_ ?_
    exact ⟨⟨-1, rfl, (any_end (by omega) ha).symm⟩, rfl⟩
theorem containsSeen_c {c : List Seen} {ob : Nat} {s : ByteArray} {n : Int} {t : Bool} {σ : Store} (hb : σ.heap ob = some (.cells [.lit (.string s), vInt n])) (hx : ∀ x ∈ c, SeenSm x) (hn : c.length ≤ 1000000) : ACalls Tryz.prog 106 [.sl 3 (c.map sSeen) t, .fn (.func 107) [] [.ref ob 0]] σ fun v σ' => v = vB (hasS c s n) ∧ σ = σ' := by
  refine ACalls_of Tryz.func106 rfl Tryz.ntmps106 (congrArg Array.toList Tryz.results106) (by simp only [List.length_cons, List.length_nil]; decide) ?_; simp only [envOf_cons, envOf_nil, Nat.reduceAdd]
  refine awp_seq ?_
  refine awp_region (by kernel_rfl) ?_
  (refine aL_S rfl rfl v_ ?_)
  refine aL_nil ?_
  refine awp_seq ?_
  refine awp_region (by kernel_rfl) ?_
  iterate 2 (refine aL_S rfl rfl v_ ?_)
  refine aL_X rfl rfl (AOp_use rfl rfl (.inr ⟨rfl, rfl, rfl⟩) g_ va_ (indexSeen_c hb hx hn) ?_); rintro _ _ ⟨⟨r, rfl, hr⟩, rfl⟩
  iterate 2 (refine aL_S rfl rfl v_ ?_)
  refine aL_nil ?_
  refine awp_ret ?_
  refine aEnd_ret (σ' := σ) v_ sub_ ?_
  exact ⟨by rw [← hr], rfl⟩
theorem has_c {c : List Seen} {s : ByteArray} {n : Int} {t : Bool} {σ : Store} (hx : ∀ x ∈ c, SeenSm x) (hn : c.length ≤ 1000000) : ACalls Tryz.prog 68 [.sl 3 (c.map sSeen) t, sDot s n] σ fun v σ' => v = vB (hasS c s n) ∧ σ = σ' := by
  refine ACalls_of Tryz.func68 rfl Tryz.ntmps68 (congrArg Array.toList Tryz.results68) (by simp only [List.length_cons, List.length_nil]; decide) ?_; simp only [envOf_cons, envOf_nil, Nat.reduceAdd]
  refine awp_seq ?_
  refine awp_region (by kernel_rfl) ?_
  refine aL_box rfl rfl rfl v_ rfl g_ fun o3 ho3 => ?_
  repeat (rw [none_set_iff] at ho3; obtain ⟨_, ho3⟩ := ho3)
  (refine aL_S rfl rfl v_ ?_)
  refine aL_nil ?_
  refine awp_seq ?_
  refine awp_region (by kernel_rfl) ?_
  iterate 2 (refine aL_S rfl rfl v_ ?_)
  refine aL_X rfl rfl (AOp_use rfl rfl (.inr ⟨rfl, rfl, rfl⟩) g_ va_ (containsSeen_c (Store.set_get ..) hx hn) ?_); rintro _ _ ⟨rfl, rfl⟩
  (refine aL_S rfl rfl v_ ?_)
  refine aL_nil ?_
  refine awp_ret ?_
  refine aEnd_ret (σ' := σ) v_ sub_ ?_
  exact ⟨rfl, rfl⟩
theorem rHas_c {c : List Seen} {s : ByteArray} {n : Int} {t : Bool} {σ : Store} (hx : ∀ x ∈ c, SeenSm x) (hn : c.length ≤ 1000000) : ACalls Tryz.prog 82 [.sl 3 (c.map sSeen) t, sDot s n] σ fun v σ' => v = vB (hasS c s n) ∧ σ = σ' := by
  refine ACalls_of Tryz.func82 rfl Tryz.ntmps82 (congrArg Array.toList Tryz.results82) (by simp only [List.length_cons, List.length_nil]; decide) ?_; simp only [envOf_cons, envOf_nil, Nat.reduceAdd]
  refine awp_seq ?_
  refine awp_region (by kernel_rfl) ?_
  refine aL_box rfl rfl rfl v_ rfl g_ fun o3 ho3 => ?_
  repeat (rw [none_set_iff] at ho3; obtain ⟨_, ho3⟩ := ho3)
  (refine aL_S rfl rfl v_ ?_)
  refine aL_nil ?_
  refine awp_seq ?_
  refine awp_seq ?_
  refine awp_region (by kernel_rfl) ?_
  (refine aL_S rfl rfl v_ ?_)
  refine aL_nil ?_
  refine awp_block ?_
  refine awp_loop_env (ι := Nat) (fun k => c.length - k) (fun k => k ≤ c.length ∧ (c.take k).any (fun x => hasX x s n) = false) (fun k => [(0, .sl 3 (c.map sSeen) t), (3, .ref o3 0), (5, vInt k)]) (fun k => (σ.set o3 (.cells [.lit (.string s), vInt n]))) 0 ?_ ?_ ?_ ?_
  · exact ⟨Nat.zero_le _, rfl⟩
  · exact cv_
  · exact Store.Wk.refl _
  rintro k ⟨hk, ha⟩
  simp only [envL_cons, envL_nil]
  refine awp_seq ?_
  refine awp_seq ?_
  refine awp_region (by kernel_rfl) ?_
  iterate 4 (refine aL_S rfl rfl v_ ?_)
  refine aL_nil ?_
  refine awp_cond v_ (fun hc2 => ?_) (fun hc2 => ?_)
  · replace hc2 := nm_ hc2
    refine awp_skip ?_
    refine awp_seq ?_
    refine awp_block ?_
    refine awp_seq ?_
    obtain ⟨x, hxk⟩ := get_some (l := c) (k := k) (by omega)
    have hsx := hx x (List.mem_of_getElem? hxk)
    have hlx := hsx.more
    have R := hxk
    refine awp_draw (.op 0 0 (.op 1 0 (.op 2 0 (.op 3 0 (.op 4 0 (.op 5 0 (.op 6 0 (.op 7 0 (.op 8 0 (.op 9 0 (.op 10 0 (.op 11 0 (.op 12 0 (.op 13 0 (.op 14 0 (.op 15 0 (.op 16 0 (.op 17 0 (.op 18 0 (.op 19 0 (.op 20 0 (.op 21 0 (.op 22 0 (.op 23 0 (.op 24 0 (.op 25 0 (.op 26 0 (.op 27 0 (.op 28 0 (.op 29 0 (.op 30 1 (.op 31 0 (.op 32 0 .nil))))))))))))))))))))))))))))))))) Tryz.mixed (by kernel_rfl) ?_
    iterate 9 (refine dR_S o_ (by rfl) (by rfl) v_ ?_)
    refine dR_GT o_ (by rfl) (by rfl) v_ (by rfl) vg_ ?_
    refine dR_GT o_ (by rfl) (by rfl) v_ (by rfl) vg_ ?_
    refine dR_GT o_ (by rfl) (by rfl) v_ (by rfl) vg_ ?_
    refine dR_GT o_ (by rfl) (by rfl) v_ (by rfl) vg_ ?_
    refine dR_GGT o_ (by rfl) (by rfl) v_ (by rfl) vg_ ?_
    refine dR_GGT o_ (by rfl) (by rfl) v_ (by rfl) vg_ ?_
    refine dR_GGT o_ (by rfl) (by rfl) v_ (by rfl) vg_ ?_
    refine dR_GGT o_ (by rfl) (by rfl) v_ (by rfl) vg_ ?_
    refine dR_GGT o_ (by rfl) (by rfl) v_ (by rfl) vg_ ?_
    refine dR_GGT o_ (by rfl) (by rfl) v_ (by rfl) vg_ ?_
    refine dR_GGT o_ (by rfl) (by rfl) v_ (by rfl) vg_ ?_
    refine dR_GGT o_ (by rfl) (by rfl) v_ (by rfl) vg_ ?_
    refine dR_GT o_ (by rfl) (by rfl) v_ (by rfl) vg_ ?_
    refine dR_GT o_ (by rfl) (by rfl) v_ (by rfl) vg_ ?_
    refine dR_GGF o_ (by rfl) (by rfl) v_ (by rfl) vg_ ?_
    refine dR_GGF o_ (by rfl) (by rfl) v_ (by rfl) vg_ ?_
    refine dR_GGF o_ (by rfl) (by rfl) v_ (by rfl) vg_ ?_
    refine dR_GGF o_ (by rfl) (by rfl) v_ (by rfl) vg_ ?_
    refine dR_GGF o_ (by rfl) (by rfl) v_ (by rfl) vg_ ?_
    refine dR_GGF o_ (by rfl) (by rfl) v_ (by rfl) vg_ ?_
    refine dR_GGF o_ (by rfl) (by rfl) v_ (by rfl) vg_ ?_
    refine dR_GGFX o_ (by rfl) (by rfl) v_ (by rfl) sub_ (fun hb => AOp_useV (by rfl) (by rfl) (.inr ⟨by rfl, by rfl, by rfl⟩) g_ cg_ (rIn_c hlx)) ?_
    refine dR_GT o_ (by rfl) (by rfl) v_ (by rfl) vg_ ?_
    (refine dR_S o_ (by rfl) (by rfl) v_ ?_)
    refine dR_nil ?_
    refine awp_cond v_ (fun hc4 => ?_) (fun hc4 => ?_)
    · replace hc4 := nm_ hc4
      skip
      have hxf : hasX x s n = true := by
        simp only [hasX]
        simpa using hc4
      refine awp_seq ?_
      refine awp_region (by kernel_rfl) ?_
      (refine aL_S rfl rfl v_ ?_)
      refine aL_nil ?_
      refine awp_ret ?_
      refine aEnd_ret (σ' := σ) v_ sub_ ?_
      exact ⟨by rw [hasS, any_yes hxk hxf], rfl⟩
    · replace hc4 := nm_ hc4
      skip
      have hxf : hasX x s n = false := hasX_no hc4
      refine awp_skip ?_
      refine awp_region (by kernel_rfl) ?_
      iterate 3 (refine aL_S rfl rfl v_ ?_)
      refine aL_nil ?_
      refine aNext (ι := Nat) (i := k) (k + 1) ?_ ?_ ?_ ?_
      · omega
      · exact ⟨by omega, any_next hxk hxf ha⟩
      · exact cv_
      · exact Store.Wk.refl _
  · replace hc2 := nm_ hc2
    refine awp_exit ?_
    refine aThen_exit ?_
    refine aThen_exit ?_
    refine aBlock_hit ?_
    refine awp_seq ?_
    refine awp_region (by kernel_rfl) ?_
    (refine aL_S rfl rfl v_ ?_)
    refine aL_nil ?_
    refine awp_ret ?_
    refine aEnd_ret (σ' := σ) v_ sub_ ?_
    exact ⟨by rw [hasS, any_end (by omega) ha], rfl⟩

/-! ### held against each other -/
theorem cmpB_eq : ∀ (l m : List UInt8), Lib.compareBytes l m = if Op.bytesLess l m then -1 else if l = m then 0 else 1
  | [], [] => rfl
  | [], _ :: _ => rfl
  | _ :: _, [] => rfl
  | a :: l, b :: m => by
    rw [Lib.compareBytes, Op.bytesLess, cmpB_eq l m]
    by_cases h1 : a < b
    · simp [h1]
    · by_cases h2 : b < a
      · have h3 : a ≠ b := fun h => by rw [h] at h2; exact absurd h2 (UInt8.lt_irrefl _)
        simp [h1, h2, h3]
      · have h3 : a = b := UInt8.le_antisymm (UInt8.not_lt.1 h2) (UInt8.not_lt.1 h1)
        subst h3
        simp [h1]
def cmpS (a b : ByteArray) : Int := if sLt a b then -1 else if a = b then 0 else 1
def cmpI (a b : Int) : Int := if a < b then -1 else if b < a then 1 else 0
def cmpD (s : ByteArray) (n : Int) (s' : ByteArray) (n' : Int) : Int := if cmpS s s' ≠ 0 then cmpS s s' else cmpI n n'
theorem cmpS_eq (a b : ByteArray) : Lib.compareBytes a.data.toList b.data.toList = cmpS a b := by
  rw [cmpB_eq, cmpS, sLt, Lib.toList_data, Lib.toList_data]
  congr 1
  by_cases h : a = b
  · subst h; simp
  · have : ¬ a.data.toList = b.data.toList := fun hh => h (by apply ByteArray.ext; exact Array.toList_inj.1 hh)
    rw [if_neg h, if_neg this]
theorem cmpStr_rv {κ : K} {α : Operand → AVal} {x y : Operand} {ev : Operand → Value} {a b : ByteArray} (hx : α x = vStr a) (hy : α y = vStr b) (h : ∀ z ∈ #[x, y], Rv κ (α z) (ev z)) : ∃ cv, (Extern.BytealgCompare.compare (#[x, y].map ev)).run Tryz.prog κ.w = .ok cv κ.w ∧ Rv κ (vInt (cmpS a b)) cv := by
  have h1 := h x (by simp); have h2 := h y (by simp)
  rw [hx] at h1
  rw [hy] at h2
  refine ⟨_, ?_, .lit _⟩
  rw [show #[x, y].map ev = #[ev x, ev y] from by simp, h1.litInv, h2.litInv, ← cmpS_eq]
  exact Lib.run_compareString a b κ.w
theorem compareString_c {a b : ByteArray} {σ : Store} : ACalls Tryz.prog 145 [vStr a, vStr b] σ fun v σ' => v = vInt (cmpS a b) ∧ σ = σ' := by
  refine ACalls_of Tryz.func145 rfl Tryz.ntmps145 (congrArg Array.toList Tryz.results145) (by simp only [List.length_cons, List.length_nil]; decide) ?_; simp only [envOf_cons, envOf_nil, Nat.reduceAdd]
  refine awp_seq ?_
  refine awp_region (by kernel_rfl) ?_
  (refine aL_S rfl rfl v_ ?_)
  refine aL_nil ?_
  refine awp_seq ?_
  refine awp_region (by kernel_rfl) ?_
  iterate 2 (refine aL_S rfl rfl v_ ?_)
  refine aL_X rfl rfl (AOp_extern rfl (e := Extern.BytealgCompare.compare) (by kernel_rfl) g_ (fun κ ev _ h => cmpStr_rv (a := a) (b := b) va_ va_ h) ?_)
  (refine aL_S rfl rfl v_ ?_)
  refine aL_nil ?_
  refine awp_ret ?_
  refine aEnd_ret (σ' := σ) v_ sub_ ?_
  exact ⟨rfl, rfl⟩
theorem strCompare_c {a b : ByteArray} {σ : Store} : ACalls Tryz.prog 132 [vStr a, vStr b] σ fun v σ' => v = vInt (cmpS a b) ∧ σ = σ' := by
  refine ACalls_of Tryz.func132 rfl Tryz.ntmps132 (congrArg Array.toList Tryz.results132) (by simp only [List.length_cons, List.length_nil]; decide) ?_; simp only [envOf_cons, envOf_nil, Nat.reduceAdd]
  refine awp_seq ?_
  refine awp_region (by kernel_rfl) ?_
  (refine aL_S rfl rfl v_ ?_)
  refine aL_nil ?_
  refine awp_seq ?_
  refine awp_region (by kernel_rfl) ?_
  iterate 2 (refine aL_S rfl rfl v_ ?_)
  refine aL_X rfl rfl (AOp_use rfl rfl (.inr ⟨rfl, rfl, rfl⟩) g_ va_ (compareString_c) ?_); rintro _ _ ⟨rfl, rfl⟩
  (refine aL_S rfl rfl v_ ?_)
  refine aL_nil ?_
  refine awp_ret ?_
  refine aEnd_ret (σ' := σ) v_ sub_ ?_
  exact ⟨rfl, rfl⟩
theorem isNaN_c {n : Int} {σ : Store} : ACalls Tryz.prog 146 [vInt n] σ fun v σ' => v = vB false ∧ σ = σ' := by
  refine ACalls_of Tryz.func146 rfl Tryz.ntmps146 (congrArg Array.toList Tryz.results146) (by simp only [List.length_cons, List.length_nil]; decide) ?_; simp only [envOf_cons, envOf_nil, Nat.reduceAdd]
  refine awp_seq ?_
  refine awp_region (by kernel_rfl) ?_
  (refine aL_S rfl rfl v_ ?_)
  refine aL_nil ?_
  refine awp_seq ?_
  refine awp_region (by kernel_rfl) ?_
  iterate 4 (refine aL_S rfl rfl v_ ?_)
  refine aL_nil ?_
  refine awp_ret ?_
  refine aEnd_ret (σ' := σ) v_ sub_ ?_
  exact ⟨by simp, rfl⟩
theorem intCompare_c {a b : Int} {σ : Store} : ACalls Tryz.prog 133 [vInt a, vInt b] σ fun v σ' => v = vInt (cmpI a b) ∧ σ = σ' := by
  refine ACalls_of Tryz.func133 rfl Tryz.ntmps133 (congrArg Array.toList Tryz.results133) (by simp only [List.length_cons, List.length_nil]; decide) ?_; simp only [envOf_cons, envOf_nil, Nat.reduceAdd]
  refine awp_seq ?_
  refine awp_region (by kernel_rfl) ?_
  (refine aL_S rfl rfl v_ ?_)
  refine aL_nil ?_
  refine awp_seq ?_
  refine awp_region (by kernel_rfl) ?_
  (refine aL_S rfl rfl v_ ?_)
  refine aL_X rfl rfl (AOp_use rfl rfl (.inr ⟨rfl, rfl, rfl⟩) g_ va_ (isNaN_c) ?_); rintro _ _ ⟨rfl, rfl⟩
  (refine aL_S rfl rfl v_ ?_)
  refine aL_nil ?_
  refine awp_seq ?_
  refine awp_region (by kernel_rfl) ?_
  (refine aL_S rfl rfl v_ ?_)
  refine aL_X rfl rfl (AOp_use rfl rfl (.inr ⟨rfl, rfl, rfl⟩) g_ va_ (isNaN_c) ?_); rintro _ _ ⟨rfl, rfl⟩
  (refine aL_S rfl rfl v_ ?_)
  refine aL_nil ?_
  refine awp_seq ?_
  refine awp_seq ?_
  refine awp_region (by kernel_rfl) ?_
  (refine aL_S rfl rfl v_ ?_)
  refine aL_nil ?_
  refine awp_cond v_ (fun hc3 => ?_) (fun hc3 => ?_)
  · replace hc3 := nm_ hc3
    cases hc3
  · replace hc3 := nm_ hc3
    refine awp_skip ?_
    refine awp_seq ?_
    refine awp_seq ?_
    refine awp_region (by kernel_rfl) ?_
    (refine aL_S rfl rfl v_ ?_)
    refine aL_nil ?_
    refine awp_cond v_ (fun hc7 => ?_) (fun hc7 => ?_)
    · replace hc7 := nm_ hc7
      cases hc7
    · replace hc7 := nm_ hc7
      refine awp_skip ?_
      refine awp_seq ?_
      refine awp_seq ?_
      refine awp_region (by kernel_rfl) ?_
      iterate 3 (refine aL_S rfl rfl v_ ?_)
      refine aL_nil ?_
      refine awp_cond v_ (fun hc9 => ?_) (fun hc9 => ?_)
      · replace hc9 := nm_ hc9
        refine awp_seq ?_
        refine awp_region (by kernel_rfl) ?_
        (refine aL_S rfl rfl v_ ?_)
        refine aL_nil ?_
        refine awp_ret ?_
        refine aEnd_ret (σ' := σ) v_ sub_ ?_
        exact ⟨by rw [cmpI, if_pos hc9], rfl⟩
      · replace hc9 := nm_ hc9
        refine awp_skip ?_
        refine awp_seq ?_
        refine awp_seq ?_
        refine awp_region (by kernel_rfl) ?_
        iterate 3 (refine aL_S rfl rfl v_ ?_)
        refine aL_nil ?_
        refine awp_cond v_ (fun hc11 => ?_) (fun hc11 => ?_)
        · replace hc11 := nm_ hc11
          refine awp_seq ?_
          refine awp_region (by kernel_rfl) ?_
          (refine aL_S rfl rfl v_ ?_)
          refine aL_nil ?_
          refine awp_ret ?_
          refine aEnd_ret (σ' := σ) v_ sub_ ?_
          exact ⟨by rw [cmpI, if_neg (by omega), if_pos hc11], rfl⟩
        · replace hc11 := nm_ hc11
          refine awp_skip ?_
          refine awp_seq ?_
          refine awp_region (by kernel_rfl) ?_
          (refine aL_S rfl rfl v_ ?_)
          refine aL_nil ?_
          refine awp_ret ?_
          refine aEnd_ret (σ' := σ) v_ sub_ ?_
          exact ⟨by rw [cmpI, if_neg (by omega), if_neg (by omega)], rfl⟩
theorem or2_c {a b : Int} {t : Bool} {σ : Store} : ACalls Tryz.prog 131 [.sl 1 [vInt a, vInt b] t] σ fun v σ' => v = vInt (if a ≠ 0 then a else b) ∧ σ = σ' := by
  refine ACalls_of Tryz.func131 rfl Tryz.ntmps131 (congrArg Array.toList Tryz.results131) (by simp only [List.length_cons, List.length_nil]; decide) ?_; simp only [envOf_cons, envOf_nil, Nat.reduceAdd]
  refine awp_seq ?_
  refine awp_region (by kernel_rfl) ?_
  (refine aL_S rfl rfl v_ ?_)
  refine aL_nil ?_
  refine awp_seq ?_
  refine awp_region (by kernel_rfl) ?_
  (refine aL_S rfl rfl v_ ?_)
  refine aL_nil ?_
  refine awp_seq ?_
  refine awp_seq ?_
  refine awp_region (by kernel_rfl) ?_
  iterate 3 (refine aL_S rfl rfl v_ ?_)
  refine aL_nil ?_
  refine awp_block ?_
  refine awp_loop_env (ι := Nat) (fun k => 2 - k) (fun k => k ≤ 2 ∧ (1 ≤ k → a = 0) ∧ (2 ≤ k → b = 0)) (fun k => [(3, vInt 0), (6, .sl 1 [vInt a, vInt b] t), (7, vInt 2), (8, vInt k)]) (fun k => σ) 0 ?_ ?_ ?_ ?_
  · exact ⟨Nat.zero_le _, fun h => by omega, fun h => by omega⟩
  · exact cv_
  · exact sub_
  rintro k ⟨hk, h1, h2⟩
  simp only [envL_cons, envL_nil]
  refine awp_seq ?_
  refine awp_region (by kernel_rfl) ?_
  (refine aL_S rfl rfl v_ ?_)
  refine aL_nil ?_
  refine awp_seq ?_
  refine awp_cond v_ (fun hc3 => ?_) (fun hc3 => ?_)
  · replace hc3 := nm_ hc3
    refine awp_skip ?_
    refine awp_seq ?_
    refine awp_block ?_
    refine awp_seq ?_
    skip
    obtain ⟨x, hxk, hx0, hx1⟩ : ∃ x, [vInt a, vInt b][k]? = some (vInt x) ∧ (k = 0 → x = a) ∧ (k = 1 → x = b) := by
      match k, (show k < 2 by omega) with
      | 0, _ => exact ⟨a, rfl, fun _ => rfl, fun h => by cases h⟩
      | 1, _ => exact ⟨b, rfl, (fun h => by cases h), fun _ => rfl⟩
    have R := hxk
    refine awp_region (by kernel_rfl) ?_
    iterate 3 (refine aL_S rfl rfl v_ ?_)
    refine aL_nil ?_
    refine awp_seq ?_
    refine awp_region (by kernel_rfl) ?_
    iterate 3 (refine aL_S rfl rfl v_ ?_)
    refine aL_nil ?_
    refine awp_cond v_ (fun hc5 => ?_) (fun hc5 => ?_)
    · replace hc5 := nm_ hc5
      refine awp_seq ?_
      refine awp_region (by kernel_rfl) ?_
      iterate 2 (refine aL_S rfl rfl v_ ?_)
      refine aL_nil ?_
      refine awp_ret ?_
      refine aEnd_ret (σ' := σ) v_ sub_ ?_
      refine ⟨?_, rfl⟩
      rcases Nat.lt_or_ge k 1 with h | h
      · obtain rfl := hx0 (by omega)
        rw [if_pos hc5]
      · obtain rfl := hx1 (by omega)
        rw [if_neg (by rw [h1 h]; simp)]
    · replace hc5 := nm_ hc5
      have hs1 : a = 0 := by rcases Nat.lt_or_ge k 1 with h | h; exact (hx0 (by omega)) ▸ hc5; exact h1 h
      have hs2 : 2 ≤ k + 1 → b = 0 := fun h => (hx1 (by omega)) ▸ hc5
      refine awp_skip ?_
      refine awp_region (by kernel_rfl) ?_
      iterate 2 (refine aL_S rfl rfl v_ ?_)
      refine aL_nil ?_
      refine aNext (ι := Nat) (i := k) (k + 1) ?_ ?_ ?_ ?_
      · omega
      · exact ⟨by omega, fun _ => hs1, fun h => hs2 h⟩
      · exact cv_
      · exact sub_
  · replace hc3 := nm_ hc3
    refine awp_exit ?_
    refine aThen_exit ?_
    refine aThen_exit ?_
    refine aBlock_hit ?_
    refine awp_seq ?_
    refine awp_region (by kernel_rfl) ?_
    iterate 2 (refine aL_S rfl rfl v_ ?_)
    refine aL_nil ?_
    refine awp_ret ?_
    refine aEnd_ret (σ' := σ) v_ sub_ ?_
    refine ⟨?_, rfl⟩
    rw [if_neg (by rw [h1 (by omega)]; simp), h2 (by omega)]
theorem compare_c {s s' : ByteArray} {n n' : Int} {σ : Store} : ACalls Tryz.prog 109 [sDot s n, sDot s' n'] σ fun v σ' => v = vInt (cmpD s n s' n') ∧ σ = σ' := by
  refine ACalls_of Tryz.func109 rfl Tryz.ntmps109 (congrArg Array.toList Tryz.results109) (by simp only [List.length_cons, List.length_nil]; decide) ?_; simp only [envOf_cons, envOf_nil, Nat.reduceAdd]
  refine awp_seq ?_
  refine awp_region (by kernel_rfl) ?_
  refine aL_box rfl rfl rfl v_ rfl g_ fun o2 ho2 => ?_
  repeat (rw [none_set_iff] at ho2; obtain ⟨_, ho2⟩ := ho2)
  refine aL_box rfl rfl rfl v_ rfl g_ fun o3 ho3 => ?_
  repeat (rw [none_set_iff] at ho3; obtain ⟨_, ho3⟩ := ho3)
  (refine aL_S rfl rfl v_ ?_)
  refine aL_nil ?_
  refine awp_seq ?_
  refine awp_draw (.op 0 0 (.op 1 0 (.op 2 0 (.op 3 0 (.op 5 0 (.op 6 0 (.op 7 0 (.op 8 0 (.op 4 1 (.op 9 1 (.op 10 1 (.op 11 1 (.op 12 0 .nil))))))))))))) Tryz.mixed (by kernel_rfl) ?_
  iterate 8 (refine dR_S o_ (by rfl) (by rfl) v_ ?_)
  refine dR_X o_ (by rfl) (by rfl) (AOp_use (by rfl) (by rfl) (.inr ⟨by rfl, by rfl, by rfl⟩) g_ va_ (strCompare_c) ?_); rintro _ _ ⟨rfl, rfl⟩; refine ⟨sub_, ?_⟩
  refine dR_X o_ (by rfl) (by rfl) (AOp_use (by rfl) (by rfl) (.inr ⟨by rfl, by rfl, by rfl⟩) g_ va_ (intCompare_c) ?_); rintro _ _ ⟨rfl, rfl⟩; refine ⟨sub_, ?_⟩
  refine dR_X o_ (by rfl) (by rfl) (AOp_buildSlice' (by rfl) g_ g_ (by rfl) (by rfl) h_ c2_ (by decide) ⟨sub_, ?_⟩)
  refine dR_X o_ (by rfl) (by rfl) (AOp_use (by rfl) (by rfl) (.inr ⟨by rfl, by rfl, by rfl⟩) g_ va_ (or2_c (a := cmpS s s') (b := cmpI n n')) ?_); rintro _ _ ⟨rfl, rfl⟩; refine ⟨sub_, ?_⟩
  (refine dR_S o_ (by rfl) (by rfl) v_ ?_)
  refine dR_nil ?_
  refine awp_ret ?_
  refine aEnd_ret (σ' := σ) v_ sub_ ?_
  exact ⟨rfl, rfl⟩
theorem order_c {x y : Sib} {σ : Store} : ACalls Tryz.prog 69 [sSib x, sSib y] σ fun v σ' => v = vInt (cmpD x.node x.n y.node y.n) ∧ σ = σ' := by
  refine ACalls_of Tryz.func69 rfl Tryz.ntmps69 (congrArg Array.toList Tryz.results69) (by simp only [List.length_cons, List.length_nil]; decide) ?_; simp only [envOf_cons, envOf_nil, Nat.reduceAdd]
  refine awp_seq ?_
  refine awp_region (by kernel_rfl) ?_
  refine aL_box rfl rfl rfl v_ rfl g_ fun o2 ho2 => ?_
  repeat (rw [none_set_iff] at ho2; obtain ⟨_, ho2⟩ := ho2)
  refine aL_box rfl rfl rfl v_ rfl g_ fun o3 ho3 => ?_
  repeat (rw [none_set_iff] at ho3; obtain ⟨_, ho3⟩ := ho3)
  (refine aL_S rfl rfl v_ ?_)
  refine aL_nil ?_
  refine awp_seq ?_
  refine awp_region (by kernel_rfl) ?_
  iterate 4 (refine aL_S rfl rfl v_ ?_)
  refine aL_X rfl rfl (AOp_use rfl rfl (.inr ⟨rfl, rfl, rfl⟩) g_ va_ (compare_c) ?_); rintro _ _ ⟨rfl, rfl⟩
  (refine aL_S rfl rfl v_ ?_)
  refine aL_nil ?_
  refine awp_ret ?_
  refine aEnd_ret (σ' := σ) v_ sub_ ?_
  exact ⟨rfl, rfl⟩
def lessD (s : ByteArray) (n : Int) (s' : ByteArray) (n' : Int) : Bool := sLt s s' || (decide (s = s') && decide (n < n'))
theorem rLess_c {s s' : ByteArray} {n n' : Int} {σ : Store} : ACalls Tryz.prog 83 [sDot s n, sDot s' n'] σ fun v σ' => v = vB (lessD s n s' n') ∧ σ = σ' := by
  refine ACalls_of Tryz.func83 rfl Tryz.ntmps83 (congrArg Array.toList Tryz.results83) (by simp only [List.length_cons, List.length_nil]; decide) ?_; simp only [envOf_cons, envOf_nil, Nat.reduceAdd]
  refine awp_seq ?_
  refine awp_region (by kernel_rfl) ?_
  refine aL_box rfl rfl rfl v_ rfl g_ fun o2 ho2 => ?_
  repeat (rw [none_set_iff] at ho2; obtain ⟨_, ho2⟩ := ho2)
  refine aL_box rfl rfl rfl v_ rfl g_ fun o3 ho3 => ?_
  repeat (rw [none_set_iff] at ho3; obtain ⟨_, ho3⟩ := ho3)
  (refine aL_S rfl rfl v_ ?_)
  refine aL_nil ?_
  refine awp_seq ?_
  refine awp_region (by kernel_rfl) ?_
  iterate 6 (refine aL_S rfl rfl v_ ?_)
  refine aL_GF rfl rfl v_ rfl vg_ ?_
  refine aL_GF rfl rfl v_ rfl vg_ ?_
  refine aL_GF rfl rfl v_ rfl vg_ ?_
  refine aL_GF rfl rfl v_ rfl vg_ ?_
  refine aL_GF rfl rfl v_ rfl vg_ ?_
  refine aL_GF rfl rfl v_ rfl vg_ ?_
  refine aL_GGT rfl rfl v_ rfl vg_ ?_
  refine aL_GGT rfl rfl v_ rfl vg_ ?_
  refine aL_GGT rfl rfl v_ rfl vg_ ?_
  refine aL_GGT rfl rfl v_ rfl vg_ ?_
  refine aL_GGT rfl rfl v_ rfl vg_ ?_
  refine aL_GF rfl rfl v_ rfl vg_ ?_
  iterate 2 (refine aL_S rfl rfl v_ ?_)
  refine aL_nil ?_
  refine awp_ret ?_
  refine aEnd_ret (σ' := σ) v_ sub_ ?_
  refine ⟨?_, rfl⟩
  simp only [lessD]
  try (cases h1 : sLt s s' <;> by_cases h2 : s = s' <;> simp [h1, h2])
theorem cmpD_less (s : ByteArray) (n : Int) (s' : ByteArray) (n' : Int) : (cmpD s n s' n' < 0) ↔ lessD s n s' n' = true := by
  unfold cmpD lessD cmpS cmpI
  cases h1 : sLt s s' <;> by_cases h2 : s = s' <;> simp [h2]
  by_cases h3 : n < n' <;> by_cases h4 : n' < n <;> simp [h3, h4]
end Go.Proofs.YtbjloippgpilcaaGreat
end

section
set_option linter.all false
set_option maxRecDepth 100000
namespace Go.Proofs.YtbjloippgpilcaaGreat
open Go.Ab
abbrev vNil : AVal := .lit (.slice none 0 0)
theorem lits_one {α : Type} (f : α → AVal) (h : ∀ x, ∀ c ∈ (f x).cells, c.one = true) (l : List α) : ∀ y ∈ l.map f, ∀ c ∈ y.cells, c.one = true := fun y hy => by
  obtain ⟨x, _, rfl⟩ := List.mem_map.1 hy
  exact h x
theorem lits_sz {α : Type} (f : α → AVal) {n : Nat} (h : ∀ x, (f x).cells.length = n) (l : List α) : ∀ y ∈ l.map f, y.cells.length = n := fun y hy => by
  obtain ⟨x, _, rfl⟩ := List.mem_map.1 hy
  exact h x

def cbk {α : Type} (L1 L2 : List α) (k : Nat) : List α := if k = 0 then [] else if k = 1 then L1 else L1 ++ L2
theorem oneSeen (l : List Seen) : ∀ y ∈ l.map sSeen, ∀ c ∈ y.cells, c.one = true := lits_one sSeen (fun x c hc => by simp [AVal.cells] at hc; (try rcases hc with rfl | rfl | rfl | rfl | rfl); (try rcases hc with rfl | rfl | rfl); (try subst hc); all_goals rfl) l
theorem szSeen (l : List Seen) : ∀ y ∈ l.map sSeen, y.cells.length = 3 := lits_sz sSeen (fun x => rfl) l
theorem growSeen_c {n : Nat} {σ : Store} (hn : n ≤ 1000000000) : ACalls Tryz.prog 149 [vNil, vInt n] σ fun v σ' => CBp σ σ' 3 [] v := by
  refine ACalls_of Tryz.func149 rfl Tryz.ntmps149 (congrArg Array.toList Tryz.results149) (by simp only [List.length_cons, List.length_nil]; decide) ?_; simp only [envOf_cons, envOf_nil, Nat.reduceAdd]
  refine awp_seq ?_
  refine awp_region (by kernel_rfl) ?_
  (refine aL_S rfl rfl v_ ?_)
  refine aL_nil ?_
  refine awp_seq ?_
  refine awp_seq ?_
  refine awp_region (by kernel_rfl) ?_
  iterate 2 (refine aL_S rfl rfl v_ ?_)
  refine aL_nil ?_
  refine awp_cond v_ (fun hc1 => ?_) (fun hc1 => ?_)
  · replace hc1 := nm_ hc1
    omega
  · replace hc1 := nm_ hc1
    refine awp_skip ?_
    refine awp_seq ?_
    refine awp_seq ?_
    refine awp_region (by kernel_rfl) ?_
    iterate 2 (refine aL_S rfl rfl v_ ?_)
    refine aL_X rfl rfl (AOp_capNil rfl g_ va_ ?_)
    iterate 5 (refine aL_S rfl rfl v_ ?_)
    refine aL_nil ?_
    refine awp_seq ?_
    refine awp_region (by kernel_rfl) ?_
    iterate 2 (refine aL_S rfl rfl v_ ?_)
    refine aL_nil ?_
    refine awp_cond v_ (fun hc4 => ?_) (fun hc4 => ?_)
    · replace hc4 := nm_ hc4
      refine awp_region (by kernel_rfl) ?_
      iterate 2 (refine aL_S rfl rfl v_ ?_)
      refine aL_X rfl rfl (AOp_capNil rfl g_ va_ ?_)
      iterate 2 (refine aL_S rfl rfl v_ ?_)
      refine aL_X rfl rfl (AOp_appendMake (n := n) rfl g_ g_ g_ va_ va_ (by omega) (by omega) fun o22 ho22 => ?_)
      iterate 4 (refine aL_S rfl rfl v_ ?_)
      refine aL_nil ?_
      refine awp_seq ?_
      refine awp_region (by kernel_rfl) ?_
      iterate 2 (refine aL_S rfl rfl v_ ?_)
      refine aL_nil ?_
      refine awp_ret ?_
      refine aEnd_ret v_ (Store.Wk.refl _) ?_
      exact .inr ⟨o22, ho22, rfl, rfl⟩
    · replace hc4 := nm_ hc4
      refine awp_skip ?_
      refine awp_seq ?_
      refine awp_region (by kernel_rfl) ?_
      iterate 2 (refine aL_S rfl rfl v_ ?_)
      refine aL_nil ?_
      refine awp_ret ?_
      refine aEnd_ret v_ (Store.Wk.refl _) ?_
      exact .inl ⟨rfl, rfl, rfl⟩
theorem concatSeen_c {L1 L2 : List Seen} {t1 t2 tt : Bool} {σ : Store} (h1 : L1.length ≤ 10000000) (h2 : L2.length ≤ 10000000) :
    ACalls Tryz.prog 140 [.sl 1 [.sl 3 (L1.map sSeen) t1, .sl 3 (L2.map sSeen) t2] tt] σ fun v σ' => CBp σ σ' 3 ((L1 ++ L2).map sSeen) v := by
  refine ACalls_of Tryz.func140 rfl Tryz.ntmps140 (congrArg Array.toList Tryz.results140) (by simp only [List.length_cons, List.length_nil]; decide) ?_; simp only [envOf_cons, envOf_nil, Nat.reduceAdd]
  refine awp_seq ?_
  refine awp_region (by kernel_rfl) ?_
  (refine aL_S rfl rfl v_ ?_)
  refine aL_nil ?_
  refine awp_seq ?_
  refine awp_region (by kernel_rfl) ?_
  (refine aL_S rfl rfl v_ ?_)
  refine aL_nil ?_
  refine awp_seq ?_
  refine awp_seq ?_
  refine awp_region (by kernel_rfl) ?_
  iterate 3 (refine aL_S rfl rfl v_ ?_)
  refine aL_nil ?_
  refine awp_block ?_
  refine awp_loop_env (ι := Nat) (fun k => 2 - k) (fun k => k ≤ 2) (fun k => [(0, .sl 1 [.sl 3 (L1.map sSeen) t1, .sl 3 (L2.map sSeen) t2] tt), (3, vInt ((if k = 0 then 0 else if k = 1 then L1.length else L1.length + L2.length : Nat) : Int)), (9, .sl 1 [.sl 3 (L1.map sSeen) t1, .sl 3 (L2.map sSeen) t2] tt), (10, vInt 2), (11, vInt k)]) (fun k => σ) 0 ?_ ?_ ?_ ?_
  · exact Nat.zero_le _
  · exact cv_
  · exact sub_
  rintro k hk
  simp only [envL_cons, envL_nil]
  refine awp_seq ?_
  refine awp_region (by kernel_rfl) ?_
  (refine aL_S rfl rfl v_ ?_)
  refine aL_nil ?_
  refine awp_seq ?_
  refine awp_cond v_ (fun hc3 => ?_) (fun hc3 => ?_)
  · replace hc3 := nm_ hc3
    refine awp_skip ?_
    refine awp_seq ?_
    refine awp_block ?_
    refine awp_seq ?_
    rcases (show k = 0 ∨ k = 1 by omega) with rfl | rfl
    · refine awp_region (by kernel_rfl) ?_
      iterate 3 (refine aL_S rfl rfl v_ ?_)
      refine aL_nil ?_
      refine awp_seq ?_
      refine awp_region (by kernel_rfl) ?_
      iterate 5 (refine aL_S rfl rfl v_ ?_)
      refine aL_nil ?_
      refine awp_seq ?_
      refine awp_region (by kernel_rfl) ?_
      iterate 2 (refine aL_S rfl rfl v_ ?_)
      refine aL_nil ?_
      refine awp_cond v_ (fun hc6 => ?_) (fun hc6 => ?_)
      · replace hc6 := nm_ hc6
        omega
      · replace hc6 := nm_ hc6
        refine awp_skip ?_
        refine awp_region (by kernel_rfl) ?_
        iterate 2 (refine aL_S rfl rfl v_ ?_)
        refine aL_nil ?_
        refine aNext (ι := Nat) (i := 0) 1 ?_ ?_ ?_ ?_
        · decide
        · decide
        · have R := (show ((0 : Nat) : Int) + (L1.length : Int) = (L1.length : Int) from by omega); exact cv_
        · exact sub_
    · refine awp_region (by kernel_rfl) ?_
      iterate 3 (refine aL_S rfl rfl v_ ?_)
      refine aL_nil ?_
      refine awp_seq ?_
      refine awp_region (by kernel_rfl) ?_
      iterate 5 (refine aL_S rfl rfl v_ ?_)
      refine aL_nil ?_
      refine awp_seq ?_
      refine awp_region (by kernel_rfl) ?_
      iterate 2 (refine aL_S rfl rfl v_ ?_)
      refine aL_nil ?_
      refine awp_cond v_ (fun hc6 => ?_) (fun hc6 => ?_)
      · replace hc6 := nm_ hc6
        omega
      · replace hc6 := nm_ hc6
        refine awp_skip ?_
        refine awp_region (by kernel_rfl) ?_
        iterate 2 (refine aL_S rfl rfl v_ ?_)
        refine aL_nil ?_
        refine aNext (ι := Nat) (i := 1) 2 ?_ ?_ ?_ ?_
        · decide
        · decide
        · exact cv_
        · exact sub_
  · replace hc3 := nm_ hc3
    refine awp_exit ?_
    refine aThen_exit ?_
    refine aThen_exit ?_
    refine aBlock_hit ?_
    refine awp_seq ?_
    obtain rfl : k = 2 := by omega
    refine awp_region (by kernel_rfl) ?_
    (refine aL_S rfl rfl v_ ?_)
    refine aL_X rfl rfl (AOp_use rfl rfl (.inr ⟨rfl, rfl, rfl⟩) g_ va_ (growSeen_c (n := L1.length + L2.length) (by omega)) ?_); rintro _ τ0 hC0
    rename_i b0
    (refine aL_S rfl rfl v_ ?_)
    refine aL_nil ?_
    refine awp_seq ?_
    refine awp_seq ?_
    refine awp_region (by kernel_rfl) ?_
    iterate 3 (refine aL_S rfl rfl v_ ?_)
    refine aL_nil ?_
    refine awp_block ?_
    refine awp_loop_env (ι := Store × AVal × Nat) (fun ⟨τ, b, k⟩ => 2 - k) (fun ⟨τ, b, k⟩ => k ≤ 2 ∧ CBp σ τ 3 ((cbk L1 L2 k).map sSeen) b) (fun ⟨τ, b, k⟩ => [(6, b), (25, .sl 1 [.sl 3 (L1.map sSeen) t1, .sl 3 (L2.map sSeen) t2] tt), (26, vInt 2), (27, vInt k)]) (fun ⟨τ, b, k⟩ => τ) (τ0, b0, 0) ?_ ?_ ?_ ?_
    · exact ⟨Nat.zero_le _, hC0⟩
    · exact cv_
    · exact Store.Wk.refl _
    rintro ⟨τ, b, k⟩ ⟨hk, hC⟩
    simp only [envL_cons, envL_nil]
    refine awp_seq ?_
    refine awp_region (by kernel_rfl) ?_
    (refine aL_S rfl rfl v_ ?_)
    refine aL_nil ?_
    refine awp_seq ?_
    refine awp_cond v_ (fun hc11 => ?_) (fun hc11 => ?_)
    · replace hc11 := nm_ hc11
      refine awp_skip ?_
      refine awp_seq ?_
      refine awp_block ?_
      refine awp_seq ?_
      rcases (show k = 0 ∨ k = 1 by omega) with rfl | rfl
      · refine awp_region (by kernel_rfl) ?_
        iterate 3 (refine aL_S rfl rfl v_ ?_)
        refine aL_nil ?_
        refine awp_region (by kernel_rfl) ?_
        iterate 2 (refine aL_S rfl rfl v_ ?_)
        refine aL_X rfl rfl (AOp_appendC rfl g_ g_ hC va_ (szSeen _) va_ (oneSeen _) (by simp [cbk]; omega) fun a' σ' hC' => ?_)
        (refine aL_S rfl rfl v_ ?_)
        refine aL_nil ?_
        refine awp_region (by kernel_rfl) ?_
        iterate 2 (refine aL_S rfl rfl v_ ?_)
        refine aL_nil ?_
        refine aNext (ι := Store × AVal × Nat) (i := (τ, b, 0)) (σ', a', 1) ?_ ?_ ?_ ?_
        · show 2 - 1 < 2 - 0; decide
        · exact ⟨by show 1 ≤ 2; decide, by simpa [cbk] using hC'⟩
        · exact cv_
        · exact Store.Wk.refl _
      · refine awp_region (by kernel_rfl) ?_
        iterate 3 (refine aL_S rfl rfl v_ ?_)
        refine aL_nil ?_
        refine awp_region (by kernel_rfl) ?_
        iterate 2 (refine aL_S rfl rfl v_ ?_)
        refine aL_X rfl rfl (AOp_appendC rfl g_ g_ hC va_ (szSeen _) va_ (oneSeen _) (by simp [cbk]; omega) fun a' σ' hC' => ?_)
        (refine aL_S rfl rfl v_ ?_)
        refine aL_nil ?_
        refine awp_region (by kernel_rfl) ?_
        iterate 2 (refine aL_S rfl rfl v_ ?_)
        refine aL_nil ?_
        refine aNext (ι := Store × AVal × Nat) (i := (τ, b, 1)) (σ', a', 2) ?_ ?_ ?_ ?_
        · show 2 - 2 < 2 - 1; decide
        · exact ⟨by show 2 ≤ 2; decide, by simpa [cbk] using hC'⟩
        · exact cv_
        · exact Store.Wk.refl _
    · replace hc11 := nm_ hc11
      refine awp_exit ?_
      refine aThen_exit ?_
      refine aThen_exit ?_
      refine aBlock_hit ?_
      refine awp_seq ?_
      obtain rfl : k = 2 := by omega
      refine awp_region (by kernel_rfl) ?_
      iterate 2 (refine aL_S rfl rfl v_ ?_)
      refine aL_nil ?_
      refine awp_ret ?_
      refine aEnd_ret v_ (Store.Wk.refl _) ?_
      exact hC
theorem oneInt (l : List Int) : ∀ y ∈ l.map vInt, ∀ c ∈ y.cells, c.one = true := lits_one vInt (fun x c hc => by simp [AVal.cells] at hc; (try rcases hc with rfl | rfl | rfl | rfl | rfl); (try rcases hc with rfl | rfl | rfl); (try subst hc); all_goals rfl) l
theorem szInt (l : List Int) : ∀ y ∈ l.map vInt, y.cells.length = 1 := lits_sz vInt (fun x => rfl) l
theorem growInt_c {n : Nat} {σ : Store} (hn : n ≤ 1000000000) : ACalls Tryz.prog 169 [vNil, vInt n] σ fun v σ' => CBp σ σ' 1 [] v := by
  refine ACalls_of Tryz.func169 rfl Tryz.ntmps169 (congrArg Array.toList Tryz.results169) (by simp only [List.length_cons, List.length_nil]; decide) ?_; simp only [envOf_cons, envOf_nil, Nat.reduceAdd]
  refine awp_seq ?_
  refine awp_region (by kernel_rfl) ?_
  (refine aL_S rfl rfl v_ ?_)
  refine aL_nil ?_
  refine awp_seq ?_
  refine awp_seq ?_
  refine awp_region (by kernel_rfl) ?_
  iterate 2 (refine aL_S rfl rfl v_ ?_)
  refine aL_nil ?_
  refine awp_cond v_ (fun hc1 => ?_) (fun hc1 => ?_)
  · replace hc1 := nm_ hc1
    omega
  · replace hc1 := nm_ hc1
    refine awp_skip ?_
    refine awp_seq ?_
    refine awp_seq ?_
    refine awp_region (by kernel_rfl) ?_
    iterate 2 (refine aL_S rfl rfl v_ ?_)
    refine aL_X rfl rfl (AOp_capNil rfl g_ va_ ?_)
    iterate 5 (refine aL_S rfl rfl v_ ?_)
    refine aL_nil ?_
    refine awp_seq ?_
    refine awp_region (by kernel_rfl) ?_
    iterate 2 (refine aL_S rfl rfl v_ ?_)
    refine aL_nil ?_
    refine awp_cond v_ (fun hc4 => ?_) (fun hc4 => ?_)
    · replace hc4 := nm_ hc4
      refine awp_region (by kernel_rfl) ?_
      iterate 2 (refine aL_S rfl rfl v_ ?_)
      refine aL_X rfl rfl (AOp_capNil rfl g_ va_ ?_)
      iterate 2 (refine aL_S rfl rfl v_ ?_)
      refine aL_X rfl rfl (AOp_appendMake (n := n) rfl g_ g_ g_ va_ va_ (by omega) (by omega) fun o22 ho22 => ?_)
      iterate 4 (refine aL_S rfl rfl v_ ?_)
      refine aL_nil ?_
      refine awp_seq ?_
      refine awp_region (by kernel_rfl) ?_
      iterate 2 (refine aL_S rfl rfl v_ ?_)
      refine aL_nil ?_
      refine awp_ret ?_
      refine aEnd_ret v_ (Store.Wk.refl _) ?_
      exact .inr ⟨o22, ho22, rfl, rfl⟩
    · replace hc4 := nm_ hc4
      refine awp_skip ?_
      refine awp_seq ?_
      refine awp_region (by kernel_rfl) ?_
      iterate 2 (refine aL_S rfl rfl v_ ?_)
      refine aL_nil ?_
      refine awp_ret ?_
      refine aEnd_ret v_ (Store.Wk.refl _) ?_
      exact .inl ⟨rfl, rfl, rfl⟩
theorem concatInt_c {L1 L2 : List Int} {t1 t2 tt : Bool} {σ : Store} (h1 : L1.length ≤ 10000000) (h2 : L2.length ≤ 10000000) :
    ACalls Tryz.prog 152 [.sl 1 [.sl 1 (L1.map vInt) t1, .sl 1 (L2.map vInt) t2] tt] σ fun v σ' => CBp σ σ' 1 ((L1 ++ L2).map vInt) v := by
  refine ACalls_of Tryz.func152 rfl Tryz.ntmps152 (congrArg Array.toList Tryz.results152) (by simp only [List.length_cons, List.length_nil]; decide) ?_; simp only [envOf_cons, envOf_nil, Nat.reduceAdd]
  refine awp_seq ?_
  refine awp_region (by kernel_rfl) ?_
  (refine aL_S rfl rfl v_ ?_)
  refine aL_nil ?_
  refine awp_seq ?_
  refine awp_region (by kernel_rfl) ?_
  (refine aL_S rfl rfl v_ ?_)
  refine aL_nil ?_
  refine awp_seq ?_
  refine awp_seq ?_
  refine awp_region (by kernel_rfl) ?_
  iterate 3 (refine aL_S rfl rfl v_ ?_)
  refine aL_nil ?_
  refine awp_block ?_
  refine awp_loop_env (ι := Nat) (fun k => 2 - k) (fun k => k ≤ 2) (fun k => [(0, .sl 1 [.sl 1 (L1.map vInt) t1, .sl 1 (L2.map vInt) t2] tt), (3, vInt ((if k = 0 then 0 else if k = 1 then L1.length else L1.length + L2.length : Nat) : Int)), (9, .sl 1 [.sl 1 (L1.map vInt) t1, .sl 1 (L2.map vInt) t2] tt), (10, vInt 2), (11, vInt k)]) (fun k => σ) 0 ?_ ?_ ?_ ?_
  · exact Nat.zero_le _
  · exact cv_
  · exact sub_
  rintro k hk
  simp only [envL_cons, envL_nil]
  refine awp_seq ?_
  refine awp_region (by kernel_rfl) ?_
  (refine aL_S rfl rfl v_ ?_)
  refine aL_nil ?_
  refine awp_seq ?_
  refine awp_cond v_ (fun hc3 => ?_) (fun hc3 => ?_)
  · replace hc3 := nm_ hc3
    refine awp_skip ?_
    refine awp_seq ?_
    refine awp_block ?_
    refine awp_seq ?_
    rcases (show k = 0 ∨ k = 1 by omega) with rfl | rfl
    · refine awp_region (by kernel_rfl) ?_
      iterate 3 (refine aL_S rfl rfl v_ ?_)
      refine aL_nil ?_
      refine awp_seq ?_
      refine awp_region (by kernel_rfl) ?_
      iterate 5 (refine aL_S rfl rfl v_ ?_)
      refine aL_nil ?_
      refine awp_seq ?_
      refine awp_region (by kernel_rfl) ?_
      iterate 2 (refine aL_S rfl rfl v_ ?_)
      refine aL_nil ?_
      refine awp_cond v_ (fun hc6 => ?_) (fun hc6 => ?_)
      · replace hc6 := nm_ hc6
        omega
      · replace hc6 := nm_ hc6
        refine awp_skip ?_
        refine awp_region (by kernel_rfl) ?_
        iterate 2 (refine aL_S rfl rfl v_ ?_)
        refine aL_nil ?_
        refine aNext (ι := Nat) (i := 0) 1 ?_ ?_ ?_ ?_
        · decide
        · decide
        · have R := (show ((0 : Nat) : Int) + (L1.length : Int) = (L1.length : Int) from by omega); exact cv_
        · exact sub_
    · refine awp_region (by kernel_rfl) ?_
      iterate 3 (refine aL_S rfl rfl v_ ?_)
      refine aL_nil ?_
      refine awp_seq ?_
      refine awp_region (by kernel_rfl) ?_
      iterate 5 (refine aL_S rfl rfl v_ ?_)
      refine aL_nil ?_
      refine awp_seq ?_
      refine awp_region (by kernel_rfl) ?_
      iterate 2 (refine aL_S rfl rfl v_ ?_)
      refine aL_nil ?_
      refine awp_cond v_ (fun hc6 => ?_) (fun hc6 => ?_)
      · replace hc6 := nm_ hc6
        omega
      · replace hc6 := nm_ hc6
        refine awp_skip ?_
        refine awp_region (by kernel_rfl) ?_
        iterate 2 (refine aL_S rfl rfl v_ ?_)
        refine aL_nil ?_
        refine aNext (ι := Nat) (i := 1) 2 ?_ ?_ ?_ ?_
        · decide
        · decide
        · exact cv_
        · exact sub_
  · replace hc3 := nm_ hc3
    refine awp_exit ?_
    refine aThen_exit ?_
    refine aThen_exit ?_
    refine aBlock_hit ?_
    refine awp_seq ?_
    obtain rfl : k = 2 := by omega
    refine awp_region (by kernel_rfl) ?_
    (refine aL_S rfl rfl v_ ?_)
    refine aL_X rfl rfl (AOp_use rfl rfl (.inr ⟨rfl, rfl, rfl⟩) g_ va_ (growInt_c (n := L1.length + L2.length) (by omega)) ?_); rintro _ τ0 hC0
    rename_i b0
    (refine aL_S rfl rfl v_ ?_)
    refine aL_nil ?_
    refine awp_seq ?_
    refine awp_seq ?_
    refine awp_region (by kernel_rfl) ?_
    iterate 3 (refine aL_S rfl rfl v_ ?_)
    refine aL_nil ?_
    refine awp_block ?_
    refine awp_loop_env (ι := Store × AVal × Nat) (fun ⟨τ, b, k⟩ => 2 - k) (fun ⟨τ, b, k⟩ => k ≤ 2 ∧ CBp σ τ 1 ((cbk L1 L2 k).map vInt) b) (fun ⟨τ, b, k⟩ => [(6, b), (25, .sl 1 [.sl 1 (L1.map vInt) t1, .sl 1 (L2.map vInt) t2] tt), (26, vInt 2), (27, vInt k)]) (fun ⟨τ, b, k⟩ => τ) (τ0, b0, 0) ?_ ?_ ?_ ?_
    · exact ⟨Nat.zero_le _, hC0⟩
    · exact cv_
    · exact Store.Wk.refl _
    rintro ⟨τ, b, k⟩ ⟨hk, hC⟩
    simp only [envL_cons, envL_nil]
    refine awp_seq ?_
    refine awp_region (by kernel_rfl) ?_
    (refine aL_S rfl rfl v_ ?_)
    refine aL_nil ?_
    refine awp_seq ?_
    refine awp_cond v_ (fun hc11 => ?_) (fun hc11 => ?_)
    · replace hc11 := nm_ hc11
      refine awp_skip ?_
      refine awp_seq ?_
      refine awp_block ?_
      refine awp_seq ?_
      rcases (show k = 0 ∨ k = 1 by omega) with rfl | rfl
      · refine awp_region (by kernel_rfl) ?_
        iterate 3 (refine aL_S rfl rfl v_ ?_)
        refine aL_nil ?_
        refine awp_region (by kernel_rfl) ?_
        iterate 2 (refine aL_S rfl rfl v_ ?_)
        refine aL_X rfl rfl (AOp_appendC rfl g_ g_ hC va_ (szInt _) va_ (oneInt _) (by simp [cbk]; omega) fun a' σ' hC' => ?_)
        (refine aL_S rfl rfl v_ ?_)
        refine aL_nil ?_
        refine awp_region (by kernel_rfl) ?_
        iterate 2 (refine aL_S rfl rfl v_ ?_)
        refine aL_nil ?_
        refine aNext (ι := Store × AVal × Nat) (i := (τ, b, 0)) (σ', a', 1) ?_ ?_ ?_ ?_
        · show 2 - 1 < 2 - 0; decide
        · exact ⟨by show 1 ≤ 2; decide, by simpa [cbk] using hC'⟩
        · exact cv_
        · exact Store.Wk.refl _
      · refine awp_region (by kernel_rfl) ?_
        iterate 3 (refine aL_S rfl rfl v_ ?_)
        refine aL_nil ?_
        refine awp_region (by kernel_rfl) ?_
        iterate 2 (refine aL_S rfl rfl v_ ?_)
        refine aL_X rfl rfl (AOp_appendC rfl g_ g_ hC va_ (szInt _) va_ (oneInt _) (by simp [cbk]; omega) fun a' σ' hC' => ?_)
        (refine aL_S rfl rfl v_ ?_)
        refine aL_nil ?_
        refine awp_region (by kernel_rfl) ?_
        iterate 2 (refine aL_S rfl rfl v_ ?_)
        refine aL_nil ?_
        refine aNext (ι := Store × AVal × Nat) (i := (τ, b, 1)) (σ', a', 2) ?_ ?_ ?_ ?_
        · show 2 - 2 < 2 - 1; decide
        · exact ⟨by show 2 ≤ 2; decide, by simpa [cbk] using hC'⟩
        · exact cv_
        · exact Store.Wk.refl _
    · replace hc11 := nm_ hc11
      refine awp_exit ?_
      refine aThen_exit ?_
      refine aThen_exit ?_
      refine aBlock_hit ?_
      refine awp_seq ?_
      obtain rfl : k = 2 := by omega
      refine awp_region (by kernel_rfl) ?_
      iterate 2 (refine aL_S rfl rfl v_ ?_)
      refine aL_nil ?_
      refine awp_ret ?_
      refine aEnd_ret v_ (Store.Wk.refl _) ?_
      exact hC
theorem oneSib (l : List Sib) : ∀ y ∈ l.map sSib, ∀ c ∈ y.cells, c.one = true := lits_one sSib (fun x c hc => by simp [AVal.cells] at hc; (try rcases hc with rfl | rfl | rfl | rfl | rfl); (try rcases hc with rfl | rfl | rfl); (try subst hc); all_goals rfl) l
theorem szSib (l : List Sib) : ∀ y ∈ l.map sSib, y.cells.length = 5 := lits_sz sSib (fun x => rfl) l
end Go.Proofs.YtbjloippgpilcaaGreat
end
