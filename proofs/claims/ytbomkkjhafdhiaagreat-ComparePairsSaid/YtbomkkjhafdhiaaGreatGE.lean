/-
  Whether a dot is known; dots and values held against each other; slices.Grow, slices.Concat; Places: a bucket and a key, with a slash between them; Messages as bytes: the program's writer; THE LIBRARY's SORTS by the kit's contracts: a slice that is written, sorted in place; The library's sorts at this program; Sorted, once each: rows that grew; Where a node stands in a context; What is known of a node by two; contexts joined; Contexts joined; a dot added. Own work (an AI agent).
-/
import Derived.Test.YtbomkkjhafdhiaaGreatGD
import Derived.Lib.Bytealg
import Derived.Shelf.Sort.Plain
import Derived.Shelf.Slices.In.SortNone
import Derived.Test.YtbomkkjhafdhiaaGreatGC
import Derived.Shelf.Slices.CompactI
import Derived.Shelf.Slices.CompactS

section
set_option linter.all false
set_option maxRecDepth 100000
namespace Go.Proofs.YtbomkkjhafdhiaaGreat
open Go.Ab

abbrev vB (b : Bool) : AVal := .lit (.bool b)
@[reducible] def sDot (s : ByteArray) (n : Int) : AVal := .agg [.lit (.string s), vInt n]
def inS (l : List Int) (n : Int) : Bool := l.any fun m => decide (m = n)
def hasX (x : Seen) (s : ByteArray) (n : Int) : Bool := decide (x.node = s) && (decide (0 < n) && decide (n ≤ x.base) || inS x.more n)
def hasS (c : List Seen) (s : ByteArray) (n : Int) : Bool := c.any fun x => hasX x s n
theorem hasX_no {x : Seen} {s : ByteArray} {n : Int} (h : ¬ x.node = s ∨ (n ≤ 0 ∨ x.base < n) ∧ inS x.more n = false) : hasX x s n = false := by
  unfold hasX
  rcases h with h | ⟨h, h'⟩
  · rw [decide_eq_false h]; rfl
  · rw [h']
    rcases h with h | h
    · rw [decide_eq_false (show ¬ 0 < n by omega)]; simp
    · rw [decide_eq_false (show ¬ n ≤ x.base by omega)]; simp
theorem any_yes {α : Type} {l : List α} {k : Nat} {x : α} {f : α → Bool} (h : l[k]? = some x) (hf : f x = true) : l.any f = true := List.any_eq_true.2 ⟨x, List.mem_of_getElem? h, hf⟩
theorem any_next {α : Type} {l : List α} {k : Nat} {x : α} {f : α → Bool} (h : l[k]? = some x) (hf : f x = false) (ha : (l.take k).any f = false) : (l.take (k + 1)).any f = false := by
  rw [take_snoc h, List.any_append, ha]; simp [hf]
theorem any_end {α : Type} {l : List α} {k : Nat} {f : α → Bool} (h : l.length ≤ k) (ha : (l.take k).any f = false) : l.any f = false := by rwa [List.take_of_length_le h] at ha

theorem index_c {l : List Int} {n : Int} {t : Bool} {σ : Store} (hl : l.length ≤ 1000000) : ACalls Tryz.prog 140 [.sl 1 (l.map vInt) t, vInt n] σ fun v σ' => (∃ r, v = vInt r ∧ decide (0 ≤ r) = inS l n) ∧ σ = σ' := by
  refine ACalls_of Tryz.func140 rfl Tryz.ntmps140 (congrArg Array.toList Tryz.results140) (by simp only [List.length_cons, List.length_nil]; decide) ?_; simp only [envOf_cons, envOf_nil, Nat.reduceAdd]
  refine awp_seq ?_
  refine awp_region (by kernel_rfl) ?_
  (refine aL_S rfl rfl v_ ?_)
  refine aL_nil ?_
  refine awp_seq ?_
  refine awp_seq ?_
  refine awp_region (by kernel_rfl) ?_
  iterate 3 (refine aL_S rfl rfl v_ ?_)
  refine aL_nil ?_
  refine awp_block ?_
  refine awp_loop_env (ι := Nat) (fun k => l.length - k) (fun k => k ≤ l.length ∧ (l.take k).any (fun m => decide (m = n)) = false) (fun k => [(0, .sl 1 (l.map vInt) t), (1, vInt n), (7, vInt l.length), (8, vInt k)]) (fun k => σ) 0 ?_ ?_ ?_ ?_
  · exact ⟨Nat.zero_le _, rfl⟩
  · exact cv_
  · exact sub_
  rintro k ⟨hk, ha⟩
  simp only [envL_cons, envL_nil]
  refine awp_seq ?_
  refine awp_region (by kernel_rfl) ?_
  (refine aL_S rfl rfl v_ ?_)
  refine aL_nil ?_
  refine awp_seq ?_
  refine awp_cond v_ (fun hc2 => ?_) (fun hc2 => ?_)
  · replace hc2 := nm_ hc2
    refine awp_skip ?_
    refine awp_seq ?_
    refine awp_block ?_
    refine awp_seq ?_
    obtain ⟨x, hx⟩ := get_some (l := l) (k := k) (by omega)
    refine awp_region (by kernel_rfl) ?_
    iterate 2 (refine aL_S rfl rfl v_ ?_)
    refine aL_nil ?_
    refine awp_seq ?_
    have R := hx
    refine awp_region (by kernel_rfl) ?_
    iterate 6 (refine aL_S rfl rfl v_ ?_)
    refine aL_nil ?_
    refine awp_cond v_ (fun hc4 => ?_) (fun hc4 => ?_)
    · replace hc4 := nm_ hc4
      refine awp_seq ?_
      refine awp_region (by kernel_rfl) ?_
      iterate 2 (refine aL_S rfl rfl v_ ?_)
      refine aL_nil ?_
      refine awp_ret ?_
      refine aEnd_ret (σ' := σ) v_ sub_ ?_
      exact ⟨⟨(k : Int), rfl, by rw [decide_eq_true (by omega)]; exact (any_yes hx (by simp; omega)).symm⟩, rfl⟩
    · replace hc4 := nm_ hc4
      refine awp_skip ?_
      refine awp_region (by kernel_rfl) ?_
      iterate 2 (refine aL_S rfl rfl v_ ?_)
      refine aL_nil ?_
      refine aNext (ι := Nat) (i := k) (k + 1) ?_ ?_ ?_ ?_
      · omega
      · exact ⟨by omega, any_next hx (by simp; omega) ha⟩
      · exact cv_
      · exact sub_
  · replace hc2 := nm_ hc2
    refine awp_exit ?_
    refine aThen_exit ?_
    refine aThen_exit ?_
    refine aBlock_hit ?_
    refine awp_seq ?_
    refine awp_region (by kernel_rfl) ?_
    (refine aL_S rfl rfl v_ ?_)
    refine aL_nil ?_
    refine awp_ret ?_
    refine aEnd_ret (σ' := σ) v_ sub_ ?_
    exact ⟨⟨-1, rfl, (any_end (by omega) ha).symm⟩, rfl⟩
theorem contains_c {l : List Int} {n : Int} {t : Bool} {σ : Store} (hl : l.length ≤ 1000000) : ACalls Tryz.prog 111 [.sl 1 (l.map vInt) t, vInt n] σ fun v σ' => v = vB (inS l n) ∧ σ = σ' := by
  refine ACalls_of Tryz.func111 rfl Tryz.ntmps111 (congrArg Array.toList Tryz.results111) (by simp only [List.length_cons, List.length_nil]; decide) ?_; simp only [envOf_cons, envOf_nil, Nat.reduceAdd]
  refine awp_seq ?_
  refine awp_region (by kernel_rfl) ?_
  (refine aL_S rfl rfl v_ ?_)
  refine aL_nil ?_
  refine awp_seq ?_
  refine awp_region (by kernel_rfl) ?_
  iterate 2 (refine aL_S rfl rfl v_ ?_)
  refine aL_X rfl rfl (AOp_use rfl rfl (.inr ⟨rfl, rfl, rfl⟩) g_ va_ (index_c hl) ?_); rintro _ _ ⟨⟨r, rfl, hr⟩, rfl⟩
  iterate 2 (refine aL_S rfl rfl v_ ?_)
  refine aL_nil ?_
  refine awp_ret ?_
  refine aEnd_ret (σ' := σ) v_ sub_ ?_
  exact ⟨by rw [← hr], rfl⟩
theorem rIn_c {l : List Int} {n : Int} {t : Bool} {σ : Store} (hl : l.length ≤ 1000000) : ACalls Tryz.prog 93 [.sl 1 (l.map vInt) t, vInt n] σ fun v σ' => v = vB (inS l n) ∧ σ = σ' := by
  refine ACalls_of Tryz.func93 rfl Tryz.ntmps93 (congrArg Array.toList Tryz.results93) (by simp only [List.length_cons, List.length_nil]; decide) ?_; simp only [envOf_cons, envOf_nil, Nat.reduceAdd]
  refine awp_seq ?_
  refine awp_region (by kernel_rfl) ?_
  (refine aL_S rfl rfl v_ ?_)
  refine aL_nil ?_
  refine awp_seq ?_
  refine awp_seq ?_
  refine awp_region (by kernel_rfl) ?_
  (refine aL_S rfl rfl v_ ?_)
  refine aL_nil ?_
  refine awp_block ?_
  refine awp_loop_env (ι := Nat) (fun k => l.length - k) (fun k => k ≤ l.length ∧ (l.take k).any (fun m => decide (m = n)) = false) (fun k => [(0, .sl 1 (l.map vInt) t), (1, vInt n), (5, vInt k)]) (fun k => σ) 0 ?_ ?_ ?_ ?_
  · exact ⟨Nat.zero_le _, rfl⟩
  · exact cv_
  · exact sub_
  rintro k ⟨hk, ha⟩
  simp only [envL_cons, envL_nil]
  refine awp_seq ?_
  refine awp_seq ?_
  refine awp_region (by kernel_rfl) ?_
  iterate 4 (refine aL_S rfl rfl v_ ?_)
  refine aL_nil ?_
  refine awp_cond v_ (fun hc2 => ?_) (fun hc2 => ?_)
  · replace hc2 := nm_ hc2
    refine awp_skip ?_
    refine awp_seq ?_
    refine awp_block ?_
    refine awp_seq ?_
    obtain ⟨x, hx⟩ := get_some (l := l) (k := k) (by omega)
    have R := hx
    refine awp_region (by kernel_rfl) ?_
    iterate 6 (refine aL_S rfl rfl v_ ?_)
    refine aL_nil ?_
    refine awp_cond v_ (fun hc4 => ?_) (fun hc4 => ?_)
    · replace hc4 := nm_ hc4
      refine awp_seq ?_
      refine awp_region (by kernel_rfl) ?_
      (refine aL_S rfl rfl v_ ?_)
      refine aL_nil ?_
      refine awp_ret ?_
      refine aEnd_ret (σ' := σ) v_ sub_ ?_
      exact ⟨by rw [inS, any_yes hx (by simp; omega)], rfl⟩
    · replace hc4 := nm_ hc4
      refine awp_skip ?_
      refine awp_region (by kernel_rfl) ?_
      iterate 3 (refine aL_S rfl rfl v_ ?_)
      refine aL_nil ?_
      refine aNext (ι := Nat) (i := k) (k + 1) ?_ ?_ ?_ ?_
      · omega
      · exact ⟨by omega, any_next hx (by simp; omega) ha⟩
      · exact cv_
      · exact sub_
  · replace hc2 := nm_ hc2
    refine awp_exit ?_
    refine aThen_exit ?_
    refine aThen_exit ?_
    refine aBlock_hit ?_
    refine awp_seq ?_
    refine awp_region (by kernel_rfl) ?_
    (refine aL_S rfl rfl v_ ?_)
    refine aL_nil ?_
    refine awp_ret ?_
    refine aEnd_ret (σ' := σ) v_ sub_ ?_
    exact ⟨by rw [inS, any_end (by omega) ha], rfl⟩
theorem has1_c {x : Seen} {ob : Nat} {s : ByteArray} {n : Int} {σ : Store} (hb : σ.heap ob = some (.cells [.lit (.string s), vInt n])) (hx : SeenSm x) : ACalls Tryz.prog 110 [sSeen x, .ref ob 0] σ fun v σ' => v = vB (hasX x s n) ∧ σ = σ' := by
  have hl := hx.more
  refine ACalls_of Tryz.func110 rfl Tryz.ntmps110 (congrArg Array.toList Tryz.results110) (by simp only [List.length_cons, List.length_nil]; decide) ?_; simp only [envOf_cons, envOf_nil, Nat.reduceAdd]
  refine awp_seq ?_
  have R := hb
  refine awp_region (by kernel_rfl) ?_
  refine aL_box rfl rfl rfl v_ rfl g_ fun o2 ho2 => ?_
  repeat (rw [none_set_iff] at ho2; obtain ⟨_, ho2⟩ := ho2)
  (refine aL_S rfl rfl v_ ?_)
  refine aL_nil ?_
  have nb := ne_of_heap hb ho2
  refine awp_seq ?_
  have R := hb
  refine awp_region (by kernel_rfl) ?_
  iterate 6 (refine aL_S rfl rfl v_ ?_)
  refine aL_GT rfl rfl v_ rfl vg_ ?_
  refine aL_GT rfl rfl v_ rfl vg_ ?_
  refine aL_GT rfl rfl v_ rfl vg_ ?_
  refine aL_GT rfl rfl v_ rfl vg_ ?_
  refine aL_GGT rfl rfl v_ rfl vg_ ?_
  refine aL_GGT rfl rfl v_ rfl vg_ ?_
  refine aL_GGT rfl rfl v_ rfl vg_ ?_
  refine aL_GGT rfl rfl v_ rfl vg_ ?_
  refine aL_GGT rfl rfl v_ rfl vg_ ?_
  refine aL_GT rfl rfl v_ rfl vg_ ?_
  refine aL_GT rfl rfl v_ rfl vg_ ?_
  refine aL_GGF rfl rfl v_ rfl vg_ ?_
  refine aL_GGF rfl rfl v_ rfl vg_ ?_
  refine aL_GGF rfl rfl v_ rfl vg_ ?_
  refine aL_GGF rfl rfl v_ rfl vg_ ?_
  refine aL_GGFX rfl rfl v_ rfl (fun hb => AOp_useV (by rfl) (by rfl) (.inr ⟨by rfl, by rfl, by rfl⟩) g_ cg_ (contains_c hl)) ?_
  refine aL_GT rfl rfl v_ rfl vg_ ?_
  iterate 2 (refine aL_S rfl rfl v_ ?_)
  refine aL_nil ?_
  refine awp_ret ?_
  refine aEnd_ret (σ' := σ) v_ sub_ ?_
  refine ⟨?_, rfl⟩
  try unfold hasX
  by_cases h1 : x.node = s <;> by_cases h2 : 0 < n <;> by_cases h3 : n ≤ x.base <;> simp [h1, h2, h3]
theorem indexSeen_c {c : List Seen} {ob : Nat} {s : ByteArray} {n : Int} {t : Bool} {σ : Store} (hb : σ.heap ob = some (.cells [.lit (.string s), vInt n])) (hx : ∀ x ∈ c, SeenSm x) (hn : c.length ≤ 1000000) : ACalls Tryz.prog 139 [.sl 3 (c.map sSeen) t, .fn (.func 110) [] [.ref ob 0]] σ fun v σ' => (∃ r, v = vInt r ∧ decide (0 ≤ r) = hasS c s n) ∧ σ = σ' := by
  refine ACalls_of Tryz.func139 rfl Tryz.ntmps139 (congrArg Array.toList Tryz.results139) (by simp only [List.length_cons, List.length_nil]; decide) ?_; simp only [envOf_cons, envOf_nil, Nat.reduceAdd]
  refine awp_seq ?_
  refine awp_region (by kernel_rfl) ?_
  (refine aL_S rfl rfl v_ ?_)
  refine aL_nil ?_
  refine awp_seq ?_
  refine awp_seq ?_
  refine awp_region (by kernel_rfl) ?_
  iterate 3 (refine aL_S rfl rfl v_ ?_)
  refine aL_nil ?_
  refine awp_block ?_
  refine awp_loop_env (ι := Nat) (fun k => c.length - k) (fun k => k ≤ c.length ∧ (c.take k).any (fun x => hasX x s n) = false) (fun k => [(0, .sl 3 (c.map sSeen) t), (1, .fn (.func 110) [] [.ref ob 0]), (7, vInt c.length), (8, vInt k)]) (fun k => σ) 0 ?_ ?_ ?_ ?_
  · exact ⟨Nat.zero_le _, rfl⟩
  · exact cv_
  · exact sub_
  rintro k ⟨hk, ha⟩
  simp only [envL_cons, envL_nil]
  refine awp_seq ?_
  refine awp_region (by kernel_rfl) ?_
  (refine aL_S rfl rfl v_ ?_)
  refine aL_nil ?_
  refine awp_seq ?_
  refine awp_cond v_ (fun hc2 => ?_) (fun hc2 => ?_)
  · replace hc2 := nm_ hc2
    refine awp_skip ?_
    refine awp_seq ?_
    refine awp_block ?_
    refine awp_seq ?_
    obtain ⟨x, hxk⟩ := get_some (l := c) (k := k) (by omega)
    have hsx := hx x (List.mem_of_getElem? hxk)
    refine awp_region (by kernel_rfl) ?_
    iterate 2 (refine aL_S rfl rfl v_ ?_)
    refine aL_nil ?_
    refine awp_seq ?_
    have R := hxk
    refine awp_region (by kernel_rfl) ?_
    iterate 5 (refine aL_S rfl rfl v_ ?_)
    refine aL_X rfl rfl (AOp_use rfl rfl (.inl v_) g_ va_ (has1_c hb hsx) ?_); rintro _ _ ⟨rfl, rfl⟩
    refine aL_nil ?_
    refine awp_cond v_ (fun hc4 => ?_) (fun hc4 => ?_)
    · replace hc4 := nm_ hc4
      refine awp_seq ?_
      refine awp_region (by kernel_rfl) ?_
      iterate 2 (refine aL_S rfl rfl v_ ?_)
      refine aL_nil ?_
      refine awp_ret ?_
      refine aEnd_ret (σ' := σ) v_ sub_ ?_
      exact ⟨⟨(k : Int), rfl, by rw [decide_eq_true (by omega)]; exact (any_yes hxk (by simpa using hc4)).symm⟩, rfl⟩
    · replace hc4 := nm_ hc4
      refine awp_skip ?_
      refine awp_region (by kernel_rfl) ?_
      iterate 2 (refine aL_S rfl rfl v_ ?_)
      refine aL_nil ?_
      refine aNext (ι := Nat) (i := k) (k + 1) ?_ ?_ ?_ ?_
      · omega
      · exact ⟨by omega, any_next hxk (by simpa using hc4) ha⟩
      · exact cv_
      · exact sub_
  · replace hc2 := nm_ hc2
    refine awp_exit ?_
    refine aThen_exit ?_
    refine aThen_exit ?_
    refine aBlock_hit ?_
    refine awp_seq ?_
    refine awp_region (by kernel_rfl) ?_
    (refine aL_S rfl rfl v_ ?_)
    refine aL_nil ?_
    refine awp_ret ?_
    refine aEnd_ret (σ' := σ) v_ sub_ ?_
    exact ⟨⟨-1, rfl, (any_end (by omega) ha).symm⟩, rfl⟩
theorem containsSeen_c {c : List Seen} {ob : Nat} {s : ByteArray} {n : Int} {t : Bool} {σ : Store} (hb : σ.heap ob = some (.cells [.lit (.string s), vInt n])) (hx : ∀ x ∈ c, SeenSm x) (hn : c.length ≤ 1000000) : ACalls Tryz.prog 109 [.sl 3 (c.map sSeen) t, .fn (.func 110) [] [.ref ob 0]] σ fun v σ' => v = vB (hasS c s n) ∧ σ = σ' := by
  refine ACalls_of Tryz.func109 rfl Tryz.ntmps109 (congrArg Array.toList Tryz.results109) (by simp only [List.length_cons, List.length_nil]; decide) ?_; simp only [envOf_cons, envOf_nil, Nat.reduceAdd]
  refine awp_seq ?_
  refine awp_region (by kernel_rfl) ?_
  (refine aL_S rfl rfl v_ ?_)
  refine aL_nil ?_
  refine awp_seq ?_
  refine awp_region (by kernel_rfl) ?_
  iterate 2 (refine aL_S rfl rfl v_ ?_)
  refine aL_X rfl rfl (AOp_use rfl rfl (.inr ⟨rfl, rfl, rfl⟩) g_ va_ (indexSeen_c hb hx hn) ?_); rintro _ _ ⟨⟨r, rfl, hr⟩, rfl⟩
  iterate 2 (refine aL_S rfl rfl v_ ?_)
  refine aL_nil ?_
  refine awp_ret ?_
  refine aEnd_ret (σ' := σ) v_ sub_ ?_
  exact ⟨by rw [← hr], rfl⟩
theorem has_c {c : List Seen} {s : ByteArray} {n : Int} {t : Bool} {σ : Store} (hx : ∀ x ∈ c, SeenSm x) (hn : c.length ≤ 1000000) : ACalls Tryz.prog 75 [.sl 3 (c.map sSeen) t, sDot s n] σ fun v σ' => v = vB (hasS c s n) ∧ σ = σ' := by
  refine ACalls_of Tryz.func75 rfl Tryz.ntmps75 (congrArg Array.toList Tryz.results75) (by simp only [List.length_cons, List.length_nil]; decide) ?_; simp only [envOf_cons, envOf_nil, Nat.reduceAdd]
  refine awp_seq ?_
  refine awp_region (by kernel_rfl) ?_
  refine aL_box rfl rfl rfl v_ rfl g_ fun o3 ho3 => ?_
  repeat (rw [none_set_iff] at ho3; obtain ⟨_, ho3⟩ := ho3)
  (refine aL_S rfl rfl v_ ?_)
  refine aL_nil ?_
  refine awp_seq ?_
  refine awp_region (by kernel_rfl) ?_
  iterate 2 (refine aL_S rfl rfl v_ ?_)
  refine aL_X rfl rfl (AOp_use rfl rfl (.inr ⟨rfl, rfl, rfl⟩) g_ va_ (containsSeen_c (Store.set_get ..) hx hn) ?_); rintro _ _ ⟨rfl, rfl⟩
  (refine aL_S rfl rfl v_ ?_)
  refine aL_nil ?_
  refine awp_ret ?_
  refine aEnd_ret (σ' := σ) v_ sub_ ?_
  exact ⟨rfl, rfl⟩
theorem rHas_c {c : List Seen} {s : ByteArray} {n : Int} {t : Bool} {σ : Store} (hx : ∀ x ∈ c, SeenSm x) (hn : c.length ≤ 1000000) : ACalls Tryz.prog 54 [.sl 3 (c.map sSeen) t, sDot s n] σ fun v σ' => v = vB (hasS c s n) ∧ σ = σ' := by
  refine ACalls_of Tryz.func54 rfl Tryz.ntmps54 (congrArg Array.toList Tryz.results54) (by simp only [List.length_cons, List.length_nil]; decide) ?_; simp only [envOf_cons, envOf_nil, Nat.reduceAdd]
  refine awp_seq ?_
  refine awp_region (by kernel_rfl) ?_
  refine aL_box rfl rfl rfl v_ rfl g_ fun o3 ho3 => ?_
  repeat (rw [none_set_iff] at ho3; obtain ⟨_, ho3⟩ := ho3)
  (refine aL_S rfl rfl v_ ?_)
  refine aL_nil ?_
  refine awp_seq ?_
  refine awp_seq ?_
  refine awp_region (by kernel_rfl) ?_
  (refine aL_S rfl rfl v_ ?_)
  refine aL_nil ?_
  refine awp_block ?_
  refine awp_loop_env (ι := Nat) (fun k => c.length - k) (fun k => k ≤ c.length ∧ (c.take k).any (fun x => hasX x s n) = false) (fun k => [(0, .sl 3 (c.map sSeen) t), (3, .ref o3 0), (5, vInt k)]) (fun k => (σ.set o3 (.cells [.lit (.string s), vInt n]))) 0 ?_ ?_ ?_ ?_
  · exact ⟨Nat.zero_le _, rfl⟩
  · exact cv_
  · exact Store.Wk.refl _
  rintro k ⟨hk, ha⟩
  simp only [envL_cons, envL_nil]
  refine awp_seq ?_
  refine awp_seq ?_
  refine awp_region (by kernel_rfl) ?_
  iterate 4 (refine aL_S rfl rfl v_ ?_)
  refine aL_nil ?_
  refine awp_cond v_ (fun hc2 => ?_) (fun hc2 => ?_)
  · replace hc2 := nm_ hc2
    refine awp_skip ?_
    refine awp_seq ?_
    refine awp_block ?_
    refine awp_seq ?_
    obtain ⟨x, hxk⟩ := get_some (l := c) (k := k) (by omega)
    have hsx := hx x (List.mem_of_getElem? hxk)
    have hlx := hsx.more
    have R := hxk
    refine awp_draw (.op 0 0 (.op 1 0 (.op 2 0 (.op 3 0 (.op 4 0 (.op 5 0 (.op 6 0 (.op 7 0 (.op 8 0 (.op 9 0 (.op 10 0 (.op 11 0 (.op 12 0 (.op 13 0 (.op 14 0 (.op 15 0 (.op 16 0 (.op 17 0 (.op 18 0 (.op 19 0 (.op 20 0 (.op 21 0 (.op 22 0 (.op 23 0 (.op 24 0 (.op 25 0 (.op 26 0 (.op 27 0 (.op 28 0 (.op 29 0 (.op 30 1 (.op 31 0 (.op 32 0 .nil))))))))))))))))))))))))))))))))) Tryz.mixed (by kernel_rfl) ?_
    iterate 9 (refine dR_S o_ (by rfl) (by rfl) v_ ?_)
    refine dR_GT o_ (by rfl) (by rfl) v_ (by rfl) vg_ ?_
    refine dR_GT o_ (by rfl) (by rfl) v_ (by rfl) vg_ ?_
    refine dR_GT o_ (by rfl) (by rfl) v_ (by rfl) vg_ ?_
    refine dR_GT o_ (by rfl) (by rfl) v_ (by rfl) vg_ ?_
    refine dR_GGT o_ (by rfl) (by rfl) v_ (by rfl) vg_ ?_
    refine dR_GGT o_ (by rfl) (by rfl) v_ (by rfl) vg_ ?_
    refine dR_GGT o_ (by rfl) (by rfl) v_ (by rfl) vg_ ?_
    refine dR_GGT o_ (by rfl) (by rfl) v_ (by rfl) vg_ ?_
    refine dR_GGT o_ (by rfl) (by rfl) v_ (by rfl) vg_ ?_
    refine dR_GGT o_ (by rfl) (by rfl) v_ (by rfl) vg_ ?_
    refine dR_GGT o_ (by rfl) (by rfl) v_ (by rfl) vg_ ?_
    refine dR_GGT o_ (by rfl) (by rfl) v_ (by rfl) vg_ ?_
    refine dR_GT o_ (by rfl) (by rfl) v_ (by rfl) vg_ ?_
    refine dR_GT o_ (by rfl) (by rfl) v_ (by rfl) vg_ ?_
    refine dR_GGF o_ (by rfl) (by rfl) v_ (by rfl) vg_ ?_
    refine dR_GGF o_ (by rfl) (by rfl) v_ (by rfl) vg_ ?_
    refine dR_GGF o_ (by rfl) (by rfl) v_ (by rfl) vg_ ?_
    refine dR_GGF o_ (by rfl) (by rfl) v_ (by rfl) vg_ ?_
    refine dR_GGF o_ (by rfl) (by rfl) v_ (by rfl) vg_ ?_
    refine dR_GGF o_ (by rfl) (by rfl) v_ (by rfl) vg_ ?_
    refine dR_GGF o_ (by rfl) (by rfl) v_ (by rfl) vg_ ?_
    refine dR_GGFX o_ (by rfl) (by rfl) v_ (by rfl) sub_ (fun hb => AOp_useV (by rfl) (by rfl) (.inr ⟨by rfl, by rfl, by rfl⟩) g_ cg_ (rIn_c hlx)) ?_
    refine dR_GT o_ (by rfl) (by rfl) v_ (by rfl) vg_ ?_
    (refine dR_S o_ (by rfl) (by rfl) v_ ?_)
    refine dR_nil ?_
    refine awp_cond v_ (fun hc4 => ?_) (fun hc4 => ?_)
    · replace hc4 := nm_ hc4
      skip
      have hxf : hasX x s n = true := by
        simp only [hasX]
        simpa using hc4
      refine awp_seq ?_
      refine awp_region (by kernel_rfl) ?_
      (refine aL_S rfl rfl v_ ?_)
      refine aL_nil ?_
      refine awp_ret ?_
      refine aEnd_ret (σ' := σ) v_ sub_ ?_
      exact ⟨by rw [hasS, any_yes hxk hxf], rfl⟩
    · replace hc4 := nm_ hc4
      skip
      have hxf : hasX x s n = false := hasX_no hc4
      refine awp_skip ?_
      refine awp_region (by kernel_rfl) ?_
      iterate 3 (refine aL_S rfl rfl v_ ?_)
      refine aL_nil ?_
      refine aNext (ι := Nat) (i := k) (k + 1) ?_ ?_ ?_ ?_
      · omega
      · exact ⟨by omega, any_next hxk hxf ha⟩
      · exact cv_
      · exact Store.Wk.refl _
  · replace hc2 := nm_ hc2
    refine awp_exit ?_
    refine aThen_exit ?_
    refine aThen_exit ?_
    refine aBlock_hit ?_
    refine awp_seq ?_
    refine awp_region (by kernel_rfl) ?_
    (refine aL_S rfl rfl v_ ?_)
    refine aL_nil ?_
    refine awp_ret ?_
    refine aEnd_ret (σ' := σ) v_ sub_ ?_
    exact ⟨by rw [hasS, any_end (by omega) ha], rfl⟩

/-! ### held against each other -/
theorem cmpB_eq : ∀ (l m : List UInt8), Lib.compareBytes l m = if Op.bytesLess l m then -1 else if l = m then 0 else 1
  | [], [] => rfl
  | [], _ :: _ => rfl
  | _ :: _, [] => rfl
  | a :: l, b :: m => by
    rw [Lib.compareBytes, Op.bytesLess, cmpB_eq l m]
    by_cases h1 : a < b
    · simp [h1]
    · by_cases h2 : b < a
      · have h3 : a ≠ b := fun h => by rw [h] at h2; exact absurd h2 (UInt8.lt_irrefl _)
        simp [h1, h2, h3]
      · have h3 : a = b := UInt8.le_antisymm (UInt8.not_lt.1 h2) (UInt8.not_lt.1 h1)
        subst h3
        simp [h1]
def cmpS (a b : ByteArray) : Int := if sLt a b then -1 else if a = b then 0 else 1
def cmpI (a b : Int) : Int := if a < b then -1 else if b < a then 1 else 0
def cmpD (s : ByteArray) (n : Int) (s' : ByteArray) (n' : Int) : Int := if cmpS s s' ≠ 0 then cmpS s s' else cmpI n n'
theorem cmpS_eq (a b : ByteArray) : Lib.compareBytes a.data.toList b.data.toList = cmpS a b := by
  rw [cmpB_eq, cmpS, sLt, Lib.toList_data, Lib.toList_data]
  congr 1
  by_cases h : a = b
  · subst h; simp
  · have : ¬ a.data.toList = b.data.toList := fun hh => h (by apply ByteArray.ext; exact Array.toList_inj.1 hh)
    rw [if_neg h, if_neg this]
theorem cmpStr_rv {κ : K} {α : Operand → AVal} {x y : Operand} {ev : Operand → Value} {a b : ByteArray} (hx : α x = vStr a) (hy : α y = vStr b) (h : ∀ z ∈ #[x, y], Rv κ (α z) (ev z)) : ∃ cv, (Extern.BytealgCompare.compare (#[x, y].map ev)).run Tryz.prog κ.w = .ok cv κ.w ∧ Rv κ (vInt (cmpS a b)) cv := by
  have h1 := h x (by simp); have h2 := h y (by simp)
  rw [hx] at h1
  rw [hy] at h2
  refine ⟨_, ?_, .lit _⟩
  rw [show #[x, y].map ev = #[ev x, ev y] from by simp, h1.litInv, h2.litInv, ← cmpS_eq]
  exact Lib.run_compareString a b κ.w
theorem compareString_c {a b : ByteArray} {σ : Store} : ACalls Tryz.prog 35 [vStr a, vStr b] σ fun v σ' => v = vInt (cmpS a b) ∧ σ = σ' := by
  refine ACalls_of Tryz.func35 rfl Tryz.ntmps35 (congrArg Array.toList Tryz.results35) (by simp only [List.length_cons, List.length_nil]; decide) ?_; simp only [envOf_cons, envOf_nil, Nat.reduceAdd]
  refine awp_seq ?_
  refine awp_region (by kernel_rfl) ?_
  (refine aL_S rfl rfl v_ ?_)
  refine aL_nil ?_
  refine awp_seq ?_
  refine awp_region (by kernel_rfl) ?_
  iterate 2 (refine aL_S rfl rfl v_ ?_)
  refine aL_X rfl rfl (AOp_extern rfl (e := Extern.BytealgCompare.compare) (by kernel_rfl) g_ (fun κ ev _ h => cmpStr_rv (a := a) (b := b) va_ va_ h) ?_)
  (refine aL_S rfl rfl v_ ?_)
  refine aL_nil ?_
  refine awp_ret ?_
  refine aEnd_ret (σ' := σ) v_ sub_ ?_
  exact ⟨rfl, rfl⟩
theorem strCompare_c {a b : ByteArray} {σ : Store} : ACalls Tryz.prog 19 [vStr a, vStr b] σ fun v σ' => v = vInt (cmpS a b) ∧ σ = σ' := by
  refine ACalls_of Tryz.func19 rfl Tryz.ntmps19 (congrArg Array.toList Tryz.results19) (by simp only [List.length_cons, List.length_nil]; decide) ?_; simp only [envOf_cons, envOf_nil, Nat.reduceAdd]
  refine awp_seq ?_
  refine awp_region (by kernel_rfl) ?_
  (refine aL_S rfl rfl v_ ?_)
  refine aL_nil ?_
  refine awp_seq ?_
  refine awp_region (by kernel_rfl) ?_
  iterate 2 (refine aL_S rfl rfl v_ ?_)
  refine aL_X rfl rfl (AOp_use rfl rfl (.inr ⟨rfl, rfl, rfl⟩) g_ va_ (compareString_c) ?_); rintro _ _ ⟨rfl, rfl⟩
  (refine aL_S rfl rfl v_ ?_)
  refine aL_nil ?_
  refine awp_ret ?_
  refine aEnd_ret (σ' := σ) v_ sub_ ?_
  exact ⟨rfl, rfl⟩
theorem isNaN_c {n : Int} {σ : Store} : ACalls Tryz.prog 154 [vInt n] σ fun v σ' => v = vB false ∧ σ = σ' := by
  refine ACalls_of Tryz.func154 rfl Tryz.ntmps154 (congrArg Array.toList Tryz.results154) (by simp only [List.length_cons, List.length_nil]; decide) ?_; simp only [envOf_cons, envOf_nil, Nat.reduceAdd]
  refine awp_seq ?_
  refine awp_region (by kernel_rfl) ?_
  (refine aL_S rfl rfl v_ ?_)
  refine aL_nil ?_
  refine awp_seq ?_
  refine awp_region (by kernel_rfl) ?_
  iterate 4 (refine aL_S rfl rfl v_ ?_)
  refine aL_nil ?_
  refine awp_ret ?_
  refine aEnd_ret (σ' := σ) v_ sub_ ?_
  exact ⟨by simp, rfl⟩
theorem intCompare_c {a b : Int} {σ : Store} : ACalls Tryz.prog 119 [vInt a, vInt b] σ fun v σ' => v = vInt (cmpI a b) ∧ σ = σ' := by
  refine ACalls_of Tryz.func119 rfl Tryz.ntmps119 (congrArg Array.toList Tryz.results119) (by simp only [List.length_cons, List.length_nil]; decide) ?_; simp only [envOf_cons, envOf_nil, Nat.reduceAdd]
  refine awp_seq ?_
  refine awp_region (by kernel_rfl) ?_
  (refine aL_S rfl rfl v_ ?_)
  refine aL_nil ?_
  refine awp_seq ?_
  refine awp_region (by kernel_rfl) ?_
  (refine aL_S rfl rfl v_ ?_)
  refine aL_X rfl rfl (AOp_use rfl rfl (.inr ⟨rfl, rfl, rfl⟩) g_ va_ (isNaN_c) ?_); rintro _ _ ⟨rfl, rfl⟩
  (refine aL_S rfl rfl v_ ?_)
  refine aL_nil ?_
  refine awp_seq ?_
  refine awp_region (by kernel_rfl) ?_
  (refine aL_S rfl rfl v_ ?_)
  refine aL_X rfl rfl (AOp_use rfl rfl (.inr ⟨rfl, rfl, rfl⟩) g_ va_ (isNaN_c) ?_); rintro _ _ ⟨rfl, rfl⟩
  (refine aL_S rfl rfl v_ ?_)
  refine aL_nil ?_
  refine awp_seq ?_
  refine awp_seq ?_
  refine awp_region (by kernel_rfl) ?_
  (refine aL_S rfl rfl v_ ?_)
  refine aL_nil ?_
  refine awp_cond v_ (fun hc3 => ?_) (fun hc3 => ?_)
  · replace hc3 := nm_ hc3
    cases hc3
  · replace hc3 := nm_ hc3
    refine awp_skip ?_
    refine awp_seq ?_
    refine awp_seq ?_
    refine awp_region (by kernel_rfl) ?_
    (refine aL_S rfl rfl v_ ?_)
    refine aL_nil ?_
    refine awp_cond v_ (fun hc7 => ?_) (fun hc7 => ?_)
    · replace hc7 := nm_ hc7
      cases hc7
    · replace hc7 := nm_ hc7
      refine awp_skip ?_
      refine awp_seq ?_
      refine awp_seq ?_
      refine awp_region (by kernel_rfl) ?_
      iterate 3 (refine aL_S rfl rfl v_ ?_)
      refine aL_nil ?_
      refine awp_cond v_ (fun hc9 => ?_) (fun hc9 => ?_)
      · replace hc9 := nm_ hc9
        refine awp_seq ?_
        refine awp_region (by kernel_rfl) ?_
        (refine aL_S rfl rfl v_ ?_)
        refine aL_nil ?_
        refine awp_ret ?_
        refine aEnd_ret (σ' := σ) v_ sub_ ?_
        exact ⟨by rw [cmpI, if_pos hc9], rfl⟩
      · replace hc9 := nm_ hc9
        refine awp_skip ?_
        refine awp_seq ?_
        refine awp_seq ?_
        refine awp_region (by kernel_rfl) ?_
        iterate 3 (refine aL_S rfl rfl v_ ?_)
        refine aL_nil ?_
        refine awp_cond v_ (fun hc11 => ?_) (fun hc11 => ?_)
        · replace hc11 := nm_ hc11
          refine awp_seq ?_
          refine awp_region (by kernel_rfl) ?_
          (refine aL_S rfl rfl v_ ?_)
          refine aL_nil ?_
          refine awp_ret ?_
          refine aEnd_ret (σ' := σ) v_ sub_ ?_
          exact ⟨by rw [cmpI, if_neg (by omega), if_pos hc11], rfl⟩
        · replace hc11 := nm_ hc11
          refine awp_skip ?_
          refine awp_seq ?_
          refine awp_region (by kernel_rfl) ?_
          (refine aL_S rfl rfl v_ ?_)
          refine aL_nil ?_
          refine awp_ret ?_
          refine aEnd_ret (σ' := σ) v_ sub_ ?_
          exact ⟨by rw [cmpI, if_neg (by omega), if_neg (by omega)], rfl⟩
theorem or2_c {a b : Int} {t : Bool} {σ : Store} : ACalls Tryz.prog 118 [.sl 1 [vInt a, vInt b] t] σ fun v σ' => v = vInt (if a ≠ 0 then a else b) ∧ σ = σ' := by
  refine ACalls_of Tryz.func118 rfl Tryz.ntmps118 (congrArg Array.toList Tryz.results118) (by simp only [List.length_cons, List.length_nil]; decide) ?_; simp only [envOf_cons, envOf_nil, Nat.reduceAdd]
  refine awp_seq ?_
  refine awp_region (by kernel_rfl) ?_
  (refine aL_S rfl rfl v_ ?_)
  refine aL_nil ?_
  refine awp_seq ?_
  refine awp_region (by kernel_rfl) ?_
  (refine aL_S rfl rfl v_ ?_)
  refine aL_nil ?_
  refine awp_seq ?_
  refine awp_seq ?_
  refine awp_region (by kernel_rfl) ?_
  iterate 3 (refine aL_S rfl rfl v_ ?_)
  refine aL_nil ?_
  refine awp_block ?_
  refine awp_loop_env (ι := Nat) (fun k => 2 - k) (fun k => k ≤ 2 ∧ (1 ≤ k → a = 0) ∧ (2 ≤ k → b = 0)) (fun k => [(3, vInt 0), (6, .sl 1 [vInt a, vInt b] t), (7, vInt 2), (8, vInt k)]) (fun k => σ) 0 ?_ ?_ ?_ ?_
  · exact ⟨Nat.zero_le _, fun h => by omega, fun h => by omega⟩
  · exact cv_
  · exact sub_
  rintro k ⟨hk, h1, h2⟩
  simp only [envL_cons, envL_nil]
  refine awp_seq ?_
  refine awp_region (by kernel_rfl) ?_
  (refine aL_S rfl rfl v_ ?_)
  refine aL_nil ?_
  refine awp_seq ?_
  refine awp_cond v_ (fun hc3 => ?_) (fun hc3 => ?_)
  · replace hc3 := nm_ hc3
    refine awp_skip ?_
    refine awp_seq ?_
    refine awp_block ?_
    refine awp_seq ?_
    skip
    obtain ⟨x, hxk, hx0, hx1⟩ : ∃ x, [vInt a, vInt b][k]? = some (vInt x) ∧ (k = 0 → x = a) ∧ (k = 1 → x = b) := by
      match k, (show k < 2 by omega) with
      | 0, _ => exact ⟨a, rfl, fun _ => rfl, fun h => by cases h⟩
      | 1, _ => exact ⟨b, rfl, (fun h => by cases h), fun _ => rfl⟩
    have R := hxk
    refine awp_region (by kernel_rfl) ?_
    iterate 3 (refine aL_S rfl rfl v_ ?_)
    refine aL_nil ?_
    refine awp_seq ?_
    refine awp_region (by kernel_rfl) ?_
    iterate 3 (refine aL_S rfl rfl v_ ?_)
    refine aL_nil ?_
    refine awp_cond v_ (fun hc5 => ?_) (fun hc5 => ?_)
    · replace hc5 := nm_ hc5
      refine awp_seq ?_
      refine awp_region (by kernel_rfl) ?_
      iterate 2 (refine aL_S rfl rfl v_ ?_)
      refine aL_nil ?_
      refine awp_ret ?_
      refine aEnd_ret (σ' := σ) v_ sub_ ?_
      refine ⟨?_, rfl⟩
      rcases Nat.lt_or_ge k 1 with h | h
      · obtain rfl := hx0 (by omega)
        rw [if_pos hc5]
      · obtain rfl := hx1 (by omega)
        rw [if_neg (by rw [h1 h]; simp)]
    · replace hc5 := nm_ hc5
      have hs1 : a = 0 := by rcases Nat.lt_or_ge k 1 with h | h; exact (hx0 (by omega)) ▸ hc5; exact h1 h
      have hs2 : 2 ≤ k + 1 → b = 0 := fun h => (hx1 (by omega)) ▸ hc5
      refine awp_skip ?_
      refine awp_region (by kernel_rfl) ?_
      iterate 2 (refine aL_S rfl rfl v_ ?_)
      refine aL_nil ?_
      refine aNext (ι := Nat) (i := k) (k + 1) ?_ ?_ ?_ ?_
      · omega
      · exact ⟨by omega, fun _ => hs1, fun h => hs2 h⟩
      · exact cv_
      · exact sub_
  · replace hc3 := nm_ hc3
    refine awp_exit ?_
    refine aThen_exit ?_
    refine aThen_exit ?_
    refine aBlock_hit ?_
    refine awp_seq ?_
    refine awp_region (by kernel_rfl) ?_
    iterate 2 (refine aL_S rfl rfl v_ ?_)
    refine aL_nil ?_
    refine awp_ret ?_
    refine aEnd_ret (σ' := σ) v_ sub_ ?_
    refine ⟨?_, rfl⟩
    rw [if_neg (by rw [h1 (by omega)]; simp), h2 (by omega)]
theorem compare_c {s s' : ByteArray} {n n' : Int} {σ : Store} : ACalls Tryz.prog 86 [sDot s n, sDot s' n'] σ fun v σ' => v = vInt (cmpD s n s' n') ∧ σ = σ' := by
  refine ACalls_of Tryz.func86 rfl Tryz.ntmps86 (congrArg Array.toList Tryz.results86) (by simp only [List.length_cons, List.length_nil]; decide) ?_; simp only [envOf_cons, envOf_nil, Nat.reduceAdd]
  refine awp_seq ?_
  refine awp_region (by kernel_rfl) ?_
  refine aL_box rfl rfl rfl v_ rfl g_ fun o2 ho2 => ?_
  repeat (rw [none_set_iff] at ho2; obtain ⟨_, ho2⟩ := ho2)
  refine aL_box rfl rfl rfl v_ rfl g_ fun o3 ho3 => ?_
  repeat (rw [none_set_iff] at ho3; obtain ⟨_, ho3⟩ := ho3)
  (refine aL_S rfl rfl v_ ?_)
  refine aL_nil ?_
  refine awp_seq ?_
  refine awp_draw (.op 0 0 (.op 1 0 (.op 2 0 (.op 3 0 (.op 5 0 (.op 6 0 (.op 7 0 (.op 8 0 (.op 4 1 (.op 9 1 (.op 10 1 (.op 11 1 (.op 12 0 .nil))))))))))))) Tryz.mixed (by kernel_rfl) ?_
  iterate 8 (refine dR_S o_ (by rfl) (by rfl) v_ ?_)
  refine dR_X o_ (by rfl) (by rfl) (AOp_use (by rfl) (by rfl) (.inr ⟨by rfl, by rfl, by rfl⟩) g_ va_ (strCompare_c) ?_); rintro _ _ ⟨rfl, rfl⟩; refine ⟨sub_, ?_⟩
  refine dR_X o_ (by rfl) (by rfl) (AOp_use (by rfl) (by rfl) (.inr ⟨by rfl, by rfl, by rfl⟩) g_ va_ (intCompare_c) ?_); rintro _ _ ⟨rfl, rfl⟩; refine ⟨sub_, ?_⟩
  refine dR_X o_ (by rfl) (by rfl) (AOp_buildSlice' (by rfl) g_ g_ (by rfl) (by rfl) h_ c2_ (by decide) ⟨sub_, ?_⟩)
  refine dR_X o_ (by rfl) (by rfl) (AOp_use (by rfl) (by rfl) (.inr ⟨by rfl, by rfl, by rfl⟩) g_ va_ (or2_c (a := cmpS s s') (b := cmpI n n')) ?_); rintro _ _ ⟨rfl, rfl⟩; refine ⟨sub_, ?_⟩
  (refine dR_S o_ (by rfl) (by rfl) v_ ?_)
  refine dR_nil ?_
  refine awp_ret ?_
  refine aEnd_ret (σ' := σ) v_ sub_ ?_
  exact ⟨rfl, rfl⟩
theorem order_c {x y : Sib} {σ : Store} : ACalls Tryz.prog 41 [sSib x, sSib y] σ fun v σ' => v = vInt (cmpD x.node x.n y.node y.n) ∧ σ = σ' := by
  refine ACalls_of Tryz.func41 rfl Tryz.ntmps41 (congrArg Array.toList Tryz.results41) (by simp only [List.length_cons, List.length_nil]; decide) ?_; simp only [envOf_cons, envOf_nil, Nat.reduceAdd]
  refine awp_seq ?_
  refine awp_region (by kernel_rfl) ?_
  refine aL_box rfl rfl rfl v_ rfl g_ fun o2 ho2 => ?_
  repeat (rw [none_set_iff] at ho2; obtain ⟨_, ho2⟩ := ho2)
  refine aL_box rfl rfl rfl v_ rfl g_ fun o3 ho3 => ?_
  repeat (rw [none_set_iff] at ho3; obtain ⟨_, ho3⟩ := ho3)
  (refine aL_S rfl rfl v_ ?_)
  refine aL_nil ?_
  refine awp_seq ?_
  refine awp_region (by kernel_rfl) ?_
  iterate 4 (refine aL_S rfl rfl v_ ?_)
  refine aL_X rfl rfl (AOp_use rfl rfl (.inr ⟨rfl, rfl, rfl⟩) g_ va_ (compare_c) ?_); rintro _ _ ⟨rfl, rfl⟩
  (refine aL_S rfl rfl v_ ?_)
  refine aL_nil ?_
  refine awp_ret ?_
  refine aEnd_ret (σ' := σ) v_ sub_ ?_
  exact ⟨rfl, rfl⟩
def lessD (s : ByteArray) (n : Int) (s' : ByteArray) (n' : Int) : Bool := sLt s s' || (decide (s = s') && decide (n < n'))
theorem rLess_c {s s' : ByteArray} {n n' : Int} {σ : Store} : ACalls Tryz.prog 55 [sDot s n, sDot s' n'] σ fun v σ' => v = vB (lessD s n s' n') ∧ σ = σ' := by
  refine ACalls_of Tryz.func55 rfl Tryz.ntmps55 (congrArg Array.toList Tryz.results55) (by simp only [List.length_cons, List.length_nil]; decide) ?_; simp only [envOf_cons, envOf_nil, Nat.reduceAdd]
  refine awp_seq ?_
  refine awp_region (by kernel_rfl) ?_
  refine aL_box rfl rfl rfl v_ rfl g_ fun o2 ho2 => ?_
  repeat (rw [none_set_iff] at ho2; obtain ⟨_, ho2⟩ := ho2)
  refine aL_box rfl rfl rfl v_ rfl g_ fun o3 ho3 => ?_
  repeat (rw [none_set_iff] at ho3; obtain ⟨_, ho3⟩ := ho3)
  (refine aL_S rfl rfl v_ ?_)
  refine aL_nil ?_
  refine awp_seq ?_
  refine awp_region (by kernel_rfl) ?_
  iterate 6 (refine aL_S rfl rfl v_ ?_)
  refine aL_GF rfl rfl v_ rfl vg_ ?_
  refine aL_GF rfl rfl v_ rfl vg_ ?_
  refine aL_GF rfl rfl v_ rfl vg_ ?_
  refine aL_GF rfl rfl v_ rfl vg_ ?_
  refine aL_GF rfl rfl v_ rfl vg_ ?_
  refine aL_GF rfl rfl v_ rfl vg_ ?_
  refine aL_GGT rfl rfl v_ rfl vg_ ?_
  refine aL_GGT rfl rfl v_ rfl vg_ ?_
  refine aL_GGT rfl rfl v_ rfl vg_ ?_
  refine aL_GGT rfl rfl v_ rfl vg_ ?_
  refine aL_GGT rfl rfl v_ rfl vg_ ?_
  refine aL_GF rfl rfl v_ rfl vg_ ?_
  iterate 2 (refine aL_S rfl rfl v_ ?_)
  refine aL_nil ?_
  refine awp_ret ?_
  refine aEnd_ret (σ' := σ) v_ sub_ ?_
  refine ⟨?_, rfl⟩
  simp only [lessD]
  try (cases h1 : sLt s s' <;> by_cases h2 : s = s' <;> simp [h1, h2])
theorem cmpD_less (s : ByteArray) (n : Int) (s' : ByteArray) (n' : Int) : (cmpD s n s' n' < 0) ↔ lessD s n s' n' = true := by
  unfold cmpD lessD cmpS cmpI
  cases h1 : sLt s s' <;> by_cases h2 : s = s' <;> simp [h2]
  by_cases h3 : n < n' <;> by_cases h4 : n' < n <;> simp [h3, h4]
end Go.Proofs.YtbomkkjhafdhiaaGreat
end

section
set_option linter.all false
set_option maxRecDepth 100000
namespace Go.Proofs.YtbomkkjhafdhiaaGreat
open Go.Ab
abbrev vNil : AVal := .lit (.slice none 0 0)
theorem lits_one {α : Type} (f : α → AVal) (h : ∀ x, ∀ c ∈ (f x).cells, c.one = true) (l : List α) : ∀ y ∈ l.map f, ∀ c ∈ y.cells, c.one = true := fun y hy => by
  obtain ⟨x, _, rfl⟩ := List.mem_map.1 hy
  exact h x
theorem lits_sz {α : Type} (f : α → AVal) {n : Nat} (h : ∀ x, (f x).cells.length = n) (l : List α) : ∀ y ∈ l.map f, y.cells.length = n := fun y hy => by
  obtain ⟨x, _, rfl⟩ := List.mem_map.1 hy
  exact h x

def cbk {α : Type} (L1 L2 : List α) (k : Nat) : List α := if k = 0 then [] else if k = 1 then L1 else L1 ++ L2
theorem oneSeen (l : List Seen) : ∀ y ∈ l.map sSeen, ∀ c ∈ y.cells, c.one = true := lits_one sSeen (fun x c hc => by simp [AVal.cells] at hc; (try rcases hc with rfl | rfl | rfl | rfl | rfl); (try rcases hc with rfl | rfl | rfl); (try subst hc); all_goals rfl) l
theorem szSeen (l : List Seen) : ∀ y ∈ l.map sSeen, y.cells.length = 3 := lits_sz sSeen (fun x => rfl) l
theorem growSeen_c {n : Nat} {σ : Store} (hn : n ≤ 1000000000) : ACalls Tryz.prog 112 [vNil, vInt n] σ fun v σ' => CBp σ σ' 3 [] v := by
  refine ACalls_of Tryz.func112 rfl Tryz.ntmps112 (congrArg Array.toList Tryz.results112) (by simp only [List.length_cons, List.length_nil]; decide) ?_; simp only [envOf_cons, envOf_nil, Nat.reduceAdd]
  refine awp_seq ?_
  refine awp_region (by kernel_rfl) ?_
  (refine aL_S rfl rfl v_ ?_)
  refine aL_nil ?_
  refine awp_seq ?_
  refine awp_seq ?_
  refine awp_region (by kernel_rfl) ?_
  iterate 2 (refine aL_S rfl rfl v_ ?_)
  refine aL_nil ?_
  refine awp_cond v_ (fun hc1 => ?_) (fun hc1 => ?_)
  · replace hc1 := nm_ hc1
    omega
  · replace hc1 := nm_ hc1
    refine awp_skip ?_
    refine awp_seq ?_
    refine awp_seq ?_
    refine awp_region (by kernel_rfl) ?_
    iterate 2 (refine aL_S rfl rfl v_ ?_)
    refine aL_X rfl rfl (AOp_capNil rfl g_ va_ ?_)
    iterate 5 (refine aL_S rfl rfl v_ ?_)
    refine aL_nil ?_
    refine awp_seq ?_
    refine awp_region (by kernel_rfl) ?_
    iterate 2 (refine aL_S rfl rfl v_ ?_)
    refine aL_nil ?_
    refine awp_cond v_ (fun hc4 => ?_) (fun hc4 => ?_)
    · replace hc4 := nm_ hc4
      refine awp_region (by kernel_rfl) ?_
      iterate 2 (refine aL_S rfl rfl v_ ?_)
      refine aL_X rfl rfl (AOp_capNil rfl g_ va_ ?_)
      iterate 2 (refine aL_S rfl rfl v_ ?_)
      refine aL_X rfl rfl (AOp_appendMake (n := n) rfl g_ g_ g_ va_ va_ (by omega) (by omega) fun o22 ho22 => ?_)
      iterate 4 (refine aL_S rfl rfl v_ ?_)
      refine aL_nil ?_
      refine awp_seq ?_
      refine awp_region (by kernel_rfl) ?_
      iterate 2 (refine aL_S rfl rfl v_ ?_)
      refine aL_nil ?_
      refine awp_ret ?_
      refine aEnd_ret v_ (Store.Wk.refl _) ?_
      exact .inr ⟨o22, ho22, rfl, rfl⟩
    · replace hc4 := nm_ hc4
      refine awp_skip ?_
      refine awp_seq ?_
      refine awp_region (by kernel_rfl) ?_
      iterate 2 (refine aL_S rfl rfl v_ ?_)
      refine aL_nil ?_
      refine awp_ret ?_
      refine aEnd_ret v_ (Store.Wk.refl _) ?_
      exact .inl ⟨rfl, rfl, rfl⟩
theorem concatSeen_c {L1 L2 : List Seen} {t1 t2 tt : Bool} {σ : Store} (h1 : L1.length ≤ 10000000) (h2 : L2.length ≤ 10000000) :
    ACalls Tryz.prog 76 [.sl 1 [.sl 3 (L1.map sSeen) t1, .sl 3 (L2.map sSeen) t2] tt] σ fun v σ' => CBp σ σ' 3 ((L1 ++ L2).map sSeen) v := by
  refine ACalls_of Tryz.func76 rfl Tryz.ntmps76 (congrArg Array.toList Tryz.results76) (by simp only [List.length_cons, List.length_nil]; decide) ?_; simp only [envOf_cons, envOf_nil, Nat.reduceAdd]
  refine awp_seq ?_
  refine awp_region (by kernel_rfl) ?_
  (refine aL_S rfl rfl v_ ?_)
  refine aL_nil ?_
  refine awp_seq ?_
  refine awp_region (by kernel_rfl) ?_
  (refine aL_S rfl rfl v_ ?_)
  refine aL_nil ?_
  refine awp_seq ?_
  refine awp_seq ?_
  refine awp_region (by kernel_rfl) ?_
  iterate 3 (refine aL_S rfl rfl v_ ?_)
  refine aL_nil ?_
  refine awp_block ?_
  refine awp_loop_env (ι := Nat) (fun k => 2 - k) (fun k => k ≤ 2) (fun k => [(0, .sl 1 [.sl 3 (L1.map sSeen) t1, .sl 3 (L2.map sSeen) t2] tt), (3, vInt ((if k = 0 then 0 else if k = 1 then L1.length else L1.length + L2.length : Nat) : Int)), (9, .sl 1 [.sl 3 (L1.map sSeen) t1, .sl 3 (L2.map sSeen) t2] tt), (10, vInt 2), (11, vInt k)]) (fun k => σ) 0 ?_ ?_ ?_ ?_
  · exact Nat.zero_le _
  · exact cv_
  · exact sub_
  rintro k hk
  simp only [envL_cons, envL_nil]
  refine awp_seq ?_
  refine awp_region (by kernel_rfl) ?_
  (refine aL_S rfl rfl v_ ?_)
  refine aL_nil ?_
  refine awp_seq ?_
  refine awp_cond v_ (fun hc3 => ?_) (fun hc3 => ?_)
  · replace hc3 := nm_ hc3
    refine awp_skip ?_
    refine awp_seq ?_
    refine awp_block ?_
    refine awp_seq ?_
    rcases (show k = 0 ∨ k = 1 by omega) with rfl | rfl
    · refine awp_region (by kernel_rfl) ?_
      iterate 3 (refine aL_S rfl rfl v_ ?_)
      refine aL_nil ?_
      refine awp_seq ?_
      refine awp_region (by kernel_rfl) ?_
      iterate 5 (refine aL_S rfl rfl v_ ?_)
      refine aL_nil ?_
      refine awp_seq ?_
      refine awp_region (by kernel_rfl) ?_
      iterate 2 (refine aL_S rfl rfl v_ ?_)
      refine aL_nil ?_
      refine awp_cond v_ (fun hc6 => ?_) (fun hc6 => ?_)
      · replace hc6 := nm_ hc6
        omega
      · replace hc6 := nm_ hc6
        refine awp_skip ?_
        refine awp_region (by kernel_rfl) ?_
        iterate 2 (refine aL_S rfl rfl v_ ?_)
        refine aL_nil ?_
        refine aNext (ι := Nat) (i := 0) 1 ?_ ?_ ?_ ?_
        · decide
        · decide
        · have R := (show ((0 : Nat) : Int) + (L1.length : Int) = (L1.length : Int) from by omega); exact cv_
        · exact sub_
    · refine awp_region (by kernel_rfl) ?_
      iterate 3 (refine aL_S rfl rfl v_ ?_)
      refine aL_nil ?_
      refine awp_seq ?_
      refine awp_region (by kernel_rfl) ?_
      iterate 5 (refine aL_S rfl rfl v_ ?_)
      refine aL_nil ?_
      refine awp_seq ?_
      refine awp_region (by kernel_rfl) ?_
      iterate 2 (refine aL_S rfl rfl v_ ?_)
      refine aL_nil ?_
      refine awp_cond v_ (fun hc6 => ?_) (fun hc6 => ?_)
      · replace hc6 := nm_ hc6
        omega
      · replace hc6 := nm_ hc6
        refine awp_skip ?_
        refine awp_region (by kernel_rfl) ?_
        iterate 2 (refine aL_S rfl rfl v_ ?_)
        refine aL_nil ?_
        refine aNext (ι := Nat) (i := 1) 2 ?_ ?_ ?_ ?_
        · decide
        · decide
        · exact cv_
        · exact sub_
  · replace hc3 := nm_ hc3
    refine awp_exit ?_
    refine aThen_exit ?_
    refine aThen_exit ?_
    refine aBlock_hit ?_
    refine awp_seq ?_
    obtain rfl : k = 2 := by omega
    refine awp_region (by kernel_rfl) ?_
    (refine aL_S rfl rfl v_ ?_)
    refine aL_X rfl rfl (AOp_use rfl rfl (.inr ⟨rfl, rfl, rfl⟩) g_ va_ (growSeen_c (n := L1.length + L2.length) (by omega)) ?_); rintro _ τ0 hC0
    rename_i b0
    (refine aL_S rfl rfl v_ ?_)
    refine aL_nil ?_
    refine awp_seq ?_
    refine awp_seq ?_
    refine awp_region (by kernel_rfl) ?_
    iterate 3 (refine aL_S rfl rfl v_ ?_)
    refine aL_nil ?_
    refine awp_block ?_
    refine awp_loop_env (ι := Store × AVal × Nat) (fun ⟨τ, b, k⟩ => 2 - k) (fun ⟨τ, b, k⟩ => k ≤ 2 ∧ CBp σ τ 3 ((cbk L1 L2 k).map sSeen) b) (fun ⟨τ, b, k⟩ => [(6, b), (25, .sl 1 [.sl 3 (L1.map sSeen) t1, .sl 3 (L2.map sSeen) t2] tt), (26, vInt 2), (27, vInt k)]) (fun ⟨τ, b, k⟩ => τ) (τ0, b0, 0) ?_ ?_ ?_ ?_
    · exact ⟨Nat.zero_le _, hC0⟩
    · exact cv_
    · exact Store.Wk.refl _
    rintro ⟨τ, b, k⟩ ⟨hk, hC⟩
    simp only [envL_cons, envL_nil]
    refine awp_seq ?_
    refine awp_region (by kernel_rfl) ?_
    (refine aL_S rfl rfl v_ ?_)
    refine aL_nil ?_
    refine awp_seq ?_
    refine awp_cond v_ (fun hc11 => ?_) (fun hc11 => ?_)
    · replace hc11 := nm_ hc11
      refine awp_skip ?_
      refine awp_seq ?_
      refine awp_block ?_
      refine awp_seq ?_
      rcases (show k = 0 ∨ k = 1 by omega) with rfl | rfl
      · refine awp_region (by kernel_rfl) ?_
        iterate 3 (refine aL_S rfl rfl v_ ?_)
        refine aL_nil ?_
        refine awp_region (by kernel_rfl) ?_
        iterate 2 (refine aL_S rfl rfl v_ ?_)
        refine aL_X rfl rfl (AOp_appendC rfl g_ g_ hC va_ (szSeen _) va_ (oneSeen _) (by simp [cbk]; omega) fun a' σ' hC' => ?_)
        (refine aL_S rfl rfl v_ ?_)
        refine aL_nil ?_
        refine awp_region (by kernel_rfl) ?_
        iterate 2 (refine aL_S rfl rfl v_ ?_)
        refine aL_nil ?_
        refine aNext (ι := Store × AVal × Nat) (i := (τ, b, 0)) (σ', a', 1) ?_ ?_ ?_ ?_
        · show 2 - 1 < 2 - 0; decide
        · exact ⟨by show 1 ≤ 2; decide, by simpa [cbk] using hC'⟩
        · exact cv_
        · exact Store.Wk.refl _
      · refine awp_region (by kernel_rfl) ?_
        iterate 3 (refine aL_S rfl rfl v_ ?_)
        refine aL_nil ?_
        refine awp_region (by kernel_rfl) ?_
        iterate 2 (refine aL_S rfl rfl v_ ?_)
        refine aL_X rfl rfl (AOp_appendC rfl g_ g_ hC va_ (szSeen _) va_ (oneSeen _) (by simp [cbk]; omega) fun a' σ' hC' => ?_)
        (refine aL_S rfl rfl v_ ?_)
        refine aL_nil ?_
        refine awp_region (by kernel_rfl) ?_
        iterate 2 (refine aL_S rfl rfl v_ ?_)
        refine aL_nil ?_
        refine aNext (ι := Store × AVal × Nat) (i := (τ, b, 1)) (σ', a', 2) ?_ ?_ ?_ ?_
        · show 2 - 2 < 2 - 1; decide
        · exact ⟨by show 2 ≤ 2; decide, by simpa [cbk] using hC'⟩
        · exact cv_
        · exact Store.Wk.refl _
    · replace hc11 := nm_ hc11
      refine awp_exit ?_
      refine aThen_exit ?_
      refine aThen_exit ?_
      refine aBlock_hit ?_
      refine awp_seq ?_
      obtain rfl : k = 2 := by omega
      refine awp_region (by kernel_rfl) ?_
      iterate 2 (refine aL_S rfl rfl v_ ?_)
      refine aL_nil ?_
      refine awp_ret ?_
      refine aEnd_ret v_ (Store.Wk.refl _) ?_
      exact hC
theorem oneInt (l : List Int) : ∀ y ∈ l.map vInt, ∀ c ∈ y.cells, c.one = true := lits_one vInt (fun x c hc => by simp [AVal.cells] at hc; (try rcases hc with rfl | rfl | rfl | rfl | rfl); (try rcases hc with rfl | rfl | rfl); (try subst hc); all_goals rfl) l
theorem szInt (l : List Int) : ∀ y ∈ l.map vInt, y.cells.length = 1 := lits_sz vInt (fun x => rfl) l
theorem growInt_c {n : Nat} {σ : Store} (hn : n ≤ 1000000000) : ACalls Tryz.prog 150 [vNil, vInt n] σ fun v σ' => CBp σ σ' 1 [] v := by
  refine ACalls_of Tryz.func150 rfl Tryz.ntmps150 (congrArg Array.toList Tryz.results150) (by simp only [List.length_cons, List.length_nil]; decide) ?_; simp only [envOf_cons, envOf_nil, Nat.reduceAdd]
  refine awp_seq ?_
  refine awp_region (by kernel_rfl) ?_
  (refine aL_S rfl rfl v_ ?_)
  refine aL_nil ?_
  refine awp_seq ?_
  refine awp_seq ?_
  refine awp_region (by kernel_rfl) ?_
  iterate 2 (refine aL_S rfl rfl v_ ?_)
  refine aL_nil ?_
  refine awp_cond v_ (fun hc1 => ?_) (fun hc1 => ?_)
  · replace hc1 := nm_ hc1
    omega
  · replace hc1 := nm_ hc1
    refine awp_skip ?_
    refine awp_seq ?_
    refine awp_seq ?_
    refine awp_region (by kernel_rfl) ?_
    iterate 2 (refine aL_S rfl rfl v_ ?_)
    refine aL_X rfl rfl (AOp_capNil rfl g_ va_ ?_)
    iterate 5 (refine aL_S rfl rfl v_ ?_)
    refine aL_nil ?_
    refine awp_seq ?_
    refine awp_region (by kernel_rfl) ?_
    iterate 2 (refine aL_S rfl rfl v_ ?_)
    refine aL_nil ?_
    refine awp_cond v_ (fun hc4 => ?_) (fun hc4 => ?_)
    · replace hc4 := nm_ hc4
      refine awp_region (by kernel_rfl) ?_
      iterate 2 (refine aL_S rfl rfl v_ ?_)
      refine aL_X rfl rfl (AOp_capNil rfl g_ va_ ?_)
      iterate 2 (refine aL_S rfl rfl v_ ?_)
      refine aL_X rfl rfl (AOp_appendMake (n := n) rfl g_ g_ g_ va_ va_ (by omega) (by omega) fun o22 ho22 => ?_)
      iterate 4 (refine aL_S rfl rfl v_ ?_)
      refine aL_nil ?_
      refine awp_seq ?_
      refine awp_region (by kernel_rfl) ?_
      iterate 2 (refine aL_S rfl rfl v_ ?_)
      refine aL_nil ?_
      refine awp_ret ?_
      refine aEnd_ret v_ (Store.Wk.refl _) ?_
      exact .inr ⟨o22, ho22, rfl, rfl⟩
    · replace hc4 := nm_ hc4
      refine awp_skip ?_
      refine awp_seq ?_
      refine awp_region (by kernel_rfl) ?_
      iterate 2 (refine aL_S rfl rfl v_ ?_)
      refine aL_nil ?_
      refine awp_ret ?_
      refine aEnd_ret v_ (Store.Wk.refl _) ?_
      exact .inl ⟨rfl, rfl, rfl⟩
theorem concatInt_c {L1 L2 : List Int} {t1 t2 tt : Bool} {σ : Store} (h1 : L1.length ≤ 10000000) (h2 : L2.length ≤ 10000000) :
    ACalls Tryz.prog 114 [.sl 1 [.sl 1 (L1.map vInt) t1, .sl 1 (L2.map vInt) t2] tt] σ fun v σ' => CBp σ σ' 1 ((L1 ++ L2).map vInt) v := by
  refine ACalls_of Tryz.func114 rfl Tryz.ntmps114 (congrArg Array.toList Tryz.results114) (by simp only [List.length_cons, List.length_nil]; decide) ?_; simp only [envOf_cons, envOf_nil, Nat.reduceAdd]
  refine awp_seq ?_
  refine awp_region (by kernel_rfl) ?_
  (refine aL_S rfl rfl v_ ?_)
  refine aL_nil ?_
  refine awp_seq ?_
  refine awp_region (by kernel_rfl) ?_
  (refine aL_S rfl rfl v_ ?_)
  refine aL_nil ?_
  refine awp_seq ?_
  refine awp_seq ?_
  refine awp_region (by kernel_rfl) ?_
  iterate 3 (refine aL_S rfl rfl v_ ?_)
  refine aL_nil ?_
  refine awp_block ?_
  refine awp_loop_env (ι := Nat) (fun k => 2 - k) (fun k => k ≤ 2) (fun k => [(0, .sl 1 [.sl 1 (L1.map vInt) t1, .sl 1 (L2.map vInt) t2] tt), (3, vInt ((if k = 0 then 0 else if k = 1 then L1.length else L1.length + L2.length : Nat) : Int)), (9, .sl 1 [.sl 1 (L1.map vInt) t1, .sl 1 (L2.map vInt) t2] tt), (10, vInt 2), (11, vInt k)]) (fun k => σ) 0 ?_ ?_ ?_ ?_
  · exact Nat.zero_le _
  · exact cv_
  · exact sub_
  rintro k hk
  simp only [envL_cons, envL_nil]
  refine awp_seq ?_
  refine awp_region (by kernel_rfl) ?_
  (refine aL_S rfl rfl v_ ?_)
  refine aL_nil ?_
  refine awp_seq ?_
  refine awp_cond v_ (fun hc3 => ?_) (fun hc3 => ?_)
  · replace hc3 := nm_ hc3
    refine awp_skip ?_
    refine awp_seq ?_
    refine awp_block ?_
    refine awp_seq ?_
    rcases (show k = 0 ∨ k = 1 by omega) with rfl | rfl
    · refine awp_region (by kernel_rfl) ?_
      iterate 3 (refine aL_S rfl rfl v_ ?_)
      refine aL_nil ?_
      refine awp_seq ?_
      refine awp_region (by kernel_rfl) ?_
      iterate 5 (refine aL_S rfl rfl v_ ?_)
      refine aL_nil ?_
      refine awp_seq ?_
      refine awp_region (by kernel_rfl) ?_
      iterate 2 (refine aL_S rfl rfl v_ ?_)
      refine aL_nil ?_
      refine awp_cond v_ (fun hc6 => ?_) (fun hc6 => ?_)
      · replace hc6 := nm_ hc6
        omega
      · replace hc6 := nm_ hc6
        refine awp_skip ?_
        refine awp_region (by kernel_rfl) ?_
        iterate 2 (refine aL_S rfl rfl v_ ?_)
        refine aL_nil ?_
        refine aNext (ι := Nat) (i := 0) 1 ?_ ?_ ?_ ?_
        · decide
        · decide
        · have R := (show ((0 : Nat) : Int) + (L1.length : Int) = (L1.length : Int) from by omega); exact cv_
        · exact sub_
    · refine awp_region (by kernel_rfl) ?_
      iterate 3 (refine aL_S rfl rfl v_ ?_)
      refine aL_nil ?_
      refine awp_seq ?_
      refine awp_region (by kernel_rfl) ?_
      iterate 5 (refine aL_S rfl rfl v_ ?_)
      refine aL_nil ?_
      refine awp_seq ?_
      refine awp_region (by kernel_rfl) ?_
      iterate 2 (refine aL_S rfl rfl v_ ?_)
      refine aL_nil ?_
      refine awp_cond v_ (fun hc6 => ?_) (fun hc6 => ?_)
      · replace hc6 := nm_ hc6
        omega
      · replace hc6 := nm_ hc6
        refine awp_skip ?_
        refine awp_region (by kernel_rfl) ?_
        iterate 2 (refine aL_S rfl rfl v_ ?_)
        refine aL_nil ?_
        refine aNext (ι := Nat) (i := 1) 2 ?_ ?_ ?_ ?_
        · decide
        · decide
        · exact cv_
        · exact sub_
  · replace hc3 := nm_ hc3
    refine awp_exit ?_
    refine aThen_exit ?_
    refine aThen_exit ?_
    refine aBlock_hit ?_
    refine awp_seq ?_
    obtain rfl : k = 2 := by omega
    refine awp_region (by kernel_rfl) ?_
    (refine aL_S rfl rfl v_ ?_)
    refine aL_X rfl rfl (AOp_use rfl rfl (.inr ⟨rfl, rfl, rfl⟩) g_ va_ (growInt_c (n := L1.length + L2.length) (by omega)) ?_); rintro _ τ0 hC0
    rename_i b0
    (refine aL_S rfl rfl v_ ?_)
    refine aL_nil ?_
    refine awp_seq ?_
    refine awp_seq ?_
    refine awp_region (by kernel_rfl) ?_
    iterate 3 (refine aL_S rfl rfl v_ ?_)
    refine aL_nil ?_
    refine awp_block ?_
    refine awp_loop_env (ι := Store × AVal × Nat) (fun ⟨τ, b, k⟩ => 2 - k) (fun ⟨τ, b, k⟩ => k ≤ 2 ∧ CBp σ τ 1 ((cbk L1 L2 k).map vInt) b) (fun ⟨τ, b, k⟩ => [(6, b), (25, .sl 1 [.sl 1 (L1.map vInt) t1, .sl 1 (L2.map vInt) t2] tt), (26, vInt 2), (27, vInt k)]) (fun ⟨τ, b, k⟩ => τ) (τ0, b0, 0) ?_ ?_ ?_ ?_
    · exact ⟨Nat.zero_le _, hC0⟩
    · exact cv_
    · exact Store.Wk.refl _
    rintro ⟨τ, b, k⟩ ⟨hk, hC⟩
    simp only [envL_cons, envL_nil]
    refine awp_seq ?_
    refine awp_region (by kernel_rfl) ?_
    (refine aL_S rfl rfl v_ ?_)
    refine aL_nil ?_
    refine awp_seq ?_
    refine awp_cond v_ (fun hc11 => ?_) (fun hc11 => ?_)
    · replace hc11 := nm_ hc11
      refine awp_skip ?_
      refine awp_seq ?_
      refine awp_block ?_
      refine awp_seq ?_
      rcases (show k = 0 ∨ k = 1 by omega) with rfl | rfl
      · refine awp_region (by kernel_rfl) ?_
        iterate 3 (refine aL_S rfl rfl v_ ?_)
        refine aL_nil ?_
        refine awp_region (by kernel_rfl) ?_
        iterate 2 (refine aL_S rfl rfl v_ ?_)
        refine aL_X rfl rfl (AOp_appendC rfl g_ g_ hC va_ (szInt _) va_ (oneInt _) (by simp [cbk]; omega) fun a' σ' hC' => ?_)
        (refine aL_S rfl rfl v_ ?_)
        refine aL_nil ?_
        refine awp_region (by kernel_rfl) ?_
        iterate 2 (refine aL_S rfl rfl v_ ?_)
        refine aL_nil ?_
        refine aNext (ι := Store × AVal × Nat) (i := (τ, b, 0)) (σ', a', 1) ?_ ?_ ?_ ?_
        · show 2 - 1 < 2 - 0; decide
        · exact ⟨by show 1 ≤ 2; decide, by simpa [cbk] using hC'⟩
        · exact cv_
        · exact Store.Wk.refl _
      · refine awp_region (by kernel_rfl) ?_
        iterate 3 (refine aL_S rfl rfl v_ ?_)
        refine aL_nil ?_
        refine awp_region (by kernel_rfl) ?_
        iterate 2 (refine aL_S rfl rfl v_ ?_)
        refine aL_X rfl rfl (AOp_appendC rfl g_ g_ hC va_ (szInt _) va_ (oneInt _) (by simp [cbk]; omega) fun a' σ' hC' => ?_)
        (refine aL_S rfl rfl v_ ?_)
        refine aL_nil ?_
        refine awp_region (by kernel_rfl) ?_
        iterate 2 (refine aL_S rfl rfl v_ ?_)
        refine aL_nil ?_
        refine aNext (ι := Store × AVal × Nat) (i := (τ, b, 1)) (σ', a', 2) ?_ ?_ ?_ ?_
        · show 2 - 2 < 2 - 1; decide
        · exact ⟨by show 2 ≤ 2; decide, by simpa [cbk] using hC'⟩
        · exact cv_
        · exact Store.Wk.refl _
    · replace hc11 := nm_ hc11
      refine awp_exit ?_
      refine aThen_exit ?_
      refine aThen_exit ?_
      refine aBlock_hit ?_
      refine awp_seq ?_
      obtain rfl : k = 2 := by omega
      refine awp_region (by kernel_rfl) ?_
      iterate 2 (refine aL_S rfl rfl v_ ?_)
      refine aL_nil ?_
      refine awp_ret ?_
      refine aEnd_ret v_ (Store.Wk.refl _) ?_
      exact hC
theorem oneSib (l : List Sib) : ∀ y ∈ l.map sSib, ∀ c ∈ y.cells, c.one = true := lits_one sSib (fun x c hc => by simp [AVal.cells] at hc; (try rcases hc with rfl | rfl | rfl | rfl | rfl); (try rcases hc with rfl | rfl | rfl); (try subst hc); all_goals rfl) l
theorem szSib (l : List Sib) : ∀ y ∈ l.map sSib, y.cells.length = 5 := lits_sz sSib (fun x => rfl) l
theorem growSib_c {n : Nat} {σ : Store} (hn : n ≤ 1000000000) : ACalls Tryz.prog 81 [vNil, vInt n] σ fun v σ' => CBp σ σ' 5 [] v := by
  refine ACalls_of Tryz.func81 rfl Tryz.ntmps81 (congrArg Array.toList Tryz.results81) (by simp only [List.length_cons, List.length_nil]; decide) ?_; simp only [envOf_cons, envOf_nil, Nat.reduceAdd]
  refine awp_seq ?_
  refine awp_region (by kernel_rfl) ?_
  (refine aL_S rfl rfl v_ ?_)
  refine aL_nil ?_
  refine awp_seq ?_
  refine awp_seq ?_
  refine awp_region (by kernel_rfl) ?_
  iterate 2 (refine aL_S rfl rfl v_ ?_)
  refine aL_nil ?_
  refine awp_cond v_ (fun hc1 => ?_) (fun hc1 => ?_)
  · replace hc1 := nm_ hc1
    omega
  · replace hc1 := nm_ hc1
    refine awp_skip ?_
    refine awp_seq ?_
    refine awp_seq ?_
    refine awp_region (by kernel_rfl) ?_
    iterate 2 (refine aL_S rfl rfl v_ ?_)
    refine aL_X rfl rfl (AOp_capNil rfl g_ va_ ?_)
    iterate 5 (refine aL_S rfl rfl v_ ?_)
    refine aL_nil ?_
    refine awp_seq ?_
    refine awp_region (by kernel_rfl) ?_
    iterate 2 (refine aL_S rfl rfl v_ ?_)
    refine aL_nil ?_
    refine awp_cond v_ (fun hc4 => ?_) (fun hc4 => ?_)
    · replace hc4 := nm_ hc4
      refine awp_region (by kernel_rfl) ?_
      iterate 2 (refine aL_S rfl rfl v_ ?_)
      refine aL_X rfl rfl (AOp_capNil rfl g_ va_ ?_)
      iterate 2 (refine aL_S rfl rfl v_ ?_)
      refine aL_X rfl rfl (AOp_appendMake (n := n) rfl g_ g_ g_ va_ va_ (by omega) (by omega) fun o22 ho22 => ?_)
      iterate 4 (refine aL_S rfl rfl v_ ?_)
      refine aL_nil ?_
      refine awp_seq ?_
      refine awp_region (by kernel_rfl) ?_
      iterate 2 (refine aL_S rfl rfl v_ ?_)
      refine aL_nil ?_
      refine awp_ret ?_
      refine aEnd_ret v_ (Store.Wk.refl _) ?_
      exact .inr ⟨o22, ho22, rfl, rfl⟩
    · replace hc4 := nm_ hc4
      refine awp_skip ?_
      refine awp_seq ?_
      refine awp_region (by kernel_rfl) ?_
      iterate 2 (refine aL_S rfl rfl v_ ?_)
      refine aL_nil ?_
      refine awp_ret ?_
      refine aEnd_ret v_ (Store.Wk.refl _) ?_
      exact .inl ⟨rfl, rfl, rfl⟩
theorem concatSib_c {L1 L2 : List Sib} {t1 t2 tt : Bool} {σ : Store} (h1 : L1.length ≤ 10000000) (h2 : L2.length ≤ 10000000) :
    ACalls Tryz.prog 38 [.sl 1 [.sl 5 (L1.map sSib) t1, .sl 5 (L2.map sSib) t2] tt] σ fun v σ' => CBp σ σ' 5 ((L1 ++ L2).map sSib) v := by
  refine ACalls_of Tryz.func38 rfl Tryz.ntmps38 (congrArg Array.toList Tryz.results38) (by simp only [List.length_cons, List.length_nil]; decide) ?_; simp only [envOf_cons, envOf_nil, Nat.reduceAdd]
  refine awp_seq ?_
  refine awp_region (by kernel_rfl) ?_
  (refine aL_S rfl rfl v_ ?_)
  refine aL_nil ?_
  refine awp_seq ?_
  refine awp_region (by kernel_rfl) ?_
  (refine aL_S rfl rfl v_ ?_)
  refine aL_nil ?_
  refine awp_seq ?_
  refine awp_seq ?_
  refine awp_region (by kernel_rfl) ?_
  iterate 3 (refine aL_S rfl rfl v_ ?_)
  refine aL_nil ?_
  refine awp_block ?_
  refine awp_loop_env (ι := Nat) (fun k => 2 - k) (fun k => k ≤ 2) (fun k => [(0, .sl 1 [.sl 5 (L1.map sSib) t1, .sl 5 (L2.map sSib) t2] tt), (3, vInt ((if k = 0 then 0 else if k = 1 then L1.length else L1.length + L2.length : Nat) : Int)), (9, .sl 1 [.sl 5 (L1.map sSib) t1, .sl 5 (L2.map sSib) t2] tt), (10, vInt 2), (11, vInt k)]) (fun k => σ) 0 ?_ ?_ ?_ ?_
  · exact Nat.zero_le _
  · exact cv_
  · exact sub_
  rintro k hk
  simp only [envL_cons, envL_nil]
  refine awp_seq ?_
  refine awp_region (by kernel_rfl) ?_
  (refine aL_S rfl rfl v_ ?_)
  refine aL_nil ?_
  refine awp_seq ?_
  refine awp_cond v_ (fun hc3 => ?_) (fun hc3 => ?_)
  · replace hc3 := nm_ hc3
    refine awp_skip ?_
    refine awp_seq ?_
    refine awp_block ?_
    refine awp_seq ?_
    rcases (show k = 0 ∨ k = 1 by omega) with rfl | rfl
    · refine awp_region (by kernel_rfl) ?_
      iterate 3 (refine aL_S rfl rfl v_ ?_)
      refine aL_nil ?_
      refine awp_seq ?_
      refine awp_region (by kernel_rfl) ?_
      iterate 5 (refine aL_S rfl rfl v_ ?_)
      refine aL_nil ?_
      refine awp_seq ?_
      refine awp_region (by kernel_rfl) ?_
      iterate 2 (refine aL_S rfl rfl v_ ?_)
      refine aL_nil ?_
      refine awp_cond v_ (fun hc6 => ?_) (fun hc6 => ?_)
      · replace hc6 := nm_ hc6
        omega
      · replace hc6 := nm_ hc6
        refine awp_skip ?_
        refine awp_region (by kernel_rfl) ?_
        iterate 2 (refine aL_S rfl rfl v_ ?_)
        refine aL_nil ?_
        refine aNext (ι := Nat) (i := 0) 1 ?_ ?_ ?_ ?_
        · decide
        · decide
        · have R := (show ((0 : Nat) : Int) + (L1.length : Int) = (L1.length : Int) from by omega); exact cv_
        · exact sub_
    · refine awp_region (by kernel_rfl) ?_
      iterate 3 (refine aL_S rfl rfl v_ ?_)
      refine aL_nil ?_
      refine awp_seq ?_
      refine awp_region (by kernel_rfl) ?_
      iterate 5 (refine aL_S rfl rfl v_ ?_)
      refine aL_nil ?_
      refine awp_seq ?_
      refine awp_region (by kernel_rfl) ?_
      iterate 2 (refine aL_S rfl rfl v_ ?_)
      refine aL_nil ?_
      refine awp_cond v_ (fun hc6 => ?_) (fun hc6 => ?_)
      · replace hc6 := nm_ hc6
        omega
      · replace hc6 := nm_ hc6
        refine awp_skip ?_
        refine awp_region (by kernel_rfl) ?_
        iterate 2 (refine aL_S rfl rfl v_ ?_)
        refine aL_nil ?_
        refine aNext (ι := Nat) (i := 1) 2 ?_ ?_ ?_ ?_
        · decide
        · decide
        · exact cv_
        · exact sub_
  · replace hc3 := nm_ hc3
    refine awp_exit ?_
    refine aThen_exit ?_
    refine aThen_exit ?_
    refine aBlock_hit ?_
    refine awp_seq ?_
    obtain rfl : k = 2 := by omega
    refine awp_region (by kernel_rfl) ?_
    (refine aL_S rfl rfl v_ ?_)
    refine aL_X rfl rfl (AOp_use rfl rfl (.inr ⟨rfl, rfl, rfl⟩) g_ va_ (growSib_c (n := L1.length + L2.length) (by omega)) ?_); rintro _ τ0 hC0
    rename_i b0
    (refine aL_S rfl rfl v_ ?_)
    refine aL_nil ?_
    refine awp_seq ?_
    refine awp_seq ?_
    refine awp_region (by kernel_rfl) ?_
    iterate 3 (refine aL_S rfl rfl v_ ?_)
    refine aL_nil ?_
    refine awp_block ?_
    refine awp_loop_env (ι := Store × AVal × Nat) (fun ⟨τ, b, k⟩ => 2 - k) (fun ⟨τ, b, k⟩ => k ≤ 2 ∧ CBp σ τ 5 ((cbk L1 L2 k).map sSib) b) (fun ⟨τ, b, k⟩ => [(6, b), (25, .sl 1 [.sl 5 (L1.map sSib) t1, .sl 5 (L2.map sSib) t2] tt), (26, vInt 2), (27, vInt k)]) (fun ⟨τ, b, k⟩ => τ) (τ0, b0, 0) ?_ ?_ ?_ ?_
    · exact ⟨Nat.zero_le _, hC0⟩
    · exact cv_
    · exact Store.Wk.refl _
    rintro ⟨τ, b, k⟩ ⟨hk, hC⟩
    simp only [envL_cons, envL_nil]
    refine awp_seq ?_
    refine awp_region (by kernel_rfl) ?_
    (refine aL_S rfl rfl v_ ?_)
    refine aL_nil ?_
    refine awp_seq ?_
    refine awp_cond v_ (fun hc11 => ?_) (fun hc11 => ?_)
    · replace hc11 := nm_ hc11
      refine awp_skip ?_
      refine awp_seq ?_
      refine awp_block ?_
      refine awp_seq ?_
      rcases (show k = 0 ∨ k = 1 by omega) with rfl | rfl
      · refine awp_region (by kernel_rfl) ?_
        iterate 3 (refine aL_S rfl rfl v_ ?_)
        refine aL_nil ?_
        refine awp_region (by kernel_rfl) ?_
        iterate 2 (refine aL_S rfl rfl v_ ?_)
        refine aL_X rfl rfl (AOp_appendC rfl g_ g_ hC va_ (szSib _) va_ (oneSib _) (by simp [cbk]; omega) fun a' σ' hC' => ?_)
        (refine aL_S rfl rfl v_ ?_)
        refine aL_nil ?_
        refine awp_region (by kernel_rfl) ?_
        iterate 2 (refine aL_S rfl rfl v_ ?_)
        refine aL_nil ?_
        refine aNext (ι := Store × AVal × Nat) (i := (τ, b, 0)) (σ', a', 1) ?_ ?_ ?_ ?_
        · show 2 - 1 < 2 - 0; decide
        · exact ⟨by show 1 ≤ 2; decide, by simpa [cbk] using hC'⟩
        · exact cv_
        · exact Store.Wk.refl _
      · refine awp_region (by kernel_rfl) ?_
        iterate 3 (refine aL_S rfl rfl v_ ?_)
        refine aL_nil ?_
        refine awp_region (by kernel_rfl) ?_
        iterate 2 (refine aL_S rfl rfl v_ ?_)
        refine aL_X rfl rfl (AOp_appendC rfl g_ g_ hC va_ (szSib _) va_ (oneSib _) (by simp [cbk]; omega) fun a' σ' hC' => ?_)
        (refine aL_S rfl rfl v_ ?_)
        refine aL_nil ?_
        refine awp_region (by kernel_rfl) ?_
        iterate 2 (refine aL_S rfl rfl v_ ?_)
        refine aL_nil ?_
        refine aNext (ι := Store × AVal × Nat) (i := (τ, b, 1)) (σ', a', 2) ?_ ?_ ?_ ?_
        · show 2 - 2 < 2 - 1; decide
        · exact ⟨by show 2 ≤ 2; decide, by simpa [cbk] using hC'⟩
        · exact cv_
        · exact Store.Wk.refl _
    · replace hc11 := nm_ hc11
      refine awp_exit ?_
      refine aThen_exit ?_
      refine aThen_exit ?_
      refine aBlock_hit ?_
      refine awp_seq ?_
      obtain rfl : k = 2 := by omega
      refine awp_region (by kernel_rfl) ?_
      iterate 2 (refine aL_S rfl rfl v_ ?_)
      refine aL_nil ?_
      refine awp_ret ?_
      refine aEnd_ret v_ (Store.Wk.refl _) ?_
      exact hC
end Go.Proofs.YtbomkkjhafdhiaaGreat
end

section
set_option linter.all false
set_option maxRecDepth 100000
namespace Go.Proofs.YtbomkkjhafdhiaaGreat
open Go.Ab

def keyOk (s : ByteArray) : Bool := decide (1 ≤ s.size) && decide (s.size ≤ 64)
def idx47 (l : List UInt8) : Int := Lib.indexByte l 47
def cutS (s : ByteArray) : ByteArray × ByteArray × Bool := if 0 ≤ idx47 (Lb s) then (s.extract 0 (idx47 (Lb s)).toNat, s.extract ((idx47 (Lb s)).toNat + 1) s.size, true) else (s, ⟨#[]⟩, false)
def splitS (s : ByteArray) : ByteArray × ByteArray × Bool := if (cutS s).2.2 = true ∧ nameOk (cutS s).1 = true ∧ keyOk (cutS s).2.1 = true then ((cutS s).1, (cutS s).2.1, true) else (⟨#[]⟩, ⟨#[]⟩, false)
def placeOk (s : ByteArray) : Bool := (splitS s).2.2
theorem idx47_ge (l : List UInt8) : -1 ≤ idx47 l := Lib.indexByte_ge l 47
theorem idx47_cons (b : UInt8) (l : List UInt8) : idx47 (b :: l) = if b = 47 then 0 else if idx47 l = -1 then -1 else idx47 l + 1 := by
  have h : idx47 (b :: l) = if b == 47 then 0 else if idx47 l == -1 then -1 else idx47 l + 1 := rfl
  rw [h]
  simp only [beq_iff_eq]
theorem idx47_lt : ∀ (l : List UInt8), idx47 l < l.length
  | [] => by rw [show idx47 [] = -1 from rfl]; simp
  | b :: l => by
    have ih := idx47_lt l
    rw [idx47_cons, List.length_cons]
    split
    · omega
    · split <;> omega
theorem idx47_at : ∀ {l : List UInt8} {i : Nat}, l[i]? = some 47 → (∀ j c, j < i → l[j]? = some c → c ≠ 47) → idx47 l = i
  | [], i, h, _ => by simp at h
  | b :: l, 0, h, _ => by
    simp only [List.getElem?_cons_zero, Option.some.injEq] at h
    rw [idx47_cons, if_pos h]; rfl
  | b :: l, i + 1, h, hj => by
    have hb : b ≠ 47 := hj 0 b (by omega) rfl
    have ih := idx47_at (l := l) (i := i) h (fun j c hji hc => hj (j + 1) c (by omega) hc)
    rw [idx47_cons, if_neg hb, ih, if_neg (by omega)]
    omega
theorem idx47_none : ∀ {l : List UInt8}, (∀ c ∈ l, c ≠ 47) → idx47 l = -1
  | [], _ => rfl
  | b :: l, h => by
    have hb := h b (.head _)
    have ih := idx47_none (l := l) fun c hc => h c (.tail _ hc)
    rw [idx47_cons, if_neg hb, if_pos ih]
theorem idxRv {κ : K} {α : Operand → AVal} {x y : Operand} {ev : Operand → Value} {s : ByteArray} (hx : α x = vStr s) (hy : α y = .lit (.int .u8 47)) (h : ∀ z ∈ #[x, y], Rv κ (α z) (ev z)) : ∃ cv, (Extern.BytealgIndexByte.indexByte (#[x, y].map ev)).run Tryz.prog κ.w = .ok cv κ.w ∧ Rv κ (vInt (idx47 (Lb s))) cv := by
  have h1 := h x (by simp); have h2 := h y (by simp)
  rw [hx] at h1
  rw [hy] at h2
  refine ⟨_, ?_, .lit _⟩
  rw [show #[x, y].map ev = #[ev x, ev y] from by simp, h1.litInv, h2.litInv]
  exact Lib.run_indexByteString s 47 κ.w
theorem indexByte_c {s : ByteArray} {σ : Store} : ACalls Tryz.prog 186 [vStr s, .lit (.int .u8 47)] σ fun v σ' => v = vInt (idx47 (Lb s)) ∧ σ = σ' := by
  refine ACalls_of Tryz.func186 rfl Tryz.ntmps186 (congrArg Array.toList Tryz.results186) (by simp only [List.length_cons, List.length_nil]; decide) ?_; simp only [envOf_cons, envOf_nil, Nat.reduceAdd]
  refine awp_seq ?_
  refine awp_region (by kernel_rfl) ?_
  (refine aL_S rfl rfl v_ ?_)
  refine aL_nil ?_
  refine awp_seq ?_
  refine awp_region (by kernel_rfl) ?_
  iterate 2 (refine aL_S rfl rfl v_ ?_)
  refine aL_X rfl rfl (AOp_extern rfl (e := Extern.BytealgIndexByte.indexByte) (by kernel_rfl) g_ (fun κ ev _ h => idxRv (s := s) va_ va_ h) ?_)
  (refine aL_S rfl rfl v_ ?_)
  refine aL_nil ?_
  refine awp_ret ?_
  refine aEnd_ret (σ' := σ) v_ sub_ ?_
  exact ⟨rfl, rfl⟩
theorem slIndex_c {s : ByteArray} {σ : Store} : ACalls Tryz.prog 184 [vStr s, vStr ⟨#[47]⟩] σ fun v σ' => v = vInt (idx47 (Lb s)) ∧ σ = σ' := by
  have hz : (ByteArray.mk #[47]).size = 1 := rfl
  have hb : (ByteArray.mk #[47])[0]? = some 47 := rfl
  refine ACalls_of Tryz.func184 rfl Tryz.ntmps184 (congrArg Array.toList Tryz.results184) (by simp only [List.length_cons, List.length_nil]; decide) ?_; simp only [envOf_cons, envOf_nil, Nat.reduceAdd]
  refine awp_seq ?_
  refine awp_region (by kernel_rfl) ?_
  (refine aL_S rfl rfl v_ ?_)
  refine aL_nil ?_
  refine awp_seq ?_
  have R := hz
  refine awp_region (by kernel_rfl) ?_
  iterate 3 (refine aL_S rfl rfl v_ ?_)
  refine aL_nil ?_
  refine awp_seq ?_
  refine awp_block ?_
  refine awp_seq ?_
  refine awp_region (by kernel_rfl) ?_
  iterate 3 (refine aL_S rfl rfl v_ ?_)
  refine aL_GF rfl rfl v_ rfl vg_ ?_
  refine aL_GF rfl rfl v_ rfl vg_ ?_
  refine aL_GF rfl rfl v_ rfl vg_ ?_
  iterate 2 (refine aL_S rfl rfl v_ ?_)
  refine aL_nil ?_
  refine awp_cond v_ (fun hc2 => ?_) (fun hc2 => ?_)
  · replace hc2 := nm_ hc2
    refine awp_seq ?_
    refine awp_region (by kernel_rfl) ?_
    (refine aL_S rfl rfl v_ ?_)
    refine aL_nil ?_
    refine awp_ret ?_
    refine aEnd_ret (σ' := σ) v_ sub_ ?_
    refine ⟨?_, rfl⟩
    have h1 : (ByteArray.mk #[47]) = s := by simpa using hc2
    rw [← h1]; rfl
  · replace hc2 := nm_ hc2
    refine awp_seq ?_
    refine awp_region (by kernel_rfl) ?_
    iterate 3 (refine aL_S rfl rfl v_ ?_)
    refine aL_nil ?_
    refine awp_cond v_ (fun hc4 => ?_) (fun hc4 => ?_)
    · replace hc4 := nm_ hc4
      refine awp_seq ?_
      have R := And.intro hb hz
      refine awp_region (by kernel_rfl) ?_
      iterate 3 (refine aL_S rfl rfl v_ ?_)
      refine aL_X rfl rfl (AOp_use rfl rfl (.inr ⟨rfl, rfl, rfl⟩) g_ va_ (indexByte_c) ?_); rintro _ _ ⟨rfl, rfl⟩
      (refine aL_S rfl rfl v_ ?_)
      refine aL_nil ?_
      refine awp_ret ?_
      refine aEnd_ret (σ' := σ) v_ sub_ ?_
      exact ⟨rfl, rfl⟩
    · replace hc4 := nm_ hc4
      simp at hc4
theorem idx47_cases (s : ByteArray) : (idx47 (Lb s) = -1 ∧ cutS s = (s, ⟨#[]⟩, false)) ∨ ∃ k : Nat, idx47 (Lb s) = k ∧ k < s.size ∧ cutS s = (s.extract 0 k, s.extract (k + 1) s.size, true) := by
  have h1 := idx47_ge (Lb s); have h2 := idx47_lt (Lb s)
  rw [Lb_length] at h2
  by_cases h : 0 ≤ idx47 (Lb s)
  · refine .inr ⟨(idx47 (Lb s)).toNat, by omega, by omega, ?_⟩
    rw [cutS, if_pos h]
  · exact .inl ⟨by omega, by rw [cutS, if_neg h]⟩
theorem slCut_c {s : ByteArray} {σ : Store} (hs : s.size ≤ 1000000000000) : ACalls Tryz.prog 179 [vStr s, vStr ⟨#[47]⟩] σ fun v σ' => v = .tup [vStr (cutS s).1, vStr (cutS s).2.1, vB (cutS s).2.2] ∧ σ = σ' := by
  have hz : (ByteArray.mk #[47]).size = 1 := rfl
  rcases idx47_cases s with ⟨he, hcut⟩ | ⟨k, he, hk, hcut⟩
  refine ACalls_of Tryz.func179 rfl Tryz.ntmps179 (congrArg Array.toList Tryz.results179) (by simp only [List.length_cons, List.length_nil]; decide) ?_; simp only [envOf_cons, envOf_nil, Nat.reduceAdd]
  refine awp_seq ?_
  refine awp_region (by kernel_rfl) ?_
  iterate 3 (refine aL_S rfl rfl v_ ?_)
  refine aL_nil ?_
  refine awp_seq ?_
  refine awp_seq ?_
  refine awp_region (by kernel_rfl) ?_
  iterate 2 (refine aL_S rfl rfl v_ ?_)
  refine aL_X rfl rfl (AOp_use rfl rfl (.inr ⟨rfl, rfl, rfl⟩) g_ va_ (slIndex_c) ?_); rintro _ _ ⟨rfl, rfl⟩
  (refine aL_S rfl rfl v_ ?_)
  refine aL_nil ?_
  refine awp_seq ?_
  have R := he
  refine awp_region (by kernel_rfl) ?_
  iterate 2 (refine aL_S rfl rfl v_ ?_)
  refine aL_nil ?_
  refine awp_cond v_ (fun hc2 => ?_) (fun hc2 => ?_)
  · replace hc2 := nm_ hc2
    first | exact absurd hc2 (by omega) | exact absurd hc2 (by decide) | (revert hc2; decide)
  · replace hc2 := nm_ hc2
    refine awp_skip ?_
    refine awp_seq ?_
    refine awp_region (by kernel_rfl) ?_
    iterate 4 (refine aL_S rfl rfl v_ ?_)
    refine aL_nil ?_
    refine awp_ret ?_
    refine aEnd_ret (σ' := σ) v_ sub_ ?_
    exact ⟨by rw [hcut], rfl⟩
  refine ACalls_of Tryz.func179 rfl Tryz.ntmps179 (congrArg Array.toList Tryz.results179) (by simp only [List.length_cons, List.length_nil]; decide) ?_; simp only [envOf_cons, envOf_nil, Nat.reduceAdd]
  refine awp_seq ?_
  refine awp_region (by kernel_rfl) ?_
  iterate 3 (refine aL_S rfl rfl v_ ?_)
  refine aL_nil ?_
  refine awp_seq ?_
  refine awp_seq ?_
  refine awp_region (by kernel_rfl) ?_
  iterate 2 (refine aL_S rfl rfl v_ ?_)
  refine aL_X rfl rfl (AOp_use rfl rfl (.inr ⟨rfl, rfl, rfl⟩) g_ va_ (slIndex_c) ?_); rintro _ _ ⟨rfl, rfl⟩
  (refine aL_S rfl rfl v_ ?_)
  refine aL_nil ?_
  refine awp_seq ?_
  have R := he
  refine awp_region (by kernel_rfl) ?_
  iterate 2 (refine aL_S rfl rfl v_ ?_)
  refine aL_nil ?_
  refine awp_cond v_ (fun hc2 => ?_) (fun hc2 => ?_)
  · replace hc2 := nm_ hc2
    refine awp_seq ?_
    have R := And.intro he hz
    refine awp_draw (.op 0 0 (.op 1 0 (.op 2 0 (.op 3 0 (.op 4 0 (.op 5 0 (.op 6 0 (.op 7 0 (.op 8 0 (.op 9 0 (.op 10 0 (.op 11 0 .nil)))))))))))) Tryz.mixed (by kernel_rfl) ?_
    iterate 12 (refine dR_S o_ (by rfl) (by rfl) v_ ?_)
    refine dR_nil ?_
    refine awp_ret ?_
    refine aEnd_ret (σ' := σ) v_ sub_ ?_
    refine ⟨?_, rfl⟩
    have htn : ((k : Int) + ((1 : Nat) : Int)).toNat = k + 1 := by omega
    rw [hcut, htn]
  · replace hc2 := nm_ hc2
    exact absurd hc2 (by omega)
theorem cut_c {s : ByteArray} {σ : Store} (hs : s.size ≤ 1000000000000) : ACalls Tryz.prog 161 [vStr s, vStr ⟨#[47]⟩] σ fun v σ' => v = .tup [vStr (cutS s).1, vStr (cutS s).2.1, vB (cutS s).2.2] ∧ σ = σ' := by
  refine ACalls_of Tryz.func161 rfl Tryz.ntmps161 (congrArg Array.toList Tryz.results161) (by simp only [List.length_cons, List.length_nil]; decide) ?_; simp only [envOf_cons, envOf_nil, Nat.reduceAdd]
  refine awp_seq ?_
  refine awp_region (by kernel_rfl) ?_
  iterate 3 (refine aL_S rfl rfl v_ ?_)
  refine aL_nil ?_
  refine awp_seq ?_
  refine awp_region (by kernel_rfl) ?_
  iterate 2 (refine aL_S rfl rfl v_ ?_)
  refine aL_X rfl rfl (AOp_use rfl rfl (.inr ⟨rfl, rfl, rfl⟩) g_ va_ (slCut_c hs) ?_); rintro _ _ ⟨rfl, rfl⟩
  iterate 6 (refine aL_S rfl rfl v_ ?_)
  refine aL_nil ?_
  refine awp_ret ?_
  refine aEnd_ret (σ' := σ) v_ sub_ ?_
  exact ⟨rfl, rfl⟩
theorem isKey_c {s : ByteArray} {σ : Store} (hs : s.size ≤ 1000000000000) : ACalls Tryz.prog 162 [vStr s] σ fun v σ' => v = vB (keyOk s) ∧ σ = σ' := by
  have h0 : s = ⟨#[]⟩ ↔ s.size = 0 := ⟨fun h => by rw [h]; rfl, fun h => by apply ByteArray.ext; exact Array.eq_empty_of_size_eq_zero h⟩
  refine ACalls_of Tryz.func162 rfl Tryz.ntmps162 (congrArg Array.toList Tryz.results162) (by simp only [List.length_cons, List.length_nil]; decide) ?_; simp only [envOf_cons, envOf_nil, Nat.reduceAdd]
  refine awp_seq ?_
  refine awp_region (by kernel_rfl) ?_
  (refine aL_S rfl rfl v_ ?_)
  refine aL_nil ?_
  refine awp_seq ?_
  have R := h0
  refine awp_region (by kernel_rfl) ?_
  iterate 3 (refine aL_S rfl rfl v_ ?_)
  refine aL_GT rfl rfl v_ rfl vg_ ?_
  refine aL_GT rfl rfl v_ rfl vg_ ?_
  refine aL_GT rfl rfl v_ rfl vg_ ?_
  iterate 2 (refine aL_S rfl rfl v_ ?_)
  refine aL_nil ?_
  refine awp_ret ?_
  refine aEnd_ret (σ' := σ) v_ sub_ ?_
  refine ⟨?_, rfl⟩
  unfold keyOk
  by_cases h1 : s.size = 0 <;> by_cases h2 : s.size ≤ 64 <;> simp [h1, h2, h0] <;> omega
theorem rIsKey_c {s : ByteArray} {σ : Store} (hs : s.size ≤ 1000000000000) : ACalls Tryz.prog 91 [vStr s] σ fun v σ' => v = vB (keyOk s) ∧ σ = σ' := by
  refine ACalls_of Tryz.func91 rfl Tryz.ntmps91 (congrArg Array.toList Tryz.results91) (by simp only [List.length_cons, List.length_nil]; decide) ?_; simp only [envOf_cons, envOf_nil, Nat.reduceAdd]
  refine awp_seq ?_
  refine awp_region (by kernel_rfl) ?_
  (refine aL_S rfl rfl v_ ?_)
  refine aL_nil ?_
  refine awp_seq ?_
  refine awp_region (by kernel_rfl) ?_
  iterate 4 (refine aL_S rfl rfl v_ ?_)
  refine aL_GT rfl rfl v_ rfl vg_ ?_
  refine aL_GT rfl rfl v_ rfl vg_ ?_
  refine aL_GT rfl rfl v_ rfl vg_ ?_
  iterate 2 (refine aL_S rfl rfl v_ ?_)
  refine aL_nil ?_
  refine awp_ret ?_
  refine aEnd_ret (σ' := σ) v_ sub_ ?_
  refine ⟨?_, rfl⟩
  unfold keyOk
  by_cases h1 : 1 ≤ s.size <;> by_cases h2 : s.size ≤ 64 <;> simp [h1, h2] <;> omega
theorem cutS_size (s : ByteArray) : (cutS s).1.size ≤ s.size ∧ (cutS s).2.1.size ≤ s.size := by
  rcases idx47_cases s with ⟨he, hcut⟩ | ⟨k, he, hk, hcut⟩
  · rw [hcut]; exact ⟨Nat.le_refl _, Nat.zero_le _⟩
  · rw [hcut]
    simp only [ByteArray.size_extract]
    omega
theorem split_c {s : ByteArray} {σ : Store} (hs : s.size ≤ 1000000000000) : ACalls Tryz.prog 137 [vStr s] σ fun v σ' => v = .tup [vStr (splitS s).1, vStr (splitS s).2.1, vB (splitS s).2.2] ∧ σ = σ' := by
  obtain ⟨z1, z2⟩ := cutS_size s
  refine ACalls_of Tryz.func137 rfl Tryz.ntmps137 (congrArg Array.toList Tryz.results137) (by simp only [List.length_cons, List.length_nil]; decide) ?_; simp only [envOf_cons, envOf_nil, Nat.reduceAdd]
  refine awp_seq ?_
  refine awp_region (by kernel_rfl) ?_
  iterate 3 (refine aL_S rfl rfl v_ ?_)
  refine aL_nil ?_
  refine awp_seq ?_
  refine awp_region (by kernel_rfl) ?_
  (refine aL_S rfl rfl v_ ?_)
  refine aL_X rfl rfl (AOp_use rfl rfl (.inr ⟨rfl, rfl, rfl⟩) g_ va_ (cut_c hs) ?_); rintro _ _ ⟨rfl, rfl⟩
  iterate 7 (refine aL_S rfl rfl v_ ?_)
  refine aL_nil ?_
  refine awp_seq ?_
  refine awp_seq ?_
  refine awp_region (by kernel_rfl) ?_
  iterate 3 (refine aL_S rfl rfl v_ ?_)
  refine aL_GF rfl rfl v_ rfl vg_ ?_
  refine aL_GFX rfl rfl v_ rfl (fun hb => AOp_useV (by rfl) (by rfl) (.inr ⟨by rfl, by rfl, by rfl⟩) g_ cg_ (nameIs_c (by omega))) ?_
  refine aL_GF rfl rfl v_ rfl vg_ ?_
  iterate 2 (refine aL_S rfl rfl v_ ?_)
  refine aL_GF rfl rfl v_ rfl vg_ ?_
  refine aL_GFX rfl rfl v_ rfl (fun hb => AOp_useV (by rfl) (by rfl) (.inr ⟨by rfl, by rfl, by rfl⟩) g_ cg_ (isKey_c (by omega))) ?_
  refine aL_GF rfl rfl v_ rfl vg_ ?_
  (refine aL_S rfl rfl v_ ?_)
  refine aL_nil ?_
  refine awp_cond v_ (fun hc2 => ?_) (fun hc2 => ?_)
  · replace hc2 := nm_ hc2
    refine awp_seq ?_
    refine awp_region (by kernel_rfl) ?_
    iterate 3 (refine aL_S rfl rfl v_ ?_)
    refine aL_nil ?_
    refine awp_ret ?_
    refine aEnd_ret (σ' := σ) v_ sub_ ?_
    refine ⟨?_, rfl⟩
    rw [splitS, if_neg (fun ⟨q1, q2, q3⟩ => by rcases hc2 with (h | h) | h <;> simp_all)]
  · replace hc2 := nm_ hc2
    refine awp_skip ?_
    refine awp_seq ?_
    refine awp_region (by kernel_rfl) ?_
    iterate 5 (refine aL_S rfl rfl v_ ?_)
    refine aL_nil ?_
    refine awp_ret ?_
    refine aEnd_ret (σ' := σ) v_ sub_ ?_
    refine ⟨?_, rfl⟩
    rw [splitS, if_pos (by simpa [and_assoc] using hc2)]
theorem isPlace_c {s : ByteArray} {σ : Store} (hs : s.size ≤ 1000000000000) : ACalls Tryz.prog 105 [vStr s] σ fun v σ' => v = vB (placeOk s) ∧ σ = σ' := by
  refine ACalls_of Tryz.func105 rfl Tryz.ntmps105 (congrArg Array.toList Tryz.results105) (by simp only [List.length_cons, List.length_nil]; decide) ?_; simp only [envOf_cons, envOf_nil, Nat.reduceAdd]
  refine awp_seq ?_
  refine awp_region (by kernel_rfl) ?_
  (refine aL_S rfl rfl v_ ?_)
  refine aL_nil ?_
  refine awp_seq ?_
  refine awp_region (by kernel_rfl) ?_
  (refine aL_S rfl rfl v_ ?_)
  refine aL_X rfl rfl (AOp_use rfl rfl (.inr ⟨rfl, rfl, rfl⟩) g_ va_ (split_c hs) ?_); rintro _ _ ⟨rfl, rfl⟩
  iterate 7 (refine aL_S rfl rfl v_ ?_)
  refine aL_nil ?_
  refine awp_seq ?_
  refine awp_region (by kernel_rfl) ?_
  iterate 2 (refine aL_S rfl rfl v_ ?_)
  refine aL_nil ?_
  refine awp_ret ?_
  refine aEnd_ret (σ' := σ) v_ sub_ ?_
  exact ⟨rfl, rfl⟩
theorem rSplit_c {s : ByteArray} {σ : Store} (hs : s.size ≤ 1000000000000) : ACalls Tryz.prog 51 [vStr s] σ fun v σ' => v = .tup [vStr (splitS s).1, vStr (splitS s).2.1, vB (splitS s).2.2] ∧ σ = σ' := by
  refine ACalls_of Tryz.func51 rfl Tryz.ntmps51 (congrArg Array.toList Tryz.results51) (by simp only [List.length_cons, List.length_nil]; decide) ?_; simp only [envOf_cons, envOf_nil, Nat.reduceAdd]
  refine awp_seq ?_
  refine awp_region (by kernel_rfl) ?_
  iterate 3 (refine aL_S rfl rfl v_ ?_)
  refine aL_nil ?_
  refine awp_seq ?_
  refine awp_seq ?_
  refine awp_region (by kernel_rfl) ?_
  (refine aL_S rfl rfl v_ ?_)
  refine aL_nil ?_
  refine awp_block ?_
  refine awp_loop_env (ι := Nat) (fun p => s.size - p) (fun p => p ≤ s.size ∧ ∀ j c, j < p → (Lb s)[j]? = some c → c ≠ 47) (fun p => [(0, vStr s), (5, vInt p)]) (fun p => σ) 0 ?_ ?_ ?_ ?_
  · exact ⟨Nat.zero_le _, fun j c h => absurd h (by omega)⟩
  · exact cv_
  · exact sub_
  rintro p ⟨hp, ha⟩
  simp only [envL_cons, envL_nil]
  refine awp_seq ?_
  refine awp_seq ?_
  refine awp_region (by kernel_rfl) ?_
  iterate 4 (refine aL_S rfl rfl v_ ?_)
  refine aL_nil ?_
  refine awp_cond v_ (fun hc2 => ?_) (fun hc2 => ?_)
  · replace hc2 := nm_ hc2
    refine awp_skip ?_
    refine awp_seq ?_
    refine awp_block ?_
    refine awp_seq ?_
    have hp' : p < s.size := by omega
    have hg := Lb_get hp'
    have hg2 : s[p]? = some (s[p]'hp') := getElem?_pos s p hp'
    obtain ⟨c, hc⟩ : ∃ c, s[p]'hp' = c := ⟨_, rfl⟩
    rw [hc] at hg hg2
    have R := hg2
    refine awp_region (by kernel_rfl) ?_
    iterate 4 (refine aL_S rfl rfl v_ ?_)
    refine aL_nil ?_
    refine awp_cond v_ (fun hc4 => ?_) (fun hc4 => ?_)
    · replace hc4 := nm_ hc4
      skip
      have h47 : c = 47 := by
        have h' : c.toNat = 47 := by omega
        exact UInt8.toNat_inj.1 (by rw [h']; rfl)
      have he := idx47_at (h47 ▸ hg) ha
      have hcut : cutS s = (s.extract 0 p, s.extract (p + 1) s.size, true) := by
        rcases idx47_cases s with ⟨h1, h2⟩ | ⟨k, h1, h2, h3⟩
        · rw [h1] at he; omega
        · have : k = p := by rw [h1] at he; omega
          rw [h3, this]
      refine awp_seq ?_
      refine awp_seq ?_
      refine awp_region (by kernel_rfl) ?_
      iterate 3 (refine aL_S rfl rfl v_ ?_)
      refine aL_X rfl rfl (AOp_use rfl rfl (.inr ⟨rfl, rfl, rfl⟩) g_ va_ (rIs_c (by simp only [ByteArray.size_extract]; omega)) ?_); rintro _ _ ⟨rfl, rfl⟩
      (refine aL_S rfl rfl v_ ?_)
      refine aL_GT rfl rfl v_ rfl vg_ ?_
      refine aL_GT rfl rfl v_ rfl vg_ ?_
      refine aL_GT rfl rfl v_ rfl vg_ ?_
      refine aL_GT rfl rfl v_ rfl vg_ ?_
      refine aL_GTX rfl rfl v_ rfl (fun hb => AOp_useV (by rfl) (by rfl) (.inr ⟨by rfl, by rfl, by rfl⟩) g_ cg_ (rIsKey_c (by simp only [ByteArray.size_extract]; omega))) ?_
      (refine aL_S rfl rfl v_ ?_)
      refine aL_nil ?_
      refine awp_cond v_ (fun hc5 => ?_) (fun hc5 => ?_)
      · replace hc5 := nm_ hc5
        refine awp_seq ?_
        refine awp_draw (.op 0 0 (.op 1 0 (.op 2 0 (.op 3 0 (.op 4 0 (.op 5 0 (.op 6 0 (.op 7 0 (.op 8 0 (.op 9 0 .nil)))))))))) Tryz.mixed (by kernel_rfl) ?_
        iterate 10 (refine dR_S o_ (by rfl) (by rfl) v_ ?_)
        refine dR_nil ?_
        refine awp_ret ?_
        refine aEnd_ret (σ' := σ) v_ sub_ ?_
        refine ⟨?_, rfl⟩
        have htn : ((p : Int) + 1).toNat = p + 1 := by omega
        rw [htn] at hc5 ⊢
        rw [splitS, hcut, if_pos (by simpa using hc5)]
      · replace hc5 := nm_ hc5
        refine awp_skip ?_
        refine awp_seq ?_
        refine awp_region (by kernel_rfl) ?_
        iterate 3 (refine aL_S rfl rfl v_ ?_)
        refine aL_nil ?_
        refine awp_ret ?_
        refine aEnd_ret (σ' := σ) v_ sub_ ?_
        refine ⟨?_, rfl⟩
        have htn : ((p : Int) + 1).toNat = p + 1 := by omega
        rw [htn] at hc5
        rw [splitS, hcut, if_neg (fun ⟨q1, q2, q3⟩ => by rcases hc5 with h | h <;> simp_all)]
    · replace hc4 := nm_ hc4
      skip
      have hnx : ∀ j d, j < p + 1 → (Lb s)[j]? = some d → d ≠ 47 := by
        intro j d hj hd e
        by_cases hjp : j = p
        · rw [hjp, hg] at hd
          obtain rfl : c = d := by simpa using hd
          rw [e] at hc4; exact hc4 rfl
        · exact ha j d (by omega) hd e
      refine awp_skip ?_
      refine awp_region (by kernel_rfl) ?_
      iterate 3 (refine aL_S rfl rfl v_ ?_)
      refine aL_nil ?_
      refine aNext (ι := Nat) (i := p) (p + 1) ?_ ?_ ?_ ?_
      · omega
      · exact ⟨by omega, hnx⟩
      · exact cv_
      · exact sub_
  · replace hc2 := nm_ hc2
    refine awp_exit ?_
    refine aThen_exit ?_
    refine aThen_exit ?_
    refine aBlock_hit ?_
    refine awp_seq ?_
    refine awp_region (by kernel_rfl) ?_
    iterate 3 (refine aL_S rfl rfl v_ ?_)
    refine aL_nil ?_
    refine awp_ret ?_
    refine aEnd_ret (σ' := σ) v_ sub_ ?_
    refine ⟨?_, rfl⟩
    have he : idx47 (Lb s) = -1 := idx47_none fun c hc => by
      obtain ⟨j, hj⟩ := List.mem_iff_getElem?.1 hc
      have := (List.getElem?_eq_some_iff.1 hj).1
      rw [Lb_length] at this
      exact ha j c (by omega) hj
    have hcut : cutS s = (s, ⟨#[]⟩, false) := by rw [cutS, if_neg (by omega)]
    rw [splitS, hcut, if_neg (by simp)]
theorem rIsPlace_c {s : ByteArray} {σ : Store} (hs : s.size ≤ 1000000000000) : ACalls Tryz.prog 29 [vStr s] σ fun v σ' => v = vB (placeOk s) ∧ σ = σ' := by
  refine ACalls_of Tryz.func29 rfl Tryz.ntmps29 (congrArg Array.toList Tryz.results29) (by simp only [List.length_cons, List.length_nil]; decide) ?_; simp only [envOf_cons, envOf_nil, Nat.reduceAdd]
  refine awp_seq ?_
  refine awp_region (by kernel_rfl) ?_
  (refine aL_S rfl rfl v_ ?_)
  refine aL_nil ?_
  refine awp_seq ?_
  refine awp_region (by kernel_rfl) ?_
  (refine aL_S rfl rfl v_ ?_)
  refine aL_X rfl rfl (AOp_use rfl rfl (.inr ⟨rfl, rfl, rfl⟩) g_ va_ (rSplit_c hs) ?_); rintro _ _ ⟨rfl, rfl⟩
  iterate 7 (refine aL_S rfl rfl v_ ?_)
  refine aL_nil ?_
  refine awp_seq ?_
  refine awp_region (by kernel_rfl) ?_
  iterate 2 (refine aL_S rfl rfl v_ ?_)
  refine aL_nil ?_
  refine awp_ret ?_
  refine aEnd_ret (σ' := σ) v_ sub_ ?_
  exact ⟨rfl, rfl⟩
end Go.Proofs.YtbomkkjhafdhiaaGreat
end

section
set_option linter.all false
set_option maxRecDepth 100000
namespace Go.Ab
structure Leaf where
  place : ByteArray
  digest : ByteArray
structure Itm where
  place : ByteArray
  obj : Obj'
structure Ent where
  key : ByteArray
  n : Int
  who : ByteArray
  value : ByteArray
structure Msg where
  kind : Int
  frm : ByteArray
  to : ByteArray
  num : Int
  err : Int
  place : ByteArray
  obj : Obj'
  texts : List ByteArray
  leaves : List Leaf
  items : List Itm
  ents : List Ent
@[reducible] def sLeaf (x : Leaf) : AVal := .agg [.lit (.string x.place), .lit (.string x.digest)]
@[reducible] def sItem (x : Itm) : AVal := .agg [.lit (.string x.place), .sl 3 (x.obj.ctx.map sSeen) false, .sl 5 (x.obj.sibs.map sSib) false]
@[reducible] def sEnt (x : Ent) : AVal := .agg [.lit (.string x.key), vInt x.n, .lit (.string x.who), .lit (.string x.value)]
@[reducible] def sMsg (m : Msg) : AVal := .agg [vInt m.kind, .lit (.string m.frm), .lit (.string m.to), vInt m.num, vInt m.err, .lit (.string m.place), .sl 3 (m.obj.ctx.map sSeen) false, .sl 5 (m.obj.sibs.map sSib) false, .sl 1 (m.texts.map vStr) false, .sl 2 (m.leaves.map sLeaf) false, .sl 3 (m.items.map sItem) false, .sl 4 (m.ents.map sEnt) false]
end Go.Ab
namespace Go.Proofs.YtbomkkjhafdhiaaGreat
open Go.Ab

def leafB (x : Leaf) : List UInt8 := textB x.place ++ textB x.digest
def itemB (x : Itm) : List UInt8 := textB x.place ++ objB x.obj
def entB (x : Ent) : List UInt8 := textB x.key ++ beI 8 x.n ++ textB x.who ++ textB x.value
/-- few bytes, few parts -/
structure LeafSm (x : Leaf) : Prop where
  place : x.place.size ≤ 1000000
  digest : x.digest.size ≤ 1000000
structure ItemSm (x : Itm) : Prop where
  place : x.place.size ≤ 1000000
  obj : ObjSm x.obj
structure EntSm (x : Ent) : Prop where
  key : x.key.size ≤ 1000000
  who : x.who.size ≤ 1000000
  value : x.value.size ≤ 1000000
structure MsgSm (m : Msg) : Prop where
  frm : m.frm.size ≤ 1000000
  to : m.to.size ≤ 1000000
  place : m.place.size ≤ 1000000
  obj : ObjSm m.obj
  texts : ∀ x ∈ m.texts, x.size ≤ 1000000
  leaves : ∀ x ∈ m.leaves, LeafSm x
  items : ∀ x ∈ m.items, ItemSm x
  ents : ∀ x ∈ m.ents, EntSm x
  nt : m.texts.length ≤ 1000
  nl : m.leaves.length ≤ 1000
  ni : m.items.length ≤ 1000
  li : (m.items.flatMap itemB).length ≤ 260000000000
  ne : m.ents.length ≤ 5000
structure MsgLn (m : Msg) : Prop where
  texts : (m.texts.flatMap textB).length ≤ 1100000000
  leaves : (m.leaves.flatMap leafB).length ≤ 2100000000
  items : (m.items.flatMap itemB).length ≤ 260000000000
  ents : (m.ents.flatMap entB).length ≤ 16000000000
  obj : (objB m.obj).length ≤ 12000000000
end Go.Proofs.YtbomkkjhafdhiaaGreat
end

section
set_option linter.all false
namespace Go.Ab
open Go.RowKit (Below)
open Go.Shelf Go.Proofs

section
variable {P : Program} {σ : Store}

def rowed (w : World) (n b : Nat) (f : Array Value → Array Value) (os : Array Obj) : World := Sort.grow (Sort.mapBlock (Sort.ahead w n) b f) os

theorem rowed_heap_ne (w : World) (n : Nat) {b b' : Nat} (f : Array Value → Array Value) (os : Array Obj) (h : b' ≠ b) (hlt : b' < w.heap.size) : (rowed w n b f os).heap[b']? = w.heap[b']? := by
  unfold rowed Sort.grow Sort.mapBlock Sort.ahead
  dsimp only
  rw [Array.getElem?_append_left (by simpa using hlt), Array.getElem?_modify, if_neg (Ne.symm h)]
theorem rowed_heap {w : World} (n : Nat) {b : Nat} (f : Array Value → Array Value) (os : Array Obj) {c : Array Value} {e : TypeId} {fr : Nat × Nat} (h : w.heap[b]? = some (.cells c e fr)) : (rowed w n b f os).heap[b]? = some (.cells (f c) e fr) := by
  have hlt : b < w.heap.size := (Array.getElem?_eq_some_iff.1 h).1
  unfold rowed Sort.grow Sort.mapBlock Sort.ahead
  dsimp only
  rw [Array.getElem?_append_left (by simpa using hlt), Array.getElem?_modify, if_pos rfl, h]
  rfl

/-- an object's cells are laid anew, and blocks beside it -/
theorem Inv.rowed {κ : K} (h : Inv κ σ) {o : Nat} {cs cs' : List AVal} (ho : σ.heap o = some (.cells cs)) {b : Nat} (hb : κ.ρ o = some b) (n : Nat) (f : Array Value → Array Value) (os : Array Obj) (hf : ∀ c, (f c).size = c.size)
    (hv : ∀ c : Array Value, cs.length ≤ c.size → (∀ i (hi : i < cs.length), Rv κ cs[i] (c.getD i undef)) → cs'.length ≤ c.size ∧ ∀ i (hi : i < cs'.length), Rv κ cs'[i] ((f c).getD i undef)) :
    κ.Le { κ with w := Ab.rowed κ.w n b f os } ∧ Inv { κ with w := Ab.rowed κ.w n b f os } (σ.set o (.cells cs')) := by
  obtain ⟨b', hb', hbase, hIb, c, e, hheap, hlen, hR⟩ := h.heap o _ ho
  rw [hb] at hb'
  obtain rfl := Option.some.inj hb'
  have hlt : b < κ.w.heap.size := (Array.getElem?_eq_some_iff.1 hheap).1
  have hnew := rowed_heap n f os hheap
  have hle : κ.Le { κ with w := Ab.rowed κ.w n b f os } := by
    refine ⟨rfl, ⟨rfl, rfl, rfl, by simp [Ab.rowed, Sort.grow, Sort.mapBlock, Sort.ahead], fun k hk => ?_⟩, fun b' s e' => ?_, fun _ _ e' => e', fun _ _ e' => e', fun _ => Nat.le_refl _, fun b' off' u hi e' => ?_, by simp [Ab.rowed, Sort.grow, Sort.mapBlock, Sort.ahead]⟩
    · exact rowed_heap_ne _ _ _ _ (by omega) (by omega)
    · by_cases hbb : b' = b
      · subst hbb
        unfold World.shape? at e' ⊢
        rw [hheap] at e'
        dsimp only
        rw [hnew]
        simpa [hf] using e'
      · have hlt' : b' < κ.w.heap.size := by
          unfold World.shape? at e'
          cases hq : κ.w.heap[b']? with
          | none => rw [hq] at e'; cases e'
          | some q => exact (Array.getElem?_eq_some_iff.1 hq).1
        unfold World.shape? at e' ⊢
        dsimp only
        rw [rowed_heap_ne _ _ _ _ hbb hlt']; exact e'
    · have hne : b' ≠ b := fun hh' => by rw [hh', hIb] at hi; omega
      have hlt' : b' < κ.w.heap.size := by
        unfold World.cell? at e'
        cases hq : κ.w.heap[b']? with
        | none => rw [hq] at e'; cases e'
        | some q => exact (Array.getElem?_eq_some_iff.1 hq).1
      simp only [World.cell?] at e' ⊢
      rw [rowed_heap_ne _ _ _ _ hne hlt']; exact e'
  obtain ⟨h1, h2⟩ := hv c hlen hR
  have big : κ.w.heap.size ≤ (Ab.rowed κ.w n b f os).heap.size := hle.below.size
  refine ⟨hle, ?_⟩
  refine h.step hle rfl rfl h.frO b hbase hIb (fun b' hne hl' => rowed_heap_ne _ _ _ _ hne hl') o _ (fun _ _ => rfl) hb ⟨f c, e, hnew, by rw [hf]; exact h1, fun i hi => (h2 i hi).mono hle⟩ ?_ ?_
  · intro j z hz hne hh'
    exact hne (h.inj j o _ _ b hz ho hh' hb)
  · intro t sz u ht hu hh'
    exact h.tokobj t sz u b o _ ht hu hh' ho hb

/-- what an object's cells hold, as the kit says it -/
theorem holds_of {α : Type} [Inhabited α] {κ : K} (enc : α → Value) (d : Array α) {b : Nat} {c : Array Value} {e : TypeId} (hh : κ.w.heap[b]? = some (.cells c e (0, 0))) (hl : d.size ≤ c.size) (h : ∀ j, j < d.size → c.getD j undef = enc d[j]!) : Sort.Holds enc κ.w b 0 d := by
  intro j hj
  refine ⟨?_, by simp [World.frozen?, hh]⟩
  have h1 := h j hj
  simp only [World.cell?, hh, Nat.zero_add]
  rw [← h1]
  simp [show j < c.size by omega]

theorem putCells_size {α : Type} [Inhabited α] (enc : α → Value) (off : Nat) (d : Array α) (c : Array Value) : (Sort.putCells enc off d c).size = c.size := by simp [Sort.putCells]
theorem putCells_at {α : Type} [Inhabited α] (enc : α → Value) (d : Array α) (c : Array Value) (j : Nat) (hj : j < d.size) (hc : d.size ≤ c.size) : (Sort.putCells enc 0 d c).getD j undef = enc d[j]! := by
  simp [Sort.putCells, show j < c.size by omega, hj]

theorem Rv.mslInv {κ : K} {o sz off len : Nat} {v : Value} (h : Rv κ (.msl o sz off len) v) : ∃ b cap, v = .slice (some ⟨b, off, none⟩) len cap ∧ κ.ρ o = some b := by
  cases h with
  | msl _ _ _ _ b cap n e hb hlen hs hn => exact ⟨b, cap, rfl, hb⟩

theorem postNil {κ κ' : K} {σ : Store} (hle : κ.Le κ') (hI : Inv κ' σ) {Kk : AVal → Store → Prop} (hk : Kk (.tup []) σ) : Post κ Kk (.tuple #[]) κ'.w :=
  ⟨κ', .tup [], σ, rfl, hle, hI, .tup [] #[] rfl (fun i hi => by simp at hi), hk⟩

/-- one-cell elements -/
theorem sort1_of {α : Type} [Inhabited α] (enc : α → Value) {f : FuncId} {o : Nat} (zs zs' : List α) (hlen : zs'.length = zs.length) (ho : σ.heap o = some (.cells (zs.map fun z => .lit (enc z)))) (extra : List AVal) (ev : List Value)
    (h : ∀ (b cap : Nat) (w : World), Sort.Holds enc w b 0 zs.toArray → b < w.heap.size → Calls P f (#[.slice (some ⟨b, 0, none⟩) zs.length cap] ++ ev.toArray) w fun e w' => e = .returned (.tuple #[]) ∧ ∃ n os, w' = Sort.grow (Sort.putRow enc (Sort.ahead w n) b 0 zs'.toArray) os)
    (he : extra = ev.map .lit) : ACalls P f (.msl o 1 0 zs.length :: extra) σ fun v σ' => v = .tup [] ∧ σ' = σ.set o (.cells (zs'.map fun z => .lit (enc z))) := by
  intro κ vs hI hn hv
  subst he
  obtain ⟨b, cap, e0, hb⟩ := (hv 0 (by simp)).mslInv
  have hvs : vs = #[.slice (some ⟨b, 0, none⟩) zs.length cap] ++ ev.toArray := by
    apply Array.ext (by simpa [Nat.add_comm] using hn)
    intro i h1 h2
    have hi : i < (AVal.msl o 1 0 zs.length :: ev.map .lit).length := by rw [← hn]; exact h1
    have hr := hv i hi
    have eg : vs.getD i undef = vs[i] := by simp [h1]
    rw [eg] at hr
    cases i with
    | zero => rw [← eg, e0]; simp
    | succ i =>
      simp only [List.getElem_cons_succ, List.getElem_map] at hr
      rw [hr.litInv]
      simp [Array.getElem_append]
  obtain ⟨b', hb', hbase, hIb, c, e, hheap, hlen', hR⟩ := hI.heap o _ ho
  rw [hb] at hb'
  obtain rfl := Option.some.inj hb'
  have hlt : b < κ.w.heap.size := (Array.getElem?_eq_some_iff.1 hheap).1
  have hH : Sort.Holds enc κ.w b 0 zs.toArray := holds_of enc zs.toArray hheap (by simpa using hlen') fun j hj => by
    have hj' : j < zs.length := by simpa using hj
    have h1 := hR j (by simpa using hj')
    simp only [List.getElem_map] at h1
    rw [h1.litInv]
    simp [hj']
  rw [hvs]
  refine (h b cap κ.w hH hlt).mono fun ex w' ⟨he, n, os, hw⟩ => ⟨_, he, ?_⟩
  have key := hI.rowed ho hb n (Sort.putCells enc 0 zs'.toArray) os (fun c => putCells_size enc 0 _ c) (cs' := zs'.map fun z => .lit (enc z)) (fun c hc _ => ⟨by simpa [hlen] using hc, fun i hi => by
    have hi' : i < zs'.length := by simpa using hi
    rw [putCells_at enc zs'.toArray c i (by simpa using hi') (by simp at hc ⊢; omega)]
    simp [hi']
    exact .lit _⟩)
  rw [hw]
  exact postNil (κ' := { κ with w := Ab.rowed κ.w n b (Sort.putCells enc 0 zs'.toArray) os }) key.1 key.2 ⟨rfl, rfl⟩
end
end Go.Ab
end

section
set_option linter.all false
set_option maxRecDepth 100000
namespace Go.Proofs
open Go.Shelf
def sortI_ren : Go.Shelf.Ren := ⟨(fun n => match n with | 125 => 85 | 128 => 128 | 129 => 129 | 189 => 115 | 215 => 154 | 216 => 174 | 257 => 151 | 294 => 168 | 295 => 169 | 296 => 170 | 297 => 171 | 298 => 172 | 299 => 173 | 300 => 175 | 301 => 176 | 328 => 181 | 329 => 156 | 330 => 157 | 331 => 182 | 332 => 183 | 343 => 185 | _ => 0), (fun n => match n with | 0 => 0 | 3 => 3 | 4 => 4 | 5 => 5 | 9 => 9 | 28 => 46 | 46 => 128 | 51 => 103 | 53 => 166 | 131 => 123 | 182 => 158 | 183 => 159 | 218 => 190 | 222 => 194 | 228 => 206 | 229 => 207 | _ => 0), (fun n => match n with  | _ => 0)⟩
theorem sortI : Lays.n189 Tryz.prog sortI_ren := {
  mixed := Tryz.mixed
  f125 := by kernel_rfl
  f128 := by kernel_rfl
  f129 := by kernel_rfl
  f189 := by kernel_rfl
  f215 := by kernel_rfl
  f216 := by kernel_rfl
  f257 := by kernel_rfl
  f294 := by kernel_rfl
  f295 := by kernel_rfl
  f296 := by kernel_rfl
  f297 := by kernel_rfl
  f298 := by kernel_rfl
  f299 := by kernel_rfl
  f300 := by kernel_rfl
  f301 := by kernel_rfl
  f328 := by kernel_rfl
  f329 := by kernel_rfl
  f330 := by kernel_rfl
  f331 := by kernel_rfl
  f332 := by kernel_rfl
  f343 := by kernel_rfl
  t0 := Tryz.underlying0
  a0 := Tryz.isAgg0
  z0 := Tryz.sizeOf0
  v0 := Tryz.zeroValue0
  t3 := Tryz.underlying3
  a3 := Tryz.isAgg3
  z3 := Tryz.sizeOf3
  v3 := Tryz.zeroValue3
  t4 := Tryz.underlying4
  a4 := Tryz.isAgg4
  z4 := Tryz.sizeOf4
  v4 := Tryz.zeroValue4
  t5 := Tryz.underlying5
  a5 := Tryz.isAgg5
  z5 := Tryz.sizeOf5
  v5 := Tryz.zeroValue5
  t9 := Tryz.underlying9
  a9 := Tryz.isAgg9
  z9 := Tryz.sizeOf9
  v9 := Tryz.zeroValue9
  t28 := Tryz.underlying46
  a28 := Tryz.isAgg46
  z28 := Tryz.sizeOf46
  v28 := Tryz.zeroValue46
  t46 := Tryz.underlying128
  a46 := Tryz.isAgg128
  z46 := Tryz.sizeOf128
  v46 := Tryz.zeroValue128
  t51 := Tryz.underlying103
  a51 := Tryz.isAgg103
  z51 := Tryz.sizeOf103
  v51 := Tryz.zeroValue103
  t53 := Tryz.underlying166
  a53 := Tryz.isAgg166
  z53 := Tryz.sizeOf166
  v53 := Tryz.zeroValue166
  t131 := Tryz.underlying123
  a131 := Tryz.isAgg123
  z131 := Tryz.sizeOf123
  v131 := Tryz.zeroValue123
  t182 := Tryz.underlying158
  a182 := Tryz.isAgg158
  z182 := Tryz.sizeOf158
  v182 := Tryz.zeroValue158
  t183 := Tryz.underlying159
  a183 := Tryz.isAgg159
  z183 := Tryz.sizeOf159
  v183 := Tryz.zeroValue159
  t218 := Tryz.underlying190
  a218 := Tryz.isAgg190
  z218 := Tryz.sizeOf190
  v218 := Tryz.zeroValue190
  t222 := Tryz.underlying194
  a222 := Tryz.isAgg194
  z222 := Tryz.sizeOf194
  v222 := Tryz.zeroValue194
  t228 := Tryz.underlying206
  a228 := Tryz.isAgg206
  z228 := Tryz.sizeOf206
  v228 := Tryz.zeroValue206
  t229 := Tryz.underlying207
  a229 := Tryz.isAgg207
  z229 := Tryz.sizeOf207
  v229 := Tryz.zeroValue207 }

def sortS_ren : Go.Shelf.Ren := ⟨(fun n => match n with | 125 => 85 | 128 => 128 | 129 => 129 | 190 => 77 | 258 => 113 | 302 => 141 | 303 => 142 | 304 => 143 | 305 => 144 | 306 => 145 | 307 => 146 | 308 => 147 | 309 => 148 | 310 => 149 | 329 => 156 | 330 => 157 | 333 => 164 | 334 => 165 | 335 => 166 | 336 => 167 | 344 => 180 | _ => 0), (fun n => match n with | 0 => 0 | 3 => 3 | 4 => 4 | 5 => 5 | 9 => 9 | 31 => 40 | 46 => 128 | 51 => 103 | 53 => 166 | 131 => 123 | 182 => 158 | 183 => 159 | 218 => 190 | 222 => 194 | 228 => 206 | 229 => 207 | _ => 0), (fun n => match n with  | _ => 0)⟩
theorem sortS : Lays.n190 Tryz.prog sortS_ren := {
  mixed := Tryz.mixed
  f125 := by kernel_rfl
  f128 := by kernel_rfl
  f129 := by kernel_rfl
  f190 := by kernel_rfl
  f258 := by kernel_rfl
  f302 := by kernel_rfl
  f303 := by kernel_rfl
  f304 := by kernel_rfl
  f305 := by kernel_rfl
  f306 := by kernel_rfl
  f307 := by kernel_rfl
  f308 := by kernel_rfl
  f309 := by kernel_rfl
  f310 := by kernel_rfl
  f329 := by kernel_rfl
  f330 := by kernel_rfl
  f333 := by kernel_rfl
  f334 := by kernel_rfl
  f335 := by kernel_rfl
  f336 := by kernel_rfl
  f344 := by kernel_rfl
  t0 := Tryz.underlying0
  a0 := Tryz.isAgg0
  z0 := Tryz.sizeOf0
  v0 := Tryz.zeroValue0
  t3 := Tryz.underlying3
  a3 := Tryz.isAgg3
  z3 := Tryz.sizeOf3
  v3 := Tryz.zeroValue3
  t4 := Tryz.underlying4
  a4 := Tryz.isAgg4
  z4 := Tryz.sizeOf4
  v4 := Tryz.zeroValue4
  t5 := Tryz.underlying5
  a5 := Tryz.isAgg5
  z5 := Tryz.sizeOf5
  v5 := Tryz.zeroValue5
  t9 := Tryz.underlying9
  a9 := Tryz.isAgg9
  z9 := Tryz.sizeOf9
  v9 := Tryz.zeroValue9
  t31 := Tryz.underlying40
  a31 := Tryz.isAgg40
  z31 := Tryz.sizeOf40
  v31 := Tryz.zeroValue40
  t46 := Tryz.underlying128
  a46 := Tryz.isAgg128
  z46 := Tryz.sizeOf128
  v46 := Tryz.zeroValue128
  t51 := Tryz.underlying103
  a51 := Tryz.isAgg103
  z51 := Tryz.sizeOf103
  v51 := Tryz.zeroValue103
  t53 := Tryz.underlying166
  a53 := Tryz.isAgg166
  z53 := Tryz.sizeOf166
  v53 := Tryz.zeroValue166
  t131 := Tryz.underlying123
  a131 := Tryz.isAgg123
  z131 := Tryz.sizeOf123
  v131 := Tryz.zeroValue123
  t182 := Tryz.underlying158
  a182 := Tryz.isAgg158
  z182 := Tryz.sizeOf158
  v182 := Tryz.zeroValue158
  t183 := Tryz.underlying159
  a183 := Tryz.isAgg159
  z183 := Tryz.sizeOf159
  v183 := Tryz.zeroValue159
  t218 := Tryz.underlying190
  a218 := Tryz.isAgg190
  z218 := Tryz.sizeOf190
  v218 := Tryz.zeroValue190
  t222 := Tryz.underlying194
  a222 := Tryz.isAgg194
  z222 := Tryz.sizeOf194
  v222 := Tryz.zeroValue194
  t228 := Tryz.underlying206
  a228 := Tryz.isAgg206
  z228 := Tryz.sizeOf206
  v228 := Tryz.zeroValue206
  t229 := Tryz.underlying207
  a229 := Tryz.isAgg207
  z229 := Tryz.sizeOf207
  v229 := Tryz.zeroValue207 }

end Go.Proofs
namespace Go.Proofs.YtbomkkjhafdhiaaGreat
open Go.Ab Go.Shelf
theorem sortInt_c {o : Nat} {zs : List Int} {σ : Store} (ho : σ.heap o = some (.cells (zs.map vInt))) (hl : zs.length ≤ 1000000000) :
    ACalls Tryz.prog 115 [.msl o 1 0 zs.length] σ fun v σ' => v = .tup [] ∧ σ' = σ.set o (.cells ((zs.mergeSort fun x y => decide (x ≤ y)).map vInt)) :=
  sort1_of (Value.int .i64) zs _ (by simp) ho [] [] (fun b cap w hH hb => by
    have h : Calls Tryz.prog 115 #[.slice (some ⟨b, 0, none⟩) zs.length cap] w _ := Any.slices_Sort_int sortI b 0 cap zs w hH hb (by omega)
    simpa using h) rfl
def sortSS (ss : List ByteArray) : List ByteArray := ((ss.map Lb).mergeSort fun x y => decide (x ≤ y)).map B
theorem sortStr_c {o : Nat} {ss : List ByteArray} {σ : Store} (ho : σ.heap o = some (.cells (ss.map vStr))) (hl : ss.length ≤ 1000000000) :
    ACalls Tryz.prog 77 [.msl o 1 0 ss.length] σ fun v σ' => v = .tup [] ∧ σ' = σ.set o (.cells ((sortSS ss).map vStr)) := by
  have e1 : ∀ z : List (List UInt8), (z.map fun l => AVal.lit (Go.Proofs.encStr l)) = (z.map B).map vStr := fun z => by rw [List.map_map]; rfl
  have e2 : (ss.map Lb).map B = ss := by rw [List.map_map]; conv => rhs; rw [← List.map_id ss]
                                         apply List.map_congr_left; intro x _; exact B_Lb x
  have h := sort1_of (P := Tryz.prog) (σ := σ) (f := 77) (o := o) Go.Proofs.encStr (ss.map Lb) ((ss.map Lb).mergeSort fun x y => decide (x ≤ y)) (by simp) (by rw [e1, e2]; exact ho) [] [] (fun b cap w hH hb => by
    have h : Calls Tryz.prog 77 #[.slice (some ⟨b, 0, none⟩) (ss.map Lb).length cap] w _ := Any.slices_Sort_string sortS b 0 cap (ss.map Lb) w hH hb (by simp; omega)
    simpa using h) rfl
  rw [e1] at h
  simpa only [List.length_map, sortSS] using h
theorem sortNil_c {f : FuncId} {σ : Store} (h : ∀ w, Calls Tryz.prog f #[.slice none 0 0] w fun e w' => e = .returned (.tuple #[]) ∧ w' = w) :
    ACalls Tryz.prog f [.lit (.slice none 0 0)] σ fun v σ' => v = .tup [] ∧ σ' = σ := by
  intro κ vs hI hn hv
  have e0 := (hv 0 (by simp)).litInv
  have hvs : vs = #[.slice none 0 0] := by
    apply Array.ext (by simpa using hn)
    intro i h1 h2
    simp at h2
    subst h2
    have eg : vs.getD 0 undef = vs[0] := by simp [h1]
    rw [← eg, e0]; rfl
  rw [hvs]
  exact (h κ.w).mono fun ex w' ⟨he, hw⟩ => ⟨_, he, by rw [hw]; exact postNil (K.Le.refl κ) hI ⟨rfl, rfl⟩⟩
end Go.Proofs.YtbomkkjhafdhiaaGreat
end

section
set_option linter.all false
set_option maxRecDepth 100000
namespace Go.Proofs
open Go.Shelf
def compactI_ren : Go.Shelf.Ren := ⟨(fun n => match n with | 20 => 116 | _ => 0), (fun n => match n with | 0 => 0 | 3 => 3 | 4 => 4 | 22 => 46 | _ => 0), (fun n => match n with  | _ => 0)⟩
theorem compactI : Lays2.n20 Tryz.prog compactI_ren := {
  mixed := Tryz.mixed
  f20 := by kernel_rfl
  t0 := Tryz.underlying0
  a0 := Tryz.isAgg0
  z0 := Tryz.sizeOf0
  v0 := Tryz.zeroValue0
  t3 := Tryz.underlying3
  a3 := Tryz.isAgg3
  z3 := Tryz.sizeOf3
  v3 := Tryz.zeroValue3
  t4 := Tryz.underlying4
  a4 := Tryz.isAgg4
  z4 := Tryz.sizeOf4
  v4 := Tryz.zeroValue4
  t22 := Tryz.underlying46
  a22 := Tryz.isAgg46
  z22 := Tryz.sizeOf46
  v22 := Tryz.zeroValue46
  i3 := by kernel_rfl }

def compactSt_ren : Go.Shelf.Ren := ⟨(fun n => match n with | 194 => 78 | _ => 0), (fun n => match n with | 0 => 0 | 3 => 3 | 4 => 4 | 9 => 9 | 31 => 40 | _ => 0), (fun n => match n with  | _ => 0)⟩
theorem compactSt : Lays.n194 Tryz.prog compactSt_ren := {
  mixed := Tryz.mixed
  f194 := by kernel_rfl
  t0 := Tryz.underlying0
  a0 := Tryz.isAgg0
  z0 := Tryz.sizeOf0
  v0 := Tryz.zeroValue0
  t3 := Tryz.underlying3
  a3 := Tryz.isAgg3
  z3 := Tryz.sizeOf3
  v3 := Tryz.zeroValue3
  t4 := Tryz.underlying4
  a4 := Tryz.isAgg4
  z4 := Tryz.sizeOf4
  v4 := Tryz.zeroValue4
  t9 := Tryz.underlying9
  a9 := Tryz.isAgg9
  z9 := Tryz.sizeOf9
  v9 := Tryz.zeroValue9
  t31 := Tryz.underlying40
  a31 := Tryz.isAgg40
  z31 := Tryz.sizeOf40
  v31 := Tryz.zeroValue40 }

end Go.Proofs
namespace Go.Ab
open Go.RowKit (Below)
open Go.Shelf Go.Proofs
section
variable {P : Program} {σ : Store}
theorem ACalls.after {f : FuncId} {args : List AVal} {Q1 Q2 : AVal → Store → Prop} (h : ACalls P f args σ Q1)
    (hk : ∀ (κ : K) a σ' cv, Inv κ σ' → Rv κ a cv → Q1 a σ' → ∃ κ' a' σ'', κ'.w = κ.w ∧ κ.Le κ' ∧ Inv κ' σ'' ∧ Rv κ' a' cv ∧ Q2 a' σ'') : ACalls P f args σ Q2 :=
  fun κ vs hI hn hv => (h κ vs hI hn hv).mono fun e w' ⟨cv, he, κ1, a, σ', h1, h2, h3, h4, h5⟩ => by
    obtain ⟨κ2, a', σ'', g1, g2, g3, g4, g5⟩ := hk κ1 a σ' cv h3 h4 h5
    exact ⟨cv, he, κ2, a', σ'', g1.trans h1, h2.trans g2, g3, g4, g5⟩

theorem compact1_of {α : Type} [Inhabited α] (enc : α → Value) {f : FuncId} {o k : Nat} (zs ys : List α) (hlen : ys.length = zs.length) (hk : k ≤ zs.length) (ho : σ.heap o = some (.cells (zs.map fun z => .lit (enc z))))
    (h : ∀ (b cap : Nat) (w : World), Sort.Holds enc w b 0 zs.toArray → zs.length ≤ cap → Calls P f #[.slice (some ⟨b, 0, none⟩) zs.length cap] w fun e w' => e = .returned (.slice (some ⟨b, 0, none⟩) k cap) ∧ ∃ q, w' = Sort.putRow enc (Sort.ahead w q) b 0 ys.toArray) :
    ACalls P f [.msl o 1 0 zs.length] σ fun v σ' => v = .msl o 1 0 k ∧ σ' = σ.set o (.cells (ys.map fun z => .lit (enc z))) := by
  intro κ vs hI hn hv
  have hv0 := hv 0 (by simp)
  simp only [List.getElem_cons_zero] at hv0
  have hvs : ∃ u, vs = #[u] ∧ vs.getD 0 undef = u := by
    have h1 : 0 < vs.size := by rw [hn]; simp
    refine ⟨vs[0], ?_, by simp [h1]⟩
    apply Array.ext (by simpa using hn)
    intro i h1 h2
    simp at h2; subst h2; rfl
  obtain ⟨u, rfl, hu⟩ := hvs
  rw [hu] at hv0
  cases hv0 with
  | msl _ _ _ _ b cap nn e1 hb hlc hs hnn =>
  obtain ⟨b', hb', hbase, hIb, c, e, hheap, hlen', hR⟩ := hI.heap o _ ho
  rw [hb] at hb'
  obtain rfl := Option.some.inj hb'
  have hlt : b < κ.w.heap.size := (Array.getElem?_eq_some_iff.1 hheap).1
  have hH : Sort.Holds enc κ.w b 0 zs.toArray := holds_of enc zs.toArray hheap (by simpa using hlen') fun j hj => by
    have hj' : j < zs.length := by simpa using hj
    have h1 := hR j (by simpa using hj')
    simp only [List.getElem_map] at h1
    rw [h1.litInv]
    simp [hj']
  refine (h b cap κ.w hH hlc).mono fun ex w' ⟨he, q, hw⟩ => ⟨_, he, ?_⟩
  have key := hI.rowed ho hb q (Sort.putCells enc 0 ys.toArray) #[] (fun c => putCells_size enc 0 _ c) (cs' := ys.map fun z => .lit (enc z)) (fun c hc _ => ⟨by simpa [hlen] using hc, fun i hi => by
    have hi' : i < ys.length := by simpa using hi
    rw [putCells_at enc ys.toArray c i (by simpa using hi') (by simp at hc ⊢; omega)]
    simp [hi']
    exact .lit _⟩)
  have hw2 : w' = Ab.rowed κ.w q b (Sort.putCells enc 0 ys.toArray) #[] := by rw [hw]; simp [Ab.rowed, Sort.grow, Sort.putRow]
  rw [hw2]
  exact ⟨{ κ with w := Ab.rowed κ.w q b (Sort.putCells enc 0 ys.toArray) #[] }, .msl o 1 0 k, _, rfl, key.1, key.2, .msl o 1 0 k b cap nn e1 hb (by omega) (key.1.shape _ _ hs) hnn, rfl, rfl⟩
end
end Go.Ab
namespace Go.Proofs.YtbomkkjhafdhiaaGreat
open Go.Ab Go.Shelf
theorem flat_vStr (ss : List ByteArray) : flat (ss.map vStr) = ss.map vStr := flat_one fun x hx => by
  obtain ⟨s, _, rfl⟩ := List.mem_map.1 hx
  rfl
theorem flat_vInt (zs : List Int) : flat (zs.map vInt) = zs.map vInt := flat_one fun x hx => by
  obtain ⟨s, _, rfl⟩ := List.mem_map.1 hx
  rfl
def sortII (zs : List Int) : List Int := zs.mergeSort fun x y => decide (x ≤ y)
def compactL (ss : List ByteArray) : List ByteArray := (Lib.compact (ss.map Lb)).map B
/-- sort, of a row that grew -/
theorem sortIntC {σ0 σ : Store} {zs : List Int} {a : AVal} (h : CBp σ0 σ 1 (zs.map vInt) a) (hl : zs.length ≤ 1000000000) :
    ACalls Tryz.prog 115 [a] σ fun v σ' => v = .tup [] ∧ CBp σ0 σ' 1 ((sortII zs).map vInt) a := by
  rcases h with ⟨rfl, h0, rfl⟩ | ⟨o, ho, rfl, rfl⟩
  · obtain rfl : zs = [] := by simpa using h0
    exact (sortNil_c fun w => Any.slices_Sort_int_none sortI none 0 w).wkS fun v σ' ⟨hv, hs⟩ => ⟨v, σ', .refl _, .refl _, hv, .inl ⟨rfl, by simp [sortII], hs⟩⟩
  · rw [flat_vInt, List.length_map]
    exact (sortInt_c (Store.set_get ..) hl).wkS fun v σ' ⟨hv, hs⟩ => ⟨v, σ', .refl _, .refl _, hv, .inr ⟨o, ho, by simp [sortII], by rw [hs, Store.set_set, flat_vInt]; rfl⟩⟩
theorem sortStrC {σ0 σ : Store} {ss : List ByteArray} {a : AVal} (h : CBp σ0 σ 1 (ss.map vStr) a) (hl : ss.length ≤ 1000000000) :
    ACalls Tryz.prog 77 [a] σ fun v σ' => v = .tup [] ∧ CBp σ0 σ' 1 ((sortSS ss).map vStr) a := by
  rcases h with ⟨rfl, h0, rfl⟩ | ⟨o, ho, rfl, rfl⟩
  · obtain rfl : ss = [] := by simpa using h0
    exact (sortNil_c fun w => Any.slices_Sort_string_none sortS none 0 w).wkS fun v σ' ⟨hv, hs⟩ => ⟨v, σ', .refl _, .refl _, hv, .inl ⟨rfl, by simp [sortSS], hs⟩⟩
  · rw [flat_vStr, List.length_map]
    exact (sortStr_c (Store.set_get ..) hl).wkS fun v σ' ⟨hv, hs⟩ => ⟨v, σ', .refl _, .refl _, hv, .inr ⟨o, ho, by simp [sortSS], by rw [hs, Store.set_set, flat_vStr]⟩⟩
theorem retNil_c {f : FuncId} {σ : Store} (h : ∀ w, Calls Tryz.prog f #[.slice none 0 0] w fun e w' => e = .returned (.slice none 0 0) ∧ w' = w) :
    ACalls Tryz.prog f [.lit (.slice none 0 0)] σ fun v σ' => v = .lit (.slice none 0 0) ∧ σ' = σ := by
  intro κ vs hI hn hv
  have e0 := (hv 0 (by simp)).litInv
  have hvs : vs = #[.slice none 0 0] := by
    apply Array.ext (by simpa using hn)
    intro i h1 h2
    simp at h2
    subst h2
    have eg : vs.getD 0 undef = vs[0] := by simp [h1]
    rw [← eg, e0]; rfl
  rw [hvs]
  exact (h κ.w).mono fun ex w' ⟨he, hw⟩ => ⟨_, he, by rw [hw]; exact ⟨κ, _, σ, rfl, .refl κ, hI, .lit _, rfl, rfl⟩⟩
/-- compact, and not written any more -/
theorem compactIntC {σ0 σ : Store} {zs : List Int} {a : AVal} (h : CBp σ0 σ 1 (zs.map vInt) a) (hl : zs.length ≤ 1000000000) (hc : (Lib.compact zs).length ≤ zs.length) :
    ACalls Tryz.prog 116 [a] σ fun v σ' => v = .sl 1 ((Lib.compact zs).map vInt) false ∧ σ0 = σ' := by
  rcases h with ⟨rfl, h0, rfl⟩ | ⟨o, ho, rfl, rfl⟩
  · obtain rfl : zs = [] := by simpa using h0
    exact (retNil_c fun w => Any.slices_Compact_int_empty compactI none 0 w).wkS fun v σ' ⟨hv, hs⟩ => ⟨_, σ', by rw [hv]; exact .nil 1 false, .refl _, rfl, hs.symm⟩
  · rw [flat_vInt, List.length_map]
    refine (compact1_of (σ := σ0.set o (.cells (zs.map vInt))) (Value.int .i64) zs (Lib.compact zs ++ List.replicate (zs.length - (Lib.compact zs).length) 0) (k := (Lib.compact zs).length) (by simp; omega) hc (Store.set_get ..) fun b cap w hH hcap => Any.slices_Compact_int compactI b 0 cap zs w hH (by omega) hcap).after ?_
    rintro κ _ _ cv hI hr ⟨rfl, rfl⟩
    obtain ⟨κ', h1, h2, h3, h4⟩ := Ab.freeze hI hr (Store.set_get ..) (l := (Lib.compact zs).map vInt) (by rw [flat_vInt, List.map_append, Nat.mul_one, List.take_left' (by simp)]) (by simp) fun x hx => by
      obtain ⟨s, _, rfl⟩ := List.mem_map.1 hx
      rfl
    rw [Store.set_set, Store.set_del ho] at h3
    exact ⟨κ', _, _, h1, h2, h3, h4, rfl, rfl⟩
theorem compactStrC {σ0 σ : Store} {ss : List ByteArray} {a : AVal} (h : CBp σ0 σ 1 (ss.map vStr) a) (hl : ss.length ≤ 1000000000) (hc : (Lib.compact (ss.map Lb)).length ≤ ss.length) :
    ACalls Tryz.prog 78 [a] σ fun v σ' => v = .sl 1 ((compactL ss).map vStr) false ∧ σ0 = σ' := by
  rcases h with ⟨rfl, h0, rfl⟩ | ⟨o, ho, rfl, rfl⟩
  · obtain rfl : ss = [] := by simpa using h0
    exact (retNil_c fun w => Any.slices_Compact_string_empty compactSt none 0 w).wkS fun v σ' ⟨hv, hs⟩ => ⟨_, σ', by rw [hv]; exact .nil 1 false, .refl _, rfl, hs.symm⟩
  · rw [flat_vStr, List.length_map]
    have e1 : ∀ z : List (List UInt8), (z.map fun l => AVal.lit (Go.Proofs.encStr l)) = (z.map B).map vStr := fun z => by rw [List.map_map]; rfl
    have e2 : (ss.map Lb).map B = ss := by
      rw [List.map_map]; conv => rhs; rw [← List.map_id ss]
      apply List.map_congr_left; intro x _; exact B_Lb x
    have key := compact1_of (P := Tryz.prog) (f := 78) (o := o) (σ := σ0.set o (.cells (ss.map vStr))) Go.Proofs.encStr (ss.map Lb) (Lib.compact (ss.map Lb) ++ List.replicate ((ss.map Lb).length - (Lib.compact (ss.map Lb)).length) []) (k := (Lib.compact (ss.map Lb)).length) (by simp; omega) (by simpa using hc) (by rw [e1, e2]; exact Store.set_get ..) fun b cap w hH hcap => Any.slices_Compact_string compactSt b 0 cap (ss.map Lb) w hH (by simp; omega) hcap
    rw [List.length_map] at key
    refine key.after ?_
    rintro κ _ _ cv hI hr ⟨rfl, rfl⟩
    obtain ⟨κ', h1, h2, h3, h4⟩ := Ab.freeze hI hr (Store.set_get ..) (l := (compactL ss).map vStr) (by rw [flat_vStr, e1, List.map_append, List.map_append, Nat.mul_one, List.take_left' (by simp)]; rfl) (by simp [compactL]) fun x hx => by
      obtain ⟨s, _, rfl⟩ := List.mem_map.1 hx
      rfl
    rw [Store.set_set, Store.set_del ho] at h3
    exact ⟨κ', _, _, h1, h2, h3, h4, rfl, rfl⟩
end Go.Proofs.YtbomkkjhafdhiaaGreat
end

section
set_option linter.all false
set_option maxRecDepth 100000
namespace Go.Proofs.YtbomkkjhafdhiaaGreat
open Go.Ab

theorem wrap_u64_m (n : Int) (h0 : 0 ≤ n) (h1 : n ≤ 18446744073709551615) : IntKind.u64.wrap n = n := by
  unfold IntKind.wrap
  simp only [IntKind.bits, IntKind.signed, Bool.false_and]
  have e1 : (2 : Int) ^ 64 = 18446744073709551616 := by decide
  simp only [e1]
  exact Int.emod_eq_of_lt h0 (by omega)
theorem sLt_def (a b : ByteArray) : sLt a b = decide (Lb a < Lb b) := by rw [sLt, bytesLess_eq, Lib.toList_data, Lib.toList_data]; rfl
theorem sLt_irrefl (a : ByteArray) : sLt a a = false := by rw [sLt_def]; simp [List.lt_irrefl]
theorem sLt_trans {a b c : ByteArray} (h : sLt a b = true) (k : sLt b c = true) : sLt a c = true := by
  rw [sLt_def, decide_eq_true_eq] at *
  exact List.lt_trans h k
theorem sLt_ne {a b : ByteArray} (h : sLt a b = true) : a ≠ b := fun hh => by rw [hh, sLt_irrefl] at h; cases h
theorem sLt_tri {a b : ByteArray} (h : sLt a b = false) (hn : a ≠ b) : sLt b a = true := by
  rw [sLt_def, decide_eq_false_iff_not] at h
  rw [sLt_def, decide_eq_true_eq]
  by_cases k : Lb b < Lb a
  · exact k
  · exact absurd (Lb_inj (List.le_antisymm (List.not_lt.1 k) (List.not_lt.1 h))) hn
/-- nodes that rise -/
def RiseC (c : List Seen) : Prop := ∀ (j k : Nat) (x y : Seen), j < k → c[j]? = some x → c[k]? = some y → sLt x.node y.node = true
theorem ctxGo_rise : ∀ (l : List Seen) (pv : Option ByteArray) (room : Int), ctxGo pv room l = true → (∀ p, pv = some p → ∀ x ∈ l, sLt p x.node = true) ∧ RiseC l
  | [], _, _, _ => ⟨(fun _ _ x hx => by cases hx), fun j k x y _ h => by simp at h⟩
  | x :: l, pv, room, h => by
    simp only [ctxGo, Bool.and_eq_true, decide_eq_true_eq] at h
    obtain ⟨⟨⟨h1, h2⟩, h3⟩, h4⟩ := h
    obtain ⟨g1, g2⟩ := ctxGo_rise l _ _ h4
    have g3 := g1 _ rfl
    refine ⟨fun p hp y hy => ?_, fun j k y z hjk hj hk => ?_⟩
    · subst hp
      have h5 : sLt p x.node = true := h2
      rcases List.mem_cons.1 hy with rfl | hy
      · exact h5
      · exact sLt_trans h5 (g3 y hy)
    · cases k with
      | zero => omega
      | succ k =>
        cases j with
        | zero =>
          simp only [List.getElem?_cons_zero, Option.some.injEq] at hj
          subst hj
          exact g3 z (List.mem_of_getElem? hk)
        | succ j => exact g2 j k y z (by omega) hj hk
theorem ctxOk_rise {c : List Seen} (h : ctxOk c = true) : RiseC c := (ctxGo_rise c _ _ h).2
def seen0 (s : ByteArray) : Seen := ⟨s, 0, []⟩
def ofS (c : List Seen) (s : ByteArray) : Seen := match c.find? (fun x => decide (x.node = s)) with | some x => x | none => seen0 s
theorem find_at {α : Type} {f : α → Bool} : ∀ {l : List α} {r : Nat} {x : α}, l[r]? = some x → f x = true → (∀ m y, m < r → l[m]? = some y → f y = false) → l.find? f = some x
  | [], r, x, h, _, _ => by simp at h
  | a :: l, 0, x, h, hx, _ => by
    simp only [List.getElem?_cons_zero, Option.some.injEq] at h
    subst h
    rw [List.find?_cons_of_pos hx]
  | a :: l, r + 1, x, h, hx, hm => by
    rw [List.find?_cons_of_neg (by rw [hm 0 a (by omega) rfl]; simp)]
    exact find_at (r := r) h hx fun m y hmr hy => hm (m + 1) y (by omega) hy
theorem cmpS_neg {a b : ByteArray} : (cmpS a b < 0) ↔ sLt a b = true := by
  unfold cmpS
  cases h : sLt a b with
  | true => simp
  | false => by_cases h2 : a = b <;> simp [h2]
theorem cmpS_zero {a b : ByteArray} : (cmpS a b = 0) ↔ a = b := by
  unfold cmpS
  cases h : sLt a b with
  | true => simp; intro hh; rw [hh, sLt_irrefl] at h; cases h
  | false => by_cases h2 : a = b <;> simp [h2]

theorem place1_c {x : Seen} {s : ByteArray} {σ : Store} : ACalls Tryz.prog 153 [sSeen x, vStr s] σ fun v σ' => v = vInt (cmpS x.node s) ∧ σ = σ' := by
  refine ACalls_of Tryz.func153 rfl Tryz.ntmps153 (congrArg Array.toList Tryz.results153) (by simp only [List.length_cons, List.length_nil]; decide) ?_; simp only [envOf_cons, envOf_nil, Nat.reduceAdd]
  refine awp_seq ?_
  refine awp_region (by kernel_rfl) ?_
  refine aL_box rfl rfl rfl v_ rfl g_ fun o2 ho2 => ?_
  repeat (rw [none_set_iff] at ho2; obtain ⟨_, ho2⟩ := ho2)
  (refine aL_S rfl rfl v_ ?_)
  refine aL_nil ?_
  refine awp_seq ?_
  refine awp_region (by kernel_rfl) ?_
  iterate 3 (refine aL_S rfl rfl v_ ?_)
  refine aL_X rfl rfl (AOp_use rfl rfl (.inr ⟨rfl, rfl, rfl⟩) g_ va_ (strCompare_c) ?_); rintro _ _ ⟨rfl, rfl⟩
  (refine aL_S rfl rfl v_ ?_)
  refine aL_nil ?_
  refine awp_ret ?_
  refine aEnd_ret (σ' := σ) v_ sub_ ?_
  exact ⟨rfl, rfl⟩
@[go_sem] theorem aint_shr_u64 (k' : IntKind) (a b : Int) (h0 : 0 ≤ b) (h1 : b ≤ 64) : aint .shr .u64 a k' b = some (.int .u64 (a / 2 ^ b.toNat)) := aint_shr_k .u64 k' a b h0 h1
def Lo (c : List Seen) (s : ByteArray) (i : Nat) : Prop := ∀ m x, m < i → c[m]? = some x → sLt x.node s = true
def Hi (c : List Seen) (s : ByteArray) (j : Nat) : Prop := ∀ m x, j ≤ m → c[m]? = some x → sLt x.node s = false
theorem bsearch_c {c : List Seen} {s : ByteArray} {t : Bool} {σ : Store} (hr : RiseC c) (hn : c.length ≤ 1000000) :
    ACalls Tryz.prog 152 [.sl 3 (c.map sSeen) t, vStr s, .lit (.func (.func 153) #[] #[])] σ fun v σ' => (∃ r : Nat, ∃ b : Bool, v = .tup [vInt r, vB b] ∧ r ≤ c.length ∧ Lo c s r ∧ Hi c s r ∧ (b = true ↔ ∃ x, c[r]? = some x ∧ x.node = s)) ∧ σ = σ' := by
  refine ACalls_of Tryz.func152 rfl Tryz.ntmps152 (congrArg Array.toList Tryz.results152) (by simp only [List.length_cons, List.length_nil]; decide) ?_; simp only [envOf_cons, envOf_nil, Nat.reduceAdd]
  refine awp_seq ?_
  refine awp_region (by kernel_rfl) ?_
  iterate 2 (refine aL_S rfl rfl v_ ?_)
  refine aL_nil ?_
  refine awp_seq ?_
  refine awp_region (by kernel_rfl) ?_
  iterate 3 (refine aL_S rfl rfl v_ ?_)
  refine aL_nil ?_
  refine awp_seq ?_
  refine awp_region (by kernel_rfl) ?_
  iterate 3 (refine aL_S rfl rfl v_ ?_)
  refine aL_nil ?_
  refine awp_seq ?_
  refine awp_block ?_
  refine awp_loop_env (ι := Nat × Nat) (fun ⟨i, j⟩ => j - i) (fun ⟨i, j⟩ => i ≤ j ∧ j ≤ c.length ∧ Lo c s i ∧ Hi c s j) (fun ⟨i, j⟩ => [(0, .sl 3 (c.map sSeen) t), (1, vStr s), (2, .lit (.func (.func 153) #[] #[])), (8, vInt c.length), (9, vInt i), (10, vInt j)]) (fun ⟨i, j⟩ => σ) (0, c.length) ?_ ?_ ?_ ?_
  · exact ⟨Nat.zero_le _, Nat.le_refl _, (fun m x h => by omega), fun m x h hx => by rw [List.getElem?_eq_none (by omega)] at hx; cases hx⟩
  · exact cv_
  · exact sub_
  rintro ⟨i, j⟩ ⟨hij, hj, hlo, hhi⟩
  simp only [envL_cons, envL_nil]
  refine awp_seq ?_
  refine awp_seq ?_
  refine awp_region (by kernel_rfl) ?_
  iterate 3 (refine aL_S rfl rfl v_ ?_)
  refine aL_nil ?_
  refine awp_cond v_ (fun hc3 => ?_) (fun hc3 => ?_)
  · replace hc3 := nm_ hc3
    refine awp_skip ?_
    refine awp_block ?_
    refine awp_seq ?_
    have hdiv : ((i : Int) + j) / 2 ^ 1 = (((i + j) / 2 : Nat) : Int) := by omega
    obtain ⟨x, hx⟩ := get_some (l := c) (k := (i + j) / 2) (by omega)
    have R := And.intro wrap_u64_m hdiv
    refine awp_region (by kernel_rfl) ?_
    iterate 7 (refine aL_S rfl rfl v_ ?_)
    refine aL_nil ?_
    refine awp_seq ?_
    have R := hx
    refine awp_region (by kernel_rfl) ?_
    iterate 6 (refine aL_S rfl rfl v_ ?_)
    refine aL_X rfl rfl (AOp_use rfl rfl (.inr ⟨va_, rfl, rfl⟩) g_ va_ (place1_c) ?_); rintro _ _ ⟨rfl, rfl⟩
    (refine aL_S rfl rfl v_ ?_)
    refine aL_nil ?_
    refine awp_cond v_ (fun hc5 => ?_) (fun hc5 => ?_)
    · replace hc5 := nm_ hc5
      have hlt := cmpS_neg.1 hc5
      have hlo' : Lo c s ((i + j) / 2 + 1) := fun m y hm hy => by
        rcases Nat.lt_or_eq_of_le (Nat.le_of_lt_succ hm) with h | h
        · exact sLt_trans (hr _ _ _ _ h hy hx) hlt
        · rw [h, hx] at hy; obtain rfl := Option.some.inj hy; exact hlt
      refine awp_region (by kernel_rfl) ?_
      iterate 3 (refine aL_S rfl rfl v_ ?_)
      refine aL_nil ?_
      refine aNext (ι := Nat × Nat) (i := ⟨i, j⟩) ((i + j) / 2 + 1, j) ?_ ?_ ?_ ?_
      · show j - ((i + j) / 2 + 1) < j - i; omega
      · exact ⟨by show (i + j) / 2 + 1 ≤ j; omega, hj, hlo', hhi⟩
      · have R := hdiv; exact cv_
      · exact sub_
    · replace hc5 := nm_ hc5
      skip
      have hge : sLt x.node s = false := by
        cases h : sLt x.node s with
        | false => rfl
        | true => have := cmpS_neg.2 h; omega
      have hhi' : Hi c s ((i + j) / 2) := fun m y hm hy => by
        rcases Nat.lt_or_eq_of_le hm with h | h
        · cases k : sLt y.node s with
          | false => rfl
          | true => rw [sLt_trans (hr _ _ _ _ h hx hy) k] at hge; cases hge
        · rw [← h, hx] at hy; obtain rfl := Option.some.inj hy; exact hge
      refine awp_region (by kernel_rfl) ?_
      iterate 2 (refine aL_S rfl rfl v_ ?_)
      refine aL_nil ?_
      refine aNext (ι := Nat × Nat) (i := ⟨i, j⟩) (i, (i + j) / 2) ?_ ?_ ?_ ?_
      · show (i + j) / 2 - i < j - i; omega
      · exact ⟨by show i ≤ (i + j) / 2; omega, by show (i + j) / 2 ≤ c.length; omega, hlo, hhi'⟩
      · have R := hdiv; exact cv_
      · exact sub_
  · replace hc3 := nm_ hc3
    refine awp_exit ?_
    refine aThen_exit ?_
    refine aThen_exit ?_
    refine aBlock_hit ?_
    refine awp_seq ?_
    skip
    obtain rfl : i = j := by omega
    obtain ⟨x, hx⟩ : ∃ x : Seen, i < c.length → c[i]? = some x := by
      by_cases h : i < c.length
      · exact ⟨c[i], fun _ => List.getElem?_eq_getElem h⟩
      · exact ⟨seen0 s, fun h' => absurd h' h⟩
    have R := hx
    refine awp_region (by kernel_rfl) ?_
    iterate 5 (refine aL_S rfl rfl v_ ?_)
    refine aL_GT rfl rfl v_ rfl vg_ ?_
    refine aL_GT rfl rfl v_ rfl vg_ ?_
    refine aL_GT rfl rfl v_ rfl vg_ ?_
    refine aL_GT rfl rfl v_ rfl vg_ ?_
    refine aL_GT rfl rfl v_ rfl vg_ ?_
    refine aL_GT rfl rfl v_ rfl vg_ ?_
    refine aL_GTX rfl rfl v_ rfl (fun hb => AOp_useV (by rfl) (by rfl) (.inr ⟨vh_, by rfl, by rfl⟩) g_ cg_ (place1_c)) ?_
    refine aL_GT rfl rfl v_ rfl vg_ ?_
    iterate 3 (refine aL_S rfl rfl v_ ?_)
    refine aL_nil ?_
    refine awp_ret ?_
    refine aEnd_ret (σ' := σ) v_ sub_ ?_
    refine ⟨⟨i, _, rfl, hj, hlo, hhi, ?_⟩, rfl⟩
    rw [Bool.and_eq_true, decide_eq_true_eq, decide_eq_true_eq, cmpS_zero]
    constructor
    · rintro ⟨h1, h2⟩; exact ⟨x, hx (by omega), h2⟩
    · rintro ⟨y, hy, h2⟩
      have h1 := (List.getElem?_eq_some_iff.1 hy).1
      rw [hx h1] at hy
      obtain rfl := Option.some.inj hy
      exact ⟨by omega, h2⟩
theorem place_c {c : List Seen} {s : ByteArray} {t : Bool} {σ : Store} (hr : RiseC c) (hn : c.length ≤ 1000000) :
    ACalls Tryz.prog 117 [.sl 3 (c.map sSeen) t, vStr s] σ fun v σ' => (∃ r : Nat, ∃ b : Bool, v = .tup [vInt r, vB b] ∧ r ≤ c.length ∧ Lo c s r ∧ Hi c s r ∧ (b = true ↔ ∃ x, c[r]? = some x ∧ x.node = s)) ∧ σ = σ' := by
  refine ACalls_of Tryz.func117 rfl Tryz.ntmps117 (congrArg Array.toList Tryz.results117) (by simp only [List.length_cons, List.length_nil]; decide) ?_; simp only [envOf_cons, envOf_nil, Nat.reduceAdd]
  refine awp_seq ?_
  refine awp_region (by kernel_rfl) ?_
  iterate 2 (refine aL_S rfl rfl v_ ?_)
  refine aL_nil ?_
  refine awp_seq ?_
  refine awp_region (by kernel_rfl) ?_
  iterate 2 (refine aL_S rfl rfl v_ ?_)
  refine aL_X rfl rfl (AOp_use rfl rfl (.inr ⟨rfl, rfl, rfl⟩) g_ va_ (bsearch_c hr hn) ?_); rintro _ _ ⟨⟨r, b, rfl, h1, h2, h3, h4⟩, rfl⟩
  iterate 4 (refine aL_S rfl rfl v_ ?_)
  refine aL_nil ?_
  refine awp_ret ?_
  refine aEnd_ret (σ' := σ) v_ sub_ ?_
  exact ⟨⟨r, b, rfl, h1, h2, h3, h4⟩, rfl⟩
theorem ofS_yes {c : List Seen} {s : ByteArray} {r : Nat} {x : Seen} (hlo : Lo c s r) (hx : c[r]? = some x) (he : x.node = s) : ofS c s = x := by
  unfold ofS
  rw [find_at (r := r) hx (by simp [he]) fun m y hm hy => decide_eq_false (sLt_ne (hlo m y hm hy))]
theorem ofS_no {c : List Seen} {s : ByteArray} {r : Nat} (hr : RiseC c) (hlo : Lo c s r) (hhi : Hi c s r) (hn : ¬ ∃ x, c[r]? = some x ∧ x.node = s) : ofS c s = seen0 s := by
  unfold ofS
  rw [List.find?_eq_none.2 fun y hy => ?_]
  obtain ⟨m, hm⟩ := List.mem_iff_getElem?.1 hy
  simp only [decide_eq_true_eq]
  intro he
  rcases Nat.lt_or_ge m r with h | h
  · exact sLt_ne (hlo m y h hm) he
  · rcases Nat.lt_or_eq_of_le h with h | h
    · obtain ⟨z, hz⟩ := get_some (l := c) (k := r) (by have := (List.getElem?_eq_some_iff.1 hm).1; omega)
      have h1 := hr _ _ _ _ h hz hm
      rw [he, hhi r z (Nat.le_refl _) hz] at h1
      cases h1
    · exact hn ⟨y, by rw [h]; exact hm, he⟩
theorem of_c {c : List Seen} {s : ByteArray} {t : Bool} {σ : Store} (hr : RiseC c) (hn : c.length ≤ 1000000) :
    ACalls Tryz.prog 80 [.sl 3 (c.map sSeen) t, vStr s] σ fun v σ' => v = sSeen (ofS c s) ∧ σ = σ' := by
  refine ACalls_of Tryz.func80 rfl Tryz.ntmps80 (congrArg Array.toList Tryz.results80) (by simp only [List.length_cons, List.length_nil]; decide) ?_; simp only [envOf_cons, envOf_nil, Nat.reduceAdd]
  refine awp_seq ?_
  refine awp_region (by kernel_rfl) ?_
  refine aL_alloc rfl rfl rfl g_ gl_ fun o4 ho4 => ?_
  repeat (rw [none_set_iff] at ho4; obtain ⟨_, ho4⟩ := ho4)
  refine aL_nil ?_
  refine awp_seq ?_
  refine awp_region (by kernel_rfl) ?_
  iterate 2 (refine aL_S rfl rfl v_ ?_)
  refine aL_X rfl rfl (AOp_use rfl rfl (.inr ⟨rfl, rfl, rfl⟩) g_ va_ (place_c hr hn) ?_); rintro _ _ ⟨⟨r, b, rfl, h1, h2, h3, h4⟩, rfl⟩
  iterate 5 (refine aL_S rfl rfl v_ ?_)
  refine aL_nil ?_
  refine awp_seq ?_
  refine awp_seq ?_
  refine awp_region (by kernel_rfl) ?_
  iterate 2 (refine aL_S rfl rfl v_ ?_)
  refine aL_nil ?_
  refine awp_cond v_ (fun hc2 => ?_) (fun hc2 => ?_)
  · replace hc2 := nm_ hc2
    refine awp_seq ?_
    refine awp_region (by kernel_rfl) ?_
    iterate 2 (refine aL_S rfl rfl v_ ?_)
    refine aL_store rfl rfl rfl v_ v_ h_ g_ rfl g_ c_ (by rfl) le_ v_ ?_
    refine aL_nil ?_
    refine awp_ret ?_
    have hb : b = false := hc2
    have hno := ofS_no hr h2 h3 (fun hh => by rw [h4.2 hh] at hb; cases hb)
    rw [hno]
    exact aEnd_retW (v := sSeen (seen0 s)) (v' := .agg [vStr s, vInt 0, vNil]) va_ (.agg _ _ rfl (fun i hi hi' => by match i, hi with | 0, _ => exact .refl _ | 1, _ => exact .refl _ | 2, _ => exact .nil _ _)) sub_ ⟨rfl, rfl⟩
  · replace hc2 := nm_ hc2
    refine awp_skip ?_
    refine awp_seq ?_
    obtain ⟨x, hx, he⟩ := h4.1 hc2
    have h5 := (List.getElem?_eq_some_iff.1 hx).1
    have R := hx
    refine awp_region (by kernel_rfl) ?_
    iterate 4 (refine aL_S rfl rfl v_ ?_)
    refine aL_store rfl rfl rfl v_ v_ h_ g_ rfl g_ c_ (by rfl) le_ v_ ?_
    refine aL_nil ?_
    refine awp_ret ?_
    refine aEnd_ret (σ' := σ) v_ sub_ ?_
    exact ⟨by rw [ofS_yes h2 hx he], rfl⟩
end Go.Proofs.YtbomkkjhafdhiaaGreat
end

section
set_option linter.all false
set_option maxRecDepth 100000
namespace Go.Proofs.YtbomkkjhafdhiaaGreat
open Go.Ab

theorem set_swap {σ : Store} {i j : Nat} {x y : AObj} (h : i ≠ j) : (σ.set i x).set j y = (σ.set j y).set i x := by
  unfold Store.set
  congr 1
  funext k
  by_cases h1 : k = j
  · subst h1; simp [Ne.symm h]
  · by_cases h2 : k = i
    · subst h2; simp [h]
    · simp [h1, h2]
theorem cbp_set {σ0 σ : Store} {sz : Nat} {l : List AVal} {a : AVal} (h : CBp σ0 σ sz l a) {i : Nat} {x : AObj} (hi : σ.heap i = none) : CBp (σ0.set i x) (σ.set i x) sz l a := by
  rcases h with ⟨h1, h2, rfl⟩ | ⟨o, ho, h1, rfl⟩
  · exact .inl ⟨h1, h2, rfl⟩
  · have hne : i ≠ o := fun hh => by rw [hh, Store.set_get] at hi; cases hi
    exact .inr ⟨o, by rw [Store.set_ne _ _ (Ne.symm hne)]; exact ho, h1, set_swap (Ne.symm hne)⟩
theorem cbp_set2 {σ0 σ : Store} {sz : Nat} {l : List AVal} {a : AVal} (h : CBp σ0 σ sz l a) {i : Nat} {x y : AObj} (hi : σ.heap i = none) : CBp (σ0.set i y) ((σ.set i x).set i y) sz l a := by
  rw [Store.set_set]; exact cbp_set h hi
def bstep (st : Int × List Int) (n : Int) : Int × List Int := if n = st.1 + 1 then (n, st.2) else if st.1 < n then (st.1, st.2 ++ [n]) else st
def onceI (l : List Int) : List Int := Lib.compact (sortII l)
def bothF (a b : Seen) : Int × List Int := (onceI (a.more ++ b.more)).foldl bstep (max a.base b.base, [])
def bothS (a b : Seen) : Seen := ⟨a.node, (bothF a b).1, (bothF a b).2⟩
structure SeenBd (x : Seen) : Prop where
  lo : 0 ≤ x.base
  hi : x.base ≤ 9007199254740992
  more : ∀ n ∈ x.more, n ≤ 9007199254740992
  len : x.more.length ≤ 1000000
theorem compact_le {α : Type} [DecidableEq α] [Inhabited α] (zs : List α) : (Lib.compact zs).length ≤ zs.length := by
  unfold Lib.compact Lib.compactUpTo
  rw [List.length_map]
  exact Nat.le_trans (List.length_filter_le _ _) (by simp)
theorem compact_mem {α : Type} [DecidableEq α] [Inhabited α] {zs : List α} {x : α} (h : x ∈ Lib.compact zs) : x ∈ zs := by
  unfold Lib.compact Lib.compactUpTo at h
  obtain ⟨j, hj, rfl⟩ := List.mem_map.1 h
  have := (List.mem_filter.1 hj).1
  rw [List.mem_range] at this
  simp [this]
theorem onceI_len (l : List Int) : (onceI l).length ≤ l.length := by
  unfold onceI sortII
  exact Nat.le_trans (compact_le _) (by simp)
theorem onceI_mem {l : List Int} {x : Int} (h : x ∈ onceI l) : x ∈ l := by
  have := compact_mem h
  unfold sortII at this
  exact List.mem_mergeSort.1 this
theorem both_c {a b : Seen} {σ : Store} (ha : SeenBd a) (hb : SeenBd b) : ACalls Tryz.prog 79 [sSeen a, sSeen b] σ fun v σ' => v = sSeen (bothS a b) ∧ σ = σ' := by
  have h1 := ha.len; have h2 := hb.len; have h3 := ha.lo; have h4 := hb.lo; have h5 := ha.hi; have h6 := hb.hi
  have hol := onceI_len (a.more ++ b.more)
  rw [List.length_append] at hol
  have hom : ∀ n ∈ onceI (a.more ++ b.more), n ≤ 9007199254740992 := fun n hn => by
    rcases List.mem_append.1 (onceI_mem hn) with h | h
    · exact ha.more n h
    · exact hb.more n h
  refine ACalls_of Tryz.func79 rfl Tryz.ntmps79 (congrArg Array.toList Tryz.results79) (by simp only [List.length_cons, List.length_nil]; decide) ?_; simp only [envOf_cons, envOf_nil, Nat.reduceAdd]
  refine awp_seq ?_
  refine awp_region (by kernel_rfl) ?_
  refine aL_box rfl rfl rfl v_ rfl g_ fun o2 ho2 => ?_
  repeat (rw [none_set_iff] at ho2; obtain ⟨_, ho2⟩ := ho2)
  refine aL_box rfl rfl rfl v_ rfl g_ fun o3 ho3 => ?_
  repeat (rw [none_set_iff] at ho3; obtain ⟨_, ho3⟩ := ho3)
  refine aL_alloc rfl rfl rfl g_ gl_ fun o4 ho4 => ?_
  repeat (rw [none_set_iff] at ho4; obtain ⟨_, ho4⟩ := ho4)
  refine aL_nil ?_
  refine awp_seq ?_
  refine awp_region (by kernel_rfl) ?_
  iterate 4 (refine aL_S rfl rfl v_ ?_)
  refine aL_buildSlice rfl rfl rfl g_ g_ rfl rfl h_ c2_ (by decide) ?_
  refine aL_X rfl rfl (AOp_use rfl rfl (.inr ⟨rfl, rfl, rfl⟩) g_ va_ (concatInt_c (L1 := a.more) (L2 := b.more) (by omega) (by omega)) ?_); rintro _ τ0 hC0
  rename_i b0
  have hs0 := hC0.sub
  have e2 := hs0.heap o2 _ h_
  have e3 := hs0.heap o3 _ h_
  have e4 := hs0.heap o4 _ h_
  have st0 : SubX [] σ τ0 := SubX.trans (subx_new ho4 (subx_new ho3 (subx_new ho2 subx_refl))) ⟨fun i x _ => hs0.heap i x, hs0.tok⟩
  (refine aL_S rfl rfl v_ ?_)
  refine aL_nil ?_
  refine awp_seq ?_
  refine awp_region (by kernel_rfl) ?_
  (refine aL_S rfl rfl v_ ?_)
  refine aL_X rfl rfl (AOp_use rfl rfl (.inr ⟨rfl, rfl, rfl⟩) g_ va_ (sortIntC hC0 (by simp; omega)) ?_); rintro _ τ1 ⟨rfl, hC1⟩
  have hs1 := hC1.sub
  have f2 := hs1.heap o2 _ h_
  have f3 := hs1.heap o3 _ h_
  have f4 := hs1.heap o4 _ h_
  refine aL_nil ?_
  refine awp_seq ?_
  have R := And.intro f2 f3
  refine awp_region (by kernel_rfl) ?_
  iterate 8 (refine aL_S rfl rfl v_ ?_)
  refine aL_alloc rfl rfl rfl g_ gl_ fun o6 ho6 => ?_
  repeat (rw [none_set_iff] at ho6; obtain ⟨_, ho6⟩ := ho6)
  refine aL_store rfl rfl rfl v_ v_ h_ g_ rfl g_ c_ (by rfl) le_ v_ ?_
  refine aL_nil ?_
  have st1 : SubX [] σ τ1 := SubX.trans (subx_new ho4 (subx_new ho3 (subx_new ho2 subx_refl))) ⟨fun i x _ => hs1.heap i x, hs1.tok⟩
  have n6 : σ.heap o6 = none := SubX.noObj st1 ho6 (by simp)
  have n64 := (ne_of_heap f4 ho6)
  have hC2 := cbp_set2 (y := .cells [.lit (.string a.node), vInt (max a.base b.base), vNil]) (x := .cells [.lit (.string ⟨#[]⟩), vInt 0, vNil]) hC1 ho6
  obtain ⟨L, hL⟩ : ∃ L, onceI (a.more ++ b.more) = L := ⟨_, rfl⟩
  rw [hL] at hol hom
  refine awp_seq ?_
  refine awp_seq ?_
  refine awp_region (by kernel_rfl) ?_
  (refine aL_S rfl rfl v_ ?_)
  refine aL_X rfl rfl (AOp_use rfl rfl (.inr ⟨rfl, rfl, rfl⟩) g_ va_ (compactIntC hC2 (by simp [sortII]; omega) (compact_le _)) ?_); rintro _ _ ⟨rfl, rfl⟩
  rw [show Lib.compact (sortII (a.more ++ b.more)) = L from hL]
  iterate 2 (refine aL_S rfl rfl v_ ?_)
  refine aL_nil ?_
  refine awp_block ?_
  refine awp_loop_env (ι := Store × Nat × AVal × Option Nat × (Int × List Int)) (fun ⟨τ, k, g, old, st⟩ => L.length - k) (fun ⟨τ, k, g, old, st⟩ => k ≤ L.length ∧ (L.take k).foldl bstep (max a.base b.base, []) = st ∧ τ.heap o6 = some (.cells [.lit (.string a.node), vInt st.1, g]) ∧ τ.heap o4 = some (.cells [.lit (.string ⟨#[]⟩), .lit (.int .i64 0), .lit (.slice none 0 0)]) ∧ NilOwn τ 3 1 (st.2.map vInt) g old ∧ SubX [] σ τ ∧ (∀ j, old = some j → σ.tok j = none) ∧ (0 ≤ st.1 ∧ st.1 ≤ 9007199254740992) ∧ st.2.length ≤ k) (fun ⟨τ, k, g, old, st⟩ => [(4, .ref o4 0), (6, .ref o6 0), (26, .sl 1 (L.map vInt) false), (27, vInt L.length), (28, vInt k)]) (fun ⟨τ, k, g, old, st⟩ => τ) ((((σ.set o2 (.cells (sSeen a).cells)).set o3 (.cells (sSeen b).cells)).set o4 (.cells [.lit (.string ⟨#[]⟩), .lit (.int .i64 0), .lit (.slice none 0 0)])).set o6 (.cells [.lit (.string a.node), vInt (max a.base b.base), vNil]), 0, vNil, none, (max a.base b.base, [])) ?_ ?_ ?_ ?_
  · exact ⟨Nat.zero_le _, rfl, Store.set_get .., h_, .inr ⟨rfl, rfl, rfl⟩, subx_new n6 (subx_new ho4 (subx_new ho3 (subx_new ho2 subx_refl))), (fun j hj => by cases hj), ⟨by show 0 ≤ max a.base b.base; omega, by show max a.base b.base ≤ _; omega⟩, Nat.le_refl _⟩
  · exact cv_
  · exact Store.Wk.refl _
  rintro ⟨τ, k, g, old, st⟩ ⟨hk, hst, u6, u4, hno, hsx, hold, hb, hlen⟩
  simp only [envL_cons, envL_nil]
  refine awp_seq ?_
  refine awp_region (by kernel_rfl) ?_
  (refine aL_S rfl rfl v_ ?_)
  refine aL_nil ?_
  refine awp_seq ?_
  refine awp_cond v_ (fun hc5 => ?_) (fun hc5 => ?_)
  · replace hc5 := nm_ hc5
    refine awp_skip ?_
    refine awp_seq ?_
    refine awp_block ?_
    refine awp_seq ?_
    obtain ⟨n, hn⟩ := get_some (l := L) (k := k) (by omega)
    have hnb := hom n (List.mem_of_getElem? hn)
    have hfold : (L.take (k + 1)).foldl bstep (max a.base b.base, []) = bstep st n := by rw [take_snoc hn, List.foldl_append, hst]; rfl
    have R := hn
    refine awp_region (by kernel_rfl) ?_
    iterate 3 (refine aL_S rfl rfl v_ ?_)
    refine aL_nil ?_
    refine awp_seq ?_
    have R := u6
    refine awp_region (by kernel_rfl) ?_
    iterate 5 (refine aL_S rfl rfl v_ ?_)
    refine aL_nil ?_
    refine awp_cond v_ (fun hc7 => ?_) (fun hc7 => ?_)
    · replace hc7 := nm_ hc7
      refine awp_region (by kernel_rfl) ?_
      iterate 2 (refine aL_S rfl rfl v_ ?_)
      refine aL_store rfl rfl rfl v_ v_ h_ g_ rfl g_ c_ (by rfl) le_ v_ ?_
      refine aL_nil ?_
      refine awp_region (by kernel_rfl) ?_
      iterate 2 (refine aL_S rfl rfl v_ ?_)
      refine aL_nil ?_
      refine aNext (ι := Store × Nat × AVal × Option Nat × (Int × List Int)) (i := ⟨τ, k, g, old, st⟩) (τ.set o6 (.cells [.lit (.string a.node), vInt n, g]), k + 1, g, old, (n, st.2)) ?_ ?_ ?_ ?_
      · show L.length - (k + 1) < L.length - k; omega
      · exact ⟨by show k + 1 ≤ L.length; omega, by rw [hfold, bstep, if_pos hc7], Store.set_get .., by rw [Store.set_ne _ _ n64]; exact u4, hno, subx_new n6 hsx, hold, ⟨by show 0 ≤ n; omega, by show n ≤ _; omega⟩, by show st.2.length ≤ k + 1; omega⟩
      · exact cv_
      · exact Store.Wk.refl _
    · replace hc7 := nm_ hc7
      refine awp_seq ?_
      have R := u6
      refine awp_region (by kernel_rfl) ?_
      iterate 4 (refine aL_S rfl rfl v_ ?_)
      refine aL_nil ?_
      refine awp_cond v_ (fun hc9 => ?_) (fun hc9 => ?_)
      · replace hc9 := nm_ hc9
        have R := u6
        refine awp_region (by kernel_rfl) ?_
        iterate 3 (refine aL_S rfl rfl v_ ?_)
        refine aL_buildSlice rfl rfl rfl g_ g_ rfl rfl h_ c2_ (by decide) ?_
        refine aL_X rfl rfl (AOp_appendS rfl g_ g_ (NilOwn.of hno va_) (.inl ⟨⟨_, g_⟩, .inl v_, c_⟩) (by simp; omega) fun k47 hk47 => ?_)
        (refine aL_S rfl rfl v_ ?_)
        refine aL_store rfl rfl rfl v_ v_ h_ g_ rfl g_ c_ (by rfl) le_ v_ ?_
        refine aL_nil ?_
        refine awp_region (by kernel_rfl) ?_
        iterate 2 (refine aL_S rfl rfl v_ ?_)
        refine aL_nil ?_
        refine aNext (ι := Store × Nat × AVal × Option Nat × (Int × List Int)) (i := ⟨τ, k, g, old, st⟩) ((τ.newTok old k47 (3, 1)).set o6 (.cells [.lit (.string a.node), vInt st.1, .own k47 1 (st.2.map vInt ++ [vInt n])]), k + 1, .own k47 1 (st.2.map vInt ++ [vInt n]), some k47, (st.1, st.2 ++ [n])) ?_ ?_ ?_ ?_
        · show L.length - (k + 1) < L.length - k; omega
        · exact ⟨by show k + 1 ≤ L.length; omega, by rw [hfold, bstep, if_neg hc7, if_pos hc9], Store.set_get .., by rw [Store.set_ne _ _ n64]; exact u4, .inl ⟨k47, by rw [List.map_append]; rfl, by rw [Store.set_tok]; exact Store.newTok_get .., rfl⟩, subx_new n6 (SubX.newTok hsx hold hk47), (fun j hj => by cases hj; exact SubX.noTok hsx hk47), hb, by show (st.2 ++ [n]).length ≤ k + 1; rw [List.length_append]; simp; omega⟩
        · exact cv_
        · exact Store.Wk.refl _
      · replace hc9 := nm_ hc9
        refine awp_skip ?_
        refine awp_region (by kernel_rfl) ?_
        iterate 2 (refine aL_S rfl rfl v_ ?_)
        refine aL_nil ?_
        refine aNext (ι := Store × Nat × AVal × Option Nat × (Int × List Int)) (i := ⟨τ, k, g, old, st⟩) (τ, k + 1, g, old, st) ?_ ?_ ?_ ?_
        · show L.length - (k + 1) < L.length - k; omega
        · exact ⟨by show k + 1 ≤ L.length; omega, by rw [hfold, bstep, if_neg hc7, if_neg (by omega)], u6, u4, hno, hsx, hold, hb, by show st.2.length ≤ k + 1; omega⟩
        · exact cv_
        · exact Store.Wk.refl _
  · replace hc5 := nm_ hc5
    refine awp_exit ?_
    refine aThen_exit ?_
    refine aThen_exit ?_
    refine aBlock_hit ?_
    refine awp_seq ?_
    skip
    have hfin : bothS a b = ⟨a.node, st.1, st.2⟩ := by
      have : bothF a b = st := by rw [← hst, List.take_of_length_le (by omega), ← hL]; rfl
      rw [bothS, this]
    refine awp_wkCells o6 [.lit (.string a.node), vInt st.1, .sl 1 (st.2.map vInt) false] u6 ⟨.refl _, .refl _, hno.wk, trivial⟩ ?_
    have u4' : (τ.set o6 (.cells [.lit (.string a.node), vInt st.1, .sl 1 (st.2.map vInt) false])).heap o4 = some (.cells [.lit (.string ⟨#[]⟩), .lit (.int .i64 0), .lit (.slice none 0 0)]) := by rw [Store.set_ne _ _ n64]; exact u4
    have R := u4'
    refine awp_region (by kernel_rfl) ?_
    (refine aL_S rfl rfl v_ ?_)
    refine aL_store rfl rfl rfl v_ v_ h_ g_ rfl g_ c_ (by rfl) le_ v_ ?_
    refine aL_nil ?_
    refine awp_ret ?_
    rw [hfin]
    exact aEnd_ret (σ' := σ) va_ (subx_start (subx_new ho4 (subx_new n6 hsx))) ⟨rfl, rfl⟩
end Go.Proofs.YtbomkkjhafdhiaaGreat
end

section
set_option linter.all false
set_option maxRecDepth 100000
namespace Go.Ab
theorem ACalls.frozen {P : Program} {f : FuncId} {args : List AVal} {σ : Store} {sz : Nat} {l : List AVal} (h : ACalls P f args σ fun v σ' => CBp σ σ' sz l v) (hs : ∀ x ∈ l, x.cells.length = sz) : ACalls P f args σ fun v σ' => v = .sl sz l false ∧ σ = σ' := by
  refine h.after ?_
  rintro κ a σ' cv hI hr hC
  rcases hC with ⟨rfl, rfl, rfl⟩ | ⟨o, ho, rfl, rfl⟩
  · exact ⟨κ, _, _, rfl, .refl κ, hI, hr.wk (.nil sz false), rfl, rfl⟩
  · obtain ⟨κ', h1, h2, h3, h4⟩ := Ab.freeze hI hr (Store.set_get ..) (l := l) (by rw [List.take_of_length_le (by rw [flat_length hs]; exact Nat.le_refl _)]) rfl hs
    rw [Store.set_del ho] at h3
    exact ⟨κ', _, _, h1, h2, h3, h4, rfl, rfl⟩
theorem cbp_drop {σ σ' : Store} {sz : Nat} {l : List AVal} {a : AVal} {i : Nat} {y : AObj} (h : CBp (σ.set i y) σ' sz l a) (hi : σ.heap i = none) : ∃ τ, CBp σ τ sz l a ∧ τ.Sub σ' := by
  have hsub : ∀ τ : Store, τ.heap i = none → τ.Sub (τ.set i y) := fun τ hτ => ⟨fun j x hx => by rw [Store.set_ne _ _ (fun hh => by rw [hh, hτ] at hx; cases hx)]; exact hx, fun _ _ h => h⟩
  rcases h with ⟨h1, h2, rfl⟩ | ⟨o, ho, h1, rfl⟩
  · exact ⟨σ, .inl ⟨h1, h2, rfl⟩, hsub σ hi⟩
  · have hne : o ≠ i := fun hh => by rw [hh, Store.set_get] at ho; cases ho
    rw [Store.set_ne _ _ hne] at ho
    refine ⟨σ.set o (.cells (flat l)), .inr ⟨o, ho, h1, rfl⟩, ?_⟩
    rw [Go.Proofs.YtbomkkjhafdhiaaGreat.set_swap (Ne.symm hne)]
    exact hsub _ (by rw [Store.set_ne _ _ (Ne.symm hne)]; exact hi)
theorem cbp_tok {σ σ' : Store} {sz k : Nat} {l : List AVal} {a : AVal} {p : TypeId × Nat} (h : CBp σ σ' sz l a) : CBp (σ.newTok none k p) (σ'.newTok none k p) sz l a := by
  rcases h with ⟨h1, h2, rfl⟩ | ⟨o, ho, h1, rfl⟩
  · exact .inl ⟨h1, h2, rfl⟩
  · exact .inr ⟨o, ho, h1, rfl⟩
end Go.Ab
namespace Go.Proofs.YtbomkkjhafdhiaaGreat
open Go.Ab

def nodesS (a b : List Seen) : List ByteArray := compactL (sortSS ((a ++ b).map (·.node)))
def joinAll (a b : List Seen) : List Seen := (nodesS a b).map fun s => bothS (ofS a s) (ofS b s)
def joinS (a b : List Seen) : List Seen × Int := if ctxOk a && ctxOk b then (if ctxOk (joinAll a b) then (joinAll a b, 0) else ([], 4)) else ([], 1)
theorem ctxGo_all : ∀ (l : List Seen) (pv : Option ByteArray) (room : Int), ctxGo pv room l = true → ∀ x ∈ l, seenOk x = true ∧ (x.more.length : Int) ≤ room
  | [], _, _, _ => fun x hx => by cases hx
  | y :: l, pv, room, h => fun x hx => by
    simp only [ctxGo, Bool.and_eq_true, decide_eq_true_eq] at h
    obtain ⟨⟨⟨h1, h2⟩, h3⟩, h4⟩ := h
    rcases List.mem_cons.1 hx with rfl | hx
    · exact ⟨h1, h3⟩
    · have := ctxGo_all l _ _ h4 x hx
      exact ⟨this.1, by omega⟩
theorem riseOk_all : ∀ (l : List Int) (z : Int), riseOk z l = true → ∀ n ∈ l, z < n ∧ n ≤ 9007199254740992
  | [], _, _ => fun x hx => by cases hx
  | m :: l, z, h => fun n hn => by
    simp only [riseOk, Bool.and_eq_true, decide_eq_true_eq] at h
    obtain ⟨⟨h1, h2⟩, h3⟩ := h
    rcases List.mem_cons.1 hn with rfl | hn
    · exact ⟨h1, h2⟩
    · have := riseOk_all l m h3 n hn
      omega
structure SeenGd (x : Seen) : Prop where
  name : nameOk x.node = true
  size : x.node.size ≤ 16
  bd : SeenBd x
  len : x.more.length ≤ 4096
theorem ctxOk_gd {c : List Seen} (h : ctxOk c = true) : ∀ x ∈ c, SeenGd x := fun x hx => by
  obtain ⟨h1, h2⟩ := ctxGo_all c _ _ h x hx
  have h3 : x.more.length ≤ 4096 := by omega
  simp only [seenOk, seenHd, Bool.and_eq_true, decide_eq_true_eq] at h1
  obtain ⟨⟨⟨⟨h4, h5⟩, h6⟩, _⟩, h7⟩ := h1
  have h8 := h4
  simp only [nameOk, Bool.and_eq_true, decide_eq_true_eq] at h8
  exact ⟨h4, h8.1.2, ⟨h5, h6, fun n hn => (riseOk_all _ _ h7 n hn).2, by omega⟩, h3⟩
theorem ofS_node (c : List Seen) (s : ByteArray) : (ofS c s).node = s := by
  unfold ofS
  split
  · rename_i x hx
    have := List.find?_some hx
    simpa using this
  · rfl
theorem ofS_bd {c : List Seen} (h : ∀ x ∈ c, SeenGd x) (s : ByteArray) : SeenBd (ofS c s) ∧ (ofS c s).more.length ≤ 4096 := by
  unfold ofS
  split
  · rename_i x hx
    have := h x (List.mem_of_find?_eq_some hx)
    exact ⟨this.bd, this.len⟩
  · exact ⟨⟨Int.le_refl 0, by show (0 : Int) ≤ _; decide, (fun n hn => by cases hn), by show 0 ≤ _; decide⟩, by show 0 ≤ _; decide⟩
theorem bstep_len : ∀ (l : List Int) (st : Int × List Int), (l.foldl bstep st).2.length ≤ st.2.length + l.length
  | [], st => by simp
  | n :: l, st => by
    have := bstep_len l (bstep st n)
    have h2 : (bstep st n).2.length ≤ st.2.length + 1 := by
      unfold bstep
      split
      · simp
      · split <;> simp
    simp only [List.foldl_cons, List.length_cons]; omega
theorem bothS_len (a b : Seen) : (bothS a b).more.length ≤ a.more.length + b.more.length := by
  have h1 := bstep_len (onceI (a.more ++ b.more)) (max a.base b.base, [])
  have h2 := onceI_len (a.more ++ b.more)
  rw [List.length_append] at h2
  simp only [bothS, bothF]
  simp at h1
  omega
theorem compactL_mem {ss : List ByteArray} {s : ByteArray} (h : s ∈ compactL ss) : s ∈ ss := by
  unfold compactL at h
  obtain ⟨l, hl, rfl⟩ := List.mem_map.1 h
  obtain ⟨t, ht, rfl⟩ := List.mem_map.1 (compact_mem hl)
  rw [B_Lb]; exact ht
theorem sortSS_mem {ss : List ByteArray} {s : ByteArray} (h : s ∈ sortSS ss) : s ∈ ss := by
  unfold sortSS at h
  obtain ⟨l, hl, rfl⟩ := List.mem_map.1 h
  obtain ⟨t, ht, rfl⟩ := List.mem_map.1 (List.mem_mergeSort.1 hl)
  rw [B_Lb]; exact ht
theorem nodesS_mem {a b : List Seen} {s : ByteArray} (h : s ∈ nodesS a b) : ∃ x ∈ a ++ b, x.node = s := List.mem_map.1 (sortSS_mem (compactL_mem h))
theorem nodesS_len (a b : List Seen) : (nodesS a b).length ≤ a.length + b.length := by
  unfold nodesS compactL
  rw [List.length_map]
  refine Nat.le_trans (compact_le _) ?_
  simp [sortSS]
theorem sizes_gd {c : List Seen} (h : ∀ x ∈ c, SeenGd x) : ∀ x ∈ c, SeenSm x := fun x hx => ⟨by have := (h x hx).size; omega, by have := (h x hx).len; omega⟩
theorem joinAll_sm {a b : List Seen} (ha : ∀ x ∈ a, SeenGd x) (hb : ∀ x ∈ b, SeenGd x) : ∀ x ∈ joinAll a b, SeenSm x := fun x hx => by
  obtain ⟨s, hs, rfl⟩ := List.mem_map.1 hx
  obtain ⟨y, hy, rfl⟩ := nodesS_mem hs
  have h1 := (ofS_bd ha y.node).2
  have h2 := (ofS_bd hb y.node).2
  have h3 := bothS_len (ofS a y.node) (ofS b y.node)
  refine ⟨?_, by omega⟩
  show (ofS a y.node).node.size ≤ _
  rw [ofS_node]
  rcases List.mem_append.1 hy with h | h
  · have := (ha y h).size; omega
  · have := (hb y h).size; omega
theorem concatSeenF {L1 L2 : List Seen} {t1 t2 tt : Bool} {σ : Store} (h1 : L1.length ≤ 10000000) (h2 : L2.length ≤ 10000000) :
    ACalls Tryz.prog 76 [.sl 1 [.sl 3 (L1.map sSeen) t1, .sl 3 (L2.map sSeen) t2] tt] σ fun v σ' => v = .sl 3 ((L1 ++ L2).map sSeen) false ∧ σ = σ' :=
  (concatSeen_c h1 h2).frozen (szSeen _)
theorem chk0 {b : Bool} : ((if b = true then 0 else 1 : Int) = 0) ↔ b = true := by cases b <;> simp
theorem join_c {a b : List Seen} {ta tb : Bool} {σ : Store} (hA : ∀ x ∈ a, SeenSm x) (hB : ∀ x ∈ b, SeenSm x) (hna : a.length ≤ 100000) (hnb : b.length ≤ 100000) :
    ACalls Tryz.prog 37 [.sl 3 (a.map sSeen) ta, .sl 3 (b.map sSeen) tb] σ fun v σ' => v = .tup [.sl 3 ((joinS a b).1.map sSeen) false, vInt (joinS a b).2] ∧ σ = σ' := by
  refine ACalls_of Tryz.func37 rfl Tryz.ntmps37 (congrArg Array.toList Tryz.results37) (by simp only [List.length_cons, List.length_nil]; decide) ?_; simp only [envOf_cons, envOf_nil, Nat.reduceAdd]
  refine awp_seq ?_
  refine awp_region (by kernel_rfl) ?_
  iterate 2 (refine aL_S rfl rfl v_ ?_)
  refine aL_nil ?_
  refine awp_seq ?_
  refine awp_seq ?_
  refine awp_region (by kernel_rfl) ?_
  (refine aL_S rfl rfl v_ ?_)
  refine aL_X rfl rfl (AOp_use rfl rfl (.inr ⟨rfl, rfl, rfl⟩) g_ va_ (check_c hA (by omega)) ?_); rintro _ _ ⟨rfl, rfl⟩
  iterate 2 (refine aL_S rfl rfl v_ ?_)
  refine aL_GF rfl rfl v_ rfl vg_ ?_
  refine aL_GFX rfl rfl v_ rfl (fun hb => AOp_useV (by rfl) (by rfl) (.inr ⟨by rfl, by rfl, by rfl⟩) g_ cg_ (check_c hB (by omega))) ?_
  refine aL_GF rfl rfl v_ rfl vg_ ?_
  (refine aL_S rfl rfl v_ ?_)
  refine aL_nil ?_
  refine awp_cond v_ (fun hc1 => ?_) (fun hc1 => ?_)
  · replace hc1 := nm_ hc1
    skip
    have hj : joinS a b = ([], 1) := by
      rw [chk0, chk0] at hc1
      unfold joinS
      cases h1 : ctxOk a <;> cases h2 : ctxOk b <;> simp [h1, h2] at hc1 ⊢
    refine awp_seq ?_
    refine awp_region (by kernel_rfl) ?_
    iterate 2 (refine aL_S rfl rfl v_ ?_)
    refine aL_nil ?_
    refine awp_ret ?_
    rw [hj]
    exact aEnd_retW (v := .tup [.sl 3 [] false, vInt 1]) (v' := .tup [vNil, vInt 1]) va_ (.tup _ _ rfl (fun i hi hi' => by match i, hi with | 0, _ => exact .nil _ _ | 1, _ => exact .refl _)) sub_ ⟨rfl, rfl⟩
  · replace hc1 := nm_ hc1
    rw [chk0, chk0] at hc1
    have gA := ctxOk_gd hc1.1
    have gB := ctxOk_gd hc1.2
    have rA := ctxOk_rise hc1.1
    have rB := ctxOk_rise hc1.2
    have hlen : (a ++ b).length ≤ 200000 := by rw [List.length_append]; omega
    obtain ⟨D, hD⟩ : ∃ D, a ++ b = D := ⟨_, rfl⟩
    rw [hD] at hlen
    refine awp_skip ?_
    refine awp_seq ?_
    refine awp_region (by kernel_rfl) ?_
    (refine aL_S rfl rfl v_ ?_)
    refine aL_nil ?_
    refine awp_seq ?_
    refine awp_seq ?_
    refine awp_region (by kernel_rfl) ?_
    iterate 2 (refine aL_S rfl rfl v_ ?_)
    refine aL_buildSlice rfl rfl rfl g_ g_ rfl rfl h_ c2_ (by decide) ?_
    refine aL_X rfl rfl (AOp_use rfl rfl (.inr ⟨rfl, rfl, rfl⟩) g_ va_ (concatSeenF (L1 := a) (L2 := b) (by omega) (by omega)) ?_); rintro _ _ ⟨rfl, rfl⟩
    rw [hD]
    iterate 2 (refine aL_S rfl rfl v_ ?_)
    refine aL_nil ?_
    refine awp_block ?_
    refine awp_loop_env (ι := Store × AVal × Nat) (fun ⟨τ, g, k⟩ => D.length - k) (fun ⟨τ, g, k⟩ => k ≤ D.length ∧ CBp σ τ 1 (((D.take k).map (·.node)).map vStr) g) (fun ⟨τ, g, k⟩ => [(0, .sl 3 (a.map sSeen) ta), (1, .sl 3 (b.map sSeen) tb), (6, g), (23, .sl 3 (D.map sSeen) false), (24, vInt D.length), (25, vInt k)]) (fun ⟨τ, g, k⟩ => τ) (σ, vNil, 0) ?_ ?_ ?_ ?_
    · exact ⟨Nat.zero_le _, .inl ⟨rfl, rfl, rfl⟩⟩
    · exact cv_
    · exact Store.Wk.refl _
    rintro ⟨τ, g, k⟩ ⟨hk, hC⟩
    simp only [envL_cons, envL_nil]
    refine awp_seq ?_
    refine awp_region (by kernel_rfl) ?_
    (refine aL_S rfl rfl v_ ?_)
    refine aL_nil ?_
    refine awp_seq ?_
    refine awp_cond v_ (fun hc5 => ?_) (fun hc5 => ?_)
    · replace hc5 := nm_ hc5
      refine awp_skip ?_
      refine awp_seq ?_
      refine awp_block ?_
      refine awp_seq ?_
      obtain ⟨x, hx⟩ := get_some (l := D) (k := k) (by omega)
      have R := hx
      refine awp_region (by kernel_rfl) ?_
      iterate 2 (refine aL_S rfl rfl v_ ?_)
      refine aL_alloc rfl rfl rfl g_ gl_ fun o8 ho8 => ?_
      repeat (rw [none_set_iff] at ho8; obtain ⟨_, ho8⟩ := ho8)
      refine aL_store rfl rfl rfl v_ v_ h_ g_ rfl g_ c_ (by rfl) le_ v_ ?_
      refine aL_nil ?_
      skip
      have n8 : σ.heap o8 = none := by
        cases h : σ.heap o8 with
        | none => rfl
        | some y => have := hC.sub.heap o8 y h; rw [ho8] at this; cases this
      have hC1 := cbp_set2 (x := .cells [.lit (.string ⟨#[]⟩), .lit (.int .i64 0), .lit (.slice none 0 0)]) (y := .cells (sSeen x).cells) hC ho8
      refine awp_region (by kernel_rfl) ?_
      iterate 3 (refine aL_S rfl rfl v_ ?_)
      refine aL_buildSlice rfl rfl rfl g_ g_ rfl rfl h_ c2_ (by decide) ?_
      refine aL_X rfl rfl (AOp_appendC rfl g_ g_ hC1 va_ (fun y hy => by obtain ⟨s, _, rfl⟩ := List.mem_map.1 hy; rfl) va_ c_ (by simp; omega) fun a' σ' hC2 => ?_)
      obtain ⟨τ', hC3, hsub⟩ := cbp_drop hC2 n8
      (refine aL_S rfl rfl v_ ?_)
      refine aL_nil ?_
      refine awp_region (by kernel_rfl) ?_
      iterate 2 (refine aL_S rfl rfl v_ ?_)
      refine aL_nil ?_
      refine aNext (ι := Store × AVal × Nat) (i := ⟨τ, g, k⟩) (τ', a', k + 1) ?_ ?_ ?_ ?_
      · show D.length - (k + 1) < D.length - k; omega
      · exact ⟨by show k + 1 ≤ D.length; omega, by rw [take_snoc hx, List.map_append, List.map_append]; exact hC3⟩
      · exact cv_
      · exact hsub.wk
    · replace hc5 := nm_ hc5
      refine awp_exit ?_
      refine aThen_exit ?_
      refine aThen_exit ?_
      refine aBlock_hit ?_
      refine awp_seq ?_
      obtain rfl : k = D.length := by omega
      rw [List.take_length] at hC
      refine awp_region (by kernel_rfl) ?_
      (refine aL_S rfl rfl v_ ?_)
      refine aL_X rfl rfl (AOp_use rfl rfl (.inr ⟨rfl, rfl, rfl⟩) g_ va_ (sortStrC hC (by simp at hlen ⊢; omega)) ?_); rintro _ τ1 ⟨rfl, hC1⟩
      refine aL_nil ?_
      refine awp_seq ?_
      refine awp_region (by kernel_rfl) ?_
      refine aL_nilOwn 48 3 rfl rfl rfl (by rfl) fun k9 hk9 => ?_
      have hk9' : σ.tok k9 = none := by
        cases h : σ.tok k9 with
        | none => rfl
        | some y => have := hC1.sub.tok k9 y h; rw [hk9] at this; cases this
      refine aL_nil ?_
      refine awp_seq ?_
      refine awp_seq ?_
      refine awp_region (by kernel_rfl) ?_
      (refine aL_S rfl rfl v_ ?_)
      refine aL_X rfl rfl (AOp_use rfl rfl (.inr ⟨rfl, rfl, rfl⟩) g_ va_ (compactStrC (σ0 := σ.newTok none k9 (48, 3)) (ss := sortSS (D.map (·.node))) (cbp_tok hC1) (by simp [sortSS]; omega) (by refine Nat.le_trans (compact_le _) (by simp))) ?_); rintro _ _ ⟨rfl, rfl⟩
      rw [show compactL (sortSS (D.map (·.node))) = nodesS a b from by rw [← hD]; rfl]
      obtain ⟨Nd, hNd⟩ : ∃ Nd, nodesS a b = Nd := ⟨_, rfl⟩
      have hnl := nodesS_len a b
      rw [hNd] at hnl ⊢
      have hall : joinAll a b = Nd.map fun s => bothS (ofS a s) (ofS b s) := by rw [← hNd]; rfl
      iterate 2 (refine aL_S rfl rfl v_ ?_)
      refine aL_nil ?_
      refine awp_block ?_
      refine awp_loop_env (ι := Nat × Nat) (fun ⟨k, i⟩ => Nd.length - i) (fun ⟨k, i⟩ => i ≤ Nd.length ∧ σ.tok k = none) (fun ⟨k, i⟩ => [(0, .sl 3 (a.map sSeen) ta), (1, .sl 3 (b.map sSeen) tb), (9, .own k 3 (((Nd.take i).map fun s => bothS (ofS a s) (ofS b s)).map sSeen)), (38, .sl 1 (Nd.map vStr) false), (39, vInt Nd.length), (40, vInt i)]) (fun ⟨k, i⟩ => (σ.newTok none k (48, 3))) (k9, 0) ?_ ?_ ?_ ?_
      · exact ⟨Nat.zero_le _, hk9'⟩
      · exact cv_
      · exact Store.Wk.refl _
      rintro ⟨k, i⟩ ⟨hi, hk⟩
      simp only [envL_cons, envL_nil]
      refine awp_seq ?_
      refine awp_region (by kernel_rfl) ?_
      (refine aL_S rfl rfl v_ ?_)
      refine aL_nil ?_
      refine awp_seq ?_
      refine awp_cond v_ (fun hc12 => ?_) (fun hc12 => ?_)
      · replace hc12 := nm_ hc12
        refine awp_skip ?_
        refine awp_seq ?_
        refine awp_block ?_
        refine awp_seq ?_
        obtain ⟨n, hn⟩ := get_some (l := Nd) (k := i) (by omega)
        have R := hn
        refine awp_region (by kernel_rfl) ?_
        iterate 3 (refine aL_S rfl rfl v_ ?_)
        refine aL_nil ?_
        refine awp_region (by kernel_rfl) ?_
        iterate 3 (refine aL_S rfl rfl v_ ?_)
        refine aL_X rfl rfl (AOp_use rfl rfl (.inr ⟨rfl, rfl, rfl⟩) g_ va_ (of_c rA (by omega)) ?_); rintro _ _ ⟨rfl, rfl⟩
        iterate 2 (refine aL_S rfl rfl v_ ?_)
        refine aL_X rfl rfl (AOp_use rfl rfl (.inr ⟨rfl, rfl, rfl⟩) g_ va_ (of_c rB (by omega)) ?_); rintro _ _ ⟨rfl, rfl⟩
        refine aL_X rfl rfl (AOp_use rfl rfl (.inr ⟨rfl, rfl, rfl⟩) g_ va_ (both_c (ofS_bd gA _).1 (ofS_bd gB _).1) ?_); rintro _ _ ⟨rfl, rfl⟩
        refine aL_buildSlice rfl rfl rfl g_ g_ rfl rfl h_ c2_ (by decide) ?_
        refine aL_append rfl rfl rfl g_ g_ v_ h_ v_ c_ (by simp; omega) fun k53 hk53 => ?_
        (refine aL_S rfl rfl v_ ?_)
        refine aL_nil ?_
        refine awp_region (by kernel_rfl) ?_
        iterate 2 (refine aL_S rfl rfl v_ ?_)
        refine aL_nil ?_
        refine aNext (ι := Nat × Nat) (i := ⟨k, i⟩) (k53, i + 1) ?_ ?_ ?_ ?_
        · show Nd.length - (i + 1) < Nd.length - i; omega
        · exact ⟨by show i + 1 ≤ Nd.length; omega, (newTok_none hk53).2⟩
        · have R := (show ((Nd.take (i + 1)).map fun s => bothS (ofS a s) (ofS b s)).map sSeen = ((Nd.take i).map fun s => bothS (ofS a s) (ofS b s)).map sSeen ++ [sSeen (bothS (ofS a n) (ofS b n))] from by rw [take_snoc hn, List.map_append, List.map_append]; rfl); exact cv_
        · rw [Store.newTok_step hk]; exact Store.Wk.refl _
      · replace hc12 := nm_ hc12
        refine awp_exit ?_
        refine aThen_exit ?_
        refine aThen_exit ?_
        refine aBlock_hit ?_
        refine awp_seq ?_
        refine awp_seq ?_
        obtain rfl : i = Nd.length := by omega
        rw [List.take_length, ← hall]
        have hjl : (joinAll a b).length ≤ 1000000 := by rw [hall, List.length_map]; omega
        refine awp_region (by kernel_rfl) ?_
        (refine aL_S rfl rfl v_ ?_)
        refine aL_X rfl rfl (AOp_use rfl rfl (.inr ⟨rfl, rfl, rfl⟩) g_ va_ (ACalls.wkA (args := [.own k 3 ((joinAll a b).map sSeen)]) (check_c (t := false) (joinAll_sm gA gB) hjl) rfl (fun j hj hj' => by match j, hj with | 0, _ => exact .own1 _ _ _)) ?_); rintro _ _ ⟨rfl, rfl⟩
        (refine aL_S rfl rfl v_ ?_)
        refine aL_nil ?_
        refine awp_cond v_ (fun hc16 => ?_) (fun hc16 => ?_)
        · replace hc16 := nm_ hc16
          refine awp_seq ?_
          refine awp_region (by kernel_rfl) ?_
          iterate 2 (refine aL_S rfl rfl v_ ?_)
          refine aL_nil ?_
          refine awp_ret ?_
          rw [chk0] at hc16
          have hj : joinS a b = ([], 4) := by simp [joinS, hc1.1, hc1.2, hc16]
          rw [hj]
          exact aEnd_retW (v := .tup [.sl 3 [] false, vInt 4]) (v' := .tup [vNil, vInt 4]) va_ (.tup _ _ rfl (fun i hi hi' => by match i, hi with | 0, _ => exact .nil _ _ | 1, _ => exact .refl _)) (subx_start (subx_newTok hk subx_refl)) ⟨rfl, rfl⟩
        · replace hc16 := nm_ hc16
          refine awp_skip ?_
          refine awp_seq ?_
          refine awp_region (by kernel_rfl) ?_
          iterate 3 (refine aL_S rfl rfl v_ ?_)
          refine aL_nil ?_
          refine awp_ret ?_
          rw [chk0] at hc16
          have hj : joinS a b = (joinAll a b, 0) := by simp [joinS, hc1.1, hc1.2, hc16]
          rw [hj]
          exact aEnd_retW (v := .tup [.sl 3 ((joinAll a b).map sSeen) false, vInt 0]) (v' := .tup [.own k 3 ((joinAll a b).map sSeen), vInt 0]) va_ (.tup _ _ rfl (fun i hi hi' => by match i, hi with | 0, _ => exact .own1 _ _ _ | 1, _ => exact .refl _)) (subx_start (subx_newTok hk subx_refl)) ⟨rfl, rfl⟩
end Go.Proofs.YtbomkkjhafdhiaaGreat
end
