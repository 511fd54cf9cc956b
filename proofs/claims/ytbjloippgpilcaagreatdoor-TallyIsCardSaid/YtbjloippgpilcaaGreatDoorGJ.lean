/-
  What the calls of a lane came to; All sums, as lines; What must come, whatever the arguments are. Own work (an AI agent).
-/
import Derived.Test.YtbjloippgpilcaaGreatDoorGH
import Derived.Test.YtbjloippgpilcaaGreatDoorGI
import Derived.Test.YtbjloippgpilcaaGreatDoorGG

section
set_option linter.all false
set_option maxRecDepth 100000
namespace Go.Proofs.YtbjloippgpilcaaGreatDoor
open Go.Ab
theorem own_mem {L : List Deed} {s : ByteArray} (h : ∀ d ∈ L, DeedI d) : ∀ d ∈ own L s, DeedI d := fun d hd => h d (List.mem_filter.1 hd).1
theorem own_len (L : List Deed) (s : ByteArray) : (own L s).length ≤ L.length := List.length_filter_le ..
theorem of_c {L : List Deed} {s : ByteArray} {t : Bool} {σ : Store} (hd : ∀ d ∈ L, DeedI d) (hl : L.length ≤ 1000000) : ACalls Tryz.prog 8 [.sl 20 (L.map sDeed) t, vStr s] σ fun v σ' => v = sSm (ofS L s) ∧ σ = σ' := by
  have hdo := own_mem (s := s) hd
  have hlo := own_len L s
  have hto : (tookI (own L s)).length ≤ L.length := by
    rw [tookI_len]
    exact Nat.le_trans (List.length_filter_le ..) hlo
  refine ACalls_of Tryz.func8 rfl Tryz.ntmps8 (congrArg Array.toList Tryz.results8) (by simp only [List.length_cons, List.length_nil]; decide) ?_; simp only [envOf_cons, envOf_nil, Nat.reduceAdd]
  refine awp_seq ?_
  refine awp_region (by kernel_rfl) ?_
  refine aL_box rfl rfl rfl v_ rfl g_ fun o3 ho3 => ?_
  repeat (rw [none_set_iff] at ho3; obtain ⟨_, ho3⟩ := ho3)
  refine aL_alloc rfl rfl rfl g_ gl_ fun o4 ho4 => ?_
  repeat (rw [none_set_iff] at ho4; obtain ⟨_, ho4⟩ := ho4)
  refine aL_nil ?_
  refine awp_seq ?_
  refine awp_region (by kernel_rfl) ?_
  (refine aL_S rfl rfl v_ ?_)
  refine aL_X rfl rfl (AOp_use rfl rfl (.inr ⟨rfl, rfl, rfl⟩) g_ va_ (cloneC hl) ?_); rintro _ τ0 hC0
  (refine aL_S rfl rfl v_ ?_)
  refine aL_X rfl rfl (AOp_use rfl rfl (.inr ⟨rfl, rfl, rfl⟩) g_ va_ (deleteC (s := s) h_ hC0 hl) ?_); rintro _ _ ⟨rfl, rfl⟩
  (refine aL_S rfl rfl v_ ?_)
  refine aL_nil ?_
  refine awp_seq ?_
  refine awp_region (by kernel_rfl) ?_
  (refine aL_S rfl rfl v_ ?_)
  refine aL_X rfl rfl (AOp_use rfl rfl (.inr ⟨rfl, rfl, rfl⟩) g_ va_ (tookA_c hdo (by omega)) ?_); rintro _ _ ⟨rfl, rfl⟩
  (refine aL_S rfl rfl v_ ?_)
  refine aL_nil ?_
  refine awp_seq ?_
  refine awp_region (by kernel_rfl) ?_
  iterate 5 (refine aL_S rfl rfl v_ ?_)
  refine aL_X rfl rfl (AOp_use rfl rfl (.inr ⟨rfl, rfl, rfl⟩) g_ va_ (counts_c hdo (by omega)) ?_); rintro _ _ ⟨rfl, rfl⟩
  (refine aL_S rfl rfl v_ ?_)
  refine aL_X rfl rfl (AOp_use rfl rfl (.inr ⟨rfl, rfl, rfl⟩) g_ va_ (at_c (by omega)) ?_); rintro _ _ ⟨rfl, rfl⟩
  (refine aL_S rfl rfl v_ ?_)
  refine aL_X rfl rfl (AOp_use rfl rfl (.inr ⟨rfl, rfl, rfl⟩) g_ va_ (at_c (by omega)) ?_); rintro _ _ ⟨rfl, rfl⟩
  (refine aL_S rfl rfl v_ ?_)
  refine aL_store rfl rfl rfl v_ v_ h_ g_ rfl g_ c_ (by rfl) le_ v_ ?_
  refine aL_nil ?_
  refine awp_ret ?_
  refine aEnd_ret (σ' := σ) v_ sub_ ?_
  exact ⟨rfl, rfl⟩
def FewC (c : List Seen) : Prop := c.length ≤ 12 ∧ ∀ x ∈ c, x.node.size ≤ 100 ∧ x.more.length ≤ 40
theorem few06_c {c : List Seen} {t : Bool} {σ : Store} : ACalls Tryz.prog 22 [.sl 3 (c.map sSeen) t] σ fun v σ' => (∃ r, v = vB r ∧ (r = true ↔ FewC c)) ∧ σ = σ' := by
  refine ACalls_of Tryz.func22 rfl Tryz.ntmps22 (congrArg Array.toList Tryz.results22) (by simp only [List.length_cons, List.length_nil]; decide) ?_; simp only [envOf_cons, envOf_nil, Nat.reduceAdd]
  refine awp_seq ?_
  refine awp_region (by kernel_rfl) ?_
  (refine aL_S rfl rfl v_ ?_)
  refine aL_nil ?_
  refine awp_seq ?_
  refine awp_seq ?_
  refine awp_region (by kernel_rfl) ?_
  (refine aL_S rfl rfl v_ ?_)
  refine aL_nil ?_
  refine awp_block ?_
  refine awp_loop_env (ι := Nat) (fun k => c.length - k) (fun k => k ≤ c.length ∧ k ≤ 12 ∧ ∀ j x, j < k → c[j]? = some x → x.node.size ≤ 100 ∧ x.more.length ≤ 40) (fun k => [(0, .sl 3 (c.map sSeen) t), (3, vInt k)]) (fun k => σ) 0 ?_ ?_ ?_ ?_
  · exact ⟨Nat.zero_le _, by decide, fun j x h => by omega⟩
  · exact cv_
  · exact sub_
  rintro k ⟨hk, hk2, ha⟩
  simp only [envL_cons, envL_nil]
  refine awp_seq ?_
  refine awp_seq ?_
  refine awp_region (by kernel_rfl) ?_
  iterate 5 (refine aL_S rfl rfl v_ ?_)
  refine aL_GT rfl rfl v_ rfl vg_ ?_
  refine aL_GT rfl rfl v_ rfl vg_ ?_
  (refine aL_S rfl rfl v_ ?_)
  refine aL_nil ?_
  refine awp_cond v_ (fun hc2 => ?_) (fun hc2 => ?_)
  · replace hc2 := nm_ hc2
    refine awp_skip ?_
    refine awp_seq ?_
    refine awp_block ?_
    refine awp_seq ?_
    obtain ⟨x, hx⟩ := get_some (l := c) (k := k) (by omega)
    have R := hx
    refine awp_region (by kernel_rfl) ?_
    iterate 8 (refine aL_S rfl rfl v_ ?_)
    refine aL_GF rfl rfl v_ rfl vg_ ?_
    refine aL_GF rfl rfl v_ rfl vg_ ?_
    refine aL_GF rfl rfl v_ rfl vg_ ?_
    refine aL_GF rfl rfl v_ rfl vg_ ?_
    refine aL_GF rfl rfl v_ rfl vg_ ?_
    refine aL_GF rfl rfl v_ rfl vg_ ?_
    refine aL_GF rfl rfl v_ rfl vg_ ?_
    (refine aL_S rfl rfl v_ ?_)
    refine aL_nil ?_
    refine awp_cond v_ (fun hc4 => ?_) (fun hc4 => ?_)
    · replace hc4 := nm_ hc4
      refine awp_seq ?_
      refine awp_region (by kernel_rfl) ?_
      (refine aL_S rfl rfl v_ ?_)
      refine aL_nil ?_
      refine awp_ret ?_
      refine aEnd_ret (σ' := σ) v_ sub_ ?_
      exact ⟨⟨false, rfl, (fun h => by cases h), fun h => by have := h.2 x (List.mem_of_getElem? hx); omega⟩, rfl⟩
    · replace hc4 := nm_ hc4
      refine awp_skip ?_
      refine awp_region (by kernel_rfl) ?_
      iterate 3 (refine aL_S rfl rfl v_ ?_)
      refine aL_nil ?_
      refine aNext (ι := Nat) (i := k) (k + 1) ?_ ?_ ?_ ?_
      · omega
      · exact ⟨by omega, by omega, fun j y hj hy => by rcases Nat.lt_or_eq_of_le (Nat.le_of_lt_succ hj) with h | h; exact ha j y h hy; rw [h, hx] at hy; obtain rfl := Option.some.inj hy; omega⟩
      · exact cv_
      · exact sub_
  · replace hc2 := nm_ hc2
    refine awp_exit ?_
    refine aThen_exit ?_
    refine aThen_exit ?_
    refine aBlock_hit ?_
    refine awp_seq ?_
    refine awp_region (by kernel_rfl) ?_
    iterate 4 (refine aL_S rfl rfl v_ ?_)
    refine aL_nil ?_
    refine awp_ret ?_
    refine aEnd_ret (σ' := σ) v_ sub_ ?_
    exact ⟨⟨_, rfl, (fun h => by
    have h12 : c.length ≤ 12 := by rw [decide_eq_true_eq] at h; omega
    exact ⟨h12, fun x hx => by
      obtain ⟨j, hj⟩ := List.mem_iff_getElem?.1 hx
      have := (List.getElem?_eq_some_iff.1 hj).1
      exact ha j x (by omega) hj⟩), fun h => by have := h.1; rw [decide_eq_true_eq]; omega⟩, rfl⟩

def fewCb (c : List Seen) : Bool := decide (c.length ≤ 12) && c.all fun x => decide (x.node.size ≤ 100) && decide (x.more.length ≤ 40)
theorem fewCb_iff {c : List Seen} : fewCb c = true ↔ FewC c := by simp [fewCb, FewC]
theorem few06_f {c : List Seen} {t : Bool} {σ : Store} : ACalls Tryz.prog 22 [.sl 3 (c.map sSeen) t] σ fun v σ' => v = vB (fewCb c) ∧ σ = σ' :=
  few06_c.wkS fun v σ' ⟨⟨r, hv, hr⟩, hs⟩ => ⟨v, σ', .refl _, .refl _, by rw [hv, show r = fewCb c from by rw [Bool.eq_iff_iff, hr, fewCb_iff]], hs⟩
theorem few44_c {L : List Deed} {t : Bool} {σ : Store} : ACalls Tryz.prog 4 [.sl 20 (L.map sDeed) t, vInt 14] σ fun v σ' => (∃ r, v = vB r ∧ (r = true → L.length ≤ 14 ∧ ∀ d ∈ L, d.lane.size ≤ 100)) ∧ σ = σ' := by
  refine ACalls_of Tryz.func4 rfl Tryz.ntmps4 (congrArg Array.toList Tryz.results4) (by simp only [List.length_cons, List.length_nil]; decide) ?_; simp only [envOf_cons, envOf_nil, Nat.reduceAdd]
  refine awp_seq ?_
  refine awp_region (by kernel_rfl) ?_
  (refine aL_S rfl rfl v_ ?_)
  refine aL_nil ?_
  refine awp_seq ?_
  refine awp_seq ?_
  refine awp_region (by kernel_rfl) ?_
  (refine aL_S rfl rfl v_ ?_)
  refine aL_nil ?_
  refine awp_block ?_
  refine awp_loop_env (ι := Nat) (fun k => L.length - k) (fun k => k ≤ L.length ∧ k ≤ 14 ∧ ∀ j x, j < k → L[j]? = some x → x.lane.size ≤ 100) (fun k => [(0, .sl 20 (L.map sDeed) t), (1, vInt 14), (5, vInt k)]) (fun k => σ) 0 ?_ ?_ ?_ ?_
  · exact ⟨Nat.zero_le _, by decide, fun j x h => by omega⟩
  · exact cv_
  · exact sub_
  rintro k ⟨hk, hk2, ha⟩
  simp only [envL_cons, envL_nil]
  refine awp_seq ?_
  refine awp_seq ?_
  refine awp_region (by kernel_rfl) ?_
  iterate 5 (refine aL_S rfl rfl v_ ?_)
  refine aL_GT rfl rfl v_ rfl vg_ ?_
  refine aL_GT rfl rfl v_ rfl vg_ ?_
  refine aL_GT rfl rfl v_ rfl vg_ ?_
  (refine aL_S rfl rfl v_ ?_)
  refine aL_nil ?_
  refine awp_cond v_ (fun hc2 => ?_) (fun hc2 => ?_)
  · replace hc2 := nm_ hc2
    refine awp_skip ?_
    refine awp_seq ?_
    refine awp_block ?_
    refine awp_seq ?_
    obtain ⟨x, hx⟩ := get_some (l := L) (k := k) (by omega)
    have R := hx
    refine awp_region (by kernel_rfl) ?_
    iterate 4 (refine aL_S rfl rfl v_ ?_)
    refine aL_alloc rfl rfl rfl g_ gl_ fun o6 ho6 => ?_
    repeat (rw [none_set_iff] at ho6; obtain ⟨_, ho6⟩ := ho6)
    refine aL_store rfl rfl rfl v_ v_ h_ g_ rfl g_ c_ (by rfl) le_ v_ ?_
    refine aL_nil ?_
    refine awp_seq ?_
    refine awp_region (by kernel_rfl) ?_
    iterate 5 (refine aL_S rfl rfl v_ ?_)
    refine aL_GF rfl rfl v_ rfl vg_ ?_
    refine aL_GF rfl rfl v_ rfl vg_ ?_
    refine aL_GF rfl rfl v_ rfl vg_ ?_
    refine aL_GF rfl rfl v_ rfl vg_ ?_
    iterate 2 (refine aL_S rfl rfl v_ ?_)
    refine aL_GF rfl rfl v_ rfl vg_ ?_
    refine aL_GF rfl rfl v_ rfl vg_ ?_
    refine aL_GF rfl rfl v_ rfl vg_ ?_
    refine aL_GF rfl rfl v_ rfl vg_ ?_
    refine aL_GF rfl rfl v_ rfl vg_ ?_
    iterate 2 (refine aL_S rfl rfl v_ ?_)
    refine aL_GF rfl rfl v_ rfl vg_ ?_
    refine aL_GF rfl rfl v_ rfl vg_ ?_
    refine aL_GF rfl rfl v_ rfl vg_ ?_
    refine aL_GF rfl rfl v_ rfl vg_ ?_
    refine aL_GF rfl rfl v_ rfl vg_ ?_
    iterate 2 (refine aL_S rfl rfl v_ ?_)
    refine aL_GF rfl rfl v_ rfl vg_ ?_
    refine aL_GF rfl rfl v_ rfl vg_ ?_
    refine aL_GF rfl rfl v_ rfl vg_ ?_
    refine aL_GF rfl rfl v_ rfl vg_ ?_
    refine aL_GF rfl rfl v_ rfl vg_ ?_
    iterate 2 (refine aL_S rfl rfl v_ ?_)
    refine aL_GF rfl rfl v_ rfl vg_ ?_
    refine aL_GF rfl rfl v_ rfl vg_ ?_
    refine aL_GF rfl rfl v_ rfl vg_ ?_
    refine aL_GFX rfl rfl v_ rfl (fun hb => AOp_useV (by rfl) (by rfl) (.inr ⟨by rfl, by rfl, by rfl⟩) g_ cg_ (few06_f)) ?_
    refine aL_GF rfl rfl v_ rfl vg_ ?_
    iterate 2 (refine aL_S rfl rfl v_ ?_)
    refine aL_GF rfl rfl v_ rfl vg_ ?_
    refine aL_GF rfl rfl v_ rfl vg_ ?_
    refine aL_GF rfl rfl v_ rfl vg_ ?_
    refine aL_GFX rfl rfl v_ rfl (fun hb => AOp_useV (by rfl) (by rfl) (.inr ⟨by rfl, by rfl, by rfl⟩) g_ cg_ (few06_f)) ?_
    refine aL_GF rfl rfl v_ rfl vg_ ?_
    iterate 2 (refine aL_S rfl rfl v_ ?_)
    refine aL_GF rfl rfl v_ rfl vg_ ?_
    refine aL_GF rfl rfl v_ rfl vg_ ?_
    refine aL_GF rfl rfl v_ rfl vg_ ?_
    refine aL_GF rfl rfl v_ rfl vg_ ?_
    refine aL_GF rfl rfl v_ rfl vg_ ?_
    (refine aL_S rfl rfl v_ ?_)
    refine aL_nil ?_
    refine awp_cond v_ (fun hc5 => ?_) (fun hc5 => ?_)
    · replace hc5 := nm_ hc5
      refine awp_seq ?_
      refine awp_region (by kernel_rfl) ?_
      (refine aL_S rfl rfl v_ ?_)
      refine aL_nil ?_
      refine awp_ret ?_
      refine aEnd_ret (σ' := σ) v_ sub_ ?_
      exact ⟨⟨false, rfl, (fun h => by cases h)⟩, rfl⟩
    · replace hc5 := nm_ hc5
      refine awp_skip ?_
      refine awp_region (by kernel_rfl) ?_
      iterate 3 (refine aL_S rfl rfl v_ ?_)
      refine aL_nil ?_
      refine aNext (ι := Nat) (i := k) (k + 1) ?_ ?_ ?_ ?_
      · omega
      · exact ⟨by omega, by omega, fun j y hj hy => by rcases Nat.lt_or_eq_of_le (Nat.le_of_lt_succ hj) with h | h; exact ha j y h hy; rw [h, hx] at hy; obtain rfl := Option.some.inj hy; omega⟩
      · exact cv_
      · exact sub_
  · replace hc2 := nm_ hc2
    refine awp_exit ?_
    refine aThen_exit ?_
    refine aThen_exit ?_
    refine aBlock_hit ?_
    refine awp_seq ?_
    refine awp_region (by kernel_rfl) ?_
    iterate 5 (refine aL_S rfl rfl v_ ?_)
    refine aL_nil ?_
    refine awp_ret ?_
    refine aEnd_ret (σ' := σ) v_ sub_ ?_
    exact ⟨⟨_, rfl, (fun h => by
    have h12 : L.length ≤ 14 := by rw [decide_eq_true_eq] at h; omega
    exact ⟨h12, fun x hx => by
      obtain ⟨j, hj⟩ := List.mem_iff_getElem?.1 hx
      have := (List.getElem?_eq_some_iff.1 hj).1
      exact ha j x (by omega) hj⟩)⟩, rfl⟩
theorem dn_le (L : List Deed) : (dn L).length ≤ L.length := List.length_filter_le ..
theorem sameCounts_c {a : List Cnt} {t1 t2 : Bool} {σ : Store} (hl : a.length ≤ 1000000) : ACalls Tryz.prog 10 [.sl 3 (a.map sCnt) t1, .sl 3 (a.map sCnt) t2] σ fun v σ' => v = vB true ∧ σ = σ' := by
  refine ACalls_of Tryz.func10 rfl Tryz.ntmps10 (congrArg Array.toList Tryz.results10) (by simp only [List.length_cons, List.length_nil]; decide) ?_; simp only [envOf_cons, envOf_nil, Nat.reduceAdd]
  refine awp_seq ?_
  refine awp_region (by kernel_rfl) ?_
  (refine aL_S rfl rfl v_ ?_)
  refine aL_nil ?_
  refine awp_seq ?_
  refine awp_seq ?_
  refine awp_region (by kernel_rfl) ?_
  iterate 5 (refine aL_S rfl rfl v_ ?_)
  refine aL_nil ?_
  refine awp_cond v_ (fun hc1 => ?_) (fun hc1 => ?_)
  · replace hc1 := nm_ hc1
    simp at hc1
  · replace hc1 := nm_ hc1
    refine awp_skip ?_
    refine awp_seq ?_
    refine awp_seq ?_
    refine awp_region (by kernel_rfl) ?_
    (refine aL_S rfl rfl v_ ?_)
    refine aL_nil ?_
    refine awp_block ?_
    refine awp_loop_env (ι := Nat) (fun k => a.length - k) (fun k => k ≤ a.length) (fun k => [(0, .sl 3 (a.map sCnt) t1), (1, .sl 3 (a.map sCnt) t2), (5, vInt k)]) (fun k => σ) 0 ?_ ?_ ?_ ?_
    · exact Nat.zero_le _
    · exact cv_
    · exact sub_
    rintro k hk
    simp only [envL_cons, envL_nil]
    refine awp_seq ?_
    refine awp_seq ?_
    refine awp_region (by kernel_rfl) ?_
    iterate 5 (refine aL_S rfl rfl v_ ?_)
    refine aL_GT rfl rfl v_ rfl vg_ ?_
    refine aL_GT rfl rfl v_ rfl vg_ ?_
    refine aL_GT rfl rfl v_ rfl vg_ ?_
    refine aL_GT rfl rfl v_ rfl vg_ ?_
    (refine aL_S rfl rfl v_ ?_)
    refine aL_nil ?_
    refine awp_cond v_ (fun hc4 => ?_) (fun hc4 => ?_)
    · replace hc4 := nm_ hc4
      refine awp_skip ?_
      refine awp_seq ?_
      refine awp_block ?_
      refine awp_seq ?_
      obtain ⟨x, hx⟩ := get_some (l := a) (k := k) (by omega)
      have R := hx
      refine awp_draw (.op 0 0 (.op 1 0 (.op 2 0 (.op 3 0 (.op 4 0 (.op 5 0 (.op 6 0 (.op 7 0 (.op 8 0 .nil))))))))) Tryz.mixed (by kernel_rfl) ?_
      iterate 9 (refine dR_S o_ (by rfl) (by rfl) v_ ?_)
      refine dR_nil ?_
      refine awp_cond v_ (fun hc6 => ?_) (fun hc6 => ?_)
      · replace hc6 := nm_ hc6
        simp at hc6
      · replace hc6 := nm_ hc6
        refine awp_skip ?_
        refine awp_region (by kernel_rfl) ?_
        iterate 3 (refine aL_S rfl rfl v_ ?_)
        refine aL_nil ?_
        refine aNext (ι := Nat) (i := k) (k + 1) ?_ ?_ ?_ ?_
        · omega
        · exact (by omega)
        · exact cv_
        · exact sub_
    · replace hc4 := nm_ hc4
      refine awp_exit ?_
      refine aThen_exit ?_
      refine aThen_exit ?_
      refine aBlock_hit ?_
      refine awp_seq ?_
      refine awp_region (by kernel_rfl) ?_
      (refine aL_S rfl rfl v_ ?_)
      refine aL_nil ?_
      refine awp_ret ?_
      refine aEnd_ret (σ' := σ) v_ sub_ ?_
      exact ⟨rfl, rfl⟩
theorem sameInts_c {a : List Int} {t1 t2 : Bool} {σ : Store} (hl : a.length ≤ 1000000) : ACalls Tryz.prog 13 [.sl 1 (a.map vInt) t1, .sl 1 (a.map vInt) t2] σ fun v σ' => v = vB true ∧ σ = σ' := by
  refine ACalls_of Tryz.func13 rfl Tryz.ntmps13 (congrArg Array.toList Tryz.results13) (by simp only [List.length_cons, List.length_nil]; decide) ?_; simp only [envOf_cons, envOf_nil, Nat.reduceAdd]
  refine awp_seq ?_
  refine awp_region (by kernel_rfl) ?_
  (refine aL_S rfl rfl v_ ?_)
  refine aL_nil ?_
  refine awp_seq ?_
  refine awp_seq ?_
  refine awp_region (by kernel_rfl) ?_
  iterate 5 (refine aL_S rfl rfl v_ ?_)
  refine aL_nil ?_
  refine awp_cond v_ (fun hc1 => ?_) (fun hc1 => ?_)
  · replace hc1 := nm_ hc1
    simp at hc1
  · replace hc1 := nm_ hc1
    refine awp_skip ?_
    refine awp_seq ?_
    refine awp_seq ?_
    refine awp_region (by kernel_rfl) ?_
    (refine aL_S rfl rfl v_ ?_)
    refine aL_nil ?_
    refine awp_block ?_
    refine awp_loop_env (ι := Nat) (fun k => a.length - k) (fun k => k ≤ a.length) (fun k => [(0, .sl 1 (a.map vInt) t1), (1, .sl 1 (a.map vInt) t2), (5, vInt k)]) (fun k => σ) 0 ?_ ?_ ?_ ?_
    · exact Nat.zero_le _
    · exact cv_
    · exact sub_
    rintro k hk
    simp only [envL_cons, envL_nil]
    refine awp_seq ?_
    refine awp_seq ?_
    refine awp_region (by kernel_rfl) ?_
    iterate 5 (refine aL_S rfl rfl v_ ?_)
    refine aL_GT rfl rfl v_ rfl vg_ ?_
    refine aL_GT rfl rfl v_ rfl vg_ ?_
    refine aL_GT rfl rfl v_ rfl vg_ ?_
    refine aL_GT rfl rfl v_ rfl vg_ ?_
    (refine aL_S rfl rfl v_ ?_)
    refine aL_nil ?_
    refine awp_cond v_ (fun hc4 => ?_) (fun hc4 => ?_)
    · replace hc4 := nm_ hc4
      refine awp_skip ?_
      refine awp_seq ?_
      refine awp_block ?_
      refine awp_seq ?_
      obtain ⟨x, hx⟩ := get_some (l := a) (k := k) (by omega)
      have R := hx
      refine awp_draw (.op 0 0 (.op 1 0 (.op 2 0 (.op 3 0 (.op 4 0 (.op 5 0 (.op 6 0 (.op 7 0 (.op 8 0 .nil))))))))) Tryz.mixed (by kernel_rfl) ?_
      iterate 9 (refine dR_S o_ (by rfl) (by rfl) v_ ?_)
      refine dR_nil ?_
      refine awp_cond v_ (fun hc6 => ?_) (fun hc6 => ?_)
      · replace hc6 := nm_ hc6
        simp at hc6
      · replace hc6 := nm_ hc6
        refine awp_skip ?_
        refine awp_region (by kernel_rfl) ?_
        iterate 3 (refine aL_S rfl rfl v_ ?_)
        refine aL_nil ?_
        refine aNext (ι := Nat) (i := k) (k + 1) ?_ ?_ ?_ ?_
        · omega
        · exact (by omega)
        · exact cv_
        · exact sub_
    · replace hc4 := nm_ hc4
      refine awp_exit ?_
      refine aThen_exit ?_
      refine aThen_exit ?_
      refine aBlock_hit ?_
      refine awp_seq ?_
      refine awp_region (by kernel_rfl) ?_
      (refine aL_S rfl rfl v_ ?_)
      refine aL_nil ?_
      refine awp_ret ?_
      refine aEnd_ret (σ' := σ) v_ sub_ ?_
      exact ⟨rfl, rfl⟩
theorem sameTexts_c {a : List ByteArray} {t1 t2 : Bool} {σ : Store} (hl : a.length ≤ 1000000) : ACalls Tryz.prog 18 [.sl 1 (a.map vStr) t1, .sl 1 (a.map vStr) t2] σ fun v σ' => v = vB true ∧ σ = σ' := by
  refine ACalls_of Tryz.func18 rfl Tryz.ntmps18 (congrArg Array.toList Tryz.results18) (by simp only [List.length_cons, List.length_nil]; decide) ?_; simp only [envOf_cons, envOf_nil, Nat.reduceAdd]
  refine awp_seq ?_
  refine awp_region (by kernel_rfl) ?_
  (refine aL_S rfl rfl v_ ?_)
  refine aL_nil ?_
  refine awp_seq ?_
  refine awp_seq ?_
  refine awp_region (by kernel_rfl) ?_
  iterate 5 (refine aL_S rfl rfl v_ ?_)
  refine aL_nil ?_
  refine awp_cond v_ (fun hc1 => ?_) (fun hc1 => ?_)
  · replace hc1 := nm_ hc1
    simp at hc1
  · replace hc1 := nm_ hc1
    refine awp_skip ?_
    refine awp_seq ?_
    refine awp_seq ?_
    refine awp_region (by kernel_rfl) ?_
    (refine aL_S rfl rfl v_ ?_)
    refine aL_nil ?_
    refine awp_block ?_
    refine awp_loop_env (ι := Nat) (fun k => a.length - k) (fun k => k ≤ a.length) (fun k => [(0, .sl 1 (a.map vStr) t1), (1, .sl 1 (a.map vStr) t2), (5, vInt k)]) (fun k => σ) 0 ?_ ?_ ?_ ?_
    · exact Nat.zero_le _
    · exact cv_
    · exact sub_
    rintro k hk
    simp only [envL_cons, envL_nil]
    refine awp_seq ?_
    refine awp_seq ?_
    refine awp_region (by kernel_rfl) ?_
    iterate 5 (refine aL_S rfl rfl v_ ?_)
    refine aL_GT rfl rfl v_ rfl vg_ ?_
    refine aL_GT rfl rfl v_ rfl vg_ ?_
    refine aL_GT rfl rfl v_ rfl vg_ ?_
    refine aL_GT rfl rfl v_ rfl vg_ ?_
    (refine aL_S rfl rfl v_ ?_)
    refine aL_nil ?_
    refine awp_cond v_ (fun hc4 => ?_) (fun hc4 => ?_)
    · replace hc4 := nm_ hc4
      refine awp_skip ?_
      refine awp_seq ?_
      refine awp_block ?_
      refine awp_seq ?_
      obtain ⟨x, hx⟩ := get_some (l := a) (k := k) (by omega)
      have R := hx
      refine awp_draw (.op 0 0 (.op 1 0 (.op 2 0 (.op 3 0 (.op 4 0 (.op 5 0 (.op 6 0 (.op 7 0 (.op 8 0 .nil))))))))) Tryz.mixed (by kernel_rfl) ?_
      iterate 9 (refine dR_S o_ (by rfl) (by rfl) v_ ?_)
      refine dR_nil ?_
      refine awp_cond v_ (fun hc6 => ?_) (fun hc6 => ?_)
      · replace hc6 := nm_ hc6
        simp at hc6
      · replace hc6 := nm_ hc6
        refine awp_skip ?_
        refine awp_region (by kernel_rfl) ?_
        iterate 3 (refine aL_S rfl rfl v_ ?_)
        refine aL_nil ?_
        refine aNext (ι := Nat) (i := k) (k + 1) ?_ ?_ ?_ ?_
        · omega
        · exact (by omega)
        · exact cv_
        · exact sub_
    · replace hc4 := nm_ hc4
      refine awp_exit ?_
      refine aThen_exit ?_
      refine aThen_exit ?_
      refine aBlock_hit ?_
      refine awp_seq ?_
      refine awp_region (by kernel_rfl) ?_
      (refine aL_S rfl rfl v_ ?_)
      refine aL_nil ?_
      refine awp_ret ?_
      refine aEnd_ret (σ' := σ) v_ sub_ ?_
      exact ⟨rfl, rfl⟩
theorem same_c {x : Sm} {σ : Store} (hl : x.counts.length ≤ 1000000) : ACalls Tryz.prog 7 [sSm x, sSm x] σ fun v σ' => v = vB true ∧ σ = σ' := by
  refine ACalls_of Tryz.func7 rfl Tryz.ntmps7 (congrArg Array.toList Tryz.results7) (by simp only [List.length_cons, List.length_nil]; decide) ?_; simp only [envOf_cons, envOf_nil, Nat.reduceAdd]
  refine awp_seq ?_
  refine awp_region (by kernel_rfl) ?_
  refine aL_box rfl rfl rfl v_ rfl g_ fun o2 ho2 => ?_
  repeat (rw [none_set_iff] at ho2; obtain ⟨_, ho2⟩ := ho2)
  refine aL_box rfl rfl rfl v_ rfl g_ fun o3 ho3 => ?_
  repeat (rw [none_set_iff] at ho3; obtain ⟨_, ho3⟩ := ho3)
  (refine aL_S rfl rfl v_ ?_)
  refine aL_nil ?_
  refine awp_seq ?_
  refine awp_region (by kernel_rfl) ?_
  iterate 6 (refine aL_S rfl rfl v_ ?_)
  refine aL_GT rfl rfl v_ rfl vg_ ?_
  refine aL_GT rfl rfl v_ rfl vg_ ?_
  refine aL_GT rfl rfl v_ rfl vg_ ?_
  refine aL_GT rfl rfl v_ rfl vg_ ?_
  refine aL_GT rfl rfl v_ rfl vg_ ?_
  iterate 2 (refine aL_S rfl rfl v_ ?_)
  refine aL_GT rfl rfl v_ rfl vg_ ?_
  refine aL_GT rfl rfl v_ rfl vg_ ?_
  refine aL_GT rfl rfl v_ rfl vg_ ?_
  refine aL_GT rfl rfl v_ rfl vg_ ?_
  refine aL_GTX rfl rfl v_ rfl (fun hb => AOp_useV (by rfl) (by rfl) (.inr ⟨by rfl, by rfl, by rfl⟩) g_ cg_ (sameCounts_c hl)) ?_
  iterate 2 (refine aL_S rfl rfl v_ ?_)
  refine aL_GT rfl rfl v_ rfl vg_ ?_
  refine aL_GT rfl rfl v_ rfl vg_ ?_
  refine aL_GT rfl rfl v_ rfl vg_ ?_
  refine aL_GT rfl rfl v_ rfl vg_ ?_
  refine aL_GT rfl rfl v_ rfl vg_ ?_
  iterate 2 (refine aL_S rfl rfl v_ ?_)
  refine aL_GT rfl rfl v_ rfl vg_ ?_
  refine aL_GT rfl rfl v_ rfl vg_ ?_
  refine aL_GT rfl rfl v_ rfl vg_ ?_
  refine aL_GT rfl rfl v_ rfl vg_ ?_
  refine aL_GT rfl rfl v_ rfl vg_ ?_
  iterate 2 (refine aL_S rfl rfl v_ ?_)
  refine aL_nil ?_
  refine awp_ret ?_
  refine aEnd_ret (σ' := σ) v_ sub_ ?_
  exact ⟨by simp, rfl⟩
end Go.Proofs.YtbjloippgpilcaaGreatDoor
end

section
set_option linter.all false
set_option maxRecDepth 100000
namespace Go.Proofs.YtbjloippgpilcaaGreatDoor
open Go.Ab
theorem WF.keep {o i : Nat} {a b : Store} {x : AObj} (h : WF o a b) (hx : a.heap i = some x) (hi : i ≠ o) : b.heap i = some x := h.1 i x hi hx
theorem WF.alloc {o i : Nat} {a b : Store} {x : AObj} (h : WF o a b) (hi : b.heap i = none) (ho : i ≠ o) : WF o a (b.set i x) :=
  ⟨fun j y hj hy => by rw [Store.set_ne _ _ (fun hh => by have := h.1 j y hj hy; rw [hh, hi] at this; cases this)]; exact h.1 j y hj hy, fun t n ht hn => ⟨(h.2 t n ht hn).1, fun ⟨a, sz, l, hh⟩ => (h.2 t n ht hn).2 ⟨a, sz, l, by rw [Store.set_ne _ _ (Ne.symm ho)] at hh; exact hh⟩⟩⟩
theorem WR.alloc {o i : Nat} {l : List UInt8} {σ : Store} {x : AObj} (h : WR σ o l) (hi : i ≠ o) : WR (σ.set i x) o l := by
  obtain ⟨a, b, old, h1, h2, h3⟩ := h
  exact ⟨a, b, old, by rw [Store.set_ne _ _ (Ne.symm hi)]; exact h1, h2, h3⟩
theorem WR.alloc2 {o i : Nat} {l : List UInt8} {σ : Store} {x y : AObj} (h : WR σ o l) (hi : i ≠ o) : WR ((σ.set i x).set i y) o l := (h.alloc hi).alloc hi
theorem WF.alloc2 {o i : Nat} {a b : Store} {x y : AObj} (h : WF o a b) (hi : b.heap i = none) (ho : i ≠ o) : WF o a ((b.set i x).set i y) := by
  rw [Store.set_set]; exact h.alloc hi ho
theorem WR.some {o : Nat} {l : List UInt8} {σ : Store} (h : WR σ o l) : ∃ x, σ.heap o = some x := by obtain ⟨a, b, old, h1, _⟩ := h; exact ⟨_, h1⟩
theorem WF.del {σ : Store} {o k : Nat} {a : AVal} {l : List AVal} {sz : Nat} (ho : σ.heap o = some (.cells [a, .own k sz l])) : WF o σ (σ.delTok k) := by
  refine ⟨fun i x _ hx => hx, fun t n ht hn => ⟨?_, hn⟩⟩
  have : t ≠ k := fun hh => hn ⟨_, _, _, by rw [hh]; exact ho⟩
  simp [Store.delTok, this, ht]
theorem strB_1 {o k : Nat} {s : ByteArray} {σ : Store} {a : AVal} (ho : σ.heap o = some (.cells [a, .own k 1 (bytesL s)])) (hk : σ.tok k = some (5, 1)) (hs : s.size ≤ 1099511627776) : ACalls Tryz.prog 38 [.ref o 0] σ fun v σ' => v = vStr s ∧ WF o σ σ' :=
  (string_1 ho hk hs).mono fun v σ' h => ⟨h.1, by rw [h.2]; exact WF.del ho⟩
theorem strB_c {o : Nat} {l : List UInt8} {σ : Store} (ho : WR σ o l) (hl : l.length ≤ 1000000000000) : ACalls Tryz.prog 38 [.ref o 0] σ fun v σ' => v = vStr (B l) ∧ WF o σ σ' := by
  obtain ⟨a, b, old, hw, ha, hb⟩ := ho
  rcases hb with ⟨k, rfl, hk, _⟩ | ⟨rfl, hl0, _⟩
  · exact strB_1 hw hk (by rw [B_size]; omega)
  · have : l = [] := by
      have := congrArg List.length hl0
      rw [bytesL_length, B_size] at this
      exact List.eq_nil_of_length_eq_zero this
    subst this
    exact (string_2 hw).mono fun v σ' h => ⟨h.1, by rw [← h.2]; exact WF.refl⟩
theorem fm_le {α : Type} {f : α → List UInt8} {c : Nat} : ∀ {l : List α}, (∀ x ∈ l, (f x).length ≤ c) → (l.flatMap f).length ≤ c * l.length
  | [], _ => by simp
  | x :: l, h => by
    have h1 := fm_le (l := l) fun y hy => h y (.tail _ hy)
    have h2 := h x (.head _)
    simp only [List.flatMap_cons, List.length_append, List.length_cons, Nat.mul_add, Nat.mul_one]; omega
def I64 (n : Int) : Prop := -9223372036854775808 ≤ n ∧ n ≤ 9223372036854775807
theorem lineB_le {w : List UInt8} {ns : List Int} (h : ∀ n ∈ ns, I64 n) : (lineB w ns).length ≤ w.length + 22 * ns.length + 1 := by
  have := numB_le h
  unfold lineB
  unfold numB at this
  simp only [List.length_append, List.length_singleton]; omega
theorem cStep_ke : ∀ (l : List Deed) {C : List Cnt}, (∀ d ∈ l, DeedI d) → (∀ c ∈ C, I64 c.kind ∧ I64 c.err) → ∀ c ∈ l.foldl cStep C, I64 c.kind ∧ I64 c.err
  | [], _, _, h => h
  | d :: l, C, hd, h => cStep_ke l (C := cStep C d) (fun d hd' => hd d (.tail _ hd')) fun c hc => by
    have hdd := hd d (.head _)
    have key : ∀ (k e : Int) (C : List Cnt), I64 k → I64 e → (∀ c ∈ C, I64 c.kind ∧ I64 c.err) → ∀ c ∈ cntAdd k e C, I64 c.kind ∧ I64 c.err := by
      intro k e C hk he
      induction C with
      | nil => intro _ c hc; obtain rfl : c = ⟨k, e, 1⟩ := by simpa [cntAdd] using hc
               exact ⟨hk, he⟩
      | cons x C ih =>
        intro hC c hc
        unfold cntAdd at hc
        split at hc
        · rcases List.mem_cons.1 hc with rfl | hc
          · exact hC _ (.head _)
          · exact ih (fun c hc => hC c (.tail _ hc)) c hc
        · split at hc
          · rcases List.mem_cons.1 hc with rfl | hc
            · exact ⟨hk, he⟩
            · exact hC c (.tail _ hc)
          · rcases List.mem_cons.1 hc with rfl | hc
            · exact ⟨hk, he⟩
            · exact hC c hc
    unfold cStep at hc
    split at hc
    · exact key _ _ _ ⟨hdd.k0, hdd.k1⟩ ⟨hdd.e0, hdd.e1⟩ h c hc
    · exact h c hc
theorem countsS_ke {l : List Deed} (hd : ∀ d ∈ l, DeedI d) : ∀ c ∈ countsS l, I64 c.kind ∧ I64 c.err := cStep_ke l hd fun c hc => by cases hc
theorem sumN_ge : ∀ {C : List Cnt}, (∀ c ∈ C, 1 ≤ c.n) → ∀ c ∈ C, c.n ≤ sumN C ∧ 0 ≤ sumN C
  | [], _, c, hc => by cases hc
  | x :: C, h, c, hc => by
    have hx := h x (.head _)
    have h0 : 0 ≤ sumN C := by
      cases C with
      | nil => exact Int.le_refl 0
      | cons y C => exact (sumN_ge (fun c hc => h c (.tail _ hc)) y (.head _)).2
    rcases List.mem_cons.1 hc with rfl | hc
    · simp only [sumN]; omega
    · have := sumN_ge (fun c hc => h c (.tail _ hc)) c hc
      simp only [sumN]; omega
theorem countsS_n (l : List Deed) : ∀ c ∈ countsS l, 1 ≤ c.n ∧ c.n ≤ l.length := fun c hc => by
  have h1 := countsS_pos l c hc
  have h2 := (sumN_ge (countsS_pos l) c hc).1
  rw [countsS_sum] at h2
  have := dn_le l
  omega
theorem cnt_i {l : List Deed} (hd : ∀ d ∈ l, DeedI d) (hl : l.length ≤ 1000000) {c : Cnt} (hc : c ∈ countsS l) : ∀ n ∈ [c.kind, c.err, c.n], I64 n := by
  obtain ⟨h1, h2⟩ := countsS_ke hd c hc
  have h3 := countsS_n l c hc
  intro n hn
  simp only [List.mem_cons, List.not_mem_nil, or_false] at hn
  rcases hn with rfl | rfl | rfl
  · exact h1
  · exact h2
  · unfold I64; omega
theorem atS_i (l : List Deed) : I64 (atS (tookI l) 50) ∧ I64 (atS (tookI l) 100) := by
  have h1 := atS_mono l
  have h2 : atS (tookI l) 100 ≤ 9007199254740992 := by
    by_cases hl : tookI l = []
    · rw [hl]; show (0 : Int) ≤ _; decide
    · have := tookI_nn (List.mem_of_getElem? (at_get (h := 100) hl))
      exact this.2
  unfold I64; omega
theorem of_i {l : List Deed} {s : ByteArray} (hl : l.length ≤ 1000000) : ∀ n ∈ [(ofS l s).calls, (ofS l s).done, (ofS l s).middle, (ofS l s).longest], I64 n := by
  have h1 := own_len l s
  have h2 := of_done_le l s
  have h3 := atS_i (own l s)
  have h4 : (ofS l s).calls = (own l s).length := rfl
  have h5 : (ofS l s).done = (tookI (own l s)).length := rfl
  intro n hn
  simp only [List.mem_cons, List.not_mem_nil, or_false] at hn
  rcases hn with rfl | rfl | rfl | rfl
  · unfold I64; omega
  · unfold I64; omega
  · exact h3.1
  · exact h3.2
theorem cntB_le {l : List Deed} (hd : ∀ d ∈ l, DeedI d) (hl : l.length ≤ 1000000) {c : Cnt} (hc : c ∈ countsS l) : (cntB c).length ≤ 72 := by
  have := lineB_le (w := [99, 111, 117, 110, 116]) (cnt_i hd hl hc)
  unfold cntB
  simp only [List.length_cons, List.length_nil] at this ⊢
  omega
theorem laneB_le {l : List Deed} {s : ByteArray} (hd : ∀ d ∈ l, DeedI d) (hl : l.length ≤ 1000) (hs : s.size ≤ 1000) : (laneB l s).length ≤ 80000 := by
  have h1 := lineB_le (w := [108, 97, 110, 101, 32] ++ Lb s) (of_i (s := s) (show l.length ≤ 1000000 by omega))
  have h2 := fm_le (f := cntB) (l := (ofS l s).counts) fun c hc => cntB_le (own_mem hd) (by have := own_len l s; omega) hc
  have h3 : (ofS l s).counts.length ≤ 1000 := by have := countsS_len (own l s); have := own_len l s; show (countsS (own l s)).length ≤ 1000; omega
  have h4 := Nat.mul_le_mul_left 72 h3
  have h5 := Lb_length s
  unfold laneB
  simp only [List.length_append, List.length_cons, List.length_nil] at h1 ⊢
  omega
theorem lane_add {s : ByteArray} (h : s.size ≤ 1000) : astr .add ⟨#[108, 97, 110, 101, 32]⟩ s = some (.string (B ([108, 97, 110, 101, 32] ++ Lb s))) := by
  rw [astr_add' ⟨#[108, 97, 110, 101, 32]⟩ s (by rw [show (ByteArray.mk #[108, 97, 110, 101, 32]).size = 5 from rfl]; omega), show (ByteArray.mk #[108, 97, 110, 101, 32]) = B [108, 97, 110, 101, 32] from rfl]
  conv => lhs; rw [← B_Lb s]
  rw [B_append]

theorem lines_c {L : List Deed} {t : Bool} {σ : Store} (hd : ∀ d ∈ L, DeedI d) (hl : L.length ≤ 1000) (hs : ∀ d ∈ L, d.lane.size ≤ 1000) : ACalls Tryz.prog 20 [.sl 20 (L.map sDeed) t] σ fun v σ' => v = vStr (B (linesS L)) ∧ σ = σ' := by
  have hll := lanesS_len L
  have hsl : ∀ s ∈ lanesS L, s.size ≤ 1000 := fun s h => by
    obtain ⟨d, hd', rfl⟩ := List.mem_map.1 (lanesS_mem.1 h)
    exact hs d hd'
  have hlB : ∀ s ∈ lanesS L, (laneB L s).length ≤ 80000 := fun s h => laneB_le hd hl (hsl s h)
  have hlB2 : ∀ k, (((lanesS L).take k).flatMap (laneB L)).length ≤ 80000000 := fun k => by
    have h1 := fm_le (f := laneB L) (l := (lanesS L).take k) fun s h => hlB s (List.mem_of_mem_take h)
    have h2 : ((lanesS L).take k).length ≤ 1000 := by rw [List.length_take]; omega
    have h3 := Nat.mul_le_mul_left 80000 h2
    omega
  refine ACalls_of Tryz.func20 rfl Tryz.ntmps20 (congrArg Array.toList Tryz.results20) (by simp only [List.length_cons, List.length_nil]; decide) ?_; simp only [envOf_cons, envOf_nil, Nat.reduceAdd]
  refine awp_seq ?_
  refine awp_region (by kernel_rfl) ?_
  (refine aL_S rfl rfl v_ ?_)
  refine aL_nil ?_
  refine awp_seq ?_
  refine awp_region (by kernel_rfl) ?_
  refine aL_X rfl rfl (AOp_allocP (t := 76) (z := .agg #[.pointer none, .slice none 0 0]) (r := [.slice none 0 0]) rfl (by kernel_rfl) (by rfl) fun o3 ho3 => ?_)
  refine aL_nil ?_
  have hw0 : WR (σ.set o3 (.cells [.nilp o3 76 2, .lit (.slice none 0 0)])) o3 [] := ⟨_, _, none, Store.set_get .., .inr rfl, .inr ⟨rfl, rfl, rfl⟩⟩
  refine awp_seq ?_
  refine awp_seq ?_
  refine awp_region (by kernel_rfl) ?_
  (refine aL_S rfl rfl v_ ?_)
  refine aL_X rfl rfl (AOp_use rfl rfl (.inr ⟨rfl, rfl, rfl⟩) g_ va_ (lanes_c (by omega)) ?_); rintro _ _ ⟨rfl, rfl⟩
  iterate 2 (refine aL_S rfl rfl v_ ?_)
  refine aL_nil ?_
  refine awp_block ?_
  refine awp_loop_env (ι := Store × Nat) (fun ⟨τ, k⟩ => (lanesS L).length - k) (fun ⟨τ, k⟩ => k ≤ (lanesS L).length ∧ WR τ o3 (((lanesS L).take k).flatMap (laneB L)) ∧ WF o3 (σ.set o3 (.cells [.nilp o3 76 2, .lit (.slice none 0 0)])) τ) (fun ⟨τ, k⟩ => [(0, .sl 20 (L.map sDeed) t), (3, .ref o3 0), (10, .sl 1 ((lanesS L).map vStr) false), (11, vInt (lanesS L).length), (12, vInt k)]) (fun ⟨τ, k⟩ => τ) (σ.set o3 (.cells [.nilp o3 76 2, .lit (.slice none 0 0)]), 0) ?_ ?_ ?_ ?_
  · exact ⟨Nat.zero_le _, hw0, WF.refl⟩
  · exact cv_
  · exact Store.Wk.refl _
  rintro ⟨τ, k⟩ ⟨hk, h1, h2⟩
  simp only [envL_cons, envL_nil]
  refine awp_seq ?_
  refine awp_region (by kernel_rfl) ?_
  (refine aL_S rfl rfl v_ ?_)
  refine aL_nil ?_
  refine awp_seq ?_
  refine awp_cond v_ (fun hc3 => ?_) (fun hc3 => ?_)
  · replace hc3 := nm_ hc3
    refine awp_skip ?_
    refine awp_seq ?_
    refine awp_block ?_
    refine awp_seq ?_
    obtain ⟨x, hx⟩ := get_some (l := lanesS L) (k := k) (by omega)
    have hxs := hsl x (List.mem_of_getElem? hx)
    have hadd := lane_add hxs
    have hlen := hlB2 k
    obtain ⟨xo, hxo⟩ := WR.some h1
    have R := hx
    refine awp_region (by kernel_rfl) ?_
    iterate 3 (refine aL_S rfl rfl v_ ?_)
    refine aL_nil ?_
    refine awp_seq ?_
    refine awp_region (by kernel_rfl) ?_
    iterate 2 (refine aL_S rfl rfl v_ ?_)
    refine aL_X rfl rfl (AOp_use rfl rfl (.inr ⟨rfl, rfl, rfl⟩) g_ va_ (of_c hd (by omega)) ?_); rintro _ _ ⟨rfl, rfl⟩
    refine aL_alloc rfl rfl rfl g_ gl_ fun o6 ho6 => ?_
    repeat (rw [none_set_iff] at ho6; obtain ⟨_, ho6⟩ := ho6)
    refine aL_store rfl rfl rfl v_ v_ h_ g_ rfl g_ c_ (by rfl) le_ v_ ?_
    refine aL_nil ?_
    have n6 := (ne_of_heap hxo ho6).symm
    have hwl := Lb_length x
    refine awp_seq ?_
    have R := hadd
    refine awp_region (by kernel_rfl) ?_
    iterate 10 (refine aL_S rfl rfl v_ ?_)
    refine aL_buildSlice rfl rfl rfl g_ g_ rfl rfl h_ c2_ (by decide) ?_
    refine aL_X rfl rfl (AOp_use rfl rfl (.inr ⟨rfl, rfl, rfl⟩) g_ va_ (line_c (ns := [(ofS L x).calls, (ofS L x).done, (ofS L x).middle, (ofS L x).longest]) (WR.alloc2 h1 n6) (by omega) (by rw [B_size]; simp; omega) (by simp) (of_i (by omega))) ?_); rintro _ τ1 ⟨rfl, a1, a2⟩
    refine aL_nil ?_
    refine awp_seq ?_
    have b6 := WF.keep a2 (i := o6) (x := .cells [vInt (ofS L x).calls, vInt (ofS L x).done, .sl 3 ((ofS L x).counts.map sCnt) false, vInt (ofS L x).middle, vInt (ofS L x).longest]) (Store.set_get ..) n6
    have hof := own_len L x
    have hcl : (ofS L x).counts.length ≤ 1000 := by have := countsS_len (own L x); show (countsS (own L x)).length ≤ 1000; omega
    have hci : ∀ c ∈ (ofS L x).counts, ∀ n ∈ [c.kind, c.err, c.n], I64 n := fun c hc => cnt_i (own_mem hd) (by omega) hc
    have hcb : ∀ j, (((ofS L x).counts.take j).flatMap cntB).length ≤ 72000 := fun j => by
      have h1 := fm_le (f := cntB) (l := (ofS L x).counts.take j) fun c hc => cntB_le (own_mem hd) (by omega) (List.mem_of_mem_take hc)
      have h2 : ((ofS L x).counts.take j).length ≤ 1000 := by rw [List.length_take]; omega
      have h3 := Nat.mul_le_mul_left 72 h2
      omega
    have hl1 := lineB_le (w := [108, 97, 110, 101, 32] ++ Lb x) (of_i (s := x) (show L.length ≤ 1000000 by omega))
    simp only [List.length_append, List.length_cons, List.length_nil] at hl1
    rw [Lb_B] at a1
    have wf1 : WF o3 (σ.set o3 (.cells [.nilp o3 76 2, .lit (.slice none 0 0)])) τ1 := (h2.alloc2 ho6 n6).trans a2
    generalize hC : (ofS L x).counts = C at *
    have R := b6
    refine awp_region (by kernel_rfl) ?_
    iterate 4 (refine aL_S rfl rfl v_ ?_)
    refine aL_nil ?_
    refine awp_block ?_
    refine awp_loop_env (ι := Store × Nat) (fun ⟨υ, j⟩ => C.length - j) (fun ⟨υ, j⟩ => j ≤ C.length ∧ WR υ o3 (((lanesS L).take k).flatMap (laneB L) ++ lineB ([108, 97, 110, 101, 32] ++ Lb x) [(ofS L x).calls, (ofS L x).done, (ofS L x).middle, (ofS L x).longest] ++ (C.take j).flatMap cntB) ∧ WF o3 (σ.set o3 (.cells [.nilp o3 76 2, .lit (.slice none 0 0)])) υ) (fun ⟨υ, j⟩ => [(0, .sl 20 (L.map sDeed) t), (3, .ref o3 0), (10, .sl 1 ((lanesS L).map vStr) false), (11, vInt (lanesS L).length), (12, vInt k), (32, .sl 3 (C.map sCnt) false), (33, vInt C.length), (34, vInt j)]) (fun ⟨υ, j⟩ => υ) (τ1, 0) ?_ ?_ ?_ ?_
    · exact ⟨Nat.zero_le _, by simpa using a1, wf1⟩
    · exact cv_
    · exact Store.Wk.refl _
    rintro ⟨υ, j⟩ ⟨hj, g1, g2⟩
    simp only [envL_cons, envL_nil]
    refine awp_seq ?_
    refine awp_region (by kernel_rfl) ?_
    (refine aL_S rfl rfl v_ ?_)
    refine aL_nil ?_
    refine awp_seq ?_
    refine awp_cond v_ (fun hc8 => ?_) (fun hc8 => ?_)
    · replace hc8 := nm_ hc8
      refine awp_skip ?_
      refine awp_seq ?_
      refine awp_block ?_
      refine awp_seq ?_
      obtain ⟨y, hy⟩ := get_some (l := C) (k := j) (by omega)
      have hyi := hci y (List.mem_of_getElem? hy)
      have hcj := hcb j
      obtain ⟨yo, hyo⟩ := WR.some g1
      have R := hy
      refine awp_region (by kernel_rfl) ?_
      iterate 2 (refine aL_S rfl rfl v_ ?_)
      refine aL_alloc rfl rfl rfl g_ gl_ fun o8 ho8 => ?_
      repeat (rw [none_set_iff] at ho8; obtain ⟨_, ho8⟩ := ho8)
      refine aL_store rfl rfl rfl v_ v_ h_ g_ rfl g_ c_ (by rfl) le_ v_ ?_
      refine aL_nil ?_
      have n8 := (ne_of_heap hyo ho8).symm
      refine awp_region (by kernel_rfl) ?_
      iterate 6 (refine aL_S rfl rfl v_ ?_)
      refine aL_buildSlice rfl rfl rfl g_ g_ rfl rfl h_ c2_ (by decide) ?_
      refine aL_X rfl rfl (AOp_use rfl rfl (.inr ⟨rfl, rfl, rfl⟩) g_ va_ (line_c (w := ⟨#[99, 111, 117, 110, 116]⟩) (ns := [y.kind, y.err, y.n]) (WR.alloc2 g1 n8) (by simp only [List.length_append, List.length_cons, List.length_nil] at *; omega) (by decide) (by simp) hyi) ?_); rintro _ υ' ⟨rfl, c1, c2⟩
      refine aL_nil ?_
      refine awp_region (by kernel_rfl) ?_
      iterate 2 (refine aL_S rfl rfl v_ ?_)
      refine aL_nil ?_
      refine aNext (ι := Store × Nat) (i := ⟨υ, j⟩) (υ', j + 1) ?_ ?_ ?_ ?_
      · show C.length - (j + 1) < C.length - j; omega
      · exact ⟨by show j + 1 ≤ C.length; omega, by rw [show Lb ⟨#[99, 111, 117, 110, 116]⟩ = [99, 111, 117, 110, 116] from rfl] at c1; rw [take_snoc hy, List.flatMap_append]; simpa [cntB, List.append_assoc] using c1, (g2.alloc2 ho8 n8).trans c2⟩
      · exact cv_
      · exact Store.Wk.refl _
    · replace hc8 := nm_ hc8
      refine awp_exit ?_
      refine aThen_exit ?_
      refine aThen_exit ?_
      refine aBlock_hit ?_
      obtain rfl : j = C.length := by omega
      rw [List.take_length] at g1
      have hfin := g1
      subst hC
      refine awp_region (by kernel_rfl) ?_
      iterate 2 (refine aL_S rfl rfl v_ ?_)
      refine aL_nil ?_
      refine aNext (ι := Store × Nat) (i := ⟨τ, k⟩) (υ, k + 1) ?_ ?_ ?_ ?_
      · show (lanesS L).length - (k + 1) < (lanesS L).length - k; omega
      · exact ⟨by show k + 1 ≤ (lanesS L).length; omega, by rw [take_snoc hx, List.flatMap_append]; simpa [laneB, List.append_assoc] using hfin, g2⟩
      · exact cv_
      · exact Store.Wk.refl _
  · replace hc3 := nm_ hc3
    refine awp_exit ?_
    refine aThen_exit ?_
    refine aThen_exit ?_
    refine aBlock_hit ?_
    refine awp_seq ?_
    obtain rfl : k = (lanesS L).length := by omega
    rw [List.take_length] at h1
    have hlen := hlB2 (lanesS L).length
    rw [List.take_length] at hlen
    refine awp_region (by kernel_rfl) ?_
    (refine aL_S rfl rfl v_ ?_)
    refine aL_X rfl rfl (AOp_use rfl rfl (.inr ⟨rfl, rfl, rfl⟩) g_ va_ (strB_c h1 (by omega)) ?_); rintro _ τ2 ⟨rfl, e2⟩
    (refine aL_S rfl rfl v_ ?_)
    refine aL_nil ?_
    refine awp_ret ?_
    have hF := WF.sub (x := .cells [.nilp o3 76 2, .lit (.slice none 0 0)]) ho3 (h2.trans e2) (fun a t sz l hh => by simp at hh)
    exact aEnd_ret (σ' := σ) va_ (Store.Sub.wk hF) ⟨rfl, rfl⟩
end Go.Proofs.YtbjloippgpilcaaGreatDoor
end

section
set_option linter.all false
set_option maxRecDepth 100000
namespace Go.Proofs.YtbjloippgpilcaaGreatDoor
open Go.Ab
abbrev eT : ByteArray := ⟨#[116]⟩
def dA : Deed := ⟨⟨#[]⟩, eT, 0, 1, 4, 0, 2, ⟨#[]⟩, ⟨#[]⟩, ⟨#[]⟩, ⟨#[]⟩, [], 0, true, 0, [], [], [], ⟨#[]⟩, 0⟩
def dB : Deed := ⟨⟨#[]⟩, eT, 0, 2, 0, 0, 0, ⟨#[]⟩, ⟨#[]⟩, ⟨#[]⟩, ⟨#[]⟩, [], 0, false, 0, [], [], [], ⟨#[]⟩, 0⟩
abbrev LA : List Deed := [dA, dB]
theorem hdA : ∀ d ∈ LA, DeedI d := fun d hd => by
  simp only [List.mem_cons, List.not_mem_nil, or_false] at hd
  rcases hd with rfl | rfl <;> exact ⟨by decide, by decide, by decide, by decide, by decide, by decide, by decide, by decide⟩
theorem hsA : ∀ d ∈ LA, d.lane.size ≤ 1000 := fun d hd => by
  simp only [List.mem_cons, List.not_mem_nil, or_false] at hd
  rcases hd with rfl | rfl <;> decide
theorem lanes_A : lanesS LA = [eT] := riseN_unique (lanesS_rise _) (List.pairwise_singleton _ _) fun x => by rw [lanesS_mem]; simp [dA, dB]
theorem own_A : own LA eT = LA := by simp [own, dA, dB]
theorem tookL_A : tookL LA = [3] := by decide
theorem took_A : tookI LA = [3] := by rw [tookI, tookL_A]; simp [sortII]
theorem counts_A : countsS LA = [⟨2, 0, 1⟩] := by simp [countsS, cStep, cntAdd, dA, dB]
theorem of_A : ofS LA eT = ⟨2, 1, [⟨2, 0, 1⟩], 3, 3⟩ := by
  rw [ofS, own_A, took_A, counts_A]
  rfl
theorem digit {u : Nat} (h : u < 10) : Lib.itoa (u : Int) = [UInt8.ofNat (48 + u)] := by
  unfold Lib.itoa
  rw [if_neg (by omega), Int.toNat_natCast, Lib.decDigits, dif_pos h]
theorem lines_A : B (linesS LA) = ⟨#[108, 97, 110, 101, 32, 116, 32, 50, 32, 49, 32, 51, 32, 51, 10, 99, 111, 117, 110, 116, 32, 50, 32, 48, 32, 49, 10]⟩ := by
  have h0 := digit (u := 0) (by decide)
  have h1 := digit (u := 1) (by decide)
  have h2 := digit (u := 2) (by decide)
  have h3 := digit (u := 3) (by decide)
  have e : linesS LA = [108, 97, 110, 101, 32, 116, 32, 50, 32, 49, 32, 51, 32, 51, 10, 99, 111, 117, 110, 116, 32, 50, 32, 48, 32, 49, 10] := by
    unfold linesS
    rw [lanes_A]
    simp only [List.flatMap_cons, List.flatMap_nil, List.append_nil, laneB, of_A, lineB, cntB]
    have h0' : Lib.itoa 0 = [48] := h0
    have h1' : Lib.itoa 1 = [49] := h1
    have h2' : Lib.itoa 2 = [50] := h2
    have h3' : Lib.itoa 3 = [51] := h3
    rw [h0', h1', h2', h3']
    rfl
  rw [e]; rfl
theorem lA_wk {t : Bool} : Wk (.sl 20 [.agg [.lit (.string ⟨#[]⟩), .lit (.string ⟨#[116]⟩), .lit (.int .i64 0), .lit (.int .i64 1), .lit (.int .i64 4), .lit (.int .i64 0), .lit (.int .i64 2), .lit (.string ⟨#[]⟩), .lit (.string ⟨#[]⟩), .lit (.string ⟨#[]⟩), .lit (.string ⟨#[]⟩), .lit (.slice none 0 0), .lit (.int .i64 0), .lit (.bool true), .lit (.int .i64 0), .lit (.slice none 0 0), .lit (.slice none 0 0), .lit (.slice none 0 0), .lit (.string ⟨#[]⟩), .lit (.int .i64 0)], .agg [.lit (.string ⟨#[]⟩), .lit (.string ⟨#[116]⟩), .lit (.int .i64 0), .lit (.int .i64 2), .lit (.int .i64 0), .lit (.int .i64 0), .lit (.int .i64 0), .lit (.string ⟨#[]⟩), .lit (.string ⟨#[]⟩), .lit (.string ⟨#[]⟩), .lit (.string ⟨#[]⟩), .lit (.slice none 0 0), .lit (.int .i64 0), .lit (.bool false), .lit (.int .i64 0), .lit (.slice none 0 0), .lit (.slice none 0 0), .lit (.slice none 0 0), .lit (.string ⟨#[]⟩), .lit (.int .i64 0)]] t) (.sl 20 (LA.map sDeed) false) := .sl 20 _ _ _ rfl (szDeed LA) fun i hi hi' => by
  match i, hi with
  | 0, _ => exact .agg _ _ rfl (fun j hj hj' => by match j, hj with | 0, _ => exact .refl _ | 1, _ => exact .refl _ | 2, _ => exact .refl _ | 3, _ => exact .refl _ | 4, _ => exact .refl _ | 5, _ => exact .refl _ | 6, _ => exact .refl _ | 7, _ => exact .refl _ | 8, _ => exact .refl _ | 9, _ => exact .refl _ | 10, _ => exact .refl _ | 11, _ => exact .nil _ _ | 12, _ => exact .refl _ | 13, _ => exact .refl _ | 14, _ => exact .refl _ | 15, _ => exact .nil _ _ | 16, _ => exact .nil _ _ | 17, _ => exact .nil _ _ | 18, _ => exact .refl _ | 19, _ => exact .refl _ | n + 20, hh => exact absurd hh (by show ¬ n + 20 < 20; omega))
  | 1, _ => exact .agg _ _ rfl (fun j hj hj' => by match j, hj with | 0, _ => exact .refl _ | 1, _ => exact .refl _ | 2, _ => exact .refl _ | 3, _ => exact .refl _ | 4, _ => exact .refl _ | 5, _ => exact .refl _ | 6, _ => exact .refl _ | 7, _ => exact .refl _ | 8, _ => exact .refl _ | 9, _ => exact .refl _ | 10, _ => exact .refl _ | 11, _ => exact .nil _ _ | 12, _ => exact .refl _ | 13, _ => exact .refl _ | 14, _ => exact .refl _ | 15, _ => exact .nil _ _ | 16, _ => exact .nil _ _ | 17, _ => exact .nil _ _ | 18, _ => exact .refl _ | 19, _ => exact .refl _ | n + 20, hh => exact absurd hh (by show ¬ n + 20 < 20; omega))
abbrev rL : AVal := .sl 20 [.agg [.lit (.string ⟨#[]⟩), .lit (.string ⟨#[116]⟩), .lit (.int .i64 0), .lit (.int .i64 1), .lit (.int .i64 4), .lit (.int .i64 0), .lit (.int .i64 2), .lit (.string ⟨#[]⟩), .lit (.string ⟨#[]⟩), .lit (.string ⟨#[]⟩), .lit (.string ⟨#[]⟩), .lit (.slice none 0 0), .lit (.int .i64 0), .lit (.bool true), .lit (.int .i64 0), .lit (.slice none 0 0), .lit (.slice none 0 0), .lit (.slice none 0 0), .lit (.string ⟨#[]⟩), .lit (.int .i64 0)], .agg [.lit (.string ⟨#[]⟩), .lit (.string ⟨#[116]⟩), .lit (.int .i64 0), .lit (.int .i64 2), .lit (.int .i64 0), .lit (.int .i64 0), .lit (.int .i64 0), .lit (.string ⟨#[]⟩), .lit (.string ⟨#[]⟩), .lit (.string ⟨#[]⟩), .lit (.string ⟨#[]⟩), .lit (.slice none 0 0), .lit (.int .i64 0), .lit (.bool false), .lit (.int .i64 0), .lit (.slice none 0 0), .lit (.slice none 0 0), .lit (.slice none 0 0), .lit (.string ⟨#[]⟩), .lit (.int .i64 0)]] true
theorem awake55_c {σ : Store} : ACalls Tryz.prog 5 [] σ fun v σ' => v = vB true ∧ σ = σ' := by
  have l1 : atS [1, 2, 9] 50 = 2 := rfl
  refine ACalls_of Tryz.func5 rfl Tryz.ntmps5 (congrArg Array.toList Tryz.results5) (by simp only [List.length_cons, List.length_nil]; decide) ?_; simp only [envOf_cons, envOf_nil, Nat.reduceAdd]
  refine awp_seq ?_
  refine awp_region (by kernel_rfl) ?_
  (refine aL_S rfl rfl v_ ?_)
  refine aL_nil ?_
  refine awp_seq ?_
  refine awp_region (by kernel_rfl) ?_
  iterate 3 (refine aL_S rfl rfl v_ ?_)
  refine aL_buildSlice rfl rfl rfl g_ g_ rfl rfl h_ c2_ (by decide) ?_
  (refine aL_S rfl rfl v_ ?_)
  refine aL_nil ?_
  refine awp_seq ?_
  refine awp_region (by kernel_rfl) ?_
  (refine aL_S rfl rfl v_ ?_)
  refine aL_X rfl rfl (AOp_use rfl rfl (.inr ⟨rfl, rfl, rfl⟩) g_ va_ (ACalls.wkA (args := [rL]) (lines_c (L := LA) (t := false) hdA (by decide) hsA) rfl (fun j hj hj' => by match j, hj with | 0, _ => exact lA_wk)) ?_); rintro _ _ ⟨rfl, rfl⟩
  rw [lines_A]
  iterate 2 (refine aL_S rfl rfl v_ ?_)
  refine aL_SY (wantedA_yes rfl rfl v_ (by rfl)) rfl v_ ?_
  refine aL_XY (wantedA_yes rfl rfl v_ (by rfl)) rfl (AOp_use rfl rfl (.inr ⟨rfl, rfl, rfl⟩) g_ va_ (ACalls.wkA (args := [rL]) (tookA_c (L := LA) (t := false) hdA (by decide)) rfl (fun j hj hj' => by match j, hj with | 0, _ => exact lA_wk)) ?_); rintro _ _ ⟨rfl, rfl⟩
  rw [took_A]
  refine aL_XY (wantedA_yes rfl rfl v_ (by rfl)) rfl (AOp_buildSlice' rfl g_ g_ rfl rfl h_ c2_ (by decide) ?_)
  refine aL_XY (wantedA_yes rfl rfl v_ (by rfl)) rfl (AOp_use rfl rfl (.inr ⟨rfl, rfl, rfl⟩) g_ va_ (sameInts_c (a := [3]) (by decide)) ?_); rintro _ _ ⟨rfl, rfl⟩
  iterate 2 (refine aL_S rfl rfl v_ ?_)
  refine aL_XY (wantedA_yes rfl rfl v_ (by rfl)) rfl (AOp_buildSlice' rfl g_ g_ rfl rfl h_ c2_ (by decide) ?_)
  refine aL_XY (wantedA_yes rfl rfl v_ (by rfl)) rfl (AOp_use rfl rfl (.inr ⟨rfl, rfl, rfl⟩) g_ va_ (at_c (l := [1, 2, 9]) (by decide)) ?_); rintro _ _ ⟨rfl, rfl⟩
  rw [l1]
  refine aL_SY (wantedA_yes rfl rfl v_ (by rfl)) rfl v_ ?_
  iterate 2 (refine aL_S rfl rfl v_ ?_)
  refine aL_SY (wantedA_yes rfl rfl v_ (by rfl)) rfl v_ ?_
  refine aL_XY (wantedA_yes rfl rfl v_ (by rfl)) rfl (AOp_use rfl rfl (.inr ⟨rfl, rfl, rfl⟩) g_ va_ (ACalls.wkA (args := [rL]) (counts_c (L := LA) (t := false) hdA (by decide)) rfl (fun j hj hj' => by match j, hj with | 0, _ => exact lA_wk)) ?_); rintro _ _ ⟨rfl, rfl⟩
  rw [counts_A]
  refine aL_SY (wantedA_yes rfl rfl v_ (by rfl)) rfl v_ ?_
  refine aL_SY (wantedA_yes rfl rfl v_ (by rfl)) rfl v_ ?_
  iterate 2 (refine aL_S rfl rfl v_ ?_)
  refine aL_SY (wantedA_yes rfl rfl v_ (by rfl)) rfl v_ ?_
  refine aL_XY (wantedA_yes rfl rfl v_ (by rfl)) rfl (AOp_use rfl rfl (.inr ⟨rfl, rfl, rfl⟩) g_ va_ (ACalls.wkA (args := [rL]) (lanes_c (L := LA) (t := false) (by decide)) rfl (fun j hj hj' => by match j, hj with | 0, _ => exact lA_wk)) ?_); rintro _ _ ⟨rfl, rfl⟩
  rw [lanes_A]
  refine aL_XY (wantedA_yes rfl rfl v_ (by rfl)) rfl (AOp_buildSlice' rfl g_ g_ rfl rfl h_ c2_ (by decide) ?_)
  refine aL_XY (wantedA_yes rfl rfl v_ (by rfl)) rfl (AOp_use rfl rfl (.inr ⟨rfl, rfl, rfl⟩) g_ va_ (sameTexts_c (a := [eT]) (by decide)) ?_); rintro _ _ ⟨rfl, rfl⟩
  iterate 2 (refine aL_S rfl rfl v_ ?_)
  refine aL_nil ?_
  refine awp_ret ?_
  refine aEnd_ret (σ' := σ) v_ sub_ ?_
  exact ⟨rfl, rfl⟩
end Go.Proofs.YtbjloippgpilcaaGreatDoor
end
