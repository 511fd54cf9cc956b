/-
  All counts together are the calls that were answered; a lane's sum is its own. Own work (an AI agent).
-/
import Derived.Test.YtbjloippgpilcaaDoorGJ

section
set_option linter.all false
set_option maxRecDepth 100000
namespace Go.Proofs.YtbjloippgpilcaaDoor
open Go.Ab
theorem sumN_app : ∀ (A B : List Cnt), sumN (A ++ B) = sumN A + sumN B
  | [], B => by simp [sumN]
  | c :: A, B => by
    have := sumN_app A B
    simp only [List.cons_append, sumN]; omega
theorem sumN_nn {C : List Cnt} (h : ∀ c ∈ C, 1 ≤ c.n) : 0 ≤ sumN C := by
  cases C with
  | nil => exact Int.le_refl 0
  | cons c C => exact (sumN_ge h c (.head _)).2
theorem sumN_take {C : List Cnt} (h : ∀ c ∈ C, 1 ≤ c.n) (k : Nat) : 0 ≤ sumN (C.take k) ∧ sumN (C.take k) ≤ sumN C := by
  have h1 := sumN_nn fun c hc => h c (List.mem_of_mem_take (i := k) hc)
  have h2 := sumN_nn fun c hc => h c (List.mem_of_mem_drop (i := k) hc)
  have h3 := sumN_app (C.take k) (C.drop k)
  rw [List.take_append_drop] at h3
  omega
theorem sumL_nn {f : ByteArray → Int} (h : ∀ s, 0 ≤ f s) : ∀ (l : List ByteArray), 0 ≤ sumL f l
  | [] => Int.le_refl 0
  | s :: l => by
    have h1 := h s
    have h2 := sumL_nn h l
    simp only [sumL]; omega
theorem sumL_take {f : ByteArray → Int} (h : ∀ s, 0 ≤ f s) (l : List ByteArray) (k : Nat) : 0 ≤ sumL f (l.take k) ∧ sumL f (l.take k) ≤ sumL f l := by
  have h1 := sumL_nn h (l.take k)
  have h2 := sumL_nn h (l.drop k)
  have h3 := sumL_append f (l.take k) (l.drop k)
  rw [List.take_append_drop] at h3
  omega
theorem calls_nn (L : List Deed) (s : ByteArray) : 0 ≤ (ofS L s).calls := by show (0 : Int) ≤ ((own L s).length : Int); omega
theorem done_nn (L : List Deed) (s : ByteArray) : 0 ≤ (ofS L s).done := by show (0 : Int) ≤ ((tookI (own L s)).length : Int); omega
theorem tallyAll_c {L : List Deed} {t : Bool} {σ : Store} (hd : ∀ d ∈ L, DeedI d) : ACalls Tryd.prog 3 [.sl 20 (L.map sDeed) t] σ fun v σ' => v = vB true ∧ σ = σ' := by
  refine ACalls_of Tryd.func3 rfl Tryd.ntmps3 (congrArg Array.toList Tryd.results3) (by simp only [List.length_cons, List.length_nil]; decide) ?_; simp only [envOf_cons, envOf_nil, Nat.reduceAdd]
  refine awp_seq ?_
  refine awp_region (by kernel_rfl) ?_
  (refine aL_S rfl rfl v_ ?_)
  refine aL_nil ?_
  refine awp_seq ?_
  refine awp_seq ?_
  refine awp_region (by kernel_rfl) ?_
  (refine aL_S rfl rfl v_ ?_)
  refine aL_X rfl rfl (AOp_use rfl rfl (.inr ⟨rfl, rfl, rfl⟩) g_ va_ (few44_c) ?_); rintro _ _ ⟨⟨r, rfl, hr⟩, rfl⟩
  (refine aL_S rfl rfl v_ ?_)
  refine aL_nil ?_
  refine awp_cond v_ (fun hc1 => ?_) (fun hc1 => ?_)
  · replace hc1 := nm_ hc1
    refine awp_seq ?_
    refine awp_region (by kernel_rfl) ?_
    refine aL_X rfl rfl (AOp_use rfl rfl (.inr ⟨rfl, rfl, rfl⟩) g_ va_ (awake55_c) ?_); rintro _ _ ⟨rfl, rfl⟩
    (refine aL_S rfl rfl v_ ?_)
    refine aL_nil ?_
    refine awp_ret ?_
    refine aEnd_ret (σ' := σ) v_ sub_ ?_
    exact ⟨rfl, rfl⟩
  · replace hc1 := nm_ hc1
    obtain ⟨hl, hs⟩ := hr (by simpa using hc1)
    have hll := lanesS_len L
    have hac := all_calls L
    have had := all_done L
    have hdl := dn_le L
    refine awp_skip ?_
    refine awp_seq ?_
    refine awp_region (by kernel_rfl) ?_
    iterate 2 (refine aL_S rfl rfl v_ ?_)
    refine aL_nil ?_
    refine awp_seq ?_
    refine awp_region (by kernel_rfl) ?_
    (refine aL_S rfl rfl v_ ?_)
    refine aL_X rfl rfl (AOp_use rfl rfl (.inr ⟨rfl, rfl, rfl⟩) g_ va_ (lanes_c (by omega)) ?_); rintro _ _ ⟨rfl, rfl⟩
    (refine aL_S rfl rfl v_ ?_)
    refine aL_nil ?_
    refine awp_seq ?_
    refine awp_seq ?_
    refine awp_region (by kernel_rfl) ?_
    (refine aL_S rfl rfl v_ ?_)
    refine aL_nil ?_
    refine awp_block ?_
    refine awp_loop_env (ι := Nat) (fun i => (lanesS L).length - i) (fun i => i ≤ (lanesS L).length) (fun i => [(0, .sl 20 (L.map sDeed) t), (3, vInt (sumL (fun s => (ofS L s).calls) ((lanesS L).take i))), (4, vInt (sumL (fun s => (ofS L s).done) ((lanesS L).take i))), (5, .sl 1 ((lanesS L).map vStr) false), (6, vInt i)]) (fun i => σ) 0 ?_ ?_ ?_ ?_
    · exact Nat.zero_le _
    · exact cv_
    · exact sub_
    rintro i hi
    simp only [envL_cons, envL_nil]
    refine awp_seq ?_
    refine awp_seq ?_
    refine awp_region (by kernel_rfl) ?_
    iterate 4 (refine aL_S rfl rfl v_ ?_)
    refine aL_nil ?_
    refine awp_cond v_ (fun hc6 => ?_) (fun hc6 => ?_)
    · replace hc6 := nm_ hc6
      refine awp_skip ?_
      refine awp_seq ?_
      refine awp_block ?_
      refine awp_seq ?_
      obtain ⟨x, hx⟩ := get_some (l := lanesS L) (k := i) (by omega)
      have hcv1 : sumL (fun s => (ofS L s).calls) ((lanesS L).take (i + 1)) = sumL (fun s => (ofS L s).calls) ((lanesS L).take i) + (ofS L x).calls := by rw [take_snoc hx, sumL_append]; simp [sumL]
      have hcv2 : sumL (fun s => (ofS L s).done) ((lanesS L).take (i + 1)) = sumL (fun s => (ofS L s).done) ((lanesS L).take i) + (ofS L x).done := by rw [take_snoc hx, sumL_append]; simp [sumL]
      have hb1 := sumL_take (calls_nn L) (lanesS L) i
      have hb2 := sumL_take (calls_nn L) (lanesS L) (i + 1)
      have hb3 := sumL_take (done_nn L) (lanesS L) i
      have hb4 := sumL_take (done_nn L) (lanesS L) (i + 1)
      have hcp : ∀ c ∈ (ofS L x).counts, 1 ≤ c.n := countsS_pos (own L x)
      have hcs : sumN (ofS L x).counts = (ofS L x).done := by
        show sumN (countsS (own L x)) = ((tookI (own L x)).length : Int)
        rw [countsS_sum, tookI_len]
      have hcl : (ofS L x).counts.length ≤ 1000000 := by have := countsS_len (own L x); have := own_len L x; show (countsS (own L x)).length ≤ 1000000; omega
      have hdc := of_done_le L x
      have hml := atS_mono (own L x)
      have hmd : (ofS L x).middle = atS (tookI (own L x)) 50 := rfl
      have hlg : (ofS L x).longest = atS (tookI (own L x)) 100 := rfl
      rw [← hmd, ← hlg] at hml
      have hdn := done_nn L x
      generalize hS : ofS L x = S at *
      obtain ⟨ca, dn', C, md, lg⟩ := S
      simp only at hcv1 hcv2 hb1 hb2 hb3 hb4 hcp hcs hcl hdc hml hdn
      have R := hx
      refine awp_region (by kernel_rfl) ?_
      iterate 5 (refine aL_S rfl rfl v_ ?_)
      refine aL_X rfl rfl (AOp_use rfl rfl (.inr ⟨rfl, rfl, rfl⟩) g_ va_ (of_c hd (by omega)) ?_); rintro _ _ ⟨rfl, rfl⟩
      rw [hS]
      refine aL_alloc rfl rfl rfl g_ gl_ fun o7 ho7 => ?_
      repeat (rw [none_set_iff] at ho7; obtain ⟨_, ho7⟩ := ho7)
      refine aL_store rfl rfl rfl v_ v_ h_ g_ rfl g_ c_ (by rfl) le_ v_ ?_
      refine aL_nil ?_
      refine awp_seq ?_
      refine awp_region (by kernel_rfl) ?_
      (refine aL_S rfl rfl v_ ?_)
      refine aL_nil ?_
      refine awp_seq ?_
      refine awp_seq ?_
      refine awp_region (by kernel_rfl) ?_
      (refine aL_S rfl rfl v_ ?_)
      refine aL_nil ?_
      refine awp_block ?_
      refine awp_loop_env (ι := Nat) (fun k => C.length - k) (fun k => k ≤ C.length) (fun k => [(0, .sl 20 (L.map sDeed) t), (3, vInt (sumL (fun s => (ofS L s).calls) ((lanesS L).take i))), (4, vInt (sumL (fun s => (ofS L s).done) ((lanesS L).take i))), (5, .sl 1 ((lanesS L).map vStr) false), (6, vInt i), (7, .ref o7 0), (8, vInt (sumN (C.take k))), (9, vInt k)]) (fun k => (σ.set o7 (.cells [vInt ca, vInt dn', .sl 3 (C.map sCnt) false, vInt md, vInt lg]))) 0 ?_ ?_ ?_ ?_
      · exact Nat.zero_le _
      · exact cv_
      · rw [Store.set_set]; exact Store.Wk.refl _
      rintro k hk
      simp only [envL_cons, envL_nil]
      refine awp_seq ?_
      refine awp_seq ?_
      refine awp_region (by kernel_rfl) ?_
      iterate 5 (refine aL_S rfl rfl v_ ?_)
      refine aL_nil ?_
      refine awp_cond v_ (fun hc11 => ?_) (fun hc11 => ?_)
      · replace hc11 := nm_ hc11
        refine awp_skip ?_
        refine awp_seq ?_
        refine awp_block ?_
        refine awp_seq ?_
        refine awp_seq ?_
        obtain ⟨y, hy⟩ := get_some (l := C) (k := k) (by omega)
        have hyp := hcp y (List.mem_of_getElem? hy)
        have hcov : sumN (C.take (k + 1)) = sumN (C.take k) + y.n := by rw [take_snoc hy, sumN_app]; simp [sumN]
        have hn1 := sumN_take hcp k
        have hn2 := sumN_take hcp (k + 1)
        have R := hy
        refine awp_region (by kernel_rfl) ?_
        iterate 7 (refine aL_S rfl rfl v_ ?_)
        refine aL_nil ?_
        refine awp_cond v_ (fun hc13 => ?_) (fun hc13 => ?_)
        · replace hc13 := nm_ hc13
          omega
        · replace hc13 := nm_ hc13
          refine awp_skip ?_
          have R := hy
          refine awp_region (by kernel_rfl) ?_
          iterate 9 (refine aL_S rfl rfl v_ ?_)
          refine aL_nil ?_
          refine awp_region (by kernel_rfl) ?_
          iterate 3 (refine aL_S rfl rfl v_ ?_)
          refine aL_nil ?_
          refine aNext (ι := Nat) (i := k) (k + 1) ?_ ?_ ?_ ?_
          · omega
          · exact (by omega)
          · have R := hcov; exact cv_
          · exact sub_
      · replace hc11 := nm_ hc11
        refine awp_exit ?_
        refine aThen_exit ?_
        refine aThen_exit ?_
        refine aBlock_hit ?_
        refine awp_seq ?_
        refine awp_seq ?_
        obtain rfl : k = C.length := by omega
        rw [List.take_length]
        refine awp_region (by kernel_rfl) ?_
        iterate 5 (refine aL_S rfl rfl v_ ?_)
        refine aL_GF rfl rfl v_ rfl vg_ ?_
        refine aL_GF rfl rfl v_ rfl vg_ ?_
        refine aL_GF rfl rfl v_ rfl vg_ ?_
        refine aL_GF rfl rfl v_ rfl vg_ ?_
        refine aL_GF rfl rfl v_ rfl vg_ ?_
        iterate 2 (refine aL_S rfl rfl v_ ?_)
        refine aL_GF rfl rfl v_ rfl vg_ ?_
        refine aL_GF rfl rfl v_ rfl vg_ ?_
        refine aL_GF rfl rfl v_ rfl vg_ ?_
        refine aL_GF rfl rfl v_ rfl vg_ ?_
        refine aL_GF rfl rfl v_ rfl vg_ ?_
        iterate 2 (refine aL_S rfl rfl v_ ?_)
        refine aL_GF rfl rfl v_ rfl vg_ ?_
        refine aL_GF rfl rfl v_ rfl vg_ ?_
        refine aL_GF rfl rfl v_ rfl vg_ ?_
        (refine aL_S rfl rfl v_ ?_)
        refine aL_nil ?_
        refine awp_cond v_ (fun hc16 => ?_) (fun hc16 => ?_)
        · replace hc16 := nm_ hc16
          omega
        · replace hc16 := nm_ hc16
          refine awp_skip ?_
          refine awp_seq ?_
          refine awp_region (by kernel_rfl) ?_
          iterate 5 (refine aL_S rfl rfl v_ ?_)
          refine aL_nil ?_
          refine awp_region (by kernel_rfl) ?_
          iterate 5 (refine aL_S rfl rfl v_ ?_)
          refine aL_nil ?_
          refine awp_region (by kernel_rfl) ?_
          iterate 3 (refine aL_S rfl rfl v_ ?_)
          refine aL_nil ?_
          refine aNext (ι := Nat) (i := i) (i + 1) ?_ ?_ ?_ ?_
          · omega
          · exact (by omega)
          · have R := And.intro hcv1 hcv2; exact cv_
          · exact sub_
    · replace hc6 := nm_ hc6
      refine awp_exit ?_
      refine aThen_exit ?_
      refine aThen_exit ?_
      refine aBlock_hit ?_
      refine awp_seq ?_
      obtain rfl : i = (lanesS L).length := by omega
      rw [List.take_length, hac, had]
      have hsub : (L.length : Int) - ((L.length : Int) - (dn L).length) = (dn L).length := by omega
      have R := hsub
      refine awp_region (by kernel_rfl) ?_
      iterate 5 (refine aL_S rfl rfl v_ ?_)
      refine aL_SY (wantedA_yes rfl rfl v_ (by rfl)) rfl v_ ?_
      refine aL_SY (wantedA_yes rfl rfl v_ (by rfl)) rfl v_ ?_
      refine aL_SY (wantedA_yes rfl rfl v_ (by rfl)) rfl v_ ?_
      refine aL_SY (wantedA_yes rfl rfl v_ (by rfl)) rfl v_ ?_
      refine aL_XY (wantedA_yes rfl rfl v_ (by rfl)) rfl (AOp_use rfl rfl (.inr ⟨rfl, rfl, rfl⟩) g_ va_ (unans_c (by omega)) ?_); rintro _ _ ⟨rfl, rfl⟩
      refine aL_SY (wantedA_yes rfl rfl v_ (by rfl)) rfl v_ ?_
      refine aL_SY (wantedA_yes rfl rfl v_ (by rfl)) rfl v_ ?_
      iterate 2 (refine aL_S rfl rfl v_ ?_)
      refine aL_XY (wantedA_yes rfl rfl v_ (by rfl)) rfl (AOp_use rfl rfl (.inr ⟨rfl, rfl, rfl⟩) g_ va_ (awake55_c) ?_); rintro _ _ ⟨rfl, rfl⟩
      iterate 2 (refine aL_S rfl rfl v_ ?_)
      refine aL_nil ?_
      refine awp_ret ?_
      refine aEnd_ret (σ' := σ) v_ sub_ ?_
      exact ⟨rfl, rfl⟩
end Go.Proofs.YtbjloippgpilcaaDoor
end
