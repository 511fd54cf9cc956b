/-
  A lane's sum is what it is without the deeds of others. Own work (an AI agent).
-/
import Derived.Test.YtbjloippgpilcaaDoorGJ

section
set_option linter.all false
set_option maxRecDepth 100000
namespace Go.Proofs.YtbjloippgpilcaaDoor
open Go.Ab
theorem ofS_own (L : List Deed) (s : ByteArray) : ofS (own L s) s = ofS L s := by simp [ofS, own_own]
theorem tallyApart_c {L : List Deed} {s : ByteArray} {t : Bool} {σ : Store} (hd : ∀ d ∈ L, DeedI d) : ACalls Tryd.prog 4 [.sl 20 (L.map sDeed) t, vStr s] σ fun v σ' => v = vB true ∧ σ = σ' := by
  refine ACalls_of Tryd.func4 rfl Tryd.ntmps4 (congrArg Array.toList Tryd.results4) (by simp only [List.length_cons, List.length_nil]; decide) ?_; simp only [envOf_cons, envOf_nil, Nat.reduceAdd]
  refine awp_seq ?_
  refine awp_region (by kernel_rfl) ?_
  (refine aL_S rfl rfl v_ ?_)
  refine aL_nil ?_
  refine awp_seq ?_
  refine awp_seq ?_
  refine awp_region (by kernel_rfl) ?_
  (refine aL_S rfl rfl v_ ?_)
  refine aL_X rfl rfl (AOp_use rfl rfl (.inr ⟨rfl, rfl, rfl⟩) g_ va_ (few44_c) ?_); rintro _ _ ⟨⟨r, rfl, hr⟩, rfl⟩
  iterate 2 (refine aL_S rfl rfl v_ ?_)
  refine aL_GF rfl rfl v_ rfl vg_ ?_
  refine aL_GF rfl rfl v_ rfl vg_ ?_
  refine aL_GF rfl rfl v_ rfl vg_ ?_
  (refine aL_S rfl rfl v_ ?_)
  refine aL_nil ?_
  refine awp_cond v_ (fun hc1 => ?_) (fun hc1 => ?_)
  · replace hc1 := nm_ hc1
    refine awp_seq ?_
    refine awp_region (by kernel_rfl) ?_
    refine aL_X rfl rfl (AOp_use rfl rfl (.inr ⟨rfl, rfl, rfl⟩) g_ va_ (awake55_c) ?_); rintro _ _ ⟨rfl, rfl⟩
    (refine aL_S rfl rfl v_ ?_)
    refine aL_nil ?_
    refine awp_ret ?_
    refine aEnd_ret (σ' := σ) v_ sub_ ?_
    exact ⟨rfl, rfl⟩
  · replace hc1 := nm_ hc1
    have hr1 : r = true := hc1.1
    obtain ⟨hl, hs⟩ := hr hr1
    have hol := own_len L s
    have hdo := own_mem (s := s) hd
    refine awp_skip ?_
    refine awp_seq ?_
    refine awp_region (by kernel_rfl) ?_
    refine aL_nilOwn 45 20 rfl rfl rfl (by rfl) fun k5 hk5 => ?_
    refine aL_nil ?_
    refine awp_seq ?_
    refine awp_seq ?_
    refine awp_region (by kernel_rfl) ?_
    (refine aL_S rfl rfl v_ ?_)
    refine aL_nil ?_
    refine awp_block ?_
    refine awp_loop_env (ι := Nat × Nat) (fun ⟨k, i⟩ => L.length - i) (fun ⟨k, i⟩ => i ≤ L.length ∧ σ.tok k = none) (fun ⟨k, i⟩ => [(0, .sl 20 (L.map sDeed) t), (1, vStr s), (5, .own k 20 ((own (L.take i) s).map sDeed)), (6, vInt i)]) (fun ⟨k, i⟩ => (σ.newTok none k (45, 20))) (k5, 0) ?_ ?_ ?_ ?_
    · exact ⟨Nat.zero_le _, hk5⟩
    · exact cv_
    · exact Store.Wk.refl _
    rintro ⟨k, i⟩ ⟨hi, hk⟩
    simp only [envL_cons, envL_nil]
    refine awp_seq ?_
    refine awp_seq ?_
    refine awp_region (by kernel_rfl) ?_
    iterate 4 (refine aL_S rfl rfl v_ ?_)
    refine aL_nil ?_
    refine awp_cond v_ (fun hc5 => ?_) (fun hc5 => ?_)
    · replace hc5 := nm_ hc5
      refine awp_skip ?_
      refine awp_seq ?_
      refine awp_block ?_
      refine awp_seq ?_
      obtain ⟨x, hx⟩ := get_some (l := L) (k := i) (by omega)
      have hlen : (own (L.take i) s).length ≤ i := Nat.le_trans (own_len _ _) (by simp; omega)
      have R := hx
      refine awp_region (by kernel_rfl) ?_
      iterate 7 (refine aL_S rfl rfl v_ ?_)
      refine aL_nil ?_
      refine awp_cond v_ (fun hc7 => ?_) (fun hc7 => ?_)
      · replace hc7 := nm_ hc7
        have hcov : (own (L.take (i + 1)) s).map sDeed = (own (L.take i) s).map sDeed ++ [sDeed x] := by rw [take_snoc hx, own, List.filter_append, List.map_append]; simp [own, hc7]
        have R := hx
        refine awp_region (by kernel_rfl) ?_
        iterate 5 (refine aL_S rfl rfl v_ ?_)
        refine aL_buildSlice rfl rfl rfl g_ g_ rfl rfl h_ c2_ (by decide) ?_
        refine aL_append rfl rfl rfl g_ g_ v_ h_ v_ c_ (by simp; omega) fun k35 hk35 => ?_
        (refine aL_S rfl rfl v_ ?_)
        refine aL_nil ?_
        refine awp_region (by kernel_rfl) ?_
        iterate 3 (refine aL_S rfl rfl v_ ?_)
        refine aL_nil ?_
        refine aNext (ι := Nat × Nat) (i := ⟨k, i⟩) (k35, i + 1) ?_ ?_ ?_ ?_
        · show L.length - (i + 1) < L.length - i; omega
        · exact ⟨by show i + 1 ≤ L.length; omega, (newTok_none hk35).2⟩
        · have R := hcov; exact cv_
        · exact sub_
      · replace hc7 := nm_ hc7
        have hcov : (own (L.take (i + 1)) s).map sDeed = (own (L.take i) s).map sDeed := by rw [take_snoc hx, own, List.filter_append, List.map_append]; simp [own, hc7]
        refine awp_skip ?_
        refine awp_region (by kernel_rfl) ?_
        iterate 3 (refine aL_S rfl rfl v_ ?_)
        refine aL_nil ?_
        refine aNext (ι := Nat × Nat) (i := ⟨k, i⟩) (k, i + 1) ?_ ?_ ?_ ?_
        · show L.length - (i + 1) < L.length - i; omega
        · exact ⟨by show i + 1 ≤ L.length; omega, hk⟩
        · have R := hcov; exact cv_
        · exact sub_
    · replace hc5 := nm_ hc5
      refine awp_exit ?_
      refine aThen_exit ?_
      refine aThen_exit ?_
      refine aBlock_hit ?_
      refine awp_seq ?_
      obtain rfl : i = L.length := by omega
      rw [List.take_length]
      refine awp_region (by kernel_rfl) ?_
      iterate 2 (refine aL_S rfl rfl v_ ?_)
      refine aL_X rfl rfl (AOp_use rfl rfl (.inr ⟨rfl, rfl, rfl⟩) g_ va_ (of_c hd (by omega)) ?_); rintro _ _ ⟨rfl, rfl⟩
      iterate 2 (refine aL_S rfl rfl v_ ?_)
      refine aL_X rfl rfl (AOp_use rfl rfl (.inr ⟨rfl, rfl, rfl⟩) g_ va_ (ACalls.wkA (args := [.own k 20 ((own L s).map sDeed), vStr s]) (of_c (t := false) hdo (by omega)) rfl (fun j hj hj' => by match j, hj with | 0, _ => exact .own1 _ _ _ | 1, _ => exact .refl _)) ?_); rintro _ _ ⟨rfl, rfl⟩
      rw [ofS_own]
      refine aL_X rfl rfl (AOp_use rfl rfl (.inr ⟨rfl, rfl, rfl⟩) g_ va_ (same_c (by have := countsS_len (own L s); show (countsS (own L s)).length ≤ 1000000; omega)) ?_); rintro _ _ ⟨rfl, rfl⟩
      (refine aL_S rfl rfl v_ ?_)
      refine aL_SY (wantedA_yes rfl rfl v_ (by rfl)) rfl v_ ?_
      refine aL_SY (wantedA_yes rfl rfl v_ (by rfl)) rfl v_ ?_
      refine aL_XY (wantedA_yes rfl rfl v_ (by rfl)) rfl (AOp_use rfl rfl (.inr ⟨rfl, rfl, rfl⟩) g_ va_ (of_c hd (by omega)) ?_); rintro _ _ ⟨rfl, rfl⟩
      refine aL_SY (wantedA_yes rfl rfl v_ (by rfl)) rfl v_ ?_
      refine aL_SY (wantedA_yes rfl rfl v_ (by rfl)) rfl v_ ?_
      refine aL_XY (wantedA_yes rfl rfl v_ (by rfl)) rfl (AOp_use rfl rfl (.inr ⟨rfl, rfl, rfl⟩) g_ va_ (ACalls.wkA (args := [.own k 20 ((own L s).map sDeed)]) (counts_c (t := false) hdo (by omega)) rfl (fun j hj hj' => by match j, hj with | 0, _ => exact .own1 _ _ _)) ?_); rintro _ _ ⟨rfl, rfl⟩
      refine aL_XY (wantedA_yes rfl rfl v_ (by rfl)) rfl (AOp_use rfl rfl (.inr ⟨rfl, rfl, rfl⟩) g_ va_ (sameCounts_c (a := countsS (own L s)) (by have := countsS_len (own L s); omega)) ?_); rintro _ _ ⟨rfl, rfl⟩
      iterate 2 (refine aL_S rfl rfl v_ ?_)
      refine aL_XY (wantedA_yes rfl rfl v_ (by rfl)) rfl (AOp_use rfl rfl (.inr ⟨rfl, rfl, rfl⟩) g_ va_ (awake55_c) ?_); rintro _ _ ⟨rfl, rfl⟩
      iterate 2 (refine aL_S rfl rfl v_ ?_)
      refine aL_nil ?_
      refine awp_ret ?_
      refine aEnd_ret (σ' := σ) v_ sub_ ?_
      exact ⟨rfl, rfl⟩
end Go.Proofs.YtbjloippgpilcaaDoor
end
