/-
  MessageOf: the law. Own work (an AI agent).
-/
import Derived.Test.YtgpibooklhakgaaGreatJI

section
set_option linter.all false
set_option maxRecDepth 100000
namespace Go.Proofs.YtgpibooklhakgaaGreat
open Go.Ab

set_option maxHeartbeats 1000000 in
theorem msgOf_c {s : List UInt8} {σ : Store} : ACalls Tryz.prog 7 [vStr (B s)] σ fun v σ' => v = vB true ∧ σ = σ' := by
  have hsz := B_size s
  refine ACalls_of Tryz.func7 rfl Tryz.ntmps7 (congrArg Array.toList Tryz.results7) (by simp only [List.length_cons, List.length_nil]; decide) ?_; simp only [envOf_cons, envOf_nil, Nat.reduceAdd]
  refine awp_seq ?_
  refine awp_region (by kernel_rfl) ?_
  (refine aL_S rfl rfl v_ ?_)
  refine aL_nil ?_
  refine awp_seq ?_
  refine awp_seq ?_
  refine awp_region (by kernel_rfl) ?_
  iterate 3 (refine aL_S rfl rfl v_ ?_)
  refine aL_nil ?_
  refine awp_cond v_ (fun hc1 => ?_) (fun hc1 => ?_)
  · replace hc1 := nm_ hc1
    refine awp_seq ?_
    refine awp_region (by kernel_rfl) ?_
    refine aL_X rfl rfl (AOp_use rfl rfl (.inr ⟨rfl, rfl, rfl⟩) g_ va_ (awake32_c) ?_); rintro _ _ ⟨rfl, rfl⟩
    (refine aL_S rfl rfl v_ ?_)
    refine aL_nil ?_
    refine awp_ret ?_
    refine aEnd_ret (σ' := σ) v_ sub_ ?_
    refine ⟨?_, rfl⟩
    first | rfl | simp
  · replace hc1 := nm_ hc1
    have hs : s.length ≤ 4000 := by omega
    have hsm := mofW_sm hs
    refine awp_skip ?_
    refine awp_seq ?_
    refine awp_region (by kernel_rfl) ?_
    (refine aL_S rfl rfl v_ ?_)
    refine aL_X rfl rfl (AOp_use rfl rfl (.inr ⟨rfl, rfl, rfl⟩) g_ va_ (mOf_c hs) ?_); rintro _ _ ⟨rfl, rfl⟩
    obtain ⟨q, hq⟩ : ∃ q, mofW s = q := ⟨_, rfl⟩
    rw [hq] at hsm ⊢
    iterate 3 (refine aL_S rfl rfl v_ ?_)
    refine aL_alloc rfl rfl rfl g_ gl_ fun o3 ho3 => ?_
    repeat (rw [none_set_iff] at ho3; obtain ⟨_, ho3⟩ := ho3)
    refine aL_store rfl rfl rfl v_ v_ h_ g_ rfl g_ c_ (by rfl) le_ v_ ?_
    (refine aL_S rfl rfl v_ ?_)
    refine aL_nil ?_
    refine awp_seq ?_
    refine awp_region (by kernel_rfl) ?_
    (refine aL_S rfl rfl v_ ?_)
    refine aL_X rfl rfl (AOp_use rfl rfl (.inr ⟨rfl, rfl, rfl⟩) g_ va_ (rmOf_c hs) ?_); rintro _ _ ⟨rfl, rfl⟩
    rw [hq]
    iterate 3 (refine aL_S rfl rfl v_ ?_)
    refine aL_alloc rfl rfl rfl g_ gl_ fun o5 ho5 => ?_
    repeat (rw [none_set_iff] at ho5; obtain ⟨_, ho5⟩ := ho5)
    refine aL_store rfl rfl rfl v_ v_ h_ g_ rfl g_ c_ (by rfl) le_ v_ ?_
    (refine aL_S rfl rfl v_ ?_)
    refine aL_nil ?_
    refine awp_seq ?_
    refine awp_region (by kernel_rfl) ?_
    iterate 2 (refine aL_S rfl rfl v_ ?_)
    refine aL_X rfl rfl (AOp_use rfl rfl (.inr ⟨rfl, rfl, rfl⟩) g_ va_ (sameM_c hsm hsm) ?_); rintro _ _ ⟨rfl, rfl⟩
    (refine aL_S rfl rfl v_ ?_)
    refine aL_GT rfl rfl v_ rfl vg_ ?_
    refine aL_GT rfl rfl v_ rfl vg_ ?_
    refine aL_GT rfl rfl v_ rfl vg_ ?_
    iterate 2 (refine aL_S rfl rfl v_ ?_)
    refine aL_GTX rfl rfl v_ rfl (fun hb => AOp_useV (by rfl) (by rfl) (.inr ⟨by rfl, by rfl, by rfl⟩) g_ cg_ (awake32_c)) ?_
    iterate 2 (refine aL_S rfl rfl v_ ?_)
    refine aL_nil ?_
    refine awp_ret ?_
    refine aEnd_ret (σ' := σ) v_ sub_ ?_
    refine ⟨?_, rfl⟩
    first | rfl | simp
end Go.Proofs.YtgpibooklhakgaaGreat
end
