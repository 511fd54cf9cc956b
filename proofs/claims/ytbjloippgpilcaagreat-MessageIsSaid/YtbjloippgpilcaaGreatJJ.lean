/-
  MessageIs: the law. Own work (an AI agent).
-/
import Derived.Test.YtbjloippgpilcaaGreatJI
import Derived.Test.YtbjloippgpilcaaGreatJY

section
set_option linter.all false
set_option maxRecDepth 100000
namespace Go.Proofs.YtbjloippgpilcaaGreat
open Go.Ab

set_option maxHeartbeats 1000000 in
theorem msgIs_c {m : Msg} {σ : Store} : ACalls Tryz.prog 3 [sMsg m] σ fun v σ' => v = vB true ∧ σ = σ' := by
  refine ACalls_of Tryz.func3 rfl Tryz.ntmps3 (congrArg Array.toList Tryz.results3) (by simp only [List.length_cons, List.length_nil]; decide) ?_; simp only [envOf_cons, envOf_nil, Nat.reduceAdd]
  refine awp_seq ?_
  refine awp_region (by kernel_rfl) ?_
  refine aL_box rfl rfl rfl v_ rfl g_ fun o1 ho1 => ?_
  repeat (rw [none_set_iff] at ho1; obtain ⟨_, ho1⟩ := ho1)
  (refine aL_S rfl rfl v_ ?_)
  refine aL_nil ?_
  refine awp_seq ?_
  refine awp_draw (.op 0 0 (.op 1 1 (.op 2 0 (.op 3 0 (.op 4 0 (.op 6 0 (.op 5 1 (.op 7 1 (.op 8 0 (.op 9 0 (.op 10 0 (.op 12 0 (.op 11 1 (.op 13 1 (.op 14 0 (.op 15 0 (.op 16 0 (.op 17 0 (.op 18 1 (.op 19 0 (.op 20 0 .nil))))))))))))))))))))) Tryz.mixed (by kernel_rfl) ?_
  (refine dR_S o_ (by rfl) (by rfl) v_ ?_)
  refine dR_X o_ (by rfl) (by rfl) (AOp_use (by rfl) (by rfl) (.inr ⟨by rfl, by rfl, by rfl⟩) g_ va_ (fewM_c) ?_); rintro _ _ ⟨rfl, rfl⟩; refine ⟨sub_, ?_⟩
  iterate 2 (refine dR_S o_ (by rfl) (by rfl) v_ ?_)
  refine dR_GF o_ (by rfl) (by rfl) v_ (by rfl) vg_ ?_
  refine dR_GF o_ (by rfl) (by rfl) v_ (by rfl) vg_ ?_
  refine dR_GFX o_ (by rfl) (by rfl) v_ (by rfl) sub_ (fun hb => AOp_useV (by rfl) (by rfl) (.inr ⟨by rfl, by rfl, by rfl⟩) g_ cg_ (mBytes_c (fewM_sm (by have h := hb; simp at h; exact h)))) ?_
  refine dR_GFX o_ (by rfl) (by rfl) v_ (by rfl) sub_ (fun hb => AOp_useV (by rfl) (by rfl) (.inr ⟨by rfl, by rfl, by rfl⟩) g_ cg_ (rmBytes_c (fewM_sm (by have h := hb; simp at h; exact h)))) ?_
  refine dR_GF o_ (by rfl) (by rfl) v_ (by rfl) vg_ ?_
  refine dR_GF o_ (by rfl) (by rfl) v_ (by rfl) vg_ ?_
  refine dR_GGT o_ (by rfl) (by rfl) v_ (by rfl) vg_ ?_
  refine dR_GGT o_ (by rfl) (by rfl) v_ (by rfl) vg_ ?_
  refine dR_GGTX o_ (by rfl) (by rfl) v_ (by rfl) sub_ (fun hb => AOp_useV (by rfl) (by rfl) (.inr ⟨by rfl, by rfl, by rfl⟩) g_ cg_ (mCheck_c (fewM_sm (by have h := hb; simp at h; exact h)))) ?_
  refine dR_GGTX o_ (by rfl) (by rfl) v_ (by rfl) sub_ (fun hb => AOp_useV (by rfl) (by rfl) (.inr ⟨by rfl, by rfl, by rfl⟩) g_ cg_ (rCheck32_c (fewM_sm (by have h := hb; simp at h; exact h)))) ?_
  refine dR_GGT o_ (by rfl) (by rfl) v_ (by rfl) vg_ ?_
  refine dR_GF o_ (by rfl) (by rfl) v_ (by rfl) vg_ ?_
  iterate 2 (refine dR_S o_ (by rfl) (by rfl) v_ ?_)
  refine dR_GTX o_ (by rfl) (by rfl) v_ (by rfl) sub_ (fun hb => AOp_useV (by rfl) (by rfl) (.inr ⟨by rfl, by rfl, by rfl⟩) g_ cg_ (awake32_c)) ?_
  iterate 2 (refine dR_S o_ (by rfl) (by rfl) v_ ?_)
  refine dR_nil ?_
  refine awp_ret ?_
  refine aEnd_ret (σ' := σ) v_ sub_ ?_
  refine ⟨?_, rfl⟩
  simp
end Go.Proofs.YtbjloippgpilcaaGreat
end
