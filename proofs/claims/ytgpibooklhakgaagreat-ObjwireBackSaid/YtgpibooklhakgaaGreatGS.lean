/-
  ObjwireReads: the law. Own work (an AI agent).
-/
import Derived.Test.YtgpibooklhakgaaGreatGQ
import Derived.Test.YtgpibooklhakgaaGreatGP
import Derived.Test.YtgpibooklhakgaaGreatGE

section
set_option linter.all false
set_option maxRecDepth 100000
namespace Go.Proofs.YtgpibooklhakgaaGreat
open Go.Ab

theorem ofW_sm {s : List UInt8} (hs : s.length ≤ 4000) : ObjSm (ofW s).1 := by
  unfold ofW
  split
  · exact rdObj_sm hs
  · exact ⟨(fun y hy => by cases hy), (fun y hy => by cases hy), by show 0 ≤ _; decide, by show 0 ≤ _; decide⟩
theorem reads_c {s : List UInt8} {σ : Store} : ACalls Tryz.prog 4 [vStr (B s)] σ fun v σ' => v = vB true ∧ σ = σ' := by
  have hsz := B_size s
  refine ACalls_of Tryz.func4 rfl Tryz.ntmps4 (congrArg Array.toList Tryz.results4) (by simp only [List.length_cons, List.length_nil]; decide) ?_; simp only [envOf_cons, envOf_nil, Nat.reduceAdd]
  refine awp_seq ?_
  refine awp_region (by kernel_rfl) ?_
  (refine aL_S rfl rfl v_ ?_)
  refine aL_nil ?_
  refine awp_seq ?_
  refine awp_seq ?_
  refine awp_region (by kernel_rfl) ?_
  iterate 3 (refine aL_S rfl rfl v_ ?_)
  refine aL_nil ?_
  refine awp_cond v_ (fun hc1 => ?_) (fun hc1 => ?_)
  · replace hc1 := nm_ hc1
    refine awp_seq ?_
    refine awp_region (by kernel_rfl) ?_
    refine aL_X rfl rfl (AOp_use rfl rfl (.inr ⟨rfl, rfl, rfl⟩) g_ va_ (awake11_c) ?_); rintro _ _ ⟨rfl, rfl⟩
    (refine aL_S rfl rfl v_ ?_)
    refine aL_nil ?_
    refine awp_ret ?_
    exact aEnd_ret (σ' := σ) va_ sub_ ⟨rfl, rfl⟩
  · replace hc1 := nm_ hc1
    have hs : s.length ≤ 1024 := by omega
    have hsm := ofW_sm (s := s) (by omega)
    have hcm := rdCtx_sm (x := (s, true)) (by show s.length ≤ _; omega)
    have hom := rdObj_sm (x := (s, true)) (by show s.length ≤ _; omega)
    obtain ⟨c, hc⟩ : ∃ c, (rdCtx (s, true)).1 = c := ⟨_, rfl⟩
    obtain ⟨y, hy⟩ : ∃ y, (rdCtx (s, true)).2 = y := ⟨_, rfl⟩
    obtain ⟨o, ho⟩ : ∃ o, (rdObj (s, true)).1 = o := ⟨_, rfl⟩
    obtain ⟨z, hz⟩ : ∃ z, (rdObj (s, true)).2 = z := ⟨_, rfl⟩
    rw [hc] at hcm
    rw [ho] at hom
    refine awp_skip ?_
    refine awp_seq ?_
    refine awp_region (by kernel_rfl) ?_
    (refine aL_S rfl rfl v_ ?_)
    refine aL_X rfl rfl (AOp_use rfl rfl (.inr ⟨rfl, rfl, rfl⟩) g_ va_ (wOf_c (s := s) (by omega)) ?_); rintro _ _ ⟨rfl, rfl⟩
    obtain ⟨q, hq⟩ : ∃ q, ofW s = q := ⟨_, rfl⟩
    rw [hq] at hsm ⊢
    iterate 3 (refine aL_S rfl rfl v_ ?_)
    refine aL_alloc rfl rfl rfl g_ gl_ fun o3 ho3 => ?_
    repeat (rw [none_set_iff] at ho3; obtain ⟨_, ho3⟩ := ho3)
    refine aL_store rfl rfl rfl v_ v_ h_ g_ rfl g_ c_ (by rfl) le_ v_ ?_
    (refine aL_S rfl rfl v_ ?_)
    refine aL_nil ?_
    refine awp_seq ?_
    refine awp_region (by kernel_rfl) ?_
    (refine aL_S rfl rfl v_ ?_)
    refine aL_X rfl rfl (AOp_use rfl rfl (.inr ⟨rfl, rfl, rfl⟩) g_ va_ (rwOf_c (s := s) (by omega)) ?_); rintro _ _ ⟨rfl, rfl⟩
    rw [hq]
    iterate 3 (refine aL_S rfl rfl v_ ?_)
    refine aL_alloc rfl rfl rfl g_ gl_ fun o5 ho5 => ?_
    repeat (rw [none_set_iff] at ho5; obtain ⟨_, ho5⟩ := ho5)
    refine aL_store rfl rfl rfl v_ v_ h_ g_ rfl g_ c_ (by rfl) le_ v_ ?_
    (refine aL_S rfl rfl v_ ?_)
    refine aL_nil ?_
    refine awp_seq ?_
    refine awp_region (by kernel_rfl) ?_
    (refine aL_S rfl rfl v_ ?_)
    refine aL_X rfl rfl (AOp_use rfl rfl (.inr ⟨rfl, rfl, rfl⟩) g_ va_ (new_c) ?_); rintro _ _ ⟨r, hr, rfl, rfl⟩
    iterate 2 (refine aL_S rfl rfl v_ ?_)
    refine aL_box rfl rfl rfl v_ rfl g_ fun o31 ho31 => ?_
    repeat (rw [none_set_iff] at ho31; obtain ⟨_, ho31⟩ := ho31)
    iterate 2 (refine aL_S rfl rfl v_ ?_)
    refine aL_nil ?_
    have nr3 : r ≠ o3 := fun hh => by rw [hh] at hr; simp (disch := omega) [Store.set_ne, Store.set_get] at hr
    have nr5 : r ≠ o5 := fun hh => by rw [hh, Store.set_get] at hr; cases hr
    have hrs : σ.heap r = none := by simpa (disch := omega) only [Store.set_ne] using hr
    refine awp_seq ?_
    refine awp_region (by kernel_rfl) ?_
    (refine aL_S rfl rfl v_ ?_)
    refine aL_X rfl rfl (AOp_use rfl rfl (.inr ⟨rfl, rfl, rfl⟩) g_ va_ (readCtx_c (x := (s, true)) (by simp (disch := omega) only [Store.set_ne, Store.set_get])) ?_); rintro _ τ1 ⟨rfl, g1, g2⟩
    rw [hc]
    rw [hy] at g1
    have f31 := keep g2 (i := o31) (x := rfO (s, true)) (Store.set_get ..) (by simp; omega)
    have f3 := keep g2 (i := o3) (x := .cells (sObj q.1).cells) (by simp (disch := omega) only [Store.set_ne, Store.set_get]; rfl) (by simp; omega)
    have f5 := keep g2 (i := o5) (x := .cells (sObj q.1).cells) (by simp (disch := omega) only [Store.set_ne, Store.set_get]; rfl) (by simp; omega)
    have s1 : SubX [] σ τ1 := step_sub (subx_new ho31 (subx_new hrs (subx_new ho5 (subx_new ho5 (subx_new ho3 (subx_new ho3 subx_refl)))))) hrs g2
    (refine aL_S rfl rfl v_ ?_)
    refine aL_X rfl rfl (AOp_use rfl rfl (.inr ⟨rfl, rfl, rfl⟩) g_ va_ (rfCtx_c (x := (s, true)) f31) ?_); rintro _ τ2 ⟨rfl, e1, e2⟩
    rw [hc]
    rw [hy] at e1
    have e3 := keep e2 f3 (by simp; omega)
    have e5 := keep e2 f5 (by simp; omega)
    have er := keep e2 g1 (by simp; omega)
    have s2 : SubX [] σ τ2 := step_sub s1 ho31 e2
    iterate 2 (refine aL_S rfl rfl v_ ?_)
    refine aL_nil ?_
    refine awp_seq ?_
    refine awp_seq ?_
    have R := And.intro e3 (And.intro e5 (And.intro e1 er))
    refine awp_draw (.op 0 0 (.op 1 0 (.op 2 1 (.op 3 0 (.op 4 0 (.op 5 0 (.op 7 0 (.op 8 0 (.op 9 0 (.op 10 0 (.op 6 1 (.op 11 0 (.op 12 0 (.op 13 0 (.op 14 0 (.op 15 0 (.op 16 1 (.op 17 0 (.op 18 0 (.op 19 0 (.op 20 0 (.op 21 0 (.op 22 0 (.op 23 0 .nil)))))))))))))))))))))))) Tryz.mixed (by kernel_rfl) ?_
    iterate 2 (refine dR_S o_ (by rfl) (by rfl) v_ ?_)
    refine dR_X o_ (by rfl) (by rfl) (AOp_use (by rfl) (by rfl) (.inr ⟨by rfl, by rfl, by rfl⟩) g_ va_ (same06_f hcm.1 hcm.1 (by omega) (by omega)) ?_); rintro _ _ ⟨rfl, rfl⟩; refine ⟨sub_, ?_⟩
    iterate 2 (refine dR_S o_ (by rfl) (by rfl) v_ ?_)
    refine dR_GF o_ (by rfl) (by rfl) v_ (by rfl) vg_ ?_
    refine dR_GF o_ (by rfl) (by rfl) v_ (by rfl) vg_ ?_
    refine dR_GF o_ (by rfl) (by rfl) v_ (by rfl) vg_ ?_
    refine dR_GF o_ (by rfl) (by rfl) v_ (by rfl) vg_ ?_
    refine dR_GF o_ (by rfl) (by rfl) v_ (by rfl) vg_ ?_
    refine dR_GFX o_ (by rfl) (by rfl) v_ (by rfl) sub_ (fun hb => AOp_useV (by rfl) (by rfl) (.inr ⟨by rfl, by rfl, by rfl⟩) g_ cg_ (bad_x er)) ?_
    refine dR_GF o_ (by rfl) (by rfl) v_ (by rfl) vg_ ?_
    iterate 2 (refine dR_S o_ (by rfl) (by rfl) v_ ?_)
    refine dR_GF o_ (by rfl) (by rfl) v_ (by rfl) vg_ ?_
    refine dR_GF o_ (by rfl) (by rfl) v_ (by rfl) vg_ ?_
    refine dR_GFX o_ (by rfl) (by rfl) v_ (by rfl) sub_ (fun hb => AOp_useV (by rfl) (by rfl) (.inr ⟨by rfl, by rfl, by rfl⟩) g_ cg_ (same07_f hsm hsm)) ?_
    refine dR_GF o_ (by rfl) (by rfl) v_ (by rfl) vg_ ?_
    iterate 2 (refine dR_S o_ (by rfl) (by rfl) v_ ?_)
    refine dR_GF o_ (by rfl) (by rfl) v_ (by rfl) vg_ ?_
    refine dR_GF o_ (by rfl) (by rfl) v_ (by rfl) vg_ ?_
    refine dR_GF o_ (by rfl) (by rfl) v_ (by rfl) vg_ ?_
    (refine dR_S o_ (by rfl) (by rfl) v_ ?_)
    refine dR_nil ?_
    refine awp_cond v_ (fun hc7 => ?_) (fun hc7 => ?_)
    · replace hc7 := nm_ hc7
      simp at hc7
    · replace hc7 := nm_ hc7
      refine awp_skip ?_
      refine awp_seq ?_
      refine awp_region (by kernel_rfl) ?_
      (refine aL_S rfl rfl v_ ?_)
      refine aL_X rfl rfl (AOp_use rfl rfl (.inr ⟨rfl, rfl, rfl⟩) g_ va_ (new_c) ?_); rintro _ _ ⟨p, hp, rfl, rfl⟩
      iterate 2 (refine aL_S rfl rfl v_ ?_)
      refine aL_box rfl rfl rfl v_ rfl g_ fun o64 ho64 => ?_
      repeat (rw [none_set_iff] at ho64; obtain ⟨_, ho64⟩ := ho64)
      iterate 2 (refine aL_S rfl rfl v_ ?_)
      refine aL_nil ?_
      have hps : σ.heap p = none := SubX.noObj s2 hp (by simp)
      have hqs : σ.heap o64 = none := SubX.noObj s2 ho64 (by simp)
      refine awp_seq ?_
      have w1 : ((τ2.set p (rdO (s, true))).set o64 (.cells [vStr (B s), .lit (.bool false)])).heap p = some (rdO (s, true)) := by simp (disch := omega) only [Store.set_ne, Store.set_get]
      have w2 : ((τ2.set p (rdO (s, true))).set o64 (.cells [vStr (B s), .lit (.bool false)])).heap o64 = some (rfO (s, true)) := Store.set_get ..
      have s3 := subx_new (x := .cells [vStr (B s), .lit (.bool false)]) hqs (subx_new (x := rdO (s, true)) hps s2)
      have npo : p ≠ o64 := by omega
      refine awp_draw (.op 0 0 (.op 2 0 (.op 1 2 (.op 3 2 (.op 4 2 (.op 5 0 (.op 6 0 (.op 8 0 (.op 9 0 (.op 10 0 (.alt 7 2 (.op 11 2 (.op 12 2 (.op 13 0 (.op 14 0 (.op 15 0 (.op 17 0 (.op 16 2 (.op 18 2 (.op 19 2 (.op 20 0 (.op 21 0 (.op 22 2 (.op 23 0 (.op 24 0 .nil)))))))))))))) (.op 11 2 (.op 7 2 (.op 12 2 (.op 13 0 (.op 14 0 (.op 15 0 (.op 17 0 (.op 16 2 (.op 18 2 (.op 19 2 (.op 20 0 (.op 21 0 (.op 22 2 (.op 23 0 (.op 24 0 .nil)))))))))))))))))))))))))) Tryz.mixed (by kernel_rfl) ?_
      iterate 2 (refine dR_S o_ (by rfl) (by rfl) v_ ?_)
      refine dR_T o_ (by rfl) (by rfl) (AOp_use (by rfl) (by rfl) (.inr ⟨by rfl, by rfl, by rfl⟩) g_ va_ (readObj_c (x := (s, true)) (by first | exact w1 | exact keep e7 w1 (by simpa using npo))) ?_); rintro _ τ3 ⟨rfl, g3, g4⟩
      rw [ho]
      rw [hz] at g3
      first | (have k6 := keep g4 e6 (by simpa using Ne.symm npo); have kp := g3; have s4 := step_sub (step_sub s3 hqs e7) hps g4; have R := And.intro k6 kp) | skip
      refine dR_T o_ (by rfl) (by rfl) (AOp_use (by rfl) (by rfl) (.inr ⟨by rfl, by rfl, by rfl⟩) g_ va_ (rfObj_c (x := (s, true)) (by first | exact w2 | exact keep g4 w2 (by simpa using Ne.symm npo))) ?_); rintro _ τ4 ⟨rfl, e6, e7⟩
      rw [ho]
      rw [hz] at e6
      first | (have kp := keep e7 g3 (by simpa using npo); have k6 := e6; have s4 := step_sub (step_sub s3 hps g4) hqs e7; have R := And.intro k6 kp) | skip
      refine dR_T o_ (by rfl) (by rfl) (AOp_use (by rfl) (by rfl) (.inr ⟨by rfl, by rfl, by rfl⟩) g_ va_ (same07_f hom hom) ?_); rintro _ _ ⟨rfl, rfl⟩
      (refine dR_S o_ (by rfl) (by rfl) v_ ?_)
      refine dR_GT o_ (by rfl) (by rfl) v_ (by rfl) vg_ ?_
      refine dR_GT o_ (by rfl) (by rfl) v_ (by rfl) vg_ ?_
      refine dR_GT o_ (by rfl) (by rfl) v_ (by rfl) vg_ ?_
      refine dR_GT o_ (by rfl) (by rfl) v_ (by rfl) vg_ ?_
      refine dR_alt ?_ ?_
      · refine dR_TGTX o_ (by rfl) (by rfl) v_ (by rfl) (fun hb => AOp_useV (by rfl) (by rfl) (.inr ⟨by rfl, by rfl, by rfl⟩) g_ cg_ (bad_x kp)) ?_
        refine dR_TGT o_ (by rfl) (by rfl) v_ (by rfl) vg_ ?_
        refine dR_TGT o_ (by rfl) (by rfl) v_ (by rfl) vg_ ?_
        iterate 2 (refine dR_S o_ (by rfl) (by rfl) v_ ?_)
        refine dR_GT o_ (by rfl) (by rfl) v_ (by rfl) vg_ ?_
        refine dR_GT o_ (by rfl) (by rfl) v_ (by rfl) vg_ ?_
        refine dR_TGTX o_ (by rfl) (by rfl) v_ (by rfl) (fun hb => AOp_useV (by rfl) (by rfl) (.inr ⟨by rfl, by rfl, by rfl⟩) g_ cg_ (rdDone_c kp)) ?_
        refine dR_TGTX o_ (by rfl) (by rfl) v_ (by rfl) (fun hb => AOp_useV (by rfl) (by rfl) (.inr ⟨by rfl, by rfl, by rfl⟩) g_ cg_ (rfDone_c k6)) ?_
        refine dR_TGT o_ (by rfl) (by rfl) v_ (by rfl) vg_ ?_
        iterate 2 (refine dR_S o_ (by rfl) (by rfl) v_ ?_)
        refine dR_TGTX o_ (by rfl) (by rfl) v_ (by rfl) (fun hb => AOp_useV (by rfl) (by rfl) (.inr ⟨by rfl, by rfl, by rfl⟩) g_ cg_ (awake11_c)) ?_
        iterate 2 (refine dR_S o_ (by rfl) (by rfl) v_ ?_)
        refine dR_nil ?_
        refine awp_ret ?_
        exact aEnd_ret (σ' := σ) va_ (subx_start s4) ⟨rfl, rfl⟩
      refine dR_TGT o_ (by rfl) (by rfl) v_ (by rfl) vg_ ?_
      refine dR_TGTX o_ (by rfl) (by rfl) v_ (by rfl) (fun hb => AOp_useV (by rfl) (by rfl) (.inr ⟨by rfl, by rfl, by rfl⟩) g_ cg_ (bad_x kp)) ?_
      refine dR_TGT o_ (by rfl) (by rfl) v_ (by rfl) vg_ ?_
      iterate 2 (refine dR_S o_ (by rfl) (by rfl) v_ ?_)
      refine dR_GT o_ (by rfl) (by rfl) v_ (by rfl) vg_ ?_
      refine dR_GT o_ (by rfl) (by rfl) v_ (by rfl) vg_ ?_
      refine dR_TGTX o_ (by rfl) (by rfl) v_ (by rfl) (fun hb => AOp_useV (by rfl) (by rfl) (.inr ⟨by rfl, by rfl, by rfl⟩) g_ cg_ (rdDone_c kp)) ?_
      refine dR_TGTX o_ (by rfl) (by rfl) v_ (by rfl) (fun hb => AOp_useV (by rfl) (by rfl) (.inr ⟨by rfl, by rfl, by rfl⟩) g_ cg_ (rfDone_c k6)) ?_
      refine dR_TGT o_ (by rfl) (by rfl) v_ (by rfl) vg_ ?_
      iterate 2 (refine dR_S o_ (by rfl) (by rfl) v_ ?_)
      refine dR_TGTX o_ (by rfl) (by rfl) v_ (by rfl) (fun hb => AOp_useV (by rfl) (by rfl) (.inr ⟨by rfl, by rfl, by rfl⟩) g_ cg_ (awake11_c)) ?_
      iterate 2 (refine dR_S o_ (by rfl) (by rfl) v_ ?_)
      refine dR_nil ?_
      refine awp_ret ?_
      exact aEnd_ret (σ' := σ) va_ (subx_start s4) ⟨rfl, rfl⟩
end Go.Proofs.YtgpibooklhakgaaGreat
end
