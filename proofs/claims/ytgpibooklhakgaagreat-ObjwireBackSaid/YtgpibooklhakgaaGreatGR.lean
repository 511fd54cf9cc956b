/-
  ObjwireWrites: the law. Own work (an AI agent).
-/
import Derived.Test.YtgpibooklhakgaaGreatGQ
import Derived.Test.YtgpibooklhakgaaGreatGE

section
set_option linter.all false
set_option maxRecDepth 100000
namespace Go.Proofs.YtgpibooklhakgaaGreat
open Go.Ab

theorem FewC.sm {c : List Seen} (h : FewC c) : (∀ x ∈ c, SeenSm x) ∧ c.length ≤ 1000 := ⟨fun x hx => ⟨by have := (h.2 x hx).1; omega, by have := (h.2 x hx).2; omega⟩, by have := h.1; omega⟩
theorem FewO.sm {o : Obj'} (h : FewO o) : ObjSm o := ⟨h.1.sm.1, fun x hx => ⟨by have := (h.2.2 x hx).2; omega, by have := (h.2.2 x hx).1; omega⟩, h.1.sm.2, by have := h.2.1; omega⟩
def fewCb (c : List Seen) : Bool := decide (c.length ≤ 12) && c.all fun x => decide (x.node.size ≤ 100) && decide (x.more.length ≤ 40)
theorem fewCb_iff {c : List Seen} : fewCb c = true ↔ FewC c := by simp [fewCb, FewC]
def fewOb (o : Obj') : Bool := fewCb o.ctx && decide (o.sibs.length ≤ 12) && o.sibs.all fun x => decide (x.value.size ≤ 300) && decide (x.node.size ≤ 100)
theorem fewOb_iff {o : Obj'} : fewOb o = true ↔ FewO o := by simp [fewOb, FewO, fewCb_iff, and_assoc]
theorem few06_f {c : List Seen} {t : Bool} {σ : Store} : ACalls Tryz.prog 13 [.sl 3 (c.map sSeen) t] σ fun v σ' => v = vB (fewCb c) ∧ σ = σ' :=
  few06_c.wkS fun v σ' ⟨⟨r, hv, hr⟩, hs⟩ => ⟨v, σ', .refl _, .refl _, by rw [hv, show r = fewCb c from by rw [Bool.eq_iff_iff, hr, fewCb_iff]], hs⟩
theorem few07_f {o : Obj'} {σ : Store} : ACalls Tryz.prog 14 [sObj o] σ fun v σ' => v = vB (fewOb o) ∧ σ = σ' :=
  few07_c.wkS fun v σ' ⟨⟨r, hv, hr⟩, hs⟩ => ⟨v, σ', .refl _, .refl _, by rw [hv, show r = fewOb o from by rw [Bool.eq_iff_iff, hr, fewOb_iff]], hs⟩
set_option maxHeartbeats 1000000 in
theorem writes_c {c : List Seen} {o : Obj'} {t : Bool} {σ : Store} : ACalls Tryz.prog 3 [.sl 3 (c.map sSeen) t, sObj o] σ fun v σ' => v = vB true ∧ σ = σ' := by
  refine ACalls_of Tryz.func3 rfl Tryz.ntmps3 (congrArg Array.toList Tryz.results3) (by simp only [List.length_cons, List.length_nil]; decide) ?_; simp only [envOf_cons, envOf_nil, Nat.reduceAdd]
  refine awp_seq ?_
  refine awp_region (by kernel_rfl) ?_
  refine aL_box rfl rfl rfl v_ rfl g_ fun o3 ho3 => ?_
  repeat (rw [none_set_iff] at ho3; obtain ⟨_, ho3⟩ := ho3)
  (refine aL_S rfl rfl v_ ?_)
  refine aL_nil ?_
  refine awp_seq ?_
  refine awp_seq ?_
  refine awp_region (by kernel_rfl) ?_
  (refine aL_S rfl rfl v_ ?_)
  refine aL_X rfl rfl (AOp_use rfl rfl (.inr ⟨rfl, rfl, rfl⟩) g_ va_ (few06_f) ?_); rintro _ _ ⟨rfl, rfl⟩
  iterate 2 (refine aL_S rfl rfl v_ ?_)
  refine aL_GF rfl rfl v_ rfl vg_ ?_
  refine aL_GFX rfl rfl v_ rfl (fun hb => AOp_useV (by rfl) (by rfl) (.inr ⟨by rfl, by rfl, by rfl⟩) g_ cg_ (few07_f)) ?_
  refine aL_GF rfl rfl v_ rfl vg_ ?_
  (refine aL_S rfl rfl v_ ?_)
  refine aL_nil ?_
  refine awp_cond v_ (fun hc1 => ?_) (fun hc1 => ?_)
  · replace hc1 := nm_ hc1
    refine awp_seq ?_
    refine awp_region (by kernel_rfl) ?_
    refine aL_X rfl rfl (AOp_use rfl rfl (.inr ⟨rfl, rfl, rfl⟩) g_ va_ (awake11_c) ?_); rintro _ _ ⟨rfl, rfl⟩
    (refine aL_S rfl rfl v_ ?_)
    refine aL_nil ?_
    refine awp_ret ?_
    exact aEnd_ret (σ' := σ) va_ sub_ ⟨rfl, rfl⟩
  · replace hc1 := nm_ hc1
    have hs := (fewCb_iff.1 hc1.1).sm
    have ho := (fewOb_iff.1 hc1.2).sm
    have hle := ctxB_le hs.1 hs.2
    have hlo := objB_le ho
    have hlc : (ctxB c).length ≤ 10000000000 := by simp only [ctxB, listB, List.length_append, beI_length]; omega
    refine awp_skip ?_
    refine awp_seq ?_
    refine awp_region (by kernel_rfl) ?_
    (refine aL_S rfl rfl v_ ?_)
    refine aL_X rfl rfl (AOp_boxP rfl va_ fun o5 ho5 => ?_); obtain ⟨n5, ho5⟩ := none_set_iff.1 ho5
    (refine aL_S rfl rfl v_ ?_)
    refine aL_nil ?_
    have hw : WR ((σ.set o3 (.cells (sObj o).cells)).set o5 (.cells [.nilp o5 35 2, .lit (.slice none 0 0)])) o5 [] := ⟨_, _, none, Store.set_get .., .inr rfl, .inr ⟨rfl, rfl, rfl⟩⟩
    refine awp_seq ?_
    refine awp_region (by kernel_rfl) ?_
    iterate 2 (refine aL_S rfl rfl v_ ?_)
    refine aL_X rfl rfl (AOp_use rfl rfl (.inr ⟨rfl, rfl, rfl⟩) g_ va_ (wrCtx_c hw hs.1 hs.2 (by simp)) ?_); rintro _ τ1 ⟨rfl, a1, a2⟩
    have k1 := a2.keep (i := o3) (x := .cells (sObj o).cells) h_ (Ne.symm n5)
    refine aL_nil ?_
    refine awp_seq ?_
    have R := k1
    refine awp_region (by kernel_rfl) ?_
    iterate 2 (refine aL_S rfl rfl v_ ?_)
    refine aL_X rfl rfl (AOp_use rfl rfl (.inr ⟨rfl, rfl, rfl⟩) g_ va_ (wrObj_c a1 ho (by simp; omega)) ?_); rintro _ τ2 ⟨rfl, b1, b2⟩
    have k2 := b2.keep k1 (Ne.symm n5)
    refine aL_nil ?_
    refine awp_seq ?_
    have R := k2
    refine awp_region (by kernel_rfl) ?_
    (refine aL_S rfl rfl v_ ?_)
    refine aL_X rfl rfl (AOp_use rfl rfl (.inr ⟨rfl, rfl, rfl⟩) g_ va_ (wBytes_c ho) ?_); rintro _ _ ⟨rfl, rfl⟩
    iterate 5 (refine aL_S rfl rfl v_ ?_)
    refine aL_nil ?_
    refine awp_seq ?_
    have R := k2
    refine awp_region (by kernel_rfl) ?_
    (refine aL_S rfl rfl v_ ?_)
    refine aL_X rfl rfl (AOp_use rfl rfl (.inr ⟨rfl, rfl, rfl⟩) g_ va_ (rwBytes_c ho) ?_); rintro _ _ ⟨rfl, rfl⟩
    iterate 5 (refine aL_S rfl rfl v_ ?_)
    refine aL_nil ?_
    have hap : astr .add (B (ctxB c)) (B (objB o)) = some (.string (B (ctxB c ++ objB o))) := astr_addB _ _ (by omega)
    refine awp_seq ?_
    have R := And.intro k2 hap
    refine awp_draw (.op 0 0 (.op 2 0 (.alt 1 2 (.alt 3 2 (.op 4 2 (.op 5 2 (.op 6 2 (.op 7 2 (.op 8 0 (.op 9 0 (.op 10 0 (.op 11 2 (.op 12 0 (.op 13 0 (.op 14 0 (.op 15 0 (.op 16 2 (.op 17 0 (.op 18 0 (.alt 19 2 (.alt 20 2 (.op 21 2 (.op 22 2 (.op 23 2 (.op 24 0 (.op 25 0 (.op 26 2 (.op 27 0 (.op 28 0 .nil)))))))) (.op 21 2 (.op 20 2 (.op 22 2 (.op 23 2 (.op 24 0 (.op 25 0 (.op 26 2 (.op 27 0 (.op 28 0 .nil)))))))))) (.op 21 2 (.op 19 2 (.op 20 2 (.op 22 2 (.op 23 2 (.op 24 0 (.op 25 0 (.op 26 2 (.op 27 0 (.op 28 0 .nil)))))))))))))))))))))))))) (.op 4 2 (.op 3 2 (.op 5 2 (.op 6 2 (.op 7 2 (.op 8 0 (.op 9 0 (.op 10 0 (.op 11 2 (.op 12 0 (.op 13 0 (.op 14 0 (.op 15 0 (.op 16 2 (.op 17 0 (.op 18 0 (.alt 19 2 (.alt 20 2 (.op 21 2 (.op 22 2 (.op 23 2 (.op 24 0 (.op 25 0 (.op 26 2 (.op 27 0 (.op 28 0 .nil)))))))) (.op 21 2 (.op 20 2 (.op 22 2 (.op 23 2 (.op 24 0 (.op 25 0 (.op 26 2 (.op 27 0 (.op 28 0 .nil)))))))))) (.op 21 2 (.op 19 2 (.op 20 2 (.op 22 2 (.op 23 2 (.op 24 0 (.op 25 0 (.op 26 2 (.op 27 0 (.op 28 0 .nil)))))))))))))))))))))))))))) (.op 4 2 (.op 1 2 (.op 3 2 (.op 5 2 (.op 6 2 (.op 7 2 (.op 8 0 (.op 9 0 (.op 10 0 (.op 11 2 (.op 12 0 (.op 13 0 (.op 14 0 (.op 15 0 (.op 16 2 (.op 17 0 (.op 18 0 (.alt 19 2 (.alt 20 2 (.op 21 2 (.op 22 2 (.op 23 2 (.op 24 0 (.op 25 0 (.op 26 2 (.op 27 0 (.op 28 0 .nil)))))))) (.op 21 2 (.op 20 2 (.op 22 2 (.op 23 2 (.op 24 0 (.op 25 0 (.op 26 2 (.op 27 0 (.op 28 0 .nil)))))))))) (.op 21 2 (.op 19 2 (.op 20 2 (.op 22 2 (.op 23 2 (.op 24 0 (.op 25 0 (.op 26 2 (.op 27 0 (.op 28 0 .nil))))))))))))))))))))))))))))))) Tryz.mixed (by kernel_rfl) ?_
    iterate 2 (refine dR_S o_ (by rfl) (by rfl) v_ ?_)
    refine dR_alt ?_ ?_
    · refine dR_T o_ (by rfl) (by rfl) (AOp_use (by rfl) (by rfl) (.inr ⟨by rfl, by rfl, by rfl⟩) g_ va_ (wrBytes_c b1 (by simp; omega)) ?_); rintro _ τ3 ⟨rfl, d1⟩
      have k3 := d1.keep k2 (Ne.symm n5)
      have R := And.intro k3 hap
      refine dR_alt ?_ ?_
      · refine dR_T o_ (by rfl) (by rfl) (AOp_use (by rfl) (by rfl) (.inr ⟨by rfl, by rfl, by rfl⟩) g_ va_ (rCtx_c hs.1 hs.2) ?_); rintro _ _ ⟨rfl, rfl⟩
        refine dR_T o_ (by rfl) (by rfl) (AOp_val v_ ?_)
        refine dR_T o_ (by rfl) (by rfl) (AOp_use (by rfl) (by rfl) (.inr ⟨by rfl, by rfl, by rfl⟩) g_ va_ (rRaw_c ho) ?_); rintro _ _ ⟨rfl, rfl⟩
        refine dR_T o_ (by rfl) (by rfl) (AOp_val v_ ?_)
        refine dR_T o_ (by rfl) (by rfl) (AOp_val v_ ?_)
        (refine dR_S o_ (by rfl) (by rfl) v_ ?_)
        refine dR_GT o_ (by rfl) (by rfl) v_ (by rfl) vg_ ?_
        refine dR_GT o_ (by rfl) (by rfl) v_ (by rfl) vg_ ?_
        refine dR_TGT o_ (by rfl) (by rfl) v_ (by rfl) vg_ ?_
        iterate 2 (refine dR_S o_ (by rfl) (by rfl) v_ ?_)
        refine dR_GT o_ (by rfl) (by rfl) v_ (by rfl) vg_ ?_
        refine dR_GT o_ (by rfl) (by rfl) v_ (by rfl) vg_ ?_
        refine dR_TGT o_ (by rfl) (by rfl) v_ (by rfl) vg_ ?_
        iterate 2 (refine dR_S o_ (by rfl) (by rfl) v_ ?_)
        refine dR_alt ?_ ?_
        · refine dR_TGT o_ (by rfl) (by rfl) v_ (by rfl) vg_ ?_
          refine dR_alt ?_ ?_
          · refine dR_TGTX o_ (by rfl) (by rfl) v_ (by rfl) (fun hb => AOp_useV (by rfl) (by rfl) (.inr ⟨by rfl, by rfl, by rfl⟩) g_ cg_ (wDigest_c ho)) ?_
            refine dR_TGT o_ (by rfl) (by rfl) v_ (by rfl) vg_ ?_
            refine dR_TGTX o_ (by rfl) (by rfl) v_ (by rfl) (fun hb => AOp_useV (by rfl) (by rfl) (.inr ⟨by rfl, by rfl, by rfl⟩) g_ cg_ (rwDigest_c ho)) ?_
            refine dR_TGT o_ (by rfl) (by rfl) v_ (by rfl) vg_ ?_
            iterate 2 (refine dR_S o_ (by rfl) (by rfl) v_ ?_)
            refine dR_TGTX o_ (by rfl) (by rfl) v_ (by rfl) (fun hb => AOp_useV (by rfl) (by rfl) (.inr ⟨by rfl, by rfl, by rfl⟩) g_ cg_ (awake11_c)) ?_
            iterate 2 (refine dR_S o_ (by rfl) (by rfl) v_ ?_)
            refine dR_nil ?_
            refine awp_ret ?_
            have h1 := WF.sub (x := .cells [.nilp o5 35 2, .lit (.slice none 0 0)]) (by simp (disch := omega) only [Store.set_ne, ho5]) ((a2.trans b2).trans d1) (fun a t sz l hh => by simp at hh)
            exact aEnd_ret (σ' := σ) va_ (Store.Sub.wk (Store.Sub.trans (sub_set ho3) h1)) ⟨rfl, rfl⟩
          refine dR_TGT o_ (by rfl) (by rfl) v_ (by rfl) vg_ ?_
          refine dR_TGTX o_ (by rfl) (by rfl) v_ (by rfl) (fun hb => AOp_useV (by rfl) (by rfl) (.inr ⟨by rfl, by rfl, by rfl⟩) g_ cg_ (wDigest_c ho)) ?_
          refine dR_TGTX o_ (by rfl) (by rfl) v_ (by rfl) (fun hb => AOp_useV (by rfl) (by rfl) (.inr ⟨by rfl, by rfl, by rfl⟩) g_ cg_ (rwDigest_c ho)) ?_
          refine dR_TGT o_ (by rfl) (by rfl) v_ (by rfl) vg_ ?_
          iterate 2 (refine dR_S o_ (by rfl) (by rfl) v_ ?_)
          refine dR_TGTX o_ (by rfl) (by rfl) v_ (by rfl) (fun hb => AOp_useV (by rfl) (by rfl) (.inr ⟨by rfl, by rfl, by rfl⟩) g_ cg_ (awake11_c)) ?_
          iterate 2 (refine dR_S o_ (by rfl) (by rfl) v_ ?_)
          refine dR_nil ?_
          refine awp_ret ?_
          have h1 := WF.sub (x := .cells [.nilp o5 35 2, .lit (.slice none 0 0)]) (by simp (disch := omega) only [Store.set_ne, ho5]) ((a2.trans b2).trans d1) (fun a t sz l hh => by simp at hh)
          exact aEnd_ret (σ' := σ) va_ (Store.Sub.wk (Store.Sub.trans (sub_set ho3) h1)) ⟨rfl, rfl⟩
        refine dR_TGT o_ (by rfl) (by rfl) v_ (by rfl) vg_ ?_
        refine dR_TGT o_ (by rfl) (by rfl) v_ (by rfl) vg_ ?_
        refine dR_TGTX o_ (by rfl) (by rfl) v_ (by rfl) (fun hb => AOp_useV (by rfl) (by rfl) (.inr ⟨by rfl, by rfl, by rfl⟩) g_ cg_ (wDigest_c ho)) ?_
        refine dR_TGTX o_ (by rfl) (by rfl) v_ (by rfl) (fun hb => AOp_useV (by rfl) (by rfl) (.inr ⟨by rfl, by rfl, by rfl⟩) g_ cg_ (rwDigest_c ho)) ?_
        refine dR_TGT o_ (by rfl) (by rfl) v_ (by rfl) vg_ ?_
        iterate 2 (refine dR_S o_ (by rfl) (by rfl) v_ ?_)
        refine dR_TGTX o_ (by rfl) (by rfl) v_ (by rfl) (fun hb => AOp_useV (by rfl) (by rfl) (.inr ⟨by rfl, by rfl, by rfl⟩) g_ cg_ (awake11_c)) ?_
        iterate 2 (refine dR_S o_ (by rfl) (by rfl) v_ ?_)
        refine dR_nil ?_
        refine awp_ret ?_
        have h1 := WF.sub (x := .cells [.nilp o5 35 2, .lit (.slice none 0 0)]) (by simp (disch := omega) only [Store.set_ne, ho5]) ((a2.trans b2).trans d1) (fun a t sz l hh => by simp at hh)
        exact aEnd_ret (σ' := σ) va_ (Store.Sub.wk (Store.Sub.trans (sub_set ho3) h1)) ⟨rfl, rfl⟩
      refine dR_T o_ (by rfl) (by rfl) (AOp_val v_ ?_)
      refine dR_T o_ (by rfl) (by rfl) (AOp_use (by rfl) (by rfl) (.inr ⟨by rfl, by rfl, by rfl⟩) g_ va_ (rCtx_c hs.1 hs.2) ?_); rintro _ _ ⟨rfl, rfl⟩
      refine dR_T o_ (by rfl) (by rfl) (AOp_use (by rfl) (by rfl) (.inr ⟨by rfl, by rfl, by rfl⟩) g_ va_ (rRaw_c ho) ?_); rintro _ _ ⟨rfl, rfl⟩
      refine dR_T o_ (by rfl) (by rfl) (AOp_val v_ ?_)
      refine dR_T o_ (by rfl) (by rfl) (AOp_val v_ ?_)
      (refine dR_S o_ (by rfl) (by rfl) v_ ?_)
      refine dR_GT o_ (by rfl) (by rfl) v_ (by rfl) vg_ ?_
      refine dR_GT o_ (by rfl) (by rfl) v_ (by rfl) vg_ ?_
      refine dR_TGT o_ (by rfl) (by rfl) v_ (by rfl) vg_ ?_
      iterate 2 (refine dR_S o_ (by rfl) (by rfl) v_ ?_)
      refine dR_GT o_ (by rfl) (by rfl) v_ (by rfl) vg_ ?_
      refine dR_GT o_ (by rfl) (by rfl) v_ (by rfl) vg_ ?_
      refine dR_TGT o_ (by rfl) (by rfl) v_ (by rfl) vg_ ?_
      iterate 2 (refine dR_S o_ (by rfl) (by rfl) v_ ?_)
      refine dR_alt ?_ ?_
      · refine dR_TGT o_ (by rfl) (by rfl) v_ (by rfl) vg_ ?_
        refine dR_alt ?_ ?_
        · refine dR_TGTX o_ (by rfl) (by rfl) v_ (by rfl) (fun hb => AOp_useV (by rfl) (by rfl) (.inr ⟨by rfl, by rfl, by rfl⟩) g_ cg_ (wDigest_c ho)) ?_
          refine dR_TGT o_ (by rfl) (by rfl) v_ (by rfl) vg_ ?_
          refine dR_TGTX o_ (by rfl) (by rfl) v_ (by rfl) (fun hb => AOp_useV (by rfl) (by rfl) (.inr ⟨by rfl, by rfl, by rfl⟩) g_ cg_ (rwDigest_c ho)) ?_
          refine dR_TGT o_ (by rfl) (by rfl) v_ (by rfl) vg_ ?_
          iterate 2 (refine dR_S o_ (by rfl) (by rfl) v_ ?_)
          refine dR_TGTX o_ (by rfl) (by rfl) v_ (by rfl) (fun hb => AOp_useV (by rfl) (by rfl) (.inr ⟨by rfl, by rfl, by rfl⟩) g_ cg_ (awake11_c)) ?_
          iterate 2 (refine dR_S o_ (by rfl) (by rfl) v_ ?_)
          refine dR_nil ?_
          refine awp_ret ?_
          have h1 := WF.sub (x := .cells [.nilp o5 35 2, .lit (.slice none 0 0)]) (by simp (disch := omega) only [Store.set_ne, ho5]) ((a2.trans b2).trans d1) (fun a t sz l hh => by simp at hh)
          exact aEnd_ret (σ' := σ) va_ (Store.Sub.wk (Store.Sub.trans (sub_set ho3) h1)) ⟨rfl, rfl⟩
        refine dR_TGT o_ (by rfl) (by rfl) v_ (by rfl) vg_ ?_
        refine dR_TGTX o_ (by rfl) (by rfl) v_ (by rfl) (fun hb => AOp_useV (by rfl) (by rfl) (.inr ⟨by rfl, by rfl, by rfl⟩) g_ cg_ (wDigest_c ho)) ?_
        refine dR_TGTX o_ (by rfl) (by rfl) v_ (by rfl) (fun hb => AOp_useV (by rfl) (by rfl) (.inr ⟨by rfl, by rfl, by rfl⟩) g_ cg_ (rwDigest_c ho)) ?_
        refine dR_TGT o_ (by rfl) (by rfl) v_ (by rfl) vg_ ?_
        iterate 2 (refine dR_S o_ (by rfl) (by rfl) v_ ?_)
        refine dR_TGTX o_ (by rfl) (by rfl) v_ (by rfl) (fun hb => AOp_useV (by rfl) (by rfl) (.inr ⟨by rfl, by rfl, by rfl⟩) g_ cg_ (awake11_c)) ?_
        iterate 2 (refine dR_S o_ (by rfl) (by rfl) v_ ?_)
        refine dR_nil ?_
        refine awp_ret ?_
        have h1 := WF.sub (x := .cells [.nilp o5 35 2, .lit (.slice none 0 0)]) (by simp (disch := omega) only [Store.set_ne, ho5]) ((a2.trans b2).trans d1) (fun a t sz l hh => by simp at hh)
        exact aEnd_ret (σ' := σ) va_ (Store.Sub.wk (Store.Sub.trans (sub_set ho3) h1)) ⟨rfl, rfl⟩
      refine dR_TGT o_ (by rfl) (by rfl) v_ (by rfl) vg_ ?_
      refine dR_TGT o_ (by rfl) (by rfl) v_ (by rfl) vg_ ?_
      refine dR_TGTX o_ (by rfl) (by rfl) v_ (by rfl) (fun hb => AOp_useV (by rfl) (by rfl) (.inr ⟨by rfl, by rfl, by rfl⟩) g_ cg_ (wDigest_c ho)) ?_
      refine dR_TGTX o_ (by rfl) (by rfl) v_ (by rfl) (fun hb => AOp_useV (by rfl) (by rfl) (.inr ⟨by rfl, by rfl, by rfl⟩) g_ cg_ (rwDigest_c ho)) ?_
      refine dR_TGT o_ (by rfl) (by rfl) v_ (by rfl) vg_ ?_
      iterate 2 (refine dR_S o_ (by rfl) (by rfl) v_ ?_)
      refine dR_TGTX o_ (by rfl) (by rfl) v_ (by rfl) (fun hb => AOp_useV (by rfl) (by rfl) (.inr ⟨by rfl, by rfl, by rfl⟩) g_ cg_ (awake11_c)) ?_
      iterate 2 (refine dR_S o_ (by rfl) (by rfl) v_ ?_)
      refine dR_nil ?_
      refine awp_ret ?_
      have h1 := WF.sub (x := .cells [.nilp o5 35 2, .lit (.slice none 0 0)]) (by simp (disch := omega) only [Store.set_ne, ho5]) ((a2.trans b2).trans d1) (fun a t sz l hh => by simp at hh)
      exact aEnd_ret (σ' := σ) va_ (Store.Sub.wk (Store.Sub.trans (sub_set ho3) h1)) ⟨rfl, rfl⟩
    refine dR_T o_ (by rfl) (by rfl) (AOp_val v_ ?_)
    refine dR_T o_ (by rfl) (by rfl) (AOp_use (by rfl) (by rfl) (.inr ⟨by rfl, by rfl, by rfl⟩) g_ va_ (wrBytes_c b1 (by simp; omega)) ?_); rintro _ τ3 ⟨rfl, d1⟩
    have k3 := d1.keep k2 (Ne.symm n5)
    have R := And.intro k3 hap
    refine dR_T o_ (by rfl) (by rfl) (AOp_use (by rfl) (by rfl) (.inr ⟨by rfl, by rfl, by rfl⟩) g_ va_ (rCtx_c hs.1 hs.2) ?_); rintro _ _ ⟨rfl, rfl⟩
    refine dR_T o_ (by rfl) (by rfl) (AOp_use (by rfl) (by rfl) (.inr ⟨by rfl, by rfl, by rfl⟩) g_ va_ (rRaw_c ho) ?_); rintro _ _ ⟨rfl, rfl⟩
    refine dR_T o_ (by rfl) (by rfl) (AOp_val v_ ?_)
    refine dR_T o_ (by rfl) (by rfl) (AOp_val v_ ?_)
    (refine dR_S o_ (by rfl) (by rfl) v_ ?_)
    refine dR_GT o_ (by rfl) (by rfl) v_ (by rfl) vg_ ?_
    refine dR_GT o_ (by rfl) (by rfl) v_ (by rfl) vg_ ?_
    refine dR_TGT o_ (by rfl) (by rfl) v_ (by rfl) vg_ ?_
    iterate 2 (refine dR_S o_ (by rfl) (by rfl) v_ ?_)
    refine dR_GT o_ (by rfl) (by rfl) v_ (by rfl) vg_ ?_
    refine dR_GT o_ (by rfl) (by rfl) v_ (by rfl) vg_ ?_
    refine dR_TGT o_ (by rfl) (by rfl) v_ (by rfl) vg_ ?_
    iterate 2 (refine dR_S o_ (by rfl) (by rfl) v_ ?_)
    refine dR_alt ?_ ?_
    · refine dR_TGT o_ (by rfl) (by rfl) v_ (by rfl) vg_ ?_
      refine dR_alt ?_ ?_
      · refine dR_TGTX o_ (by rfl) (by rfl) v_ (by rfl) (fun hb => AOp_useV (by rfl) (by rfl) (.inr ⟨by rfl, by rfl, by rfl⟩) g_ cg_ (wDigest_c ho)) ?_
        refine dR_TGT o_ (by rfl) (by rfl) v_ (by rfl) vg_ ?_
        refine dR_TGTX o_ (by rfl) (by rfl) v_ (by rfl) (fun hb => AOp_useV (by rfl) (by rfl) (.inr ⟨by rfl, by rfl, by rfl⟩) g_ cg_ (rwDigest_c ho)) ?_
        refine dR_TGT o_ (by rfl) (by rfl) v_ (by rfl) vg_ ?_
        iterate 2 (refine dR_S o_ (by rfl) (by rfl) v_ ?_)
        refine dR_TGTX o_ (by rfl) (by rfl) v_ (by rfl) (fun hb => AOp_useV (by rfl) (by rfl) (.inr ⟨by rfl, by rfl, by rfl⟩) g_ cg_ (awake11_c)) ?_
        iterate 2 (refine dR_S o_ (by rfl) (by rfl) v_ ?_)
        refine dR_nil ?_
        refine awp_ret ?_
        have h1 := WF.sub (x := .cells [.nilp o5 35 2, .lit (.slice none 0 0)]) (by simp (disch := omega) only [Store.set_ne, ho5]) ((a2.trans b2).trans d1) (fun a t sz l hh => by simp at hh)
        exact aEnd_ret (σ' := σ) va_ (Store.Sub.wk (Store.Sub.trans (sub_set ho3) h1)) ⟨rfl, rfl⟩
      refine dR_TGT o_ (by rfl) (by rfl) v_ (by rfl) vg_ ?_
      refine dR_TGTX o_ (by rfl) (by rfl) v_ (by rfl) (fun hb => AOp_useV (by rfl) (by rfl) (.inr ⟨by rfl, by rfl, by rfl⟩) g_ cg_ (wDigest_c ho)) ?_
      refine dR_TGTX o_ (by rfl) (by rfl) v_ (by rfl) (fun hb => AOp_useV (by rfl) (by rfl) (.inr ⟨by rfl, by rfl, by rfl⟩) g_ cg_ (rwDigest_c ho)) ?_
      refine dR_TGT o_ (by rfl) (by rfl) v_ (by rfl) vg_ ?_
      iterate 2 (refine dR_S o_ (by rfl) (by rfl) v_ ?_)
      refine dR_TGTX o_ (by rfl) (by rfl) v_ (by rfl) (fun hb => AOp_useV (by rfl) (by rfl) (.inr ⟨by rfl, by rfl, by rfl⟩) g_ cg_ (awake11_c)) ?_
      iterate 2 (refine dR_S o_ (by rfl) (by rfl) v_ ?_)
      refine dR_nil ?_
      refine awp_ret ?_
      have h1 := WF.sub (x := .cells [.nilp o5 35 2, .lit (.slice none 0 0)]) (by simp (disch := omega) only [Store.set_ne, ho5]) ((a2.trans b2).trans d1) (fun a t sz l hh => by simp at hh)
      exact aEnd_ret (σ' := σ) va_ (Store.Sub.wk (Store.Sub.trans (sub_set ho3) h1)) ⟨rfl, rfl⟩
    refine dR_TGT o_ (by rfl) (by rfl) v_ (by rfl) vg_ ?_
    refine dR_TGT o_ (by rfl) (by rfl) v_ (by rfl) vg_ ?_
    refine dR_TGTX o_ (by rfl) (by rfl) v_ (by rfl) (fun hb => AOp_useV (by rfl) (by rfl) (.inr ⟨by rfl, by rfl, by rfl⟩) g_ cg_ (wDigest_c ho)) ?_
    refine dR_TGTX o_ (by rfl) (by rfl) v_ (by rfl) (fun hb => AOp_useV (by rfl) (by rfl) (.inr ⟨by rfl, by rfl, by rfl⟩) g_ cg_ (rwDigest_c ho)) ?_
    refine dR_TGT o_ (by rfl) (by rfl) v_ (by rfl) vg_ ?_
    iterate 2 (refine dR_S o_ (by rfl) (by rfl) v_ ?_)
    refine dR_TGTX o_ (by rfl) (by rfl) v_ (by rfl) (fun hb => AOp_useV (by rfl) (by rfl) (.inr ⟨by rfl, by rfl, by rfl⟩) g_ cg_ (awake11_c)) ?_
    iterate 2 (refine dR_S o_ (by rfl) (by rfl) v_ ?_)
    refine dR_nil ?_
    refine awp_ret ?_
    have h1 := WF.sub (x := .cells [.nilp o5 35 2, .lit (.slice none 0 0)]) (by simp (disch := omega) only [Store.set_ne, ho5]) ((a2.trans b2).trans d1) (fun a t sz l hh => by simp at hh)
    exact aEnd_ret (σ' := σ) va_ (Store.Sub.wk (Store.Sub.trans (sub_set ho3) h1)) ⟨rfl, rfl⟩
end Go.Proofs.YtgpibooklhakgaaGreat
end
