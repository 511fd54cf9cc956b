/-
  ObjectOrder: the law. Own work (an AI agent).
-/
import Derived.Test.YtgpibooklhakgaaGreatHD
import Derived.Test.YtgpibooklhakgaaGreatHA

section
set_option linter.all false
set_option maxRecDepth 100000
namespace Go.Proofs.YtgpibooklhakgaaGreat
open Go.Ab

theorem covers_of {x y : Obj'} (h : mergeS x y = (x, 0)) : coversS x y = true := by rw [coversS, h]; simp
set_option maxHeartbeats 2000000 in
theorem objectOrder_c {a b c : Obj'} {σ : Store} : ACalls Tryz.prog 11 [sObj a, sObj b, sObj c] σ fun v σ' => v = vB true ∧ σ = σ' := by
  refine ACalls_of Tryz.func11 rfl Tryz.ntmps11 (congrArg Array.toList Tryz.results11) (by simp only [List.length_cons, List.length_nil]; decide) ?_; simp only [envOf_cons, envOf_nil, Nat.reduceAdd]
  refine awp_seq ?_
  refine awp_region (by kernel_rfl) ?_
  refine aL_box rfl rfl rfl v_ rfl g_ fun o3 ho3 => ?_
  repeat (rw [none_set_iff] at ho3; obtain ⟨_, ho3⟩ := ho3)
  refine aL_box rfl rfl rfl v_ rfl g_ fun o4 ho4 => ?_
  repeat (rw [none_set_iff] at ho4; obtain ⟨_, ho4⟩ := ho4)
  refine aL_box rfl rfl rfl v_ rfl g_ fun o5 ho5 => ?_
  repeat (rw [none_set_iff] at ho5; obtain ⟨_, ho5⟩ := ho5)
  (refine aL_S rfl rfl v_ ?_)
  refine aL_nil ?_
  skip
  refine awp_gen fun S hS => ?_
  have f3 : S.heap o3 = some (.cells (sObj a).cells) := by rw [hS]; simp (disch := omega) only [Store.set_ne, Store.set_get]; rfl
  have f4 : S.heap o4 = some (.cells (sObj b).cells) := by rw [hS]; simp (disch := omega) only [Store.set_ne, Store.set_get]; rfl
  have f5 : S.heap o5 = some (.cells (sObj c).cells) := by rw [hS]; simp (disch := omega) only [Store.set_ne, Store.set_get]; rfl
  have s0 : SubX [] σ S := by rw [hS]; exact (subx_new ho5 (subx_new ho4 (subx_new ho3 subx_refl)))
  clear hS
  refine awp_seq ?_
  refine awp_seq ?_
  have R := And.intro f3 (And.intro f4 f5)
  refine awp_region (by kernel_rfl) ?_
  (refine aL_S rfl rfl v_ ?_)
  refine aL_X rfl rfl (AOp_use rfl rfl (.inr ⟨rfl, rfl, rfl⟩) g_ va_ (few07_f) ?_); rintro _ _ ⟨rfl, rfl⟩
  iterate 2 (refine aL_S rfl rfl v_ ?_)
  refine aL_GF rfl rfl v_ rfl vg_ ?_
  refine aL_GFX rfl rfl v_ rfl (fun hb => AOp_useV (by rfl) (by rfl) (.inr ⟨by rfl, by rfl, by rfl⟩) g_ cg_ (few07_f)) ?_
  refine aL_GF rfl rfl v_ rfl vg_ ?_
  iterate 2 (refine aL_S rfl rfl v_ ?_)
  refine aL_GF rfl rfl v_ rfl vg_ ?_
  refine aL_GFX rfl rfl v_ rfl (fun hb => AOp_useV (by rfl) (by rfl) (.inr ⟨by rfl, by rfl, by rfl⟩) g_ cg_ (few07_f)) ?_
  refine aL_GF rfl rfl v_ rfl vg_ ?_
  iterate 2 (refine aL_S rfl rfl v_ ?_)
  refine aL_GF rfl rfl v_ rfl vg_ ?_
  refine aL_GFX rfl rfl v_ rfl (fun hb => AOp_useV (by rfl) (by rfl) (.inr ⟨by rfl, by rfl, by rfl⟩) g_ cg_ (rMay07_c (by have h := hb; simp at h; exact (fewOb_iff.1 h.1.1).sm))) ?_
  refine aL_GF rfl rfl v_ rfl vg_ ?_
  iterate 2 (refine aL_S rfl rfl v_ ?_)
  refine aL_GF rfl rfl v_ rfl vg_ ?_
  refine aL_GFX rfl rfl v_ rfl (fun hb => AOp_useV (by rfl) (by rfl) (.inr ⟨by rfl, by rfl, by rfl⟩) g_ cg_ (rMay07_c (by have h := hb; simp at h; exact (fewOb_iff.1 h.1.1.2).sm))) ?_
  refine aL_GF rfl rfl v_ rfl vg_ ?_
  iterate 2 (refine aL_S rfl rfl v_ ?_)
  refine aL_GF rfl rfl v_ rfl vg_ ?_
  refine aL_GFX rfl rfl v_ rfl (fun hb => AOp_useV (by rfl) (by rfl) (.inr ⟨by rfl, by rfl, by rfl⟩) g_ cg_ (rMay07_c (by have h := hb; simp at h; exact (fewOb_iff.1 h.1.1.2).sm))) ?_
  refine aL_GF rfl rfl v_ rfl vg_ ?_
  (refine aL_S rfl rfl v_ ?_)
  refine aL_nil ?_
  refine awp_cond v_ (fun hc1 => ?_) (fun hc1 => ?_)
  · replace hc1 := nm_ hc1
    refine awp_seq ?_
    refine awp_region (by kernel_rfl) ?_
    refine aL_X rfl rfl (AOp_use rfl rfl (.inr ⟨rfl, rfl, rfl⟩) g_ va_ (awake07_c) ?_); rintro _ _ ⟨rfl, rfl⟩
    (refine aL_S rfl rfl v_ ?_)
    refine aL_nil ?_
    refine awp_ret ?_
    exact aEnd_ret (σ' := σ) va_ (subx_start s0) ⟨rfl, rfl⟩
  · replace hc1 := nm_ hc1
    have fa := (fewOb_iff.1 hc1.1.1.1.1.1).okO hc1.1.1.2
    have fb := (fewOb_iff.1 hc1.1.1.1.1.2).okO hc1.1.2
    have fc := (fewOb_iff.1 hc1.1.1.1.2).okO hc1.2
    have sa := fa.sm (by decide)
    have sb := fb.sm (by decide)
    have sc := fc.sm (by decide)
    obtain ⟨mab, gab⟩ := fa.merge fb (by decide)
    have mba := (fb.merge fa (by decide)).1
    rw [merge_comm fb.good fa.good] at mba
    have maa := (fa.merge fa (by decide)).1
    rw [merge_self fa.good] at maa
    obtain ⟨mbc, gbc⟩ := fb.merge fc (by decide)
    obtain ⟨m1, g1⟩ := gab.merge fc (by decide)
    obtain ⟨m2, g2⟩ := fa.merge gbc (by decide)
    rw [← merge_assoc fa.good fb.good fc.good] at m2 g2
    have c1 : mergeS (mergeO a b) a = (mergeO a b, 0) := by rw [(gab.merge fa (by decide)).1, merge_comm gab.good fa.good, ← merge_assoc fa.good fa.good fb.good, merge_self fa.good]
    have c2 : mergeS (mergeO a b) b = (mergeO a b, 0) := by rw [(gab.merge fb (by decide)).1, merge_assoc fa.good fb.good fb.good, merge_self fb.good]
    have oab := gab.ok
    have sab := gab.sm (by decide)
    have sbc := gbc.sm (by decide)
    have s1 := g1.sm (by decide)
    have v1 := covers_of c1
    have v2 := covers_of c2
    have v3 := covers_of maa
    generalize hab : mergeO a b = ab at *
    generalize hbc : mergeO b c = bc at *
    generalize hone : mergeO ab c = one at *
    refine awp_skip ?_
    refine awp_seq ?_
    have R := And.intro f3 (And.intro f4 f5)
    refine awp_region (by kernel_rfl) ?_
    iterate 2 (refine aL_S rfl rfl v_ ?_)
    refine aL_X rfl rfl (AOp_use rfl rfl (.inr ⟨rfl, rfl, rfl⟩) g_ va_ (merge_c sa sb) ?_); rintro _ _ ⟨rfl, rfl⟩
    rw [mab]
    iterate 3 (refine aL_S rfl rfl v_ ?_)
    refine aL_alloc rfl rfl rfl g_ gl_ fun o7 ho7 => ?_
    repeat (rw [none_set_iff] at ho7; obtain ⟨_, ho7⟩ := ho7)
    refine aL_store rfl rfl rfl v_ v_ h_ g_ rfl g_ c_ (by rfl) le_ v_ ?_
    (refine aL_S rfl rfl v_ ?_)
    refine aL_nil ?_
    refine awp_gen fun S3 hS => ?_
    have f7 := gen_get hS
    have f3 := gen_keep hS ho7 f3
    have f4 := gen_keep hS ho7 f4
    have f5 := gen_keep hS ho7 f5
    have s0 := gen_sub hS ho7 s0
    clear hS
    refine awp_seq ?_
    have R := And.intro f3 (And.intro f4 (And.intro f5 f7))
    refine awp_region (by kernel_rfl) ?_
    iterate 2 (refine aL_S rfl rfl v_ ?_)
    refine aL_X rfl rfl (AOp_use rfl rfl (.inr ⟨rfl, rfl, rfl⟩) g_ va_ (merge_c sb sa) ?_); rintro _ _ ⟨rfl, rfl⟩
    rw [mba]
    iterate 3 (refine aL_S rfl rfl v_ ?_)
    refine aL_alloc rfl rfl rfl g_ gl_ fun o9 ho9 => ?_
    repeat (rw [none_set_iff] at ho9; obtain ⟨_, ho9⟩ := ho9)
    refine aL_store rfl rfl rfl v_ v_ h_ g_ rfl g_ c_ (by rfl) le_ v_ ?_
    (refine aL_S rfl rfl v_ ?_)
    refine aL_nil ?_
    refine awp_gen fun S4 hS => ?_
    have f9 := gen_get hS
    have f3 := gen_keep hS ho9 f3
    have f4 := gen_keep hS ho9 f4
    have f5 := gen_keep hS ho9 f5
    have f7 := gen_keep hS ho9 f7
    have s0 := gen_sub hS ho9 s0
    clear hS
    refine awp_seq ?_
    have R := And.intro f3 (And.intro f4 (And.intro f5 (And.intro f7 f9)))
    refine awp_region (by kernel_rfl) ?_
    iterate 2 (refine aL_S rfl rfl v_ ?_)
    refine aL_X rfl rfl (AOp_use rfl rfl (.inr ⟨rfl, rfl, rfl⟩) g_ va_ (merge_c sa sa) ?_); rintro _ _ ⟨rfl, rfl⟩
    rw [maa]
    iterate 3 (refine aL_S rfl rfl v_ ?_)
    refine aL_alloc rfl rfl rfl g_ gl_ fun o11 ho11 => ?_
    repeat (rw [none_set_iff] at ho11; obtain ⟨_, ho11⟩ := ho11)
    refine aL_store rfl rfl rfl v_ v_ h_ g_ rfl g_ c_ (by rfl) le_ v_ ?_
    (refine aL_S rfl rfl v_ ?_)
    refine aL_nil ?_
    refine awp_gen fun S5 hS => ?_
    have f11 := gen_get hS
    have f3 := gen_keep hS ho11 f3
    have f4 := gen_keep hS ho11 f4
    have f5 := gen_keep hS ho11 f5
    have f7 := gen_keep hS ho11 f7
    have f9 := gen_keep hS ho11 f9
    have s0 := gen_sub hS ho11 s0
    clear hS
    refine awp_seq ?_
    refine awp_seq ?_
    have R := And.intro f3 (And.intro f4 (And.intro f5 (And.intro f7 (And.intro f9 (And.intro f11 oab)))))
    refine awp_region (by kernel_rfl) ?_
    iterate 3 (refine aL_S rfl rfl v_ ?_)
    refine aL_GF rfl rfl v_ rfl vg_ ?_
    refine aL_GF rfl rfl v_ rfl vg_ ?_
    iterate 2 (refine aL_S rfl rfl v_ ?_)
    refine aL_GF rfl rfl v_ rfl vg_ ?_
    refine aL_GF rfl rfl v_ rfl vg_ ?_
    iterate 2 (refine aL_S rfl rfl v_ ?_)
    refine aL_GF rfl rfl v_ rfl vg_ ?_
    refine aL_GF rfl rfl v_ rfl vg_ ?_
    refine aL_GFX rfl rfl v_ rfl (fun hb => AOp_useV (by rfl) (by rfl) (.inr ⟨by rfl, by rfl, by rfl⟩) g_ cg_ (same07_f sab sab)) ?_
    refine aL_GF rfl rfl v_ rfl vg_ ?_
    iterate 2 (refine aL_S rfl rfl v_ ?_)
    refine aL_GF rfl rfl v_ rfl vg_ ?_
    refine aL_GF rfl rfl v_ rfl vg_ ?_
    refine aL_GFX rfl rfl v_ rfl (fun hb => AOp_useV (by rfl) (by rfl) (.inr ⟨by rfl, by rfl, by rfl⟩) g_ cg_ (same07_f sa sa)) ?_
    refine aL_GF rfl rfl v_ rfl vg_ ?_
    iterate 2 (refine aL_S rfl rfl v_ ?_)
    refine aL_GF rfl rfl v_ rfl vg_ ?_
    refine aL_GFX rfl rfl v_ rfl (fun hb => AOp_useV (by rfl) (by rfl) (.inr ⟨by rfl, by rfl, by rfl⟩) g_ cg_ (rMay07_c sab)) ?_
    refine aL_GF rfl rfl v_ rfl vg_ ?_
    (refine aL_S rfl rfl v_ ?_)
    refine aL_nil ?_
    refine awp_cond v_ (fun hc6 => ?_) (fun hc6 => ?_)
    · replace hc6 := nm_ hc6
      simp at hc6
    · replace hc6 := nm_ hc6
      refine awp_skip ?_
      refine awp_seq ?_
      refine awp_seq ?_
      have R := And.intro v1 (And.intro v2 (And.intro v3 (And.intro f3 (And.intro f4 (And.intro f5 (And.intro f7 (And.intro f9 f11)))))))
      refine awp_region (by kernel_rfl) ?_
      iterate 2 (refine aL_S rfl rfl v_ ?_)
      refine aL_X rfl rfl (AOp_use rfl rfl (.inr ⟨rfl, rfl, rfl⟩) g_ va_ (covers_c sab sa (by rw [c1]; exact sab)) ?_); rintro _ _ ⟨rfl, rfl⟩
      iterate 2 (refine aL_S rfl rfl v_ ?_)
      refine aL_GF rfl rfl v_ rfl vg_ ?_
      refine aL_GF rfl rfl v_ rfl vg_ ?_
      refine aL_GFX rfl rfl v_ rfl (fun hb => AOp_useV (by rfl) (by rfl) (.inr ⟨by rfl, by rfl, by rfl⟩) g_ cg_ (covers_c sab sb (by rw [c2]; exact sab))) ?_
      refine aL_GF rfl rfl v_ rfl vg_ ?_
      iterate 2 (refine aL_S rfl rfl v_ ?_)
      refine aL_GF rfl rfl v_ rfl vg_ ?_
      refine aL_GF rfl rfl v_ rfl vg_ ?_
      refine aL_GFX rfl rfl v_ rfl (fun hb => AOp_useV (by rfl) (by rfl) (.inr ⟨by rfl, by rfl, by rfl⟩) g_ cg_ (covers_c sa sa (by rw [maa]; exact sa))) ?_
      refine aL_GF rfl rfl v_ rfl vg_ ?_
      (refine aL_S rfl rfl v_ ?_)
      refine aL_nil ?_
      refine awp_cond v_ (fun hc8 => ?_) (fun hc8 => ?_)
      · replace hc8 := nm_ hc8
        simp [v1, v2, v3] at hc8
      · replace hc8 := nm_ hc8
        refine awp_skip ?_
        refine awp_seq ?_
        have R := And.intro f3 (And.intro f4 (And.intro f5 (And.intro f7 (And.intro f9 f11))))
        refine awp_region (by kernel_rfl) ?_
        iterate 2 (refine aL_S rfl rfl v_ ?_)
        refine aL_X rfl rfl (AOp_use rfl rfl (.inr ⟨rfl, rfl, rfl⟩) g_ va_ (merge_c sb sc) ?_); rintro _ _ ⟨rfl, rfl⟩
        rw [mbc]
        iterate 3 (refine aL_S rfl rfl v_ ?_)
        refine aL_alloc rfl rfl rfl g_ gl_ fun o13 ho13 => ?_
        repeat (rw [none_set_iff] at ho13; obtain ⟨_, ho13⟩ := ho13)
        refine aL_store rfl rfl rfl v_ v_ h_ g_ rfl g_ c_ (by rfl) le_ v_ ?_
        (refine aL_S rfl rfl v_ ?_)
        refine aL_nil ?_
        refine awp_gen fun S10 hS => ?_
        have f13 := gen_get hS
        have f3 := gen_keep hS ho13 f3
        have f4 := gen_keep hS ho13 f4
        have f5 := gen_keep hS ho13 f5
        have f7 := gen_keep hS ho13 f7
        have f9 := gen_keep hS ho13 f9
        have f11 := gen_keep hS ho13 f11
        have s0 := gen_sub hS ho13 s0
        clear hS
        refine awp_seq ?_
        have R := And.intro f3 (And.intro f4 (And.intro f5 (And.intro f7 (And.intro f9 (And.intro f11 f13)))))
        refine awp_region (by kernel_rfl) ?_
        iterate 2 (refine aL_S rfl rfl v_ ?_)
        refine aL_X rfl rfl (AOp_use rfl rfl (.inr ⟨rfl, rfl, rfl⟩) g_ va_ (merge_c sab sc) ?_); rintro _ _ ⟨rfl, rfl⟩
        rw [m1]
        iterate 3 (refine aL_S rfl rfl v_ ?_)
        refine aL_alloc rfl rfl rfl g_ gl_ fun o15 ho15 => ?_
        repeat (rw [none_set_iff] at ho15; obtain ⟨_, ho15⟩ := ho15)
        refine aL_store rfl rfl rfl v_ v_ h_ g_ rfl g_ c_ (by rfl) le_ v_ ?_
        (refine aL_S rfl rfl v_ ?_)
        refine aL_nil ?_
        refine awp_gen fun S11 hS => ?_
        have f15 := gen_get hS
        have f3 := gen_keep hS ho15 f3
        have f4 := gen_keep hS ho15 f4
        have f5 := gen_keep hS ho15 f5
        have f7 := gen_keep hS ho15 f7
        have f9 := gen_keep hS ho15 f9
        have f11 := gen_keep hS ho15 f11
        have f13 := gen_keep hS ho15 f13
        have s0 := gen_sub hS ho15 s0
        clear hS
        refine awp_seq ?_
        have R := And.intro f3 (And.intro f4 (And.intro f5 (And.intro f7 (And.intro f9 (And.intro f11 (And.intro f13 f15))))))
        refine awp_region (by kernel_rfl) ?_
        iterate 2 (refine aL_S rfl rfl v_ ?_)
        refine aL_X rfl rfl (AOp_use rfl rfl (.inr ⟨rfl, rfl, rfl⟩) g_ va_ (merge_c sa sbc) ?_); rintro _ _ ⟨rfl, rfl⟩
        rw [m2]
        iterate 3 (refine aL_S rfl rfl v_ ?_)
        refine aL_alloc rfl rfl rfl g_ gl_ fun o17 ho17 => ?_
        repeat (rw [none_set_iff] at ho17; obtain ⟨_, ho17⟩ := ho17)
        refine aL_store rfl rfl rfl v_ v_ h_ g_ rfl g_ c_ (by rfl) le_ v_ ?_
        (refine aL_S rfl rfl v_ ?_)
        refine aL_nil ?_
        refine awp_gen fun S12 hS => ?_
        have f17 := gen_get hS
        have f3 := gen_keep hS ho17 f3
        have f4 := gen_keep hS ho17 f4
        have f5 := gen_keep hS ho17 f5
        have f7 := gen_keep hS ho17 f7
        have f9 := gen_keep hS ho17 f9
        have f11 := gen_keep hS ho17 f11
        have f13 := gen_keep hS ho17 f13
        have f15 := gen_keep hS ho17 f15
        have s0 := gen_sub hS ho17 s0
        clear hS
        refine awp_seq ?_
        have R := And.intro f3 (And.intro f4 (And.intro f5 (And.intro f7 (And.intro f9 (And.intro f11 (And.intro f13 (And.intro f15 f17)))))))
        refine awp_region (by kernel_rfl) ?_
        iterate 3 (refine aL_S rfl rfl v_ ?_)
        refine aL_GT rfl rfl v_ rfl vg_ ?_
        refine aL_GT rfl rfl v_ rfl vg_ ?_
        iterate 2 (refine aL_S rfl rfl v_ ?_)
        refine aL_GT rfl rfl v_ rfl vg_ ?_
        refine aL_GT rfl rfl v_ rfl vg_ ?_
        iterate 2 (refine aL_S rfl rfl v_ ?_)
        refine aL_GT rfl rfl v_ rfl vg_ ?_
        refine aL_GT rfl rfl v_ rfl vg_ ?_
        refine aL_GTX rfl rfl v_ rfl (fun hb => AOp_useV (by rfl) (by rfl) (.inr ⟨by rfl, by rfl, by rfl⟩) g_ cg_ (same07_f s1 s1)) ?_
        iterate 2 (refine aL_S rfl rfl v_ ?_)
        refine aL_GTX rfl rfl v_ rfl (fun hb => AOp_useV (by rfl) (by rfl) (.inr ⟨by rfl, by rfl, by rfl⟩) g_ cg_ (awake07_c)) ?_
        iterate 2 (refine aL_S rfl rfl v_ ?_)
        refine aL_nil ?_
        refine awp_ret ?_
        exact aEnd_ret (σ' := σ) va_ (subx_start s0) ⟨rfl, rfl⟩
end Go.Proofs.YtgpibooklhakgaaGreat
end
