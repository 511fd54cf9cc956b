/-
  MessageBack: the law. Own work (an AI agent).
-/
import Derived.Test.YtbjloippgpilcaaGreatJI
import Derived.Test.YtbjloippgpilcaaGreatJY
import Derived.Test.YtbjloippgpilcaaGreatJR

section
set_option linter.all false
set_option maxRecDepth 100000
namespace Go.Proofs.YtbjloippgpilcaaGreat
open Go.Ab

theorem msgB_inj {a b : Msg} (ha : MsgRt a) (hb : MsgRt b) (h : msgB a = msgB b) : a = b := by
  have h1 := rdMsg_app ha []
  have h2 := rdMsg_app hb []
  rw [h, h2] at h1
  exact (congrArg (fun z => z.1) h1).symm
theorem msgB_pos (m : Msg) : 1 ≤ (msgB m).length := by
  simp only [msgB, headB, List.length_append, beI_length]; omega
set_option maxHeartbeats 1000000 in
theorem msgBack_c {a b : Msg} {n : Int} {σ : Store} (hIa : MsgI a) (hIb : MsgI b) (hn : 0 ≤ n ∧ n ≤ 65535) : ACalls Tryz.prog 4 [sMsg a, sMsg b, .lit (.int .u16 n)] σ fun v σ' => v = vB true ∧ σ = σ' := by
  refine ACalls_of Tryz.func4 rfl Tryz.ntmps4 (congrArg Array.toList Tryz.results4) (by simp only [List.length_cons, List.length_nil]; decide) ?_; simp only [envOf_cons, envOf_nil, Nat.reduceAdd]
  refine awp_seq ?_
  refine awp_region (by kernel_rfl) ?_
  refine aL_box rfl rfl rfl v_ rfl g_ fun o3 ho3 => ?_
  repeat (rw [none_set_iff] at ho3; obtain ⟨_, ho3⟩ := ho3)
  refine aL_box rfl rfl rfl v_ rfl g_ fun o4 ho4 => ?_
  repeat (rw [none_set_iff] at ho4; obtain ⟨_, ho4⟩ := ho4)
  (refine aL_S rfl rfl v_ ?_)
  refine aL_nil ?_
  refine awp_seq ?_
  refine awp_seq ?_
  refine awp_region (by kernel_rfl) ?_
  (refine aL_S rfl rfl v_ ?_)
  refine aL_X rfl rfl (AOp_use rfl rfl (.inr ⟨rfl, rfl, rfl⟩) g_ va_ (fewM_c) ?_); rintro _ _ ⟨rfl, rfl⟩
  iterate 2 (refine aL_S rfl rfl v_ ?_)
  refine aL_GF rfl rfl v_ rfl vg_ ?_
  refine aL_GFX rfl rfl v_ rfl (fun hb => AOp_useV (by rfl) (by rfl) (.inr ⟨by rfl, by rfl, by rfl⟩) g_ cg_ (fewM_c)) ?_
  refine aL_GF rfl rfl v_ rfl vg_ ?_
  iterate 2 (refine aL_S rfl rfl v_ ?_)
  refine aL_GF rfl rfl v_ rfl vg_ ?_
  refine aL_GFX rfl rfl v_ rfl (fun hb => AOp_useV (by rfl) (by rfl) (.inr ⟨by rfl, by rfl, by rfl⟩) g_ cg_ (rMay32_c (fewM_sm (by have h := hb; simp at h; exact h.1)))) ?_
  refine aL_GF rfl rfl v_ rfl vg_ ?_
  iterate 2 (refine aL_S rfl rfl v_ ?_)
  refine aL_GF rfl rfl v_ rfl vg_ ?_
  refine aL_GFX rfl rfl v_ rfl (fun hb => AOp_useV (by rfl) (by rfl) (.inr ⟨by rfl, by rfl, by rfl⟩) g_ cg_ (rMay32_c (fewM_sm (by have h := hb; simp at h; exact h.1.2)))) ?_
  refine aL_GF rfl rfl v_ rfl vg_ ?_
  (refine aL_S rfl rfl v_ ?_)
  refine aL_nil ?_
  refine awp_cond v_ (fun hc1 => ?_) (fun hc1 => ?_)
  · replace hc1 := nm_ hc1
    refine awp_seq ?_
    refine awp_region (by kernel_rfl) ?_
    refine aL_X rfl rfl (AOp_use rfl rfl (.inr ⟨rfl, rfl, rfl⟩) g_ va_ (awake32_c) ?_); rintro _ _ ⟨rfl, rfl⟩
    (refine aL_S rfl rfl v_ ?_)
    refine aL_nil ?_
    refine awp_ret ?_
    refine aEnd_ret (σ' := σ) v_ sub_ ?_
    exact ⟨rfl, rfl⟩
  · replace hc1 := nm_ hc1
    have sa := fewM_sm hc1.1.1.1
    have sb := fewM_sm hc1.1.1.2
    have ra := msgOk_rt hc1.1.2 sa hIa
    have rb := msgOk_rt hc1.2 sb hIb
    have okA : msgOk a = true := hc1.1.2
    have ea := rdMsg_app ra []
    rw [List.append_nil] at ea
    have wa : mofW (msgB a) = (a, 0) := by simp [mofW, mofOk, ea, okA]
    have hinj : decide (B (msgB a) = B (msgB b)) = decide (a = b) := by
      rw [decide_eq_decide, B_eq_iff]
      exact ⟨msgB_inj ra rb, fun h => by rw [h]⟩
    have hp := msgB_pos a
    have hz := B_size (msgB a)
    have hla : (msgB a).length ≤ 400000000000 := by
      have l := sa.ln
      have q1 := sa.frm; have q2 := sa.to; have q3 := sa.place
      have p1 := l.texts; have p2 := l.leaves; have p3 := l.items; have p4 := l.ents; have p5 := l.obj
      simp only [msgB, headB, listB, List.length_append, beI_length, textB_length]; omega
    refine awp_skip ?_
    refine awp_seq ?_
    refine awp_region (by kernel_rfl) ?_
    (refine aL_S rfl rfl v_ ?_)
    refine aL_X rfl rfl (AOp_use rfl rfl (.inr ⟨rfl, rfl, rfl⟩) g_ va_ (mBytes_c sa) ?_); rintro _ _ ⟨rfl, rfl⟩
    (refine aL_S rfl rfl v_ ?_)
    refine aL_nil ?_
    refine awp_seq ?_
    refine awp_region (by kernel_rfl) ?_
    (refine aL_S rfl rfl v_ ?_)
    refine aL_X rfl rfl (AOp_use rfl rfl (.inr ⟨rfl, rfl, rfl⟩) g_ va_ (mOf_g (s := msgB a) (by rw [ea]; exact fun _ => sa)) ?_); rintro _ _ ⟨rfl, rfl⟩
    rw [wa]
    iterate 3 (refine aL_S rfl rfl v_ ?_)
    refine aL_alloc rfl rfl rfl g_ gl_ fun o8 ho8 => ?_
    repeat (rw [none_set_iff] at ho8; obtain ⟨_, ho8⟩ := ho8)
    refine aL_store rfl rfl rfl v_ v_ h_ g_ rfl g_ c_ (by rfl) le_ v_ ?_
    (refine aL_S rfl rfl v_ ?_)
    refine aL_nil ?_
    refine awp_seq ?_
    refine awp_seq ?_
    refine awp_draw (.op 0 0 (.op 1 0 (.op 2 1 (.op 3 0 (.op 4 0 (.op 5 0 (.op 6 0 (.op 7 0 (.op 8 0 (.op 9 0 (.op 10 0 (.op 11 0 (.op 12 0 (.op 13 0 (.op 14 0 (.op 15 0 (.op 18 0 (.op 19 0 (.op 16 1 (.op 17 0 (.op 20 1 (.op 21 0 (.op 22 0 .nil))))))))))))))))))))))) Tryz.mixed (by kernel_rfl) ?_
    iterate 2 (refine dR_S o_ (by rfl) (by rfl) v_ ?_)
    refine dR_X o_ (by rfl) (by rfl) (AOp_use (by rfl) (by rfl) (.inr ⟨by rfl, by rfl, by rfl⟩) g_ va_ (sameM_c sa sa) ?_); rintro _ _ ⟨rfl, rfl⟩; refine ⟨sub_, ?_⟩
    iterate 2 (refine dR_S o_ (by rfl) (by rfl) v_ ?_)
    refine dR_GF o_ (by rfl) (by rfl) v_ (by rfl) vg_ ?_
    refine dR_GF o_ (by rfl) (by rfl) v_ (by rfl) vg_ ?_
    iterate 2 (refine dR_S o_ (by rfl) (by rfl) v_ ?_)
    refine dR_GF o_ (by rfl) (by rfl) v_ (by rfl) vg_ ?_
    refine dR_GF o_ (by rfl) (by rfl) v_ (by rfl) vg_ ?_
    refine dR_GF o_ (by rfl) (by rfl) v_ (by rfl) vg_ ?_
    iterate 2 (refine dR_S o_ (by rfl) (by rfl) v_ ?_)
    refine dR_GF o_ (by rfl) (by rfl) v_ (by rfl) vg_ ?_
    refine dR_GF o_ (by rfl) (by rfl) v_ (by rfl) vg_ ?_
    refine dR_GF o_ (by rfl) (by rfl) v_ (by rfl) vg_ ?_
    refine dR_GF o_ (by rfl) (by rfl) v_ (by rfl) vg_ ?_
    refine dR_GFX o_ (by rfl) (by rfl) v_ (by rfl) sub_ (fun hb => AOp_useV (by rfl) (by rfl) (.inr ⟨by rfl, by rfl, by rfl⟩) g_ cg_ (mBytes_c sb)) ?_
    refine dR_GF o_ (by rfl) (by rfl) v_ (by rfl) vg_ ?_
    refine dR_GFX o_ (by rfl) (by rfl) v_ (by rfl) sub_ (fun hb => AOp_useV (by rfl) (by rfl) (.inr ⟨by rfl, by rfl, by rfl⟩) g_ cg_ (sameM_c sa sb)) ?_
    refine dR_GF o_ (by rfl) (by rfl) v_ (by rfl) vg_ ?_
    (refine dR_S o_ (by rfl) (by rfl) v_ ?_)
    refine dR_nil ?_
    refine awp_cond v_ (fun hc5 => ?_) (fun hc5 => ?_)
    · replace hc5 := nm_ hc5
      (rcases hc5 with h | h; (omega); (rw [hinj, beq_self_eq_true] at h; cases h))
    · replace hc5 := nm_ hc5
      refine awp_skip ?_
      refine awp_seq ?_
      obtain ⟨c, rfl⟩ : ∃ c : Nat, n = c := ⟨n.toNat, by omega⟩
      obtain ⟨L, hL⟩ : ∃ L, (msgB a).length = L := ⟨_, rfl⟩
      rw [hL] at hz hp hla
      have hk : c % L < L := Nat.mod_lt _ (by omega)
      have htm : aint .rem .i64 (c : Int) .i64 (L : Int) = some (.int .i64 ((c % L : Nat) : Int)) := aint_rem .i64 _ _ (by omega)
      have hcut : (rdMsg ((msgB a).take (c % L), true)).2.2 = false := rdMsg_cut (m := a) (q := (msgB a).drop (c % L)) ea (List.take_append_drop _ _) (fun h => by have := congrArg List.length h; rw [List.length_drop, hL] at this; simp only [List.length_nil] at this; omega)
      have hex : (B (msgB a)).extract 0 (c % L) = B ((msgB a).take (c % L)) := by rw [extract_B, Lb_B]; rfl
      have hw : mofW ((msgB a).take (c % L)) = (msg0, 3) := by simp [mofW, mofOk, hcut]
      have R := And.intro hz (And.intro htm hex)
      refine awp_region (by kernel_rfl) ?_
      iterate 7 (refine aL_S rfl rfl v_ ?_)
      refine aL_X rfl rfl (AOp_use rfl rfl (.inr ⟨rfl, rfl, rfl⟩) g_ va_ (mOf_g (s := (msgB a).take (c % L)) (by rw [hcut]; exact fun h => by cases h)) ?_); rintro _ _ ⟨rfl, rfl⟩
      rw [hw]
      iterate 3 (refine aL_S rfl rfl v_ ?_)
      refine aL_alloc rfl rfl rfl g_ gl_ fun o10 ho10 => ?_
      repeat (rw [none_set_iff] at ho10; obtain ⟨_, ho10⟩ := ho10)
      refine aL_store rfl rfl rfl v_ v_ h_ g_ rfl g_ c_ (by rfl) le_ v_ ?_
      (refine aL_S rfl rfl v_ ?_)
      refine aL_nil ?_
      refine awp_seq ?_
      refine awp_region (by kernel_rfl) ?_
      iterate 3 (refine aL_S rfl rfl v_ ?_)
      refine aL_GTX rfl rfl v_ rfl (fun hb => AOp_useV (by rfl) (by rfl) (.inr ⟨by rfl, by rfl, by rfl⟩) g_ cg_ (awake32_c)) ?_
      iterate 2 (refine aL_S rfl rfl v_ ?_)
      refine aL_nil ?_
      refine awp_ret ?_
      exact aEnd_ret (σ' := σ) va_ (subx_start (subx_new ho10 (subx_new ho10 (subx_new ho8 (subx_new ho8 (subx_new ho4 (subx_new ho3 subx_refl))))))) ⟨rfl, rfl⟩
end Go.Proofs.YtbjloippgpilcaaGreat
end
