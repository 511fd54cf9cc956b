/-
  Calls that were run before come to what the table says,in every store. Printed by gen_rows.py; The closed run of layer 46: its parts,and the root. Own work (an AI agent).
-/
import Derived.Test.YtcdidkliidjoeaaGreatDoorGK
import Derived.Test.YtcdidkliidjoeaaGreatDoorGO
import Derived.Test.YtcdidkliidjoeaaGreatDoorGQ0
import Derived.Test.YtcdidkliidjoeaaGreatDoorGQ1
import Derived.Test.YtcdidkliidjoeaaGreatDoorGQ2
import Derived.Test.YtcdidkliidjoeaaGreatDoorGQ3
import Derived.Test.YtcdidkliidjoeaaGreatDoorGQ4
import Derived.Test.YtcdidkliidjoeaaGreatDoorGQ5
import Derived.Test.YtcdidkliidjoeaaGreatDoorGQ6
import Derived.Test.YtcdidkliidjoeaaGreatDoorGQ7
import Derived.Test.YtcdidkliidjoeaaGreatDoorGQ8
import Derived.Test.YtcdidkliidjoeaaGreatDoorGQ9
import Derived.Test.YtcdidkliidjoeaaGreatDoorGQA
import Derived.Test.YtcdidkliidjoeaaGreatDoorGQB
import Derived.Test.YtcdidkliidjoeaaGreatDoorGQC
import Derived.Test.YtcdidkliidjoeaaGreatDoorGQD
import Derived.Test.YtcdidkliidjoeaaGreatDoorGQE
import Derived.Test.YtcdidkliidjoeaaGreatDoorGQF
import Derived.Test.YtcdidkliidjoeaaGreatDoorGQG
import Derived.Test.YtcdidkliidjoeaaGreatDoorGQH
import Derived.Test.YtcdidkliidjoeaaGreatDoorGG1
import Derived.Test.YtcdidkliidjoeaaGreatDoorGG2
import Derived.Test.YtcdidkliidjoeaaGreatDoorGG3
import Derived.Test.YtcdidkliidjoeaaGreatDoorGGR

section
set_option linter.all false
set_option maxRecDepth 100000
namespace Go.Nb
open Go.Ab
theorem fc_ {p:Ran→Prop} {a:Ran} {l:List Ran} (h:p a) (k:∀ e∈l,p e):∀ e∈a :: l,p e:=fun e he=>(List.mem_cons.1 he).elim (fun h'=>h' ▸ h) (k e)
theorem fn_ {p:Ran→Prop}:∀ e∈([]:List Ran),p e:=fun e he=>(by cases he)
theorem fa_ {p:Ran→Prop} {l m:List Ran} (h:∀ e∈l,p e) (k:∀ e∈m,p e):∀ e∈l ++ m,p e:=fun e he=>(List.mem_append.1 he).elim (h e) (k e)
theorem k0_ {e:Ran} (h:ranB Go.Proofs.Tryz.prog tabL0 100000 100 e=true):bt_ Go.Proofs.Tryz.prog e:=fF_ (c0_ _ gg_) Go.Proofs.Tryz.mixed (bz_ ranC kK_) h
theorem kG_:∀ e∈ran0,bt_ Go.Proofs.Tryz.prog e:=fa_ (fc_ (k0_ q_r0) <| fc_ (k0_ q_r1) <| fc_ (k0_ q_r2) <| fc_ (k0_ q_r3) <| fc_ (k0_ q_r7) <| fc_ (k0_ sz_) <| fc_ (k0_ sA_) <| fc_ (k0_ sB_) <| fc_ (k0_ sC_) <| fc_ (k0_ sD_) <| fc_ (k0_ sE_) <| fc_ (k0_ sF_) <| fc_ (k0_ sG_) <| fc_ (k0_ sH_) <| fc_ (k0_ sI_) <| fc_ (k0_ sJ_) <| fc_ (k0_ sK_) <| fc_ (k0_ sM_) <| fc_ (k0_ sN_) <| fc_ (k0_ sO_) <| fc_ (k0_ sP_) <| fc_ (k0_ sQ_) <| fc_ (k0_ sR_) <| fc_ (k0_ sS_) <| fc_ (k0_ sT_) <| fc_ (k0_ sU_) <| fc_ (k0_ sW_) <| fc_ (k0_ sY_) <| fc_ (k0_ s0_) <| fc_ (k0_ s2_) <| fc_ (k0_ s4_) <| fc_ (k0_ s6_) <| fc_ (k0_ s7_) <| fc_ (k0_ s9_) <| fc_ (k0_ tb_) <| fc_ (k0_ td_) <| fc_ (k0_ tf_) <| fc_ (k0_ th_) <| fc_ (k0_ tj_) <| fc_ (k0_ tl_) <| fc_ (k0_ tn_) <| fc_ (k0_ tp_) <| fc_ (k0_ tr_) <| fc_ (k0_ tt_) <| fc_ (k0_ tv_) <| fc_ (k0_ tx_) <| fc_ (k0_ tz_) <| fc_ (k0_ tB_) <| fc_ (k0_ tD_) <| fc_ (k0_ tG_) <| fc_ (k0_ tI_) <| fc_ (k0_ tL_) <| fc_ (k0_ tN_) <| fc_ (k0_ tS_) <| fc_ (k0_ pK_) <| fc_ (k0_ pL_) <| fc_ (k0_ pM_) <| fc_ (k0_ pO_) <| fc_ (k0_ pS_) <| fc_ (k0_ pT_) <| fc_ (k0_ pU_) <| fc_ (k0_ pV_) <| fc_ (k0_ pW_) <| fc_ (k0_ pX_) <| fc_ (k0_ pZ_) <| fc_ (k0_ p1_) <| fc_ (k0_ p4_) <| fc_ (k0_ p6_) <| fc_ (k0_ qa_) <| fc_ (k0_ qb_) <| fc_ (k0_ qc_) <| fc_ (k0_ qg_) <| fc_ (k0_ qh_) <| fc_ (k0_ qi_) <| fc_ (k0_ qj_) <| fc_ (k0_ qk_) <| fc_ (k0_ ql_) <| fc_ (k0_ qm_) <| fc_ (k0_ qn_) <| fc_ (k0_ qo_) <| fc_ (k0_ qp_) <| fc_ (k0_ qq_) <| fc_ (k0_ qr_) <| fc_ (k0_ qs_) <| fc_ (k0_ qt_) <| fc_ (k0_ qv_) <| fc_ (k0_ qx_) <| fc_ (k0_ qy_) <| fc_ (k0_ qA_) <| fc_ (k0_ qE_) <| fc_ (k0_ qF_) <| fc_ (k0_ qK_) <| fc_ (k0_ qL_) <| fc_ (k0_ qO_) <| fc_ (k0_ qR_) <| fc_ (k0_ qT_) <| fc_ (k0_ qU_) <| fc_ (k0_ qW_) <| fc_ (k0_ qY_) <| fc_ (k0_ qZ_) <| fc_ (k0_ q2_) <| fc_ (k0_ q5_) <| fc_ (k0_ q9_) <| fc_ (k0_ rd_) <| fc_ (k0_ rf_) <| fc_ (k0_ rg_) <| fn_) kK_
theorem k1_ {e:Ran} (h:ranB Go.Proofs.Tryz.prog tabL1 100000 100 e=true):bt_ Go.Proofs.Tryz.prog e:=fF_ (c0_ _ gg_) Go.Proofs.Tryz.mixed (bz_ ran0 kG_) h
theorem kH_:∀ e∈ran1,bt_ Go.Proofs.Tryz.prog e:=fa_ (fc_ (k1_ q_r4) <| fc_ (k1_ q_r5) <| fc_ (k1_ q_r8) <| fc_ (k1_ sL_) <| fc_ (k1_ sV_) <| fc_ (k1_ sX_) <| fc_ (k1_ sZ_) <| fc_ (k1_ s1_) <| fc_ (k1_ s3_) <| fc_ (k1_ s5_) <| fc_ (k1_ s8_) <| fc_ (k1_ ta_) <| fc_ (k1_ tc_) <| fc_ (k1_ te_) <| fc_ (k1_ tg_) <| fc_ (k1_ ti_) <| fc_ (k1_ tk_) <| fc_ (k1_ tm_) <| fc_ (k1_ to_) <| fc_ (k1_ tq_) <| fc_ (k1_ ts_) <| fc_ (k1_ tu_) <| fc_ (k1_ tw_) <| fc_ (k1_ ty_) <| fc_ (k1_ tA_) <| fc_ (k1_ tC_) <| fc_ (k1_ tE_) <| fc_ (k1_ tH_) <| fc_ (k1_ tJ_) <| fc_ (k1_ tM_) <| fc_ (k1_ tO_) <| fc_ (k1_ pN_) <| fc_ (k1_ pP_) <| fc_ (k1_ pY_) <| fc_ (k1_ p0_) <| fc_ (k1_ p2_) <| fc_ (k1_ p5_) <| fc_ (k1_ p7_) <| fc_ (k1_ qd_) <| fc_ (k1_ qu_) <| fc_ (k1_ qw_) <| fc_ (k1_ qz_) <| fc_ (k1_ qB_) <| fc_ (k1_ qD_) <| fc_ (k1_ qP_) <| fc_ (k1_ qQ_) <| fc_ (k1_ qS_) <| fc_ (k1_ qV_) <| fc_ (k1_ qX_) <| fc_ (k1_ q0_) <| fc_ (k1_ q3_) <| fc_ (k1_ q6_) <| fc_ (k1_ ra_) <| fc_ (k1_ re_) <| fc_ (k1_ rh_) <| fn_) kG_
theorem k2_ {e:Ran} (h:ranB Go.Proofs.Tryz.prog tabL2 100000 100 e=true):bt_ Go.Proofs.Tryz.prog e:=fF_ (c0_ _ gg_) Go.Proofs.Tryz.mixed (bz_ ran1 kH_) h
theorem kI_:∀ e∈ran2,bt_ Go.Proofs.Tryz.prog e:=fa_ (fc_ (k2_ q_r6) <| fc_ (k2_ q_r9) <| fc_ (k2_ tK_) <| fc_ (k2_ tP_) <| fc_ (k2_ pQ_) <| fc_ (k2_ p3_) <| fc_ (k2_ p8_) <| fc_ (k2_ qe_) <| fc_ (k2_ qC_) <| fc_ (k2_ qG_) <| fc_ (k2_ q1_) <| fc_ (k2_ q4_) <| fc_ (k2_ q7_) <| fc_ (k2_ rb_) <| fn_) kH_
theorem k3_ {e:Ran} (h:ranB Go.Proofs.Tryz.prog tabL3 100000 100 e=true):bt_ Go.Proofs.Tryz.prog e:=fF_ (c0_ _ gg_) Go.Proofs.Tryz.mixed (bz_ ran2 kI_) h
theorem kJ_:∀ e∈ran3,bt_ Go.Proofs.Tryz.prog e:=fa_ (fc_ (k3_ tF_) <| fc_ (k3_ tQ_) <| fc_ (k3_ pR_) <| fc_ (k3_ p9_) <| fc_ (k3_ qf_) <| fc_ (k3_ qH_) <| fc_ (k3_ qI_) <| fc_ (k3_ qM_) <| fc_ (k3_ q8_) <| fn_) kI_
theorem k4_ {e:Ran} (h:ranB Go.Proofs.Tryz.prog tabL4 100000 100 e=true):bt_ Go.Proofs.Tryz.prog e:=fF_ (c0_ _ gg_) Go.Proofs.Tryz.mixed (bz_ ran3 kJ_) h
theorem f7_:∀ e∈ran4,bt_ Go.Proofs.Tryz.prog e:=fa_ (fc_ (k4_ tR_) <| fc_ (k4_ qJ_) <| fc_ (k4_ qN_) <| fc_ (k4_ rc_) <| fn_) kJ_
theorem rq_:∀ e∈sgs,je_ Go.Proofs.Tryz.prog e :=
 List.forall_mem_cons.2 ⟨kQ_ (c0_ _ gg_) Go.Proofs.Tryz.mixed (bz_ ran4 f7_) q_g0,
 List.forall_mem_cons.2 ⟨kQ_ (c0_ _ gg_) Go.Proofs.Tryz.mixed (bz_ ran4 f7_) q_g1,
 List.forall_mem_cons.2 ⟨kQ_ (c0_ _ gg_) Go.Proofs.Tryz.mixed (bz_ ran4 f7_) q_g2,fun _ h=>nomatch h⟩⟩⟩
theorem root_c (σ:Store):Ab.ACalls Go.Proofs.Tryz.prog 21 [] σ fun v σ'=>v=.lit (.bool true)∧σ=σ' :=
 (toAb (fun s=>fF_ (c0_ _ (rv_ gg_ rq_)) Go.Proofs.Tryz.mixed (bz_ ran4 f7_) ri_ s)).mono fun _ _ h=>⟨h.1,h.2.symm⟩
end Go.Nb
end
