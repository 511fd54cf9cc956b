/-
  Walks and plain laws for the statement (see the law's own text). Own work (an AI agent).
-/
import Derived.Test.YtkjfpgjpeofndaaGreatDoorGK
import Derived.Test.YtkjfpgjpeofndaaGreatDoorGQ0
import Derived.Test.YtkjfpgjpeofndaaGreatDoorGQ1
import Derived.Test.YtkjfpgjpeofndaaGreatDoorGQ2
import Derived.Test.YtkjfpgjpeofndaaGreatDoorGQ3
import Derived.Test.YtkjfpgjpeofndaaGreatDoorGQ4
import Derived.Test.YtkjfpgjpeofndaaGreatDoorGQ5
import Derived.Test.YtkjfpgjpeofndaaGreatDoorGQ6
import Derived.Test.YtkjfpgjpeofndaaGreatDoorGQ7

section
set_option linter.all false
set_option maxRecDepth 100000
namespace Go.Nb
open Go.Ab
theorem fc_ {p:Ran→Prop} {a:Ran} {l:List Ran} (h:p a) (k:∀ e∈l,p e):∀ e∈a :: l,p e:=fun e he=>(List.mem_cons.1 he).elim (fun h'=>h' ▸ h) (k e)
theorem fn_ {p:Ran→Prop}:∀ e∈([]:List Ran),p e:=fun e he=>(by cases he)
theorem fa_ {p:Ran→Prop} {l m:List Ran} (h:∀ e∈l,p e) (k:∀ e∈m,p e):∀ e∈l ++ m,p e:=fun e he=>(List.mem_append.1 he).elim (h e) (k e)
theorem k0_ {e:Ran} (h:ranB Go.Proofs.Tryz.prog tabL0 100000 100 e=true):ci_ Go.Proofs.Tryz.prog e:=gB_ (gJ_ _) Go.Proofs.Tryz.mixed (c1_ ranC ov_) h
theorem oq_:∀ e∈ran0,ci_ Go.Proofs.Tryz.prog e:=fa_ (fc_ (k0_ q_r0) <| fc_ (k0_ q_r1) <| fc_ (k0_ q_r2) <| fc_ (k0_ q_r3) <| fc_ (k0_ q_r7) <| fc_ (k0_ xh_) <| fc_ (k0_ xi_) <| fc_ (k0_ xj_) <| fc_ (k0_ xk_) <| fc_ (k0_ xl_) <| fc_ (k0_ xm_) <| fc_ (k0_ xn_) <| fc_ (k0_ xo_) <| fc_ (k0_ xp_) <| fc_ (k0_ xq_) <| fc_ (k0_ xr_) <| fc_ (k0_ xs_) <| fc_ (k0_ xu_) <| fc_ (k0_ xv_) <| fc_ (k0_ xw_) <| fc_ (k0_ xx_) <| fc_ (k0_ xy_) <| fc_ (k0_ xz_) <| fc_ (k0_ xA_) <| fc_ (k0_ xB_) <| fc_ (k0_ xC_) <| fc_ (k0_ xF_) <| fc_ (k0_ xG_) <| fc_ (k0_ xH_) <| fc_ (k0_ xI_) <| fc_ (k0_ xM_) <| fc_ (k0_ xN_) <| fc_ (k0_ xO_) <| fc_ (k0_ xP_) <| fc_ (k0_ xR_) <| fc_ (k0_ xT_) <| fc_ (k0_ xW_) <| fc_ (k0_ vu_) <| fc_ (k0_ vy_) <| fc_ (k0_ vz_) <| fc_ (k0_ vB_) <| fc_ (k0_ vE_) <| fc_ (k0_ vG_) <| fc_ (k0_ vK_) <| fc_ (k0_ vL_) <| fc_ (k0_ vO_) <| fc_ (k0_ vT_) <| fn_) ov_
theorem k1_ {e:Ran} (h:ranB Go.Proofs.Tryz.prog tabL1 100000 100 e=true):ci_ Go.Proofs.Tryz.prog e:=gB_ (gJ_ _) Go.Proofs.Tryz.mixed (c1_ ran0 oq_) h
theorem or_:∀ e∈ran1,ci_ Go.Proofs.Tryz.prog e:=fa_ (fc_ (k1_ q_r4) <| fc_ (k1_ q_r5) <| fc_ (k1_ q_r8) <| fc_ (k1_ xt_) <| fc_ (k1_ xD_) <| fc_ (k1_ xJ_) <| fc_ (k1_ xQ_) <| fc_ (k1_ xS_) <| fc_ (k1_ xU_) <| fc_ (k1_ xX_) <| fc_ (k1_ vv_) <| fc_ (k1_ vA_) <| fc_ (k1_ vC_) <| fc_ (k1_ vF_) <| fc_ (k1_ vH_) <| fc_ (k1_ vM_) <| fc_ (k1_ vU_) <| fn_) oq_
theorem k2_ {e:Ran} (h:ranB Go.Proofs.Tryz.prog tabL2 100000 100 e=true):ci_ Go.Proofs.Tryz.prog e:=gB_ (gJ_ _) Go.Proofs.Tryz.mixed (c1_ ran1 or_) h
theorem os_:∀ e∈ran2,ci_ Go.Proofs.Tryz.prog e:=fa_ (fc_ (k2_ q_r6) <| fc_ (k2_ q_r9) <| fc_ (k2_ xK_) <| fc_ (k2_ xV_) <| fc_ (k2_ vw_) <| fc_ (k2_ vD_) <| fc_ (k2_ vI_) <| fc_ (k2_ vN_) <| fc_ (k2_ vP_) <| fn_) or_
theorem k3_ {e:Ran} (h:ranB Go.Proofs.Tryz.prog tabL3 100000 100 e=true):ci_ Go.Proofs.Tryz.prog e:=gB_ (gJ_ _) Go.Proofs.Tryz.mixed (c1_ ran2 os_) h
theorem ot_:∀ e∈ran3,ci_ Go.Proofs.Tryz.prog e:=fa_ (fc_ (k3_ xE_) <| fc_ (k3_ xL_) <| fc_ (k3_ vx_) <| fc_ (k3_ vJ_) <| fc_ (k3_ vQ_) <| fc_ (k3_ vR_) <| fn_) os_
theorem k4_ {e:Ran} (h:ranB Go.Proofs.Tryz.prog tabL4 100000 100 e=true):ci_ Go.Proofs.Tryz.prog e:=gB_ (gJ_ _) Go.Proofs.Tryz.mixed (c1_ ran3 ot_) h
theorem ou_:∀ e∈ran4,ci_ Go.Proofs.Tryz.prog e:=fa_ (fc_ (k4_ rG_) <| fc_ (k4_ vS_) <| fn_) ot_
theorem k5_ {e:Ran} (h:ranB Go.Proofs.Tryz.prog tabL5 100000 100 e=true):ci_ Go.Proofs.Tryz.prog e:=gB_ (gJ_ _) Go.Proofs.Tryz.mixed (c1_ ran4 ou_) h
theorem tl_:∀ e∈ran5,ci_ Go.Proofs.Tryz.prog e:=fa_ (fc_ (k5_ vV_) <| fn_) ou_
theorem root_c (σ:Store):Ab.ACalls Go.Proofs.Tryz.prog 6 [] σ fun v σ'=>v=.lit (.bool true)∧σ=σ' :=
 (toAb (fun s=>gB_ (gJ_ _) Go.Proofs.Tryz.mixed (c1_ ran5 tl_) vW_ s)).mono fun _ _ h=>⟨h.1,h.2.symm⟩
theorem row_make:∀ s:NSt,ACalls Go.Proofs.Tryz.prog r104.1 r104.2.1 s fun a s'=>a=r104.2.2∧s'=s:=k4_ rG_
end Go.Nb
end
