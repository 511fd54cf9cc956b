/-
  Calls of pure functions,run by the kernel. Printed by gen_rows.py. Own work (an AI agent).
-/
import Derived.Test.YtkjfpgjpeofndaaGreatDoorGO
import Derived.Test.YtkjfpgjpeofndaaGreatDoorGQ

section
set_option linter.all false
set_option maxRecDepth 100000
namespace Go.Nb
open Go.Ab
theorem vx_:ranB Go.Proofs.Tryz.prog tabL3 100000 100 r103=true:=by kernel_rfl
theorem xi_:ranB Go.Proofs.Tryz.prog tabL0 100000 100 r11=true:=by kernel_rfl
theorem vy_:ranB Go.Proofs.Tryz.prog tabL0 100000 100 r112=true:=by kernel_rfl
theorem vP_:ranB Go.Proofs.Tryz.prog tabL2 100000 100 r137=true:=by kernel_rfl
theorem q_r2:ranB Go.Proofs.Tryz.prog tabL0 100000 100 r2=true:=by kernel_rfl
theorem xr_:ranB Go.Proofs.Tryz.prog tabL0 100000 100 r20=true:=by kernel_rfl
theorem xt_:ranB Go.Proofs.Tryz.prog tabL1 100000 100 r22=true:=by kernel_rfl
theorem q_r5:ranB Go.Proofs.Tryz.prog tabL1 100000 100 r5=true:=by kernel_rfl
theorem xR_:ranB Go.Proofs.Tryz.prog tabL0 100000 100 r93=true:=by kernel_rfl
theorem xU_:ranB Go.Proofs.Tryz.prog tabL1 100000 100 r96=true:=by kernel_rfl
theorem xV_:ranB Go.Proofs.Tryz.prog tabL2 100000 100 r97=true:=by kernel_rfl
end Go.Nb
end
