/-
  Calls of pure functions,run by the kernel. Printed by gen_rows.py. Own work (an AI agent).
-/
import Derived.Test.YtkjfpgjpeofndaaGreatDoorGO
import Derived.Test.YtkjfpgjpeofndaaGreatDoorGQ

section
set_option linter.all false
set_option maxRecDepth 100000
namespace Go.Nb
open Go.Ab
theorem vv_:ranB Go.Proofs.Tryz.prog tabL1 100000 100 r101=true:=by kernel_rfl
theorem vw_:ranB Go.Proofs.Tryz.prog tabL2 100000 100 r102=true:=by kernel_rfl
theorem vB_:ranB Go.Proofs.Tryz.prog tabL0 100000 100 r115=true:=by kernel_rfl
theorem xk_:ranB Go.Proofs.Tryz.prog tabL0 100000 100 r13=true:=by kernel_rfl
theorem vR_:ranB Go.Proofs.Tryz.prog tabL3 100000 100 r139=true:=by kernel_rfl
theorem xu_:ranB Go.Proofs.Tryz.prog tabL0 100000 100 r23=true:=by kernel_rfl
theorem xz_:ranB Go.Proofs.Tryz.prog tabL0 100000 100 r28=true:=by kernel_rfl
theorem xE_:ranB Go.Proofs.Tryz.prog tabL3 100000 100 r33=true:=by kernel_rfl
theorem q_r8:ranB Go.Proofs.Tryz.prog tabL1 100000 100 r8=true:=by kernel_rfl
theorem q_r9:ranB Go.Proofs.Tryz.prog tabL2 100000 100 r9=true:=by kernel_rfl
theorem xW_:ranB Go.Proofs.Tryz.prog tabL0 100000 100 r98=true:=by kernel_rfl
end Go.Nb
end
