/-
  Calls of pure functions,run by the kernel. Printed by gen_rows.py. Own work (an AI agent).
-/
import Derived.Test.YtkjfpgjpeofndaaGreatDoorGO
import Derived.Test.YtkjfpgjpeofndaaGreatDoorGQ

section
set_option linter.all false
set_option maxRecDepth 100000
namespace Go.Nb
open Go.Ab
theorem vA_:ranB Go.Proofs.Tryz.prog tabL1 100000 100 r114=true:=by kernel_rfl
theorem xj_:ranB Go.Proofs.Tryz.prog tabL0 100000 100 r12=true:=by kernel_rfl
theorem vG_:ranB Go.Proofs.Tryz.prog tabL0 100000 100 r120=true:=by kernel_rfl
theorem vH_:ranB Go.Proofs.Tryz.prog tabL1 100000 100 r121=true:=by kernel_rfl
theorem vK_:ranB Go.Proofs.Tryz.prog tabL0 100000 100 r126=true:=by kernel_rfl
theorem vM_:ranB Go.Proofs.Tryz.prog tabL1 100000 100 r131=true:=by kernel_rfl
theorem vO_:ranB Go.Proofs.Tryz.prog tabL0 100000 100 r136=true:=by kernel_rfl
theorem vT_:ranB Go.Proofs.Tryz.prog tabL0 100000 100 r144=true:=by kernel_rfl
theorem xo_:ranB Go.Proofs.Tryz.prog tabL0 100000 100 r17=true:=by kernel_rfl
theorem xF_:ranB Go.Proofs.Tryz.prog tabL0 100000 100 r34=true:=by kernel_rfl
theorem xL_:ranB Go.Proofs.Tryz.prog tabL3 100000 100 r44=true:=by kernel_rfl
end Go.Nb
end
