/-
  Calls of pure functions,run by the kernel. Printed by gen_rows.py. Own work (an AI agent).
-/
import Derived.Test.YtkjfpgjpeofndaaGreatDoorGO
import Derived.Test.YtkjfpgjpeofndaaGreatDoorGQ

section
set_option linter.all false
set_option maxRecDepth 100000
namespace Go.Nb
open Go.Ab
theorem vC_:ranB Go.Proofs.Tryz.prog tabL1 100000 100 r116=true:=by kernel_rfl
theorem vU_:ranB Go.Proofs.Tryz.prog tabL1 100000 100 r145=true:=by kernel_rfl
theorem xw_:ranB Go.Proofs.Tryz.prog tabL0 100000 100 r25=true:=by kernel_rfl
theorem q_r3:ranB Go.Proofs.Tryz.prog tabL0 100000 100 r3=true:=by kernel_rfl
theorem xB_:ranB Go.Proofs.Tryz.prog tabL0 100000 100 r30=true:=by kernel_rfl
theorem xI_:ranB Go.Proofs.Tryz.prog tabL0 100000 100 r41=true:=by kernel_rfl
theorem xJ_:ranB Go.Proofs.Tryz.prog tabL1 100000 100 r42=true:=by kernel_rfl
theorem xK_:ranB Go.Proofs.Tryz.prog tabL2 100000 100 r43=true:=by kernel_rfl
theorem xO_:ranB Go.Proofs.Tryz.prog tabL0 100000 100 r90=true:=by kernel_rfl
theorem xP_:ranB Go.Proofs.Tryz.prog tabL0 100000 100 r91=true:=by kernel_rfl
end Go.Nb
end
