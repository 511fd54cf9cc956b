/-
  Calls of pure functions,run by the kernel. Printed by gen_rows.py. Own work (an AI agent).
-/
import Derived.Test.YtkjfpgjpeofndaaGreatDoorGO
import Derived.Test.YtkjfpgjpeofndaaGreatDoorGQ

section
set_option linter.all false
set_option maxRecDepth 100000
namespace Go.Nb
open Go.Ab
theorem xh_:ranB Go.Proofs.Tryz.prog tabL0 100000 100 r10=true:=by kernel_rfl
theorem vu_:ranB Go.Proofs.Tryz.prog tabL0 100000 100 r100=true:=by kernel_rfl
theorem vF_:ranB Go.Proofs.Tryz.prog tabL1 100000 100 r119=true:=by kernel_rfl
theorem vL_:ranB Go.Proofs.Tryz.prog tabL0 100000 100 r130=true:=by kernel_rfl
theorem vV_:ranB Go.Proofs.Tryz.prog tabL5 100000 100 r146=true:=by kernel_rfl
theorem xm_:ranB Go.Proofs.Tryz.prog tabL0 100000 100 r15=true:=by kernel_rfl
theorem xq_:ranB Go.Proofs.Tryz.prog tabL0 100000 100 r19=true:=by kernel_rfl
theorem xx_:ranB Go.Proofs.Tryz.prog tabL0 100000 100 r26=true:=by kernel_rfl
theorem xC_:ranB Go.Proofs.Tryz.prog tabL0 100000 100 r31=true:=by kernel_rfl
theorem xD_:ranB Go.Proofs.Tryz.prog tabL1 100000 100 r32=true:=by kernel_rfl
end Go.Nb
end
