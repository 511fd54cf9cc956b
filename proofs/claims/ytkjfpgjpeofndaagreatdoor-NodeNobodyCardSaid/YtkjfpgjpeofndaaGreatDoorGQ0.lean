/-
  Calls of pure functions,run by the kernel. Printed by gen_rows.py. Own work (an AI agent).
-/
import Derived.Test.YtkjfpgjpeofndaaGreatDoorGO
import Derived.Test.YtkjfpgjpeofndaaGreatDoorGQ

section
set_option linter.all false
set_option maxRecDepth 100000
namespace Go.Nb
open Go.Ab
theorem q_r0:ranB Go.Proofs.Tryz.prog tabL0 100000 100 r0=true:=by kernel_rfl
theorem vJ_:ranB Go.Proofs.Tryz.prog tabL3 100000 100 r123=true:=by kernel_rfl
theorem vN_:ranB Go.Proofs.Tryz.prog tabL2 100000 100 r132=true:=by kernel_rfl
theorem vQ_:ranB Go.Proofs.Tryz.prog tabL3 100000 100 r138=true:=by kernel_rfl
theorem xl_:ranB Go.Proofs.Tryz.prog tabL0 100000 100 r14=true:=by kernel_rfl
theorem xG_:ranB Go.Proofs.Tryz.prog tabL0 100000 100 r35=true:=by kernel_rfl
theorem q_r6:ranB Go.Proofs.Tryz.prog tabL2 100000 100 r6=true:=by kernel_rfl
theorem vW_:ranB Go.Proofs.Tryz.prog tabL6 100000 100 xZ_=true:=by kernel_rfl
end Go.Nb
end
