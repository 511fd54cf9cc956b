/-
  Calls of pure functions,run by the kernel. Printed by gen_rows.py. Own work (an AI agent).
-/
import Derived.Test.YtkjfpgjpeofndaaGreatDoorGO
import Derived.Test.YtkjfpgjpeofndaaGreatDoorGQ

section
set_option linter.all false
set_option maxRecDepth 100000
namespace Go.Nb
open Go.Ab
theorem q_r1:ranB Go.Proofs.Tryz.prog tabL0 100000 100 r1=true:=by kernel_rfl
theorem vz_:ranB Go.Proofs.Tryz.prog tabL0 100000 100 r113=true:=by kernel_rfl
theorem vI_:ranB Go.Proofs.Tryz.prog tabL2 100000 100 r122=true:=by kernel_rfl
theorem xn_:ranB Go.Proofs.Tryz.prog tabL0 100000 100 r16=true:=by kernel_rfl
theorem xs_:ranB Go.Proofs.Tryz.prog tabL0 100000 100 r21=true:=by kernel_rfl
theorem xy_:ranB Go.Proofs.Tryz.prog tabL0 100000 100 r27=true:=by kernel_rfl
theorem q_r4:ranB Go.Proofs.Tryz.prog tabL1 100000 100 r4=true:=by kernel_rfl
theorem xN_:ranB Go.Proofs.Tryz.prog tabL0 100000 100 r78=true:=by kernel_rfl
theorem xQ_:ranB Go.Proofs.Tryz.prog tabL1 100000 100 r92=true:=by kernel_rfl
theorem xS_:ranB Go.Proofs.Tryz.prog tabL1 100000 100 r94=true:=by kernel_rfl
theorem xT_:ranB Go.Proofs.Tryz.prog tabL0 100000 100 r95=true:=by kernel_rfl
end Go.Nb
end
