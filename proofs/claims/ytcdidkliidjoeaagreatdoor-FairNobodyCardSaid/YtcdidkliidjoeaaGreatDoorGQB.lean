/-
  Calls of pure functions,run by the kernel. Printed by gen_rows.py. Own work (an AI agent).
-/
import Derived.Test.YtcdidkliidjoeaaGreatDoorGQ
import Derived.Test.YtcdidkliidjoeaaGreatDoorProg
import Derived.KernelRfl

section
set_option linter.all false
set_option maxRecDepth 100000
namespace Go.Nb
open Go.Ab
theorem sC_:ranB Go.Proofs.Tryz.prog tabL0 100000 100 r13=true:=by kernel_rfl
theorem sL_:ranB Go.Proofs.Tryz.prog tabL1 100000 100 r22=true:=by kernel_rfl
theorem sQ_:ranB Go.Proofs.Tryz.prog tabL0 100000 100 r27=true:=by kernel_rfl
theorem p3_:ranB Go.Proofs.Tryz.prog tabL2 100000 100 r287=true:=by kernel_rfl
theorem sT_:ranB Go.Proofs.Tryz.prog tabL0 100000 100 r30=true:=by kernel_rfl
theorem qn_:ranB Go.Proofs.Tryz.prog tabL0 100000 100 r310=true:=by kernel_rfl
theorem qx_:ranB Go.Proofs.Tryz.prog tabL0 100000 100 r331=true:=by kernel_rfl
theorem qI_:ranB Go.Proofs.Tryz.prog tabL3 100000 100 r347=true:=by kernel_rfl
theorem qS_:ranB Go.Proofs.Tryz.prog tabL1 100000 100 r360=true:=by kernel_rfl
theorem q3_:ranB Go.Proofs.Tryz.prog tabL1 100000 100 r384=true:=by kernel_rfl
theorem rf_:ranB Go.Proofs.Tryz.prog tabL0 100000 100 r396=true:=by kernel_rfl
theorem tc_:ranB Go.Proofs.Tryz.prog tabL1 100000 100 r49=true:=by kernel_rfl
theorem q_r6:ranB Go.Proofs.Tryz.prog tabL2 100000 100 r6=true:=by kernel_rfl
theorem tx_:ranB Go.Proofs.Tryz.prog tabL0 100000 100 r70=true:=by kernel_rfl
theorem tI_:ranB Go.Proofs.Tryz.prog tabL0 100000 100 r81=true:=by kernel_rfl
end Go.Nb
end
