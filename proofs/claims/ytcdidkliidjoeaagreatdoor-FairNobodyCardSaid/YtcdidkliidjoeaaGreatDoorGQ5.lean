/-
  Calls of pure functions,run by the kernel. Printed by gen_rows.py. Own work (an AI agent).
-/
import Derived.Test.YtcdidkliidjoeaaGreatDoorGQ
import Derived.Test.YtcdidkliidjoeaaGreatDoorProg
import Derived.KernelRfl

section
set_option linter.all false
set_option maxRecDepth 100000
namespace Go.Nb
open Go.Ab
theorem pK_:ranB Go.Proofs.Tryz.prog tabL0 100000 100 r185=true:=by kernel_rfl
theorem pP_:ranB Go.Proofs.Tryz.prog tabL1 100000 100 r249=true:=by kernel_rfl
theorem pX_:ranB Go.Proofs.Tryz.prog tabL0 100000 100 r281=true:=by kernel_rfl
theorem p8_:ranB Go.Proofs.Tryz.prog tabL2 100000 100 r292=true:=by kernel_rfl
theorem qi_:ranB Go.Proofs.Tryz.prog tabL0 100000 100 r305=true:=by kernel_rfl
theorem qt_:ranB Go.Proofs.Tryz.prog tabL0 100000 100 r316=true:=by kernel_rfl
theorem qD_:ranB Go.Proofs.Tryz.prog tabL1 100000 100 r339=true:=by kernel_rfl
theorem qN_:ranB Go.Proofs.Tryz.prog tabL4 100000 100 r355=true:=by kernel_rfl
theorem qY_:ranB Go.Proofs.Tryz.prog tabL0 100000 100 r379=true:=by kernel_rfl
theorem s2_:ranB Go.Proofs.Tryz.prog tabL0 100000 100 r39=true:=by kernel_rfl
theorem s6_:ranB Go.Proofs.Tryz.prog tabL0 100000 100 r43=true:=by kernel_rfl
theorem th_:ranB Go.Proofs.Tryz.prog tabL0 100000 100 r54=true:=by kernel_rfl
theorem ts_:ranB Go.Proofs.Tryz.prog tabL1 100000 100 r65=true:=by kernel_rfl
theorem tD_:ranB Go.Proofs.Tryz.prog tabL0 100000 100 r76=true:=by kernel_rfl
theorem tO_:ranB Go.Proofs.Tryz.prog tabL1 100000 100 r87=true:=by kernel_rfl
end Go.Nb
end
