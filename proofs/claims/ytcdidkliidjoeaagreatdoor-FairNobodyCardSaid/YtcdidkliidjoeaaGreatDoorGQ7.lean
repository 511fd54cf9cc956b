/-
  Calls of pure functions,run by the kernel. Printed by gen_rows.py. Own work (an AI agent).
-/
import Derived.Test.YtcdidkliidjoeaaGreatDoorGQ
import Derived.Test.YtcdidkliidjoeaaGreatDoorProg
import Derived.KernelRfl

section
set_option linter.all false
set_option maxRecDepth 100000
namespace Go.Nb
open Go.Ab
theorem sG_:ranB Go.Proofs.Tryz.prog tabL0 100000 100 r17=true:=by kernel_rfl
theorem pN_:ranB Go.Proofs.Tryz.prog tabL1 100000 100 r245=true:=by kernel_rfl
theorem pW_:ranB Go.Proofs.Tryz.prog tabL0 100000 100 r279=true:=by kernel_rfl
theorem p6_:ranB Go.Proofs.Tryz.prog tabL0 100000 100 r290=true:=by kernel_rfl
theorem qg_:ranB Go.Proofs.Tryz.prog tabL0 100000 100 r303=true:=by kernel_rfl
theorem qr_:ranB Go.Proofs.Tryz.prog tabL0 100000 100 r314=true:=by kernel_rfl
theorem qB_:ranB Go.Proofs.Tryz.prog tabL1 100000 100 r337=true:=by kernel_rfl
theorem qL_:ranB Go.Proofs.Tryz.prog tabL0 100000 100 r353=true:=by kernel_rfl
theorem qV_:ranB Go.Proofs.Tryz.prog tabL1 100000 100 r374=true:=by kernel_rfl
theorem q7_:ranB Go.Proofs.Tryz.prog tabL2 100000 100 r388=true:=by kernel_rfl
theorem s4_:ranB Go.Proofs.Tryz.prog tabL0 100000 100 r41=true:=by kernel_rfl
theorem tf_:ranB Go.Proofs.Tryz.prog tabL0 100000 100 r52=true:=by kernel_rfl
theorem tq_:ranB Go.Proofs.Tryz.prog tabL1 100000 100 r63=true:=by kernel_rfl
theorem tB_:ranB Go.Proofs.Tryz.prog tabL0 100000 100 r74=true:=by kernel_rfl
theorem tM_:ranB Go.Proofs.Tryz.prog tabL1 100000 100 r85=true:=by kernel_rfl
end Go.Nb
end
