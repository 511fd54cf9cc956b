/-
  Calls of pure functions,run by the kernel. Printed by gen_rows.py. Own work (an AI agent).
-/
import Derived.Test.YtcdidkliidjoeaaGreatDoorGQ
import Derived.Test.YtcdidkliidjoeaaGreatDoorProg
import Derived.KernelRfl

section
set_option linter.all false
set_option maxRecDepth 100000
namespace Go.Nb
open Go.Ab
theorem sD_:ranB Go.Proofs.Tryz.prog tabL0 100000 100 r14=true:=by kernel_rfl
theorem sM_:ranB Go.Proofs.Tryz.prog tabL0 100000 100 r23=true:=by kernel_rfl
theorem pT_:ranB Go.Proofs.Tryz.prog tabL0 100000 100 r272=true:=by kernel_rfl
theorem p4_:ranB Go.Proofs.Tryz.prog tabL0 100000 100 r288=true:=by kernel_rfl
theorem qd_:ranB Go.Proofs.Tryz.prog tabL1 100000 100 r300=true:=by kernel_rfl
theorem qo_:ranB Go.Proofs.Tryz.prog tabL0 100000 100 r311=true:=by kernel_rfl
theorem qy_:ranB Go.Proofs.Tryz.prog tabL0 100000 100 r332=true:=by kernel_rfl
theorem qJ_:ranB Go.Proofs.Tryz.prog tabL4 100000 100 r348=true:=by kernel_rfl
theorem qT_:ranB Go.Proofs.Tryz.prog tabL0 100000 100 r364=true:=by kernel_rfl
theorem q4_:ranB Go.Proofs.Tryz.prog tabL2 100000 100 r385=true:=by kernel_rfl
theorem rg_:ranB Go.Proofs.Tryz.prog tabL0 100000 100 r397=true:=by kernel_rfl
theorem q_r5:ranB Go.Proofs.Tryz.prog tabL1 100000 100 r5=true:=by kernel_rfl
theorem tn_:ranB Go.Proofs.Tryz.prog tabL0 100000 100 r60=true:=by kernel_rfl
theorem ty_:ranB Go.Proofs.Tryz.prog tabL1 100000 100 r71=true:=by kernel_rfl
theorem tJ_:ranB Go.Proofs.Tryz.prog tabL1 100000 100 r82=true:=by kernel_rfl
end Go.Nb
end
