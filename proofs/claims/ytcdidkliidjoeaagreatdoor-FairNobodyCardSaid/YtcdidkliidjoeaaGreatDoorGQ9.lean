/-
  Calls of pure functions,run by the kernel. Printed by gen_rows.py. Own work (an AI agent).
-/
import Derived.Test.YtcdidkliidjoeaaGreatDoorGQ
import Derived.Test.YtcdidkliidjoeaaGreatDoorProg
import Derived.KernelRfl

section
set_option linter.all false
set_option maxRecDepth 100000
namespace Go.Nb
open Go.Ab
theorem sE_:ranB Go.Proofs.Tryz.prog tabL0 100000 100 r15=true:=by kernel_rfl
theorem sN_:ranB Go.Proofs.Tryz.prog tabL0 100000 100 r24=true:=by kernel_rfl
theorem pU_:ranB Go.Proofs.Tryz.prog tabL0 100000 100 r274=true:=by kernel_rfl
theorem p5_:ranB Go.Proofs.Tryz.prog tabL1 100000 100 r289=true:=by kernel_rfl
theorem qe_:ranB Go.Proofs.Tryz.prog tabL2 100000 100 r301=true:=by kernel_rfl
theorem qp_:ranB Go.Proofs.Tryz.prog tabL0 100000 100 r312=true:=by kernel_rfl
theorem qz_:ranB Go.Proofs.Tryz.prog tabL1 100000 100 r333=true:=by kernel_rfl
theorem sY_:ranB Go.Proofs.Tryz.prog tabL0 100000 100 r35=true:=by kernel_rfl
theorem qU_:ranB Go.Proofs.Tryz.prog tabL0 100000 100 r367=true:=by kernel_rfl
theorem q5_:ranB Go.Proofs.Tryz.prog tabL0 100000 100 r386=true:=by kernel_rfl
theorem q_r4:ranB Go.Proofs.Tryz.prog tabL1 100000 100 r4=true:=by kernel_rfl
theorem td_:ranB Go.Proofs.Tryz.prog tabL0 100000 100 r50=true:=by kernel_rfl
theorem to_:ranB Go.Proofs.Tryz.prog tabL1 100000 100 r61=true:=by kernel_rfl
theorem tz_:ranB Go.Proofs.Tryz.prog tabL0 100000 100 r72=true:=by kernel_rfl
theorem tK_:ranB Go.Proofs.Tryz.prog tabL2 100000 100 r83=true:=by kernel_rfl
end Go.Nb
end
