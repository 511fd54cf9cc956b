/-
  Calls of pure functions,run by the kernel. Printed by gen_rows.py. Own work (an AI agent).
-/
import Derived.Test.YtcdidkliidjoeaaGreatDoorGQ
import Derived.Test.YtcdidkliidjoeaaGreatDoorProg
import Derived.KernelRfl

section
set_option linter.all false
set_option maxRecDepth 100000
namespace Go.Nb
open Go.Ab
theorem q_r0:ranB Go.Proofs.Tryz.prog tabL0 100000 100 r0=true:=by kernel_rfl
theorem sI_:ranB Go.Proofs.Tryz.prog tabL0 100000 100 r19=true:=by kernel_rfl
theorem sO_:ranB Go.Proofs.Tryz.prog tabL0 100000 100 r25=true:=by kernel_rfl
theorem pY_:ranB Go.Proofs.Tryz.prog tabL1 100000 100 r282=true:=by kernel_rfl
theorem p9_:ranB Go.Proofs.Tryz.prog tabL3 100000 100 r293=true:=by kernel_rfl
theorem qj_:ranB Go.Proofs.Tryz.prog tabL0 100000 100 r306=true:=by kernel_rfl
theorem qu_:ranB Go.Proofs.Tryz.prog tabL1 100000 100 r317=true:=by kernel_rfl
theorem sX_:ranB Go.Proofs.Tryz.prog tabL1 100000 100 r34=true:=by kernel_rfl
theorem qO_:ranB Go.Proofs.Tryz.prog tabL0 100000 100 r356=true:=by kernel_rfl
theorem s1_:ranB Go.Proofs.Tryz.prog tabL1 100000 100 r38=true:=by kernel_rfl
theorem q9_:ranB Go.Proofs.Tryz.prog tabL0 100000 100 r390=true:=by kernel_rfl
theorem s7_:ranB Go.Proofs.Tryz.prog tabL0 100000 100 r44=true:=by kernel_rfl
theorem ti_:ranB Go.Proofs.Tryz.prog tabL1 100000 100 r55=true:=by kernel_rfl
theorem tt_:ranB Go.Proofs.Tryz.prog tabL0 100000 100 r66=true:=by kernel_rfl
theorem tE_:ranB Go.Proofs.Tryz.prog tabL1 100000 100 r77=true:=by kernel_rfl
theorem tP_:ranB Go.Proofs.Tryz.prog tabL2 100000 100 r88=true:=by kernel_rfl
end Go.Nb
end
