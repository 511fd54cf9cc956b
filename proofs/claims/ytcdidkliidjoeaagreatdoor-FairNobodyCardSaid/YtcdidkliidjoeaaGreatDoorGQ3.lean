/-
  Calls of pure functions,run by the kernel. Printed by gen_rows.py. Own work (an AI agent).
-/
import Derived.Test.YtcdidkliidjoeaaGreatDoorGQ
import Derived.Test.YtcdidkliidjoeaaGreatDoorProg
import Derived.KernelRfl

section
set_option linter.all false
set_option maxRecDepth 100000
namespace Go.Nb
open Go.Ab
theorem q_r1:ranB Go.Proofs.Tryz.prog tabL0 100000 100 r1=true:=by kernel_rfl
theorem q_r2:ranB Go.Proofs.Tryz.prog tabL0 100000 100 r2=true:=by kernel_rfl
theorem sP_:ranB Go.Proofs.Tryz.prog tabL0 100000 100 r26=true:=by kernel_rfl
theorem pZ_:ranB Go.Proofs.Tryz.prog tabL0 100000 100 r283=true:=by kernel_rfl
theorem qa_:ranB Go.Proofs.Tryz.prog tabL0 100000 100 r296=true:=by kernel_rfl
theorem qk_:ranB Go.Proofs.Tryz.prog tabL0 100000 100 r307=true:=by kernel_rfl
theorem qv_:ranB Go.Proofs.Tryz.prog tabL0 100000 100 r318=true:=by kernel_rfl
theorem qE_:ranB Go.Proofs.Tryz.prog tabL0 100000 100 r343=true:=by kernel_rfl
theorem qP_:ranB Go.Proofs.Tryz.prog tabL1 100000 100 r357=true:=by kernel_rfl
theorem qZ_:ranB Go.Proofs.Tryz.prog tabL0 100000 100 r380=true:=by kernel_rfl
theorem ra_:ranB Go.Proofs.Tryz.prog tabL1 100000 100 r391=true:=by kernel_rfl
theorem s8_:ranB Go.Proofs.Tryz.prog tabL1 100000 100 r45=true:=by kernel_rfl
theorem tj_:ranB Go.Proofs.Tryz.prog tabL0 100000 100 r56=true:=by kernel_rfl
theorem tu_:ranB Go.Proofs.Tryz.prog tabL1 100000 100 r67=true:=by kernel_rfl
theorem tF_:ranB Go.Proofs.Tryz.prog tabL3 100000 100 r78=true:=by kernel_rfl
theorem tQ_:ranB Go.Proofs.Tryz.prog tabL3 100000 100 r89=true:=by kernel_rfl
end Go.Nb
end
