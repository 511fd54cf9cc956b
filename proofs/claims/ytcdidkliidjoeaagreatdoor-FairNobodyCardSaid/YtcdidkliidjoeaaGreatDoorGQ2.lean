/-
  Calls of pure functions,run by the kernel. Printed by gen_rows.py. Own work (an AI agent).
-/
import Derived.Test.YtcdidkliidjoeaaGreatDoorGQ
import Derived.Test.YtcdidkliidjoeaaGreatDoorProg
import Derived.KernelRfl

section
set_option linter.all false
set_option maxRecDepth 100000
namespace Go.Nb
open Go.Ab
theorem sz_:ranB Go.Proofs.Tryz.prog tabL0 100000 100 r10=true:=by kernel_rfl
theorem sJ_:ranB Go.Proofs.Tryz.prog tabL0 100000 100 r20=true:=by kernel_rfl
theorem pQ_:ranB Go.Proofs.Tryz.prog tabL2 100000 100 r265=true:=by kernel_rfl
theorem p0_:ranB Go.Proofs.Tryz.prog tabL1 100000 100 r284=true:=by kernel_rfl
theorem qb_:ranB Go.Proofs.Tryz.prog tabL0 100000 100 r298=true:=by kernel_rfl
theorem ql_:ranB Go.Proofs.Tryz.prog tabL0 100000 100 r308=true:=by kernel_rfl
theorem sV_:ranB Go.Proofs.Tryz.prog tabL1 100000 100 r32=true:=by kernel_rfl
theorem qF_:ranB Go.Proofs.Tryz.prog tabL0 100000 100 r344=true:=by kernel_rfl
theorem qQ_:ranB Go.Proofs.Tryz.prog tabL1 100000 100 r358=true:=by kernel_rfl
theorem q0_:ranB Go.Proofs.Tryz.prog tabL1 100000 100 r381=true:=by kernel_rfl
theorem rb_:ranB Go.Proofs.Tryz.prog tabL2 100000 100 r392=true:=by kernel_rfl
theorem s9_:ranB Go.Proofs.Tryz.prog tabL0 100000 100 r46=true:=by kernel_rfl
theorem tk_:ranB Go.Proofs.Tryz.prog tabL1 100000 100 r57=true:=by kernel_rfl
theorem tv_:ranB Go.Proofs.Tryz.prog tabL0 100000 100 r68=true:=by kernel_rfl
theorem tG_:ranB Go.Proofs.Tryz.prog tabL0 100000 100 r79=true:=by kernel_rfl
theorem q_r9:ranB Go.Proofs.Tryz.prog tabL2 100000 100 r9=true:=by kernel_rfl
end Go.Nb
end
