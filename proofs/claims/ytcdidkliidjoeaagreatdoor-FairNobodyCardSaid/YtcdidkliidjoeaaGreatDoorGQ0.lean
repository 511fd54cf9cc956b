/-
  Calls of pure functions,run by the kernel. Printed by gen_rows.py. Own work (an AI agent).
-/
import Derived.Test.YtcdidkliidjoeaaGreatDoorGQ
import Derived.Test.YtcdidkliidjoeaaGreatDoorProg
import Derived.KernelRfl

section
set_option linter.all false
set_option maxRecDepth 100000
namespace Go.Nb
open Go.Ab
theorem sB_:ranB Go.Proofs.Tryz.prog tabL0 100000 100 r12=true:=by kernel_rfl
theorem sK_:ranB Go.Proofs.Tryz.prog tabL0 100000 100 r21=true:=by kernel_rfl
theorem p2_:ranB Go.Proofs.Tryz.prog tabL1 100000 100 r286=true:=by kernel_rfl
theorem q_r3:ranB Go.Proofs.Tryz.prog tabL0 100000 100 r3=true:=by kernel_rfl
theorem sU_:ranB Go.Proofs.Tryz.prog tabL0 100000 100 r31=true:=by kernel_rfl
theorem sW_:ranB Go.Proofs.Tryz.prog tabL0 100000 100 r33=true:=by kernel_rfl
theorem qH_:ranB Go.Proofs.Tryz.prog tabL3 100000 100 r346=true:=by kernel_rfl
theorem sZ_:ranB Go.Proofs.Tryz.prog tabL1 100000 100 r36=true:=by kernel_rfl
theorem q2_:ranB Go.Proofs.Tryz.prog tabL0 100000 100 r383=true:=by kernel_rfl
theorem rd_:ranB Go.Proofs.Tryz.prog tabL0 100000 100 r394=true:=by kernel_rfl
theorem tb_:ranB Go.Proofs.Tryz.prog tabL0 100000 100 r48=true:=by kernel_rfl
theorem tm_:ranB Go.Proofs.Tryz.prog tabL1 100000 100 r59=true:=by kernel_rfl
theorem q_r7:ranB Go.Proofs.Tryz.prog tabL0 100000 100 r7=true:=by kernel_rfl
theorem tH_:ranB Go.Proofs.Tryz.prog tabL1 100000 100 r80=true:=by kernel_rfl
theorem tS_:ranB Go.Proofs.Tryz.prog tabL0 100000 100 r94=true:=by kernel_rfl
end Go.Nb
end
