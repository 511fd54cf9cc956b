/-
  Calls of pure functions,run by the kernel. Printed by gen_rows.py. Own work (an AI agent).
-/
import Derived.Test.YtcdidkliidjoeaaGreatDoorGQ
import Derived.Test.YtcdidkliidjoeaaGreatDoorProg
import Derived.KernelRfl

section
set_option linter.all false
set_option maxRecDepth 100000
namespace Go.Nb
open Go.Ab
theorem sF_:ranB Go.Proofs.Tryz.prog tabL0 100000 100 r16=true:=by kernel_rfl
theorem pM_:ranB Go.Proofs.Tryz.prog tabL0 100000 100 r244=true:=by kernel_rfl
theorem pV_:ranB Go.Proofs.Tryz.prog tabL0 100000 100 r277=true:=by kernel_rfl
theorem sS_:ranB Go.Proofs.Tryz.prog tabL0 100000 100 r29=true:=by kernel_rfl
theorem qf_:ranB Go.Proofs.Tryz.prog tabL3 100000 100 r302=true:=by kernel_rfl
theorem qq_:ranB Go.Proofs.Tryz.prog tabL0 100000 100 r313=true:=by kernel_rfl
theorem qA_:ranB Go.Proofs.Tryz.prog tabL0 100000 100 r336=true:=by kernel_rfl
theorem qK_:ranB Go.Proofs.Tryz.prog tabL0 100000 100 r352=true:=by kernel_rfl
theorem s0_:ranB Go.Proofs.Tryz.prog tabL0 100000 100 r37=true:=by kernel_rfl
theorem q6_:ranB Go.Proofs.Tryz.prog tabL1 100000 100 r387=true:=by kernel_rfl
theorem s3_:ranB Go.Proofs.Tryz.prog tabL1 100000 100 r40=true:=by kernel_rfl
theorem te_:ranB Go.Proofs.Tryz.prog tabL1 100000 100 r51=true:=by kernel_rfl
theorem tp_:ranB Go.Proofs.Tryz.prog tabL0 100000 100 r62=true:=by kernel_rfl
theorem tA_:ranB Go.Proofs.Tryz.prog tabL1 100000 100 r73=true:=by kernel_rfl
theorem tL_:ranB Go.Proofs.Tryz.prog tabL0 100000 100 r84=true:=by kernel_rfl
end Go.Nb
end
