/-
  Calls of pure functions,run by the kernel. Printed by gen_rows.py. Own work (an AI agent).
-/
import Derived.Test.YtcdidkliidjoeaaGreatDoorGQ
import Derived.Test.YtcdidkliidjoeaaGreatDoorProg
import Derived.KernelRfl

section
set_option linter.all false
set_option maxRecDepth 100000
namespace Go.Nb
open Go.Ab
theorem sH_:ranB Go.Proofs.Tryz.prog tabL0 100000 100 r18=true:=by kernel_rfl
theorem pO_:ranB Go.Proofs.Tryz.prog tabL0 100000 100 r248=true:=by kernel_rfl
theorem sR_:ranB Go.Proofs.Tryz.prog tabL0 100000 100 r28=true:=by kernel_rfl
theorem p7_:ranB Go.Proofs.Tryz.prog tabL1 100000 100 r291=true:=by kernel_rfl
theorem qh_:ranB Go.Proofs.Tryz.prog tabL0 100000 100 r304=true:=by kernel_rfl
theorem qs_:ranB Go.Proofs.Tryz.prog tabL0 100000 100 r315=true:=by kernel_rfl
theorem qC_:ranB Go.Proofs.Tryz.prog tabL2 100000 100 r338=true:=by kernel_rfl
theorem qM_:ranB Go.Proofs.Tryz.prog tabL3 100000 100 r354=true:=by kernel_rfl
theorem q8_:ranB Go.Proofs.Tryz.prog tabL3 100000 100 r389=true:=by kernel_rfl
theorem s5_:ranB Go.Proofs.Tryz.prog tabL1 100000 100 r42=true:=by kernel_rfl
theorem tg_:ranB Go.Proofs.Tryz.prog tabL1 100000 100 r53=true:=by kernel_rfl
theorem tr_:ranB Go.Proofs.Tryz.prog tabL0 100000 100 r64=true:=by kernel_rfl
theorem tC_:ranB Go.Proofs.Tryz.prog tabL1 100000 100 r75=true:=by kernel_rfl
theorem tN_:ranB Go.Proofs.Tryz.prog tabL0 100000 100 r86=true:=by kernel_rfl
end Go.Nb
end
