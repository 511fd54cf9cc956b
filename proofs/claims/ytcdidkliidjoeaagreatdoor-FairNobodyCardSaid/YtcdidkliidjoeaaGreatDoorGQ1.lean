/-
  Calls of pure functions,run by the kernel. Printed by gen_rows.py. Own work (an AI agent).
-/
import Derived.Test.YtcdidkliidjoeaaGreatDoorGQ
import Derived.Test.YtcdidkliidjoeaaGreatDoorProg
import Derived.KernelRfl

section
set_option linter.all false
set_option maxRecDepth 100000
namespace Go.Nb
open Go.Ab
theorem sA_:ranB Go.Proofs.Tryz.prog tabL0 100000 100 r11=true:=by kernel_rfl
theorem pL_:ranB Go.Proofs.Tryz.prog tabL0 100000 100 r201=true:=by kernel_rfl
theorem pR_:ranB Go.Proofs.Tryz.prog tabL3 100000 100 r266=true:=by kernel_rfl
theorem p1_:ranB Go.Proofs.Tryz.prog tabL0 100000 100 r285=true:=by kernel_rfl
theorem qc_:ranB Go.Proofs.Tryz.prog tabL0 100000 100 r299=true:=by kernel_rfl
theorem qm_:ranB Go.Proofs.Tryz.prog tabL0 100000 100 r309=true:=by kernel_rfl
theorem qw_:ranB Go.Proofs.Tryz.prog tabL1 100000 100 r322=true:=by kernel_rfl
theorem qG_:ranB Go.Proofs.Tryz.prog tabL2 100000 100 r345=true:=by kernel_rfl
theorem q1_:ranB Go.Proofs.Tryz.prog tabL2 100000 100 r382=true:=by kernel_rfl
theorem rc_:ranB Go.Proofs.Tryz.prog tabL4 100000 100 r393=true:=by kernel_rfl
theorem ta_:ranB Go.Proofs.Tryz.prog tabL1 100000 100 r47=true:=by kernel_rfl
theorem tl_:ranB Go.Proofs.Tryz.prog tabL0 100000 100 r58=true:=by kernel_rfl
theorem tw_:ranB Go.Proofs.Tryz.prog tabL1 100000 100 r69=true:=by kernel_rfl
theorem q_r8:ranB Go.Proofs.Tryz.prog tabL1 100000 100 r8=true:=by kernel_rfl
theorem tR_:ranB Go.Proofs.Tryz.prog tabL4 100000 100 r90=true:=by kernel_rfl
end Go.Nb
end
