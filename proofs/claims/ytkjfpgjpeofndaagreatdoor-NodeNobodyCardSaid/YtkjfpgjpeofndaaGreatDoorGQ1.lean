/-
  Calls of pure functions,run by the kernel. Printed by gen_rows.py. Own work (an AI agent).
-/
import Derived.Test.YtkjfpgjpeofndaaGreatDoorGO
import Derived.Test.YtkjfpgjpeofndaaGreatDoorGQ

section
set_option linter.all false
set_option maxRecDepth 100000
namespace Go.Nb
open Go.Ab
theorem rG_:ranB Go.Proofs.Tryz.prog tabL4 100000 100 r104=true:=by kernel_rfl
theorem vD_:ranB Go.Proofs.Tryz.prog tabL2 100000 100 r117=true:=by kernel_rfl
theorem vE_:ranB Go.Proofs.Tryz.prog tabL0 100000 100 r118=true:=by kernel_rfl
theorem vS_:ranB Go.Proofs.Tryz.prog tabL4 100000 100 r140=true:=by kernel_rfl
theorem xp_:ranB Go.Proofs.Tryz.prog tabL0 100000 100 r18=true:=by kernel_rfl
theorem xv_:ranB Go.Proofs.Tryz.prog tabL0 100000 100 r24=true:=by kernel_rfl
theorem xA_:ranB Go.Proofs.Tryz.prog tabL0 100000 100 r29=true:=by kernel_rfl
theorem xH_:ranB Go.Proofs.Tryz.prog tabL0 100000 100 r40=true:=by kernel_rfl
theorem q_r7:ranB Go.Proofs.Tryz.prog tabL0 100000 100 r7=true:=by kernel_rfl
theorem xM_:ranB Go.Proofs.Tryz.prog tabL0 100000 100 r77=true:=by kernel_rfl
theorem xX_:ranB Go.Proofs.Tryz.prog tabL1 100000 100 r99=true:=by kernel_rfl
end Go.Nb
end
