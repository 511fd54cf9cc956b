/-
  PARTS OF THE CLOSED RUN: part 0,run. Printed by gen_seg.py. Own work (an AI agent).
-/
import Derived.Test.YtcdidkliidjoeaaGreatDoorGG0
import Derived.Test.YtcdidkliidjoeaaGreatDoorProg
import Derived.KernelRfl

section
set_option linter.all false
set_option maxRecDepth 100000
namespace Go.Nb
open Go.Ab
theorem q_g0:segB Go.Proofs.Tryz.prog tabG 100000 100 g0=true:=by kernel_rfl
end Go.Nb
end
