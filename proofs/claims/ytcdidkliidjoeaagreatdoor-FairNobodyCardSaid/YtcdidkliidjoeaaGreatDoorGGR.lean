/-
  PARTS OF THE CLOSED RUN: the root,run. Printed by gen_seg.py. Own work (an AI agent).
-/
import Derived.Test.YtcdidkliidjoeaaGreatDoorGG0
import Derived.Test.YtcdidkliidjoeaaGreatDoorProg
import Derived.KernelRfl

section
set_option linter.all false
set_option maxRecDepth 100000
namespace Go.Nb
open Go.Ab
theorem ri_:ranB Go.Proofs.Tryz.prog tabGR 100000 100 rRoot=true:=by kernel_rfl
end Go.Nb
end
