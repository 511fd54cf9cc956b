/-
  THE TIE of FairNobody's row: the run. Own work (an AI agent).
-/
import Derived.Test.YtcdidkliidjoeaaGreatDoorGTN

section
set_option linter.all false
set_option maxRecDepth 100000
namespace Go.Proofs.YtcdidkliidjoeaaGreatDoor
open Go
theorem tf7:∀ os tape,varsDone Tryz.prog 400 (varsId Tryz.prog) os tape=true:=fun _ _=>by kernel_rfl
end Go.Proofs.YtcdidkliidjoeaaGreatDoor
end
