/-
  THE TIE of FairNobody's row: what the run lays. Own work (an AI agent).
-/
import Derived.Test.YtcdidkliidjoeaaGreatDoorGTN

section
set_option linter.all false
set_option maxRecDepth 100000
namespace Go.Proofs.YtcdidkliidjoeaaGreatDoor
open Go
theorem tf8:∀ os tape,(DataW.laidRun Tryz.prog (varsWorld Tryz.prog 400 (varsId Tryz.prog) os tape).memory 8 (tieL.map (·.1))).map (·.1)=some tieL:=fun _ _=>by kernel_rfl
end Go.Proofs.YtcdidkliidjoeaaGreatDoor
end
