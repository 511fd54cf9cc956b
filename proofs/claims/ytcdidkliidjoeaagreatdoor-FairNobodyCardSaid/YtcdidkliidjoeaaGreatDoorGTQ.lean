/-
  THE TIE of FairNobody's row: the rows that the run lays. Own work (an AI agent).
-/
import Derived.Test.YtcdidkliidjoeaaGreatDoorGTN

section
set_option linter.all false
set_option maxRecDepth 100000
namespace Go.Proofs.YtcdidkliidjoeaaGreatDoor
open Go
theorem tf9:∀ os tape,(DataW.laidRun Tryz.prog (varsWorld Tryz.prog 400 (varsId Tryz.prog) os tape).memory 8 (tieL.map (·.1))).map (fun x=>decide x.2.Nodup && laidRowsB Tryz.prog (varsWorld Tryz.prog 400 (varsId Tryz.prog) os tape).memory x.2)=some true:=fun _ _=>by kernel_rfl
end Go.Proofs.YtcdidkliidjoeaaGreatDoor
end
