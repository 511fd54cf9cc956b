/-
  THE TIE of FairNobody's row,more of its closed facts. Own work (an AI agent).
-/
import Derived.Test.YtcdidkliidjoeaaGreatDoorGTN

section
set_option linter.all false
set_option maxRecDepth 100000
namespace Go.Proofs.YtcdidkliidjoeaaGreatDoor
open Go
theorem tf4:tieL.map (fun x=>Tryz.prog.kindOfLater x.1)=[LaidKind.data,.data,.data,.sentinel,.sentinel,.data].map some:=by kernel_rfl
theorem tf5:(Tryz.prog.funcNamed "gosem.cut.vars").isSome=true:=by kernel_rfl
theorem tf6:varsNamedLaterB Tryz.prog (varsId Tryz.prog) tieL=true:=by kernel_rfl
end Go.Proofs.YtcdidkliidjoeaaGreatDoor
end
