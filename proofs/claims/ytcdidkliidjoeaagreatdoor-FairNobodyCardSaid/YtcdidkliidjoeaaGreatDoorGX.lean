/-
  CLOSED FACTS of FairNobody's row and card,one by one (together they want more memory than a process has). Own work (an AI agent).
-/
import Derived.Test.YtcdidkliidjoeaaGreatDoorRows
import Derived.LaidHandle
import Derived.MakeChecks
import Derived.Stop.Joined
import Derived.SevenTiedAt
import Derived.ProofKit
import Derived.KernelRfl

section
set_option linter.all false
set_option maxRecDepth 100000
namespace Go.Proofs.YtcdidkliidjoeaaGreatDoor.fairNobodyDone
theorem q0:Tryz.prog.globalNamed "strconv.ErrSyntax"=some 1:=by kernel_rfl
theorem q1:Tryz.prog.globalNamed "strconv.ErrRange"=some 2:=by kernel_rfl
theorem q2:Tryz.prog.globalNamed "internal/strconv.uint64pow10"=some 3:=by kernel_rfl
theorem y0:(Tryz.prog.globals[1]?).map (·.type)=some 451:=by kernel_rfl
theorem y1:(Tryz.prog.globals[2]?).map (·.type)=some 451:=by kernel_rfl
theorem y2:(Tryz.prog.globals[3]?).map (·.type)=some 686:=by kernel_rfl
theorem c0:Tryz.prog.cellsOf 226=1:=by kernel_rfl
theorem c1:Tryz.prog.cellsOf 686=20:=by kernel_rfl
theorem c2:Tryz.prog.cellsOf 691=1:=by kernel_rfl
theorem c3:Tryz.prog.cellsOf 9=1:=by kernel_rfl
theorem o1:Tryz.prog.funcNamed Rows.fairNobodyRow.func=some 4:=by kernel_rfl
theorem o2:Tryz.f4.isInstance Tryz.prog Rows.fairNobodyRow.origin Rows.fairNobodyRow.targs:=of_decide_eq_true (by  kernel_rfl)
theorem o3:Tryz.f4.isWrapper Tryz.prog Rows.fairNobodyRow.wrapper Rows.fairNobodyRow.mainSum:=by unfold Func.isWrapper;first | (rw [if_pos (by decide +kernel)];kernel_rfl) | (rw [if_neg (by decide +kernel)];exact ⟨rfl,rfl⟩)
theorem p1:Rows.fairNobodyRow.wfByText (OpenSpec.ofChange Rows.fairNobodySpec)=true:=by kernel_rfl
theorem p2:Tryz.prog.mainIs=some (true, "65687202fa972023cd1026b9ef386600dc2b68efd3df5032bc321eaf48d293dd".toList):=by kernel_rfl
theorem p3:true=Tryz.prog.looks []:=by kernel_rfl
theorem ng:Tryz.prog.funcs.toList.any Func.goes=false:=by kernel_rfl
theorem jP_ {P:Program} {c:OpenClaim} (h:P.funcs.toList.any Func.goes=false) (hs:c.start=.entering):false=c.goesBy P:=by
 have key:∀ g:Nat,((P.funcs[g]?).any Func.goes)=false:=fun g=>by
  cases hf:P.funcs[g]? with
  |none=>rfl
  |some fn =>
   have hm:fn∈P.funcs.toList:=by
    obtain ⟨hlt,e⟩:=Array.getElem?_eq_some_iff.1 hf
    rw [← e];exact Array.mem_toList_iff.2 (Array.getElem_mem hlt)
   have:=List.any_eq_false.1 h fn hm
   cases hg:Func.goes fn with
   |false=>exact hg
   |true=>exact absurd hg this
 have all:P.funcs.any Func.goes=false:=by
  rw [← Array.any_toList];exact h
 have no:∀ f,P.goes f=false:=fun f=>by
  unfold Program.goes
  rw [all,Bool.and_false,Bool.or_false]
  exact List.any_eq_false.2 fun g _ hg=>by rw [key g] at hg;cases hg
 have h1:P.goesFrom c.func=false:=by
  unfold Program.goesFrom
  cases P.funcNamed c.func with
  |none=>rfl
  |some f=>exact no f
 unfold OpenClaim.goesBy Program.goesAt
 rw [h1,hs];rfl
theorem p4:false=Rows.fairNobodyRow.goesBy Tryz.prog:=jP_ ng rfl
theorem p5:(Tryz.f4.params.toList.all fun u=>!Tryz.prog.wantsStandIn u)=true:=by kernel_rfl
end Go.Proofs.YtcdidkliidjoeaaGreatDoor.fairNobodyDone
end
