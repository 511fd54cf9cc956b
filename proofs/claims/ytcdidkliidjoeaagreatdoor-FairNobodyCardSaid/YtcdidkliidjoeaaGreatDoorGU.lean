/-
  THE PROGRAM's TYPES ARE LAID OUT,a hundred types at a time (together they want more memory than a process has). Own work (an AI agent).
-/
import Derived.Test.YtcdidkliidjoeaaGreatDoorRows
import Derived.Stop.Joined
import Derived.ProofKit
import Derived.KernelRfl

section
set_option linter.all false
set_option maxRecDepth 100000
namespace Go.Proofs.YtcdidkliidjoeaaGreatDoor.fairNobodyDone
theorem an {a b:Bool} (h:a=true) (k:b=true):(a && b)=true:=by rw [h,k];rfl
theorem mi_ {p:Nat→Bool} {n:Nat} (h:∀ i,i < n→p i=true):(List.range n).all p=true:=List.all_eq_true.2 fun i hi=>h i (List.mem_range.1 hi)
theorem part {p:Nat→Bool} {a k i:Nat} (h:(List.range' a k).all p=true) (h1:a≤i) (h2:i < a + k):p i=true:=List.all_eq_true.1 h i (List.mem_range'_1.2 ⟨h1,h2⟩)
theorem tsz:Tryz.prog.types.size=732:=by kernel_rfl
theorem lo0:(List.range' 0 100).all (rowFine Tryz.prog)=true:=by kernel_rfl
theorem lo1:(List.range' 100 100).all (rowFine Tryz.prog)=true:=by kernel_rfl
theorem lo2:(List.range' 200 100).all (rowFine Tryz.prog)=true:=by kernel_rfl
theorem lo3:(List.range' 300 100).all (rowFine Tryz.prog)=true:=by kernel_rfl
theorem lo4:(List.range' 400 100).all (rowFine Tryz.prog)=true:=by kernel_rfl
theorem lo5:(List.range' 500 100).all (rowFine Tryz.prog)=true:=by kernel_rfl
theorem lo6:(List.range' 600 100).all (rowFine Tryz.prog)=true:=by kernel_rfl
theorem lo7:(List.range' 700 32).all (rowFine Tryz.prog)=true:=by kernel_rfl
theorem lg:Tryz.prog.globals.all (fun g=>decide (g.type < 732))=true:=by kernel_rfl
theorem lf:Tryz.prog.funcs.all (fun f=>f.params.all fun t=>decide (t < 732))=true:=by kernel_rfl
theorem f3_:laidOutB Tryz.prog=true:=by
 unfold laidOutB
 rw [tsz]
 refine an (an (mi_ fun i hi=>?_) lg) lf
 by_cases h0:i < 100
 ·exact part lo0 (by omega) (by omega)
 by_cases h1:i < 200
 ·exact part lo1 (by omega) (by omega)
 by_cases h2:i < 300
 ·exact part lo2 (by omega) (by omega)
 by_cases h3:i < 400
 ·exact part lo3 (by omega) (by omega)
 by_cases h4:i < 500
 ·exact part lo4 (by omega) (by omega)
 by_cases h5:i < 600
 ·exact part lo5 (by omega) (by omega)
 by_cases h6:i < 700
 ·exact part lo6 (by omega) (by omega)
 exact part lo7 (by omega) (by omega)
end Go.Proofs.YtcdidkliidjoeaaGreatDoor.fairNobodyDone
end
