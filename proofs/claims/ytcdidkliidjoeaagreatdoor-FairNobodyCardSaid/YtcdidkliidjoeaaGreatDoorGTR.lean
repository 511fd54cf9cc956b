/-
  THE TIE of FairNobody's row. Own work (an AI agent).
-/
import Derived.Test.YtcdidkliidjoeaaGreatDoorGTS
import Derived.Test.YtcdidkliidjoeaaGreatDoorGTO
import Derived.Test.YtcdidkliidjoeaaGreatDoorGTP
import Derived.Test.YtcdidkliidjoeaaGreatDoorGTQ

section
set_option linter.all false
set_option maxRecDepth 100000
namespace Go.Proofs.YtcdidkliidjoeaaGreatDoor
open Go
theorem tf10:(tieL.all fun x=>x.2.handleName?.isNone)=true:=by kernel_rfl
theorem rz_:Tryz.prog.laidByTextLater tieL [.data,.data,.data,.sentinel,.sentinel,.data] true :=
 Program.laidByTextLater_by_run 400 8 tf1 tf2 tf3 tf4 tf5 tf6 tf7 tf8 tf9 tf10
theorem pin1:Tryz.pinned.checked.prog.pinnedFits "unicode/utf8.first"=true:=by kernel_rfl
theorem pin2:Tryz.pinned.checked.prog.headLifts.contains "ownunsafe"=false:=by kernel_rfl
theorem nD_:Tryz.pinned.checked.prog.listedFits [("internal/strconv.uint64pow10",Rows.laid_internal_strconv_uint64pow10),("math/bits.deBruijn32tab",Rows.laid_math_bits_deBruijn32tab),("math/bits.deBruijn64tab",Rows.laid_math_bits_deBruijn64tab),("strconv.ErrSyntax",Rows.laid_strconv_ErrSyntax),("strconv.ErrRange",Rows.laid_strconv_ErrRange),("unicode/utf8.first",Rows.laid_unicode_utf8_first),("unicode/utf8.acceptRanges",Rows.laid_unicode_utf8_acceptRanges)]=true:=by
 unfold Program.listedFits
 rw [pin2]
 kernel_rfl
theorem rn_:Rows.fairNobodyRow.laidByTextAt .later Tryz.pinned [.data,.data,.data,.sentinel,.sentinel,.pinned,.data] true :=
 OpenClaim.laidByTextAt_pinned rfl rfl rz_ rfl rfl rfl rfl (fun y hy _e=>by
  simp only [Rows.fairNobodyRow,List.zip_cons_cons,List.zip_nil_right,List.mem_cons,List.mem_nil_iff,or_false] at hy
  rcases hy with rfl | rfl | rfl | rfl | rfl | rfl | rfl
  ·cases _e
  ·cases _e
  ·cases _e
  ·cases _e
  ·cases _e
  ·exact ⟨pin1,by kernel_rfl⟩
  ·cases _e) nD_
end Go.Proofs.YtcdidkliidjoeaaGreatDoor
end
