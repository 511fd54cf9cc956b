/-
  THE TIE of FairNobody's row,its closed facts one by one (in one declaration they want more memory than a process has). Own work (an AI agent).
-/
import Derived.Test.YtcdidkliidjoeaaGreatDoorRows
import Derived.LaidByTextLater
import Derived.SevenTiedAt

section
set_option linter.all false
set_option maxRecDepth 100000
namespace Go.Proofs.YtcdidkliidjoeaaGreatDoor
open Go
abbrev tieL:List (String × DataW Unit):=[("internal/strconv.uint64pow10",Rows.laid_internal_strconv_uint64pow10),("math/bits.deBruijn32tab",Rows.laid_math_bits_deBruijn32tab),("math/bits.deBruijn64tab",Rows.laid_math_bits_deBruijn64tab),("strconv.ErrSyntax",Rows.laid_strconv_ErrSyntax),("strconv.ErrRange",Rows.laid_strconv_ErrRange),("unicode/utf8.acceptRanges",Rows.laid_unicode_utf8_acceptRanges)]
theorem tf1:Tryz.prog.worded (varsWordLater true)=true:=by kernel_rfl
theorem tf2:Tryz.prog.worded (varsWordLater !true)=false:=by kernel_rfl
theorem tf3:Tryz.prog.worded rootWordLater=true:=by kernel_rfl
end Go.Proofs.YtcdidkliidjoeaaGreatDoor
end
