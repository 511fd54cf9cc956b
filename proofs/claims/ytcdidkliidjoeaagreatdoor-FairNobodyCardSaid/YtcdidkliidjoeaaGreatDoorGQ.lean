/-
  The interpreter's table with the calls that were run. Printed by gen_rows.py. Own work (an AI agent).
-/
import Derived.Test.YtcdidkliidjoeaaGreatDoorGN
import Derived.Test.YtcdidkliidjoeaaGreatDoorGJ

section
set_option linter.all false
namespace Go.Nb
open Go.Ab
noncomputable def tabL0:Tab:={ tab0 with nat:=d3_ ranC,sp:=sp11 }
noncomputable def tabL1:Tab:={ tab0 with nat:=d3_ ran0,sp:=sp11 }
noncomputable def tabL2:Tab:={ tab0 with nat:=d3_ ran1,sp:=sp11 }
noncomputable def tabL3:Tab:={ tab0 with nat:=d3_ ran2,sp:=sp11 }
noncomputable def tabL4:Tab:={ tab0 with nat:=d3_ ran3,sp:=sp11 }
noncomputable def tabL5:Tab:={ tab0 with nat:=d3_ ran4,sp:=sp11 }
end Go.Nb
end
