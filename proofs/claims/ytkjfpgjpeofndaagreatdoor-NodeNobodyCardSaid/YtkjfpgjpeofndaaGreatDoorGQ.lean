/-
  The interpreter's table with the calls that were run. Printed by gen_rows.py. Own work (an AI agent).
-/
import Derived.Test.YtkjfpgjpeofndaaGreatDoorGN
import Derived.Test.YtkjfpgjpeofndaaGreatDoorGJ

section
set_option linter.all false
namespace Go.Nb
open Go.Ab
noncomputable def tabL0:Tab:={ tab0 with nat:=gp_ ranC }
noncomputable def tabL1:Tab:={ tab0 with nat:=gp_ ran0 }
noncomputable def tabL2:Tab:={ tab0 with nat:=gp_ ran1 }
noncomputable def tabL3:Tab:={ tab0 with nat:=gp_ ran2 }
noncomputable def tabL4:Tab:={ tab0 with nat:=gp_ ran3 }
noncomputable def tabL5:Tab:={ tab0 with nat:=gp_ ran4 }
noncomputable def tabL6:Tab:={ tab0 with nat:=gp_ ran5 }
def xZ_:Ran:=(6,[],.lit (.bool true))
end Go.Nb
end
