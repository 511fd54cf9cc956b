/-
  Walks and plain laws for the statement (see the law's own text). Own work (an AI agent).
-/
import Derived.Test.YtkjfpgjpeofndaaGreatDoorGU
import Derived.Test.YtkjfpgjpeofndaaGreatDoorGV

section
set_option linter.all false
set_option maxRecDepth 100000
namespace Go.Proofs.YtkjfpgjpeofndaaGreatDoor.nodeNobodyDone
set_option maxHeartbeats 4000000 in
theorem facts:joinedFacts Tryz.prog 3 Tryz.f3 Rows.nodeNobodySpec Rows.nodeNobodyRow=true:=by
 unfold joinedFacts
 refine an (an (an (an (an (an (an (an (an (an (an (an (an (an (an (an (an (an (an (an (an (an (an (an (an (an (an (an (an (an (an ?_ ?_) ?_) ?_) ?_) ?_) ?_) ?_) ?_) ?_) ?_) ?_) ?_) ?_) ?_) ?_) ?_) ?_) ?_) ?_) ?_) ?_) ?_) ?_) ?_) ?_) ?_) ?_) ?_) ?_) ?_) ?_
 ·(as_aux_lemma=>kernel_rfl)
 ·exact hV_
 ·(as_aux_lemma=>kernel_rfl)
 ·(as_aux_lemma=>kernel_rfl)
 ·(as_aux_lemma=>kernel_rfl)
 ·(as_aux_lemma=>kernel_rfl)
 ·(as_aux_lemma=>kernel_rfl)
 ·(as_aux_lemma=>kernel_rfl)
 ·(as_aux_lemma=>kernel_rfl)
 ·exact j1
 ·exact j2
 ·exact j3
 ·exact j4
 ·(as_aux_lemma=>kernel_rfl)
 ·(as_aux_lemma=>kernel_rfl)
 ·(as_aux_lemma=>kernel_rfl)
 ·(as_aux_lemma=>kernel_rfl)
 ·(as_aux_lemma=>kernel_rfl)
 ·(as_aux_lemma=>kernel_rfl)
 ·(as_aux_lemma=>kernel_rfl)
 ·(as_aux_lemma=>kernel_rfl)
 ·(as_aux_lemma=>kernel_rfl)
 ·(as_aux_lemma=>kernel_rfl)
 ·(as_aux_lemma=>kernel_rfl)
 ·(as_aux_lemma=>kernel_rfl)
 ·(as_aux_lemma=>kernel_rfl)
 ·(as_aux_lemma=>kernel_rfl)
 ·(as_aux_lemma=>kernel_rfl)
 ·(as_aux_lemma=>kernel_rfl)
 ·(as_aux_lemma=>kernel_rfl)
 ·(as_aux_lemma=>kernel_rfl)
 ·(as_aux_lemma=>kernel_rfl)
end Go.Proofs.YtkjfpgjpeofndaaGreatDoor.nodeNobodyDone
end
