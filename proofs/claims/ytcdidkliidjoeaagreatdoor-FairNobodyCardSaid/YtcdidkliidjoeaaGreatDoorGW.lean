/-
  'joinedFacts' of FairNobody's row,one by one. Own work (an AI agent).
-/
import Derived.Test.YtcdidkliidjoeaaGreatDoorGU
import Derived.Test.YtcdidkliidjoeaaGreatDoorGV

section
set_option linter.all false
set_option maxRecDepth 100000
namespace Go.Proofs.YtcdidkliidjoeaaGreatDoor.fairNobodyDone
set_option maxHeartbeats 4000000 in
theorem facts:joinedFacts Tryz.prog 4 Tryz.f4 Rows.fairNobodySpec Rows.fairNobodyRow=true:=by
 unfold joinedFacts
 refine an (an (an (an (an (an (an (an (an (an (an (an (an (an (an (an (an (an (an (an (an (an (an (an (an (an (an (an (an (an (an ?_ ?_) ?_) ?_) ?_) ?_) ?_) ?_) ?_) ?_) ?_) ?_) ?_) ?_) ?_) ?_) ?_) ?_) ?_) ?_) ?_) ?_) ?_) ?_) ?_) ?_) ?_) ?_) ?_) ?_) ?_) ?_
 ·(as_aux_lemma=>kernel_rfl)
 ·exact f3_
 ·(as_aux_lemma=>kernel_rfl)
 ·(as_aux_lemma=>kernel_rfl)
 ·(as_aux_lemma=>kernel_rfl)
 ·(as_aux_lemma=>kernel_rfl)
 ·(as_aux_lemma=>kernel_rfl)
 ·(as_aux_lemma=>kernel_rfl)
 ·(as_aux_lemma=>kernel_rfl)
 ·exact j1
 ·exact j2
 ·exact j3
 ·exact j4
 ·(as_aux_lemma=>kernel_rfl)
 ·(as_aux_lemma=>kernel_rfl)
 ·(as_aux_lemma=>kernel_rfl)
 ·(as_aux_lemma=>kernel_rfl)
 ·(as_aux_lemma=>kernel_rfl)
 ·(as_aux_lemma=>kernel_rfl)
 ·(as_aux_lemma=>kernel_rfl)
 ·(as_aux_lemma=>kernel_rfl)
 ·(as_aux_lemma=>kernel_rfl)
 ·(as_aux_lemma=>kernel_rfl)
 ·(as_aux_lemma=>kernel_rfl)
 ·(as_aux_lemma=>kernel_rfl)
 ·(as_aux_lemma=>kernel_rfl)
 ·(as_aux_lemma=>kernel_rfl)
 ·(as_aux_lemma=>kernel_rfl)
 ·(as_aux_lemma=>kernel_rfl)
 ·(as_aux_lemma=>kernel_rfl)
 ·(as_aux_lemma=>kernel_rfl)
 ·(as_aux_lemma=>kernel_rfl)
end Go.Proofs.YtcdidkliidjoeaaGreatDoor.fairNobodyDone
end
