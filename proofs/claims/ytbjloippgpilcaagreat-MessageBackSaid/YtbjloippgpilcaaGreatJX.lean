/-
  A STORE BY ITS FACTS: what was built is let go, what is known of it stays. Own work (an AI agent).
-/
import Derived.Test.YtbjloippgpilcaaGreatGE

section
set_option linter.all false
namespace Go.Ab
theorem awp_gen {P : Program} {n : Nat} {c : Code} {Q : Exit → Env → Store → Prop} {e : Env} {σ : Store} (h : ∀ S, S = σ → awp P n c Q e S) : awp P n c Q e σ := h σ rfl
section
variable {S S0 σ : Store} {o i : Nat} {x y z : AObj}
theorem gen_get (h : S = (S0.set o x).set o y) : S.heap o = some y := by rw [h]; exact Store.set_get ..
theorem gen_keep (h : S = (S0.set o x).set o y) (ho : S0.heap o = none) (hi : S0.heap i = some z) : S.heap i = some z := by
  have hne : i ≠ o := fun hh => by rw [hh, ho] at hi; cases hi
  rw [h, Store.set_ne _ _ hne, Store.set_ne _ _ hne]; exact hi
theorem gen_sub (h : S = (S0.set o x).set o y) (ho : S0.heap o = none) (hs : SubX [] σ S0) : SubX [] σ S := by
  have hno : σ.heap o = none := by
    cases hh : σ.heap o with
    | none => rfl
    | some w => have := hs.1 o w (by simp) hh; rw [ho] at this; cases this
  rw [h]
  exact subx_new hno (subx_new hno hs)
end
end Go.Ab
end
