/-
  What is read of bytes: the reference's reader; Contexts and objects read of bytes: the reference's. Own work (an AI agent).
-/
import Derived.Test.YtbjloippgpilcaaGreatGG

section
set_option linter.all false
set_option maxRecDepth 100000
namespace Go.Proofs.YtbjloippgpilcaaGreat
open Go.Ab

abbrev rfO (x : Rd) : AObj := .cells [vStr (B x.1), vBool (!x.2)]

theorem getq_B {l : List UInt8} {k : Nat} {c : UInt8} (h : l[k]? = some c) : (B l)[k]? = some c := by
  obtain ⟨hk, rfl⟩ := List.getElem?_eq_some_iff.1 h
  have hs : k < (B l).size := by rw [B_size]; exact hk
  rw [getElem?_pos (B l) k hs]
  congr 1

end Go.Proofs.YtbjloippgpilcaaGreat
end

section
set_option linter.all false
set_option maxRecDepth 100000
namespace Go.Proofs.YtbjloippgpilcaaGreat
open Go.Ab

/-- a slice that is nil, or one's own -/
def NilOwn (σ : Store) (e : TypeId) (sz : Nat) (l : List AVal) (a : AVal) (old : Option Nat) : Prop := (∃ k, a = .own k sz l ∧ σ.tok k = some (e, sz) ∧ old = some k) ∨ (a = .lit (.slice none 0 0) ∧ l = [] ∧ old = none)
theorem NilOwn.wk {σ : Store} {e : TypeId} {sz : Nat} {l : List AVal} {a : AVal} {old : Option Nat} (h : NilOwn σ e sz l a old) : Wk a (.sl sz l false) := by
  rcases h with ⟨k, rfl, _⟩ | ⟨rfl, rfl, _⟩
  · exact .own1 _ _ _
  · exact .nil _ _
theorem NilOwn.of {σ : Store} {e : TypeId} {sz : Nat} {l : List AVal} {a b : AVal} {old : Option Nat} (h : NilOwn σ e sz l a old) (hb : b = a) : NilOwn σ e sz l b old := hb ▸ h

theorem SubX.noObj {l : List Nat} {a b : Store} (h : SubX l a b) {i : Nat} (hi : b.heap i = none) (hl : i ∉ l) : a.heap i = none := by
  cases hh : a.heap i with
  | none => rfl
  | some y => have := h.1 i y hl hh; rw [hi] at this; cases this
theorem tok_keep {σ : Store} {k k' : Nat} {old : Option Nat} {p q : TypeId × Nat} (h : σ.tok k = some p) (hk : σ.tok k' = none) (ho : ∀ j, old = some j → j ≠ k) : (σ.newTok old k' q).tok k = some p := by
  simp only [Store.newTok]
  rw [if_neg (fun hh => by rw [hh, hk] at h; cases h), if_neg (fun hh => ho k hh.symm rfl)]
  exact h
theorem rdMany_done {α : Type} (f : Rd → α × Rd) {n : Nat} {x : Rd} (h : n = 0 ∨ x.2 = false) : rdMany f n x = ([], x) := by
  rcases h with rfl | h
  · rfl
  · exact rdMany_bad f h
theorem rdSev_of {α : Type} {f : Rd → α × Rd} {x z : Rd} {M : List α} (h : rdMany f (rdCnt x 65536).1 (rdCnt x 65536).2 = (M, z)) : rdSev f x = if z.2 then (M, z) else ([], z) := by unfold rdSev; dsimp only; rw [h]

end Go.Proofs.YtbjloippgpilcaaGreat
end
