/-
  WHAT CHANGES NOTHING THAT WAS THERE; a slice made and not written. Own work (an AI agent).
-/
import Derived.Test.YtdedpamcpgbgmaaAbWalk
import Derived.Test.YtdedpamcpgbgmaaAbOps6
set_option linter.all false
namespace Go.Ab

theorem ACalls.still {P : Program} {f : FuncId} {args : List AVal} {σ : Store} {a : AVal} (h : ACalls P f args σ fun v σ' => v = a ∧ Fr σ [] σ' []) : ACalls P f args σ fun v σ' => v = a ∧ σ = σ' :=
  h.wkS fun v σ' hh => ⟨v, σ, .refl _, subx_start hh.2.sub, hh.1, rfl⟩

theorem AOp.after {P : Program} {o : Oper} {α : Operand → AVal} {σ : Store} {K1 K2 : AVal → Store → Prop} (h : AOp P o α σ K1)
    (hk : ∀ (κ : K) a σ' cv, Inv κ σ' → Rv κ a cv → K1 a σ' → ∃ κ' a' σ'', κ'.w = κ.w ∧ κ.Le κ' ∧ Inv κ' σ'' ∧ Rv κ' a' cv ∧ K2 a' σ'') : AOp P o α σ K2 :=
  fun κ ev hI hx => (h κ ev hI hx).mono fun cv w ⟨κ1, a, σ', h1, h2, h3, h4, h5⟩ => by
    obtain ⟨κ2, a', σ'', g1, g2, g3, g4, g5⟩ := hk κ1 a σ' cv h3 h4 h5
    exact ⟨κ2, a', σ'', g1.trans h1, h2.trans g2, g3, g4, g5⟩
theorem Store.set_del {σ : Store} {i : Nat} {x : AObj} (h : σ.heap i = none) : (σ.set i x).del i = σ := by
  unfold Store.set Store.del
  cases σ with
  | mk hp tk =>
    congr 1
    funext j
    by_cases hj : j = i
    · subst hj; simp; exact h.symm
    · simp [hj]
theorem flat_one {l : List AVal} (h : ∀ x ∈ l, x.cells = [x]) : flat l = l := by
  induction l with
  | nil => rfl
  | cons x l ih => rw [flat_cons, h x (List.mem_cons_self ..), ih fun y hy => h y (List.mem_cons_of_mem _ hy)]; rfl
/-- make, of what is not written later -/
theorem AOp_makeSl {P : Program} {o : Oper} {α : Operand → AVal} {σ : Store} {Kk : AVal → Store → Prop} {t e : TypeId} {n by_ : Nat} {x y : Operand} {z : Value} {k1 k2 : IntKind} (ho : o.op = .makeSlice t x y) (hse : sliceElem P t = some e) (hte : appInfo P e = some (1, by_)) (hz : zeroOf P e = some z) (hz1 : z.cells = #[z])
    (hx : α x = .lit (.int k1 n)) (hy : α y = .lit (.int k2 n)) (hn : by_ * n ≤ 281474976710656) (hk : Kk (.sl 1 (List.replicate n (.lit z)) false) σ) : AOp P o α σ Kk := by
  refine AOp.after (AOp_makeSlice ho hse hte hz hz1 hx hy hn (Kk := fun a σ' => ∃ i, σ.heap i = none ∧ a = .msl i 1 0 n ∧ σ' = σ.set i (.cells (List.replicate n (.lit z)))) fun i hi => ⟨i, hi, rfl, rfl⟩) ?_
  rintro κ _ _ cv hI hr ⟨i, hi, rfl, rfl⟩
  have hc : ∀ x ∈ List.replicate n (AVal.lit z), x.cells = [x] := fun x hx => by
    rw [List.eq_of_mem_replicate hx]; rfl
  obtain ⟨κ', h1, h2, h3, h4⟩ := freeze hI hr (Store.set_get ..) (l := List.replicate n (.lit z)) (by rw [flat_one hc]; simp) (by simp) fun x hx => by rw [hc x hx]; rfl
  rw [Store.set_del hi] at h3
  exact ⟨κ', _, _, h1, h2, h3, h4, hk⟩
end Go.Ab
