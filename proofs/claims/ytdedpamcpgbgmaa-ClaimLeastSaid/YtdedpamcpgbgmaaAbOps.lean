/-
  THE OPERATIONS THAT CHANGE THE STORE: new variables, stores, calls, slices made and appended to. Own work (an AI agent).
-/
import Derived.Test.YtdedpamcpgbgmaaAbCode
set_option linter.all false
namespace Go.Ab

theorem Store.set_set (σ : Store) (o : Nat) (x y : AObj) : (σ.set o x).set o y = σ.set o y := by
  unfold Store.set
  congr 1
  funext i
  dsimp only
  split <;> rfl

theorem Store.set_get (σ : Store) (o : Nat) (x : AObj) : (σ.set o x).heap o = some x := by simp [Store.set]
theorem Store.set_ne (σ : Store) {o i : Nat} (x : AObj) (h : i ≠ o) : (σ.set o x).heap i = σ.heap i := by simp [Store.set, h]

section
variable {P : Program} {o : Oper} {α : Operand → AVal} {σ : Store} {Kk : AVal → Store → Prop}

/-- An operation that leaves the world alone. -/
theorem AOp_val {a : AVal} (h : aval P o.op α σ = some a) (hk : Kk a σ) : AOp P o α σ Kk := by
  intro κ ev hI hx
  obtain ⟨cv, h1, h2⟩ := aval_sound (o := o) h (Store.Sub.refl σ) hI hx
  rw [h1]
  exact ⟨κ, a, σ, rfl, .refl κ, hI, h2, hk⟩

theorem AOp_valw {a : AVal} {σ' : Store} (h : aval P o.op α σ' = some a) (hs : σ'.Sub σ) (hk : Kk a σ) : AOp P o α σ Kk := by
  intro κ ev hI hx
  obtain ⟨cv, h1, h2⟩ := aval_sound (o := o) h hs hI hx
  rw [h1]
  exact ⟨κ, a, σ, rfl, .refl κ, hI, h2, hk⟩

/-- what is run, an operation that yields a value -/
theorem upon_v {κ : K} {s : Sem Value} {ev : Operand → Value} (he : execOp ev o = (do pure (.value (← s)))) (h : ∃ cv w', s.run P κ.w = .ok cv w' ∧ Post κ Kk cv w') : Upon P (Post κ Kk) ((execOp ev o).run P κ.w) := by
  obtain ⟨cv, w', h1, h2⟩ := h
  rw [he]
  simp only [Sem.run_bind, h1, Result.andThen_ok, Sem.run_pure]
  exact h2

theorem upon_u {κ : K} {s : Sem Unit} {ev : Operand → Value} (he : execOp ev o = (do s; pure .skip)) (h : ∃ w', s.run P κ.w = .ok () w' ∧ Post κ Kk undef w') : Upon P (Post κ Kk) ((execOp ev o).run P κ.w) := by
  obtain ⟨w', h1, h2⟩ := h
  rw [he]
  simp only [Sem.run_bind, h1, Result.andThen_ok, Sem.run_pure]
  exact h2

/-- a new block of cells that is known as an object -/
theorem post_newObj {κ : K} (hI : Inv κ σ) {cs : List AVal} {vs : Array Value} (hv : RvL κ cs vs) {e : TypeId} (hk : ∀ i, σ.heap i = none → Kk (.ref i 0) (σ.set i (.cells cs))) :
    Post κ Kk (.pointer (some ⟨κ.w.heap.size, 0, none⟩)) (κ.w.alloc (.cells vs e)) := by
  obtain ⟨i, hi, hfree⟩ := hI.fresh
  obtain ⟨κ', hw, hle, hρ, hI'⟩ := hI.alloc i hi (.cells cs) (.cells vs e) fun κ' hle hh _ =>
    ⟨vs, e, hh, by rw [hv.1]; exact Nat.le_refl _, fun j hj => (hv.2 j hj).mono hle⟩
  exact ⟨κ', .ref i 0, σ.set i (.cells cs), hw, hle, hI', .ref i 0 _ hρ, hk i hfree⟩

theorem AOp_alloc {t : TypeId} {z : Value} (ho : o.op = .alloc t) (hz : zeroOf P t = some z) (hk : ∀ i, σ.heap i = none → Kk (.ref i 0) (σ.set i (.cells (zeroCells' z)))) : AOp P o α σ Kk := by
  obtain ⟨dst, op, ty, pos, after, guard⟩ := o
  obtain rfl : op = .alloc t := ho
  intro κ ev hI hx
  refine upon_v rfl ⟨.pointer (some ⟨κ.w.heap.size, 0, none⟩), κ.w.alloc (.cells z.cells t), ?_, post_newObj hI (zero_rvl z) hk⟩
  simp only [Instr.alloc, Sem.run_bind, run_zeroValue' hz, Result.andThen_ok, newVar, newRow, run_newObj, Sem.run_pure, World.alloc_eq]

theorem AOp_box {t : TypeId} {x : Operand} (ho : o.op = .box t x) (hs : (α x).solid = true) (hk : ∀ i, σ.heap i = none → Kk (.ref i 0) (σ.set i (.cells (α x).cells))) : AOp P o α σ Kk := by
  obtain ⟨dst, op, ty, pos, after, guard⟩ := o
  obtain rfl : op = .box t x := ho
  intro κ ev hI hx
  refine upon_v rfl ⟨.pointer (some ⟨κ.w.heap.size, 0, none⟩), κ.w.alloc (.cells (ev x).cells t), ?_, post_newObj hI ((hx x (by simp [Op.operands])).cells hs) hk⟩
  simp only [Instr.box, Sem.run_bind, Result.andThen_ok, newVar, newRow, run_newObj, Sem.run_pure, World.alloc_eq]

theorem aput_cons {cs as : List AVal} {k : Nat} {a : AVal} (h : k + (as.length + 1) ≤ cs.length) : aput cs k (a :: as) = aput (cs.set k a) (k + 1) as := by
  apply List.ext_getElem?
  intro i
  rw [aput_get? (by simpa using h), aput_get? (by simp; omega)]
  by_cases h1 : i = k
  · subst h1
    rw [if_pos ⟨Nat.le_refl _, by simp⟩, if_neg (by omega)]
    simp [show i < cs.length by omega]
  · by_cases h2 : k + 1 ≤ i ∧ i < k + 1 + as.length
    · rw [if_pos ⟨by omega, by simp; omega⟩, if_pos h2, show i - k = (i - (k + 1)) + 1 by omega, List.getElem?_cons_succ]
    · rw [if_neg (by simp; omega), if_neg h2, List.getElem?_set_ne (by omega)]

theorem aput_nil (cs : List AVal) (k : Nat) (h : k ≤ cs.length) : aput cs k [] = cs := by simp [aput]

theorem run_storeCells_obj {b off : Nat} {i : Nat} : ∀ (as : List AVal) (us : List Value) (j : Nat) (κ : K) (σ : Store) (cs : List AVal), Inv κ σ → σ.heap i = some (.cells cs) → κ.ρ i = some b → us.length = as.length → (∀ k (hk : k < as.length) (hk' : k < us.length), Rv κ as[k] us[k]) →
    (∀ a ∈ as, a.one = true) → off + j + as.length ≤ cs.length →
    ∃ w', (storeCells ⟨b, off, none⟩ us j).run P κ.w = .ok () w' ∧ κ.Le { κ with w := w' } ∧ Inv { κ with w := w' } (σ.set i (.cells (aput cs (off + j) as)))
  | [], [], j, κ, σ, cs, hI, hh, hρ, _, _, _, hle => by
    refine ⟨κ.w, by simp [storeCells], .refl κ, ?_⟩
    rw [aput_nil _ _ (by omega)]
    have : σ.set i (.cells cs) = σ := by
      unfold Store.set
      have : (fun k => if k = i then some (AObj.cells cs) else σ.heap k) = σ.heap := by
        funext k
        split
        · rename_i h; subst h; exact hh.symm
        · rfl
      rw [this]
    rw [this]
    exact hI
  | a :: as, [], _, _, _, _, _, _, _, hn, _, _, _ => by simp at hn
  | [], u :: us, _, _, _, _, _, _, _, hn, _, _, _ => by simp at hn
  | a :: as, u :: us, j, κ, σ, cs, hI, hh, hρ, hn, hv, ho, hle => by
    simp only [List.length_cons] at hle hn
    have hu := hv 0 (by simp) (by simp)
    simp only [List.getElem_cons_zero] at hu
    obtain ⟨b', hb', ⟨q, hcell⟩, hfz, hle', hI'⟩ := hI.setCell hh (off := off + j) (by omega) hu
    obtain rfl : b = b' := Option.some.inj (hρ.symm.trans hb')
    have hone := (hu.one (ho a (List.mem_cons_self ..))).1
    obtain ⟨w', h1, h2, h3⟩ := run_storeCells_obj (b := b) (off := off) (i := i) as us (j + 1) { κ with w := κ.w.setCell ⟨b, off + j, none⟩ u } (σ.set i (.cells (cs.set (off + j) a))) (cs.set (off + j) a) hI' (Store.set_get ..) hρ (by omega)
      (fun k hk hk' => by
        have := hv (k + 1) (by simp; omega) (by simp; omega)
        simp only [List.getElem_cons_succ] at this
        exact this.mono hle') (fun x hx => ho x (List.mem_cons_of_mem _ hx)) (by simp; omega)
    refine ⟨w', ?_, hle'.trans h2, ?_⟩
    · unfold storeCells
      simp only [Sem.run_bind, add_addr]
      rw [run_store P κ.w _ u _ hone]
      simp only [hcell, hfz, Bool.false_eq_true, if_false, Result.andThen_ok]
      exact h1
    · rw [Store.set_set] at h3
      rw [aput_cons (k := off + j) (by omega)]
      exact h3

theorem AOp_store {t : TypeId} {ad x : Operand} {i off size : Nat} {g : Bool} {cs : List AVal} (ho : o.op = .store t ad x) (ha : α ad = .ref i off) (hh : σ.heap i = some (.cells cs)) (ht : typeOf P t = some (size, g))
    (hs : (α x).solid = true) (hones : ∀ c ∈ (α x).cells, c.one = true) (hsz : (α x).cells.length = size) (hle : off + size ≤ cs.length) (hk : Kk .any (σ.set i (.cells (aput cs off (α x).cells)))) : AOp P o α σ Kk := by
  obtain ⟨dst, op, ty, pos, after, guard⟩ := o
  obtain rfl : op = .store t ad x := ho
  intro κ ev hI hx
  obtain ⟨ti, d, hti, hd, rfl, _⟩ := typeOf_spec ht
  have had := hx ad (by simp [Op.operands])
  rw [ha] at had
  obtain ⟨b, hb, hev⟩ := had.refInv
  obtain ⟨hn, hv⟩ := (hx x (by simp [Op.operands])).cells hs
  obtain ⟨w', h1, h2, h3⟩ := run_storeCells_obj (P := P) (b := b) (off := off) (i := i) (α x).cells (ev x).cells.toList 0 κ σ cs hI hh hb (by simpa using hn) (fun k hk hk' => by
    have := hv k hk
    simpa [show k < (ev x).cells.size by simpa using hk'] using this) hones (by omega)
  refine upon_u rfl ⟨w', ?_, { κ with w := w' }, .any, _, rfl, h2, h3, .any _, hk⟩
  simp only [Instr.storeAt, hev, Instr.sureAddr, Sem.run_bind, Sem.run_pure, Result.andThen_ok, storeVar, run_sizeOf' hti, hn, hsz]
  simpa using h1

/-- a Go function with a body -/
def isGo (P : Program) (f : FuncId) : Bool :=
  match P.funcs[f]? with
  | some fn => !(fn.name == "runtime.NumGoroutine") && fn.body.isSome
  | none => false

theorem run_callFunc {f : FuncId} (h : isGo P f = true) (args : Array Value) (w : World) : (callFunc f args).run P w = .ok (.enter f args) w := by
  unfold isGo at h
  split at h
  · rename_i fn hf
    simp only [Bool.and_eq_true, Bool.not_eq_true'] at h
    unfold callFunc
    simp only [Sem.run_bind, run_program, Result.andThen_ok, hf, h.1, Bool.false_eq_true, if_false]
    rw [if_neg (by cases hb : fn.body <;> simp_all)]
    rfl
  · cases h

/-- A call of a named Go function, or of a function value. -/
theorem AOp_call {c : Call} {f : Operand} {g : FuncId} {first captured : List AVal} (ho : o.op = .call c) (hc : c.callee = .value f) (hf : α f = .fn (.func g) first captured ∨ (α f = .lit (.func (.func g) #[] #[]) ∧ first = [] ∧ captured = [])) (hg : isGo P g = true)
    (h : ACalls P g (first ++ c.args.toList.map α ++ captured) σ Kk) : AOp P o α σ Kk := by
  obtain ⟨dst, op, ty, pos, after, guard⟩ := o
  obtain rfl : op = .call c := ho
  intro κ ev hI hx
  obtain ⟨cal, args, argTypes⟩ := c
  obtain rfl : cal = .value f := hc
  have hfv : Rv κ (α f) (ev f) := hx f (by simp [Op.operands, Call.operands])
  obtain ⟨vs, ws, hev, hn1, h1, hn2, h2⟩ : ∃ vs ws, ev f = .func (.func g) vs ws ∧ vs.size = first.length ∧ (∀ i (hi : i < first.length), Rv κ first[i] (vs.getD i undef)) ∧ ws.size = captured.length ∧ (∀ i (hi : i < captured.length), Rv κ captured[i] (ws.getD i undef)) := by
    rcases hf with hf | ⟨hf, rfl, rfl⟩
    · rw [hf] at hfv
      generalize ev f = u at hfv
      cases hfv with
      | fn _ _ _ vs ws hn h hm h' => exact ⟨vs, ws, rfl, hn, h, hm, h'⟩
    · rw [hf] at hfv
      exact ⟨#[], #[], hfv.litInv, rfl, fun i hi => by simp at hi, rfl, fun i hi => by simp at hi⟩
  have he : (execOp ev ⟨dst, .call ⟨.value f, args, argTypes⟩, ty, pos, after, guard⟩).run P κ.w = .ok (.enter g (vs ++ args.map ev ++ ws)) κ.w := by
    simp only [execOp, resolve, Sem.run_bind, hev, Deferred.ofValue, Sem.run_pure, Result.andThen_ok, invoke]
    exact run_callFunc hg _ _
  rw [he]
  have := h κ (vs ++ args.map ev ++ ws) hI (by simp [hn1, hn2]) (fun i hi => ?_)
  · exact this.mono fun e w' ⟨cv, h1, h2⟩ => ⟨cv, h1, h2⟩
  · simp only [List.length_append, List.length_map, Array.length_toList] at hi
    by_cases c1 : i < first.length
    · rw [List.getElem_append_left (by simp; omega), List.getElem_append_left (by omega)]
      have e : (vs ++ args.map ev ++ ws).getD i undef = vs.getD i undef := by
        simp only [Array.getD_eq_getD_getElem?, Array.append_assoc]
        rw [Array.getElem?_append_left (by omega)]
      rw [e]; exact h1 i c1
    · by_cases c2 : i < first.length + args.size
      · rw [List.getElem_append_left (by simp; omega), List.getElem_append_right (by omega)]
        have e : (vs ++ args.map ev ++ ws).getD i undef = ev (args[i - first.length]'(by omega)) := by
          simp only [Array.getD_eq_getD_getElem?, Array.append_assoc]
          rw [Array.getElem?_append_right (by omega), Array.getElem?_append_left (by simp; omega)]
          simp [hn1, show i - first.length < args.size by omega]
        rw [e]
        simp only [List.getElem_map, Array.getElem_toList]
        exact hx _ (by simp [Op.operands, Call.operands])
      · rw [List.getElem_append_right (by simp; omega)]
        have e : (vs ++ args.map ev ++ ws).getD i undef = ws.getD (i - (first.length + args.size)) undef := by
          simp only [Array.getD_eq_getD_getElem?]
          rw [Array.getElem?_append_right (by simp; omega)]
          simp [hn1]
        rw [e]
        simp only [List.length_append, List.length_map, Array.length_toList]
        exact h2 _ (by omega)

end
end Go.Ab
