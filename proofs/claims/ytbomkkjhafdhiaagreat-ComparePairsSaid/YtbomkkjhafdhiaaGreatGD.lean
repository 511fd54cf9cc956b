/-
  WALKING RULES: guarded steps of which it is not said whether they run; joins and loops by lists of what lives; values of structs compared; WHAT CHANGES NOTHING THAT WAS THERE; a slice made and not written; A RANGE OVER A STRING: the iterator is an object of its own; WHAT A WRITER OF TEXT IS MADE OF: a string appended to a slice of one's own, an object whose shape is told, the bytes behind a string; A ROW MADE FOR WHAT WILL COME: append of a make, of nothing; cap of nil; BYTES AS LISTS; NUMBERS AS BYTES; SHORT WORDS: closers of the side goals that every step leaves; What is read of bytes: the program's reader; What the program's values are; What is read of bytes: numbers, texts, lists; Contexts and objects read of bytes: the program's; What is read of bytes: the reference's reader; Contexts and objects read of bytes: the reference's; What is written as bytes: the program's writer; Contexts and objects as bytes: what the program writes; Names: the program's, and the reference's; Whether a context may be: the program's Check, the reference's May. Own work (an AI agent).
-/
import Derived.Test.YtbomkkjhafdhiaaGreatGC
import Derived.Lib.Builder
import Derived.Lib.UnsafeStr
import Derived.Laws.Externs
import Derived.Lib.AppendZerosOnto
import Derived.Laws.RangeString
import Derived.Laws.RangeAny

section
set_option linter.all false
namespace Go.Ab

/-- what a guarded operation leaves -/
def gval (b : Bool) (a : AVal) : AVal := bif b then a else .lit undef
@[go_sem] theorem gval_true (a : AVal) : gval true a = a := rfl
@[go_sem] theorem gval_false (a : AVal) : gval false a = .lit undef := rfl
@[go_sem] theorem apick_and (b x y : Bool) : apick b (gval b (.lit (.bool x))) (.lit (.bool y)) = .lit (.bool (bif b then x else y)) := by cases b <;> rfl
@[go_sem] theorem apick_or (b x y : Bool) : apick b (.lit (.bool x)) (gval (!b) (.lit (.bool y))) = .lit (.bool (bif b then x else y)) := by cases b <;> rfl
@[go_sem] theorem cond_and (b x : Bool) : (bif b then x else false) = (b && x) := by cases b <;> rfl
@[go_sem] theorem cond_or (b x : Bool) : (bif b then true else x) = (b || x) := by cases b <;> rfl

theorem wantedA_is {ops : Array Oper} {o : Oper} {e : Env} {j d : Nat} {w b : Bool} (hg : o.guard = some (j, w)) (hd : (ops[j]?).bind (·.dst) = some d) (he : e d = .lit (.bool b)) : wantedA ops o e = some (b == w) := by
  unfold wantedA
  simp only [hg, hd, he]

@[go_sem] theorem gval_gval (b c : Bool) (a : AVal) : gval b (gval c a) = gval (b && c) a := by cases b <;> rfl
theorem wantedA_gg {ops : Array Oper} {o : Oper} {e : Env} {j d : Nat} {w b c : Bool} (hg : o.guard = some (j, w)) (hd : (ops[j]?).bind (·.dst) = some d) (he : e d = gval b (.lit (.bool c))) : wantedA ops o e = some (b && (c == w)) := by
  cases b with
  | true => rw [wantedA_is hg hd he]; rfl
  | false =>
    unfold wantedA
    simp only [hg, hd, he]
    rfl

theorem wantedA_yes {ops : Array Oper} {o : Oper} {e : Env} {j d : Nat} {w : Bool} {x : AVal} (hg : o.guard = some (j, w)) (hd : (ops[j]?).bind (·.dst) = some d) (he : e d = x) (hx : x = .lit (.bool w)) : wantedA ops o e = some true := by
  subst hx
  rw [wantedA_is hg hd he]
  cases w <;> rfl

section
variable {P : Program} {ops : Array Oper} {Kk : Env → Store → Prop} {o : Oper} {rest : List Oper} {e : Env} {σ : Store}

/-- a guarded one that says yes -/
theorem aL_SY {d : Nat} {a : AVal} (hw : wantedA ops o e = some true) (hd : o.dst = some d) (ha : aval P o.op (aev e) σ = some a) (h : aList P ops Kk rest (upd e d a) σ) : aList P ops Kk (o :: rest) e σ := by
  unfold aList aStep
  rw [hw, hd]; exact AOp_val ha h

/-- an operation that runs just if 'b' -/
theorem aL_GT {d j dj : Nat} {a : AVal} {b : Bool} (hg : o.guard = some (j, true)) (hj : (ops[j]?).bind (·.dst) = some dj) (he : e dj = .lit (.bool b)) (hd : o.dst = some d) (ha : b = true → aval P o.op (aev e) σ = some a)
    (h : aList P ops Kk rest (upd e d (gval b a)) σ) : aList P ops Kk (o :: rest) e σ := by
  unfold aList aStep
  rw [wantedA_is hg hj he, hd]
  cases b with
  | true => exact AOp_val (ha rfl) h
  | false => exact h

theorem aL_GF {d j dj : Nat} {a : AVal} {b : Bool} (hg : o.guard = some (j, false)) (hj : (ops[j]?).bind (·.dst) = some dj) (he : e dj = .lit (.bool b)) (hd : o.dst = some d) (ha : (!b) = true → aval P o.op (aev e) σ = some a)
    (h : aList P ops Kk rest (upd e d (gval (!b) a)) σ) : aList P ops Kk (o :: rest) e σ := by
  unfold aList aStep
  rw [wantedA_is hg hj he, hd]
  cases b with
  | true => exact h
  | false => exact AOp_val (ha rfl) h

/-- a guard that is guarded itself -/
theorem aL_GGT {d j dj : Nat} {a : AVal} {b c : Bool} (hg : o.guard = some (j, true)) (hj : (ops[j]?).bind (·.dst) = some dj) (he : e dj = gval b (.lit (.bool c))) (hd : o.dst = some d) (ha : (b && c) = true → aval P o.op (aev e) σ = some a)
    (h : aList P ops Kk rest (upd e d (gval (b && c) a)) σ) : aList P ops Kk (o :: rest) e σ := by
  unfold aList aStep
  rw [wantedA_gg hg hj he, hd]
  have e1 : (b && (c == true)) = (b && c) := by cases b <;> cases c <;> rfl
  rw [e1]
  cases hbc : (b && c) with
  | true => rw [hbc] at h; exact AOp_val (ha hbc) h
  | false => rw [hbc] at h; exact h
theorem aL_GGF {d j dj : Nat} {a : AVal} {b c : Bool} (hg : o.guard = some (j, false)) (hj : (ops[j]?).bind (·.dst) = some dj) (he : e dj = gval b (.lit (.bool c))) (hd : o.dst = some d) (ha : (b && !c) = true → aval P o.op (aev e) σ = some a)
    (h : aList P ops Kk rest (upd e d (gval (b && !c) a)) σ) : aList P ops Kk (o :: rest) e σ := by
  unfold aList aStep
  rw [wantedA_gg hg hj he, hd]
  have e1 : (b && (c == false)) = (b && !c) := by cases b <;> cases c <;> rfl
  rw [e1]
  cases hbc : (b && !c) with
  | true => rw [hbc] at h; exact AOp_val (ha hbc) h
  | false => rw [hbc] at h; exact h
theorem aL_GGFX {d j dj : Nat} {a : AVal} {b c : Bool} (hg : o.guard = some (j, false)) (hj : (ops[j]?).bind (·.dst) = some dj) (he : e dj = gval b (.lit (.bool c))) (hd : o.dst = some d) (hx : (b && !c) = true → AOp P o (aev e) σ fun v σ' => v = a ∧ σ = σ')
    (h : aList P ops Kk rest (upd e d (gval (b && !c) a)) σ) : aList P ops Kk (o :: rest) e σ := by
  unfold aList aStep
  rw [wantedA_gg hg hj he, hd]
  have e1 : (b && (c == false)) = (b && !c) := by cases b <;> cases c <;> rfl
  rw [e1]
  cases hbc : (b && !c) with
  | true => rw [hbc] at h; exact (hx hbc).mono fun v σ' ⟨h1, h2⟩ => by subst h1; subst h2; exact h
  | false => rw [hbc] at h; exact h

/-- a guarded one that says yes -/
theorem aL_XY {d : Nat} (hw : wantedA ops o e = some true) (hd : o.dst = some d) (h : AOp P o (aev e) σ fun a σ' => aList P ops Kk rest (upd e d a) σ') : aList P ops Kk (o :: rest) e σ := by
  unfold aList aStep
  rw [hw, hd]; exact h

/-- a call that runs just if 'b', and leaves the store as it was -/
theorem aL_GTX {d j dj : Nat} {a : AVal} {b : Bool} (hg : o.guard = some (j, true)) (hj : (ops[j]?).bind (·.dst) = some dj) (he : e dj = .lit (.bool b)) (hd : o.dst = some d) (hx : b = true → AOp P o (aev e) σ fun v σ' => v = a ∧ σ = σ')
    (h : aList P ops Kk rest (upd e d (gval b a)) σ) : aList P ops Kk (o :: rest) e σ := by
  unfold aList aStep
  rw [wantedA_is hg hj he, hd]
  cases b with
  | true => exact (hx rfl).mono fun v σ' ⟨h1, h2⟩ => by subst h1; subst h2; exact h
  | false => exact h

theorem aL_GFX {d j dj : Nat} {a : AVal} {b : Bool} (hg : o.guard = some (j, false)) (hj : (ops[j]?).bind (·.dst) = some dj) (he : e dj = .lit (.bool b)) (hd : o.dst = some d) (hx : (!b) = true → AOp P o (aev e) σ fun v σ' => v = a ∧ σ = σ')
    (h : aList P ops Kk rest (upd e d (gval (!b) a)) σ) : aList P ops Kk (o :: rest) e σ := by
  unfold aList aStep
  rw [wantedA_is hg hj he, hd]
  cases b with
  | true => exact h
  | false => exact (hx rfl).mono fun v σ' ⟨h1, h2⟩ => by subst h1; subst h2; exact h

end

section
variable {P : Program} {ops : Array Oper} {s0 : Store} {Kk : Env → Store → Prop} {o : Oper} {i : Nat} {r : DT} {e : Env} {σ : Store}

theorem dR_GT {d j dj : Nat} {a : AVal} {b : Bool} (ho : ops[i]? = some o) (hg : o.guard = some (j, true)) (hj : (ops[j]?).bind (·.dst) = some dj) (he : e dj = .lit (.bool b)) (hd : o.dst = some d) (ha : b = true → aval P o.op (aev e) s0 = some a)
    (h : dRun P ops s0 Kk r (upd e d (gval b a)) σ) : dRun P ops s0 Kk (.op i 0 r) e σ := by
  have hw := wantedA_is hg hj he
  cases b with
  | true => exact dR_SY ho hd hw (ha rfl) h
  | false => exact dR_SN ho hd hw h

theorem dR_GF {d j dj : Nat} {a : AVal} {b : Bool} (ho : ops[i]? = some o) (hg : o.guard = some (j, false)) (hj : (ops[j]?).bind (·.dst) = some dj) (he : e dj = .lit (.bool b)) (hd : o.dst = some d) (ha : (!b) = true → aval P o.op (aev e) s0 = some a)
    (h : dRun P ops s0 Kk r (upd e d (gval (!b) a)) σ) : dRun P ops s0 Kk (.op i 0 r) e σ := by
  have hw := wantedA_is hg hj he
  cases b with
  | true => exact dR_SN ho hd hw h
  | false => exact dR_SY ho hd hw (ha rfl) h

theorem dR_GTX {d j dj : Nat} {a : AVal} {b : Bool} (ho : ops[i]? = some o) (hg : o.guard = some (j, true)) (hj : (ops[j]?).bind (·.dst) = some dj) (he : e dj = .lit (.bool b)) (hd : o.dst = some d) (hs : s0.Sub σ) (hx : b = true → AOp P o (aev e) σ fun v σ' => v = a ∧ σ = σ')
    (h : dRun P ops s0 Kk r (upd e d (gval b a)) σ) : dRun P ops s0 Kk (.op i 1 r) e σ := by
  have hw := wantedA_is hg hj he
  cases b with
  | true => exact dR_X ho hd hw ((hx rfl).mono fun v σ' ⟨h1, h2⟩ => by subst h1; subst h2; exact ⟨hs, h⟩)
  | false => exact dR_XN ho hd hw hs h

theorem dR_GFX {d j dj : Nat} {a : AVal} {b : Bool} (ho : ops[i]? = some o) (hg : o.guard = some (j, false)) (hj : (ops[j]?).bind (·.dst) = some dj) (he : e dj = .lit (.bool b)) (hd : o.dst = some d) (hs : s0.Sub σ) (hx : (!b) = true → AOp P o (aev e) σ fun v σ' => v = a ∧ σ = σ')
    (h : dRun P ops s0 Kk r (upd e d (gval (!b) a)) σ) : dRun P ops s0 Kk (.op i 1 r) e σ := by
  have hw := wantedA_is hg hj he
  cases b with
  | true => exact dR_XN ho hd hw hs h
  | false => exact dR_X ho hd hw ((hx rfl).mono fun v σ' ⟨h1, h2⟩ => by subst h1; subst h2; exact ⟨hs, h⟩)

end

section
variable {P : Program} {ops : Array Oper} {s0 : Store} {Kk : Env → Store → Prop} {o : Oper} {i : Nat} {r : DT} {e : Env} {σ : Store}
theorem dR_GGT {d j dj : Nat} {a : AVal} {b c : Bool} (ho : ops[i]? = some o) (hg : o.guard = some (j, true)) (hj : (ops[j]?).bind (·.dst) = some dj) (he : e dj = gval b (.lit (.bool c))) (hd : o.dst = some d) (ha : (b && c) = true → aval P o.op (aev e) s0 = some a)
    (h : dRun P ops s0 Kk r (upd e d (gval (b && c) a)) σ) : dRun P ops s0 Kk (.op i 0 r) e σ := by
  have hw := wantedA_gg hg hj he
  have e1 : (b && (c == true)) = (b && c) := by cases b <;> cases c <;> rfl
  rw [e1] at hw
  cases hbc : (b && c) with
  | true => rw [hbc] at h hw; exact dR_SY ho hd hw (ha hbc) h
  | false => rw [hbc] at h hw; exact dR_SN ho hd hw h
theorem dR_GGF {d j dj : Nat} {a : AVal} {b c : Bool} (ho : ops[i]? = some o) (hg : o.guard = some (j, false)) (hj : (ops[j]?).bind (·.dst) = some dj) (he : e dj = gval b (.lit (.bool c))) (hd : o.dst = some d) (ha : (b && !c) = true → aval P o.op (aev e) s0 = some a)
    (h : dRun P ops s0 Kk r (upd e d (gval (b && !c) a)) σ) : dRun P ops s0 Kk (.op i 0 r) e σ := by
  have hw := wantedA_gg hg hj he
  have e1 : (b && (c == false)) = (b && !c) := by cases b <;> cases c <;> rfl
  rw [e1] at hw
  cases hbc : (b && !c) with
  | true => rw [hbc] at h hw; exact dR_SY ho hd hw (ha hbc) h
  | false => rw [hbc] at h hw; exact dR_SN ho hd hw h
theorem dR_GGTX {d j dj : Nat} {a : AVal} {b c : Bool} (ho : ops[i]? = some o) (hg : o.guard = some (j, true)) (hj : (ops[j]?).bind (·.dst) = some dj) (he : e dj = gval b (.lit (.bool c))) (hd : o.dst = some d) (hs : s0.Sub σ) (hx : (b && c) = true → AOp P o (aev e) σ fun v σ' => v = a ∧ σ = σ')
    (h : dRun P ops s0 Kk r (upd e d (gval (b && c) a)) σ) : dRun P ops s0 Kk (.op i 1 r) e σ := by
  have hw := wantedA_gg hg hj he
  have e1 : (b && (c == true)) = (b && c) := by cases b <;> cases c <;> rfl
  rw [e1] at hw
  cases hbc : (b && c) with
  | true => rw [hbc] at h hw; exact dR_X ho hd hw ((hx hbc).mono fun v σ' ⟨h1, h2⟩ => by subst h1; subst h2; exact ⟨hs, h⟩)
  | false => rw [hbc] at h hw; exact dR_XN ho hd hw hs h
theorem dR_GGFX {d j dj : Nat} {a : AVal} {b c : Bool} (ho : ops[i]? = some o) (hg : o.guard = some (j, false)) (hj : (ops[j]?).bind (·.dst) = some dj) (he : e dj = gval b (.lit (.bool c))) (hd : o.dst = some d) (hs : s0.Sub σ) (hx : (b && !c) = true → AOp P o (aev e) σ fun v σ' => v = a ∧ σ = σ')
    (h : dRun P ops s0 Kk r (upd e d (gval (b && !c) a)) σ) : dRun P ops s0 Kk (.op i 1 r) e σ := by
  have hw := wantedA_gg hg hj he
  have e1 : (b && (c == false)) = (b && !c) := by cases b <;> cases c <;> rfl
  rw [e1] at hw
  cases hbc : (b && !c) with
  | true => rw [hbc] at h hw; exact dR_X ho hd hw ((hx hbc).mono fun v σ' ⟨h1, h2⟩ => by subst h1; subst h2; exact ⟨hs, h⟩)
  | false => rw [hbc] at h hw; exact dR_XN ho hd hw hs h
end

/-- a contract that leaves the store as it was, at a call of which just the value is asked -/
theorem AOp_useV {P : Program} {o : Oper} {α : Operand → AVal} {σ : Store} {a : AVal} {c : Call} {f : Operand} {g : FuncId} {first captured args : List AVal} (ho : o.op = .call c) (hc : c.callee = .value f)
    (hf : α f = .fn (.func g) first captured ∨ (α f = .lit (.func (.func g) #[] #[]) ∧ first = [] ∧ captured = [])) (hg : isGo P g = true)
    (hargs : first ++ c.args.toList.map α ++ captured = args) (hcon : ACalls P g args σ (fun v σ' => v = a ∧ σ = σ')) : AOp P o α σ fun v σ' => v = a ∧ σ = σ' :=
  AOp_use ho hc hf hg hargs hcon fun _ _ h => h

/-! ### what lives -/

def envL : List (Nat × AVal) → Env
  | [] => emp
  | (k, a) :: l => upd (envL l) k a

@[go_sem] theorem envL_nil : envL [] = emp := rfl
@[go_sem] theorem envL_cons (k : Nat) (a : AVal) (l : List (Nat × AVal)) : envL ((k, a) :: l) = upd (envL l) k a := rfl

def covers (e : Env) : List (Nat × AVal) → Prop
  | [] => True
  | (k, a) :: l => Wk (e k) a ∧ covers e l

theorem covers.nil {e : Env} : covers e [] := trivial
theorem covers.eq {e : Env} {k : Nat} {a : AVal} {l : List (Nat × AVal)} (h : e k = a) (hl : covers e l) : covers e ((k, a) :: l) := ⟨by rw [h]; exact .refl _, hl⟩
theorem covers.wk {e : Env} {k : Nat} {a b : AVal} {l : List (Nat × AVal)} (h : e k = b) (hw : Wk b a) (hl : covers e l) : covers e ((k, a) :: l) := ⟨by rw [h]; exact hw, hl⟩

theorem covers.all {e : Env} : ∀ {l : List (Nat × AVal)}, covers e l → ∀ k, Wk (e k) (envL l k)
  | [], _, k => .any _
  | (j, a) :: l, h, k => by
    simp only [envL, upd]
    by_cases hk : k = j
    · subst hk; rw [if_pos rfl]; exact h.1
    · rw [if_neg hk]; exact h.2.all k

/-- some cells, off which the rest may hang -/
theorem awp_seq_mid {P : Program} {n : Nat} {x y : Code} {Q : Exit → Env → Store → Prop} {e : Env} {σ : Store} {ι : Type} (I : ι → Prop) (E : ι → List (Nat × AVal)) (S : ι → Store)
    (h1 : awp P n x (aThen (fun e' σ' => ∃ i, I i ∧ covers e' (E i) ∧ (S i).Wk σ') Q) e σ) (h2 : ∀ i, I i → awp P n y Q (envL (E i)) (S i)) : awp P n (.seq x y) Q e σ :=
  awp_seq (h1.mono fun ex e' σ' hq => by
    cases ex with
    | normal => obtain ⟨i, hi, hc, hs⟩ := hq; exact (h2 i hi).wk hc.all hs
    | _ => exact hq)

/-- A loop, by what lives at its head, and a number that goes down. -/
theorem awp_loop_env {P : Program} {n : Nat} {c : Code} {Q : Exit → Env → Store → Prop} {e : Env} {σ : Store} {ι : Type} (μ : ι → Nat) (I : ι → Prop) (E : ι → List (Nat × AVal)) (S : ι → Store) (i0 : ι)
    (hI : I i0) (hc : covers e (E i0)) (hs : (S i0).Wk σ)
    (round : ∀ i, I i → awp P n c (aThen (fun e' σ' => ∃ i', μ i' < μ i ∧ I i' ∧ covers e' (E i') ∧ (S i').Wk σ') Q) (envL (E i)) (S i)) : awp P n (.loop c) Q e σ :=
  awp_loop (fun m e σ => ∃ i, μ i = m ∧ I i ∧ covers e (E i) ∧ (S i).Wk σ) (m := μ i0) ⟨i0, rfl, hI, hc, hs⟩ fun m e σ ⟨i, hm, hi, hc, hs⟩ =>
    ((round i hi).wk hc.all hs).mono fun ex e' σ' hq => by
      cases ex with
      | normal => obtain ⟨i', hlt, h1, h2, h3⟩ := hq; exact ⟨μ i', by omega, i', rfl, h1, h2, h3⟩
      | _ => exact hq

/-- what a round leaves for the next one -/
theorem aNext {ι : Type} {μ : ι → Nat} {I : ι → Prop} {E : ι → List (Nat × AVal)} {S : ι → Store} {i : ι} {e : Env} {σ : Store} (i' : ι) (h1 : μ i' < μ i) (h2 : I i') (h3 : covers e (E i')) (h4 : (S i').Wk σ) :
    ∃ i', μ i' < μ i ∧ I i' ∧ covers e (E i') ∧ (S i').Wk σ := ⟨i', h1, h2, h3, h4⟩

theorem aThen_exit {K : Env → Store → Prop} {Q : Exit → Env → Store → Prop} {i : Nat} {e : Env} {σ : Store} (h : Q (.exit i) e σ) : aThen K Q (.exit i) e σ := h
theorem aBlock_hit {Q : Exit → Env → Store → Prop} {i : Nat} {e : Env} {σ : Store} (h : Q .normal e σ) : aBlock i Q (.exit i) e σ := by simpa [aBlock] using h
theorem aBlock_miss {Q : Exit → Env → Store → Prop} {i j : Nat} {e : Env} {σ : Store} (hj : j ≠ i) (h : Q (.exit j) e σ) : aBlock i Q (.exit j) e σ := by simpa [aBlock, hj] using h

theorem none_set_iff {σ : Store} {o j : Nat} {x : AObj} : (σ.set o x).heap j = none ↔ j ≠ o ∧ σ.heap j = none := ⟨none_set, fun ⟨h1, h2⟩ => by rw [Store.set_ne _ _ h1]; exact h2⟩

/-! ### fewer things known -/

def SubX (l : List Nat) (σ τ : Store) : Prop := (∀ i x, i ∉ l → σ.heap i = some x → τ.heap i = some x) ∧ ∀ t n, σ.tok t = some n → τ.tok t = some n
theorem subx_start {σ τ : Store} (h : SubX [] σ τ) : σ.Wk τ := Store.Sub.wk ⟨fun i x hx => h.1 i x (by simp) hx, h.2⟩
theorem subx_startS {σ τ : Store} (h : SubX [] σ τ) : σ.Sub τ := ⟨fun i x hx => h.1 i x (by simp) hx, h.2⟩

/-- an object's cells, less of them said -/
def WkL : List AVal → List AVal → Prop
  | [], [] => True
  | a :: l, b :: l' => Wk a b ∧ WkL l l'
  | _, _ => False
theorem WkL.at_ : ∀ {l l' : List AVal}, WkL l l' → l.length = l'.length ∧ ∀ i (hi : i < l.length) (hj : i < l'.length), Wk l[i] l'[i]
  | [], [], _ => ⟨rfl, fun i hi => by simp at hi⟩
  | a :: l, b :: l', h => by
    obtain ⟨h1, h2⟩ := WkL.at_ h.2
    refine ⟨by simp [h1], fun i hi hj => ?_⟩
    cases i with
    | zero => exact h.1
    | succ i => exact h2 i (by simpa using hi) (by simpa using hj)
  | [], _ :: _, h => h.elim
  | _ :: _, [], h => h.elim
theorem Store.wkCells {τ : Store} {o : Nat} {cs cs' : List AVal} (ho : τ.heap o = some (.cells cs)) (h : WkL cs cs') : (τ.set o (.cells cs')).Wk τ := by
  intro κ hI
  obtain ⟨hl, hw⟩ := h.at_
  obtain ⟨b, hb, hbase, hIb, c, el, hh, hn, hv⟩ := hI.heap o _ ho
  exact hI.step (κ' := κ) (.refl κ) rfl rfl hI.frO b hbase hIb (fun _ _ _ => rfl) o (.cells cs') (fun _ _ => rfl) hb ⟨c, el, hh, by omega, fun i hi => (hv i (by omega)).wk (hw i (by omega) hi)⟩
    (fun o' x hx hne hh => hne (hI.inj o' o x _ b hx ho hh hb))
    (fun t sz v ht hv hh => hI.tokobj t sz v b o _ ht hv hh ho hb)

theorem awp_wkCells {P : Program} {n : Nat} {c : Code} {Q : Exit → Env → Store → Prop} {e : Env} {σ : Store} (o : Nat) {cs : List AVal} (cs' : List AVal) (ho : σ.heap o = some (.cells cs)) (h : WkL cs cs') (hk : awp P n c Q e (σ.set o (.cells cs'))) : awp P n c Q e σ :=
  hk.wk (fun k => .refl _) (Store.wkCells ho h)

theorem subx_refl {l : List Nat} {σ : Store} : SubX l σ σ := ⟨fun _ _ _ h => h, fun _ _ h => h⟩
theorem subx_left {l : List Nat} {σ τ : Store} {o : Nat} {x : AObj} (hx : τ.heap o = some x) (h : SubX (o :: l) σ τ) : SubX l (σ.set o x) τ := ⟨fun i y hi hy => by
  by_cases ho : i = o
  · subst ho; rw [Store.set_get] at hy; rw [hx]; exact hy
  · rw [Store.set_ne _ _ ho] at hy; exact h.1 i y (by simp [ho, hi]) hy, h.2⟩
theorem subx_skip {l : List Nat} {σ τ : Store} {o : Nat} {x : AObj} (ho : o ∈ l) (h : SubX l σ τ) : SubX l (σ.set o x) τ := ⟨fun i y hi hy => by
  by_cases hio : i = o
  · subst hio; exact absurd ho hi
  · rw [Store.set_ne _ _ hio] at hy; exact h.1 i y hi hy, h.2⟩
theorem subx_in {l : List Nat} {σ τ : Store} {o : Nat} {x : AObj} (ho : o ∈ l) (h : SubX l σ τ) : SubX l σ (τ.set o x) := ⟨fun i y hi hy => by
  by_cases hio : i = o
  · subst hio; exact absurd ho hi
  · rw [Store.set_ne _ _ hio]; exact h.1 i y hi hy, h.2⟩
theorem subx_new {l : List Nat} {σ τ : Store} {o : Nat} {x : AObj} (ho : σ.heap o = none) (h : SubX l σ τ) : SubX l σ (τ.set o x) := ⟨fun i y hi hy => by
  by_cases hio : i = o
  · subst hio; rw [ho] at hy; cases hy
  · rw [Store.set_ne _ _ hio]; exact h.1 i y hi hy, h.2⟩
theorem subx_tok {l : List Nat} {σ τ : Store} {k : Nat} {p : TypeId × Nat} (h : SubX l σ τ) : SubX l (σ.newTok none k p) (τ.newTok none k p) := ⟨h.1, fun t n ht => by
  simp only [Store.newTok] at ht ⊢
  split
  · rename_i hh; rw [if_pos hh] at ht; exact ht
  · rename_i hh; rw [if_neg hh] at ht; simp at ht ⊢; exact h.2 t n ht⟩
theorem subx_newTok {l : List Nat} {σ τ : Store} {k : Nat} {p : TypeId × Nat} (hk : σ.tok k = none) (h : SubX l σ τ) : SubX l σ (τ.newTok none k p) := ⟨h.1, fun t n ht => by
  simp only [Store.newTok]
  split
  · rename_i hh; rw [hh, hk] at ht; cases ht
  · simp; exact h.2 t n ht⟩

/-- from one store to a later one: what is not of the footprint stays, and what is new in the footprint was not there -/
structure Fr (σ : Store) (S : List Nat) (σ' : Store) (S' : List Nat) : Prop where
  sub : SubX S σ σ'
  new : ∀ o ∈ S', o ∈ S ∨ σ.heap o = none
theorem Fr.refl (σ : Store) (S : List Nat) : Fr σ S σ S := ⟨subx_refl, fun o h => .inl h⟩
theorem Fr.trans {σ τ υ : Store} {S T U : List Nat} (h : Fr σ S τ T) (k : Fr τ T υ U) : Fr σ S υ U where
  sub := by
    refine ⟨fun i x hi hx => k.sub.1 i x (fun hT => ?_) (h.sub.1 i x hi hx), fun t n ht => k.sub.2 t n (h.sub.2 t n ht)⟩
    rcases h.new i hT with h1 | h1
    · exact hi h1
    · rw [h1] at hx; cases hx
  new := fun o ho => by
    rcases k.new o ho with h1 | h1
    · exact h.new o h1
    · by_cases hS : o ∈ S
      · exact .inl hS
      · right
        cases hx : σ.heap o with
        | none => rfl
        | some x => rw [h.sub.1 o x hS hx] at h1; cases h1
/-- what stands apart from a footprint, stands apart from what comes of it -/
theorem Fr.apart {σ σ' : Store} {S S' : List Nat} (h : Fr σ S σ' S') {o : Nat} {x : AObj} (ho : σ.heap o = some x) (hS : o ∉ S) : o ∉ S' ∧ σ'.heap o = some x :=
  ⟨fun hh => (h.new o hh).elim hS (fun h1 => absurd (h1.symm.trans ho) (fun h2 => nomatch h2)), h.sub.1 o x hS ho⟩
theorem Fr.set {σ τ : Store} {S T : List Nat} (h : Fr σ S τ T) {o : Nat} {x : AObj} (ho : o ∈ T) : Fr σ S (τ.set o x) T :=
  h.trans ⟨subx_in ho subx_refl, fun o h => .inl h⟩
theorem Fr.del {σ τ : Store} {S T : List Nat} (h : Fr σ S τ T) {o : Nat} (ho : o ∈ T) : Fr σ S (τ.del o) T :=
  h.trans ⟨⟨fun i x hi hx => by rw [Store.del_ne _ (fun hh => hi (by rw [hh]; exact ho))]; exact hx, fun _ _ h => h⟩, fun o h => .inl h⟩
theorem Fr.less {σ τ : Store} {S T U : List Nat} (h : Fr σ S τ T) (hU : ∀ o ∈ U, o ∈ T) : Fr σ S τ U := ⟨h.sub, fun o ho => h.new o (hU o ho)⟩
theorem Fr.newTok {σ τ : Store} {S T : List Nat} (h : Fr σ S τ T) {old : Option Nat} {k : Nat} {p : TypeId × Nat} (ho : ∀ j, old = some j → σ.tok j = none) (hk : τ.tok k = none) : Fr σ S (τ.newTok old k p) T :=
  ⟨⟨h.sub.1, fun t n ht => by
    have h1 := h.sub.2 t n ht
    simp only [Store.newTok]
    rw [if_neg (fun hh => by rw [hh, hk] at h1; cases h1), if_neg (fun hh => by rw [ho t hh.symm] at ht; cases ht)]
    exact h1⟩, h.new⟩
theorem Fr.noTok {σ τ : Store} {S T : List Nat} (h : Fr σ S τ T) {k : Nat} (hk : τ.tok k = none) : σ.tok k = none := by
  cases ht : σ.tok k with
  | none => rfl
  | some n => have := h.sub.2 k n ht; rw [hk] at this; cases this
theorem Fr.alloc {σ τ : Store} {S T : List Nat} (h : Fr σ S τ T) {o : Nat} {x : AObj} (ho : τ.heap o = none) : Fr σ S (τ.set o x) T :=
  h.trans ⟨subx_new ho subx_refl, fun o h => .inl h⟩
/-- what is not there later on was not there at first -/
theorem Fr.noObj {σ τ : Store} {T : List Nat} (h : Fr σ [] τ T) {o : Nat} (ho : τ.heap o = none) : σ.heap o = none := by
  cases hx : σ.heap o with
  | none => rfl
  | some x => have := h.sub.1 o x (by simp) hx; rw [ho] at this; cases this
/-- a greater footprint, of what is known or not there -/
theorem Fr.more {σ τ : Store} {S T : List Nat} (h : Fr σ S τ T) (U : List Nat) : Fr σ (U ++ S) τ (U ++ T) :=
  ⟨⟨fun i x hi hx => h.sub.1 i x (fun hh => hi (List.mem_append_right _ hh)) hx, h.sub.2⟩, fun o ho => by
    rcases List.mem_append.1 ho with h1 | h1
    · exact .inl (List.mem_append_left _ h1)
    · rcases h.new o h1 with h2 | h2
      · exact .inl (List.mem_append_right _ h2)
      · exact .inr h2⟩

theorem newTok_none {σ : Store} {k k' : Nat} {p : TypeId × Nat} (h : (σ.newTok none k p).tok k' = none) : k' ≠ k ∧ σ.tok k' = none := by
  simp only [Store.newTok] at h
  split at h
  · cases h
  · rename_i hh; simp at h; exact ⟨hh, h⟩

theorem ne_of_heap {σ : Store} {o i : Nat} {x : AObj} (h : σ.heap o = some x) (h' : σ.heap i = none) : o ≠ i := fun hh => by rw [hh, h'] at h; cases h
theorem Store.set_self {σ : Store} {o : Nat} {x : AObj} (h : σ.heap o = some x) : σ.set o x = σ := by
  unfold Store.set
  have : (fun i => if i = o then some x else σ.heap i) = σ.heap := by
    funext i
    split
    · rename_i hh; rw [hh, h]
    · rfl
  rw [this]
theorem ACalls.wkS {P : Program} {f : FuncId} {args : List AVal} {σ : Store} {Q Q' : AVal → Store → Prop} (h : ACalls P f args σ Q) (hq : ∀ a σ', Q a σ' → ∃ a' σ'', Wk a a' ∧ σ''.Wk σ' ∧ Q' a' σ'') : ACalls P f args σ Q' :=
  fun κ vs hI hn hv => (h κ vs hI hn hv).mono fun _ _ ⟨cv, he, κ', a, σ', h1, h2, h3, h4, h5⟩ => by
    obtain ⟨a', σ'', hwk, hsub, hQ⟩ := hq a σ' h5
    exact ⟨cv, he, κ', a', σ'', h1, h2, hsub κ' h3, h4.wk hwk, hQ⟩

/-! ### struct values compared -/

end Go.Ab
end

section
set_option linter.all false
namespace Go.Ab

theorem AOp.after {P : Program} {o : Oper} {α : Operand → AVal} {σ : Store} {K1 K2 : AVal → Store → Prop} (h : AOp P o α σ K1)
    (hk : ∀ (κ : K) a σ' cv, Inv κ σ' → Rv κ a cv → K1 a σ' → ∃ κ' a' σ'', κ'.w = κ.w ∧ κ.Le κ' ∧ Inv κ' σ'' ∧ Rv κ' a' cv ∧ K2 a' σ'') : AOp P o α σ K2 :=
  fun κ ev hI hx => (h κ ev hI hx).mono fun cv w ⟨κ1, a, σ', h1, h2, h3, h4, h5⟩ => by
    obtain ⟨κ2, a', σ'', g1, g2, g3, g4, g5⟩ := hk κ1 a σ' cv h3 h4 h5
    exact ⟨κ2, a', σ'', g1.trans h1, h2.trans g2, g3, g4, g5⟩
theorem Store.set_del {σ : Store} {i : Nat} {x : AObj} (h : σ.heap i = none) : (σ.set i x).del i = σ := by
  unfold Store.set Store.del
  cases σ with
  | mk hp tk =>
    congr 1
    funext j
    by_cases hj : j = i
    · subst hj; simp; exact h.symm
    · simp [hj]
theorem flat_one {l : List AVal} (h : ∀ x ∈ l, x.cells = [x]) : flat l = l := by
  induction l with
  | nil => rfl
  | cons x l ih => rw [flat_cons, h x (List.mem_cons_self ..), ih fun y hy => h y (List.mem_cons_of_mem _ hy)]; rfl
end Go.Ab
end

section
set_option linter.all false
namespace Go.Ab
open Go.RowKit (Below)

section
variable {P : Program} {o : Oper} {α : Operand → AVal} {σ : Store} {Kk : AVal → Store → Prop}

/-- A plain block is written anew. -/
theorem Inv.setRaw {κ : K} {σ : Store} (h : Inv κ σ) {i : Nat} {x y : Obj} (hi : σ.heap i = some (.raw x)) (hy : ∀ c e f, y ≠ .cells c e f) :
    ∃ b, κ.ρ i = some b ∧ κ.w.heap[b]? = some x ∧ κ.Le { κ with w := { κ.w with heap := κ.w.heap.setIfInBounds b y } } ∧ Inv { κ with w := { κ.w with heap := κ.w.heap.setIfInBounds b y } } (σ.set i (.raw y)) := by
  obtain ⟨b, hb, hbase, hIb, hh, hx⟩ := h.heap i _ hi
  have hle : κ.Le { κ with w := { κ.w with heap := κ.w.heap.setIfInBounds b y } } := by
    refine ⟨rfl, ⟨rfl, rfl, rfl, by simp, fun k hk => heap_setBlock_ne _ (by omega)⟩, fun b' s e' => ?_, fun _ _ e' => e', fun _ _ e' => e', fun _ => Nat.le_refl _, fun b' off' u hi e' => ?_, Nat.le_refl _⟩
    · have hne : b' ≠ b := fun hh' => by
        subst hh'
        unfold World.shape? at e'
        rw [hh] at e'
        cases x <;> first | (cases e'; done) | exact hx _ _ _ rfl
      unfold World.shape? at e' ⊢
      dsimp only
      rw [heap_setBlock_ne _ hne]; exact e'
    · have hne : b' ≠ b := fun hh' => by rw [hh', hIb] at hi; omega
      simp only [World.cell?] at e' ⊢
      rw [heap_setBlock_ne _ hne]; exact e'
  refine ⟨b, hb, hh, hle, h.step hle rfl rfl h.frO b hbase hIb (fun b' hne _ => heap_setBlock_ne _ hne) i _ (fun _ _ => rfl) hb ⟨heap_setBlock _ hh, hy⟩ ?_ ?_⟩
  · intro j z hz hne hh'
    exact hne (h.inj j i _ _ b hz hi hh' hb)
  · intro t sz u ht hu hh'
    exact h.tokobj t sz u b i _ ht hu hh' hi hb

theorem AOp_rangeS {t : TypeId} {x : Operand} {s : ByteArray} (ho : o.op = .range t x) (ht : P.underlying t = some .string) (hx : α x = .lit (.string s)) (hk : ∀ i, σ.heap i = none → Kk (.ref i 0) (σ.set i (.raw (.stringIter s 0)))) : AOp P o α σ Kk := by
  obtain ⟨dst, op, ty, pos, after, guard⟩ := o
  obtain rfl : op = _ := ho
  intro κ ev hI hxx
  have hv := hxx x (by simp [Op.operands])
  rw [hx] at hv
  obtain ⟨i, hi, hfree⟩ := hI.fresh
  obtain ⟨κ', hw, hle, hρ, hI'⟩ := hI.alloc i hi (.raw (.stringIter s 0)) (.stringIter s 0) fun κ' hle hh _ => ⟨hh, fun _ _ _ h => by cases h⟩
  refine upon_v rfl ⟨.pointer (some ⟨κ.w.heap.size, 0, none⟩), κ.w.alloc (.stringIter s 0), ?_, κ', .ref i 0, _, hw, hle, hI', .ref i 0 _ hρ, hk i hfree⟩
  rw [hv.litInv]
  exact run_range_string κ.w t s ht

/-- how far a rune of a string goes -/
def runeAt (s : ByteArray) (p : Nat) : Int := (Utf8.decode s p).1
def runeW (s : ByteArray) (p : Nat) : Nat := (Utf8.decode s p).2

theorem AOp_nextS {x : Operand} {s : ByteArray} {i p : Nat} (ho : o.op = .next x true) (hx : α x = .ref i 0) (hh : σ.heap i = some (.raw (.stringIter s p)))
    (hy : p < s.size → Kk (.tup [.lit (.bool true), .lit (.int .i64 p), .lit (.int .i32 (runeAt s p))]) (σ.set i (.raw (.stringIter s (p + runeW s p)))))
    (hn : ¬ p < s.size → Kk (.tup [.lit (.bool false)]) σ) : AOp P o α σ Kk := by
  obtain ⟨dst, op, ty, pos, after, guard⟩ := o
  obtain rfl : op = _ := ho
  intro κ ev hI hxx
  have hv := hxx x (by simp [Op.operands])
  rw [hx] at hv
  obtain ⟨b, hb, hheap, hle, hI'⟩ := hI.setRaw (y := .stringIter s (p + runeW s p)) hh (fun _ _ _ h => by cases h)
  have he : ev x = .pointer (some ⟨b, 0, none⟩) := by
    generalize ev x = u at hv
    cases hv with
    | ref _ _ b' hb' => rw [hb] at hb'; obtain rfl := Option.some.inj hb'; rfl
  have tup : ∀ (κ : K) (l : List AVal) (vs : List Value), l.length = vs.length → (∀ j (h1 : j < l.length) (h2 : j < vs.length), l[j] = .lit vs[j]) → Rv κ (.tup l) (.tuple vs.toArray) := fun κ l vs h1 h2 =>
    .tup _ _ (by simp [h1]) fun j hj => by
      have : (vs.toArray.getD j undef) = vs[j]'(by omega) := by simp [show j < vs.length by omega]
      rw [h2 j hj (by omega), this]
      exact .lit _
  by_cases hp : p < s.size
  · refine upon_v rfl ⟨.tuple #[.bool true, .int .i64 p, .int .i32 (runeAt s p)], _, ?_, _, _, _, rfl, hle, hI', tup _ _ [.bool true, .int .i64 p, .int .i32 (runeAt s p)] rfl (fun j h1 h2 => by match j, h1 with | 0, _ => rfl | 1, _ => rfl | 2, _ => rfl), hy hp⟩
    rw [he]
    simp [Instr.next, getObj, setObj, Sem.run, hheap, hp, Result.andThen, goInt, runeAt, runeW]
  · refine upon_v rfl ⟨.tuple #[.bool false], κ.w, ?_, κ, _, σ, rfl, K.Le.refl _, hI, tup _ _ [.bool false] rfl (fun j h1 h2 => by match j, h1 with | 0, _ => rfl), hn hp⟩
    rw [he]
    simp [Instr.next, getObj, Sem.run, hheap, hp, Result.andThen]
end
end Go.Ab
end

section
set_option linter.all false
namespace Go.Ab
open Go.RowKit (Below)

section
variable {P : Program} {o : Oper} {α : Operand → AVal} {σ : Store} {Kk : AVal → Store → Prop}

/-- append of whatever may be appended, to a slice of one's own -/
theorem AOp_appendS {s x : Operand} {t tx e : TypeId} {sz by_ : Nat} {l l2 : List AVal} {old : Option Nat}
    (ho : o.op = .call { callee := .builtin .append, args := #[s, x], argTypes := #[t, tx] }) (hse : sliceElem P t = some e) (hte : appInfo P e = some (sz, by_))
    (hs : (∃ k, α s = .own k sz l ∧ σ.tok k = some (e, sz) ∧ old = some k) ∨ (α s = .lit (.slice none 0 0) ∧ l = [] ∧ old = none))
    (hx : ASrc P sz tx (α x) l2) (hlen : (l.length + l2.length) * by_ ≤ 140737488355328)
    (hk : ∀ t', σ.tok t' = none → Kk (.own t' sz (l ++ l2)) (σ.newTok old t' (e, sz))) : AOp P o α σ Kk := by
  obtain ⟨dst, op, ty, pos, after, guard⟩ := o
  obtain rfl : op = .call { callee := .builtin .append, args := #[s, x], argTypes := #[t, tx] } := ho
  intro κ ev hI hxx
  obtain ⟨i, z, hi, hz, hisz, hiby, hzs, hsz, hby⟩ := appInfo_spec hte
  have hts : P.underlying t = some (.slice e) := by
    unfold sliceElem at hse
    split at hse
    · rename_i e' he'; obtain rfl := Option.some.inj hse; exact he'
    · cases hse
  have hvs := hxx s (by simp [Op.operands, Call.operands])
  have hvx := hxx x (by simp [Op.operands, Call.operands])
  have hle47 : l.length + l2.length ≤ 140737488355328 := Nat.le_trans (Nat.le_mul_of_pos_right _ hby) hlen
  obtain ⟨us, hlsz, hown, hus, hIold, hfreeold⟩ := append_base hI hvs hs
  obtain ⟨vs, hl2sz, hvsr, hsrc⟩ := hx.spec hvx
  have hfl2 : vs.length = l2.length * sz := by rw [← hvsr.1, flat_length hl2sz]
  obtain ⟨v', w', hrun, hown', hcase⟩ := append_casesS (P := P) κ.w κ.base t tx ty e i z sz by_ hts hi hz hisz hiby hzs hsz (ev s) l.length us hown (ev x) l2.length vs hfl2 hsrc (by simp only [maxLen]; omega) hlen hI.base
  obtain ⟨κ', t', rfl, hle, hI', hr', htok'⟩ := append_post hI hlsz hl2sz hus hvsr hIold hfreeold hown' hcase
  exact upon_v (s := Builtin.append_ #[t, tx] ty #[ev s, ev x]) (by simp [execOp, resolve, invoke, builtin]) ⟨v', κ'.w, hrun, κ', .own t' sz (l ++ l2), σ.newTok old t' (e, sz), rfl, hle, hI', hr', hk t' htok'⟩

/-- '[]byte(s)', to be appended to -/
theorem AOp_bytesOwn {src dst e : TypeId} {x : Operand} {s : ByteArray} (ho : o.op = .convert src dst x) (hs : P.underlying src = some .string) (hd : P.underlying dst = some (.slice e)) (he : P.underlying e = some (.int .u8)) (hx : α x = .lit (.string s)) (hsz : s.size ≤ 1099511627776)
    (hk : ∀ t', σ.tok t' = none → Kk (.own t' 1 (bytesL s)) (σ.newTok none t' (e, 1))) : AOp P o α σ Kk := by
  obtain ⟨dst', op, ty, pos, after, guard⟩ := o
  obtain rfl : op = .convert src dst x := ho
  intro κ ev hI hxx
  have hv := hxx x (by simp [Op.operands])
  rw [hx] at hv
  have hr := run_bytes_of_string (P := P) κ.w src dst e s hs hd he
  have hge := grownCap_ge κ.w s.size 0 e
  have hcm := grownCap_le_maxLen κ.w s.size 0 e (by simp only [maxLen]; omega)
  have hl : (bytesL s).length = s.size := bytesL_length s
  have hcl : (Go.byteCells s).length = s.size := byteCells_length s
  have hrow : (bytesRow s (grownCap κ.w s.size 0 e)).size = grownCap κ.w s.size 0 e := by
    have : s.data.size = s.size := rfl
    simp [bytesRow, this]; omega
  obtain ⟨κ', t', hw, hle, hI', hr', htok'⟩ := append_post (e := e) (sz := 1) (l := []) (l2 := bytesL s) (us := []) (vs := Go.byteCells s) (v0 := .slice none 0 0) (old := none) hI (by simp) (bytesL_cells s) .nil (by rw [flat_bytesL]; exact RvC.byteCells s) (by simp [tokBlock]) (by simp [tokBlock])
    (v' := .slice (some ⟨κ.w.heap.size, 0, none⟩) s.size (grownCap κ.w s.size 0 e))
    (w' := κ.w.drew.alloc (.cells (bytesRow s (grownCap κ.w s.size 0 e)) e ((bytesRow s (grownCap κ.w s.size 0 e)).size, (bytesRow s (grownCap κ.w s.size 0 e)).size + 1)))
    ⟨by simp [hl, hcl], .inr ⟨κ.w.heap.size, grownCap κ.w s.size 0 e, _, _, by simp [hl], hI.base, heap_alloc_new κ.w.drew _, .inr (Nat.le_refl _), by simpa [hl] using hge, hcm, by simpa using hrow, by
      have hm : (s.data.map fun b => Value.int .u8 b.toNat).toList.length = s.size := by simp
      simp only [List.length_nil, Nat.zero_add, hl, Nat.mul_one, List.nil_append, bytesRow, Array.toList_append]
      rw [List.take_append_of_le_length (by omega), List.take_of_length_le (by omega)]
      simp [Go.byteCells]⟩⟩
    (.inr (.inr ⟨_, grownCap κ.w s.size 0 e, _, rfl, by simp [hl]⟩))
  refine upon_v (s := Go.convert src dst (ev x)) rfl ⟨_, _, by rw [hv.litInv]; exact hr, κ', .own t' 1 (bytesL s), _, hw, hle, hI', by simpa using hr', hk t' htok'⟩

/-- a value in a box, whose first cell is a pointer that is nil -/
theorem AOp_boxP {t : TypeId} {x : Operand} {r : List AVal} (ho : o.op = .box t x) (hx : α x = .agg (.lit (.pointer none) :: r)) (hk : ∀ i, σ.heap i = none → Kk (.ref i 0) (σ.set i (.cells (.nilp i t (r.length + 1) :: r)))) : AOp P o α σ Kk := by
  obtain ⟨dst, op, ty, pos, after, guard⟩ := o
  obtain rfl : op = .box t x := ho
  intro κ ev hI hxx
  have hv := hxx x (by simp [Op.operands])
  rw [hx] at hv
  obtain ⟨vs, hvs, hn, hR⟩ := hv.aggInv
  obtain ⟨i, hi, hfree⟩ := hI.fresh
  have hsz : vs.size = r.length + 1 := by rw [hn]; rfl
  obtain ⟨κ', hw, hle, hρ, hI'⟩ := hI.alloc i hi (.cells (.nilp i t (r.length + 1) :: r)) (.cells vs t) fun κ' hle hh hρ' =>
    ⟨vs, t, hh, by simp [hsz], fun j hj => by
      have h1 := hR j (by simpa using hj)
      cases j with
      | zero =>
        simp only [List.getElem_cons_zero] at h1 ⊢
        rw [h1.litInv]
        exact .nilp i t _ κ.w.heap.size (by rw [hρ']; simp) (by unfold World.shape?; rw [hh]; simp [hsz])
      | succ j =>
        simp only [List.getElem_cons_succ] at h1 ⊢
        exact h1.mono hle⟩
  refine upon_v (s := Instr.box t (ev x)) rfl ⟨.pointer (some ⟨κ.w.heap.size, 0, none⟩), κ.w.alloc (.cells vs t), ?_, κ', .ref i 0, _, hw, hle, hI', .ref i 0 _ hρ, hk i hfree⟩
  rw [hvs]
  simp [Instr.box, newVar, newRow, Value.cells]

theorem shape_of_nilp {κ : K} (hI : Inv κ σ) {i n b : Nat} {e : TypeId} {r : List AVal} (hh : σ.heap i = some (.cells (.nilp i e n :: r))) (hb : κ.ρ i = some b) : κ.w.shape? b = some (e, n) := by
  obtain ⟨b', hb', _, _, c, e', hheap, hlen, hR⟩ := hI.heap i _ hh
  rw [hb] at hb'
  obtain rfl := Option.some.inj hb'
  have := hR 0 (by simp)
  generalize c.getD 0 undef = u at this
  simp only [List.getElem_cons_zero] at this
  cases this with
  | nilp _ _ _ b2 hb2 hs => rw [hb] at hb2; obtain rfl := Option.some.inj hb2; exact hs

theorem rv_ref {κ : K} {i b off : Nat} {v : Value} (h : Rv κ (.ref i off) v) (hb : κ.ρ i = some b) : v = .pointer (some ⟨b, off, none⟩) := by
  cases h with
  | ref _ _ b' hb' => rw [hb] at hb'; obtain rfl := Option.some.inj hb'; rfl

/-- a pointer as one without a type -/
theorem AOp_toUnsafe {src dst t e : TypeId} {x : Operand} {i n : Nat} {r : List AVal} (ho : o.op = .convert src dst x) (hs : P.underlying src = some (.pointer t)) (hd : P.underlying dst = some .unsafePointer) (ht : ((P.info? t).map fun j => j.size == 0) = some false)
    (hx : α x = .ref i 0) (hh : σ.heap i = some (.cells (.nilp i e n :: r))) (hn : 0 < n) (hk : Kk (.ref i 0) σ) : AOp P o α σ Kk := by
  obtain ⟨dst', op, ty, pos, after, guard⟩ := o
  obtain rfl : op = _ := ho
  intro κ ev hI hxx
  have hv := hxx x (by simp [Op.operands])
  rw [hx] at hv
  obtain ⟨b, hb, _⟩ := hI.heap i _ hh
  have he := rv_ref hv hb
  refine upon_v (s := convert src dst (ev x)) rfl ⟨.pointer (some ⟨b, 0, none⟩), κ.w, ?_, κ, _, σ, rfl, .refl κ, hI, .ref i 0 b hb, hk⟩
  rw [he]
  obtain ⟨j, ht, hj⟩ := Option.map_eq_some_iff.1 ht
  exact Lib.run_to_unsafe κ.w ⟨b, 0, none⟩ hs hd ht (by simpa using hj) (shape_of_nilp hI hh hb) hn

theorem AOp_fromUnsafe {src dst u e : TypeId} {x : Operand} {i n : Nat} {r : List AVal} (ho : o.op = .convert src dst x) (hs : P.underlying src = some .unsafePointer) (hd : P.underlying dst = some (.pointer u)) (hu : (P.info? u).isSome = true)
    (hx : α x = .ref i 0) (hh : σ.heap i = some (.cells (.nilp i e n :: r))) (hl : liesAt P P.depth e (n / P.cellsOf e) 0 u 1 = true) (hk : Kk (.ref i 0) σ) : AOp P o α σ Kk := by
  obtain ⟨dst', op, ty, pos, after, guard⟩ := o
  obtain rfl : op = _ := ho
  intro κ ev hI hxx
  have hv := hxx x (by simp [Op.operands])
  rw [hx] at hv
  obtain ⟨b, hb, _⟩ := hI.heap i _ hh
  have he := rv_ref hv hb
  refine upon_v (s := convert src dst (ev x)) rfl ⟨.pointer (some ⟨b, 0, none⟩), κ.w, ?_, κ, _, σ, rfl, .refl κ, hI, .ref i 0 b hb, hk⟩
  rw [he]
  obtain ⟨j, hu⟩ := Option.isSome_iff_exists.1 hu
  exact Lib.run_from_unsafe κ.w ⟨b, 0, none⟩ hs hd hu (shape_of_nilp hI hh hb) hl

/-- a function of the model's own, that reckons -/
def externOf (P : Program) (f : FuncId) : Option (Array Value → Sem Value) :=
  match P.funcs[f]? with
  | some fn => if !(fn.name == "runtime.NumGoroutine") && fn.body.isNone && (Extern.findNext fn).isNone then Extern.find fn else none
  | none => none
theorem run_extern {f : FuncId} {e : Array Value → Sem Value} (h : externOf P f = some e) (args : Array Value) (w : World) : (callFunc f args).run P w = ((e args).run P w).andThen fun v w' => .ok (.value v) w' := by
  unfold externOf at h
  split at h
  · rename_i fn hf
    split at h
    · rename_i hc
      simp only [Bool.and_eq_true, Bool.not_eq_true', Option.isNone_iff_eq_none] at hc
      exact run_callFunc_extern hf hc.1.1 (by simpa using hc.1.2) hc.2 h args w
    · cases h
  · cases h

theorem AOp_extern {f : FuncId} {args : Array Operand} {ts : Array TypeId} {e : Array Value → Sem Value} {a : AVal} (ho : o.op = .call { callee := .value (.func f), args := args, argTypes := ts }) (he : externOf P f = some e)
    (hf : α (.func f) = .lit (.func (.func f) #[] #[])) (h : ∀ κ (ev : Operand → Value), Inv κ σ → (∀ x ∈ args, Rv κ (α x) (ev x)) → ∃ cv, (e (args.map ev)).run P κ.w = .ok cv κ.w ∧ Rv κ a cv) (hk : Kk a σ) : AOp P o α σ Kk := by
  obtain ⟨dst', op, ty, pos, after, guard⟩ := o
  obtain rfl : op = _ := ho
  intro κ ev hI hxx
  obtain ⟨cv, h1, h2⟩ := h κ ev hI fun x hx => hxx x (by simp [Op.operands, Call.operands, hx])
  have hfv : Rv κ (α (.func f)) (ev (.func f)) := hxx (.func f) (by simp [Op.operands, Call.operands])
  rw [hf] at hfv
  have hr : (execOp ev ⟨dst', .call { callee := .value (.func f), args := args, argTypes := ts }, ty, pos, after, guard⟩).run P κ.w = .ok (.value cv) κ.w := by
    simp only [execOp, resolve, Sem.run_bind, hfv.litInv, Deferred.ofValue, Sem.run_pure, Result.andThen_ok, invoke]
    rw [run_extern he]
    simp [h1]
  rw [hr]
  exact ⟨κ, a, σ, rfl, .refl κ, hI, h2, hk⟩

theorem same_rv {κ : K} {α : Operand → AVal} {x : Operand} {ev : Operand → Value} (h : Rv κ (α x) (ev x)) : ∃ cv, (Extern.AbiNoEscape.same (#[x].map ev)).run P κ.w = .ok cv κ.w ∧ Rv κ (α x) cv := ⟨ev x, by rw [show #[x].map ev = #[ev x] from by simp]; exact Lib.run_noEscape κ.w (ev x), h⟩

/-- where a slice of bytes lies -/
theorem AOp_sliceData {x : Operand} {t e : TypeId} {k : Nat} {l : List AVal} {e0 : TypeId} (ho : o.op = .call { callee := .builtin .unsafeSliceData, args := #[x], argTypes := #[t] }) (hty : P.underlying o.type = some (.pointer e))
    (hx : (α x = .own k 1 l ∧ σ.tok k = some (e0, 1)) ∨ (α x = .lit (.slice none 0 0) ∧ l = [])) (hk : Kk (.sdp k l) σ) : AOp P o α σ Kk := by
  obtain ⟨dst', op, ty, pos, after, guard⟩ := o
  obtain rfl : op = _ := ho
  intro κ ev hI hxx
  have hv := hxx x (by simp [Op.operands, Call.operands])
  have fin : ∀ (cv : Value) κ', (Builtin.unsafeSliceData_ #[t] ty #[ev x]).run P κ.w = .ok cv κ'.w → κ.Le κ' → Inv κ' σ → Rv κ' (.sdp k l) cv → Upon P (Post κ Kk) ((execOp ev ⟨dst', .call { callee := .builtin .unsafeSliceData, args := #[x], argTypes := #[t] }, ty, pos, after, guard⟩).run P κ.w) := fun cv κ' h1 h2 h3 h4 =>
    upon_v (s := Builtin.unsafeSliceData_ #[t] ty #[ev x]) (by simp [execOp, resolve, invoke, builtin]) ⟨cv, κ'.w, h1, κ', .sdp k l, σ, rfl, h2, h3, h4, hk⟩
  rcases hx with ⟨hx, htok⟩ | ⟨hx, rfl⟩
  · rw [hx] at hv
    obtain ⟨v, hτ, n, xs, how, _⟩ := hI.tok k _ htok
    dsimp only at how
    generalize ev x = u at hv fin
    cases hv with
    | own _ _ _ _ h0 hτ' =>
      rw [hτ] at hτ'
      obtain rfl := Option.some.inj hτ'
      obtain ⟨a, cap, us, hev, _, _, _⟩ := sl_vals h0
      rcases how.2 with ⟨h1, h2⟩ | ⟨g, cap', cur, fr, h1, hbg, hg, hfr, hnc, hcm, hcs, htk⟩
      · rw [hev] at h1
        simp only [Value.slice.injEq] at h1
        obtain rfl : l = [] := List.eq_nil_of_length_eq_zero h1.2.1
        rw [hev, h1.1] at fin
        exact fin (.pointer none) κ (Lib.run_unsafeSliceData_nil κ.w _ _ _ _) (.refl κ) hI (.sdp0 k none)
      · rw [hev] at h1
        simp only [Value.slice.injEq] at h1
        obtain ⟨rfl, hnl, rfl⟩ := h1
        subst hev
        by_cases hc : cap = 0
        · subst hc
          obtain rfl : l = [] := List.eq_nil_of_length_eq_zero (by omega)
          obtain ⟨κ', hw, hle, _, hI'⟩ := new_imm hI (w1 := κ.w) (.inl rfl) (.view ⟨g, 0, none⟩ e) 0
          exact fin (.pointer (some ⟨κ.w.heap.size, 0, none⟩)) κ' (by rw [hw]; exact Lib.run_unsafeSliceData_zero κ.w _ ty e hty _ _ (e0, cur.size) (by unfold World.shape?; rw [hg])) hle hI' (.sdp0 k _)
        · exact fin (.pointer (some ⟨g, 0, none⟩)) κ (Lib.run_unsafeSliceData_row κ.w _ _ _ _ _ hc) (.refl κ) hI (.sdp k l g cap h0 hτ)
  · rw [hx] at hv
    rw [hv.litInv] at fin
    exact fin (.pointer none) κ (Lib.run_unsafeSliceData_nil κ.w _ _ _ _) (.refl κ) hI (.sdp0 k none)

theorem Store.delTok_sub (σ : Store) (k : Nat) : (σ.delTok k).Sub σ := ⟨fun _ _ h => h, fun t n h => by
  by_cases ht : t = k
  · subst ht; simp [Store.delTok] at h
  · simpa [Store.delTok, ht] using h⟩

theorem heap_freeze_ne (w : World) {g b : Nat} (n : Nat) (h : b ≠ g) : (w.freeze ⟨g, 0, none⟩ n).heap[b]? = w.heap[b]? := by
  unfold World.freeze
  split
  · rfl
  · simp only [Array.getElem?_modify]; rw [if_neg (Ne.symm h)]
theorem shape_freeze (w : World) (a : Addr) (n b : Nat) : (w.freeze a n).shape? b = w.shape? b := by
  by_cases h0 : n = 0
  · simp [World.freeze, h0]
  · simp only [World.freeze, World.shape?, h0, if_false, Array.getElem?_modify]
    by_cases hb : a.block = b
    · rw [if_pos hb]
      cases w.heap[b]? with
      | none => rfl
      | some x => cases x <;> rfl
    · rw [if_neg hb]
theorem cell_freeze (w : World) (a : Addr) (n : Nat) (p : Addr) : (w.freeze a n).cell? p = w.cell? p := by
  by_cases h0 : n = 0
  · simp [World.freeze, h0]
  · simp only [World.freeze, World.cell?, h0, if_false, Array.getElem?_modify]
    by_cases hb : a.block = p.block
    · rw [if_pos hb]
      cases w.heap[p.block]? with
      | none => rfl
      | some x => cases x <;> rfl
    · rw [if_neg hb]

/-- the string of bytes that lie somewhere: they are not written any more -/
theorem AOp_unsafeString {x y : Operand} {t t2 e : TypeId} {k : Nat} {s : ByteArray} (ho : o.op = .call { callee := .builtin .unsafeString, args := #[x, y], argTypes := #[t, t2] }) (ht : P.underlying t = some (.pointer e)) (hc : P.cellsOf e = 1)
    (hx : α x = .sdp k (bytesL s)) (hy : α y = .lit (.int .i64 (s.size : Int))) (htok : s.size = 0 ∨ σ.tok k = some (e, 1)) (h63 : s.size ≤ 9223372036854775807) (hk : Kk (.lit (.string s)) (σ.delTok k)) : AOp P o α σ Kk := by
  obtain ⟨dst', op, ty, pos, after, guard⟩ := o
  obtain rfl : op = _ := ho
  intro κ ev hI hxx
  have hvx := hxx x (by simp [Op.operands, Call.operands])
  have hvy := hxx y (by simp [Op.operands, Call.operands])
  rw [hx] at hvx
  rw [hy] at hvy
  have hey := hvy.litInv
  have fin : ∀ κ', (Builtin.unsafeString_ #[t, t2] ty #[ev x, .int .i64 (s.size : Int)]).run P κ.w = .ok (.string s) κ'.w → κ.Le κ' → Inv κ' (σ.delTok k) → Upon P (Post κ Kk) ((execOp ev ⟨dst', .call { callee := .builtin .unsafeString, args := #[x, y], argTypes := #[t, t2] }, ty, pos, after, guard⟩).run P κ.w) := fun κ' h1 h2 h3 =>
    upon_v (s := Builtin.unsafeString_ #[t, t2] ty #[ev x, ev y]) (by simp [execOp, resolve, invoke, builtin]) ⟨.string s, κ'.w, by rw [hey]; exact h1, κ', .lit (.string s), _, rfl, h2, h3, .lit _, hk⟩
  by_cases h0 : s.size = 0
  · have hs : s = .empty := by
      apply ByteArray.ext
      exact Array.eq_empty_of_size_eq_zero h0
    subst hs
    obtain ⟨a, ha⟩ : ∃ a, ev x = .pointer a := by
      generalize ev x = u at hvx
      cases hvx with
      | sdp0 => exact ⟨_, rfl⟩
      | sdp => exact ⟨_, rfl⟩
    exact fin κ (by rw [ha]; exact Lib.run_unsafeString_none κ.w t t2 ty a) (.refl κ) (hI.sub (Store.delTok_sub σ k))
  · have htk : σ.tok k = some (e, 1) := htok.resolve_left h0
    generalize hu : ev x = u at hvx fin
    generalize hl : bytesL s = l at hvx
    cases hvx with
    | sdp0 => exact absurd (by have := bytesL_length s; rw [hl] at this; simpa using this.symm) h0
    | sdp _ _ g c hsl hτ =>
      subst hl
      obtain ⟨v, hτ', n, xs, how, hIb⟩ := hI.tok k _ htk
      rw [hτ] at hτ'
      obtain rfl := Option.some.inj hτ'
      rcases how.2 with ⟨h1, _⟩ | ⟨g', cap', cur, fr, h1, hbg, hg, hfr, hnc, hcm, hcs, htkk⟩
      · cases h1
      simp only [Value.slice.injEq, Option.some.injEq, Addr.mk.injEq, and_true] at h1
      obtain ⟨rfl, hnl, rfl⟩ := h1
      rw [bytesL_length] at hnl
      obtain ⟨a, cap, us, hev, _, hr, hcells⟩ := sl_vals hsl
      have hsl' : s.data.toList.length = s.size := by show _ = s.data.size; simp
      have hcell : ∀ (j : Nat) x, s.data.toList[j]? = some x → κ.w.cell? ((⟨g, 0, none⟩ : Addr).add j) = some (.int .u8 x.toNat) := by
        intro j x hj
        simp only [Value.slice.injEq] at hev
        obtain ⟨rfl, _, rfl⟩ := hev
        rcases hcells with ⟨h1, _⟩ | ⟨ad, h1, hcu⟩
        · cases h1
        · obtain rfl := Option.some.inj h1
          have hj' : j < s.data.toList.length := (List.getElem?_eq_some_iff.1 hj).1
          have hjl : j < (flat (bytesL s)).length := by rw [flat_bytesL, bytesL_length]; exact hsl' ▸ hj'
          have hju : j < us.length := by rw [← hr.1]; exact hjl
          have h2 := hr.2 j hjl hju
          have e3 : (flat (bytesL s))[j] = .lit (.int .u8 x.toNat) := by
            simp only [flat_bytesL]
            simp only [bytesL, List.getElem_map]
            rw [(List.getElem?_eq_some_iff.1 hj).2]
          rw [e3] at h2
          have := hcu j us[j] (by simp [hju])
          rw [this, h2.litInv]
      have hrun := Lib.run_unsafeString_row (P := P) κ.w t t2 ty e ht hc g cur.size (by unfold World.shape?; rw [hg]) s.data.toList (by intro hh; apply h0; rw [← hsl', hh]; rfl) (by rw [hsl']; omega) (by rw [hsl']; exact h63) hcell
      have e1 : (s.data.toList.length : Int) = (s.size : Int) := by rw [hsl']
      have e2 : (⟨s.data.toList.toArray⟩ : ByteArray) = s := by cases s; simp
      rw [e1, e2] at hrun
      have hle : κ.Le { κ with w := κ.w.freeze ⟨g, 0, none⟩ s.data.toList.length } :=
        ⟨rfl, Lib.below_freeze (Below.refl _ _) hbg _, fun b sh h => by rw [shape_freeze]; exact h, fun _ _ h => h, fun _ _ h => h, fun _ => Nat.le_refl _, fun b off v _ h => by rw [cell_freeze]; exact h, by
          show _ ≤ (World.freeze _ _ _).drawn
          unfold World.freeze; split <;> exact Nat.le_refl _⟩
      refine fin { κ with w := κ.w.freeze ⟨g, 0, none⟩ s.data.toList.length } hrun hle ?_
      have sz : (κ.w.freeze ⟨g, 0, none⟩ s.data.toList.length).heap.size = κ.w.heap.size := by unfold World.freeze; split <;> simp
      have hI1 := hI.sub (Store.delTok_sub σ k)
      have tokne : ∀ t q, (σ.delTok k).tok t = some q → t ≠ k ∧ σ.tok t = some q := fun t q h => by
        by_cases ht : t = k
        · subst ht; simp [Store.delTok] at h
        · exact ⟨ht, by simpa [Store.delTok, ht] using h⟩
      exact {
        glob := hI.glob.le hle
        base := by rw [hle.base]; exact Nat.le_trans hI.base hle.below.size
        heap := fun i x hx => by
          obtain ⟨b, hb, hbase, hIb', hR⟩ := hI.heap i x hx
          have hne : b ≠ g := fun hh => hI.tokobj k _ _ g i x htk hτ rfl hx (by rw [hb, hh])
          exact ⟨b, hb, hbase, hIb', hR.mono hle (heap_freeze_ne _ _ hne)⟩
        inj := hI1.inj
        tok := fun t q ht => by
          obtain ⟨hne, ht'⟩ := tokne t q ht
          obtain ⟨v, hv, hok⟩ := hI.tok t q ht'
          exact ⟨v, hv, hok.mono hle fun b hb => ⟨heap_freeze_ne _ _ (fun hh => hne (hI.tokinj t k _ _ v _ g ht' htk hv hτ (by rw [hb, hh]) rfl)), rfl⟩⟩
        tokinj := hI1.tokinj
        tokobj := hI1.tokobj
        frO := hI.frO
        frT := hI.frT
        frI := fun b hb => hI.frI b (by rw [← sz]; exact hb) }
/-- the string of no bytes -/
theorem AOp_unsafeString0 {x y : Operand} {t t2 : TypeId} {k : Nat} (ho : o.op = .call { callee := .builtin .unsafeString, args := #[x, y], argTypes := #[t, t2] })
    (hx : α x = .sdp k []) (hy : α y = .lit (.int .i64 0)) (hk : Kk (.lit (.string ⟨#[]⟩)) σ) : AOp P o α σ Kk := by
  obtain ⟨dst', op, ty, pos, after, guard⟩ := o
  obtain rfl : op = _ := ho
  intro κ ev hI hxx
  have hvx := hxx x (by simp [Op.operands, Call.operands])
  have hvy := hxx y (by simp [Op.operands, Call.operands])
  rw [hx] at hvx
  rw [hy] at hvy
  obtain ⟨a, ha⟩ : ∃ a, ev x = .pointer a := by
    generalize ev x = u at hvx
    cases hvx with
    | sdp0 => exact ⟨_, rfl⟩
    | sdp => exact ⟨_, rfl⟩
  exact upon_v (s := Builtin.unsafeString_ #[t, t2] ty #[ev x, ev y]) (by simp [execOp, resolve, invoke, builtin]) ⟨.string ⟨#[]⟩, κ.w, by rw [hvy.litInv, ha]; exact Lib.run_unsafeString_none κ.w t t2 ty a, κ, .lit (.string ⟨#[]⟩), _, rfl, .refl κ, hI, .lit _, hk⟩
end
end Go.Ab
end

section
set_option linter.all false
namespace Go.Ab
open Go.RowKit (Below)

section
variable {P : Program} {o : Oper} {α : Operand → AVal} {σ : Store} {Kk : AVal → Store → Prop}

theorem AOp_capNil {x : Operand} {t e : TypeId} (ho : o.op = .call { callee := .builtin .cap, args := #[x], argTypes := #[t] }) (ht : P.underlying t = some (.slice e)) (hx : α x = .lit (.slice none 0 0)) (hk : Kk (.lit (.int .i64 0)) σ) : AOp P o α σ Kk := by
  obtain ⟨dst, op, ty, pos, after, guard⟩ := o
  obtain rfl : op = _ := ho
  intro κ ev hI hxx
  have hv := hxx x (by simp [Op.operands, Call.operands])
  rw [hx] at hv
  refine upon_v (s := Builtin.cap_ #[t] ty #[ev x]) (by simp [execOp, resolve, invoke, builtin]) ⟨.int .i64 0, κ.w, ?_, κ, .lit (.int .i64 0), σ, rfl, .refl κ, hI, .lit _, hk⟩
  rw [hv.litInv]
  simp [Builtin.cap_, run_underlying ht, goInt]

theorem AOp_appendMake {s x : Operand} {t tx e : TypeId} {sz by_ n : Nat} {k0 kx : IntKind}
    (ho : o.op = .call { callee := .builtin .append, args := #[s, x], argTypes := #[t, tx] }) (hse : sliceElem P t = some e) (hte : appInfo P e = some (sz, by_)) (htx : P.underlying tx = some (.int kx))
    (hs : α s = .lit (.slice none 0 0)) (hx : α x = .lit (.int k0 (n : Int))) (hn : 0 < n) (hlen : n * by_ ≤ 140737488355328)
    (hk : ∀ o', σ.heap o' = none → Kk (.msl o' sz 0 n) (σ.set o' (.cells []))) : AOp P o α σ Kk := by
  obtain ⟨dst, op, ty, pos, after, guard⟩ := o
  obtain rfl : op = .call { callee := .builtin .append, args := #[s, x], argTypes := #[t, tx] } := ho
  intro κ ev hI hxx
  obtain ⟨i, z, hi, hz, hisz, hiby, hzs, hsz, hby⟩ := appInfo_spec hte
  subst hisz
  subst hiby
  have hts : P.underlying t = some (.slice e) := by
    unfold sliceElem at hse
    split at hse
    · rename_i e' he'; obtain rfl := Option.some.inj hse; exact he'
    · cases hse
  have hvs := hxx s (by simp [Op.operands, Call.operands])
  have hvx := hxx x (by simp [Op.operands, Call.operands])
  rw [hs] at hvs
  rw [hx] at hvx
  have hle47 : n ≤ 140737488355328 := Nat.le_trans (Nat.le_mul_of_pos_right _ hby) hlen
  have hold : (Builtin.firstCells i.size 0 (.slice none 0 0)).run P κ.w.drew = .ok ([] : List Value).toArray κ.w.drew := by simp [Builtin.firstCells]
  have hrun := Lib.run_append_grow_zeros κ.w t tx ty e i z k0 kx hts htx hi hz none 0 0 [] hold n hn hsz (by omega) (by omega) (by omega) (growslice_fits (by omega) (by simpa using hlen))
  simp only [Nat.zero_add] at hrun
  obtain ⟨o', ho', hfr⟩ := hI.fresh
  have hd := hI.drew
  have hge := grownCap_ge κ.w n 0 e
  obtain ⟨cap', hcap'⟩ : ∃ c, grownCap κ.w n 0 e = c := ⟨_, rfl⟩
  rw [hcap'] at hrun hge
  generalize hcc : (([] : List Value).toArray ++ Builtin.zeroCells z.cells n ++ Builtin.zeroCells z.cells (cap' - n)) = cc at hrun
  have hsize : cc.size = cap' * i.size := by
    rw [← hcc]
    simp only [Array.size_append, List.size_toArray, size_zeroCells, hzs, List.length_nil, Nat.zero_add, ← Nat.add_mul]
    congr 1; omega
  obtain ⟨κ', hw, hle, hρ, hI'⟩ := hd.2.alloc o' ho' (.cells []) (.cells cc e) fun κ' hle hh _ => ⟨_, e, hh, by simp, fun j hj => by simp at hj⟩
  have hheap : κ'.w.heap[κ.w.heap.size]? = some (.cells cc e (0, 0)) := by rw [hw]; exact Go.heap_alloc_new κ.w.drew _
  refine upon_v (s := Builtin.append_ #[t, tx] ty #[ev s, ev x]) (by simp [execOp, resolve, invoke, builtin]) ⟨_, _, by rw [hvs.litInv, hvx.litInv]; exact hrun, κ', .msl o' i.size 0 n, _, hw, hd.1.trans hle, hI', .msl o' i.size 0 n κ.w.heap.size cap' _ e hρ hge (by unfold World.shape?; rw [hheap]) (by rw [hsize]; omega), hk o' hfr⟩

/-- append of nothing -/
theorem AOp_append0 {s x : Operand} {t tx e : TypeId} {sz by_ : Nat}
    (ho : o.op = .call { callee := .builtin .append, args := #[s, x], argTypes := #[t, tx] }) (hse : sliceElem P t = some e) (hte : appInfo P e = some (sz, by_))
    (hs : (∃ so len, α s = .msl so sz 0 len) ∨ α s = .lit (.slice none 0 0)) (hx : ASrc P sz tx (α x) []) (hk : Kk (α s) σ) : AOp P o α σ Kk := by
  obtain ⟨dst, op, ty, pos, after, guard⟩ := o
  obtain rfl : op = .call { callee := .builtin .append, args := #[s, x], argTypes := #[t, tx] } := ho
  intro κ ev hI hxx
  obtain ⟨i, z, hi, hz, hisz, hiby, hzs, hsz, hby⟩ := appInfo_spec hte
  have hts : P.underlying t = some (.slice e) := by
    unfold sliceElem at hse
    split at hse
    · rename_i e' he'; obtain rfl := Option.some.inj hse; exact he'
    · cases hse
  have hvs := hxx s (by simp [Op.operands, Call.operands])
  have hvx := hxx x (by simp [Op.operands, Call.operands])
  obtain ⟨vs, _, hvsr, hsrc⟩ := hx.spec hvx
  have hv0 : vs = [] := List.eq_nil_of_length_eq_zero (by rw [← hvsr.1]; rfl)
  subst hv0
  obtain ⟨a, n, cap, he, hnc⟩ : ∃ a n cap, ev s = .slice a n cap ∧ n ≤ cap := by
    rcases hs with ⟨so, len, hs⟩ | hs
    · rw [hs] at hvs
      generalize ev s = u at hvs
      cases hvs with
      | msl _ _ _ _ b cap n e hb hlen hs hn => exact ⟨_, _, _, rfl, hlen⟩
    · rw [hs] at hvs
      exact ⟨none, 0, 0, hvs.litInv, Nat.le_refl _⟩
  refine upon_v (s := Builtin.append_ #[t, tx] ty #[ev s, ev x]) (by simp [execOp, resolve, invoke, builtin]) ⟨ev s, κ.w, ?_, κ, α s, σ, rfl, .refl κ, hI, hvs, hk⟩
  rw [he]
  exact run_append_zero hts hi hisz hsrc a n cap hnc

/-- a row that grows: nothing yet, or one new object -/
def CBp (σ0 σ : Store) (sz : Nat) (l : List AVal) (a : AVal) : Prop := (a = .lit (.slice none 0 0) ∧ l = [] ∧ σ = σ0) ∨ ∃ o, σ0.heap o = none ∧ a = .msl o sz 0 l.length ∧ σ = σ0.set o (.cells (flat l))
theorem CBp.sub {σ0 σ : Store} {sz : Nat} {l : List AVal} {a : AVal} (h : CBp σ0 σ sz l a) : σ0.Sub σ := by
  rcases h with ⟨_, _, rfl⟩ | ⟨o, ho, _, rfl⟩
  · exact .refl _
  · exact ⟨fun i x hx => by rw [Store.set_ne _ _ (fun hh => by rw [hh, ho] at hx; cases hx)]; exact hx, fun _ _ h => h⟩
theorem delO_set {σ0 : Store} {o o' : Nat} {x y : AObj} (ho : σ0.heap o = none) : ((σ0.set o x).delO (some o)).set o' y = σ0.set o' y := by
  show ((σ0.set o x).del o).set o' y = _
  rw [Store.set_del ho]
theorem AOp_appendC {σ0 : Store} {s x : Operand} {t e : TypeId} {sz by_ : Nat} {l l2 : List AVal} {b : AVal}
    (ho : o.op = .call { callee := .builtin .append, args := #[s, x], argTypes := #[t, t] }) (hse : sliceElem P t = some e) (hte : appInfo P e = some (sz, by_)) (hb : CBp σ0 σ sz l b) (hs : α s = b) (hsz : ∀ y ∈ l, y.cells.length = sz)
    (hx : slOf (α x) = some (sz, l2)) (hone : ∀ y ∈ l2, ∀ c ∈ y.cells, c.one = true) (hlen : (l.length + l2.length) * by_ ≤ 140737488355328)
    (hk : ∀ a' σ', CBp σ0 σ' sz (l ++ l2) a' → Kk a' σ') : AOp P o α σ Kk := by
  subst hs
  have hts : P.underlying t = some (.slice e) := by
    unfold sliceElem at hse
    split at hse
    · rename_i e' he'; obtain rfl := Option.some.inj hse; exact he'
    · cases hse
  by_cases hne : l2 = []
  · subst hne
    refine AOp_append0 ho hse hte ?_ (.inl ⟨⟨_, hts⟩, .inl hx, hone⟩) (hk _ _ (by rwa [List.append_nil]))
    rcases hb with ⟨h, _⟩ | ⟨o, _, h, _⟩
    · exact .inr h
    · exact .inl ⟨o, _, h⟩
  · have hfl := flat_length hsz
    rcases hb with ⟨h, rfl, rfl⟩ | ⟨ob, hob, h, rfl⟩
    · refine AOp_appendM ho hse hte (len := 0) (.inr ⟨h, rfl, rfl, rfl⟩) hx hne hone (by simpa using hlen) fun o' ho' => hk _ _ (.inr ⟨o', ho', by simp, ?_⟩)
      simp [Store.delO]
    · refine AOp_appendM ho hse hte (.inl ⟨ob, flat l, h, Store.set_get .., rfl, rfl, by rw [hfl]; exact Nat.le_refl _⟩) hx hne hone hlen fun o' ho' => hk _ _ (.inr ⟨o', ?_, by simp, ?_⟩)
      · by_cases hh : o' = ob
        · rw [hh]; exact hob
        · rwa [Store.set_ne _ _ hh] at ho'
      · rw [delO_set hob, List.take_of_length_le (by rw [hfl]; exact Nat.le_refl _), flat_append]
theorem ACalls.wkA {f : FuncId} {args args' : List AVal} {Q : AVal → Store → Prop} (h : ACalls P f args' σ Q) (hn : args.length = args'.length) (hw : ∀ i (hi : i < args.length) (hi' : i < args'.length), Wk args[i] args'[i]) : ACalls P f args σ Q :=
  fun κ vs hI hs hv => h κ vs hI (hs.trans hn) fun i hi => (hv i (by omega)).wk (hw i (by omega) hi)
end
end Go.Ab
end

section
set_option linter.all false
namespace Go.Ab

def B (l : List UInt8) : ByteArray := ⟨l.toArray⟩
def Lb (s : ByteArray) : List UInt8 := s.data.toList
theorem B_Lb (s : ByteArray) : B (Lb s) = s := by cases s; simp [B, Lb]
theorem Lb_B (l : List UInt8) : Lb (B l) = l := by simp [B, Lb]
theorem B_append (a b : List UInt8) : B a ++ B b = B (a ++ b) := by
  apply ByteArray.ext; simp [B, ByteArray.data_append]
theorem B_size (l : List UInt8) : (B l).size = l.length := by show l.toArray.size = _; simp
theorem Lb_length (s : ByteArray) : (Lb s).length = s.size := by show s.data.toList.length = s.data.size; simp
theorem Lb_inj {a b : ByteArray} (h : Lb a = Lb b) : a = b := by rw [← B_Lb a, h, B_Lb]
theorem extract_B (s : ByteArray) (i j : Nat) : s.extract i j = B (((Lb s).take j).drop i) := by
  apply ByteArray.ext
  rw [ByteArray.data_extract]
  apply Array.ext'
  simp only [B, Lb, Array.toList_extract, List.extract_eq_drop_take]
  rw [List.drop_take]
theorem bytesL_B (l : List UInt8) : bytesL (B l) = l.map fun b => .lit (.int .u8 b.toNat) := by simp [bytesL, B]

/-! ### numbers as bytes -/
def byteI (n : Int) : UInt8 := UInt8.ofNat (n % 256).toNat
theorem byteI_val (n : Int) : ((byteI n).toNat : Int) = n % 256 := by
  have h1 : 0 ≤ n % 256 := Int.emod_nonneg _ (by decide)
  have h2 : n % 256 < 256 := Int.emod_lt_of_pos _ (by decide)
  unfold byteI
  rw [UInt8.toNat_ofNat']
  omega
def beI : Nat → Int → List UInt8
  | 0, _ => []
  | k + 1, n => byteI (n / 256 ^ k) :: beI k n
theorem beI_length : ∀ (k : Nat) (n : Int), (beI k n).length = k
  | 0, _ => rfl
  | k + 1, n => by rw [beI, List.length_cons, beI_length k n]

/-! ### bits of numbers that are not less than nothing -/
theorem ofInt_nat (w n : Nat) : BitVec.ofInt w (n : Int) = BitVec.ofNat w n := by
  apply BitVec.eq_of_toNat_eq
  rw [BitVec.toNat_ofInt, BitVec.toNat_ofNat]
  omega
theorem bAnd_nat (k : IntKind) (p q : Nat) (hp : p < 2 ^ k.bits) (hq : q < 2 ^ k.bits) (hw : k.wrap ((p &&& q : Nat) : Int) = ((p &&& q : Nat) : Int)) : bAnd k p q = ((p &&& q : Nat) : Int) := by
  unfold bAnd
  rw [ofInt_nat, ofInt_nat, BitVec.toNat_and, BitVec.toNat_ofNat, BitVec.toNat_ofNat, Nat.mod_eq_of_lt hp, Nat.mod_eq_of_lt hq, hw]
theorem bOr_nat (k : IntKind) (p q : Nat) (hp : p < 2 ^ k.bits) (hq : q < 2 ^ k.bits) (hw : k.wrap ((p ||| q : Nat) : Int) = ((p ||| q : Nat) : Int)) : bOr k p q = ((p ||| q : Nat) : Int) := by
  unfold bOr
  rw [ofInt_nat, ofInt_nat, BitVec.toNat_or, BitVec.toNat_ofNat, BitVec.toNat_ofNat, Nat.mod_eq_of_lt hp, Nat.mod_eq_of_lt hq, hw]
theorem bXor_nat (k : IntKind) (p q : Nat) (hp : p < 2 ^ k.bits) (hq : q < 2 ^ k.bits) (hw : k.wrap ((p ^^^ q : Nat) : Int) = ((p ^^^ q : Nat) : Int)) : bXor k p q = ((p ^^^ q : Nat) : Int) := by
  unfold bXor
  rw [ofInt_nat, ofInt_nat, BitVec.toNat_xor, BitVec.toNat_ofNat, BitVec.toNat_ofNat, Nat.mod_eq_of_lt hp, Nat.mod_eq_of_lt hq, hw]
theorem wrap_u32 (n : Int) : IntKind.u32.wrap n = n % 4294967296 := by
  unfold IntKind.wrap
  simp only [show IntKind.u32.bits = 32 from rfl, show IntKind.u32.signed = false from rfl]
  simp
theorem wrap_u32_nat (n : Nat) (h : n < 4294967296) : IntKind.u32.wrap (n : Int) = (n : Int) := by rw [wrap_u32]; omega
theorem wrap_u8 (n : Int) : IntKind.u8.wrap n = n % 256 := by
  unfold IntKind.wrap
  simp only [show IntKind.u8.bits = 8 from rfl, show IntKind.u8.signed = false from rfl]
  simp
theorem and32 {p q : Nat} (hp : p < 4294967296) (hq : q < 4294967296) : bAnd .u32 p q = ((p &&& q : Nat) : Int) ∧ p &&& q < 4294967296 := by
  have h : p &&& q < 4294967296 := Nat.lt_of_le_of_lt Nat.and_le_left hp
  exact ⟨bAnd_nat .u32 p q hp hq (wrap_u32_nat _ h), h⟩
theorem or32 {p q : Nat} (hp : p < 4294967296) (hq : q < 4294967296) : bOr .u32 p q = ((p ||| q : Nat) : Int) ∧ p ||| q < 4294967296 := by
  have h : p ||| q < 2 ^ 32 := Nat.or_lt_two_pow hp hq
  exact ⟨bOr_nat .u32 p q hp hq (wrap_u32_nat _ h), h⟩
theorem xor32 {p q : Nat} (hp : p < 4294967296) (hq : q < 4294967296) : bXor .u32 p q = ((p ^^^ q : Nat) : Int) ∧ p ^^^ q < 4294967296 := by
  have h : p ^^^ q < 2 ^ 32 := Nat.xor_lt_two_pow hp hq
  exact ⟨bXor_nat .u32 p q hp hq (wrap_u32_nat _ h), h⟩
/-! ### shifts -/
theorem aint_shl_k (k k' : IntKind) (a b : Int) (h0 : 0 ≤ b) (h1 : b ≤ k.bits) : aint .shl k a k' b = some (.int k (k.wrap (a * 2 ^ b.toNat))) := by
  simp only [aint]
  rw [if_neg (by omega), Nat.min_eq_left (by omega)]
theorem aint_shr_k (k k' : IntKind) (a b : Int) (h0 : 0 ≤ b) (h1 : b ≤ k.bits) : aint .shr k a k' b = some (.int k (a / 2 ^ b.toNat)) := by
  simp only [aint]
  rw [if_neg (by omega), Nat.min_eq_left (by omega), Int.fdiv_eq_ediv_of_nonneg _ (Int.le_of_lt (Int.pow_pos (by decide)))]
@[go_sem] theorem aint_shl_i64 (k' : IntKind) (a b : Int) (h0 : 0 ≤ b) (h1 : b ≤ 64) : aint .shl .i64 a k' b = some (.int .i64 (IntKind.i64.wrap (a * 2 ^ b.toNat))) := aint_shl_k .i64 k' a b h0 h1
@[go_sem] theorem aint_shr_i64 (k' : IntKind) (a b : Int) (h0 : 0 ≤ b) (h1 : b ≤ 64) : aint .shr .i64 a k' b = some (.int .i64 (a / 2 ^ b.toNat)) := aint_shr_k .i64 k' a b h0 h1
@[go_sem] theorem aint_shl_u32 (k' : IntKind) (a b : Int) (h0 : 0 ≤ b) (h1 : b ≤ 32) : aint .shl .u32 a k' b = some (.int .u32 (IntKind.u32.wrap (a * 2 ^ b.toNat))) := aint_shl_k .u32 k' a b h0 h1
@[go_sem] theorem aint_shr_u32 (k' : IntKind) (a b : Int) (h0 : 0 ≤ b) (h1 : b ≤ 32) : aint .shr .u32 a k' b = some (.int .u32 (a / 2 ^ b.toNat)) := aint_shr_k .u32 k' a b h0 h1
@[go_sem] theorem astr_addB (a b : List UInt8) (h : a.length + b.length ≤ 9223372036854775807) : astr .add (B a) (B b) = some (.string (B (a ++ b))) := by
  rw [astr_add _ _ (by rw [B_size, B_size]; exact h), B_append]
theorem bytes_at {l : List UInt8} {k : Nat} {c : UInt8} (h : l[k]? = some c) : (bytesL (B l))[k]? = some (.lit (.int .u8 (c.toNat : Int))) := by rw [bytesL_B, List.getElem?_map, h]; rfl
theorem take_snoc {α : Type} {l : List α} {k : Nat} {c : α} (h : l[k]? = some c) : l.take (k + 1) = l.take k ++ [c] := by rw [List.take_succ, h]; rfl
end Go.Ab
end

section
set_option linter.all false
set_option maxRecDepth 100000
namespace Go.Proofs.YtbomkkjhafdhiaaGreat
open Go.Ab

theorem o_ {p : Prop} (h : p := by simp only [List.getElem?_toArray, List.getElem?_cons_zero, List.getElem?_cons_succ]; rfl) : p := h
theorem v_ {p : Prop} (h : p := by first | (simp (disch := omega) only [go_sem, wrap_i64, ↓reduceIte, Nat.reduceEqDiff, Nat.reduceAdd, Nat.reduceSub, Nat.reduceMul, Nat.reduceLeDiff, reduceCtorEq, Int.reduceToNat, Int.reduceLE, Int.reduceLT, List.getElem?_map, Nat.mul_one, R]; rfl) | (simp (disch := omega) only [go_sem, wrap_i64, ↓reduceIte, Nat.reduceEqDiff, Nat.reduceAdd, Nat.reduceSub, Nat.reduceMul, Nat.reduceLeDiff, reduceCtorEq, Int.reduceToNat, Int.reduceLE, Int.reduceLT, List.getElem?_map, Nat.mul_one]; rfl)) : p := h
theorem va_ {p : Prop} (h : p := by first | (simp (disch := omega) only [go_sem, wrap_i64, ↓reduceIte, Nat.reduceEqDiff, Nat.reduceAdd, Nat.reduceSub, Nat.reduceMul, Nat.reduceLeDiff, reduceCtorEq, Int.reduceToNat, Int.reduceLE, Int.reduceLT, List.getElem?_map, Nat.mul_one, R]; rfl) | (simp (disch := omega) only [go_sem, wrap_i64, ↓reduceIte, Nat.reduceEqDiff, Nat.reduceAdd, Nat.reduceSub, Nat.reduceMul, Nat.reduceLeDiff, reduceCtorEq, Int.reduceToNat, Int.reduceLE, Int.reduceLT, List.getElem?_map, Nat.mul_one, R]; done) | (simp (disch := omega) only [go_sem, wrap_i64, ↓reduceIte, Nat.reduceEqDiff, Nat.reduceAdd, Nat.reduceSub, Nat.reduceMul, Nat.reduceLeDiff, reduceCtorEq, Int.reduceToNat, Int.reduceLE, Int.reduceLT, List.getElem?_map, Nat.mul_one]; rfl) | (simp (disch := omega) only [go_sem, wrap_i64, ↓reduceIte, Nat.reduceEqDiff, Nat.reduceAdd, Nat.reduceSub, Nat.reduceMul, Nat.reduceLeDiff, reduceCtorEq, Int.reduceToNat, Int.reduceLE, Int.reduceLT, List.getElem?_map, Nat.mul_one]; done) | rfl) : p := h
theorem h_ {p : Prop} (h : p := by first | (simp (disch := omega) only [go_sem, ↓reduceIte, Nat.reduceEqDiff, Nat.reduceAdd, Nat.reduceSub, Nat.reduceMul, Nat.reduceLeDiff, reduceCtorEq, Int.reduceToNat, Int.reduceLE, Int.reduceLT, List.getElem?_map, Nat.mul_one, R]; rfl) | (simp (disch := omega) only [go_sem, ↓reduceIte, Nat.reduceEqDiff, Nat.reduceAdd, Nat.reduceSub, Nat.reduceMul, Nat.reduceLeDiff, reduceCtorEq, Int.reduceToNat, Int.reduceLE, Int.reduceLT, List.getElem?_map, Nat.mul_one, R]; done) | (simp (disch := omega) only [go_sem, ↓reduceIte, Nat.reduceEqDiff, Nat.reduceAdd, Nat.reduceSub, Nat.reduceMul, Nat.reduceLeDiff, reduceCtorEq, Int.reduceToNat, Int.reduceLE, Int.reduceLT, List.getElem?_map, Nat.mul_one]; rfl) | (simp (disch := omega) only [go_sem, ↓reduceIte, Nat.reduceEqDiff, Nat.reduceAdd, Nat.reduceSub, Nat.reduceMul, Nat.reduceLeDiff, reduceCtorEq, Int.reduceToNat, Int.reduceLE, Int.reduceLT, List.getElem?_map, Nat.mul_one]; done)) : p := h
theorem g_ {p : Prop} (h : p := by first | (simp only [go_sem]; rfl) | (simp only [go_sem]; done) | assumption) : p := h
theorem gl_ {p : Prop} (h : p := by simp only [go_sem, ↓reduceIte, Nat.reduceEqDiff, Nat.reduceAdd, Nat.reduceSub, Nat.reduceMul, Nat.reduceLeDiff, reduceCtorEq, Int.reduceToNat, Int.reduceLE, Int.reduceLT]; rfl) : p := h
theorem c_ {p : Prop} (h : p := by simp [AVal.one, AVal.cells]) : p := h
theorem c2_ {p : Prop} (h : p := by simp [go_sem, AVal.one, AVal.cells, AVal.solid]) : p := h
theorem le_ {p : Prop} (h : p := by first | (simp; done) | (simp; omega) | omega) : p := h
theorem sub_ {p : Prop} (h : p := by first | exact Store.Wk.refl _ | exact Store.Sub.refl _ | ((try dsimp only); (try simp (disch := assumption) only [Store.newTok_set, Store.newTok_step]); (first | refine subx_start ?_ | refine subx_startS ?_ | skip); (repeat (first | refine subx_skip (.head _) ?_ | refine subx_skip (.tail _ (.head _)) ?_ | refine subx_skip (.tail _ (.tail _ (.head _))) ?_ | refine subx_skip (.tail _ (.tail _ (.tail _ (.head _)))) ?_ | refine subx_left h_ ?_)); (repeat (first | exact subx_refl | refine subx_in (.head _) ?_ | refine subx_in (.tail _ (.head _)) ?_ | refine subx_in (.tail _ (.tail _ (.head _))) ?_ | refine subx_in (.tail _ (.tail _ (.tail _ (.head _)))) ?_ | refine subx_new (by first | assumption | (simp only [Store.newTok_heap]; assumption)) ?_ | refine subx_tok ?_ | refine subx_newTok (by assumption) ?_)))) : p := h
theorem vg_ {p : Prop} (h : p := by intro hb; have hb' := hb; (try simp only [decide_eq_true_eq, decide_eq_false_iff_not, Bool.not_eq_true', Bool.not_eq_false', Bool.and_eq_true, Bool.or_eq_true, Bool.and_eq_false_iff, Bool.or_eq_false_iff, Bool.not_eq_eq_eq_not, Bool.not_true, Bool.not_false, Int.not_le, Int.not_lt, beq_iff_eq] at hb'); (try simp only [Bool.and_eq_true] at hb); first | (simp (disch := omega) only [go_sem, wrap_i64, ↓reduceIte, Nat.reduceEqDiff, Nat.reduceAdd, Nat.reduceSub, Nat.reduceMul, Nat.reduceLeDiff, reduceCtorEq, Int.reduceToNat, Int.reduceLE, Int.reduceLT, List.getElem?_map, Nat.mul_one, R]; rfl) | (simp (disch := omega) only [go_sem, wrap_i64, ↓reduceIte, Nat.reduceEqDiff, Nat.reduceAdd, Nat.reduceSub, Nat.reduceMul, Nat.reduceLeDiff, reduceCtorEq, Int.reduceToNat, Int.reduceLE, Int.reduceLT, List.getElem?_map, Nat.mul_one, hb, R]; rfl) | (simp (disch := omega) only [go_sem, wrap_i64, ↓reduceIte, Nat.reduceEqDiff, Nat.reduceAdd, Nat.reduceSub, Nat.reduceMul, Nat.reduceLeDiff, reduceCtorEq, Int.reduceToNat, Int.reduceLE, Int.reduceLT, List.getElem?_map, Nat.mul_one]; rfl) | (simp (disch := omega) only [go_sem, wrap_i64, ↓reduceIte, Nat.reduceEqDiff, Nat.reduceAdd, Nat.reduceSub, Nat.reduceMul, Nat.reduceLeDiff, reduceCtorEq, Int.reduceToNat, Int.reduceLE, Int.reduceLT, List.getElem?_map, Nat.mul_one, hb]; rfl)) : p := h
theorem vh_ {p : Prop} (h : p := by (try simp only [Bool.and_eq_true] at hb); first | (simp (disch := omega) only [go_sem, wrap_i64, ↓reduceIte, Nat.reduceEqDiff, Nat.reduceAdd, Nat.reduceSub, Nat.reduceMul, Nat.reduceLeDiff, reduceCtorEq, Int.reduceToNat, Int.reduceLE, Int.reduceLT, List.getElem?_map, Nat.mul_one, hb, R]; rfl) | (simp (disch := omega) only [go_sem, wrap_i64, ↓reduceIte, Nat.reduceEqDiff, Nat.reduceAdd, Nat.reduceSub, Nat.reduceMul, Nat.reduceLeDiff, reduceCtorEq, Int.reduceToNat, Int.reduceLE, Int.reduceLT, List.getElem?_map, Nat.mul_one, hb, R]; done) | (simp (disch := omega) only [go_sem, wrap_i64, ↓reduceIte, Nat.reduceEqDiff, Nat.reduceAdd, Nat.reduceSub, Nat.reduceMul, Nat.reduceLeDiff, reduceCtorEq, Int.reduceToNat, Int.reduceLE, Int.reduceLT, List.getElem?_map, Nat.mul_one, hb]; rfl) | (simp (disch := omega) only [go_sem, wrap_i64, ↓reduceIte, Nat.reduceEqDiff, Nat.reduceAdd, Nat.reduceSub, Nat.reduceMul, Nat.reduceLeDiff, reduceCtorEq, Int.reduceToNat, Int.reduceLE, Int.reduceLT, List.getElem?_map, Nat.mul_one, hb]; done)) : p := h
theorem cg_ {p : Prop} (h : p := by have hb' := hb; (try simp only [decide_eq_true_eq, decide_eq_false_iff_not, Bool.not_eq_true', Bool.not_eq_false', Bool.and_eq_true, Bool.or_eq_true, Bool.and_eq_false_iff, Bool.or_eq_false_iff, Bool.not_eq_eq_eq_not, Bool.not_true, Bool.not_false, Int.not_le, Int.not_lt, beq_iff_eq] at hb'); (try simp only [Bool.and_eq_true] at hb); first | (simp (disch := omega) only [go_sem, wrap_i64, ↓reduceIte, Nat.reduceEqDiff, Nat.reduceAdd, Nat.reduceSub, Nat.reduceMul, Nat.reduceLeDiff, reduceCtorEq, Int.reduceToNat, Int.reduceLE, Int.reduceLT, List.getElem?_map, Nat.mul_one, R]; rfl) | (simp (disch := omega) only [go_sem, wrap_i64, ↓reduceIte, Nat.reduceEqDiff, Nat.reduceAdd, Nat.reduceSub, Nat.reduceMul, Nat.reduceLeDiff, reduceCtorEq, Int.reduceToNat, Int.reduceLE, Int.reduceLT, List.getElem?_map, Nat.mul_one, R]; done) | (simp (disch := omega) only [go_sem, wrap_i64, ↓reduceIte, Nat.reduceEqDiff, Nat.reduceAdd, Nat.reduceSub, Nat.reduceMul, Nat.reduceLeDiff, reduceCtorEq, Int.reduceToNat, Int.reduceLE, Int.reduceLT, List.getElem?_map, Nat.mul_one, hb, R]; rfl) | (simp (disch := omega) only [go_sem, wrap_i64, ↓reduceIte, Nat.reduceEqDiff, Nat.reduceAdd, Nat.reduceSub, Nat.reduceMul, Nat.reduceLeDiff, reduceCtorEq, Int.reduceToNat, Int.reduceLE, Int.reduceLT, List.getElem?_map, Nat.mul_one, hb, R]; done) | (simp (disch := omega) only [go_sem, wrap_i64, ↓reduceIte, Nat.reduceEqDiff, Nat.reduceAdd, Nat.reduceSub, Nat.reduceMul, Nat.reduceLeDiff, reduceCtorEq, Int.reduceToNat, Int.reduceLE, Int.reduceLT, List.getElem?_map, Nat.mul_one]; rfl) | (simp (disch := omega) only [go_sem, wrap_i64, ↓reduceIte, Nat.reduceEqDiff, Nat.reduceAdd, Nat.reduceSub, Nat.reduceMul, Nat.reduceLeDiff, reduceCtorEq, Int.reduceToNat, Int.reduceLE, Int.reduceLT, List.getElem?_map, Nat.mul_one]; done) | (simp (disch := omega) only [go_sem, wrap_i64, ↓reduceIte, Nat.reduceEqDiff, Nat.reduceAdd, Nat.reduceSub, Nat.reduceMul, Nat.reduceLeDiff, reduceCtorEq, Int.reduceToNat, Int.reduceLE, Int.reduceLT, List.getElem?_map, Nat.mul_one, hb]; rfl) | (simp (disch := omega) only [go_sem, wrap_i64, ↓reduceIte, Nat.reduceEqDiff, Nat.reduceAdd, Nat.reduceSub, Nat.reduceMul, Nat.reduceLeDiff, reduceCtorEq, Int.reduceToNat, Int.reduceLE, Int.reduceLT, List.getElem?_map, Nat.mul_one, hb]; done)) : p := h
theorem vb_ {p : Prop} (h : p := by first | (simp (disch := omega) only [go_sem, wrap_i64, ↓reduceIte, Nat.reduceEqDiff, Nat.reduceAdd, Nat.reduceSub, Nat.reduceMul, Nat.reduceLeDiff, reduceCtorEq, Int.reduceToNat, Int.reduceLE, Int.reduceLT, List.getElem?_map, Nat.mul_one, List.map_append, List.map_cons, List.map_nil, R]; done) | (simp (disch := omega) only [go_sem, wrap_i64, ↓reduceIte, Nat.reduceEqDiff, Nat.reduceAdd, Nat.reduceSub, Nat.reduceMul, Nat.reduceLeDiff, reduceCtorEq, Int.reduceToNat, Int.reduceLE, Int.reduceLT, List.getElem?_map, Nat.mul_one, List.map_append, List.map_cons, List.map_nil]; done)) : p := h
theorem cv_ {p : Prop} (h : p := by (repeat (refine covers.eq (by first | with_reducible rfl | exact va_ | exact vb_ | rfl) ?_)); exact covers.nil) : p := h
theorem nm_ {p q : Prop} (h : p) (e : p = q := by (try simp only [decide_eq_true_eq, decide_eq_false_iff_not, Bool.not_eq_true', Bool.not_eq_false', Bool.and_eq_true, Bool.or_eq_true, Bool.and_eq_false_iff, Bool.or_eq_false_iff, Bool.not_eq_eq_eq_not, Bool.not_true, Bool.not_false, Int.not_le, Int.not_lt, beq_iff_eq]); rfl) : q := e ▸ h
end Go.Proofs.YtbomkkjhafdhiaaGreat
end

section
set_option linter.all false
set_option maxRecDepth 100000
namespace Go.Proofs.YtbomkkjhafdhiaaGreat
open Go.Ab

end Go.Proofs.YtbomkkjhafdhiaaGreat
end

section
set_option linter.all false
namespace Go.Ab
structure Seen where
  node : ByteArray
  base : Int
  more : List Int
structure Sib where
  node : ByteArray
  n : Int
  value : ByteArray
  gone : Bool
  time : Int
structure Obj' where
  ctx : List Seen
  sibs : List Sib
@[reducible] def sSeen (x : Seen) : AVal := .agg [.lit (.string x.node), vInt x.base, .sl 1 (x.more.map vInt) false]
@[reducible] def sSib (x : Sib) : AVal := .agg [.lit (.string x.node), vInt x.n, .lit (.string x.value), .lit (.bool x.gone), vInt x.time]
@[reducible] def sObj (x : Obj') : AVal := .agg [.sl 3 (x.ctx.map sSeen) false, .sl 5 (x.sibs.map sSib) false]
end Go.Ab
end

section
set_option linter.all false
set_option maxRecDepth 100000
namespace Go.Proofs.YtbomkkjhafdhiaaGreat
open Go.Ab

/-! ### lists -/
theorem SubX.trans {l : List Nat} {a b c : Store} (h : SubX l a b) (k : SubX l b c) : SubX l a c := ⟨fun i x hi hx => k.1 i x hi (h.1 i x hi hx), fun t n ht => k.2 t n (h.2 t n ht)⟩
theorem SubX.newTok {l : List Nat} {a b : Store} (h : SubX l a b) {old : Option Nat} {k : Nat} {p : TypeId × Nat} (ho : ∀ j, old = some j → a.tok j = none) (hk : b.tok k = none) : SubX l a (b.newTok old k p) := ⟨h.1, fun t n ht => by
  have h1 := h.2 t n ht
  simp only [Store.newTok]
  rw [if_neg (fun hh => by rw [hh, hk] at h1; cases h1), if_neg (fun hh => by rw [ho t hh.symm] at ht; cases ht)]
  exact h1⟩
theorem SubX.noTok {l : List Nat} {a b : Store} (h : SubX l a b) {k : Nat} (hk : b.tok k = none) : a.tok k = none := by
  cases ht : a.tok k with
  | none => rfl
  | some n => have := h.2 k n ht; rw [hk] at this; cases this

end Go.Proofs.YtbomkkjhafdhiaaGreat
end

section
set_option linter.all false
set_option maxRecDepth 100000
namespace Go.Proofs.YtbomkkjhafdhiaaGreat
open Go.Ab

theorem keep {l : List Nat} {a b : Store} {i : Nat} {x : AObj} (h : SubX l a b) (hx : a.heap i = some x) (hi : i ∉ l) : b.heap i = some x := h.1 i x hi hx
end Go.Proofs.YtbomkkjhafdhiaaGreat
end

section
set_option linter.all false
set_option maxRecDepth 100000
namespace Go.Proofs.YtbomkkjhafdhiaaGreat
open Go.Ab

end Go.Proofs.YtbomkkjhafdhiaaGreat
end

section
set_option linter.all false
set_option maxRecDepth 100000
namespace Go.Proofs.YtbomkkjhafdhiaaGreat
open Go.Ab

/-- a slice that is nil, or one's own -/
def NilOwn (σ : Store) (e : TypeId) (sz : Nat) (l : List AVal) (a : AVal) (old : Option Nat) : Prop := (∃ k, a = .own k sz l ∧ σ.tok k = some (e, sz) ∧ old = some k) ∨ (a = .lit (.slice none 0 0) ∧ l = [] ∧ old = none)
theorem NilOwn.wk {σ : Store} {e : TypeId} {sz : Nat} {l : List AVal} {a : AVal} {old : Option Nat} (h : NilOwn σ e sz l a old) : Wk a (.sl sz l false) := by
  rcases h with ⟨k, rfl, _⟩ | ⟨rfl, rfl, _⟩
  · exact .own1 _ _ _
  · exact .nil _ _
theorem NilOwn.of {σ : Store} {e : TypeId} {sz : Nat} {l : List AVal} {a b : AVal} {old : Option Nat} (h : NilOwn σ e sz l a old) (hb : b = a) : NilOwn σ e sz l b old := hb ▸ h

theorem SubX.noObj {l : List Nat} {a b : Store} (h : SubX l a b) {i : Nat} (hi : b.heap i = none) (hl : i ∉ l) : a.heap i = none := by
  cases hh : a.heap i with
  | none => rfl
  | some y => have := h.1 i y hl hh; rw [hi] at this; cases this
end Go.Proofs.YtbomkkjhafdhiaaGreat
end

section
set_option linter.all false
set_option maxRecDepth 100000
namespace Go.Proofs.YtbomkkjhafdhiaaGreat
open Go.Ab

/-- what a writer's first cell says: it is new, or it has been written to -/
def WA (o : Nat) (a : AVal) : Prop := a = .ref o 0 ∨ a = .nilp o 100 2
/-- a writer that holds bytes -/
def WR (σ : Store) (o : Nat) (l : List UInt8) : Prop := ∃ a b old, σ.heap o = some (.cells [a, b]) ∧ WA o a ∧ NilOwn σ 5 1 (bytesL (B l)) b old
def Hld (σ : Store) (o t : Nat) : Prop := ∃ a sz l, σ.heap o = some (.cells [a, .own t sz l])
/-- nothing but a writer turns -/
def WF (o : Nat) (σ σ' : Store) : Prop := (∀ i x, i ≠ o → σ.heap i = some x → σ'.heap i = some x) ∧ ∀ t n, σ.tok t = some n → ¬ Hld σ o t → σ'.tok t = some n ∧ ¬ Hld σ' o t
theorem WF.refl {o : Nat} {σ : Store} : WF o σ σ := ⟨fun _ _ _ h => h, fun _ _ h k => ⟨h, k⟩⟩
theorem WF.trans {o : Nat} {a b c : Store} (h : WF o a b) (k : WF o b c) : WF o a c :=
  ⟨fun i x hi hx => k.1 i x hi (h.1 i x hi hx), fun t n ht hn => k.2 t n (h.2 t n ht hn).1 (h.2 t n ht hn).2⟩
theorem WF.sub {o : Nat} {σ σ' : Store} {x : AObj} (ho : σ.heap o = none) (h : WF o (σ.set o x) σ') (hx : ∀ a t sz l, x ≠ .cells [a, .own t sz l]) : σ.Sub σ' :=
  ⟨fun i y hy => h.1 i y (fun hh => by rw [hh, ho] at hy; cases hy) (by rw [Store.set_ne _ _ (fun hh => by rw [hh, ho] at hy; cases hy)]; exact hy), fun t n ht => (h.2 t n ht fun ⟨a, sz, l, hh⟩ => by
    rw [Store.set_get] at hh
    exact hx _ _ _ _ (Option.some.inj hh)).1⟩
/-- a byte more, and the rest as it was -/
theorem WF.put {σ : Store} {o k : Nat} {a b c : AVal} {l l' : List AVal} {old : Option Nat} {p : TypeId × Nat} {e : TypeId} {sz sz' : Nat} (ho : σ.heap o = some (.cells [a, b])) (hb : NilOwn σ e sz l b old) (hk : σ.tok k = none) :
    WF o σ ((σ.newTok old k p).set o (.cells [c, .own k sz' l'])) := by
  refine ⟨fun i x hi hx => by rw [Store.set_ne _ _ hi]; exact hx, fun t n ht hn => ?_⟩
  have hkt : t ≠ k := fun hh => by rw [hh, hk] at ht; cases ht
  refine ⟨?_, ?_⟩
  · rw [Store.set_tok]
    simp only [Store.newTok]
    rw [if_neg hkt, if_neg (fun hh => ?_)]
    · exact ht
    · rcases hb with ⟨j, rfl, _, hj⟩ | ⟨rfl, _, hj⟩
      · rw [hj] at hh
        obtain rfl := Option.some.inj hh
        exact hn ⟨_, _, _, ho⟩
      · rw [hj] at hh; cases hh
  · rintro ⟨a', sz2, l2, hh⟩
    rw [Store.set_get] at hh
    simp only [Option.some.injEq, AObj.cells.injEq, List.cons.injEq, AVal.own.injEq, and_true] at hh
    exact hkt hh.2.1.symm

theorem refs_neq {σ : Store} {c : Bool} {o : Nat} : abin Tryz.prog σ .neq 96 c (.ref o 0) (.ref o 0) = some (.lit (.bool false)) := by
  simp only [abin, aeq, go_sem]
theorem copyCheck_1 {o : Nat} {b : AVal} {σ : Store} (ho : σ.heap o = some (.cells [.ref o 0, b])) : ACalls Tryz.prog 160 [.ref o 0] σ fun v σ' => v = .tup [] ∧ σ' = σ.set o (.cells [.ref o 0, b]) := by
  refine ACalls_of Tryz.func160 rfl Tryz.ntmps160 (congrArg Array.toList Tryz.results160) (by simp only [List.length_cons, List.length_nil]; decide) ?_; simp only [envOf_cons, envOf_nil, Nat.reduceAdd]
  refine awp_seq ?_
  have R := And.intro ho @refs_neq
  refine awp_region (by kernel_rfl) ?_
  iterate 5 (refine aL_S rfl rfl v_ ?_)
  refine aL_nil ?_
  refine awp_cond v_ (fun hc0 => ?_) (fun hc0 => ?_)
  · replace hc0 := nm_ hc0
    cases hc0
  · replace hc0 := nm_ hc0
    refine awp_seq ?_
    have R := And.intro ho @refs_neq
    refine awp_region (by kernel_rfl) ?_
    iterate 6 (refine aL_S rfl rfl v_ ?_)
    refine aL_nil ?_
    refine awp_cond v_ (fun hc2 => ?_) (fun hc2 => ?_)
    · replace hc2 := nm_ hc2
      cases hc2
    · replace hc2 := nm_ hc2
      refine awp_skip ?_
      refine aEnd_nor v_ (Store.Wk.refl _) ?_
      exact ⟨rfl, (Store.set_self ho).symm⟩
theorem copyCheck_2 {o : Nat} {b : AVal} {σ : Store} (ho : σ.heap o = some (.cells [.nilp o 100 2, b])) : ACalls Tryz.prog 160 [.ref o 0] σ fun v σ' => v = .tup [] ∧ σ' = σ.set o (.cells [.ref o 0, b]) := by
  refine ACalls_of Tryz.func160 rfl Tryz.ntmps160 (congrArg Array.toList Tryz.results160) (by simp only [List.length_cons, List.length_nil]; decide) ?_; simp only [envOf_cons, envOf_nil, Nat.reduceAdd]
  refine awp_seq ?_
  have R := ho
  refine awp_region (by kernel_rfl) ?_
  iterate 5 (refine aL_S rfl rfl v_ ?_)
  refine aL_nil ?_
  refine awp_cond v_ (fun hc0 => ?_) (fun hc0 => ?_)
  · replace hc0 := nm_ hc0
    have R := ho
    refine awp_region (by kernel_rfl) ?_
    iterate 2 (refine aL_S rfl rfl v_ ?_)
    refine aL_X rfl rfl (AOp_toUnsafe (t := 98) rfl Tryz.underlying96 Tryz.underlying209 (by kernel_rfl) g_ ho (by decide) ?_)
    refine aL_X rfl rfl (AOp_extern rfl (e := Extern.AbiNoEscape.same) (by kernel_rfl) g_ (fun κ ev _ h => same_rv (h _ (by simp))) ?_)
    refine aL_X rfl rfl (AOp_fromUnsafe (u := 98) rfl Tryz.underlying209 Tryz.underlying96 (by kernel_rfl) g_ ho (by kernel_rfl) ?_)
    iterate 2 (refine aL_S rfl rfl v_ ?_)
    refine aL_store rfl rfl rfl v_ v_ h_ g_ rfl g_ c_ (by rfl) le_ v_ ?_
    refine aL_nil ?_
    refine aEnd_nor v_ (Store.Wk.refl _) ?_
    exact ⟨rfl, rfl⟩
  · replace hc0 := nm_ hc0
    cases hc0
theorem copyCheck_c {o : Nat} {a b : AVal} {σ : Store} (ho : σ.heap o = some (.cells [a, b])) (ha : WA o a) : ACalls Tryz.prog 160 [.ref o 0] σ fun v σ' => v = .tup [] ∧ σ' = σ.set o (.cells [.ref o 0, b]) := by
  rcases ha with rfl | rfl
  · exact copyCheck_1 ho
  · exact copyCheck_2 ho

/-- a byte is appended, or a text -/
theorem writeByte_c {o : Nat} {a b : AVal} {σ : Store} {c : UInt8} {l : List UInt8} {old : Option Nat} (ho : σ.heap o = some (.cells [a, b])) (ha : WA o a) (hb : NilOwn σ 5 1 (bytesL (B l)) b old) (hl : l.length ≤ 1099511627776) :
    ACalls Tryz.prog 130 [.ref o 0, .lit (.int .u8 (c.toNat : Int))] σ fun v σ' => ∃ k, v = .lit .nilIface ∧ σ.tok k = none ∧ σ' = (σ.newTok old k (5, 1)).set o (.cells [.ref o 0, .own k 1 (bytesL (B (l ++ [c])))]) := by
  have e1 : bytesL (B (l ++ [c])) = bytesL (B l) ++ [.lit (.int .u8 (c.toNat : Int))] := by rw [bytesL_B, bytesL_B, List.map_append]; rfl
  have hbl : (bytesL (B l)).length = l.length := by rw [bytesL_length, B_size]
  refine ACalls_of Tryz.func130 rfl Tryz.ntmps130 (congrArg Array.toList Tryz.results130) (by simp only [List.length_cons, List.length_nil]; decide) ?_; simp only [envOf_cons, envOf_nil, Nat.reduceAdd]
  refine awp_seq ?_
  refine awp_region (by kernel_rfl) ?_
  (refine aL_S rfl rfl v_ ?_)
  refine aL_nil ?_
  refine awp_seq ?_
  refine awp_region (by kernel_rfl) ?_
  (refine aL_S rfl rfl v_ ?_)
  refine aL_X rfl rfl (AOp_use rfl rfl (.inr ⟨rfl, rfl, rfl⟩) g_ va_ (copyCheck_c ho ha) ?_); rintro _ _ ⟨rfl, rfl⟩
  refine aL_nil ?_
  refine awp_seq ?_
  refine awp_region (by kernel_rfl) ?_
  iterate 6 (refine aL_S rfl rfl v_ ?_)
  refine aL_buildSlice rfl rfl rfl g_ g_ rfl rfl h_ c2_ (by decide) ?_
  refine aL_X rfl rfl (AOp_appendS rfl g_ g_ (NilOwn.of hb va_) (.inl ⟨⟨_, g_⟩, .inl v_, c_⟩) (by simp; omega) fun k14 hk14 => ?_)
  iterate 2 (refine aL_S rfl rfl v_ ?_)
  refine aL_store rfl rfl rfl v_ v_ h_ g_ rfl g_ c_ (by rfl) le_ v_ ?_
  refine aL_nil ?_
  refine awp_seq ?_
  refine awp_region (by kernel_rfl) ?_
  (refine aL_S rfl rfl v_ ?_)
  refine aL_nil ?_
  refine awp_ret ?_
  refine aEnd_ret v_ (Store.Wk.refl _) ?_
  exact ⟨k14, rfl, hk14, by rw [e1, Store.newTok_set, Store.set_set]⟩
theorem writeString_c {o : Nat} {a b : AVal} {σ : Store} {s : ByteArray} {l : List UInt8} {old : Option Nat} (ho : σ.heap o = some (.cells [a, b])) (ha : WA o a) (hb : NilOwn σ 5 1 (bytesL (B l)) b old) (hl : l.length ≤ 1099511627776) (hs : s.size ≤ 1099511627776) :
    ACalls Tryz.prog 136 [.ref o 0, vStr s] σ fun v σ' => ∃ k, v = .tup [vInt s.size, .lit .nilIface] ∧ σ.tok k = none ∧ σ' = (σ.newTok old k (5, 1)).set o (.cells [.ref o 0, .own k 1 (bytesL (B (l ++ Lb s)))]) := by
  have e1 : bytesL (B l) ++ bytesL s = bytesL (B (l ++ Lb s)) := by rw [bytesL_append, ← B_append, B_Lb]
  have hbl : (bytesL (B l)).length = l.length := by rw [bytesL_length, B_size]
  have hsl := bytesL_length s
  refine ACalls_of Tryz.func136 rfl Tryz.ntmps136 (congrArg Array.toList Tryz.results136) (by simp only [List.length_cons, List.length_nil]; decide) ?_; simp only [envOf_cons, envOf_nil, Nat.reduceAdd]
  refine awp_seq ?_
  refine awp_region (by kernel_rfl) ?_
  iterate 2 (refine aL_S rfl rfl v_ ?_)
  refine aL_nil ?_
  refine awp_seq ?_
  refine awp_region (by kernel_rfl) ?_
  (refine aL_S rfl rfl v_ ?_)
  refine aL_X rfl rfl (AOp_use rfl rfl (.inr ⟨rfl, rfl, rfl⟩) g_ va_ (copyCheck_c ho ha) ?_); rintro _ _ ⟨rfl, rfl⟩
  refine aL_nil ?_
  refine awp_seq ?_
  refine awp_region (by kernel_rfl) ?_
  iterate 6 (refine aL_S rfl rfl v_ ?_)
  refine aL_X rfl rfl (AOp_appendS rfl g_ g_ (NilOwn.of hb va_) (ASrc_str g_) (by simp; omega) fun k14 hk14 => ?_); rw [e1]
  iterate 2 (refine aL_S rfl rfl v_ ?_)
  refine aL_store rfl rfl rfl v_ v_ h_ g_ rfl g_ c_ (by rfl) le_ v_ ?_
  refine aL_nil ?_
  refine awp_seq ?_
  refine awp_region (by kernel_rfl) ?_
  iterate 4 (refine aL_S rfl rfl v_ ?_)
  refine aL_nil ?_
  refine awp_ret ?_
  refine aEnd_ret v_ (Store.Wk.refl _) ?_
  exact ⟨k14, rfl, hk14, by rw [Store.newTok_set, Store.set_set]⟩
theorem string_1 {o k : Nat} {s : ByteArray} {σ : Store} {a : AVal} (ho : σ.heap o = some (.cells [a, .own k 1 (bytesL s)])) (hk : σ.tok k = some (5, 1)) (hs : s.size ≤ 1099511627776) : ACalls Tryz.prog 95 [.ref o 0] σ fun v σ' => v = vStr s ∧ σ' = σ.delTok k := by
  have hsl := bytesL_length s
  refine ACalls_of Tryz.func95 rfl Tryz.ntmps95 (congrArg Array.toList Tryz.results95) (by simp only [List.length_cons, List.length_nil]; decide) ?_; simp only [envOf_cons, envOf_nil, Nat.reduceAdd]
  refine awp_seq ?_
  have R := And.intro ho hsl
  refine awp_region (by kernel_rfl) ?_
  (refine aL_S rfl rfl v_ ?_)
  refine aL_nil ?_
  refine awp_seq ?_
  have R := And.intro ho hsl
  refine awp_draw (.op 0 0 (.op 1 0 (.op 2 0 (.op 3 0 (.op 5 0 (.op 6 0 (.op 7 0 (.op 8 0 (.op 9 0 (.op 4 1 (.op 10 2 (.op 11 0 .nil)))))))))))) Tryz.mixed (by kernel_rfl) ?_
  iterate 9 (refine dR_S o_ (by rfl) (by rfl) v_ ?_)
  refine dR_X o_ (by rfl) (by rfl) (AOp_sliceData (by rfl) g_ (.inl ⟨va_, hk⟩) ⟨sub_, ?_⟩)
  refine dR_T o_ (by rfl) (by rfl) (AOp_unsafeString (by rfl) g_ (by kernel_rfl) va_ va_ (.inr hk) (by omega) ?_)
  (refine dR_S o_ (by rfl) (by rfl) v_ ?_)
  refine dR_nil ?_
  refine awp_ret ?_
  refine aEnd_ret v_ (Store.Wk.refl _) ?_
  exact ⟨rfl, rfl⟩
theorem string_2 {o : Nat} {σ : Store} {a : AVal} (ho : σ.heap o = some (.cells [a, .lit (.slice none 0 0)])) : ACalls Tryz.prog 95 [.ref o 0] σ fun v σ' => v = vStr (B []) ∧ σ = σ' := by
  refine ACalls_of Tryz.func95 rfl Tryz.ntmps95 (congrArg Array.toList Tryz.results95) (by simp only [List.length_cons, List.length_nil]; decide) ?_; simp only [envOf_cons, envOf_nil, Nat.reduceAdd]
  refine awp_seq ?_
  have R := ho
  refine awp_region (by kernel_rfl) ?_
  (refine aL_S rfl rfl v_ ?_)
  refine aL_nil ?_
  refine awp_seq ?_
  have R := ho
  refine awp_draw (.op 0 0 (.op 1 0 (.op 2 0 (.op 3 0 (.op 5 0 (.op 6 0 (.op 7 0 (.op 8 0 (.op 9 0 (.op 4 1 (.op 10 2 (.op 11 0 .nil)))))))))))) Tryz.mixed (by kernel_rfl) ?_
  iterate 9 (refine dR_S o_ (by rfl) (by rfl) v_ ?_)
  refine dR_X o_ (by rfl) (by rfl) (AOp_sliceData (k := 0) (l := []) (e0 := 0) (by rfl) g_ (.inr ⟨va_, rfl⟩) ⟨sub_, ?_⟩)
  refine dR_T o_ (by rfl) (by rfl) (AOp_unsafeString0 (by rfl) va_ va_ ?_)
  (refine dR_S o_ (by rfl) (by rfl) v_ ?_)
  refine dR_nil ?_
  refine awp_ret ?_
  refine aEnd_ret (σ' := σ) v_ sub_ ?_
  exact ⟨rfl, rfl⟩

/-! ### the writer -/
theorem fdiv_pow (n : Int) (k : Nat) : n / 2 ^ (8 * k) = n / 256 ^ k := by
  rw [show (256 : Int) = 2 ^ 8 from rfl, ← Int.pow_mul]
theorem take_beI (n : Int) (k j : Nat) (h : j < k) : (beI k n)[j]? = some (byteI (n / 256 ^ (k - 1 - j))) := by
  induction k generalizing j with
  | zero => omega
  | succ k ih =>
    rw [beI]
    cases j with
    | zero => simp
    | succ j => rw [List.getElem?_cons_succ, ih j (by omega)]; congr 4; omega
theorem low_c {o k : Nat} {n : Int} {l : List UInt8} {σ : Store} (ho : WR σ o l) (hk : k ≤ 8) (hl : l.length ≤ 1000000000000) : ACalls Tryz.prog 94 [.ref o 0, vInt n, vInt k] σ fun v σ' => v = .tup [] ∧ WR σ' o (l ++ beI k n) ∧ WF o σ σ' := by
  have h00 : (k : Int) - 1 - ((0 : Nat) : Int) = (k : Int) - 1 := by omega
  refine ACalls_of Tryz.func94 rfl Tryz.ntmps94 (congrArg Array.toList Tryz.results94) (by simp only [List.length_cons, List.length_nil]; decide) ?_; simp only [envOf_cons, envOf_nil, Nat.reduceAdd]
  refine awp_seq ?_
  refine awp_seq ?_
  refine awp_region (by kernel_rfl) ?_
  iterate 2 (refine aL_S rfl rfl v_ ?_)
  refine aL_nil ?_
  refine awp_cond v_ (fun hc0 => ?_) (fun hc0 => ?_)
  · replace hc0 := nm_ hc0
    cases hc0
  · replace hc0 := nm_ hc0
    refine awp_skip ?_
    refine awp_seq ?_
    refine awp_region (by kernel_rfl) ?_
    iterate 3 (refine aL_S rfl rfl v_ ?_)
    refine aL_nil ?_
    refine awp_block ?_
    refine awp_loop_env (ι := Store × Nat) (fun ⟨τ, j⟩ => k - j) (fun ⟨τ, j⟩ => j ≤ k ∧ WR τ o (l ++ (beI k n).take j) ∧ WF o σ τ) (fun ⟨τ, j⟩ => [(0, .ref o 0), (1, vInt n), (6, vInt ((k : Int) - 1 - j))]) (fun ⟨τ, j⟩ => τ) (σ, 0) ?_ ?_ ?_ ?_
    · exact ⟨Nat.zero_le _, by simpa using ho, WF.refl⟩
    · have R := h00; exact cv_
    · exact Store.Wk.refl _
    rintro ⟨τ, j⟩ ⟨h1, h2, h3⟩
    simp only [envL_cons, envL_nil]
    refine awp_seq ?_
    refine awp_seq ?_
    refine awp_region (by kernel_rfl) ?_
    iterate 2 (refine aL_S rfl rfl v_ ?_)
    refine aL_nil ?_
    refine awp_cond v_ (fun hc2 => ?_) (fun hc2 => ?_)
    · replace hc2 := nm_ hc2
      refine awp_skip ?_
      refine awp_seq ?_
      refine awp_block ?_
      have hj : j < k := by omega
      have hbj := take_beI n k j hj
      obtain ⟨a, b, old, hw, ha, hb⟩ := h2
      have hll : (l ++ (beI k n).take j).length ≤ 1099511627776 := by rw [List.length_append, List.length_take]; omega
      have hcv : (k : Int) - 1 - j - 1 = (k : Int) - 1 - ((j + 1 : Nat) : Int) := by omega
      have hsh : ((8 : Int) * ((k : Int) - 1 - j)).toNat = 8 * (k - 1 - j) := by omega
      have hby := (byteI_val (n / 256 ^ (k - 1 - j))).symm
      have R := And.intro hsh (And.intro fdiv_pow (And.intro wrap_u8 hby))
      refine awp_draw (.op 0 0 (.op 1 0 (.op 2 0 (.op 3 0 (.op 4 0 (.op 5 0 (.op 6 0 (.op 7 0 (.op 8 2 .nil))))))))) Tryz.mixed (by kernel_rfl) ?_
      iterate 8 (refine dR_S o_ (by rfl) (by rfl) v_ ?_)
      refine dR_T o_ (by rfl) (by rfl) (AOp_use (by rfl) (by rfl) (.inr ⟨by rfl, by rfl, by rfl⟩) g_ va_ (writeByte_c (c := byteI (n / 256 ^ (k - 1 - j))) hw ha hb hll) ?_); rintro _ _ ⟨k23, rfl, hk23, rfl⟩
      refine dR_nil ?_
      refine awp_region (by kernel_rfl) ?_
      iterate 3 (refine aL_S rfl rfl v_ ?_)
      refine aL_nil ?_
      refine aNext (ι := Store × Nat) (i := ⟨τ, j⟩) ((τ.newTok old k23 (5, 1)).set o (.cells [.ref o 0, .own k23 1 (bytesL (B (l ++ (beI k n).take j ++ [byteI (n / 256 ^ (k - 1 - j))])))]), j + 1) ?_ ?_ ?_ ?_
      · show k - (j + 1) < k - j; omega
      · exact ⟨by show j + 1 ≤ k; omega, ⟨_, _, some k23, Store.set_get .., .inl rfl, .inl ⟨k23, by rw [take_snoc hbj, List.append_assoc], by rw [Store.set_tok]; exact Store.newTok_get .., rfl⟩⟩, h3.trans (WF.put hw hb hk23)⟩
      · have R := hcv; exact cv_
      · exact Store.Wk.refl _
    · replace hc2 := nm_ hc2
      refine awp_exit ?_
      refine aThen_exit ?_
      refine aThen_exit ?_
      refine aBlock_hit ?_
      refine aEnd_nor v_ (Store.Wk.refl _) ?_
      exact ⟨rfl, by rwa [List.take_of_length_le (by rw [beI_length]; omega)] at h2, h3⟩

theorem wrByte_c {o : Nat} {n : Int} {l : List UInt8} {σ : Store} (ho : WR σ o l) (hl : l.length ≤ 1000000000000) : ACalls Tryz.prog 103 [.ref o 0, vInt n] σ fun v σ' => v = .tup [] ∧ WR σ' o (l ++ beI 1 n) ∧ WF o σ σ' := by
  refine ACalls_of Tryz.func103 rfl Tryz.ntmps103 (congrArg Array.toList Tryz.results103) (by simp only [List.length_cons, List.length_nil]; decide) ?_; simp only [envOf_cons, envOf_nil, Nat.reduceAdd]
  refine awp_region (by kernel_rfl) ?_
  iterate 2 (refine aL_S rfl rfl v_ ?_)
  refine aL_X rfl rfl (AOp_use rfl rfl (.inr ⟨rfl, rfl, rfl⟩) g_ va_ (low_c (k := 1) ho (by decide) hl) ?_); rintro _ τ ⟨rfl, h1, h2⟩
  refine aL_nil ?_
  refine aEnd_nor v_ (Store.Wk.refl _) ?_
  exact ⟨rfl, h1, h2⟩
theorem wrInt_c {o : Nat} {n : Int} {l : List UInt8} {σ : Store} (ho : WR σ o l) (hl : l.length ≤ 1000000000000) : ACalls Tryz.prog 56 [.ref o 0, vInt n] σ fun v σ' => v = .tup [] ∧ WR σ' o (l ++ beI 8 n) ∧ WF o σ σ' := by
  refine ACalls_of Tryz.func56 rfl Tryz.ntmps56 (congrArg Array.toList Tryz.results56) (by simp only [List.length_cons, List.length_nil]; decide) ?_; simp only [envOf_cons, envOf_nil, Nat.reduceAdd]
  refine awp_region (by kernel_rfl) ?_
  iterate 2 (refine aL_S rfl rfl v_ ?_)
  refine aL_X rfl rfl (AOp_use rfl rfl (.inr ⟨rfl, rfl, rfl⟩) g_ va_ (low_c (k := 8) ho (by decide) hl) ?_); rintro _ τ ⟨rfl, h1, h2⟩
  refine aL_nil ?_
  refine aEnd_nor v_ (Store.Wk.refl _) ?_
  exact ⟨rfl, h1, h2⟩
theorem wrCount_c {o : Nat} {n : Int} {l : List UInt8} {σ : Store} (ho : WR σ o l) (hl : l.length ≤ 1000000000000) : ACalls Tryz.prog 59 [.ref o 0, vInt n] σ fun v σ' => v = .tup [] ∧ WR σ' o (l ++ beI 4 n) ∧ WF o σ σ' := by
  refine ACalls_of Tryz.func59 rfl Tryz.ntmps59 (congrArg Array.toList Tryz.results59) (by simp only [List.length_cons, List.length_nil]; decide) ?_; simp only [envOf_cons, envOf_nil, Nat.reduceAdd]
  refine awp_region (by kernel_rfl) ?_
  iterate 2 (refine aL_S rfl rfl v_ ?_)
  refine aL_X rfl rfl (AOp_use rfl rfl (.inr ⟨rfl, rfl, rfl⟩) g_ va_ (low_c (k := 4) ho (by decide) hl) ?_); rintro _ τ ⟨rfl, h1, h2⟩
  refine aL_nil ?_
  refine aEnd_nor v_ (Store.Wk.refl _) ?_
  exact ⟨rfl, h1, h2⟩
def textB (s : ByteArray) : List UInt8 := beI 4 s.size ++ Lb s
theorem textB_length (s : ByteArray) : (textB s).length = 4 + s.size := by rw [textB, List.length_append, beI_length, Lb_length]
theorem wrText_c {o : Nat} {s : ByteArray} {l : List UInt8} {σ : Store} (ho : WR σ o l) (hl : l.length ≤ 999999999990) (hs : s.size ≤ 1000000000) : ACalls Tryz.prog 102 [.ref o 0, vStr s] σ fun v σ' => v = .tup [] ∧ WR σ' o (l ++ textB s) ∧ WF o σ σ' := by
  refine ACalls_of Tryz.func102 rfl Tryz.ntmps102 (congrArg Array.toList Tryz.results102) (by simp only [List.length_cons, List.length_nil]; decide) ?_; simp only [envOf_cons, envOf_nil, Nat.reduceAdd]
  refine awp_seq ?_
  refine awp_region (by kernel_rfl) ?_
  iterate 3 (refine aL_S rfl rfl v_ ?_)
  refine aL_X rfl rfl (AOp_use rfl rfl (.inr ⟨rfl, rfl, rfl⟩) g_ va_ (wrCount_c ho (by omega)) ?_); rintro _ τ ⟨rfl, h1, h2⟩
  refine aL_nil ?_
  refine awp_seq ?_
  refine awp_region (by kernel_rfl) ?_
  iterate 2 (refine aL_S rfl rfl v_ ?_)
  refine aL_nil ?_
  refine awp_cond v_ (fun hc1 => ?_) (fun hc1 => ?_)
  · replace hc1 := nm_ hc1
    obtain ⟨a, b, old, hw, ha, hb⟩ := h1
    have hll : (l ++ beI 4 s.size).length ≤ 1099511627776 := by rw [List.length_append, beI_length]; omega
    refine awp_region (by kernel_rfl) ?_
    iterate 4 (refine aL_S rfl rfl v_ ?_)
    refine aL_X rfl rfl (AOp_use rfl rfl (.inr ⟨rfl, rfl, rfl⟩) g_ va_ (writeString_c hw ha hb hll (by omega)) ?_); rintro _ _ ⟨k14, rfl, hk14, rfl⟩
    refine aL_nil ?_
    refine aEnd_nor v_ (Store.Wk.refl _) ?_
    exact ⟨rfl, ⟨_, _, some k14, Store.set_get .., .inl rfl, .inl ⟨k14, by rw [textB, ← List.append_assoc], by rw [Store.set_tok]; exact Store.newTok_get .., rfl⟩⟩, h2.trans (WF.put hw hb hk14)⟩
  · replace hc1 := nm_ hc1
    cases hc1
theorem WF.del {σ : Store} {o k : Nat} {a : AVal} {l : List AVal} {sz : Nat} (ho : σ.heap o = some (.cells [a, .own k sz l])) : WF o σ (σ.delTok k) := by
  refine ⟨fun i x _ hx => hx, fun t n ht hn => ⟨?_, hn⟩⟩
  have : t ≠ k := fun hh => hn ⟨_, _, _, by rw [hh]; exact ho⟩
  simp [Store.delTok, this, ht]
theorem wrBytes_1 {o k : Nat} {s : ByteArray} {σ : Store} {a : AVal} (ho : σ.heap o = some (.cells [a, .own k 1 (bytesL s)])) (hk : σ.tok k = some (5, 1)) (hs : s.size ≤ 1099511627776) : ACalls Tryz.prog 57 [.ref o 0] σ fun v σ' => v = vStr s ∧ WF o σ σ' := by
  refine ACalls_of Tryz.func57 rfl Tryz.ntmps57 (congrArg Array.toList Tryz.results57) (by simp only [List.length_cons, List.length_nil]; decide) ?_; simp only [envOf_cons, envOf_nil, Nat.reduceAdd]
  refine awp_seq ?_
  refine awp_region (by kernel_rfl) ?_
  (refine aL_S rfl rfl v_ ?_)
  refine aL_nil ?_
  refine awp_seq ?_
  refine awp_seq ?_
  refine awp_region (by kernel_rfl) ?_
  iterate 2 (refine aL_S rfl rfl v_ ?_)
  refine aL_nil ?_
  refine awp_cond v_ (fun hc1 => ?_) (fun hc1 => ?_)
  · replace hc1 := nm_ hc1
    cases hc1
  · replace hc1 := nm_ hc1
    refine awp_skip ?_
    refine awp_seq ?_
    refine awp_region (by kernel_rfl) ?_
    iterate 3 (refine aL_S rfl rfl v_ ?_)
    refine aL_X rfl rfl (AOp_use rfl rfl (.inr ⟨rfl, rfl, rfl⟩) g_ va_ (string_1 ho hk hs) ?_); rintro _ _ ⟨rfl, rfl⟩
    (refine aL_S rfl rfl v_ ?_)
    refine aL_nil ?_
    refine awp_ret ?_
    refine aEnd_ret v_ (Store.Wk.refl _) ?_
    exact ⟨rfl, WF.del ho⟩
theorem wrBytes_2 {o : Nat} {σ : Store} {a : AVal} (ho : σ.heap o = some (.cells [a, .lit (.slice none 0 0)])) : ACalls Tryz.prog 57 [.ref o 0] σ fun v σ' => v = vStr (B []) ∧ WF o σ σ' := by
  refine ACalls_of Tryz.func57 rfl Tryz.ntmps57 (congrArg Array.toList Tryz.results57) (by simp only [List.length_cons, List.length_nil]; decide) ?_; simp only [envOf_cons, envOf_nil, Nat.reduceAdd]
  refine awp_seq ?_
  refine awp_region (by kernel_rfl) ?_
  (refine aL_S rfl rfl v_ ?_)
  refine aL_nil ?_
  refine awp_seq ?_
  refine awp_seq ?_
  refine awp_region (by kernel_rfl) ?_
  iterate 2 (refine aL_S rfl rfl v_ ?_)
  refine aL_nil ?_
  refine awp_cond v_ (fun hc1 => ?_) (fun hc1 => ?_)
  · replace hc1 := nm_ hc1
    cases hc1
  · replace hc1 := nm_ hc1
    refine awp_skip ?_
    refine awp_seq ?_
    refine awp_region (by kernel_rfl) ?_
    iterate 3 (refine aL_S rfl rfl v_ ?_)
    refine aL_X rfl rfl (AOp_use rfl rfl (.inr ⟨rfl, rfl, rfl⟩) g_ va_ (string_2 ho) ?_); rintro _ _ ⟨rfl, rfl⟩
    (refine aL_S rfl rfl v_ ?_)
    refine aL_nil ?_
    refine awp_ret ?_
    refine aEnd_ret v_ (Store.Wk.refl _) ?_
    exact ⟨rfl, WF.refl⟩
/-- what is written is handed out: it is not written to any more -/
theorem wrBytes_c {o : Nat} {l : List UInt8} {σ : Store} (ho : WR σ o l) (hl : l.length ≤ 1000000000000) : ACalls Tryz.prog 57 [.ref o 0] σ fun v σ' => v = vStr (B l) ∧ WF o σ σ' := by
  obtain ⟨a, b, old, hw, ha, hb⟩ := ho
  rcases hb with ⟨k, rfl, hk, _⟩ | ⟨rfl, hl0, _⟩
  · refine wrBytes_1 hw hk (by rw [B_size]; omega)
  · have : l = [] := by
      have := congrArg List.length hl0
      rw [bytesL_length, B_size] at this
      exact List.eq_nil_of_length_eq_zero this
    subst this
    exact wrBytes_2 hw
end Go.Proofs.YtbomkkjhafdhiaaGreat
end

section
set_option linter.all false
set_option maxRecDepth 100000
namespace Go.Proofs.YtbomkkjhafdhiaaGreat
open Go.Ab

def listB {α : Type} (f : α → List UInt8) (l : List α) : List UInt8 := beI 4 l.length ++ l.flatMap f
def seenB (x : Seen) : List UInt8 := textB x.node ++ beI 8 x.base ++ listB (beI 8) x.more
def ctxB (c : List Seen) : List UInt8 := listB seenB c
def goneI (b : Bool) : Int := if b then 1 else 0
def sibB (x : Sib) : List UInt8 := textB x.node ++ beI 8 x.n ++ textB x.value ++ beI 1 (goneI x.gone) ++ beI 8 x.time
def objB (o : Obj') : List UInt8 := ctxB o.ctx ++ listB sibB o.sibs
theorem flatMap_take {α β : Type} {f : α → List β} {l : List α} {i : Nat} {x : α} (h : l[i]? = some x) : (l.take (i + 1)).flatMap f = (l.take i).flatMap f ++ f x := by
  rw [take_snoc h, List.flatMap_append]; simp
theorem flatMap_take_le {α β : Type} {f : α → List β} (l : List α) (i : Nat) : ((l.take i).flatMap f).length ≤ (l.flatMap f).length := by
  conv => rhs; rw [← List.take_append_drop i l, List.flatMap_append, List.length_append]
  omega
theorem WF.keep {o i : Nat} {a b : Store} {x : AObj} (h : WF o a b) (hx : a.heap i = some x) (hi : i ≠ o) : b.heap i = some x := h.1 i x hi hx
theorem WF.alloc {o i : Nat} {a b : Store} {x : AObj} (h : WF o a b) (hi : b.heap i = none) (ho : i ≠ o) : WF o a (b.set i x) :=
  ⟨fun j y hj hy => by rw [Store.set_ne _ _ (fun hh => by have := h.1 j y hj hy; rw [hh, hi] at this; cases this)]; exact h.1 j y hj hy, fun t n ht hn => ⟨(h.2 t n ht hn).1, fun ⟨a, sz, l, hh⟩ => (h.2 t n ht hn).2 ⟨a, sz, l, by rw [Store.set_ne _ _ (Ne.symm ho)] at hh; exact hh⟩⟩⟩
theorem WR.alloc {o i : Nat} {l : List UInt8} {σ : Store} {x : AObj} (h : WR σ o l) (hi : i ≠ o) : WR (σ.set i x) o l := by
  obtain ⟨a, b, old, h1, h2, h3⟩ := h
  exact ⟨a, b, old, by rw [Store.set_ne _ _ (Ne.symm hi)]; exact h1, h2, h3⟩
theorem WR.alloc2 {o i : Nat} {l : List UInt8} {σ : Store} {x y : AObj} (h : WR σ o l) (hi : i ≠ o) : WR ((σ.set i x).set i y) o l := (h.alloc hi).alloc hi
theorem WF.alloc2 {o i : Nat} {a b : Store} {x y : AObj} (h : WF o a b) (hi : b.heap i = none) (ho : i ≠ o) : WF o a ((b.set i x).set i y) := by
  rw [Store.set_set]; exact h.alloc hi ho
theorem WR.some {o : Nat} {l : List UInt8} {σ : Store} (h : WR σ o l) : ∃ x, σ.heap o = some x := by obtain ⟨a, b, old, h1, _⟩ := h; exact ⟨_, h1⟩

theorem eachInt_c {o G : Nat} {l : List UInt8} {L : List Int} {t : Bool} {σ : Store} {fs cp : List AVal} {wb : Int → List UInt8} (Kp : Store → Prop) (hgo : isGo Tryz.prog G = true) (hK : ∀ τ τ', Kp τ → WF o τ τ' → Kp τ') (ho : WR σ o l) (hKσ : Kp σ)
    (hL : l.length + 4 + (L.flatMap wb).length ≤ 999999999000) (hLb : L.length ≤ 1000000)
    (hf : ∀ τ l x, x ∈ L → WR τ o l → Kp τ → l.length + (wb x).length ≤ 999999999000 → ACalls Tryz.prog G (fs ++ [vInt x] ++ cp) τ fun v τ' => v = .tup [] ∧ WR τ' o (l ++ wb x) ∧ WF o τ τ') :
    ACalls Tryz.prog 135 [.ref o 0, .sl 1 (L.map vInt) t, .fn (.func G) fs cp] σ fun v σ' => v = .tup [] ∧ WR σ' o (l ++ listB wb L) ∧ WF o σ σ' := by
  refine ACalls_of Tryz.func135 rfl Tryz.ntmps135 (congrArg Array.toList Tryz.results135) (by simp only [List.length_cons, List.length_nil]; decide) ?_; simp only [envOf_cons, envOf_nil, Nat.reduceAdd]
  refine awp_seq ?_
  refine awp_region (by kernel_rfl) ?_
  iterate 3 (refine aL_S rfl rfl v_ ?_)
  refine aL_X rfl rfl (AOp_use rfl rfl (.inr ⟨rfl, rfl, rfl⟩) g_ va_ (wrCount_c (n := (L.length : Int)) ho (by omega)) ?_); rintro _ τ0 ⟨rfl, g1, g2⟩
  refine aL_nil ?_
  refine awp_seq ?_
  refine awp_region (by kernel_rfl) ?_
  iterate 3 (refine aL_S rfl rfl v_ ?_)
  refine aL_nil ?_
  refine awp_block ?_
  refine awp_loop_env (ι := Store × Nat) (fun ⟨τ, i⟩ => L.length - i) (fun ⟨τ, i⟩ => i ≤ L.length ∧ WR τ o (l ++ beI 4 L.length ++ (L.take i).flatMap wb) ∧ WF o σ τ) (fun ⟨τ, i⟩ => [(2, .fn (.func G) fs cp), (12, .sl 1 (L.map vInt) t), (13, vInt L.length), (14, vInt i)]) (fun ⟨τ, i⟩ => τ) (τ0, 0) ?_ ?_ ?_ ?_
  · exact ⟨Nat.zero_le _, by simpa using g1, g2⟩
  · exact cv_
  · exact Store.Wk.refl _
  rintro ⟨τ, i⟩ ⟨h1, h2, h3⟩
  simp only [envL_cons, envL_nil]
  refine awp_seq ?_
  refine awp_region (by kernel_rfl) ?_
  (refine aL_S rfl rfl v_ ?_)
  refine aL_nil ?_
  refine awp_seq ?_
  refine awp_cond v_ (fun hc2 => ?_) (fun hc2 => ?_)
  · replace hc2 := nm_ hc2
    refine awp_skip ?_
    refine awp_seq ?_
    refine awp_block ?_
    refine awp_seq ?_
    obtain ⟨x, hx⟩ : ∃ x, L[i]? = some x := ⟨L[i]'(by omega), List.getElem?_eq_getElem _⟩
    have hle := flatMap_take_le (f := wb) L (i + 1)
    rw [flatMap_take hx, List.length_append] at hle
    have hb : (l ++ beI 4 L.length ++ (L.take i).flatMap wb).length + (wb x).length ≤ 999999999000 := by rw [List.length_append, List.length_append, beI_length]; omega
    have hxm := List.mem_of_getElem? hx
    have R := hx
    refine awp_region (by kernel_rfl) ?_
    iterate 3 (refine aL_S rfl rfl v_ ?_)
    refine aL_nil ?_
    skip
    refine awp_region (by kernel_rfl) ?_
    iterate 2 (refine aL_S rfl rfl v_ ?_)
    refine aL_X rfl rfl (AOp_use rfl rfl (.inl v_) g_ va_ (hf _ _ x hxm h2 (hK _ _ hKσ h3) hb) ?_); rintro _ υ ⟨rfl, u1, u2⟩
    refine aL_nil ?_
    refine awp_region (by kernel_rfl) ?_
    iterate 2 (refine aL_S rfl rfl v_ ?_)
    refine aL_nil ?_
    refine aNext (ι := Store × Nat) (i := ⟨τ, i⟩) (υ, i + 1) ?_ ?_ ?_ ?_
    · show L.length - (i + 1) < L.length - i; omega
    · exact ⟨by show i + 1 ≤ L.length; omega, by rw [flatMap_take hx, ← List.append_assoc]; exact u1, WF.trans h3 u2⟩
    · exact cv_
    · exact Store.Wk.refl _
  · replace hc2 := nm_ hc2
    refine awp_exit ?_
    refine aThen_exit ?_
    refine aThen_exit ?_
    refine aBlock_hit ?_
    refine aEnd_nor v_ (Store.Wk.refl _) ?_
    exact ⟨rfl, by rw [listB, ← List.append_assoc]; rwa [List.take_of_length_le (by omega)] at h2, h3⟩
theorem eachSeen_c {o G : Nat} {l : List UInt8} {L : List Seen} {t : Bool} {σ : Store} {fs cp : List AVal} {wb : Seen → List UInt8} (Kp : Store → Prop) (hgo : isGo Tryz.prog G = true) (hK : ∀ τ τ', Kp τ → WF o τ τ' → Kp τ') (ho : WR σ o l) (hKσ : Kp σ)
    (hL : l.length + 4 + (L.flatMap wb).length ≤ 999999999000) (hLb : L.length ≤ 1000000)
    (hf : ∀ τ l x, x ∈ L → WR τ o l → Kp τ → l.length + (wb x).length ≤ 999999999000 → ACalls Tryz.prog G (fs ++ [sSeen x] ++ cp) τ fun v τ' => v = .tup [] ∧ WR τ' o (l ++ wb x) ∧ WF o τ τ') :
    ACalls Tryz.prog 133 [.ref o 0, .sl 3 (L.map sSeen) t, .fn (.func G) fs cp] σ fun v σ' => v = .tup [] ∧ WR σ' o (l ++ listB wb L) ∧ WF o σ σ' := by
  refine ACalls_of Tryz.func133 rfl Tryz.ntmps133 (congrArg Array.toList Tryz.results133) (by simp only [List.length_cons, List.length_nil]; decide) ?_; simp only [envOf_cons, envOf_nil, Nat.reduceAdd]
  refine awp_seq ?_
  refine awp_region (by kernel_rfl) ?_
  iterate 3 (refine aL_S rfl rfl v_ ?_)
  refine aL_X rfl rfl (AOp_use rfl rfl (.inr ⟨rfl, rfl, rfl⟩) g_ va_ (wrCount_c (n := (L.length : Int)) ho (by omega)) ?_); rintro _ τ0 ⟨rfl, g1, g2⟩
  refine aL_nil ?_
  refine awp_seq ?_
  refine awp_region (by kernel_rfl) ?_
  iterate 3 (refine aL_S rfl rfl v_ ?_)
  refine aL_nil ?_
  refine awp_block ?_
  refine awp_loop_env (ι := Store × Nat) (fun ⟨τ, i⟩ => L.length - i) (fun ⟨τ, i⟩ => i ≤ L.length ∧ WR τ o (l ++ beI 4 L.length ++ (L.take i).flatMap wb) ∧ WF o σ τ) (fun ⟨τ, i⟩ => [(2, .fn (.func G) fs cp), (12, .sl 3 (L.map sSeen) t), (13, vInt L.length), (14, vInt i)]) (fun ⟨τ, i⟩ => τ) (τ0, 0) ?_ ?_ ?_ ?_
  · exact ⟨Nat.zero_le _, by simpa using g1, g2⟩
  · exact cv_
  · exact Store.Wk.refl _
  rintro ⟨τ, i⟩ ⟨h1, h2, h3⟩
  simp only [envL_cons, envL_nil]
  refine awp_seq ?_
  refine awp_region (by kernel_rfl) ?_
  (refine aL_S rfl rfl v_ ?_)
  refine aL_nil ?_
  refine awp_seq ?_
  refine awp_cond v_ (fun hc2 => ?_) (fun hc2 => ?_)
  · replace hc2 := nm_ hc2
    refine awp_skip ?_
    refine awp_seq ?_
    refine awp_block ?_
    refine awp_seq ?_
    obtain ⟨x, hx⟩ : ∃ x, L[i]? = some x := ⟨L[i]'(by omega), List.getElem?_eq_getElem _⟩
    have hle := flatMap_take_le (f := wb) L (i + 1)
    rw [flatMap_take hx, List.length_append] at hle
    have hb : (l ++ beI 4 L.length ++ (L.take i).flatMap wb).length + (wb x).length ≤ 999999999000 := by rw [List.length_append, List.length_append, beI_length]; omega
    have hxm := List.mem_of_getElem? hx
    have R := hx
    refine awp_region (by kernel_rfl) ?_
    iterate 2 (refine aL_S rfl rfl v_ ?_)
    refine aL_alloc rfl rfl rfl g_ gl_ fun o7 ho7 => ?_
    repeat (rw [none_set_iff] at ho7; obtain ⟨_, ho7⟩ := ho7)
    refine aL_store rfl rfl rfl v_ v_ h_ g_ rfl g_ c_ (by rfl) le_ v_ ?_
    refine aL_nil ?_
    obtain ⟨xo, hxo⟩ := WR.some h2; have n7 := (ne_of_heap hxo ho7).symm
    refine awp_region (by kernel_rfl) ?_
    iterate 2 (refine aL_S rfl rfl v_ ?_)
    refine aL_X rfl rfl (AOp_use rfl rfl (.inl v_) g_ va_ (hf _ _ x hxm (WR.alloc2 h2 n7) (hK _ _ hKσ (WF.alloc2 h3 ho7 n7)) hb) ?_); rintro _ υ ⟨rfl, u1, u2⟩
    refine aL_nil ?_
    refine awp_region (by kernel_rfl) ?_
    iterate 2 (refine aL_S rfl rfl v_ ?_)
    refine aL_nil ?_
    refine aNext (ι := Store × Nat) (i := ⟨τ, i⟩) (υ, i + 1) ?_ ?_ ?_ ?_
    · show L.length - (i + 1) < L.length - i; omega
    · exact ⟨by show i + 1 ≤ L.length; omega, by rw [flatMap_take hx, ← List.append_assoc]; exact u1, WF.trans (WF.alloc2 h3 ho7 n7) u2⟩
    · exact cv_
    · exact Store.Wk.refl _
  · replace hc2 := nm_ hc2
    refine awp_exit ?_
    refine aThen_exit ?_
    refine aThen_exit ?_
    refine aBlock_hit ?_
    refine aEnd_nor v_ (Store.Wk.refl _) ?_
    exact ⟨rfl, by rw [listB, ← List.append_assoc]; rwa [List.take_of_length_le (by omega)] at h2, h3⟩
theorem eachSib_c {o G : Nat} {l : List UInt8} {L : List Sib} {t : Bool} {σ : Store} {fs cp : List AVal} {wb : Sib → List UInt8} (Kp : Store → Prop) (hgo : isGo Tryz.prog G = true) (hK : ∀ τ τ', Kp τ → WF o τ τ' → Kp τ') (ho : WR σ o l) (hKσ : Kp σ)
    (hL : l.length + 4 + (L.flatMap wb).length ≤ 999999999000) (hLb : L.length ≤ 1000000)
    (hf : ∀ τ l x, x ∈ L → WR τ o l → Kp τ → l.length + (wb x).length ≤ 999999999000 → ACalls Tryz.prog G (fs ++ [sSib x] ++ cp) τ fun v τ' => v = .tup [] ∧ WR τ' o (l ++ wb x) ∧ WF o τ τ') :
    ACalls Tryz.prog 100 [.ref o 0, .sl 5 (L.map sSib) t, .fn (.func G) fs cp] σ fun v σ' => v = .tup [] ∧ WR σ' o (l ++ listB wb L) ∧ WF o σ σ' := by
  refine ACalls_of Tryz.func100 rfl Tryz.ntmps100 (congrArg Array.toList Tryz.results100) (by simp only [List.length_cons, List.length_nil]; decide) ?_; simp only [envOf_cons, envOf_nil, Nat.reduceAdd]
  refine awp_seq ?_
  refine awp_region (by kernel_rfl) ?_
  iterate 3 (refine aL_S rfl rfl v_ ?_)
  refine aL_X rfl rfl (AOp_use rfl rfl (.inr ⟨rfl, rfl, rfl⟩) g_ va_ (wrCount_c (n := (L.length : Int)) ho (by omega)) ?_); rintro _ τ0 ⟨rfl, g1, g2⟩
  refine aL_nil ?_
  refine awp_seq ?_
  refine awp_region (by kernel_rfl) ?_
  iterate 3 (refine aL_S rfl rfl v_ ?_)
  refine aL_nil ?_
  refine awp_block ?_
  refine awp_loop_env (ι := Store × Nat) (fun ⟨τ, i⟩ => L.length - i) (fun ⟨τ, i⟩ => i ≤ L.length ∧ WR τ o (l ++ beI 4 L.length ++ (L.take i).flatMap wb) ∧ WF o σ τ) (fun ⟨τ, i⟩ => [(2, .fn (.func G) fs cp), (12, .sl 5 (L.map sSib) t), (13, vInt L.length), (14, vInt i)]) (fun ⟨τ, i⟩ => τ) (τ0, 0) ?_ ?_ ?_ ?_
  · exact ⟨Nat.zero_le _, by simpa using g1, g2⟩
  · exact cv_
  · exact Store.Wk.refl _
  rintro ⟨τ, i⟩ ⟨h1, h2, h3⟩
  simp only [envL_cons, envL_nil]
  refine awp_seq ?_
  refine awp_region (by kernel_rfl) ?_
  (refine aL_S rfl rfl v_ ?_)
  refine aL_nil ?_
  refine awp_seq ?_
  refine awp_cond v_ (fun hc2 => ?_) (fun hc2 => ?_)
  · replace hc2 := nm_ hc2
    refine awp_skip ?_
    refine awp_seq ?_
    refine awp_block ?_
    refine awp_seq ?_
    obtain ⟨x, hx⟩ : ∃ x, L[i]? = some x := ⟨L[i]'(by omega), List.getElem?_eq_getElem _⟩
    have hle := flatMap_take_le (f := wb) L (i + 1)
    rw [flatMap_take hx, List.length_append] at hle
    have hb : (l ++ beI 4 L.length ++ (L.take i).flatMap wb).length + (wb x).length ≤ 999999999000 := by rw [List.length_append, List.length_append, beI_length]; omega
    have hxm := List.mem_of_getElem? hx
    have R := hx
    refine awp_region (by kernel_rfl) ?_
    iterate 2 (refine aL_S rfl rfl v_ ?_)
    refine aL_alloc rfl rfl rfl g_ gl_ fun o7 ho7 => ?_
    repeat (rw [none_set_iff] at ho7; obtain ⟨_, ho7⟩ := ho7)
    refine aL_store rfl rfl rfl v_ v_ h_ g_ rfl g_ c_ (by rfl) le_ v_ ?_
    refine aL_nil ?_
    obtain ⟨xo, hxo⟩ := WR.some h2; have n7 := (ne_of_heap hxo ho7).symm
    refine awp_region (by kernel_rfl) ?_
    iterate 2 (refine aL_S rfl rfl v_ ?_)
    refine aL_X rfl rfl (AOp_use rfl rfl (.inl v_) g_ va_ (hf _ _ x hxm (WR.alloc2 h2 n7) (hK _ _ hKσ (WF.alloc2 h3 ho7 n7)) hb) ?_); rintro _ υ ⟨rfl, u1, u2⟩
    refine aL_nil ?_
    refine awp_region (by kernel_rfl) ?_
    iterate 2 (refine aL_S rfl rfl v_ ?_)
    refine aL_nil ?_
    refine aNext (ι := Store × Nat) (i := ⟨τ, i⟩) (υ, i + 1) ?_ ?_ ?_ ?_
    · show L.length - (i + 1) < L.length - i; omega
    · exact ⟨by show i + 1 ≤ L.length; omega, by rw [flatMap_take hx, ← List.append_assoc]; exact u1, WF.trans (WF.alloc2 h3 ho7 n7) u2⟩
    · exact cv_
    · exact Store.Wk.refl _
  · replace hc2 := nm_ hc2
    refine awp_exit ?_
    refine aThen_exit ?_
    refine aThen_exit ?_
    refine aBlock_hit ?_
    refine aEnd_nor v_ (Store.Wk.refl _) ?_
    exact ⟨rfl, by rw [listB, ← List.append_assoc]; rwa [List.take_of_length_le (by omega)] at h2, h3⟩

theorem wrInt_m {o : Nat} {l : List UInt8} {σ : Store} {n : Int} (ho : WR σ o l) (hl : l.length + (beI 8 n).length ≤ 999999999000) : ACalls Tryz.prog 56 ([.ref o 0] ++ [vInt n] ++ []) σ fun v σ' => v = .tup [] ∧ WR σ' o (l ++ beI 8 n) ∧ WF o σ σ' := wrInt_c ho (by omega)
theorem flat8_length (l : List Int) : (l.flatMap (beI 8)).length = 8 * l.length := by
  induction l with
  | nil => rfl
  | cons x l ih => rw [List.flatMap_cons, List.length_append, ih, beI_length, List.length_cons]; omega
/-- a Seen that may be written: few bytes, few numbers -/
structure SeenSm (x : Seen) : Prop where
  node : x.node.size ≤ 1000000
  more : x.more.length ≤ 1000000
structure SibSm (x : Sib) : Prop where
  node : x.node.size ≤ 1000000
  value : x.value.size ≤ 1000000
theorem seenB_length (x : Seen) : (seenB x).length = 16 + x.node.size + 8 * x.more.length := by
  simp only [seenB, listB, List.length_append, textB_length, beI_length, flat8_length]; omega
theorem sibB_length (x : Sib) : (sibB x).length = 25 + x.node.size + x.value.size := by
  simp only [sibB, List.length_append, textB_length, beI_length]; omega
theorem flat_le {α : Type} {f : α → List UInt8} {n : Nat} : ∀ (l : List α), (∀ x ∈ l, (f x).length ≤ n) → (l.flatMap f).length ≤ n * l.length
  | [], _ => by simp
  | x :: l, h => by
    have h1 := h x (List.mem_cons_self ..)
    have h2 := flat_le l fun y hy => h y (List.mem_cons_of_mem _ hy)
    rw [List.flatMap_cons, List.length_append, List.length_cons, Nat.mul_succ]; omega

theorem wrSeen_c {o ob : Nat} {l : List UInt8} {x : Seen} {σ : Store} (ho : WR σ o l) (hb : σ.heap ob = some (.cells [.ref o 0])) (hx : SeenSm x) (hl : l.length + (seenB x).length ≤ 999999999000) : ACalls Tryz.prog 134 [sSeen x, .ref ob 0] σ fun v σ' => v = .tup [] ∧ WR σ' o (l ++ seenB x) ∧ WF o σ σ' := by
  have hne : ob ≠ o := fun hh => by obtain ⟨a, b, old, h1, _⟩ := ho; rw [hh, h1] at hb; cases hb
  have h1 := hx.node; have h2 := hx.more
  rw [seenB_length] at hl
  refine ACalls_of Tryz.func134 rfl Tryz.ntmps134 (congrArg Array.toList Tryz.results134) (by simp only [List.length_cons, List.length_nil]; decide) ?_; simp only [envOf_cons, envOf_nil, Nat.reduceAdd]
  refine awp_seq ?_
  refine awp_region (by kernel_rfl) ?_
  refine aL_box rfl rfl rfl v_ rfl g_ fun o2 ho2 => ?_
  repeat (rw [none_set_iff] at ho2; obtain ⟨_, ho2⟩ := ho2)
  refine aL_nil ?_
  obtain ⟨xo, hxo⟩ := WR.some ho
  have n2 := (ne_of_heap hxo ho2).symm
  have n2b := (ne_of_heap hb ho2)
  refine awp_seq ?_
  have R := hb
  refine awp_region (by kernel_rfl) ?_
  iterate 3 (refine aL_S rfl rfl v_ ?_)
  refine aL_X rfl rfl (AOp_use rfl rfl (.inr ⟨rfl, rfl, rfl⟩) g_ va_ (wrText_c (WR.alloc ho n2) (by omega) (by omega)) ?_); rintro _ τ1 ⟨rfl, a1, a2⟩
  refine aL_nil ?_
  refine awp_seq ?_
  have b1 := WF.keep (i := ob) (x := .cells [.ref o 0]) a2 (by simp (disch := omega) only [Store.set_ne, hb]) hne
  have b2 := WF.keep (i := o2) (x := .cells (sSeen x).cells) a2 (Store.set_get ..) n2
  have R := And.intro b1 b2
  refine awp_region (by kernel_rfl) ?_
  iterate 3 (refine aL_S rfl rfl v_ ?_)
  refine aL_X rfl rfl (AOp_use rfl rfl (.inr ⟨rfl, rfl, rfl⟩) g_ va_ (wrInt_c a1 (by simp only [List.length_append, textB_length]; omega)) ?_); rintro _ τ2 ⟨rfl, c1, c2⟩
  refine aL_nil ?_
  have d1 := c2.keep b1 hne
  have d2 := c2.keep b2 n2
  have R := And.intro d1 d2
  refine awp_region (by kernel_rfl) ?_
  iterate 5 (refine aL_S rfl rfl v_ ?_)
  refine aL_X rfl rfl (AOp_use rfl rfl (.inr ⟨rfl, rfl, rfl⟩) g_ va_ (eachInt_c (wb := beI 8) (fun _ => True) (by kernel_rfl) (fun _ _ _ _ => trivial) c1 trivial (by simp only [List.length_append, textB_length, beI_length, flat8_length]; omega) (by omega) (fun _ _ _ _ h _ hl => wrInt_m h hl)) ?_); rintro _ τ3 ⟨rfl, e1, e2⟩
  refine aL_nil ?_
  refine aEnd_nor v_ (Store.Wk.refl _) ?_
  exact ⟨rfl, by simpa [seenB, List.append_assoc] using e1, (WF.alloc WF.refl ho2 n2).trans (a2.trans (c2.trans e2))⟩
theorem seenB_le {x : Seen} (h : SeenSm x) : (seenB x).length ≤ 9000016 := by rw [seenB_length]; have := h.node; have := h.more; omega
theorem sibB_le {x : Sib} (h : SibSm x) : (sibB x).length ≤ 2000025 := by rw [sibB_length]; have := h.node; have := h.value; omega
structure ObjSm (x : Obj') : Prop where
  ctx : ∀ y ∈ x.ctx, SeenSm y
  sibs : ∀ y ∈ x.sibs, SibSm y
  nc : x.ctx.length ≤ 1000
  ns : x.sibs.length ≤ 1000
theorem ctxB_le {c : List Seen} (h : ∀ y ∈ c, SeenSm y) (hn : c.length ≤ 1000) : (c.flatMap seenB).length ≤ 9000016000 := by
  have := flat_le (f := seenB) c fun x hx => seenB_le (h x hx)
  have h2 := Nat.mul_le_mul_left 9000016 hn
  omega
theorem sibsB_le {c : List Sib} (h : ∀ y ∈ c, SibSm y) (hn : c.length ≤ 1000) : (c.flatMap sibB).length ≤ 2000025000 := by
  have := flat_le (f := sibB) c fun x hx => sibB_le (h x hx)
  have h2 := Nat.mul_le_mul_left 2000025 hn
  omega
theorem wrCtx_c {o : Nat} {l : List UInt8} {c : List Seen} {t : Bool} {σ : Store} (ho : WR σ o l) (hc : ∀ y ∈ c, SeenSm y) (hn : c.length ≤ 1000) (hl : l.length ≤ 980000000000) : ACalls Tryz.prog 99 [.ref o 0, .sl 3 (c.map sSeen) t] σ fun v σ' => v = .tup [] ∧ WR σ' o (l ++ ctxB c) ∧ WF o σ σ' := by
  have hle := ctxB_le hc hn
  refine ACalls_of Tryz.func99 rfl Tryz.ntmps99 (congrArg Array.toList Tryz.results99) (by simp only [List.length_cons, List.length_nil]; decide) ?_; simp only [envOf_cons, envOf_nil, Nat.reduceAdd]
  refine awp_seq ?_
  refine awp_region (by kernel_rfl) ?_
  refine aL_box rfl rfl rfl v_ rfl g_ fun o2 ho2 => ?_
  repeat (rw [none_set_iff] at ho2; obtain ⟨_, ho2⟩ := ho2)
  refine aL_nil ?_
  obtain ⟨xo, hxo⟩ := WR.some ho
  have n2 := (ne_of_heap hxo ho2).symm
  refine awp_region (by kernel_rfl) ?_
  iterate 3 (refine aL_S rfl rfl v_ ?_)
  refine aL_X rfl rfl (AOp_use rfl rfl (.inr ⟨rfl, rfl, rfl⟩) g_ va_ (eachSeen_c (wb := seenB) (fun τ => τ.heap o2 = some (.cells [.ref o 0])) (by kernel_rfl) (fun _ _ h k => k.keep h n2) (WR.alloc ho n2) (Store.set_get ..) (by omega) (by omega) (fun _ _ _ hm h hb hl => wrSeen_c h hb (hc _ hm) hl)) ?_); rintro _ τ ⟨rfl, a1, a2⟩
  refine aL_nil ?_
  refine aEnd_nor v_ (Store.Wk.refl _) ?_
  exact ⟨rfl, a1, (WF.alloc WF.refl ho2 n2).trans a2⟩

theorem wrSib_c {o ob : Nat} {l : List UInt8} {x : Sib} {σ : Store} (ho : WR σ o l) (hb : σ.heap ob = some (.cells [.ref o 0])) (hx : SibSm x) (hl : l.length + (sibB x).length ≤ 999999999000) : ACalls Tryz.prog 101 [sSib x, .ref ob 0] σ fun v σ' => v = .tup [] ∧ WR σ' o (l ++ sibB x) ∧ WF o σ σ' := by
  have hne : ob ≠ o := fun hh => by obtain ⟨a, b, old, h1, _⟩ := ho; rw [hh, h1] at hb; cases hb
  have h1 := hx.node; have h2 := hx.value
  rw [sibB_length] at hl
  refine ACalls_of Tryz.func101 rfl Tryz.ntmps101 (congrArg Array.toList Tryz.results101) (by simp only [List.length_cons, List.length_nil]; decide) ?_; simp only [envOf_cons, envOf_nil, Nat.reduceAdd]
  refine awp_seq ?_
  refine awp_region (by kernel_rfl) ?_
  refine aL_box rfl rfl rfl v_ rfl g_ fun o2 ho2 => ?_
  repeat (rw [none_set_iff] at ho2; obtain ⟨_, ho2⟩ := ho2)
  refine aL_nil ?_
  obtain ⟨xo, hxo⟩ := WR.some ho
  have n2 := (ne_of_heap hxo ho2).symm
  have n2b := (ne_of_heap hb ho2)
  refine awp_seq ?_
  have R := hb
  refine awp_region (by kernel_rfl) ?_
  iterate 4 (refine aL_S rfl rfl v_ ?_)
  refine aL_X rfl rfl (AOp_use rfl rfl (.inr ⟨rfl, rfl, rfl⟩) g_ va_ (wrText_c (WR.alloc ho n2) (by omega) (by omega)) ?_); rintro _ τ1 ⟨rfl, a1, a2⟩
  refine aL_nil ?_
  refine awp_seq ?_
  have b1 := WF.keep (i := ob) (x := .cells [.ref o 0]) a2 (by simp (disch := omega) only [Store.set_ne, hb]) hne
  have b2 := WF.keep (i := o2) (x := .cells (sSib x).cells) a2 (Store.set_get ..) n2
  have R := And.intro b1 b2
  refine awp_region (by kernel_rfl) ?_
  iterate 4 (refine aL_S rfl rfl v_ ?_)
  refine aL_X rfl rfl (AOp_use rfl rfl (.inr ⟨rfl, rfl, rfl⟩) g_ va_ (wrInt_c a1 (by simp only [List.length_append, textB_length]; omega)) ?_); rintro _ τ2 ⟨rfl, c1, c2⟩
  refine aL_nil ?_
  refine awp_seq ?_
  have d1 := c2.keep b1 hne
  have d2 := c2.keep b2 n2
  have R := And.intro d1 d2
  refine awp_region (by kernel_rfl) ?_
  iterate 3 (refine aL_S rfl rfl v_ ?_)
  refine aL_X rfl rfl (AOp_use rfl rfl (.inr ⟨rfl, rfl, rfl⟩) g_ va_ (wrText_c c1 (by simp only [List.length_append, textB_length, beI_length]; omega) (by omega)) ?_); rintro _ τ3 ⟨rfl, e1, e2⟩
  refine aL_nil ?_
  refine awp_seq ?_
  have f1 := e2.keep d1 hne
  have f2 := e2.keep d2 n2
  refine awp_region (by kernel_rfl) ?_
  (refine aL_S rfl rfl v_ ?_)
  refine aL_nil ?_
  refine awp_seq_mid (ι := Unit) (fun _ => True) (fun _ => [(1, .ref ob 0), (2, .ref o2 0), (3, vInt (goneI x.gone))]) (fun _ => τ3) ?_ ?_
  · refine awp_seq ?_
    have R := f2
    refine awp_region (by kernel_rfl) ?_
    iterate 2 (refine aL_S rfl rfl v_ ?_)
    refine aL_nil ?_
    refine awp_cond v_ (fun hc5 => ?_) (fun hc5 => ?_)
    · replace hc5 := nm_ hc5
      have hg1 : goneI x.gone = 1 := by rw [hc5]; rfl
      refine awp_region (by kernel_rfl) ?_
      (refine aL_S rfl rfl v_ ?_)
      refine aL_nil ?_
      refine ⟨(), ?_, ?_, ?_⟩
      · trivial
      · have R := hg1; exact cv_
      · exact Store.Wk.refl _
    · replace hc5 := nm_ hc5
      have hg2 : goneI x.gone = 0 := by rw [hc5]; rfl
      refine awp_skip ?_
      refine ⟨(), ?_, ?_, ?_⟩
      · trivial
      · have R := hg2; exact cv_
      · exact Store.Wk.refl _
  · rintro _ _
    simp only [envL_cons, envL_nil]
    refine awp_seq ?_
    have R := f1
    refine awp_region (by kernel_rfl) ?_
    iterate 2 (refine aL_S rfl rfl v_ ?_)
    refine aL_X rfl rfl (AOp_use rfl rfl (.inr ⟨rfl, rfl, rfl⟩) g_ va_ (wrByte_c e1 (by simp only [List.length_append, textB_length, beI_length]; omega)) ?_); rintro _ τ4 ⟨rfl, g1, g2⟩
    refine aL_nil ?_
    have i1 := g2.keep f1 hne
    have i2 := g2.keep f2 n2
    have R := And.intro i1 i2
    refine awp_region (by kernel_rfl) ?_
    iterate 3 (refine aL_S rfl rfl v_ ?_)
    refine aL_X rfl rfl (AOp_use rfl rfl (.inr ⟨rfl, rfl, rfl⟩) g_ va_ (wrInt_c g1 (by simp only [List.length_append, textB_length, beI_length]; omega)) ?_); rintro _ τ5 ⟨rfl, k1, k2⟩
    refine aL_nil ?_
    refine aEnd_nor v_ (Store.Wk.refl _) ?_
    exact ⟨rfl, by simpa [sibB, List.append_assoc] using k1, (WF.alloc WF.refl ho2 n2).trans (a2.trans (c2.trans (e2.trans (g2.trans k2))))⟩
theorem wrObj_c {o : Nat} {l : List UInt8} {x : Obj'} {σ : Store} (ho : WR σ o l) (hx : ObjSm x) (hl : l.length ≤ 900000000000) : ACalls Tryz.prog 60 [.ref o 0, sObj x] σ fun v σ' => v = .tup [] ∧ WR σ' o (l ++ objB x) ∧ WF o σ σ' := by
  have hle := ctxB_le hx.ctx hx.nc
  have hle2 := sibsB_le hx.sibs hx.ns
  have hn := hx.ns
  refine ACalls_of Tryz.func60 rfl Tryz.ntmps60 (congrArg Array.toList Tryz.results60) (by simp only [List.length_cons, List.length_nil]; decide) ?_; simp only [envOf_cons, envOf_nil, Nat.reduceAdd]
  refine awp_seq ?_
  refine awp_region (by kernel_rfl) ?_
  refine aL_box rfl rfl rfl v_ rfl g_ fun o2 ho2 => ?_
  repeat (rw [none_set_iff] at ho2; obtain ⟨_, ho2⟩ := ho2)
  refine aL_box rfl rfl rfl v_ rfl g_ fun o3 ho3 => ?_
  repeat (rw [none_set_iff] at ho3; obtain ⟨_, ho3⟩ := ho3)
  refine aL_nil ?_
  obtain ⟨xo, hxo⟩ := WR.some ho
  have n2 := (ne_of_heap hxo ho2).symm
  have n3 := (ne_of_heap hxo ho3).symm
  have wf := WF.alloc (x := .cells (sObj x).cells) (WF.alloc (x := .cells [.ref o 0]) WF.refl ho2 n2) (i := o3) (by simp (disch := omega) only [Store.set_ne, ho3]) n3
  refine awp_seq ?_
  refine awp_region (by kernel_rfl) ?_
  iterate 3 (refine aL_S rfl rfl v_ ?_)
  refine aL_X rfl rfl (AOp_use rfl rfl (.inr ⟨rfl, rfl, rfl⟩) g_ va_ (wrCtx_c (WR.alloc (WR.alloc ho n2) n3) hx.ctx hx.nc (by omega)) ?_); rintro _ τ1 ⟨rfl, a1, a2⟩
  refine aL_nil ?_
  have b1 := WF.keep (i := o2) (x := .cells [.ref o 0]) a2 h_ n2
  have b2 := WF.keep (i := o3) (x := .cells (sObj x).cells) a2 h_ n3
  have R := And.intro b1 b2
  refine awp_region (by kernel_rfl) ?_
  iterate 4 (refine aL_S rfl rfl v_ ?_)
  refine aL_X rfl rfl (AOp_use rfl rfl (.inr ⟨rfl, rfl, rfl⟩) g_ va_ (eachSib_c (wb := sibB) (fun τ => τ.heap o2 = some (.cells [.ref o 0])) (by kernel_rfl) (fun _ _ h k => k.keep h n2) a1 b1 (by simp only [List.length_append, ctxB, listB, beI_length]; omega) (by omega) (fun _ _ _ hm h hb hl => wrSib_c h hb (hx.sibs _ hm) hl)) ?_); rintro _ τ2 ⟨rfl, c1, c2⟩
  refine aL_nil ?_
  refine aEnd_nor v_ (Store.Wk.refl _) ?_
  exact ⟨rfl, by simpa [objB, List.append_assoc] using c1, wf.trans (a2.trans c2)⟩
theorem raw_c {x : Obj'} {σ : Store} (hx : ObjSm x) : ACalls Tryz.prog 32 [sObj x] σ fun v σ' => v = vStr (B (objB x)) ∧ σ = σ' := by
  have hle := ctxB_le hx.ctx hx.nc
  have hle2 := sibsB_le hx.sibs hx.ns
  have hlen : (objB x).length ≤ 900000000000 := by simp only [objB, ctxB, listB, List.length_append, beI_length]; omega
  refine ACalls_of Tryz.func32 rfl Tryz.ntmps32 (congrArg Array.toList Tryz.results32) (by simp only [List.length_cons, List.length_nil]; decide) ?_; simp only [envOf_cons, envOf_nil, Nat.reduceAdd]
  refine awp_seq ?_
  refine awp_region (by kernel_rfl) ?_
  refine aL_box rfl rfl rfl v_ rfl g_ fun o1 ho1 => ?_
  repeat (rw [none_set_iff] at ho1; obtain ⟨_, ho1⟩ := ho1)
  (refine aL_S rfl rfl v_ ?_)
  refine aL_nil ?_
  refine awp_seq ?_
  refine awp_region (by kernel_rfl) ?_
  (refine aL_S rfl rfl v_ ?_)
  refine aL_X rfl rfl (AOp_boxP rfl va_ fun o5 ho5 => ?_); obtain ⟨n5, ho5⟩ := none_set_iff.1 ho5
  (refine aL_S rfl rfl v_ ?_)
  refine aL_nil ?_
  have hw : WR ((σ.set o1 (.cells (sObj x).cells)).set o5 (.cells [.nilp o5 100 2, .lit (.slice none 0 0)])) o5 [] := ⟨_, _, none, Store.set_get .., .inr rfl, .inr ⟨rfl, rfl, rfl⟩⟩
  refine awp_seq ?_
  refine awp_region (by kernel_rfl) ?_
  iterate 2 (refine aL_S rfl rfl v_ ?_)
  refine aL_X rfl rfl (AOp_use rfl rfl (.inr ⟨rfl, rfl, rfl⟩) g_ va_ (wrObj_c hw hx (by simp)) ?_); rintro _ τ1 ⟨rfl, a1, a2⟩
  refine aL_nil ?_
  refine awp_seq ?_
  refine awp_region (by kernel_rfl) ?_
  (refine aL_S rfl rfl v_ ?_)
  refine aL_X rfl rfl (AOp_use rfl rfl (.inr ⟨rfl, rfl, rfl⟩) g_ va_ (wrBytes_c a1 (by rw [List.nil_append]; omega)) ?_); rintro _ τ2 ⟨rfl, c2⟩
  (refine aL_S rfl rfl v_ ?_)
  refine aL_nil ?_
  refine awp_ret ?_
  have h1 := WF.sub (x := .cells [.nilp o5 100 2, .lit (.slice none 0 0)]) (by simp (disch := omega) only [Store.set_ne, ho5]) (a2.trans c2) (fun a t sz l hh => by simp at hh)
  exact aEnd_ret (σ' := σ) va_ (Store.Sub.wk (Store.Sub.trans (sub_set ho1) h1)) ⟨rfl, rfl⟩
end Go.Proofs.YtbomkkjhafdhiaaGreat
end

section
set_option linter.all false
set_option maxRecDepth 100000
namespace Go.Proofs.YtbomkkjhafdhiaaGreat
open Go.Ab

def lett (c : Int) : Bool := decide (97 ≤ c) && decide (c ≤ 122) || (decide (48 ≤ c) && decide (c ≤ 57)) || decide (c = 45)
def letB (b : UInt8) : Bool := lett b.toNat
def nameOk (s : ByteArray) : Bool := decide (1 ≤ s.size) && decide (s.size ≤ 16) && (Lb s).all letB
theorem Lb_get {s : ByteArray} {p : Nat} (h : p < s.size) : (Lb s)[p]? = some (s[p]'h) := by
  rw [List.getElem?_eq_getElem (by rw [Lb_length]; exact h)]
  rfl
theorem rune_lo {s : ByteArray} {p : Nat} (h : p < s.size) (ha : (s[p]'h).toNat < 128) : runeAt s p = ((s[p]'h).toNat : Int) ∧ runeW s p = 1 := by
  have := decode_ascii s p h ha
  exact ⟨by rw [runeAt, this], by rw [runeW, this]⟩
theorem rune_let {s : ByteArray} {p : Nat} (h : p < s.size) : lett (runeAt s p) = letB (s[p]'h) ∧ (letB (s[p]'h) = true → runeW s p = 1) := by
  by_cases ha : (s[p]'h).toNat < 128
  · obtain ⟨h1, h2⟩ := rune_lo h ha
    exact ⟨by rw [h1]; rfl, fun _ => h2⟩
  · have h1 := (decode_high s p h (by omega)).1
    have e1 : lett (runeAt s p) = false := by
      have : (128 : Int) ≤ runeAt s p := by unfold runeAt; omega
      unfold lett
      rw [decide_eq_false (show ¬ runeAt s p ≤ 122 by omega), decide_eq_false (show ¬ runeAt s p ≤ 57 by omega), decide_eq_false (show ¬ runeAt s p = 45 by omega)]
      simp
    have e2 : letB (s[p]'h) = false := by
      unfold letB lett
      rw [decide_eq_false (show ¬ (((s[p]'h).toNat : Nat) : Int) ≤ 122 by omega), decide_eq_false (show ¬ (((s[p]'h).toNat : Nat) : Int) ≤ 57 by omega), decide_eq_false (show ¬ (((s[p]'h).toNat : Nat) : Int) = 45 by omega)]
      simp
    exact ⟨by rw [e1, e2], fun hh => by rw [e2] at hh; cases hh⟩
theorem all_take_succ {l : List UInt8} {p : Nat} {c : UInt8} (f : UInt8 → Bool) (h : l[p]? = some c) (ha : (l.take p).all f = true) (hc : f c = true) : (l.take (p + 1)).all f = true := by
  rw [take_snoc h, List.all_append, ha]; simp [hc]
theorem all_not {l : List UInt8} {p : Nat} {c : UInt8} (f : UInt8 → Bool) (h : l[p]? = some c) (hc : f c = false) : l.all f = false := by
  rw [List.all_eq_false]
  exact ⟨c, List.mem_of_getElem? h, by simp [hc]⟩

theorem isLetter_c {c : Int} {σ : Store} : ACalls Tryz.prog 163 [.lit (.int .i32 c)] σ fun v σ' => v = .lit (.bool (lett c)) ∧ σ = σ' := by
  refine ACalls_of Tryz.func163 rfl Tryz.ntmps163 (congrArg Array.toList Tryz.results163) (by simp only [List.length_cons, List.length_nil]; decide) ?_; simp only [envOf_cons, envOf_nil, Nat.reduceAdd]
  refine awp_seq ?_
  refine awp_region (by kernel_rfl) ?_
  (refine aL_S rfl rfl v_ ?_)
  refine aL_nil ?_
  refine awp_seq ?_
  refine awp_region (by kernel_rfl) ?_
  iterate 3 (refine aL_S rfl rfl v_ ?_)
  refine aL_GT rfl rfl v_ rfl vg_ ?_
  refine aL_GT rfl rfl v_ rfl vg_ ?_
  iterate 2 (refine aL_S rfl rfl v_ ?_)
  refine aL_GF rfl rfl v_ rfl vg_ ?_
  refine aL_GF rfl rfl v_ rfl vg_ ?_
  refine aL_GF rfl rfl v_ rfl vg_ ?_
  refine aL_GGT rfl rfl v_ rfl vg_ ?_
  refine aL_GGT rfl rfl v_ rfl vg_ ?_
  refine aL_GF rfl rfl v_ rfl vg_ ?_
  iterate 2 (refine aL_S rfl rfl v_ ?_)
  refine aL_GF rfl rfl v_ rfl vg_ ?_
  refine aL_GF rfl rfl v_ rfl vg_ ?_
  iterate 2 (refine aL_S rfl rfl v_ ?_)
  refine aL_nil ?_
  refine awp_ret ?_
  refine aEnd_ret (σ' := σ) v_ sub_ ?_
  refine ⟨?_, rfl⟩
  try unfold lett
  by_cases h1 : 97 ≤ c <;> by_cases h2 : c ≤ 122 <;> by_cases h3 : 48 ≤ c <;> by_cases h4 : c ≤ 57 <;> by_cases h5 : c = 45 <;> simp [h1, h2, h3, h4, h5]
theorem nameIs_c {s : ByteArray} {σ : Store} (hs : s.size ≤ 1000000000000) : ACalls Tryz.prog 138 [vStr s] σ fun v σ' => v = .lit (.bool (nameOk s)) ∧ σ = σ' := by
  have h0 : s = ⟨#[]⟩ ↔ s.size = 0 := ⟨fun h => by rw [h]; rfl, fun h => by apply ByteArray.ext; exact Array.eq_empty_of_size_eq_zero h⟩
  refine ACalls_of Tryz.func138 rfl Tryz.ntmps138 (congrArg Array.toList Tryz.results138) (by simp only [List.length_cons, List.length_nil]; decide) ?_; simp only [envOf_cons, envOf_nil, Nat.reduceAdd]
  refine awp_seq ?_
  refine awp_region (by kernel_rfl) ?_
  (refine aL_S rfl rfl v_ ?_)
  refine aL_nil ?_
  refine awp_seq ?_
  refine awp_seq ?_
  have R := h0
  refine awp_region (by kernel_rfl) ?_
  iterate 3 (refine aL_S rfl rfl v_ ?_)
  refine aL_GF rfl rfl v_ rfl vg_ ?_
  refine aL_GF rfl rfl v_ rfl vg_ ?_
  refine aL_GF rfl rfl v_ rfl vg_ ?_
  (refine aL_S rfl rfl v_ ?_)
  refine aL_nil ?_
  refine awp_cond v_ (fun hc1 => ?_) (fun hc1 => ?_)
  · replace hc1 := nm_ hc1
    refine awp_seq ?_
    refine awp_region (by kernel_rfl) ?_
    (refine aL_S rfl rfl v_ ?_)
    refine aL_nil ?_
    refine awp_ret ?_
    refine aEnd_ret (σ' := σ) v_ sub_ ?_
    refine ⟨?_, rfl⟩
    simp only [nameOk]
    rcases hc1 with h | h
    · rw [decide_eq_false (show ¬ 1 ≤ s.size by omega)]; rfl
    · rw [decide_eq_false (show ¬ s.size ≤ 16 by omega)]; simp
  · replace hc1 := nm_ hc1
    refine awp_skip ?_
    refine awp_seq ?_
    refine awp_seq ?_
    refine awp_region (by kernel_rfl) ?_
    (refine aL_S rfl rfl v_ ?_)
    refine aL_X rfl rfl (AOp_rangeS rfl g_ va_ fun o13 ho13 => ?_)
    refine aL_nil ?_
    refine awp_block ?_
    refine awp_loop_env (ι := Nat) (fun p => s.size - p) (fun p => p ≤ s.size ∧ ((Lb s).take p).all letB = true) (fun p => [(13, .ref o13 0)]) (fun p => (σ.set o13 (.raw (.stringIter s p)))) 0 ?_ ?_ ?_ ?_
    · exact ⟨Nat.zero_le _, rfl⟩
    · exact cv_
    · exact Store.Wk.refl _
    rintro p ⟨hp, ha⟩
    simp only [envL_cons, envL_nil]
    refine awp_seq ?_
    by_cases hs4 : p < s.size
    · refine awp_region (by kernel_rfl) ?_
      first | (refine aL_X rfl rfl (AOp_nextS rfl va_ (Store.set_get ..) (fun _ => ?_) (fun hp => absurd hs4 hp))) | (refine aL_X rfl rfl (AOp_nextS rfl va_ (Store.set_get ..) (fun hp => absurd hp hs4) (fun _ => ?_)))
      (refine aL_S rfl rfl v_ ?_)
      refine aL_nil ?_
      refine awp_seq ?_
      refine awp_cond v_ (fun hc4 => ?_) (fun hc4 => ?_)
      · replace hc4 := nm_ hc4
        first
          | (exfalso; revert hc4; decide)
          | skip
            refine awp_skip ?_
            refine awp_block ?_
            refine awp_seq ?_
            obtain ⟨hl, hl2⟩ := rune_let hs4
            have hg := Lb_get hs4
            refine awp_region (by kernel_rfl) ?_
            iterate 2 (refine aL_S rfl rfl v_ ?_)
            refine aL_nil ?_
            refine awp_seq ?_
            refine awp_region (by kernel_rfl) ?_
            (refine aL_S rfl rfl v_ ?_)
            refine aL_X rfl rfl (AOp_use rfl rfl (.inr ⟨rfl, rfl, rfl⟩) g_ va_ (isLetter_c) ?_); rintro _ _ ⟨rfl, rfl⟩
            (refine aL_S rfl rfl v_ ?_)
            refine aL_nil ?_
            refine awp_cond v_ (fun hc6 => ?_) (fun hc6 => ?_)
            · replace hc6 := nm_ hc6
              refine awp_seq ?_
              refine awp_region (by kernel_rfl) ?_
              (refine aL_S rfl rfl v_ ?_)
              refine aL_nil ?_
              refine awp_ret ?_
              refine aEnd_ret (σ' := σ) v_ sub_ ?_
              refine ⟨?_, rfl⟩
              have hlf : letB (s[p]'hs4) = false := by rw [← hl]; simpa using hc6
              simp only [nameOk]
              rw [all_not letB hg hlf]; simp
            · replace hc6 := nm_ hc6
              have hlt : letB (s[p]'hs4) = true := by rw [← hl]; simpa using hc6
              have hw := hl2 hlt
              have hnx := all_take_succ letB hg ha hlt
              refine awp_skip ?_
              refine aNext (ι := Nat) (i := p) (p + 1) ?_ ?_ ?_ ?_
              · omega
              · exact ⟨by omega, hnx⟩
              · exact cv_
              · rw [Store.set_set, hw]; exact Store.Wk.refl _
      · replace hc4 := nm_ hc4
        first
          | (exfalso; revert hc4; decide)
          | skip
            refine awp_exit ?_
            refine aThen_exit ?_
            refine aThen_exit ?_
            refine aBlock_hit ?_
            refine awp_seq ?_
            refine awp_region (by kernel_rfl) ?_
            (refine aL_S rfl rfl v_ ?_)
            refine aL_nil ?_
            refine awp_ret ?_
            refine aEnd_ret (σ' := σ) v_ sub_ ?_
            exact ⟨rfl, rfl⟩
    · refine awp_region (by kernel_rfl) ?_
      first | (refine aL_X rfl rfl (AOp_nextS rfl va_ (Store.set_get ..) (fun _ => ?_) (fun hp => absurd hs4 hp))) | (refine aL_X rfl rfl (AOp_nextS rfl va_ (Store.set_get ..) (fun hp => absurd hp hs4) (fun _ => ?_)))
      (refine aL_S rfl rfl v_ ?_)
      refine aL_nil ?_
      refine awp_seq ?_
      refine awp_cond v_ (fun hc4 => ?_) (fun hc4 => ?_)
      · replace hc4 := nm_ hc4
        first
          | (exfalso; revert hc4; decide)
          | skip
            refine awp_skip ?_
            refine awp_block ?_
            refine awp_seq ?_
            obtain ⟨hl, hl2⟩ := rune_let hs4
            have hg := Lb_get hs4
            refine awp_region (by kernel_rfl) ?_
            iterate 2 (refine aL_S rfl rfl v_ ?_)
            refine aL_nil ?_
            refine awp_seq ?_
            refine awp_region (by kernel_rfl) ?_
            (refine aL_S rfl rfl v_ ?_)
            refine aL_X rfl rfl (AOp_use rfl rfl (.inr ⟨rfl, rfl, rfl⟩) g_ va_ (isLetter_c) ?_); rintro _ _ ⟨rfl, rfl⟩
            (refine aL_S rfl rfl v_ ?_)
            refine aL_nil ?_
            refine awp_cond v_ (fun hc6 => ?_) (fun hc6 => ?_)
            · replace hc6 := nm_ hc6
              refine awp_seq ?_
              refine awp_region (by kernel_rfl) ?_
              (refine aL_S rfl rfl v_ ?_)
              refine aL_nil ?_
              refine awp_ret ?_
              refine aEnd_ret (σ' := σ) v_ sub_ ?_
              exact ⟨rfl, rfl⟩
            · replace hc6 := nm_ hc6
              have hlt : letB (s[p]'hs4) = true := by rw [← hl]; simpa using hc6
              have hw := hl2 hlt
              have hnx := all_take_succ letB hg ha hlt
              refine awp_skip ?_
              refine aNext (ι := Nat) (i := p) (p + 1) ?_ ?_ ?_ ?_
              · omega
              · exact ⟨by omega, hnx⟩
              · exact cv_
              · rw [Store.set_set, hw]; exact Store.Wk.refl _
      · replace hc4 := nm_ hc4
        first
          | (exfalso; revert hc4; decide)
          | skip
            refine awp_exit ?_
            refine aThen_exit ?_
            refine aThen_exit ?_
            refine aBlock_hit ?_
            refine awp_seq ?_
            refine awp_region (by kernel_rfl) ?_
            (refine aL_S rfl rfl v_ ?_)
            refine aL_nil ?_
            refine awp_ret ?_
            refine aEnd_ret (σ' := σ) v_ sub_ ?_
            refine ⟨?_, rfl⟩
            obtain rfl : p = s.size := by omega
            rw [List.take_of_length_le (by rw [Lb_length]; exact Nat.le_refl _)] at ha
            simp only [nameOk]
            rw [ha, decide_eq_true (show 1 ≤ s.size by omega), decide_eq_true (show s.size ≤ 16 by omega)]; rfl
theorem letB_iff (c : UInt8) : letB c = true ↔ ((97 ≤ ((c.toNat : Nat) : Int) ∧ ((c.toNat : Nat) : Int) ≤ 122) ∨ (48 ≤ ((c.toNat : Nat) : Int) ∧ ((c.toNat : Nat) : Int) ≤ 57)) ∨ ((c.toNat : Nat) : Int) = 45 := by simp [letB, lett]
theorem rIs_c {s : ByteArray} {σ : Store} (hs : s.size ≤ 1000000000000) : ACalls Tryz.prog 90 [vStr s] σ fun v σ' => v = .lit (.bool (nameOk s)) ∧ σ = σ' := by
  refine ACalls_of Tryz.func90 rfl Tryz.ntmps90 (congrArg Array.toList Tryz.results90) (by simp only [List.length_cons, List.length_nil]; decide) ?_; simp only [envOf_cons, envOf_nil, Nat.reduceAdd]
  refine awp_seq ?_
  refine awp_region (by kernel_rfl) ?_
  (refine aL_S rfl rfl v_ ?_)
  refine aL_nil ?_
  refine awp_seq ?_
  refine awp_seq ?_
  refine awp_region (by kernel_rfl) ?_
  (refine aL_S rfl rfl v_ ?_)
  refine aL_nil ?_
  refine awp_block ?_
  refine awp_loop_env (ι := Nat) (fun p => s.size - p) (fun p => p ≤ s.size ∧ ((Lb s).take p).all letB = true) (fun p => [(0, vStr s), (3, vInt p)]) (fun p => σ) 0 ?_ ?_ ?_ ?_
  · exact ⟨Nat.zero_le _, rfl⟩
  · exact cv_
  · exact sub_
  rintro p ⟨hp, ha⟩
  simp only [envL_cons, envL_nil]
  refine awp_seq ?_
  refine awp_seq ?_
  refine awp_region (by kernel_rfl) ?_
  iterate 4 (refine aL_S rfl rfl v_ ?_)
  refine aL_nil ?_
  refine awp_cond v_ (fun hc2 => ?_) (fun hc2 => ?_)
  · replace hc2 := nm_ hc2
    refine awp_skip ?_
    refine awp_seq ?_
    refine awp_block ?_
    refine awp_seq ?_
    have hp' : p < s.size := by omega
    have hg := Lb_get hp'
    have hg2 : s[p]? = some (s[p]'hp') := getElem?_pos s p hp'
    obtain ⟨c, hc⟩ : ∃ c, s[p]'hp' = c := ⟨_, rfl⟩
    rw [hc] at hg hg2
    have hcl := letB_iff c
    have R := hg2
    refine awp_region (by kernel_rfl) ?_
    iterate 5 (refine aL_S rfl rfl v_ ?_)
    refine aL_GF rfl rfl v_ rfl vg_ ?_
    refine aL_GF rfl rfl v_ rfl vg_ ?_
    refine aL_GF rfl rfl v_ rfl vg_ ?_
    refine aL_GF rfl rfl v_ rfl vg_ ?_
    iterate 2 (refine aL_S rfl rfl v_ ?_)
    refine aL_GT rfl rfl v_ rfl vg_ ?_
    refine aL_GT rfl rfl v_ rfl vg_ ?_
    refine aL_GT rfl rfl v_ rfl vg_ ?_
    refine aL_GT rfl rfl v_ rfl vg_ ?_
    refine aL_GT rfl rfl v_ rfl vg_ ?_
    refine aL_GGF rfl rfl v_ rfl vg_ ?_
    refine aL_GGF rfl rfl v_ rfl vg_ ?_
    refine aL_GGF rfl rfl v_ rfl vg_ ?_
    refine aL_GGF rfl rfl v_ rfl vg_ ?_
    refine aL_GT rfl rfl v_ rfl vg_ ?_
    iterate 2 (refine aL_S rfl rfl v_ ?_)
    refine aL_GT rfl rfl v_ rfl vg_ ?_
    refine aL_GT rfl rfl v_ rfl vg_ ?_
    refine aL_GT rfl rfl v_ rfl vg_ ?_
    refine aL_GT rfl rfl v_ rfl vg_ ?_
    (refine aL_S rfl rfl v_ ?_)
    refine aL_nil ?_
    refine awp_cond v_ (fun hc4 => ?_) (fun hc4 => ?_)
    · replace hc4 := nm_ hc4
      skip
      have hlf : letB c = false := by
        cases h : letB c with
        | false => rfl
        | true => rw [hcl] at h; omega
      refine awp_seq ?_
      refine awp_region (by kernel_rfl) ?_
      (refine aL_S rfl rfl v_ ?_)
      refine aL_nil ?_
      refine awp_ret ?_
      refine aEnd_ret (σ' := σ) v_ sub_ ?_
      refine ⟨?_, rfl⟩
      simp only [nameOk]
      rw [all_not letB hg hlf]; simp
    · replace hc4 := nm_ hc4
      have hnx := all_take_succ letB hg ha (hcl.2 (by omega))
      refine awp_skip ?_
      refine awp_region (by kernel_rfl) ?_
      iterate 3 (refine aL_S rfl rfl v_ ?_)
      refine aL_nil ?_
      refine aNext (ι := Nat) (i := p) (p + 1) ?_ ?_ ?_ ?_
      · omega
      · exact ⟨by omega, hnx⟩
      · exact cv_
      · exact sub_
  · replace hc2 := nm_ hc2
    refine awp_exit ?_
    refine aThen_exit ?_
    refine aThen_exit ?_
    refine aBlock_hit ?_
    refine awp_seq ?_
    refine awp_region (by kernel_rfl) ?_
    iterate 4 (refine aL_S rfl rfl v_ ?_)
    refine aL_GT rfl rfl v_ rfl vg_ ?_
    refine aL_GT rfl rfl v_ rfl vg_ ?_
    refine aL_GT rfl rfl v_ rfl vg_ ?_
    iterate 2 (refine aL_S rfl rfl v_ ?_)
    refine aL_nil ?_
    refine awp_ret ?_
    refine aEnd_ret (σ' := σ) v_ sub_ ?_
    refine ⟨?_, rfl⟩
    obtain rfl : p = s.size := by omega
    rw [List.take_of_length_le (by rw [Lb_length]; exact Nat.le_refl _)] at ha
    simp only [nameOk]
    rw [ha, Bool.and_true]
    congr 2
    rw [Bool.eq_iff_iff]; simp; omega
end Go.Proofs.YtbomkkjhafdhiaaGreat
end

section
set_option linter.all false
set_option maxRecDepth 100000
namespace Go.Proofs.YtbomkkjhafdhiaaGreat
open Go.Ab

def riseOk : Int → List Int → Bool
  | _, [] => true
  | last, n :: l => decide (last < n) && decide (n ≤ 9007199254740992) && riseOk n l
def seenHd (x : Seen) : Bool := nameOk x.node && decide (0 ≤ x.base) && decide (x.base ≤ 9007199254740992) && !(decide (x.base = 0) && decide (x.more.length = 0))
def seenOk (x : Seen) : Bool := seenHd x && riseOk (x.base + 1) x.more
def aheadOk (pv : Option ByteArray) (s : ByteArray) : Bool := match pv with | none => true | some p => sLt p s
def ctxGo : Option ByteArray → Int → List Seen → Bool
  | _, _, [] => true
  | pv, room, x :: l => seenOk x && aheadOk pv x.node && decide ((x.more.length : Int) ≤ room) && ctxGo (some x.node) (room - x.more.length) l
def ctxOk (c : List Seen) : Bool := ctxGo none 4096 c
theorem drop_cons {α : Type} {l : List α} {k : Nat} {x : α} (h : l[k]? = some x) : l.drop k = x :: l.drop (k + 1) := by
  obtain ⟨hk, rfl⟩ := List.getElem?_eq_some_iff.1 h
  exact List.drop_eq_getElem_cons hk
theorem get_some {α : Type} {l : List α} {k : Nat} (h : k < l.length) : ∃ x, l[k]? = some x := ⟨l[k], List.getElem?_eq_getElem h⟩
theorem seenHd_false {x : Seen} (h : seenHd x = false) : seenOk x = false := by simp [seenOk, h]

theorem seenHd_yes {x : Seen} (h : ((nameOk x.node = true ∧ 0 ≤ x.base) ∧ x.base ≤ 9007199254740992) ∧ (¬ x.base = 0 ∨ ¬ (x.more.length : Int) = 0)) : seenHd x = true := by
  obtain ⟨⟨⟨h1, h2⟩, h3⟩, h4⟩ := h
  unfold seenHd
  rw [h1, decide_eq_true h2, decide_eq_true h3]
  rcases h4 with h | h
  · rw [decide_eq_false h]; rfl
  · rw [decide_eq_false (show ¬ x.more.length = 0 by omega)]; simp
theorem seenHd_not {x : Seen} (h : ((nameOk x.node = false ∨ x.base < 0) ∨ 9007199254740992 < x.base) ∨ x.base = 0 ∧ (x.more.length : Int) = 0) : seenHd x = false := by
  unfold seenHd
  rcases h with ((h | h) | h) | ⟨h, h'⟩
  · rw [h]; rfl
  · rw [decide_eq_false (show ¬ 0 ≤ x.base by omega)]; simp
  · rw [decide_eq_false (show ¬ x.base ≤ 9007199254740992 by omega)]; simp
  · rw [decide_eq_true h, decide_eq_true (show x.more.length = 0 by omega)]; simp
theorem isSeen_c {x : Seen} {σ : Store} (hx : SeenSm x) : ACalls Tryz.prog 107 [sSeen x] σ fun v σ' => v = .lit (.bool (seenOk x)) ∧ σ = σ' := by
  have h1 := hx.node; have h2 := hx.more
  refine ACalls_of Tryz.func107 rfl Tryz.ntmps107 (congrArg Array.toList Tryz.results107) (by simp only [List.length_cons, List.length_nil]; decide) ?_; simp only [envOf_cons, envOf_nil, Nat.reduceAdd]
  refine awp_seq ?_
  refine awp_region (by kernel_rfl) ?_
  refine aL_box rfl rfl rfl v_ rfl g_ fun o1 ho1 => ?_
  repeat (rw [none_set_iff] at ho1; obtain ⟨_, ho1⟩ := ho1)
  (refine aL_S rfl rfl v_ ?_)
  refine aL_nil ?_
  refine awp_seq ?_
  refine awp_seq ?_
  refine awp_region (by kernel_rfl) ?_
  iterate 2 (refine aL_S rfl rfl v_ ?_)
  refine aL_X rfl rfl (AOp_use rfl rfl (.inr ⟨rfl, rfl, rfl⟩) g_ va_ (nameIs_c (by omega)) ?_); rintro _ _ ⟨rfl, rfl⟩
  iterate 2 (refine aL_S rfl rfl v_ ?_)
  refine aL_GF rfl rfl v_ rfl vg_ ?_
  refine aL_GF rfl rfl v_ rfl vg_ ?_
  refine aL_GF rfl rfl v_ rfl vg_ ?_
  iterate 2 (refine aL_S rfl rfl v_ ?_)
  refine aL_GF rfl rfl v_ rfl vg_ ?_
  refine aL_GF rfl rfl v_ rfl vg_ ?_
  refine aL_GF rfl rfl v_ rfl vg_ ?_
  iterate 2 (refine aL_S rfl rfl v_ ?_)
  refine aL_GF rfl rfl v_ rfl vg_ ?_
  refine aL_GF rfl rfl v_ rfl vg_ ?_
  refine aL_GF rfl rfl v_ rfl vg_ ?_
  refine aL_GF rfl rfl v_ rfl vg_ ?_
  refine aL_GGT rfl rfl v_ rfl vg_ ?_
  refine aL_GGT rfl rfl v_ rfl vg_ ?_
  refine aL_GGT rfl rfl v_ rfl vg_ ?_
  refine aL_GGT rfl rfl v_ rfl vg_ ?_
  refine aL_GF rfl rfl v_ rfl vg_ ?_
  (refine aL_S rfl rfl v_ ?_)
  refine aL_nil ?_
  refine awp_cond v_ (fun hc1 => ?_) (fun hc1 => ?_)
  · replace hc1 := nm_ hc1
    skip
    have hf : seenOk x = false := by
      refine seenHd_false ?_
      exact seenHd_not hc1
    refine awp_seq ?_
    refine awp_region (by kernel_rfl) ?_
    (refine aL_S rfl rfl v_ ?_)
    refine aL_nil ?_
    refine awp_ret ?_
    refine aEnd_ret (σ' := σ) v_ sub_ ?_
    exact ⟨by rw [hf], rfl⟩
  · replace hc1 := nm_ hc1
    skip
    have hf : seenHd x = true := seenHd_yes hc1
    have hb : 0 ≤ x.base ∧ x.base ≤ 9007199254740992 := by omega
    refine awp_skip ?_
    refine awp_seq ?_
    refine awp_region (by kernel_rfl) ?_
    iterate 4 (refine aL_S rfl rfl v_ ?_)
    refine aL_nil ?_
    refine awp_seq ?_
    refine awp_seq ?_
    refine awp_region (by kernel_rfl) ?_
    iterate 4 (refine aL_S rfl rfl v_ ?_)
    refine aL_nil ?_
    refine awp_block ?_
    refine awp_loop_env (ι := Nat × Int) (fun ⟨k, z⟩ => x.more.length - k) (fun ⟨k, z⟩ => k ≤ x.more.length ∧ riseOk z (x.more.drop k) = riseOk (x.base + 1) x.more) (fun ⟨k, z⟩ => [(3, vInt z), (35, .sl 1 (x.more.map vInt) false), (36, vInt x.more.length), (37, vInt k)]) (fun ⟨k, z⟩ => (σ.set o1 (.cells (sSeen x).cells))) (0, x.base + 1) ?_ ?_ ?_ ?_
    · exact ⟨Nat.zero_le _, rfl⟩
    · exact cv_
    · exact Store.Wk.refl _
    rintro ⟨k, z⟩ ⟨hk, hr⟩
    simp only [envL_cons, envL_nil]
    refine awp_seq ?_
    refine awp_region (by kernel_rfl) ?_
    (refine aL_S rfl rfl v_ ?_)
    refine aL_nil ?_
    refine awp_seq ?_
    refine awp_cond v_ (fun hc5 => ?_) (fun hc5 => ?_)
    · replace hc5 := nm_ hc5
      refine awp_skip ?_
      refine awp_seq ?_
      refine awp_block ?_
      refine awp_seq ?_
      obtain ⟨n, hn⟩ := get_some (l := x.more) (k := k) (by omega)
      have hrn : riseOk z (x.more.drop k) = (decide (z < n) && decide (n ≤ 9007199254740992) && riseOk n (x.more.drop (k + 1))) := by rw [drop_cons hn]; rfl
      have R := hn
      refine awp_region (by kernel_rfl) ?_
      iterate 3 (refine aL_S rfl rfl v_ ?_)
      refine aL_nil ?_
      refine awp_seq ?_
      refine awp_seq ?_
      refine awp_region (by kernel_rfl) ?_
      iterate 4 (refine aL_S rfl rfl v_ ?_)
      refine aL_GF rfl rfl v_ rfl vg_ ?_
      refine aL_GF rfl rfl v_ rfl vg_ ?_
      (refine aL_S rfl rfl v_ ?_)
      refine aL_nil ?_
      refine awp_cond v_ (fun hc7 => ?_) (fun hc7 => ?_)
      · replace hc7 := nm_ hc7
        refine awp_seq ?_
        refine awp_region (by kernel_rfl) ?_
        (refine aL_S rfl rfl v_ ?_)
        refine aL_nil ?_
        refine awp_ret ?_
        refine aEnd_ret (σ' := σ) v_ sub_ ?_
        refine ⟨?_, rfl⟩
        have : seenOk x = false := by
          unfold seenOk
          rw [← hr, hrn]
          rcases hc7 with h | h
          · rw [decide_eq_false (show ¬ z < n by omega)]; simp
          · rw [decide_eq_false (show ¬ n ≤ 9007199254740992 by omega)]; simp
        rw [this]
      · replace hc7 := nm_ hc7
        refine awp_skip ?_
        refine awp_region (by kernel_rfl) ?_
        iterate 2 (refine aL_S rfl rfl v_ ?_)
        refine aL_nil ?_
        refine awp_region (by kernel_rfl) ?_
        iterate 2 (refine aL_S rfl rfl v_ ?_)
        refine aL_nil ?_
        refine aNext (ι := Nat × Int) (i := ⟨k, z⟩) (k + 1, n) ?_ ?_ ?_ ?_
        · show x.more.length - (k + 1) < x.more.length - k; omega
        · exact ⟨by show k + 1 ≤ x.more.length; omega, by rw [← hr, hrn, decide_eq_true (show z < n by omega), decide_eq_true (show n ≤ 9007199254740992 by omega)]; rfl⟩
        · exact cv_
        · exact Store.Wk.refl _
    · replace hc5 := nm_ hc5
      refine awp_exit ?_
      refine aThen_exit ?_
      refine aThen_exit ?_
      refine aBlock_hit ?_
      refine awp_seq ?_
      refine awp_region (by kernel_rfl) ?_
      (refine aL_S rfl rfl v_ ?_)
      refine aL_nil ?_
      refine awp_ret ?_
      refine aEnd_ret (σ' := σ) v_ sub_ ?_
      refine ⟨?_, rfl⟩
      have : seenOk x = true := by
        unfold seenOk
        rw [← hr, hf, List.drop_eq_nil_of_le (by omega)]; rfl
      rw [this]
def pvOf (c : List Seen) (k : Nat) : Option ByteArray := if k = 0 then none else (c[k - 1]?).map (·.node)
theorem pv_next {c : List Seen} {k : Nat} {x : Seen} (h : c[k]? = some x) : pvOf c (k + 1) = some x.node := by simp [pvOf, h]
theorem pv_prev (c : List Seen) (k : Nat) (hk : k < c.length) : ∃ y : Seen, (0 < k → c[((k : Int) - 1).toNat]? = some y) ∧ ∀ s, aheadOk (pvOf c k) s = (decide (k = 0) || sLt y.node s) := by
  by_cases h0 : k = 0
  · subst h0
    exact ⟨⟨.empty, 0, []⟩, fun h => by omega, fun s => rfl⟩
  · obtain ⟨y, hy⟩ := get_some (l := c) (k := k - 1) (by omega)
    have e : ((k : Int) - 1).toNat = k - 1 := by omega
    exact ⟨y, fun _ => by rw [e]; exact hy, fun s => by simp [pvOf, h0, hy, aheadOk]⟩
theorem ctx_no {a b : Bool} {n room : Int} {r : Bool} {k : Nat} {s : Bool} (hb : b = (decide (k = 0) || s)) (h : (a = false ∨ 0 < (k : Int) ∧ s = false) ∨ room < n) : (a && b && decide (n ≤ room) && r) = false := by
  rcases h with (h | ⟨h, h'⟩) | h
  · rw [h]; rfl
  · rw [hb, h', decide_eq_false (show ¬ k = 0 by omega)]; simp
  · rw [decide_eq_false (show ¬ n ≤ room by omega)]; simp
theorem ctx_yes {a b : Bool} {n room : Int} {r : Bool} {k : Nat} {s : Bool} (hb : b = (decide (k = 0) || s)) (h : (a = true ∧ ((k : Int) ≤ 0 ∨ s = true)) ∧ n ≤ room) : (a && b && decide (n ≤ room) && r) = r := by
  obtain ⟨⟨h1, h2⟩, h3⟩ := h
  have : b = true := by
    rw [hb]
    rcases h2 with h | h
    · rw [decide_eq_true (show k = 0 by omega)]; rfl
    · rw [h]; simp
  rw [h1, this, decide_eq_true h3]; rfl
theorem check_c {c : List Seen} {t : Bool} {σ : Store} (hx : ∀ x ∈ c, SeenSm x) (hn : c.length ≤ 1000000) : ACalls Tryz.prog 73 [.sl 3 (c.map sSeen) t] σ fun v σ' => v = vInt (if ctxOk c then 0 else 1) ∧ σ = σ' := by
  refine ACalls_of Tryz.func73 rfl Tryz.ntmps73 (congrArg Array.toList Tryz.results73) (by simp only [List.length_cons, List.length_nil]; decide) ?_; simp only [envOf_cons, envOf_nil, Nat.reduceAdd]
  refine awp_seq ?_
  refine awp_region (by kernel_rfl) ?_
  (refine aL_S rfl rfl v_ ?_)
  refine aL_nil ?_
  refine awp_seq ?_
  refine awp_region (by kernel_rfl) ?_
  (refine aL_S rfl rfl v_ ?_)
  refine aL_nil ?_
  refine awp_seq ?_
  refine awp_seq ?_
  refine awp_region (by kernel_rfl) ?_
  iterate 3 (refine aL_S rfl rfl v_ ?_)
  refine aL_nil ?_
  refine awp_block ?_
  refine awp_loop_env (ι := Nat × Int) (fun ⟨k, room⟩ => c.length - k) (fun ⟨k, room⟩ => k ≤ c.length ∧ ctxGo (pvOf c k) room (c.drop k) = ctxOk c ∧ (room ≤ 4096 ∧ 0 ≤ room)) (fun ⟨k, room⟩ => [(0, .sl 3 (c.map sSeen) t), (3, vInt room), (6, .sl 3 (c.map sSeen) t), (7, vInt c.length), (8, vInt k)]) (fun ⟨k, room⟩ => σ) (0, 4096) ?_ ?_ ?_ ?_
  · exact ⟨Nat.zero_le _, rfl, by decide⟩
  · exact cv_
  · exact sub_
  rintro ⟨k, room⟩ ⟨hk, hr, hrm⟩
  simp only [envL_cons, envL_nil]
  refine awp_seq ?_
  refine awp_region (by kernel_rfl) ?_
  (refine aL_S rfl rfl v_ ?_)
  refine aL_nil ?_
  refine awp_seq ?_
  refine awp_cond v_ (fun hc3 => ?_) (fun hc3 => ?_)
  · replace hc3 := nm_ hc3
    refine awp_skip ?_
    refine awp_seq ?_
    refine awp_block ?_
    refine awp_seq ?_
    obtain ⟨x, hxk⟩ := get_some (l := c) (k := k) (by omega)
    have hsx := hx x (List.mem_of_getElem? hxk)
    have hlm := hsx.more
    obtain ⟨y, hy, hah⟩ := pv_prev c k (by omega)
    have hst : ctxGo (pvOf c k) room (c.drop k) = (seenOk x && aheadOk (pvOf c k) x.node && decide ((x.more.length : Int) ≤ room) && ctxGo (some x.node) (room - x.more.length) (c.drop (k + 1))) := by rw [drop_cons hxk]; rfl
    have R := hxk
    refine awp_region (by kernel_rfl) ?_
    iterate 3 (refine aL_S rfl rfl v_ ?_)
    refine aL_alloc rfl rfl rfl g_ gl_ fun o5 ho5 => ?_
    repeat (rw [none_set_iff] at ho5; obtain ⟨_, ho5⟩ := ho5)
    (refine aL_S rfl rfl v_ ?_)
    refine aL_store rfl rfl rfl v_ v_ h_ g_ rfl g_ c_ (by rfl) le_ v_ ?_
    refine aL_nil ?_
    refine awp_seq ?_
    refine awp_seq ?_
    have R := hy
    refine awp_draw (.op 0 0 (.op 1 1 (.op 2 0 (.op 3 0 (.op 4 0 (.op 5 0 (.op 6 0 (.op 7 0 (.op 8 0 (.op 9 0 (.op 10 0 (.op 11 0 (.op 12 0 (.op 13 0 (.op 14 0 (.op 15 0 (.op 16 0 (.op 17 0 (.op 18 0 (.op 19 0 (.op 20 0 (.op 21 0 (.op 22 0 (.op 23 0 (.op 24 0 .nil))))))))))))))))))))))))) Tryz.mixed (by kernel_rfl) ?_
    (refine dR_S o_ (by rfl) (by rfl) v_ ?_)
    refine dR_X o_ (by rfl) (by rfl) (AOp_use (by rfl) (by rfl) (.inr ⟨by rfl, by rfl, by rfl⟩) g_ va_ (isSeen_c hsx) ?_); rintro _ _ ⟨rfl, rfl⟩; refine ⟨sub_, ?_⟩
    iterate 2 (refine dR_S o_ (by rfl) (by rfl) v_ ?_)
    refine dR_GF o_ (by rfl) (by rfl) v_ (by rfl) vg_ ?_
    refine dR_GF o_ (by rfl) (by rfl) v_ (by rfl) vg_ ?_
    refine dR_GF o_ (by rfl) (by rfl) v_ (by rfl) vg_ ?_
    refine dR_GGT o_ (by rfl) (by rfl) v_ (by rfl) vg_ ?_
    refine dR_GGT o_ (by rfl) (by rfl) v_ (by rfl) vg_ ?_
    refine dR_GGT o_ (by rfl) (by rfl) v_ (by rfl) vg_ ?_
    refine dR_GGT o_ (by rfl) (by rfl) v_ (by rfl) vg_ ?_
    refine dR_GGT o_ (by rfl) (by rfl) v_ (by rfl) vg_ ?_
    refine dR_GGT o_ (by rfl) (by rfl) v_ (by rfl) vg_ ?_
    refine dR_GGT o_ (by rfl) (by rfl) v_ (by rfl) vg_ ?_
    refine dR_GGT o_ (by rfl) (by rfl) v_ (by rfl) vg_ ?_
    refine dR_GGT o_ (by rfl) (by rfl) v_ (by rfl) vg_ ?_
    refine dR_GF o_ (by rfl) (by rfl) v_ (by rfl) vg_ ?_
    iterate 2 (refine dR_S o_ (by rfl) (by rfl) v_ ?_)
    refine dR_GF o_ (by rfl) (by rfl) v_ (by rfl) vg_ ?_
    refine dR_GF o_ (by rfl) (by rfl) v_ (by rfl) vg_ ?_
    refine dR_GF o_ (by rfl) (by rfl) v_ (by rfl) vg_ ?_
    refine dR_GF o_ (by rfl) (by rfl) v_ (by rfl) vg_ ?_
    refine dR_GF o_ (by rfl) (by rfl) v_ (by rfl) vg_ ?_
    (refine dR_S o_ (by rfl) (by rfl) v_ ?_)
    refine dR_nil ?_
    refine awp_cond v_ (fun hc5 => ?_) (fun hc5 => ?_)
    · replace hc5 := nm_ hc5
      refine awp_seq ?_
      refine awp_region (by kernel_rfl) ?_
      (refine aL_S rfl rfl v_ ?_)
      refine aL_nil ?_
      refine awp_ret ?_
      refine aEnd_ret (σ' := σ) v_ sub_ ?_
      refine ⟨?_, rfl⟩
      rw [← hr, hst, ctx_no (hah _) hc5]; rfl
    · replace hc5 := nm_ hc5
      have hnx : ctxGo (pvOf c (k + 1)) (room - x.more.length) (c.drop (k + 1)) = ctxOk c := by rw [pv_next hxk, ← hr, hst, ctx_yes (hah _) hc5]
      have hrm2 : room - (x.more.length : Int) ≤ 4096 ∧ 0 ≤ room - (x.more.length : Int) := by omega
      refine awp_skip ?_
      refine awp_region (by kernel_rfl) ?_
      iterate 6 (refine aL_S rfl rfl v_ ?_)
      refine aL_nil ?_
      refine awp_region (by kernel_rfl) ?_
      iterate 2 (refine aL_S rfl rfl v_ ?_)
      refine aL_nil ?_
      refine aNext (ι := Nat × Int) (i := ⟨k, room⟩) (k + 1, room - x.more.length) ?_ ?_ ?_ ?_
      · show c.length - (k + 1) < c.length - k; omega
      · exact ⟨by show k + 1 ≤ c.length; omega, hnx, hrm2⟩
      · exact cv_
      · exact sub_
  · replace hc3 := nm_ hc3
    refine awp_exit ?_
    refine aThen_exit ?_
    refine aThen_exit ?_
    refine aBlock_hit ?_
    refine awp_seq ?_
    refine awp_region (by kernel_rfl) ?_
    (refine aL_S rfl rfl v_ ?_)
    refine aL_nil ?_
    refine awp_ret ?_
    refine aEnd_ret (σ' := σ) v_ sub_ ?_
    refine ⟨?_, rfl⟩
    rw [← hr, List.drop_eq_nil_of_le (by omega)]; rfl
theorem may_hd {x : Seen} {k : Nat} {s : Bool} {n : Int} (h : ((((nameOk x.node = true ∧ ((k : Int) ≤ 0 ∨ s = true)) ∧ 0 ≤ x.base) ∧ x.base ≤ 9007199254740992) ∧ (¬ x.base = 0 ∨ ¬ (x.more.length : Int) = 0)) ∧ (x.more.length : Int) ≤ n) : seenHd x = true ∧ ((k : Int) ≤ 0 ∨ s = true) ∧ (x.more.length : Int) ≤ n :=
  ⟨seenHd_yes ⟨⟨⟨h.1.1.1.1.1, h.1.1.1.2⟩, h.1.1.2⟩, h.1.2⟩, h.1.1.1.1.2, h.2⟩
theorem may_not {x : Seen} {k : Nat} {s : Bool} {n : Int} (h : ((((nameOk x.node = false ∨ (0 < (k : Int) ∧ s = false)) ∨ x.base < 0) ∨ 9007199254740992 < x.base) ∨ (x.base = 0 ∧ (x.more.length : Int) = 0)) ∨ n < (x.more.length : Int)) : (seenHd x = false ∨ 0 < (k : Int) ∧ s = false) ∨ n < (x.more.length : Int) := by
  rcases h with ((((h | h) | h) | h) | h) | h
  · exact .inl (.inl (seenHd_not (.inl (.inl (.inl h)))))
  · exact .inl (.inr h)
  · exact .inl (.inl (seenHd_not (.inl (.inl (.inr h)))))
  · exact .inl (.inl (seenHd_not (.inl (.inr h))))
  · exact .inl (.inl (seenHd_not (.inr h)))
  · exact .inr h
theorem rMay06_c {c : List Seen} {t : Bool} {σ : Store} (hx : ∀ x ∈ c, SeenSm x) (hn : c.length ≤ 1000000) : ACalls Tryz.prog 52 [.sl 3 (c.map sSeen) t] σ fun v σ' => v = .lit (.bool (ctxOk c)) ∧ σ = σ' := by
  refine ACalls_of Tryz.func52 rfl Tryz.ntmps52 (congrArg Array.toList Tryz.results52) (by simp only [List.length_cons, List.length_nil]; decide) ?_; simp only [envOf_cons, envOf_nil, Nat.reduceAdd]
  refine awp_seq ?_
  refine awp_region (by kernel_rfl) ?_
  (refine aL_S rfl rfl v_ ?_)
  refine aL_nil ?_
  refine awp_seq ?_
  refine awp_region (by kernel_rfl) ?_
  (refine aL_S rfl rfl v_ ?_)
  refine aL_nil ?_
  refine awp_seq ?_
  refine awp_seq ?_
  refine awp_region (by kernel_rfl) ?_
  (refine aL_S rfl rfl v_ ?_)
  refine aL_nil ?_
  refine awp_block ?_
  refine awp_loop_env (ι := Nat × Int) (fun ⟨k, n⟩ => c.length - k) (fun ⟨k, n⟩ => k ≤ c.length ∧ ctxGo (pvOf c k) (4096 - n) (c.drop k) = ctxOk c ∧ (n ≤ 4096 ∧ 0 ≤ n)) (fun ⟨k, n⟩ => [(0, .sl 3 (c.map sSeen) t), (3, vInt n), (4, vInt k)]) (fun ⟨k, n⟩ => σ) (0, 0) ?_ ?_ ?_ ?_
  · exact ⟨Nat.zero_le _, rfl, by decide⟩
  · exact cv_
  · exact sub_
  rintro ⟨k, n⟩ ⟨hk, hr, hrm⟩
  simp only [envL_cons, envL_nil]
  refine awp_seq ?_
  refine awp_seq ?_
  refine awp_region (by kernel_rfl) ?_
  iterate 4 (refine aL_S rfl rfl v_ ?_)
  refine aL_nil ?_
  refine awp_cond v_ (fun hc3 => ?_) (fun hc3 => ?_)
  · replace hc3 := nm_ hc3
    refine awp_skip ?_
    refine awp_seq ?_
    refine awp_block ?_
    refine awp_seq ?_
    obtain ⟨x, hxk⟩ := get_some (l := c) (k := k) (by omega)
    have hsx := hx x (List.mem_of_getElem? hxk)
    have hlm := hsx.more
    have hnm := hsx.node
    obtain ⟨y, hy, hah⟩ := pv_prev c k (by omega)
    have hst : ctxGo (pvOf c k) (4096 - n) (c.drop k) = ((seenHd x && riseOk (x.base + 1) x.more) && aheadOk (pvOf c k) x.node && decide ((x.more.length : Int) ≤ 4096 - n) && ctxGo (some x.node) (4096 - n - x.more.length) (c.drop (k + 1))) := by rw [drop_cons hxk]; rfl
    have R := hxk
    refine awp_region (by kernel_rfl) ?_
    iterate 4 (refine aL_S rfl rfl v_ ?_)
    refine aL_alloc rfl rfl rfl g_ gl_ fun o5 ho5 => ?_
    repeat (rw [none_set_iff] at ho5; obtain ⟨_, ho5⟩ := ho5)
    refine aL_store rfl rfl rfl v_ v_ h_ g_ rfl g_ c_ (by rfl) le_ v_ ?_
    refine aL_nil ?_
    refine awp_seq ?_
    refine awp_seq ?_
    have R := hy
    refine awp_draw (.op 0 0 (.op 1 0 (.op 2 1 (.op 3 0 (.op 4 0 (.op 5 0 (.op 6 0 (.op 7 0 (.op 8 0 (.op 9 0 (.op 10 0 (.op 11 0 (.op 12 0 (.op 13 0 (.op 14 0 (.op 15 0 (.op 16 0 (.op 17 0 (.op 18 0 (.op 19 0 (.op 20 0 (.op 21 0 (.op 22 0 (.op 23 0 (.op 24 0 (.op 25 0 (.op 26 0 (.op 27 0 (.op 28 0 (.op 29 0 (.op 30 0 (.op 31 0 (.op 32 0 (.op 33 0 (.op 34 0 (.op 35 0 (.op 36 0 (.op 37 0 (.op 38 0 (.op 39 0 (.op 40 0 (.op 41 0 (.op 42 0 (.op 43 0 (.op 44 0 (.op 45 0 (.op 46 0 (.op 47 0 .nil)))))))))))))))))))))))))))))))))))))))))))))))) Tryz.mixed (by kernel_rfl) ?_
    iterate 2 (refine dR_S o_ (by rfl) (by rfl) v_ ?_)
    refine dR_X o_ (by rfl) (by rfl) (AOp_use (by rfl) (by rfl) (.inr ⟨by rfl, by rfl, by rfl⟩) g_ va_ (rIs_c (by omega)) ?_); rintro _ _ ⟨rfl, rfl⟩; refine ⟨sub_, ?_⟩
    iterate 2 (refine dR_S o_ (by rfl) (by rfl) v_ ?_)
    refine dR_GF o_ (by rfl) (by rfl) v_ (by rfl) vg_ ?_
    refine dR_GF o_ (by rfl) (by rfl) v_ (by rfl) vg_ ?_
    refine dR_GF o_ (by rfl) (by rfl) v_ (by rfl) vg_ ?_
    refine dR_GGT o_ (by rfl) (by rfl) v_ (by rfl) vg_ ?_
    refine dR_GGT o_ (by rfl) (by rfl) v_ (by rfl) vg_ ?_
    refine dR_GGT o_ (by rfl) (by rfl) v_ (by rfl) vg_ ?_
    refine dR_GGT o_ (by rfl) (by rfl) v_ (by rfl) vg_ ?_
    refine dR_GGT o_ (by rfl) (by rfl) v_ (by rfl) vg_ ?_
    refine dR_GGT o_ (by rfl) (by rfl) v_ (by rfl) vg_ ?_
    refine dR_GGT o_ (by rfl) (by rfl) v_ (by rfl) vg_ ?_
    refine dR_GGT o_ (by rfl) (by rfl) v_ (by rfl) vg_ ?_
    refine dR_GGT o_ (by rfl) (by rfl) v_ (by rfl) vg_ ?_
    refine dR_GF o_ (by rfl) (by rfl) v_ (by rfl) vg_ ?_
    iterate 2 (refine dR_S o_ (by rfl) (by rfl) v_ ?_)
    refine dR_GF o_ (by rfl) (by rfl) v_ (by rfl) vg_ ?_
    refine dR_GF o_ (by rfl) (by rfl) v_ (by rfl) vg_ ?_
    refine dR_GF o_ (by rfl) (by rfl) v_ (by rfl) vg_ ?_
    iterate 2 (refine dR_S o_ (by rfl) (by rfl) v_ ?_)
    refine dR_GF o_ (by rfl) (by rfl) v_ (by rfl) vg_ ?_
    refine dR_GF o_ (by rfl) (by rfl) v_ (by rfl) vg_ ?_
    refine dR_GF o_ (by rfl) (by rfl) v_ (by rfl) vg_ ?_
    iterate 2 (refine dR_S o_ (by rfl) (by rfl) v_ ?_)
    refine dR_GF o_ (by rfl) (by rfl) v_ (by rfl) vg_ ?_
    refine dR_GF o_ (by rfl) (by rfl) v_ (by rfl) vg_ ?_
    refine dR_GF o_ (by rfl) (by rfl) v_ (by rfl) vg_ ?_
    refine dR_GF o_ (by rfl) (by rfl) v_ (by rfl) vg_ ?_
    refine dR_GGT o_ (by rfl) (by rfl) v_ (by rfl) vg_ ?_
    refine dR_GGT o_ (by rfl) (by rfl) v_ (by rfl) vg_ ?_
    refine dR_GGT o_ (by rfl) (by rfl) v_ (by rfl) vg_ ?_
    refine dR_GGT o_ (by rfl) (by rfl) v_ (by rfl) vg_ ?_
    refine dR_GF o_ (by rfl) (by rfl) v_ (by rfl) vg_ ?_
    iterate 2 (refine dR_S o_ (by rfl) (by rfl) v_ ?_)
    refine dR_GF o_ (by rfl) (by rfl) v_ (by rfl) vg_ ?_
    refine dR_GF o_ (by rfl) (by rfl) v_ (by rfl) vg_ ?_
    refine dR_GF o_ (by rfl) (by rfl) v_ (by rfl) vg_ ?_
    refine dR_GF o_ (by rfl) (by rfl) v_ (by rfl) vg_ ?_
    refine dR_GF o_ (by rfl) (by rfl) v_ (by rfl) vg_ ?_
    refine dR_GF o_ (by rfl) (by rfl) v_ (by rfl) vg_ ?_
    (refine dR_S o_ (by rfl) (by rfl) v_ ?_)
    refine dR_nil ?_
    refine awp_cond v_ (fun hc6 => ?_) (fun hc6 => ?_)
    · replace hc6 := nm_ hc6
      have hno := may_not hc6
      refine awp_seq ?_
      refine awp_region (by kernel_rfl) ?_
      (refine aL_S rfl rfl v_ ?_)
      refine aL_nil ?_
      refine awp_ret ?_
      refine aEnd_ret (σ' := σ) v_ sub_ ?_
      refine ⟨?_, rfl⟩
      have : ctxOk c = false := by
        rw [← hr, hst]
        rcases hno with (h | h) | h
        · rw [h]; rfl
        · exact ctx_no (hah _) (.inl (.inr h))
        · exact ctx_no (hah _) (.inr h)
      rw [this]
    · replace hc6 := nm_ hc6
      have hyes := may_hd hc6
      refine awp_skip ?_
      refine awp_seq ?_
      refine awp_region (by kernel_rfl) ?_
      iterate 6 (refine aL_S rfl rfl v_ ?_)
      refine aL_nil ?_
      refine awp_seq ?_
      refine awp_region (by kernel_rfl) ?_
      iterate 4 (refine aL_S rfl rfl v_ ?_)
      refine aL_nil ?_
      refine awp_seq ?_
      refine awp_region (by kernel_rfl) ?_
      (refine aL_S rfl rfl v_ ?_)
      refine aL_nil ?_
      refine awp_block ?_
      refine awp_loop_env (ι := Nat × Int) (fun ⟨j, z⟩ => x.more.length - j) (fun ⟨j, z⟩ => j ≤ x.more.length ∧ riseOk z (x.more.drop j) = riseOk (x.base + 1) x.more) (fun ⟨j, z⟩ => [(0, .sl 3 (c.map sSeen) t), (3, vInt (n + x.more.length)), (4, vInt k), (5, .ref o5 0), (6, vInt z), (7, vInt j)]) (fun ⟨j, z⟩ => (σ.set o5 (.cells (sSeen x).cells))) (0, x.base + 1) ?_ ?_ ?_ ?_
      · exact ⟨Nat.zero_le _, rfl⟩
      · exact cv_
      · rw [Store.set_set]; exact Store.Wk.refl _
      rintro ⟨j, z⟩ ⟨hj, hz⟩
      simp only [envL_cons, envL_nil]
      refine awp_seq ?_
      refine awp_seq ?_
      refine awp_region (by kernel_rfl) ?_
      iterate 5 (refine aL_S rfl rfl v_ ?_)
      refine aL_nil ?_
      refine awp_cond v_ (fun hc11 => ?_) (fun hc11 => ?_)
      · replace hc11 := nm_ hc11
        refine awp_skip ?_
        refine awp_seq ?_
        refine awp_block ?_
        refine awp_seq ?_
        refine awp_seq ?_
        obtain ⟨m, hm⟩ := get_some (l := x.more) (k := j) (by omega)
        have hrn : riseOk z (x.more.drop j) = (decide (z < m) && decide (m ≤ 9007199254740992) && riseOk m (x.more.drop (j + 1))) := by rw [drop_cons hm]; rfl
        have R := hm
        refine awp_region (by kernel_rfl) ?_
        iterate 8 (refine aL_S rfl rfl v_ ?_)
        refine aL_GF rfl rfl v_ rfl vg_ ?_
        refine aL_GF rfl rfl v_ rfl vg_ ?_
        refine aL_GF rfl rfl v_ rfl vg_ ?_
        refine aL_GF rfl rfl v_ rfl vg_ ?_
        refine aL_GF rfl rfl v_ rfl vg_ ?_
        refine aL_GF rfl rfl v_ rfl vg_ ?_
        (refine aL_S rfl rfl v_ ?_)
        refine aL_nil ?_
        refine awp_cond v_ (fun hc13 => ?_) (fun hc13 => ?_)
        · replace hc13 := nm_ hc13
          refine awp_seq ?_
          refine awp_region (by kernel_rfl) ?_
          (refine aL_S rfl rfl v_ ?_)
          refine aL_nil ?_
          refine awp_ret ?_
          refine aEnd_ret (σ' := σ) v_ sub_ ?_
          refine ⟨?_, rfl⟩
          have : riseOk (x.base + 1) x.more = false := by
            rw [← hz, hrn]
            rcases hc13 with h | h
            · rw [decide_eq_false (show ¬ z < m by omega)]; simp
            · rw [decide_eq_false (show ¬ m ≤ 9007199254740992 by omega)]; simp
          rw [← hr, hst, this]; simp
        · replace hc13 := nm_ hc13
          refine awp_skip ?_
          have R := hm
          refine awp_region (by kernel_rfl) ?_
          iterate 6 (refine aL_S rfl rfl v_ ?_)
          refine aL_nil ?_
          refine awp_region (by kernel_rfl) ?_
          iterate 3 (refine aL_S rfl rfl v_ ?_)
          refine aL_nil ?_
          refine aNext (ι := Nat × Int) (i := ⟨j, z⟩) (j + 1, m) ?_ ?_ ?_ ?_
          · show x.more.length - (j + 1) < x.more.length - j; omega
          · exact ⟨by show j + 1 ≤ x.more.length; omega, by rw [← hz, hrn, decide_eq_true (show z < m by omega), decide_eq_true (show m ≤ 9007199254740992 by omega)]; rfl⟩
          · exact cv_
          · exact Store.Wk.refl _
      · replace hc11 := nm_ hc11
        refine awp_exit ?_
        refine aThen_exit ?_
        refine aThen_exit ?_
        refine aBlock_hit ?_
        have hrise : riseOk (x.base + 1) x.more = true := by rw [← hz, List.drop_eq_nil_of_le (by omega)]; rfl
        have hnx : ctxGo (pvOf c (k + 1)) (4096 - (n + x.more.length)) (c.drop (k + 1)) = ctxOk c := by
          rw [pv_next hxk, ← hr, hst, hrise, hyes.1, Bool.true_and, ctx_yes (hah _) ⟨⟨rfl, hyes.2.1⟩, hyes.2.2⟩]
          congr 1; omega
        have hrm2 : n + (x.more.length : Int) ≤ 4096 ∧ 0 ≤ n + (x.more.length : Int) := by omega
        refine awp_region (by kernel_rfl) ?_
        iterate 3 (refine aL_S rfl rfl v_ ?_)
        refine aL_nil ?_
        refine aNext (ι := Nat × Int) (i := ⟨k, n⟩) (k + 1, n + x.more.length) ?_ ?_ ?_ ?_
        · show c.length - (k + 1) < c.length - k; omega
        · exact ⟨by show k + 1 ≤ c.length; omega, hnx, hrm2⟩
        · exact cv_
        · exact sub_
  · replace hc3 := nm_ hc3
    refine awp_exit ?_
    refine aThen_exit ?_
    refine aThen_exit ?_
    refine aBlock_hit ?_
    refine awp_seq ?_
    refine awp_region (by kernel_rfl) ?_
    (refine aL_S rfl rfl v_ ?_)
    refine aL_nil ?_
    refine awp_ret ?_
    refine aEnd_ret (σ' := σ) v_ sub_ ?_
    refine ⟨?_, rfl⟩
    rw [← hr, List.drop_eq_nil_of_le (by omega)]; rfl
end Go.Proofs.YtbomkkjhafdhiaaGreat
end
