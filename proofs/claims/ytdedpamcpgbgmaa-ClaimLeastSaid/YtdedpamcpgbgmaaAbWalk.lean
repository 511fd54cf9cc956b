/-
  WALKING RULES: guarded steps of which it is not said whether they run; joins and loops by lists of what lives; values of structs compared. Own work (an AI agent).
-/
import Derived.Test.YtdedpamcpgbgmaaAbUse
set_option linter.all false
namespace Go.Ab

/-- what a guarded operation leaves -/
def gval (b : Bool) (a : AVal) : AVal := bif b then a else .lit undef
@[go_sem] theorem gval_true (a : AVal) : gval true a = a := rfl
@[go_sem] theorem gval_false (a : AVal) : gval false a = .lit undef := rfl
@[go_sem] theorem apick_and (b x y : Bool) : apick b (gval b (.lit (.bool x))) (.lit (.bool y)) = .lit (.bool (bif b then x else y)) := by cases b <;> rfl
@[go_sem] theorem apick_or (b x y : Bool) : apick b (.lit (.bool x)) (gval (!b) (.lit (.bool y))) = .lit (.bool (bif b then x else y)) := by cases b <;> rfl
@[go_sem] theorem cond_and (b x : Bool) : (bif b then x else false) = (b && x) := by cases b <;> rfl
@[go_sem] theorem cond_or (b x : Bool) : (bif b then true else x) = (b || x) := by cases b <;> rfl

theorem wantedA_is {ops : Array Oper} {o : Oper} {e : Env} {j d : Nat} {w b : Bool} (hg : o.guard = some (j, w)) (hd : (ops[j]?).bind (·.dst) = some d) (he : e d = .lit (.bool b)) : wantedA ops o e = some (b == w) := by
  unfold wantedA
  simp only [hg, hd, he]

@[go_sem] theorem gval_gval (b c : Bool) (a : AVal) : gval b (gval c a) = gval (b && c) a := by cases b <;> rfl
theorem wantedA_gg {ops : Array Oper} {o : Oper} {e : Env} {j d : Nat} {w b c : Bool} (hg : o.guard = some (j, w)) (hd : (ops[j]?).bind (·.dst) = some d) (he : e d = gval b (.lit (.bool c))) : wantedA ops o e = some (b && (c == w)) := by
  cases b with
  | true => rw [wantedA_is hg hd he]; rfl
  | false =>
    unfold wantedA
    simp only [hg, hd, he]
    rfl

theorem wantedA_not {ops : Array Oper} {o : Oper} {e : Env} {j d : Nat} {w : Bool} {x : AVal} (hg : o.guard = some (j, w)) (hd : (ops[j]?).bind (·.dst) = some d) (he : e d = x) (hx : x = .lit (.bool (!w))) : wantedA ops o e = some false := by
  subst hx
  rw [wantedA_is hg hd he]
  cases w <;> rfl

theorem wantedA_no {ops : Array Oper} {o : Oper} {e : Env} {j d : Nat} {w : Bool} {x : AVal} (hg : o.guard = some (j, w)) (hd : (ops[j]?).bind (·.dst) = some d) (he : e d = x) (hx : x = .lit undef) : wantedA ops o e = some false := by
  subst hx
  unfold wantedA
  simp only [hg, hd, he]
  rfl

theorem wantedA_yes {ops : Array Oper} {o : Oper} {e : Env} {j d : Nat} {w : Bool} {x : AVal} (hg : o.guard = some (j, w)) (hd : (ops[j]?).bind (·.dst) = some d) (he : e d = x) (hx : x = .lit (.bool w)) : wantedA ops o e = some true := by
  subst hx
  rw [wantedA_is hg hd he]
  cases w <;> rfl

section
variable {P : Program} {ops : Array Oper} {Kk : Env → Store → Prop} {o : Oper} {rest : List Oper} {e : Env} {σ : Store}

/-- a guarded one that says yes -/
theorem aL_SY {d : Nat} {a : AVal} (hw : wantedA ops o e = some true) (hd : o.dst = some d) (ha : aval P o.op (aev e) σ = some a) (h : aList P ops Kk rest (upd e d a) σ) : aList P ops Kk (o :: rest) e σ := by
  unfold aList aStep
  rw [hw, hd]; exact AOp_val ha h

/-- an operation that runs just if 'b' -/
theorem aL_GT {d j dj : Nat} {a : AVal} {b : Bool} (hg : o.guard = some (j, true)) (hj : (ops[j]?).bind (·.dst) = some dj) (he : e dj = .lit (.bool b)) (hd : o.dst = some d) (ha : b = true → aval P o.op (aev e) σ = some a)
    (h : aList P ops Kk rest (upd e d (gval b a)) σ) : aList P ops Kk (o :: rest) e σ := by
  unfold aList aStep
  rw [wantedA_is hg hj he, hd]
  cases b with
  | true => exact AOp_val (ha rfl) h
  | false => exact h

theorem aL_GF {d j dj : Nat} {a : AVal} {b : Bool} (hg : o.guard = some (j, false)) (hj : (ops[j]?).bind (·.dst) = some dj) (he : e dj = .lit (.bool b)) (hd : o.dst = some d) (ha : (!b) = true → aval P o.op (aev e) σ = some a)
    (h : aList P ops Kk rest (upd e d (gval (!b) a)) σ) : aList P ops Kk (o :: rest) e σ := by
  unfold aList aStep
  rw [wantedA_is hg hj he, hd]
  cases b with
  | true => exact h
  | false => exact AOp_val (ha rfl) h

/-- a guard that is guarded itself -/
theorem aL_GGT {d j dj : Nat} {a : AVal} {b c : Bool} (hg : o.guard = some (j, true)) (hj : (ops[j]?).bind (·.dst) = some dj) (he : e dj = gval b (.lit (.bool c))) (hd : o.dst = some d) (ha : (b && c) = true → aval P o.op (aev e) σ = some a)
    (h : aList P ops Kk rest (upd e d (gval (b && c) a)) σ) : aList P ops Kk (o :: rest) e σ := by
  unfold aList aStep
  rw [wantedA_gg hg hj he, hd]
  have e1 : (b && (c == true)) = (b && c) := by cases b <;> cases c <;> rfl
  rw [e1]
  cases hbc : (b && c) with
  | true => rw [hbc] at h; exact AOp_val (ha hbc) h
  | false => rw [hbc] at h; exact h
theorem aL_GGF {d j dj : Nat} {a : AVal} {b c : Bool} (hg : o.guard = some (j, false)) (hj : (ops[j]?).bind (·.dst) = some dj) (he : e dj = gval b (.lit (.bool c))) (hd : o.dst = some d) (ha : (b && !c) = true → aval P o.op (aev e) σ = some a)
    (h : aList P ops Kk rest (upd e d (gval (b && !c) a)) σ) : aList P ops Kk (o :: rest) e σ := by
  unfold aList aStep
  rw [wantedA_gg hg hj he, hd]
  have e1 : (b && (c == false)) = (b && !c) := by cases b <;> cases c <;> rfl
  rw [e1]
  cases hbc : (b && !c) with
  | true => rw [hbc] at h; exact AOp_val (ha hbc) h
  | false => rw [hbc] at h; exact h
theorem aL_GGTX {d j dj : Nat} {a : AVal} {b c : Bool} (hg : o.guard = some (j, true)) (hj : (ops[j]?).bind (·.dst) = some dj) (he : e dj = gval b (.lit (.bool c))) (hd : o.dst = some d) (hx : (b && c) = true → AOp P o (aev e) σ fun v σ' => v = a ∧ σ = σ')
    (h : aList P ops Kk rest (upd e d (gval (b && c) a)) σ) : aList P ops Kk (o :: rest) e σ := by
  unfold aList aStep
  rw [wantedA_gg hg hj he, hd]
  have e1 : (b && (c == true)) = (b && c) := by cases b <;> cases c <;> rfl
  rw [e1]
  cases hbc : (b && c) with
  | true => rw [hbc] at h; exact (hx hbc).mono fun v σ' ⟨h1, h2⟩ => by subst h1; subst h2; exact h
  | false => rw [hbc] at h; exact h
theorem aL_GGFX {d j dj : Nat} {a : AVal} {b c : Bool} (hg : o.guard = some (j, false)) (hj : (ops[j]?).bind (·.dst) = some dj) (he : e dj = gval b (.lit (.bool c))) (hd : o.dst = some d) (hx : (b && !c) = true → AOp P o (aev e) σ fun v σ' => v = a ∧ σ = σ')
    (h : aList P ops Kk rest (upd e d (gval (b && !c) a)) σ) : aList P ops Kk (o :: rest) e σ := by
  unfold aList aStep
  rw [wantedA_gg hg hj he, hd]
  have e1 : (b && (c == false)) = (b && !c) := by cases b <;> cases c <;> rfl
  rw [e1]
  cases hbc : (b && !c) with
  | true => rw [hbc] at h; exact (hx hbc).mono fun v σ' ⟨h1, h2⟩ => by subst h1; subst h2; exact h
  | false => rw [hbc] at h; exact h

/-- a guarded one that says no -/
theorem aL_SN {d : Nat} (hw : wantedA ops o e = some false) (hd : o.dst = some d) (h : aList P ops Kk rest (upd e d (.lit undef)) σ) : aList P ops Kk (o :: rest) e σ := by
  unfold aList aStep
  rw [hw, hd]; exact h

theorem aL_SN0 (hw : wantedA ops o e = some false) (hd : o.dst = none) (h : aList P ops Kk rest e σ) : aList P ops Kk (o :: rest) e σ := by
  unfold aList aStep
  rw [hw, hd]; exact h

/-- a guarded one that says yes -/
theorem aL_XY {d : Nat} (hw : wantedA ops o e = some true) (hd : o.dst = some d) (h : AOp P o (aev e) σ fun a σ' => aList P ops Kk rest (upd e d a) σ') : aList P ops Kk (o :: rest) e σ := by
  unfold aList aStep
  rw [hw, hd]; exact h

/-- a call that runs just if 'b', and leaves the store as it was -/
theorem aL_GTX {d j dj : Nat} {a : AVal} {b : Bool} (hg : o.guard = some (j, true)) (hj : (ops[j]?).bind (·.dst) = some dj) (he : e dj = .lit (.bool b)) (hd : o.dst = some d) (hx : b = true → AOp P o (aev e) σ fun v σ' => v = a ∧ σ = σ')
    (h : aList P ops Kk rest (upd e d (gval b a)) σ) : aList P ops Kk (o :: rest) e σ := by
  unfold aList aStep
  rw [wantedA_is hg hj he, hd]
  cases b with
  | true => exact (hx rfl).mono fun v σ' ⟨h1, h2⟩ => by subst h1; subst h2; exact h
  | false => exact h

theorem aL_GFX {d j dj : Nat} {a : AVal} {b : Bool} (hg : o.guard = some (j, false)) (hj : (ops[j]?).bind (·.dst) = some dj) (he : e dj = .lit (.bool b)) (hd : o.dst = some d) (hx : (!b) = true → AOp P o (aev e) σ fun v σ' => v = a ∧ σ = σ')
    (h : aList P ops Kk rest (upd e d (gval (!b) a)) σ) : aList P ops Kk (o :: rest) e σ := by
  unfold aList aStep
  rw [wantedA_is hg hj he, hd]
  cases b with
  | true => exact h
  | false => exact (hx rfl).mono fun v σ' ⟨h1, h2⟩ => by subst h1; subst h2; exact h

end

section
variable {P : Program} {ops : Array Oper} {s0 : Store} {Kk : Env → Store → Prop} {o : Oper} {i : Nat} {r : DT} {e : Env} {σ : Store}

theorem dR_GT {d j dj : Nat} {a : AVal} {b : Bool} (ho : ops[i]? = some o) (hg : o.guard = some (j, true)) (hj : (ops[j]?).bind (·.dst) = some dj) (he : e dj = .lit (.bool b)) (hd : o.dst = some d) (ha : b = true → aval P o.op (aev e) s0 = some a)
    (h : dRun P ops s0 Kk r (upd e d (gval b a)) σ) : dRun P ops s0 Kk (.op i 0 r) e σ := by
  have hw := wantedA_is hg hj he
  cases b with
  | true => exact dR_SY ho hd hw (ha rfl) h
  | false => exact dR_SN ho hd hw h

theorem dR_GF {d j dj : Nat} {a : AVal} {b : Bool} (ho : ops[i]? = some o) (hg : o.guard = some (j, false)) (hj : (ops[j]?).bind (·.dst) = some dj) (he : e dj = .lit (.bool b)) (hd : o.dst = some d) (ha : (!b) = true → aval P o.op (aev e) s0 = some a)
    (h : dRun P ops s0 Kk r (upd e d (gval (!b) a)) σ) : dRun P ops s0 Kk (.op i 0 r) e σ := by
  have hw := wantedA_is hg hj he
  cases b with
  | true => exact dR_SN ho hd hw h
  | false => exact dR_SY ho hd hw (ha rfl) h

theorem dR_GTX {d j dj : Nat} {a : AVal} {b : Bool} (ho : ops[i]? = some o) (hg : o.guard = some (j, true)) (hj : (ops[j]?).bind (·.dst) = some dj) (he : e dj = .lit (.bool b)) (hd : o.dst = some d) (hs : s0.Sub σ) (hx : b = true → AOp P o (aev e) σ fun v σ' => v = a ∧ σ = σ')
    (h : dRun P ops s0 Kk r (upd e d (gval b a)) σ) : dRun P ops s0 Kk (.op i 1 r) e σ := by
  have hw := wantedA_is hg hj he
  cases b with
  | true => exact dR_X ho hd hw ((hx rfl).mono fun v σ' ⟨h1, h2⟩ => by subst h1; subst h2; exact ⟨hs, h⟩)
  | false => exact dR_XN ho hd hw hs h

theorem dR_GFX {d j dj : Nat} {a : AVal} {b : Bool} (ho : ops[i]? = some o) (hg : o.guard = some (j, false)) (hj : (ops[j]?).bind (·.dst) = some dj) (he : e dj = .lit (.bool b)) (hd : o.dst = some d) (hs : s0.Sub σ) (hx : (!b) = true → AOp P o (aev e) σ fun v σ' => v = a ∧ σ = σ')
    (h : dRun P ops s0 Kk r (upd e d (gval (!b) a)) σ) : dRun P ops s0 Kk (.op i 1 r) e σ := by
  have hw := wantedA_is hg hj he
  cases b with
  | true => exact dR_XN ho hd hw hs h
  | false => exact dR_X ho hd hw ((hx rfl).mono fun v σ' ⟨h1, h2⟩ => by subst h1; subst h2; exact ⟨hs, h⟩)

end

section
variable {P : Program} {ops : Array Oper} {s0 : Store} {Kk : Env → Store → Prop} {o : Oper} {i : Nat} {r : DT} {e : Env} {σ : Store}
theorem dR_GGT {d j dj : Nat} {a : AVal} {b c : Bool} (ho : ops[i]? = some o) (hg : o.guard = some (j, true)) (hj : (ops[j]?).bind (·.dst) = some dj) (he : e dj = gval b (.lit (.bool c))) (hd : o.dst = some d) (ha : (b && c) = true → aval P o.op (aev e) s0 = some a)
    (h : dRun P ops s0 Kk r (upd e d (gval (b && c) a)) σ) : dRun P ops s0 Kk (.op i 0 r) e σ := by
  have hw := wantedA_gg hg hj he
  have e1 : (b && (c == true)) = (b && c) := by cases b <;> cases c <;> rfl
  rw [e1] at hw
  cases hbc : (b && c) with
  | true => rw [hbc] at h hw; exact dR_SY ho hd hw (ha hbc) h
  | false => rw [hbc] at h hw; exact dR_SN ho hd hw h
theorem dR_GGF {d j dj : Nat} {a : AVal} {b c : Bool} (ho : ops[i]? = some o) (hg : o.guard = some (j, false)) (hj : (ops[j]?).bind (·.dst) = some dj) (he : e dj = gval b (.lit (.bool c))) (hd : o.dst = some d) (ha : (b && !c) = true → aval P o.op (aev e) s0 = some a)
    (h : dRun P ops s0 Kk r (upd e d (gval (b && !c) a)) σ) : dRun P ops s0 Kk (.op i 0 r) e σ := by
  have hw := wantedA_gg hg hj he
  have e1 : (b && (c == false)) = (b && !c) := by cases b <;> cases c <;> rfl
  rw [e1] at hw
  cases hbc : (b && !c) with
  | true => rw [hbc] at h hw; exact dR_SY ho hd hw (ha hbc) h
  | false => rw [hbc] at h hw; exact dR_SN ho hd hw h
theorem dR_GGTX {d j dj : Nat} {a : AVal} {b c : Bool} (ho : ops[i]? = some o) (hg : o.guard = some (j, true)) (hj : (ops[j]?).bind (·.dst) = some dj) (he : e dj = gval b (.lit (.bool c))) (hd : o.dst = some d) (hs : s0.Sub σ) (hx : (b && c) = true → AOp P o (aev e) σ fun v σ' => v = a ∧ σ = σ')
    (h : dRun P ops s0 Kk r (upd e d (gval (b && c) a)) σ) : dRun P ops s0 Kk (.op i 1 r) e σ := by
  have hw := wantedA_gg hg hj he
  have e1 : (b && (c == true)) = (b && c) := by cases b <;> cases c <;> rfl
  rw [e1] at hw
  cases hbc : (b && c) with
  | true => rw [hbc] at h hw; exact dR_X ho hd hw ((hx hbc).mono fun v σ' ⟨h1, h2⟩ => by subst h1; subst h2; exact ⟨hs, h⟩)
  | false => rw [hbc] at h hw; exact dR_XN ho hd hw hs h
theorem dR_GGFX {d j dj : Nat} {a : AVal} {b c : Bool} (ho : ops[i]? = some o) (hg : o.guard = some (j, false)) (hj : (ops[j]?).bind (·.dst) = some dj) (he : e dj = gval b (.lit (.bool c))) (hd : o.dst = some d) (hs : s0.Sub σ) (hx : (b && !c) = true → AOp P o (aev e) σ fun v σ' => v = a ∧ σ = σ')
    (h : dRun P ops s0 Kk r (upd e d (gval (b && !c) a)) σ) : dRun P ops s0 Kk (.op i 1 r) e σ := by
  have hw := wantedA_gg hg hj he
  have e1 : (b && (c == false)) = (b && !c) := by cases b <;> cases c <;> rfl
  rw [e1] at hw
  cases hbc : (b && !c) with
  | true => rw [hbc] at h hw; exact dR_X ho hd hw ((hx hbc).mono fun v σ' ⟨h1, h2⟩ => by subst h1; subst h2; exact ⟨hs, h⟩)
  | false => rw [hbc] at h hw; exact dR_XN ho hd hw hs h
end

/-- a contract that leaves the store as it was, at a call of which just the value is asked -/
theorem AOp_useV {P : Program} {o : Oper} {α : Operand → AVal} {σ : Store} {a : AVal} {c : Call} {f : Operand} {g : FuncId} {first captured args : List AVal} (ho : o.op = .call c) (hc : c.callee = .value f)
    (hf : α f = .fn (.func g) first captured ∨ (α f = .lit (.func (.func g) #[] #[]) ∧ first = [] ∧ captured = [])) (hg : isGo P g = true)
    (hargs : first ++ c.args.toList.map α ++ captured = args) (hcon : ACalls P g args σ (fun v σ' => v = a ∧ σ = σ')) : AOp P o α σ fun v σ' => v = a ∧ σ = σ' :=
  AOp_use ho hc hf hg hargs hcon fun _ _ h => h

/-! ### what lives -/

def envL : List (Nat × AVal) → Env
  | [] => emp
  | (k, a) :: l => upd (envL l) k a

@[go_sem] theorem envL_nil : envL [] = emp := rfl
@[go_sem] theorem envL_cons (k : Nat) (a : AVal) (l : List (Nat × AVal)) : envL ((k, a) :: l) = upd (envL l) k a := rfl

def covers (e : Env) : List (Nat × AVal) → Prop
  | [] => True
  | (k, a) :: l => Wk (e k) a ∧ covers e l

theorem covers.nil {e : Env} : covers e [] := trivial
theorem covers.eq {e : Env} {k : Nat} {a : AVal} {l : List (Nat × AVal)} (h : e k = a) (hl : covers e l) : covers e ((k, a) :: l) := ⟨by rw [h]; exact .refl _, hl⟩
theorem covers.wk {e : Env} {k : Nat} {a b : AVal} {l : List (Nat × AVal)} (h : e k = b) (hw : Wk b a) (hl : covers e l) : covers e ((k, a) :: l) := ⟨by rw [h]; exact hw, hl⟩

theorem covers.all {e : Env} : ∀ {l : List (Nat × AVal)}, covers e l → ∀ k, Wk (e k) (envL l k)
  | [], _, k => .any _
  | (j, a) :: l, h, k => by
    simp only [envL, upd]
    by_cases hk : k = j
    · subst hk; rw [if_pos rfl]; exact h.1
    · rw [if_neg hk]; exact h.2.all k

/-- some cells, off which the rest may hang -/
theorem awp_seq_mid {P : Program} {n : Nat} {x y : Code} {Q : Exit → Env → Store → Prop} {e : Env} {σ : Store} {ι : Type} (I : ι → Prop) (E : ι → List (Nat × AVal)) (S : ι → Store)
    (h1 : awp P n x (aThen (fun e' σ' => ∃ i, I i ∧ covers e' (E i) ∧ (S i).Wk σ') Q) e σ) (h2 : ∀ i, I i → awp P n y Q (envL (E i)) (S i)) : awp P n (.seq x y) Q e σ :=
  awp_seq (h1.mono fun ex e' σ' hq => by
    cases ex with
    | normal => obtain ⟨i, hi, hc, hs⟩ := hq; exact (h2 i hi).wk hc.all hs
    | _ => exact hq)

/-- A loop, by what lives at its head, and a number that goes down. -/
theorem awp_loop_env {P : Program} {n : Nat} {c : Code} {Q : Exit → Env → Store → Prop} {e : Env} {σ : Store} {ι : Type} (μ : ι → Nat) (I : ι → Prop) (E : ι → List (Nat × AVal)) (S : ι → Store) (i0 : ι)
    (hI : I i0) (hc : covers e (E i0)) (hs : (S i0).Wk σ)
    (round : ∀ i, I i → awp P n c (aThen (fun e' σ' => ∃ i', μ i' < μ i ∧ I i' ∧ covers e' (E i') ∧ (S i').Wk σ') Q) (envL (E i)) (S i)) : awp P n (.loop c) Q e σ :=
  awp_loop (fun m e σ => ∃ i, μ i = m ∧ I i ∧ covers e (E i) ∧ (S i).Wk σ) (m := μ i0) ⟨i0, rfl, hI, hc, hs⟩ fun m e σ ⟨i, hm, hi, hc, hs⟩ =>
    ((round i hi).wk hc.all hs).mono fun ex e' σ' hq => by
      cases ex with
      | normal => obtain ⟨i', hlt, h1, h2, h3⟩ := hq; exact ⟨μ i', by omega, i', rfl, h1, h2, h3⟩
      | _ => exact hq

/-- what a round leaves for the next one -/
theorem aNext {ι : Type} {μ : ι → Nat} {I : ι → Prop} {E : ι → List (Nat × AVal)} {S : ι → Store} {i : ι} {e : Env} {σ : Store} (i' : ι) (h1 : μ i' < μ i) (h2 : I i') (h3 : covers e (E i')) (h4 : (S i').Wk σ) :
    ∃ i', μ i' < μ i ∧ I i' ∧ covers e (E i') ∧ (S i').Wk σ := ⟨i', h1, h2, h3, h4⟩

theorem aThen_exit {K : Env → Store → Prop} {Q : Exit → Env → Store → Prop} {i : Nat} {e : Env} {σ : Store} (h : Q (.exit i) e σ) : aThen K Q (.exit i) e σ := h
theorem aBlock_hit {Q : Exit → Env → Store → Prop} {i : Nat} {e : Env} {σ : Store} (h : Q .normal e σ) : aBlock i Q (.exit i) e σ := by simpa [aBlock] using h
theorem aBlock_miss {Q : Exit → Env → Store → Prop} {i j : Nat} {e : Env} {σ : Store} (hj : j ≠ i) (h : Q (.exit j) e σ) : aBlock i Q (.exit j) e σ := by simpa [aBlock, hj] using h

theorem none_set_iff {σ : Store} {o j : Nat} {x : AObj} : (σ.set o x).heap j = none ↔ j ≠ o ∧ σ.heap j = none := ⟨none_set, fun ⟨h1, h2⟩ => by rw [Store.set_ne _ _ h1]; exact h2⟩

/-! ### fewer things known -/

def SubX (l : List Nat) (σ τ : Store) : Prop := (∀ i x, i ∉ l → σ.heap i = some x → τ.heap i = some x) ∧ ∀ t n, σ.tok t = some n → τ.tok t = some n
theorem subx_start {σ τ : Store} (h : SubX [] σ τ) : σ.Wk τ := Store.Sub.wk ⟨fun i x hx => h.1 i x (by simp) hx, h.2⟩
theorem subx_startS {σ τ : Store} (h : SubX [] σ τ) : σ.Sub τ := ⟨fun i x hx => h.1 i x (by simp) hx, h.2⟩

/-- an object's cells, less of them said -/
def WkL : List AVal → List AVal → Prop
  | [], [] => True
  | a :: l, b :: l' => Wk a b ∧ WkL l l'
  | _, _ => False
theorem WkL.at_ : ∀ {l l' : List AVal}, WkL l l' → l.length = l'.length ∧ ∀ i (hi : i < l.length) (hj : i < l'.length), Wk l[i] l'[i]
  | [], [], _ => ⟨rfl, fun i hi => by simp at hi⟩
  | a :: l, b :: l', h => by
    obtain ⟨h1, h2⟩ := WkL.at_ h.2
    refine ⟨by simp [h1], fun i hi hj => ?_⟩
    cases i with
    | zero => exact h.1
    | succ i => exact h2 i (by simpa using hi) (by simpa using hj)
  | [], _ :: _, h => h.elim
  | _ :: _, [], h => h.elim
theorem Store.wkCells {τ : Store} {o : Nat} {cs cs' : List AVal} (ho : τ.heap o = some (.cells cs)) (h : WkL cs cs') : (τ.set o (.cells cs')).Wk τ := by
  intro κ hI
  obtain ⟨hl, hw⟩ := h.at_
  obtain ⟨b, hb, hbase, hIb, c, el, hh, hn, hv⟩ := hI.heap o _ ho
  exact hI.step (κ' := κ) (.refl κ) rfl rfl hI.frO b hbase hIb (fun _ _ _ => rfl) o (.cells cs') (fun _ _ => rfl) hb ⟨c, el, hh, by omega, fun i hi => (hv i (by omega)).wk (hw i (by omega) hi)⟩
    (fun o' x hx hne hh => hne (hI.inj o' o x _ b hx ho hh hb))
    (fun t sz v ht hv hh => hI.tokobj t sz v b o _ ht hv hh ho hb)

theorem Store.Wk.refl' {σ τ : Store} (h : σ = τ) : σ.Wk τ := h ▸ Store.Wk.refl σ
theorem Store.wkTake {τ : Store} {o n : Nat} {cs : List AVal} (ho : τ.heap o = some (.cells cs)) : (τ.set o (.cells (cs.take n))).Wk τ := by
  intro κ hI
  obtain ⟨b, hb, hbase, hIb, c, el, hh, hn, hv⟩ := hI.heap o _ ho
  exact hI.step (κ' := κ) (.refl κ) rfl rfl hI.frO b hbase hIb (fun _ _ _ => rfl) o (.cells (cs.take n)) (fun _ _ => rfl) hb ⟨c, el, hh, by simp; omega, fun i hi => by
      rw [List.length_take] at hi
      rw [List.getElem_take]
      exact hv i (by omega)⟩
    (fun o' x hx hne hh => hne (hI.inj o' o x _ b hx ho hh hb))
    (fun t sz v ht hv hh => hI.tokobj t sz v b o _ ht hv hh ho hb)

theorem awp_wkCells {P : Program} {n : Nat} {c : Code} {Q : Exit → Env → Store → Prop} {e : Env} {σ : Store} (o : Nat) {cs : List AVal} (cs' : List AVal) (ho : σ.heap o = some (.cells cs)) (h : WkL cs cs') (hk : awp P n c Q e (σ.set o (.cells cs'))) : awp P n c Q e σ :=
  hk.wk (fun k => .refl _) (Store.wkCells ho h)

theorem subx_refl {l : List Nat} {σ : Store} : SubX l σ σ := ⟨fun _ _ _ h => h, fun _ _ h => h⟩
theorem subx_left {l : List Nat} {σ τ : Store} {o : Nat} {x : AObj} (hx : τ.heap o = some x) (h : SubX (o :: l) σ τ) : SubX l (σ.set o x) τ := ⟨fun i y hi hy => by
  by_cases ho : i = o
  · subst ho; rw [Store.set_get] at hy; rw [hx]; exact hy
  · rw [Store.set_ne _ _ ho] at hy; exact h.1 i y (by simp [ho, hi]) hy, h.2⟩
theorem subx_skip {l : List Nat} {σ τ : Store} {o : Nat} {x : AObj} (ho : o ∈ l) (h : SubX l σ τ) : SubX l (σ.set o x) τ := ⟨fun i y hi hy => by
  by_cases hio : i = o
  · subst hio; exact absurd ho hi
  · rw [Store.set_ne _ _ hio] at hy; exact h.1 i y hi hy, h.2⟩
theorem subx_in {l : List Nat} {σ τ : Store} {o : Nat} {x : AObj} (ho : o ∈ l) (h : SubX l σ τ) : SubX l σ (τ.set o x) := ⟨fun i y hi hy => by
  by_cases hio : i = o
  · subst hio; exact absurd ho hi
  · rw [Store.set_ne _ _ hio]; exact h.1 i y hi hy, h.2⟩
theorem subx_new {l : List Nat} {σ τ : Store} {o : Nat} {x : AObj} (ho : σ.heap o = none) (h : SubX l σ τ) : SubX l σ (τ.set o x) := ⟨fun i y hi hy => by
  by_cases hio : i = o
  · subst hio; rw [ho] at hy; cases hy
  · rw [Store.set_ne _ _ hio]; exact h.1 i y hi hy, h.2⟩
theorem subx_tok {l : List Nat} {σ τ : Store} {k : Nat} {p : TypeId × Nat} (h : SubX l σ τ) : SubX l (σ.newTok none k p) (τ.newTok none k p) := ⟨h.1, fun t n ht => by
  simp only [Store.newTok] at ht ⊢
  split
  · rename_i hh; rw [if_pos hh] at ht; exact ht
  · rename_i hh; rw [if_neg hh] at ht; simp at ht ⊢; exact h.2 t n ht⟩
theorem subx_newTok {l : List Nat} {σ τ : Store} {k : Nat} {p : TypeId × Nat} (hk : σ.tok k = none) (h : SubX l σ τ) : SubX l σ (τ.newTok none k p) := ⟨h.1, fun t n ht => by
  simp only [Store.newTok]
  split
  · rename_i hh; rw [hh, hk] at ht; cases ht
  · simp; exact h.2 t n ht⟩

/-- from one store to a later one: what is not of the footprint stays, and what is new in the footprint was not there -/
structure Fr (σ : Store) (S : List Nat) (σ' : Store) (S' : List Nat) : Prop where
  sub : SubX S σ σ'
  new : ∀ o ∈ S', o ∈ S ∨ σ.heap o = none
theorem Fr.refl (σ : Store) (S : List Nat) : Fr σ S σ S := ⟨subx_refl, fun o h => .inl h⟩
theorem Fr.trans {σ τ υ : Store} {S T U : List Nat} (h : Fr σ S τ T) (k : Fr τ T υ U) : Fr σ S υ U where
  sub := by
    refine ⟨fun i x hi hx => k.sub.1 i x (fun hT => ?_) (h.sub.1 i x hi hx), fun t n ht => k.sub.2 t n (h.sub.2 t n ht)⟩
    rcases h.new i hT with h1 | h1
    · exact hi h1
    · rw [h1] at hx; cases hx
  new := fun o ho => by
    rcases k.new o ho with h1 | h1
    · exact h.new o h1
    · by_cases hS : o ∈ S
      · exact .inl hS
      · right
        cases hx : σ.heap o with
        | none => rfl
        | some x => rw [h.sub.1 o x hS hx] at h1; cases h1
/-- what stands apart from a footprint, stands apart from what comes of it -/
theorem Fr.apart {σ σ' : Store} {S S' : List Nat} (h : Fr σ S σ' S') {o : Nat} {x : AObj} (ho : σ.heap o = some x) (hS : o ∉ S) : o ∉ S' ∧ σ'.heap o = some x :=
  ⟨fun hh => (h.new o hh).elim hS (fun h1 => absurd (h1.symm.trans ho) (fun h2 => nomatch h2)), h.sub.1 o x hS ho⟩
theorem Fr.set {σ τ : Store} {S T : List Nat} (h : Fr σ S τ T) {o : Nat} {x : AObj} (ho : o ∈ T) : Fr σ S (τ.set o x) T :=
  h.trans ⟨subx_in ho subx_refl, fun o h => .inl h⟩
theorem Fr.setNew {σ τ : Store} {S T : List Nat} (h : Fr σ S τ T) {o : Nat} {x : AObj} (ho : τ.heap o = none) : Fr σ S (τ.set o x) (o :: T) :=
  h.trans ⟨subx_new ho subx_refl, fun i hi => by
    rcases List.mem_cons.1 hi with rfl | hi
    · exact .inr ho
    · exact .inl hi⟩
theorem Fr.del {σ τ : Store} {S T : List Nat} (h : Fr σ S τ T) {o : Nat} (ho : o ∈ T) : Fr σ S (τ.del o) T :=
  h.trans ⟨⟨fun i x hi hx => by rw [Store.del_ne _ (fun hh => hi (by rw [hh]; exact ho))]; exact hx, fun _ _ h => h⟩, fun o h => .inl h⟩
theorem Fr.less {σ τ : Store} {S T U : List Nat} (h : Fr σ S τ T) (hU : ∀ o ∈ U, o ∈ T) : Fr σ S τ U := ⟨h.sub, fun o ho => h.new o (hU o ho)⟩
theorem Fr.from_ {σ τ : Store} {S T U : List Nat} (h : Fr σ S τ T) (hU : ∀ o ∈ S, o ∈ U) : Fr σ U τ T :=
  ⟨⟨fun i x hi hx => h.sub.1 i x (fun hh => hi (hU i hh)) hx, h.sub.2⟩, fun o ho => (h.new o ho).imp (hU o) id⟩
theorem Fr.newTok {σ τ : Store} {S T : List Nat} (h : Fr σ S τ T) {old : Option Nat} {k : Nat} {p : TypeId × Nat} (ho : ∀ j, old = some j → σ.tok j = none) (hk : τ.tok k = none) : Fr σ S (τ.newTok old k p) T :=
  ⟨⟨h.sub.1, fun t n ht => by
    have h1 := h.sub.2 t n ht
    simp only [Store.newTok]
    rw [if_neg (fun hh => by rw [hh, hk] at h1; cases h1), if_neg (fun hh => by rw [ho t hh.symm] at ht; cases ht)]
    exact h1⟩, h.new⟩
theorem Fr.noTok {σ τ : Store} {S T : List Nat} (h : Fr σ S τ T) {k : Nat} (hk : τ.tok k = none) : σ.tok k = none := by
  cases ht : σ.tok k with
  | none => rfl
  | some n => have := h.sub.2 k n ht; rw [hk] at this; cases this
theorem Fr.alloc {σ τ : Store} {S T : List Nat} (h : Fr σ S τ T) {o : Nat} {x : AObj} (ho : τ.heap o = none) : Fr σ S (τ.set o x) T :=
  h.trans ⟨subx_new ho subx_refl, fun o h => .inl h⟩
/-- what was not there at first may be written, and forgotten -/
theorem Fr.setOwn {σ τ : Store} {S T : List Nat} (h : Fr σ S τ T) {o : Nat} {x : AObj} (ho : σ.heap o = none) : Fr σ S (τ.set o x) T :=
  ⟨⟨fun i y hi hy => by rw [Store.set_ne _ _ (fun hh => by rw [hh, ho] at hy; cases hy)]; exact h.sub.1 i y hi hy, h.sub.2⟩, h.new⟩
theorem Fr.delOwn {σ τ : Store} {S T : List Nat} (h : Fr σ S τ T) {o : Nat} (ho : σ.heap o = none) : Fr σ S (τ.del o) T :=
  ⟨⟨fun i y hi hy => by rw [Store.del_ne _ (fun hh => by rw [hh, ho] at hy; cases hy)]; exact h.sub.1 i y hi hy, h.sub.2⟩, h.new⟩
/-- what comes of a footprint that was not there at first -/
theorem Fr.ownOf {σ τ τ' : Store} {S S' : List Nat} (h : Fr σ [] τ []) (k : Fr τ S τ' S') (hS : ∀ o ∈ S, σ.heap o = none) : Fr σ [] τ' [] ∧ ∀ o ∈ S', σ.heap o = none := by
  refine ⟨⟨⟨fun i x _ hx => ?_, fun t n ht => k.sub.2 t n (h.sub.2 t n ht)⟩, fun o ho => by cases ho⟩, fun o ho => ?_⟩
  · exact k.sub.1 i x (fun hh => by rw [hS i hh] at hx; cases hx) (h.sub.1 i x (by simp) hx)
  · rcases k.new o ho with h1 | h1
    · exact hS o h1
    · cases hx : σ.heap o with
      | none => rfl
      | some x => have := h.sub.1 o x (by simp) hx; rw [h1] at this; cases this
/-- what is not there later on was not there at first -/
theorem Fr.noObj {σ τ : Store} {T : List Nat} (h : Fr σ [] τ T) {o : Nat} (ho : τ.heap o = none) : σ.heap o = none := by
  cases hx : σ.heap o with
  | none => rfl
  | some x => have := h.sub.1 o x (by simp) hx; rw [ho] at this; cases this
theorem heap_alloc_keep {σ : Store} {o i : Nat} {x y : AObj} (ho : σ.heap o = none) (hx : σ.heap i = some y) : (σ.set o x).heap i = some y := by
  rw [Store.set_ne _ _ (fun hh => by rw [hh, ho] at hx; cases hx)]; exact hx
/-- a greater footprint, of what is known or not there -/
theorem Fr.more {σ τ : Store} {S T : List Nat} (h : Fr σ S τ T) (U : List Nat) : Fr σ (U ++ S) τ (U ++ T) :=
  ⟨⟨fun i x hi hx => h.sub.1 i x (fun hh => hi (List.mem_append_right _ hh)) hx, h.sub.2⟩, fun o ho => by
    rcases List.mem_append.1 ho with h1 | h1
    · exact .inl (List.mem_append_left _ h1)
    · rcases h.new o h1 with h2 | h2
      · exact .inl (List.mem_append_right _ h2)
      · exact .inr h2⟩

theorem newTok_none {σ : Store} {k k' : Nat} {p : TypeId × Nat} (h : (σ.newTok none k p).tok k' = none) : k' ≠ k ∧ σ.tok k' = none := by
  simp only [Store.newTok] at h
  split at h
  · cases h
  · rename_i hh; simp at h; exact ⟨hh, h⟩

theorem ne_of_heap {σ : Store} {o i : Nat} {x : AObj} (h : σ.heap o = some x) (h' : σ.heap i = none) : o ≠ i := fun hh => by rw [hh, h'] at h; cases h
theorem Store.set_self {σ : Store} {o : Nat} {x : AObj} (h : σ.heap o = some x) : σ.set o x = σ := by
  unfold Store.set
  have : (fun i => if i = o then some x else σ.heap i) = σ.heap := by
    funext i
    split
    · rename_i hh; rw [hh, h]
    · rfl
  rw [this]
theorem Store.wkNew {σ : Store} {o : Nat} {cs cs' : List AVal} (h : WkL cs cs') : (σ.set o (.cells cs')).Wk (σ.set o (.cells cs)) := by
  have := Store.wkCells (τ := σ.set o (.cells cs)) (o := o) (cs' := cs') (Store.set_get ..) h
  rwa [Store.set_set] at this
theorem astr_add' (a b : ByteArray) (h : a.size + b.size ≤ 1000000000) : astr .add a b = some (.string (a ++ b)) := astr_add a b (by unfold maxText; omega)

theorem ACalls.wkS {P : Program} {f : FuncId} {args : List AVal} {σ : Store} {Q Q' : AVal → Store → Prop} (h : ACalls P f args σ Q) (hq : ∀ a σ', Q a σ' → ∃ a' σ'', Wk a a' ∧ σ''.Wk σ' ∧ Q' a' σ'') : ACalls P f args σ Q' :=
  fun κ vs hI hn hv => (h κ vs hI hn hv).mono fun _ _ ⟨cv, he, κ', a, σ', h1, h2, h3, h4, h5⟩ => by
    obtain ⟨a', σ'', hwk, hsub, hQ⟩ := hq a σ' h5
    exact ⟨cv, he, κ', a', σ'', h1, h2, hsub κ' h3, h4.wk hwk, hQ⟩

/-! ### struct values compared -/

theorem abin_eqAgg {P : Program} {σ : Store} {t : TypeId} {c : Bool} {xs ys : List AVal} (h : P.eqGuardType P.depth t = false) : abin P σ .eql t c (.agg xs) (.agg ys) = (aeqIn P Op.maxDepth t (.agg xs) (.agg ys)).map fun r => .lit (.bool r) := by
  simp [abin, aeq, h]
theorem abin_neAgg {P : Program} {σ : Store} {t : TypeId} {c : Bool} {xs ys : List AVal} (h : P.eqGuardType P.depth t = false) : abin P σ .neq t c (.agg xs) (.agg ys) = (aeqIn P Op.maxDepth t (.agg xs) (.agg ys)).map fun r => .lit (.bool !r) := by
  simp [abin, aeq, h]

end Go.Ab
