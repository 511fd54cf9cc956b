/-
  WALKING RULES: guarded steps of which it is not said whether they run; joins and loops by lists of what lives; values of structs compared; WHAT CHANGES NOTHING THAT WAS THERE; a slice made and not written; A RANGE OVER A STRING: the iterator is an object of its own; WHAT A WRITER OF TEXT IS MADE OF: a string appended to a slice of one's own, an object whose shape is told, the bytes behind a string; A ROW MADE FOR WHAT WILL COME: append of a make, of nothing; cap of nil; SLICES WHOSE ROOM IS KNOWN: cut out beyond their length, copied into, grown; a row of bytes made without zeros; BYTES AS LISTS; NUMBERS AS BYTES; SHORT WORDS: closers of the side goals that every step leaves. Own work (an AI agent).
-/
import Derived.Test.YtcaflcpcbcneiaaGreatGC
import Derived.Lib.Builder
import Derived.Lib.UnsafeStr
import Derived.Laws.Externs
import Derived.Lib.AppendZerosOnto
import Derived.Lib.Overlaps
import Derived.Lib.MakeNoZero

section
set_option linter.all false
namespace Go.Ab
def gval (b : Bool) (a : AVal) : AVal := bif b then a else .lit undef
@[go_sem] theorem vm_ (a : AVal) : gval true a = a := rfl
@[go_sem] theorem ut_ (a : AVal) : gval false a = .lit undef := rfl
@[go_sem] theorem uC_ (b x y : Bool) : k6_ b (gval b (.lit (.bool x))) (.lit (.bool y)) = .lit (.bool (bif b then x else y)) := by cases b <;> rfl
@[go_sem] theorem wD_ (b x y : Bool) : k6_ b (.lit (.bool x)) (gval (!b) (.lit (.bool y))) = .lit (.bool (bif b then x else y)) := by cases b <;> rfl
@[go_sem] theorem wN_ (b x : Bool) : (bif b then x else false) = (b && x) := by cases b <;> rfl
@[go_sem] theorem w0_ (b x : Bool) : (bif b then true else x) = (b || x) := by cases b <;> rfl
theorem bG_ {ops : Array Oper} {o : Oper} {e : Env} {j d : Nat} {w b : Bool} (hg : o.guard = some (j, w)) (hd : (ops[j]?).bind (·.dst) = some d) (he : e d = .lit (.bool b)) : bc_ ops o e = some (b == w) := by
 unfold bc_
 simp only [hg, hd, he]
@[go_sem] theorem vl_ (b c : Bool) (a : AVal) : gval b (gval c a) = gval (b && c) a := by cases b <;> rfl
theorem cT_ {ops : Array Oper} {o : Oper} {e : Env} {j d : Nat} {w b c : Bool} (hg : o.guard = some (j, w)) (hd : (ops[j]?).bind (·.dst) = some d) (he : e d = gval b (.lit (.bool c))) : bc_ ops o e = some (b && (c == w)) := by
 cases b with
 |true => rw [bG_ hg hd he]; rfl
 |false =>
  unfold bc_
  simp only [hg, hd, he]
  rfl
theorem aG_ {ops : Array Oper} {o : Oper} {e : Env} {j d : Nat} {w : Bool} {x : AVal} (hg : o.guard = some (j, w)) (hd : (ops[j]?).bind (·.dst) = some d) (he : e d = x) (hx : x = .lit (.bool w)) : bc_ ops o e = some true := by
 subst hx
 rw [bG_ hg hd he]
 cases w <;> rfl
section
variable {P : Program} {ops : Array Oper} {Kk : Env → Store → Prop} {o : Oper} {rest : List Oper} {e : Env} {σ : Store}
theorem co_ {d : Nat} {a : AVal} (hw : bc_ ops o e = some true) (hd : o.dst = some d) (ha : aval P o.op (aev e) σ = some a) (h : a2_ P ops Kk rest (upd e d a) σ) : a2_ P ops Kk (o :: rest) e σ := by
 unfold a2_ cp_
 rw [hw, hd]; exact aV_ ha h
theorem wQ_ {d j dj : Nat} {a : AVal} {b : Bool} (hg : o.guard = some (j, true)) (hj : (ops[j]?).bind (·.dst) = some dj) (he : e dj = .lit (.bool b)) (hd : o.dst = some d) (ha : b = true → aval P o.op (aev e) σ = some a)
  (h : a2_ P ops Kk rest (upd e d (gval b a)) σ) : a2_ P ops Kk (o :: rest) e σ := by
 unfold a2_ cp_
 rw [bG_ hg hj he, hd]
 cases b with
 |true => exact aV_ (ha rfl) h
 |false => exact h
theorem wP_ {d j dj : Nat} {a : AVal} {b : Bool} (hg : o.guard = some (j, false)) (hj : (ops[j]?).bind (·.dst) = some dj) (he : e dj = .lit (.bool b)) (hd : o.dst = some d) (ha : (!b) = true → aval P o.op (aev e) σ = some a)
  (h : a2_ P ops Kk rest (upd e d (gval (!b) a)) σ) : a2_ P ops Kk (o :: rest) e σ := by
 unfold a2_ cp_
 rw [bG_ hg hj he, hd]
 cases b with
 |true => exact h
 |false => exact aV_ (ha rfl) h
theorem c7_ {d j dj : Nat} {a : AVal} {b c : Bool} (hg : o.guard = some (j, true)) (hj : (ops[j]?).bind (·.dst) = some dj) (he : e dj = gval b (.lit (.bool c))) (hd : o.dst = some d) (ha : (b && c) = true → aval P o.op (aev e) σ = some a)
  (h : a2_ P ops Kk rest (upd e d (gval (b && c) a)) σ) : a2_ P ops Kk (o :: rest) e σ := by
 unfold a2_ cp_
 rw [cT_ hg hj he, hd]
 have e1 : (b && (c == true)) = (b && c) := by cases b <;> cases c <;> rfl
 rw [e1]
 cases hbc : (b && c) with
 |true => rw [hbc] at h; exact aV_ (ha hbc) h
 |false => rw [hbc] at h; exact h
theorem dB_ {d j dj : Nat} {a : AVal} {b c : Bool} (hg : o.guard = some (j, false)) (hj : (ops[j]?).bind (·.dst) = some dj) (he : e dj = gval b (.lit (.bool c))) (hd : o.dst = some d) (ha : (b && !c) = true → aval P o.op (aev e) σ = some a)
  (h : a2_ P ops Kk rest (upd e d (gval (b && !c) a)) σ) : a2_ P ops Kk (o :: rest) e σ := by
 unfold a2_ cp_
 rw [cT_ hg hj he, hd]
 have e1 : (b && (c == false)) = (b && !c) := by cases b <;> cases c <;> rfl
 rw [e1]
 cases hbc : (b && !c) with
 |true => rw [hbc] at h; exact aV_ (ha hbc) h
 |false => rw [hbc] at h; exact h
theorem sW_ {d j dj : Nat} {a : AVal} {b c : Bool} (hg : o.guard = some (j, false)) (hj : (ops[j]?).bind (·.dst) = some dj) (he : e dj = gval b (.lit (.bool c))) (hd : o.dst = some d) (hx : (b && !c) = true → AOp P o (aev e) σ fun v σ' => v = a ∧ σ = σ')
  (h : a2_ P ops Kk rest (upd e d (gval (b && !c) a)) σ) : a2_ P ops Kk (o :: rest) e σ := by
 unfold a2_ cp_
 rw [cT_ hg hj he, hd]
 have e1 : (b && (c == false)) = (b && !c) := by cases b <;> cases c <;> rfl
 rw [e1]
 cases hbc : (b && !c) with
 |true => rw [hbc] at h; exact (hx hbc).mono fun v σ' ⟨h1, h2⟩ => by subst h1; subst h2; exact h
 |false => rw [hbc] at h; exact h
theorem qA_ {d : Nat} (hw : bc_ ops o e = some true) (hd : o.dst = some d) (h : AOp P o (aev e) σ fun a σ' => a2_ P ops Kk rest (upd e d a) σ') : a2_ P ops Kk (o :: rest) e σ := by
 unfold a2_ cp_
 rw [hw, hd]; exact h
theorem cE_ {d j dj : Nat} {a : AVal} {b : Bool} (hg : o.guard = some (j, true)) (hj : (ops[j]?).bind (·.dst) = some dj) (he : e dj = .lit (.bool b)) (hd : o.dst = some d) (hx : b = true → AOp P o (aev e) σ fun v σ' => v = a ∧ σ = σ')
  (h : a2_ P ops Kk rest (upd e d (gval b a)) σ) : a2_ P ops Kk (o :: rest) e σ := by
 unfold a2_ cp_
 rw [bG_ hg hj he, hd]
 cases b with
 |true => exact (hx rfl).mono fun v σ' ⟨h1, h2⟩ => by subst h1; subst h2; exact h
 |false => exact h
theorem bt_ {d j dj : Nat} {a : AVal} {b : Bool} (hg : o.guard = some (j, false)) (hj : (ops[j]?).bind (·.dst) = some dj) (he : e dj = .lit (.bool b)) (hd : o.dst = some d) (hx : (!b) = true → AOp P o (aev e) σ fun v σ' => v = a ∧ σ = σ')
  (h : a2_ P ops Kk rest (upd e d (gval (!b) a)) σ) : a2_ P ops Kk (o :: rest) e σ := by
 unfold a2_ cp_
 rw [bG_ hg hj he, hd]
 cases b with
 |true => exact h
 |false => exact (hx rfl).mono fun v σ' ⟨h1, h2⟩ => by subst h1; subst h2; exact h
end
section
variable {P : Program} {ops : Array Oper} {s0 : Store} {Kk : Env → Store → Prop} {o : Oper} {i : Nat} {r : DT} {e : Env} {σ : Store}
theorem w3_ {d j dj : Nat} {a : AVal} {b : Bool} (ho : ops[i]? = some o) (hg : o.guard = some (j, true)) (hj : (ops[j]?).bind (·.dst) = some dj) (he : e dj = .lit (.bool b)) (hd : o.dst = some d) (ha : b = true → aval P o.op (aev e) s0 = some a)
  (h : dRun P ops s0 Kk r (upd e d (gval b a)) σ) : dRun P ops s0 Kk (.op i 0 r) e σ := by
 have hw := bG_ hg hj he
 cases b with
 |true => exact qV_ ho hd hw (ha rfl) h
 |false => exact qU_ ho hd hw h
theorem w2_ {d j dj : Nat} {a : AVal} {b : Bool} (ho : ops[i]? = some o) (hg : o.guard = some (j, false)) (hj : (ops[j]?).bind (·.dst) = some dj) (he : e dj = .lit (.bool b)) (hd : o.dst = some d) (ha : (!b) = true → aval P o.op (aev e) s0 = some a)
  (h : dRun P ops s0 Kk r (upd e d (gval (!b) a)) σ) : dRun P ops s0 Kk (.op i 0 r) e σ := by
 have hw := bG_ hg hj he
 cases b with
 |true => exact qU_ ho hd hw h
 |false => exact qV_ ho hd hw (ha rfl) h
theorem fi_ {d j dj : Nat} {a : AVal} {b : Bool} (ho : ops[i]? = some o) (hg : o.guard = some (j, true)) (hj : (ops[j]?).bind (·.dst) = some dj) (he : e dj = .lit (.bool b)) (hd : o.dst = some d) (hs : s0.Sub σ) (hx : b = true → AOp P o (aev e) σ fun v σ' => v = a ∧ σ = σ')
  (h : dRun P ops s0 Kk r (upd e d (gval b a)) σ) : dRun P ops s0 Kk (.op i 1 r) e σ := by
 have hw := bG_ hg hj he
 cases b with
 |true => exact dR_X ho hd hw ((hx rfl).mono fun v σ' ⟨h1, h2⟩ => by subst h1; subst h2; exact ⟨hs, h⟩)
 |false => exact qW_ ho hd hw hs h
theorem hE_ {d j dj : Nat} {a : AVal} {b : Bool} (ho : ops[i]? = some o) (hg : o.guard = some (j, false)) (hj : (ops[j]?).bind (·.dst) = some dj) (he : e dj = .lit (.bool b)) (hd : o.dst = some d) (hs : s0.Sub σ) (hx : (!b) = true → AOp P o (aev e) σ fun v σ' => v = a ∧ σ = σ')
  (h : dRun P ops s0 Kk r (upd e d (gval (!b) a)) σ) : dRun P ops s0 Kk (.op i 1 r) e σ := by
 have hw := bG_ hg hj he
 cases b with
 |true => exact qW_ ho hd hw hs h
 |false => exact dR_X ho hd hw ((hx rfl).mono fun v σ' ⟨h1, h2⟩ => by subst h1; subst h2; exact ⟨hs, h⟩)
end
section
variable {P : Program} {ops : Array Oper} {s0 : Store} {Kk : Env → Store → Prop} {o : Oper} {i : Nat} {r : DT} {e : Env} {σ : Store}
theorem u0_ {d j dj : Nat} {a : AVal} {b c : Bool} (ho : ops[i]? = some o) (hg : o.guard = some (j, true)) (hj : (ops[j]?).bind (·.dst) = some dj) (he : e dj = gval b (.lit (.bool c))) (hd : o.dst = some d) (ha : (b && c) = true → aval P o.op (aev e) s0 = some a)
  (h : dRun P ops s0 Kk r (upd e d (gval (b && c) a)) σ) : dRun P ops s0 Kk (.op i 0 r) e σ := by
 have hw := cT_ hg hj he
 have e1 : (b && (c == true)) = (b && c) := by cases b <;> cases c <;> rfl
 rw [e1] at hw
 cases hbc : (b && c) with
 |true => rw [hbc] at h hw; exact qV_ ho hd hw (ha hbc) h
 |false => rw [hbc] at h hw; exact qU_ ho hd hw h
theorem hF_ {d j dj : Nat} {a : AVal} {b c : Bool} (ho : ops[i]? = some o) (hg : o.guard = some (j, false)) (hj : (ops[j]?).bind (·.dst) = some dj) (he : e dj = gval b (.lit (.bool c))) (hd : o.dst = some d) (ha : (b && !c) = true → aval P o.op (aev e) s0 = some a)
  (h : dRun P ops s0 Kk r (upd e d (gval (b && !c) a)) σ) : dRun P ops s0 Kk (.op i 0 r) e σ := by
 have hw := cT_ hg hj he
 have e1 : (b && (c == false)) = (b && !c) := by cases b <;> cases c <;> rfl
 rw [e1] at hw
 cases hbc : (b && !c) with
 |true => rw [hbc] at h hw; exact qV_ ho hd hw (ha hbc) h
 |false => rw [hbc] at h hw; exact qU_ ho hd hw h
theorem eF_ {d j dj : Nat} {a : AVal} {b c : Bool} (ho : ops[i]? = some o) (hg : o.guard = some (j, true)) (hj : (ops[j]?).bind (·.dst) = some dj) (he : e dj = gval b (.lit (.bool c))) (hd : o.dst = some d) (hs : s0.Sub σ) (hx : (b && c) = true → AOp P o (aev e) σ fun v σ' => v = a ∧ σ = σ')
  (h : dRun P ops s0 Kk r (upd e d (gval (b && c) a)) σ) : dRun P ops s0 Kk (.op i 1 r) e σ := by
 have hw := cT_ hg hj he
 have e1 : (b && (c == true)) = (b && c) := by cases b <;> cases c <;> rfl
 rw [e1] at hw
 cases hbc : (b && c) with
 |true => rw [hbc] at h hw; exact dR_X ho hd hw ((hx hbc).mono fun v σ' ⟨h1, h2⟩ => by subst h1; subst h2; exact ⟨hs, h⟩)
 |false => rw [hbc] at h hw; exact qW_ ho hd hw hs h
theorem tb_ {d j dj : Nat} {a : AVal} {b c : Bool} (ho : ops[i]? = some o) (hg : o.guard = some (j, false)) (hj : (ops[j]?).bind (·.dst) = some dj) (he : e dj = gval b (.lit (.bool c))) (hd : o.dst = some d) (hs : s0.Sub σ) (hx : (b && !c) = true → AOp P o (aev e) σ fun v σ' => v = a ∧ σ = σ')
  (h : dRun P ops s0 Kk r (upd e d (gval (b && !c) a)) σ) : dRun P ops s0 Kk (.op i 1 r) e σ := by
 have hw := cT_ hg hj he
 have e1 : (b && (c == false)) = (b && !c) := by cases b <;> cases c <;> rfl
 rw [e1] at hw
 cases hbc : (b && !c) with
 |true => rw [hbc] at h hw; exact dR_X ho hd hw ((hx hbc).mono fun v σ' ⟨h1, h2⟩ => by subst h1; subst h2; exact ⟨hs, h⟩)
 |false => rw [hbc] at h hw; exact qW_ ho hd hw hs h
end
theorem av_ {P : Program} {o : Oper} {α : Operand → AVal} {σ : Store} {a : AVal} {c : Call} {f : Operand} {g : FuncId} {first captured args : List AVal} (ho : o.op = .call c) (hc : c.callee = .value f)
  (hf : α f = .fn (.func g) first captured ∨ (α f = .lit (.func (.func g) #[] #[]) ∧ first = [] ∧ captured = [])) (hg : isGo P g = true)
  (hargs : first ++ c.args.toList.map α ++ captured = args) (hcon : ai_ P g args σ (fun v σ' => v = a ∧ σ = σ')) : AOp P o α σ fun v σ' => v = a ∧ σ = σ' :=
 aU_ ho hc hf hg hargs hcon fun _ _ h => h
def envL : List (Nat × AVal) → Env
 |[] => emp
 |(k, a) :: l => upd (envL l) k a
@[go_sem] theorem am_ : envL [] = emp := rfl
@[go_sem] theorem ak_ (k : Nat) (a : AVal) (l : List (Nat × AVal)) : envL ((k, a) :: l) = upd (envL l) k a := rfl
def b0_ (e : Env) : List (Nat × AVal) → Prop
 |[] => True
 |(k, a) :: l => Wk (e k) a ∧ b0_ e l
theorem b0_.nil {e : Env} : b0_ e [] := trivial
theorem b0_.eq {e : Env} {k : Nat} {a : AVal} {l : List (Nat × AVal)} (h : e k = a) (hl : b0_ e l) : b0_ e ((k, a) :: l) := ⟨by rw [h]; exact .refl _, hl⟩
theorem b0_.wk {e : Env} {k : Nat} {a b : AVal} {l : List (Nat × AVal)} (h : e k = b) (hw : Wk b a) (hl : b0_ e l) : b0_ e ((k, a) :: l) := ⟨by rw [h]; exact hw, hl⟩
theorem b0_.all {e : Env} : ∀ {l : List (Nat × AVal)}, b0_ e l → ∀ k, Wk (e k) (envL l k)
 |[], _, k => .any _
 |(j, a) :: l, h, k => by
  simp only [envL, upd]
  by_cases hk : k = j
  ·subst hk; rw [if_pos rfl]; exact h.1
  ·rw [if_neg hk]; exact h.2.all k
theorem cf_ {P : Program} {n : Nat} {x y : Code} {Q : Exit → Env → Store → Prop} {e : Env} {σ : Store} {ι : Type} (I : ι → Prop) (E : ι → List (Nat × AVal)) (S : ι → Store)
  (h1 : awp P n x (nr_ (fun e' σ' => ∃ i, I i ∧ b0_ e' (E i) ∧ (S i).Wk σ') Q) e σ) (h2 : ∀ i, I i → awp P n y Q (envL (E i)) (S i)) : awp P n (.seq x y) Q e σ :=
 ab_ (h1.mono fun ex e' σ' hq => by
  cases ex with
  |normal => obtain ⟨i, hi, hc, hs⟩ := hq; exact (h2 i hi).wk hc.all hs
  |_ => exact hq)
theorem ah_ {P : Program} {n : Nat} {c : Code} {Q : Exit → Env → Store → Prop} {e : Env} {σ : Store} {ι : Type} (μ : ι → Nat) (I : ι → Prop) (E : ι → List (Nat × AVal)) (S : ι → Store) (i0 : ι)
  (hI : I i0) (hc : b0_ e (E i0)) (hs : (S i0).Wk σ)
  (round : ∀ i, I i → awp P n c (nr_ (fun e' σ' => ∃ i', μ i' < μ i ∧ I i' ∧ b0_ e' (E i') ∧ (S i').Wk σ') Q) (envL (E i)) (S i)) : awp P n (.loop c) Q e σ :=
 qM_ (fun m e σ => ∃ i, μ i = m ∧ I i ∧ b0_ e (E i) ∧ (S i).Wk σ) (m := μ i0) ⟨i0, rfl, hI, hc, hs⟩ fun m e σ ⟨i, hm, hi, hc, hs⟩ =>
  ((round i hi).wk hc.all hs).mono fun ex e' σ' hq => by
   cases ex with
   |normal => obtain ⟨i', hlt, h1, h2, h3⟩ := hq; exact ⟨μ i', by omega, i', rfl, h1, h2, h3⟩
   |_ => exact hq
theorem aC_ {ι : Type} {μ : ι → Nat} {I : ι → Prop} {E : ι → List (Nat × AVal)} {S : ι → Store} {i : ι} {e : Env} {σ : Store} (i' : ι) (h1 : μ i' < μ i) (h2 : I i') (h3 : b0_ e (E i')) (h4 : (S i').Wk σ) :
  ∃ i', μ i' < μ i ∧ I i' ∧ b0_ e (E i') ∧ (S i').Wk σ := ⟨i', h1, h2, h3, h4⟩
theorem ad_ {K : Env → Store → Prop} {Q : Exit → Env → Store → Prop} {i : Nat} {e : Env} {σ : Store} (h : Q (.exit i) e σ) : nr_ K Q (.exit i) e σ := h
theorem aj_ {Q : Exit → Env → Store → Prop} {i : Nat} {e : Env} {σ : Store} (h : Q .normal e σ) : l4_ i Q (.exit i) e σ := by simpa [l4_] using h
theorem ac_ {σ : Store} {o j : Nat} {x : AObj} : (σ.set o x).heap j = none ↔ j ≠ o ∧ σ.heap j = none := ⟨rl_, fun ⟨h1, h2⟩ => by rw [Store.set_ne _ _ h1]; exact h2⟩
def SubX (l : List Nat) (σ τ : Store) : Prop := (∀ i x, i ∉ l → σ.heap i = some x → τ.heap i = some x) ∧ ∀ t n, σ.tok t = some n → τ.tok t = some n
theorem bd_ {σ τ : Store} (h : SubX [] σ τ) : σ.Wk τ := Store.Sub.wk ⟨fun i x hx => h.1 i x (by simp) hx, h.2⟩
theorem lQ_ {σ τ : Store} (h : SubX [] σ τ) : σ.Sub τ := ⟨fun i x hx => h.1 i x (by simp) hx, h.2⟩
def WkL : List AVal → List AVal → Prop
 |[], [] => True
 |a :: l, b :: l' => Wk a b ∧ WkL l l'
 |_, _ => False
theorem WkL.at_ : ∀ {l l' : List AVal}, WkL l l' → l.length = l'.length ∧ ∀ i (hi : i < l.length) (hj : i < l'.length), Wk l[i] l'[i]
 |[], [], _ => ⟨rfl, fun i hi => by simp at hi⟩
 |a :: l, b :: l', h => by
  obtain ⟨h1, h2⟩ := WkL.at_ h.2
  refine ⟨by simp [h1], fun i hi hj => ?_⟩
  cases i with
  |zero => exact h.1
  |succ i => exact h2 i (by simpa using hi) (by simpa using hj)
 |[], _ :: _, h => h.elim
 |_ :: _, [], h => h.elim
theorem Store.wkCells {τ : Store} {o : Nat} {cs cs' : List AVal} (ho : τ.heap o = some (.cells cs)) (h : WkL cs cs') : (τ.set o (.cells cs')).Wk τ := by
 intro κ hI
 obtain ⟨hl, hw⟩ := h.at_
 obtain ⟨b, hb, hbase, hIb, c, el, hh, hn, hv⟩ := hI.heap o _ ho
 exact hI.step (κ' := κ) (.refl κ) rfl rfl hI.frO b hbase hIb (fun _ _ _ => rfl) o (.cells cs') (fun _ _ => rfl) hb ⟨c, el, hh, by omega, fun i hi => (hv i (by omega)).wk (hw i (by omega) hi)⟩
  (fun o' x hx hne hh => hne (hI.inj o' o x _ b hx ho hh hb))
  (fun t sz v ht hv hh => hI.tokobj t sz v b o _ ht hv hh ho hb)
theorem Store.Wk.refl' {σ τ : Store} (h : σ = τ) : σ.Wk τ := h ▸ Store.Wk.refl σ
theorem cI_ {P : Program} {n : Nat} {c : Code} {Q : Exit → Env → Store → Prop} {e : Env} {σ : Store} (o : Nat) {cs : List AVal} (cs' : List AVal) (ho : σ.heap o = some (.cells cs)) (h : WkL cs cs') (hk : awp P n c Q e (σ.set o (.cells cs'))) : awp P n c Q e σ :=
 hk.wk (fun k => .refl _) (Store.wkCells ho h)
theorem aX_ {l : List Nat} {σ : Store} : SubX l σ σ := ⟨fun _ _ _ h => h, fun _ _ h => h⟩
theorem ih_ {l : List Nat} {σ τ : Store} {o : Nat} {x : AObj} (hx : τ.heap o = some x) (h : SubX (o :: l) σ τ) : SubX l (σ.set o x) τ := ⟨fun i y hi hy => by
 by_cases ho : i = o
 ·subst ho; rw [Store.set_get] at hy; rw [hx]; exact hy
 ·rw [Store.set_ne _ _ ho] at hy; exact h.1 i y (by simp [ho, hi]) hy, h.2⟩
theorem gg_ {l : List Nat} {σ τ : Store} {o : Nat} {x : AObj} (ho : o ∈ l) (h : SubX l σ τ) : SubX l (σ.set o x) τ := ⟨fun i y hi hy => by
 by_cases hio : i = o
 ·subst hio; exact absurd ho hi
 ·rw [Store.set_ne _ _ hio] at hy; exact h.1 i y hi hy, h.2⟩
theorem bv_ {l : List Nat} {σ τ : Store} {o : Nat} {x : AObj} (ho : o ∈ l) (h : SubX l σ τ) : SubX l σ (τ.set o x) := ⟨fun i y hi hy => by
 by_cases hio : i = o
 ·subst hio; exact absurd ho hi
 ·rw [Store.set_ne _ _ hio]; exact h.1 i y hi hy, h.2⟩
theorem ar_ {l : List Nat} {σ τ : Store} {o : Nat} {x : AObj} (ho : σ.heap o = none) (h : SubX l σ τ) : SubX l σ (τ.set o x) := ⟨fun i y hi hy => by
 by_cases hio : i = o
 ·subst hio; rw [ho] at hy; cases hy
 ·rw [Store.set_ne _ _ hio]; exact h.1 i y hi hy, h.2⟩
theorem r6_ {l : List Nat} {σ τ : Store} {k : Nat} {p : TypeId × Nat} (h : SubX l σ τ) : SubX l (σ.newTok none k p) (τ.newTok none k p) := ⟨h.1, fun t n ht => by
 simp only [Store.newTok] at ht ⊢
 split
 ·rename_i hh; rw [if_pos hh] at ht; exact ht
 ·rename_i hh; rw [if_neg hh] at ht; simp at ht ⊢; exact h.2 t n ht⟩
theorem bm_ {l : List Nat} {σ τ : Store} {k : Nat} {p : TypeId × Nat} (hk : σ.tok k = none) (h : SubX l σ τ) : SubX l σ (τ.newTok none k p) := ⟨h.1, fun t n ht => by
 simp only [Store.newTok]
 split
 ·rename_i hh; rw [hh, hk] at ht; cases ht
 ·simp; exact h.2 t n ht⟩
structure Fr (σ : Store) (S : List Nat) (σ' : Store) (S' : List Nat) : Prop where
 sub : SubX S σ σ'
 new : ∀ o ∈ S', o ∈ S ∨ σ.heap o = none
theorem Fr.refl (σ : Store) (S : List Nat) : Fr σ S σ S := ⟨aX_, fun o h => .inl h⟩
theorem Fr.trans {σ τ υ : Store} {S T U : List Nat} (h : Fr σ S τ T) (k : Fr τ T υ U) : Fr σ S υ U where
 sub := by
  refine ⟨fun i x hi hx => k.sub.1 i x (fun hT => ?_) (h.sub.1 i x hi hx), fun t n ht => k.sub.2 t n (h.sub.2 t n ht)⟩
  rcases h.new i hT with h1 | h1
  ·exact hi h1
  ·rw [h1] at hx; cases hx
 new := fun o ho => by
  rcases k.new o ho with h1 | h1
  ·exact h.new o h1
  ·by_cases hS : o ∈ S
   ·exact .inl hS
   ·right
    cases hx : σ.heap o with
    |none => rfl
    |some x => rw [h.sub.1 o x hS hx] at h1; cases h1
theorem Fr.apart {σ σ' : Store} {S S' : List Nat} (h : Fr σ S σ' S') {o : Nat} {x : AObj} (ho : σ.heap o = some x) (hS : o ∉ S) : o ∉ S' ∧ σ'.heap o = some x :=
 ⟨fun hh => (h.new o hh).elim hS (fun h1 => absurd (h1.symm.trans ho) (fun h2 => nomatch h2)), h.sub.1 o x hS ho⟩
theorem Fr.set {σ τ : Store} {S T : List Nat} (h : Fr σ S τ T) {o : Nat} {x : AObj} (ho : o ∈ T) : Fr σ S (τ.set o x) T :=
 h.trans ⟨bv_ ho aX_, fun o h => .inl h⟩
theorem Fr.del {σ τ : Store} {S T : List Nat} (h : Fr σ S τ T) {o : Nat} (ho : o ∈ T) : Fr σ S (τ.del o) T :=
 h.trans ⟨⟨fun i x hi hx => by rw [Store.del_ne _ (fun hh => hi (by rw [hh]; exact ho))]; exact hx, fun _ _ h => h⟩, fun o h => .inl h⟩
theorem Fr.less {σ τ : Store} {S T U : List Nat} (h : Fr σ S τ T) (hU : ∀ o ∈ U, o ∈ T) : Fr σ S τ U := ⟨h.sub, fun o ho => h.new o (hU o ho)⟩
theorem Fr.newTok {σ τ : Store} {S T : List Nat} (h : Fr σ S τ T) {old : Option Nat} {k : Nat} {p : TypeId × Nat} (ho : ∀ j, old = some j → σ.tok j = none) (hk : τ.tok k = none) : Fr σ S (τ.newTok old k p) T :=
 ⟨⟨h.sub.1, fun t n ht => by
  have h1 := h.sub.2 t n ht
  simp only [Store.newTok]
  rw [if_neg (fun hh => by rw [hh, hk] at h1; cases h1), if_neg (fun hh => by rw [ho t hh.symm] at ht; cases ht)]
  exact h1⟩, h.new⟩
theorem Fr.noTok {σ τ : Store} {S T : List Nat} (h : Fr σ S τ T) {k : Nat} (hk : τ.tok k = none) : σ.tok k = none := by
 cases ht : σ.tok k with
 |none => rfl
 |some n => have := h.sub.2 k n ht; rw [hk] at this; cases this
theorem Fr.alloc {σ τ : Store} {S T : List Nat} (h : Fr σ S τ T) {o : Nat} {x : AObj} (ho : τ.heap o = none) : Fr σ S (τ.set o x) T :=
 h.trans ⟨ar_ ho aX_, fun o h => .inl h⟩
theorem Fr.noObj {σ τ : Store} {T : List Nat} (h : Fr σ [] τ T) {o : Nat} (ho : τ.heap o = none) : σ.heap o = none := by
 cases hx : σ.heap o with
 |none => rfl
 |some x => have := h.sub.1 o x (by simp) hx; rw [ho] at this; cases this
theorem Fr.more {σ τ : Store} {S T : List Nat} (h : Fr σ S τ T) (U : List Nat) : Fr σ (U ++ S) τ (U ++ T) :=
 ⟨⟨fun i x hi hx => h.sub.1 i x (fun hh => hi (List.mem_append_right _ hh)) hx, h.sub.2⟩, fun o ho => by
  rcases List.mem_append.1 ho with h1 | h1
  ·exact .inl (List.mem_append_left _ h1)
  ·rcases h.new o h1 with h2 | h2
   ·exact .inl (List.mem_append_right _ h2)
   ·exact .inr h2⟩
theorem aE_ {σ : Store} {k k' : Nat} {p : TypeId × Nat} (h : (σ.newTok none k p).tok k' = none) : k' ≠ k ∧ σ.tok k' = none := by
 simp only [Store.newTok] at h
 split at h
 ·cases h
 ·rename_i hh; simp at h; exact ⟨hh, h⟩
theorem aF_ {σ : Store} {o i : Nat} {x : AObj} (h : σ.heap o = some x) (h' : σ.heap i = none) : o ≠ i := fun hh => by rw [hh, h'] at h; cases h
theorem Store.set_self {σ : Store} {o : Nat} {x : AObj} (h : σ.heap o = some x) : σ.set o x = σ := by
 unfold Store.set
 have : (fun i => if i = o then some x else σ.heap i) = σ.heap := by
  funext i
  split
  ·rename_i hh; rw [hh, h]
  ·rfl
 rw [this]
theorem ai_.wkS {P : Program} {f : FuncId} {args : List AVal} {σ : Store} {Q Q' : AVal → Store → Prop} (h : ai_ P f args σ Q) (hq : ∀ a σ', Q a σ' → ∃ a' σ'', Wk a a' ∧ σ''.Wk σ' ∧ Q' a' σ'') : ai_ P f args σ Q' :=
 fun κ vs hI hn hv => (h κ vs hI hn hv).mono fun _ _ ⟨cv, he, κ', a, σ', h1, h2, h3, h4, h5⟩ => by
  obtain ⟨a', σ'', hwk, hsub, hQ⟩ := hq a σ' h5
  exact ⟨cv, he, κ', a', σ'', h1, h2, hsub κ' h3, h4.wk hwk, hQ⟩
end Go.Ab
end

section
set_option linter.all false
namespace Go.Ab
theorem AOp.after {P : Program} {o : Oper} {α : Operand → AVal} {σ : Store} {K1 K2 : AVal → Store → Prop} (h : AOp P o α σ K1)
  (hk : ∀ (κ : K) a σ' cv, Inv κ σ' → Rv κ a cv → K1 a σ' → ∃ κ' a' σ'', κ'.w = κ.w ∧ κ.Le κ' ∧ Inv κ' σ'' ∧ Rv κ' a' cv ∧ K2 a' σ'') : AOp P o α σ K2 :=
 fun κ ev hI hx => (h κ ev hI hx).mono fun cv w ⟨κ1, a, σ', h1, h2, h3, h4, h5⟩ => by
  obtain ⟨κ2, a', σ'', g1, g2, g3, g4, g5⟩ := hk κ1 a σ' cv h3 h4 h5
  exact ⟨κ2, a', σ'', g1.trans h1, h2.trans g2, g3, g4, g5⟩
theorem Store.set_del {σ : Store} {i : Nat} {x : AObj} (h : σ.heap i = none) : (σ.set i x).del i = σ := by
 unfold Store.set Store.del
 cases σ with
 |mk hp tk =>
  congr 1
  funext j
  by_cases hj : j = i
  ·subst hj; simp; exact h.symm
  ·simp [hj]
theorem mp_ {l : List AVal} (h : ∀ x ∈ l, x.cells = [x]) : flat l = l := by
 induction l with
 |nil => rfl
 |cons x l ih => rw [a5_, h x (List.mem_cons_self ..), ih fun y hy => h y (List.mem_cons_of_mem _ hy)]; rfl
end Go.Ab
end

section
set_option linter.all false
namespace Go.Ab
open Go.RowKit (Below)
section
variable {P : Program} {o : Oper} {α : Operand → AVal} {σ : Store} {Kk : AVal → Store → Prop}
theorem Inv.setRaw {κ : K} {σ : Store} (h : Inv κ σ) {i : Nat} {x y : Obj} (hi : σ.heap i = some (.raw x)) (hy : ∀ c e f, y ≠ .cells c e f) :
  ∃ b, κ.ρ i = some b ∧ κ.w.heap[b]? = some x ∧ κ.Le { κ with w := { κ.w with heap := κ.w.heap.setIfInBounds b y } } ∧ Inv { κ with w := { κ.w with heap := κ.w.heap.setIfInBounds b y } } (σ.set i (.raw y)) := by
 obtain ⟨b, hb, hbase, hIb, hh, hx⟩ := h.heap i _ hi
 have hle : κ.Le { κ with w := { κ.w with heap := κ.w.heap.setIfInBounds b y } } := by
  refine ⟨rfl, ⟨rfl, rfl, rfl, by simp, fun k hk => cc_ _ (by omega)⟩, fun b' s e' => ?_, fun _ _ e' => e', fun _ _ e' => e', fun _ => Nat.le_refl _, fun b' off' u hi e' => ?_, Nat.le_refl _⟩
  ·have hne : b' ≠ b := fun hh' => by
    subst hh'
    unfold World.shape? at e'
    rw [hh] at e'
    cases x <;> first | (cases e'; done) | exact hx _ _ _ rfl
   unfold World.shape? at e' ⊢
   dsimp only
   rw [cc_ _ hne]; exact e'
  ·have hne : b' ≠ b := fun hh' => by rw [hh', hIb] at hi; omega
   simp only [World.cell?] at e' ⊢
   rw [cc_ _ hne]; exact e'
 refine ⟨b, hb, hh, hle, h.step hle rfl rfl h.frO b hbase hIb (fun b' hne _ => cc_ _ hne) i _ (fun _ _ => rfl) hb ⟨jk_ _ hh, hy⟩ ?_ ?_⟩
 ·intro j z hz hne hh'
  exact hne (h.inj j i _ _ b hz hi hh' hb)
 ·intro t sz u ht hu hh'
  exact h.tokobj t sz u b i _ ht hu hh' hi hb
theorem nm_ {t : TypeId} {x : Operand} {s : ByteArray} (ho : o.op = .range t x) (ht : P.underlying t = some .string) (hx : α x = .lit (.string s)) (hk : ∀ i, σ.heap i = none → Kk (.ref i 0) (σ.set i (.raw (.stringIter s 0)))) : AOp P o α σ Kk := by
 obtain ⟨dst, op, ty, pos, after, guard⟩ := o
 obtain rfl : op = _ := ho
 intro κ ev hI hxx
 have hv := hxx x (by simp [Op.operands])
 rw [hx] at hv
 obtain ⟨i, hi, hfree⟩ := hI.fresh
 obtain ⟨κ', hw, hle, hρ, hI'⟩ := hI.alloc i hi (.raw (.stringIter s 0)) (.stringIter s 0) fun κ' hle hh _ => ⟨hh, fun _ _ _ h => by cases h⟩
 refine bj_ rfl ⟨.pointer (some ⟨κ.w.heap.size, 0, none⟩), κ.w.alloc (.stringIter s 0), ?_, κ', .ref i 0, _, hw, hle, hI', .ref i 0 _ hρ, hk i hfree⟩
 rw [hv.litInv]
 exact run_range_string κ.w t s ht
def d0_ (s : ByteArray) (p : Nat) : Int := (Utf8.decode s p).1
def n4_ (s : ByteArray) (p : Nat) : Nat := (Utf8.decode s p).2
theorem fF_ {x : Operand} {s : ByteArray} {i p : Nat} (ho : o.op = .next x true) (hx : α x = .ref i 0) (hh : σ.heap i = some (.raw (.stringIter s p)))
  (hy : p < s.size → Kk (.tup [.lit (.bool true), .lit (.int .i64 p), .lit (.int .i32 (d0_ s p))]) (σ.set i (.raw (.stringIter s (p + n4_ s p)))))
  (hn : ¬ p < s.size → Kk (.tup [.lit (.bool false)]) σ) : AOp P o α σ Kk := by
 obtain ⟨dst, op, ty, pos, after, guard⟩ := o
 obtain rfl : op = _ := ho
 intro κ ev hI hxx
 have hv := hxx x (by simp [Op.operands])
 rw [hx] at hv
 obtain ⟨b, hb, hheap, hle, hI'⟩ := hI.setRaw (y := .stringIter s (p + n4_ s p)) hh (fun _ _ _ h => by cases h)
 have he : ev x = .pointer (some ⟨b, 0, none⟩) := by
  generalize ev x = u at hv
  cases hv with
  |ref _ _ b' hb' => rw [hb] at hb'; obtain rfl := Option.some.inj hb'; rfl
 have tup : ∀ (κ : K) (l : List AVal) (vs : List Value), l.length = vs.length → (∀ j (h1 : j < l.length) (h2 : j < vs.length), l[j] = .lit vs[j]) → Rv κ (.tup l) (.tuple vs.toArray) := fun κ l vs h1 h2 =>
  .tup _ _ (by simp [h1]) fun j hj => by
   have : (vs.toArray.getD j undef) = vs[j]'(by omega) := by simp [show j < vs.length by omega]
   rw [h2 j hj (by omega), this]
   exact .lit _
 by_cases hp : p < s.size
 ·refine bj_ rfl ⟨.tuple #[.bool true, .int .i64 p, .int .i32 (d0_ s p)], _, ?_, _, _, _, rfl, hle, hI', tup _ _ [.bool true, .int .i64 p, .int .i32 (d0_ s p)] rfl (fun j h1 h2 => by match j, h1 with | 0, _ => rfl | 1, _ => rfl | 2, _ => rfl), hy hp⟩
  rw [he]
  simp [Instr.next, getObj, setObj, Sem.run, hheap, hp, Result.andThen, goInt, d0_, n4_]
 ·refine bj_ rfl ⟨.tuple #[.bool false], κ.w, ?_, κ, _, σ, rfl, K.Le.refl _, hI, tup _ _ [.bool false] rfl (fun j h1 h2 => by match j, h1 with | 0, _ => rfl), hn hp⟩
  rw [he]
  simp [Instr.next, getObj, Sem.run, hheap, hp, Result.andThen]
end
end Go.Ab
end

section
set_option linter.all false
namespace Go.Ab
open Go.RowKit (Below)
section
variable {P : Program} {o : Oper} {α : Operand → AVal} {σ : Store} {Kk : AVal → Store → Prop}
theorem bl_ {s x : Operand} {t tx e : TypeId} {sz by_ : Nat} {l l2 : List AVal} {old : Option Nat}
  (ho : o.op = .call { callee := .builtin .append, args := #[s, x], argTypes := #[t, tx] }) (hse : aA_ P t = some e) (hte : a6_ P e = some (sz, by_))
  (hs : (∃ k, α s = .own k sz l ∧ σ.tok k = some (e, sz) ∧ old = some k) ∨ (α s = .lit (.slice none 0 0) ∧ l = [] ∧ old = none))
  (hx : ASrc P sz tx (α x) l2) (hlen : (l.length + l2.length) * by_ ≤ 140737488355328)
  (hk : ∀ t', σ.tok t' = none → Kk (.own t' sz (l ++ l2)) (σ.newTok old t' (e, sz))) : AOp P o α σ Kk := by
 obtain ⟨dst, op, ty, pos, after, guard⟩ := o
 obtain rfl : op = .call { callee := .builtin .append, args := #[s, x], argTypes := #[t, tx] } := ho
 intro κ ev hI hxx
 obtain ⟨i, z, hi, hz, hisz, hiby, hzs, hsz, hby⟩ := aZ_ hte
 have hts : P.underlying t = some (.slice e) := by
  unfold aA_ at hse
  split at hse
  ·rename_i e' he'; obtain rfl := Option.some.inj hse; exact he'
  ·cases hse
 have hvs := hxx s (by simp [Op.operands, Call.operands])
 have hvx := hxx x (by simp [Op.operands, Call.operands])
 have hle47 : l.length + l2.length ≤ 140737488355328 := Nat.le_trans (Nat.le_mul_of_pos_right _ hby) hlen
 obtain ⟨us, hlsz, hown, hus, hIold, hfreeold⟩ := hp_ hI hvs hs
 obtain ⟨vs, hl2sz, hvsr, hsrc⟩ := hx.spec hvx
 have hfl2 : vs.length = l2.length * sz := by rw [← hvsr.1, aR_ hl2sz]
 obtain ⟨v', w', hrun, hown', hcase⟩ := fK_ (P := P) κ.w κ.base t tx ty e i z sz by_ hts hi hz hisz hiby hzs hsz (ev s) l.length us hown (ev x) l2.length vs hfl2 hsrc (by simp only [maxLen]; omega) hlen hI.base
 obtain ⟨κ', t', rfl, hle, hI', hr', htok'⟩ := fp_ hI hlsz hl2sz hus hvsr hIold hfreeold hown' hcase
 exact bj_ (s := Builtin.append_ #[t, tx] ty #[ev s, ev x]) (by simp [execOp, resolve, invoke, builtin]) ⟨v', κ'.w, hrun, κ', .own t' sz (l ++ l2), σ.newTok old t' (e, sz), rfl, hle, hI', hr', hk t' htok'⟩
theorem jN_ {src dst e : TypeId} {x : Operand} {s : ByteArray} (ho : o.op = .convert src dst x) (hs : P.underlying src = some .string) (hd : P.underlying dst = some (.slice e)) (he : P.underlying e = some (.int .u8)) (hx : α x = .lit (.string s)) (hsz : s.size ≤ 1099511627776)
  (hk : ∀ t', σ.tok t' = none → Kk (.own t' 1 (aJ_ s)) (σ.newTok none t' (e, 1))) : AOp P o α σ Kk := by
 obtain ⟨dst', op, ty, pos, after, guard⟩ := o
 obtain rfl : op = .convert src dst x := ho
 intro κ ev hI hxx
 have hv := hxx x (by simp [Op.operands])
 rw [hx] at hv
 have hr := run_bytes_of_string (P := P) κ.w src dst e s hs hd he
 have hge := grownCap_ge κ.w s.size 0 e
 have hcm := grownCap_le_maxLen κ.w s.size 0 e (by simp only [maxLen]; omega)
 have hl : (aJ_ s).length = s.size := aN_ s
 have hcl : (Go.byteCells s).length = s.size := byteCells_length s
 have hrow : (bytesRow s (grownCap κ.w s.size 0 e)).size = grownCap κ.w s.size 0 e := by
  have : s.data.size = s.size := rfl
  simp [bytesRow, this]; omega
 obtain ⟨κ', t', hw, hle, hI', hr', htok'⟩ := fp_ (e := e) (sz := 1) (l := []) (l2 := aJ_ s) (us := []) (vs := Go.byteCells s) (v0 := .slice none 0 0) (old := none) hI (by simp) (eD_ s) .nil (by rw [ci_]; exact RvC.byteCells s) (by simp [aO_]) (by simp [aO_])
  (v' := .slice (some ⟨κ.w.heap.size, 0, none⟩) s.size (grownCap κ.w s.size 0 e))
  (w' := κ.w.drew.alloc (.cells (bytesRow s (grownCap κ.w s.size 0 e)) e ((bytesRow s (grownCap κ.w s.size 0 e)).size, (bytesRow s (grownCap κ.w s.size 0 e)).size + 1)))
  ⟨by simp [hl, hcl], .inr ⟨κ.w.heap.size, grownCap κ.w s.size 0 e, _, _, by simp [hl], hI.base, heap_alloc_new κ.w.drew _, .inr (Nat.le_refl _), by simpa [hl] using hge, hcm, by simpa using hrow, by
   have hm : (s.data.map fun b => Value.int .u8 b.toNat).toList.length = s.size := by simp
   simp only [List.length_nil, Nat.zero_add, hl, Nat.mul_one, List.nil_append, bytesRow, Array.toList_append]
   rw [List.take_append_of_le_length (by omega), List.take_of_length_le (by omega)]
   simp [Go.byteCells]⟩⟩
  (.inr (.inr ⟨_, grownCap κ.w s.size 0 e, _, rfl, by simp [hl]⟩))
 refine bj_ (s := Go.convert src dst (ev x)) rfl ⟨_, _, by rw [hv.litInv]; exact hr, κ', .own t' 1 (aJ_ s), _, hw, hle, hI', by simpa using hr', hk t' htok'⟩
theorem gZ_ {t : TypeId} {x : Operand} {r : List AVal} (ho : o.op = .box t x) (hx : α x = .agg (.lit (.pointer none) :: r)) (hk : ∀ i, σ.heap i = none → Kk (.ref i 0) (σ.set i (.cells (.nilp i t (r.length + 1) :: r)))) : AOp P o α σ Kk := by
 obtain ⟨dst, op, ty, pos, after, guard⟩ := o
 obtain rfl : op = .box t x := ho
 intro κ ev hI hxx
 have hv := hxx x (by simp [Op.operands])
 rw [hx] at hv
 obtain ⟨vs, hvs, hn, hR⟩ := hv.aggInv
 obtain ⟨i, hi, hfree⟩ := hI.fresh
 have hsz : vs.size = r.length + 1 := by rw [hn]; rfl
 obtain ⟨κ', hw, hle, hρ, hI'⟩ := hI.alloc i hi (.cells (.nilp i t (r.length + 1) :: r)) (.cells vs t) fun κ' hle hh hρ' =>
  ⟨vs, t, hh, by simp [hsz], fun j hj => by
   have h1 := hR j (by simpa using hj)
   cases j with
   |zero =>
    simp only [List.getElem_cons_zero] at h1 ⊢
    rw [h1.litInv]
    exact .nilp i t _ κ.w.heap.size (by rw [hρ']; simp) (by unfold World.shape?; rw [hh]; simp [hsz])
   |succ j =>
    simp only [List.getElem_cons_succ] at h1 ⊢
    exact h1.mono hle⟩
 refine bj_ (s := Instr.box t (ev x)) rfl ⟨.pointer (some ⟨κ.w.heap.size, 0, none⟩), κ.w.alloc (.cells vs t), ?_, κ', .ref i 0, _, hw, hle, hI', .ref i 0 _ hρ, hk i hfree⟩
 rw [hvs]
 simp [Instr.box, newVar, newRow, Value.cells]
theorem gd_ {κ : K} (hI : Inv κ σ) {i n b : Nat} {e : TypeId} {r : List AVal} (hh : σ.heap i = some (.cells (.nilp i e n :: r))) (hb : κ.ρ i = some b) : κ.w.shape? b = some (e, n) := by
 obtain ⟨b', hb', _, _, c, e', hheap, hlen, hR⟩ := hI.heap i _ hh
 rw [hb] at hb'
 obtain rfl := Option.some.inj hb'
 have := hR 0 (by simp)
 generalize c.getD 0 undef = u at this
 simp only [List.getElem_cons_zero] at this
 cases this with
 |nilp _ _ _ b2 hb2 hs => rw [hb] at hb2; obtain rfl := Option.some.inj hb2; exact hs
theorem sO_ {κ : K} {i b off : Nat} {v : Value} (h : Rv κ (.ref i off) v) (hb : κ.ρ i = some b) : v = .pointer (some ⟨b, off, none⟩) := by
 cases h with
 |ref _ _ b' hb' => rw [hb] at hb'; obtain rfl := Option.some.inj hb'; rfl
theorem jQ_ {src dst t e : TypeId} {x : Operand} {i n : Nat} {r : List AVal} (ho : o.op = .convert src dst x) (hs : P.underlying src = some (.pointer t)) (hd : P.underlying dst = some .unsafePointer) (ht : ((P.info? t).map fun j => j.size == 0) = some false)
  (hx : α x = .ref i 0) (hh : σ.heap i = some (.cells (.nilp i e n :: r))) (hn : 0 < n) (hk : Kk (.ref i 0) σ) : AOp P o α σ Kk := by
 obtain ⟨dst', op, ty, pos, after, guard⟩ := o
 obtain rfl : op = _ := ho
 intro κ ev hI hxx
 have hv := hxx x (by simp [Op.operands])
 rw [hx] at hv
 obtain ⟨b, hb, _⟩ := hI.heap i _ hh
 have he := sO_ hv hb
 refine bj_ (s := convert src dst (ev x)) rfl ⟨.pointer (some ⟨b, 0, none⟩), κ.w, ?_, κ, _, σ, rfl, .refl κ, hI, .ref i 0 b hb, hk⟩
 rw [he]
 obtain ⟨j, ht, hj⟩ := Option.map_eq_some_iff.1 ht
 exact Lib.run_to_unsafe κ.w ⟨b, 0, none⟩ hs hd ht (by simpa using hj) (gd_ hI hh hb) hn
theorem im_ {src dst u e : TypeId} {x : Operand} {i n : Nat} {r : List AVal} (ho : o.op = .convert src dst x) (hs : P.underlying src = some .unsafePointer) (hd : P.underlying dst = some (.pointer u)) (hu : (P.info? u).isSome = true)
  (hx : α x = .ref i 0) (hh : σ.heap i = some (.cells (.nilp i e n :: r))) (hl : liesAt P P.depth e (n / P.cellsOf e) 0 u 1 = true) (hk : Kk (.ref i 0) σ) : AOp P o α σ Kk := by
 obtain ⟨dst', op, ty, pos, after, guard⟩ := o
 obtain rfl : op = _ := ho
 intro κ ev hI hxx
 have hv := hxx x (by simp [Op.operands])
 rw [hx] at hv
 obtain ⟨b, hb, _⟩ := hI.heap i _ hh
 have he := sO_ hv hb
 refine bj_ (s := convert src dst (ev x)) rfl ⟨.pointer (some ⟨b, 0, none⟩), κ.w, ?_, κ, _, σ, rfl, .refl κ, hI, .ref i 0 b hb, hk⟩
 rw [he]
 obtain ⟨j, hu⟩ := Option.isSome_iff_exists.1 hu
 exact Lib.run_from_unsafe κ.w ⟨b, 0, none⟩ hs hd hu (gd_ hI hh hb) hl
def jd_ (P : Program) (f : FuncId) : Option (Array Value → Sem Value) :=
 match P.funcs[f]? with
 |some fn => if !(fn.name == "runtime.NumGoroutine") && fn.body.isNone && (Extern.findNext fn).isNone then Extern.find fn else none
 |none => none
theorem n3_ {f : FuncId} {e : Array Value → Sem Value} (h : jd_ P f = some e) (args : Array Value) (w : World) : (callFunc f args).run P w = ((e args).run P w).andThen fun v w' => .ok (.value v) w' := by
 unfold jd_ at h
 split at h
 ·rename_i fn hf
  split at h
  ·rename_i hc
   simp only [Bool.and_eq_true, Bool.not_eq_true', Option.isNone_iff_eq_none] at hc
   exact run_callFunc_extern hf hc.1.1 (by simpa using hc.1.2) hc.2 h args w
  ·cases h
 ·cases h
theorem dO_ {f : FuncId} {args : Array Operand} {ts : Array TypeId} {e : Array Value → Sem Value} {a : AVal} (ho : o.op = .call { callee := .value (.func f), args := args, argTypes := ts }) (he : jd_ P f = some e)
  (hf : α (.func f) = .lit (.func (.func f) #[] #[])) (h : ∀ κ (ev : Operand → Value), Inv κ σ → (∀ x ∈ args, Rv κ (α x) (ev x)) → ∃ cv, (e (args.map ev)).run P κ.w = .ok cv κ.w ∧ Rv κ a cv) (hk : Kk a σ) : AOp P o α σ Kk := by
 obtain ⟨dst', op, ty, pos, after, guard⟩ := o
 obtain rfl : op = _ := ho
 intro κ ev hI hxx
 obtain ⟨cv, h1, h2⟩ := h κ ev hI fun x hx => hxx x (by simp [Op.operands, Call.operands, hx])
 have hfv : Rv κ (α (.func f)) (ev (.func f)) := hxx (.func f) (by simp [Op.operands, Call.operands])
 rw [hf] at hfv
 have hr : (execOp ev ⟨dst', .call { callee := .value (.func f), args := args, argTypes := ts }, ty, pos, after, guard⟩).run P κ.w = .ok (.value cv) κ.w := by
  simp only [execOp, resolve, Sem.run_bind, hfv.litInv, Deferred.ofValue, Sem.run_pure, Result.andThen_ok, invoke]
  rw [n3_ he]
  simp [h1]
 rw [hr]
 exact ⟨κ, a, σ, rfl, .refl κ, hI, h2, hk⟩
theorem t8_ {κ : K} {α : Operand → AVal} {x : Operand} {ev : Operand → Value} (h : Rv κ (α x) (ev x)) : ∃ cv, (Extern.AbiNoEscape.same (#[x].map ev)).run P κ.w = .ok cv κ.w ∧ Rv κ (α x) cv := ⟨ev x, by rw [show #[x].map ev = #[ev x] from by simp]; exact Lib.run_noEscape κ.w (ev x), h⟩
theorem fG_ {x : Operand} {t e : TypeId} {k : Nat} {l : List AVal} {e0 : TypeId} (ho : o.op = .call { callee := .builtin .unsafeSliceData, args := #[x], argTypes := #[t] }) (hty : P.underlying o.type = some (.pointer e))
  (hx : (α x = .own k 1 l ∧ σ.tok k = some (e0, 1)) ∨ (α x = .lit (.slice none 0 0) ∧ l = [])) (hk : Kk (.sdp k l) σ) : AOp P o α σ Kk := by
 obtain ⟨dst', op, ty, pos, after, guard⟩ := o
 obtain rfl : op = _ := ho
 intro κ ev hI hxx
 have hv := hxx x (by simp [Op.operands, Call.operands])
 have fin : ∀ (cv : Value) κ', (Builtin.unsafeSliceData_ #[t] ty #[ev x]).run P κ.w = .ok cv κ'.w → κ.Le κ' → Inv κ' σ → Rv κ' (.sdp k l) cv → Upon P (Post κ Kk) ((execOp ev ⟨dst', .call { callee := .builtin .unsafeSliceData, args := #[x], argTypes := #[t] }, ty, pos, after, guard⟩).run P κ.w) := fun cv κ' h1 h2 h3 h4 =>
  bj_ (s := Builtin.unsafeSliceData_ #[t] ty #[ev x]) (by simp [execOp, resolve, invoke, builtin]) ⟨cv, κ'.w, h1, κ', .sdp k l, σ, rfl, h2, h3, h4, hk⟩
 rcases hx with ⟨hx, htok⟩ | ⟨hx, rfl⟩
 ·rw [hx] at hv
  obtain ⟨v, hτ, n, xs, how, _⟩ := hI.tok k _ htok
  dsimp only at how
  generalize ev x = u at hv fin
  cases hv with
  |own _ _ _ _ h0 hτ' =>
   rw [hτ] at hτ'
   obtain rfl := Option.some.inj hτ'
   obtain ⟨a, cap, us, hev, _, _, _⟩ := dM_ h0
   rcases how.2 with ⟨h1, h2⟩ | ⟨g, cap', cur, fr, h1, hbg, hg, hfr, hnc, hcm, hcs, htk⟩
   ·rw [hev] at h1
    simp only [Value.slice.injEq] at h1
    obtain rfl : l = [] := List.eq_nil_of_length_eq_zero h1.2.1
    rw [hev, h1.1] at fin
    exact fin (.pointer none) κ (Lib.run_unsafeSliceData_nil κ.w _ _ _ _) (.refl κ) hI (.sdp0 k none)
   ·rw [hev] at h1
    simp only [Value.slice.injEq] at h1
    obtain ⟨rfl, hnl, rfl⟩ := h1
    subst hev
    by_cases hc : cap = 0
    ·subst hc
     obtain rfl : l = [] := List.eq_nil_of_length_eq_zero (by omega)
     obtain ⟨κ', hw, hle, _, hI'⟩ := pp_ hI (w1 := κ.w) (.inl rfl) (.view ⟨g, 0, none⟩ e) 0
     exact fin (.pointer (some ⟨κ.w.heap.size, 0, none⟩)) κ' (by rw [hw]; exact Lib.run_unsafeSliceData_zero κ.w _ ty e hty _ _ (e0, cur.size) (by unfold World.shape?; rw [hg])) hle hI' (.sdp0 k _)
    ·exact fin (.pointer (some ⟨g, 0, none⟩)) κ (Lib.run_unsafeSliceData_row κ.w _ _ _ _ _ hc) (.refl κ) hI (.sdp k l g cap h0 hτ)
 ·rw [hx] at hv
  rw [hv.litInv] at fin
  exact fin (.pointer none) κ (Lib.run_unsafeSliceData_nil κ.w _ _ _ _) (.refl κ) hI (.sdp0 k none)
theorem Store.delTok_sub (σ : Store) (k : Nat) : (σ.delTok k).Sub σ := ⟨fun _ _ h => h, fun t n h => by
 by_cases ht : t = k
 ·subst ht; simp [Store.delTok] at h
 ·simpa [Store.delTok, ht] using h⟩
theorem fk_ (w : World) {g b : Nat} (n : Nat) (h : b ≠ g) : (w.freeze ⟨g, 0, none⟩ n).heap[b]? = w.heap[b]? := by
 unfold World.freeze
 split
 ·rfl
 ·simp only [Array.getElem?_modify]; rw [if_neg (Ne.symm h)]
theorem kS_ (w : World) (a : Addr) (n b : Nat) : (w.freeze a n).shape? b = w.shape? b := by
 by_cases h0 : n = 0
 ·simp [World.freeze, h0]
 ·simp only [World.freeze, World.shape?, h0, if_false, Array.getElem?_modify]
  by_cases hb : a.block = b
  ·rw [if_pos hb]
   cases w.heap[b]? with
   |none => rfl
   |some x => cases x <;> rfl
  ·rw [if_neg hb]
theorem lb_ (w : World) (a : Addr) (n : Nat) (p : Addr) : (w.freeze a n).cell? p = w.cell? p := by
 by_cases h0 : n = 0
 ·simp [World.freeze, h0]
 ·simp only [World.freeze, World.cell?, h0, if_false, Array.getElem?_modify]
  by_cases hb : a.block = p.block
  ·rw [if_pos hb]
   cases w.heap[p.block]? with
   |none => rfl
   |some x => cases x <;> rfl
  ·rw [if_neg hb]
theorem gT_ {x y : Operand} {t t2 e : TypeId} {k : Nat} {s : ByteArray} (ho : o.op = .call { callee := .builtin .unsafeString, args := #[x, y], argTypes := #[t, t2] }) (ht : P.underlying t = some (.pointer e)) (hc : P.cellsOf e = 1)
  (hx : α x = .sdp k (aJ_ s)) (hy : α y = .lit (.int .i64 (s.size : Int))) (htok : s.size = 0 ∨ σ.tok k = some (e, 1)) (h63 : s.size ≤ 9223372036854775807) (hk : Kk (.lit (.string s)) (σ.delTok k)) : AOp P o α σ Kk := by
 obtain ⟨dst', op, ty, pos, after, guard⟩ := o
 obtain rfl : op = _ := ho
 intro κ ev hI hxx
 have hvx := hxx x (by simp [Op.operands, Call.operands])
 have hvy := hxx y (by simp [Op.operands, Call.operands])
 rw [hx] at hvx
 rw [hy] at hvy
 have hey := hvy.litInv
 have fin : ∀ κ', (Builtin.unsafeString_ #[t, t2] ty #[ev x, .int .i64 (s.size : Int)]).run P κ.w = .ok (.string s) κ'.w → κ.Le κ' → Inv κ' (σ.delTok k) → Upon P (Post κ Kk) ((execOp ev ⟨dst', .call { callee := .builtin .unsafeString, args := #[x, y], argTypes := #[t, t2] }, ty, pos, after, guard⟩).run P κ.w) := fun κ' h1 h2 h3 =>
  bj_ (s := Builtin.unsafeString_ #[t, t2] ty #[ev x, ev y]) (by simp [execOp, resolve, invoke, builtin]) ⟨.string s, κ'.w, by rw [hey]; exact h1, κ', .lit (.string s), _, rfl, h2, h3, .lit _, hk⟩
 by_cases h0 : s.size = 0
 ·have hs : s = .empty := by
   apply ByteArray.ext
   exact Array.eq_empty_of_size_eq_zero h0
  subst hs
  obtain ⟨a, ha⟩ : ∃ a, ev x = .pointer a := by
   generalize ev x = u at hvx
   cases hvx with
   |sdp0 => exact ⟨_, rfl⟩
   |sdp => exact ⟨_, rfl⟩
  exact fin κ (by rw [ha]; exact Lib.run_unsafeString_none κ.w t t2 ty a) (.refl κ) (hI.sub (Store.delTok_sub σ k))
 ·have htk : σ.tok k = some (e, 1) := htok.resolve_left h0
  generalize hu : ev x = u at hvx fin
  generalize hl : aJ_ s = l at hvx
  cases hvx with
  |sdp0 => exact absurd (by have := aN_ s; rw [hl] at this; simpa using this.symm) h0
  |sdp _ _ g c hsl hτ =>
   subst hl
   obtain ⟨v, hτ', n, xs, how, hIb⟩ := hI.tok k _ htk
   rw [hτ] at hτ'
   obtain rfl := Option.some.inj hτ'
   rcases how.2 with ⟨h1, _⟩ | ⟨g', cap', cur, fr, h1, hbg, hg, hfr, hnc, hcm, hcs, htkk⟩
   ·cases h1
   simp only [Value.slice.injEq, Option.some.injEq, Addr.mk.injEq, and_true] at h1
   obtain ⟨rfl, hnl, rfl⟩ := h1
   rw [aN_] at hnl
   obtain ⟨a, cap, us, hev, _, hr, hcells⟩ := dM_ hsl
   have hsl' : s.data.toList.length = s.size := by show _ = s.data.size; simp
   have hcell : ∀ (j : Nat) x, s.data.toList[j]? = some x → κ.w.cell? ((⟨g, 0, none⟩ : Addr).add j) = some (.int .u8 x.toNat) := by
    intro j x hj
    simp only [Value.slice.injEq] at hev
    obtain ⟨rfl, _, rfl⟩ := hev
    rcases hcells with ⟨h1, _⟩ | ⟨ad, h1, hcu⟩
    ·cases h1
    ·obtain rfl := Option.some.inj h1
     have hj' : j < s.data.toList.length := (List.getElem?_eq_some_iff.1 hj).1
     have hjl : j < (flat (aJ_ s)).length := by rw [ci_, aN_]; exact hsl' ▸ hj'
     have hju : j < us.length := by rw [← hr.1]; exact hjl
     have h2 := hr.2 j hjl hju
     have e3 : (flat (aJ_ s))[j] = .lit (.int .u8 x.toNat) := by
      simp only [ci_]
      simp only [aJ_, List.getElem_map]
      rw [(List.getElem?_eq_some_iff.1 hj).2]
     rw [e3] at h2
     have := hcu j us[j] (by simp [hju])
     rw [this, h2.litInv]
   have hrun := Lib.run_unsafeString_row (P := P) κ.w t t2 ty e ht hc g cur.size (by unfold World.shape?; rw [hg]) s.data.toList (by intro hh; apply h0; rw [← hsl', hh]; rfl) (by rw [hsl']; omega) (by rw [hsl']; exact h63) hcell
   have e1 : (s.data.toList.length : Int) = (s.size : Int) := by rw [hsl']
   have e2 : (⟨s.data.toList.toArray⟩ : ByteArray) = s := by cases s; simp
   rw [e1, e2] at hrun
   have hle : κ.Le { κ with w := κ.w.freeze ⟨g, 0, none⟩ s.data.toList.length } :=
    ⟨rfl, Lib.below_freeze (Below.refl _ _) hbg _, fun b sh h => by rw [kS_]; exact h, fun _ _ h => h, fun _ _ h => h, fun _ => Nat.le_refl _, fun b off v _ h => by rw [lb_]; exact h, by
     unfold World.freeze; split <;> exact Nat.le_refl _⟩
   refine fin { κ with w := κ.w.freeze ⟨g, 0, none⟩ s.data.toList.length } hrun hle ?_
   have sz : (κ.w.freeze ⟨g, 0, none⟩ s.data.toList.length).heap.size = κ.w.heap.size := by unfold World.freeze; split <;> simp
   have hI1 := hI.sub (Store.delTok_sub σ k)
   have tokne : ∀ t q, (σ.delTok k).tok t = some q → t ≠ k ∧ σ.tok t = some q := fun t q h => by
    by_cases ht : t = k
    ·subst ht; simp [Store.delTok] at h
    ·exact ⟨ht, by simpa [Store.delTok, ht] using h⟩
   exact {
    glob := hI.glob.le hle
    base := by rw [hle.base]; exact Nat.le_trans hI.base hle.below.size
    heap := fun i x hx => by
     obtain ⟨b, hb, hbase, hIb', hR⟩ := hI.heap i x hx
     have hne : b ≠ g := fun hh => hI.tokobj k _ _ g i x htk hτ rfl hx (by rw [hb, hh])
     exact ⟨b, hb, hbase, hIb', hR.mono hle (fk_ _ _ hne)⟩
    inj := hI1.inj
    tok := fun t q ht => by
     obtain ⟨hne, ht'⟩ := tokne t q ht
     obtain ⟨v, hv, hok⟩ := hI.tok t q ht'
     exact ⟨v, hv, hok.mono hle fun b hb => ⟨fk_ _ _ (fun hh => hne (hI.tokinj t k _ _ v _ g ht' htk hv hτ (by rw [hb, hh]) rfl)), rfl⟩⟩
    tokinj := hI1.tokinj
    tokobj := hI1.tokobj
    frO := hI.frO
    frT := hI.frT
    frI := fun b hb => hI.frI b (by rw [← sz]; exact hb) }
theorem gk_ {x y : Operand} {t t2 : TypeId} {k : Nat} (ho : o.op = .call { callee := .builtin .unsafeString, args := #[x, y], argTypes := #[t, t2] })
  (hx : α x = .sdp k []) (hy : α y = .lit (.int .i64 0)) (hk : Kk (.lit (.string ⟨#[]⟩)) σ) : AOp P o α σ Kk := by
 obtain ⟨dst', op, ty, pos, after, guard⟩ := o
 obtain rfl : op = _ := ho
 intro κ ev hI hxx
 have hvx := hxx x (by simp [Op.operands, Call.operands])
 have hvy := hxx y (by simp [Op.operands, Call.operands])
 rw [hx] at hvx
 rw [hy] at hvy
 obtain ⟨a, ha⟩ : ∃ a, ev x = .pointer a := by
  generalize ev x = u at hvx
  cases hvx with
  |sdp0 => exact ⟨_, rfl⟩
  |sdp => exact ⟨_, rfl⟩
 exact bj_ (s := Builtin.unsafeString_ #[t, t2] ty #[ev x, ev y]) (by simp [execOp, resolve, invoke, builtin]) ⟨.string ⟨#[]⟩, κ.w, by rw [hvy.litInv, ha]; exact Lib.run_unsafeString_none κ.w t t2 ty a, κ, .lit (.string ⟨#[]⟩), _, rfl, .refl κ, hI, .lit _, hk⟩
end
end Go.Ab
end

section
set_option linter.all false
namespace Go.Ab
open Go.RowKit (Below)
section
variable {P : Program} {o : Oper} {α : Operand → AVal} {σ : Store} {Kk : AVal → Store → Prop}
theorem dh_ {x : Operand} {t e : TypeId} (ho : o.op = .call { callee := .builtin .cap, args := #[x], argTypes := #[t] }) (ht : P.underlying t = some (.slice e)) (hx : α x = .lit (.slice none 0 0)) (hk : Kk (.lit (.int .i64 0)) σ) : AOp P o α σ Kk := by
 obtain ⟨dst, op, ty, pos, after, guard⟩ := o
 obtain rfl : op = _ := ho
 intro κ ev hI hxx
 have hv := hxx x (by simp [Op.operands, Call.operands])
 rw [hx] at hv
 refine bj_ (s := Builtin.cap_ #[t] ty #[ev x]) (by simp [execOp, resolve, invoke, builtin]) ⟨.int .i64 0, κ.w, ?_, κ, .lit (.int .i64 0), σ, rfl, .refl κ, hI, .lit _, hk⟩
 rw [hv.litInv]
 simp [Builtin.cap_, run_underlying ht, goInt]
theorem dI_ {s x : Operand} {t tx e : TypeId} {sz by_ n : Nat} {k0 kx : IntKind}
  (ho : o.op = .call { callee := .builtin .append, args := #[s, x], argTypes := #[t, tx] }) (hse : aA_ P t = some e) (hte : a6_ P e = some (sz, by_)) (htx : P.underlying tx = some (.int kx))
  (hs : α s = .lit (.slice none 0 0)) (hx : α x = .lit (.int k0 (n : Int))) (hn : 0 < n) (hlen : n * by_ ≤ 140737488355328)
  (hk : ∀ o', σ.heap o' = none → Kk (.msl o' sz 0 n) (σ.set o' (.cells []))) : AOp P o α σ Kk := by
 obtain ⟨dst, op, ty, pos, after, guard⟩ := o
 obtain rfl : op = .call { callee := .builtin .append, args := #[s, x], argTypes := #[t, tx] } := ho
 intro κ ev hI hxx
 obtain ⟨i, z, hi, hz, hisz, hiby, hzs, hsz, hby⟩ := aZ_ hte
 subst hisz
 subst hiby
 have hts : P.underlying t = some (.slice e) := by
  unfold aA_ at hse
  split at hse
  ·rename_i e' he'; obtain rfl := Option.some.inj hse; exact he'
  ·cases hse
 have hvs := hxx s (by simp [Op.operands, Call.operands])
 have hvx := hxx x (by simp [Op.operands, Call.operands])
 rw [hs] at hvs
 rw [hx] at hvx
 have hle47 : n ≤ 140737488355328 := Nat.le_trans (Nat.le_mul_of_pos_right _ hby) hlen
 have hold : (Builtin.firstCells i.size 0 (.slice none 0 0)).run P κ.w.drew = .ok ([] : List Value).toArray κ.w.drew := by simp [Builtin.firstCells]
 have hrun := Lib.run_append_grow_zeros κ.w t tx ty e i z k0 kx hts htx hi hz none 0 0 [] hold n hn hsz (by omega) (by omega) (by omega) (growslice_fits (by omega) (by simpa using hlen))
 simp only [Nat.zero_add] at hrun
 obtain ⟨o', ho', hfr⟩ := hI.fresh
 have hd := hI.drew
 have hge := grownCap_ge κ.w n 0 e
 obtain ⟨cap', hcap'⟩ : ∃ c, grownCap κ.w n 0 e = c := ⟨_, rfl⟩
 rw [hcap'] at hrun hge
 generalize hcc : (([] : List Value).toArray ++ Builtin.zeroCells z.cells n ++ Builtin.zeroCells z.cells (cap' - n)) = cc at hrun
 have hsize : cc.size = cap' * i.size := by
  rw [← hcc]
  simp only [Array.size_append, List.size_toArray, size_zeroCells, hzs, List.length_nil, Nat.zero_add, ← Nat.add_mul]
  congr 1; omega
 obtain ⟨κ', hw, hle, hρ, hI'⟩ := hd.2.alloc o' ho' (.cells []) (.cells cc e) fun κ' hle hh _ => ⟨_, e, hh, by simp, fun j hj => by simp at hj⟩
 have hheap : κ'.w.heap[κ.w.heap.size]? = some (.cells cc e (0, 0)) := by rw [hw]; exact Go.heap_alloc_new κ.w.drew _
 refine bj_ (s := Builtin.append_ #[t, tx] ty #[ev s, ev x]) (by simp [execOp, resolve, invoke, builtin]) ⟨_, _, by rw [hvs.litInv, hvx.litInv]; exact hrun, κ', .msl o' i.size 0 n, _, hw, hd.1.trans hle, hI', .msl o' i.size 0 n κ.w.heap.size cap' _ e hρ hge (by unfold World.shape?; rw [hheap]) (by rw [hsize]; omega), hk o' hfr⟩
theorem k4_ {s x : Operand} {t tx e : TypeId} {sz by_ : Nat}
  (ho : o.op = .call { callee := .builtin .append, args := #[s, x], argTypes := #[t, tx] }) (hse : aA_ P t = some e) (hte : a6_ P e = some (sz, by_))
  (hs : (∃ so len, α s = .msl so sz 0 len) ∨ α s = .lit (.slice none 0 0)) (hx : ASrc P sz tx (α x) []) (hk : Kk (α s) σ) : AOp P o α σ Kk := by
 obtain ⟨dst, op, ty, pos, after, guard⟩ := o
 obtain rfl : op = .call { callee := .builtin .append, args := #[s, x], argTypes := #[t, tx] } := ho
 intro κ ev hI hxx
 obtain ⟨i, z, hi, hz, hisz, hiby, hzs, hsz, hby⟩ := aZ_ hte
 have hts : P.underlying t = some (.slice e) := by
  unfold aA_ at hse
  split at hse
  ·rename_i e' he'; obtain rfl := Option.some.inj hse; exact he'
  ·cases hse
 have hvs := hxx s (by simp [Op.operands, Call.operands])
 have hvx := hxx x (by simp [Op.operands, Call.operands])
 obtain ⟨vs, _, hvsr, hsrc⟩ := hx.spec hvx
 have hv0 : vs = [] := List.eq_nil_of_length_eq_zero (by rw [← hvsr.1]; rfl)
 subst hv0
 obtain ⟨a, n, cap, he, hnc⟩ : ∃ a n cap, ev s = .slice a n cap ∧ n ≤ cap := by
  rcases hs with ⟨so, len, hs⟩ | hs
  ·rw [hs] at hvs
   generalize ev s = u at hvs
   cases hvs with
   |msl _ _ _ _ b cap n e hb hlen hs hn => exact ⟨_, _, _, rfl, hlen⟩
  ·rw [hs] at hvs
   exact ⟨none, 0, 0, hvs.litInv, Nat.le_refl _⟩
 refine bj_ (s := Builtin.append_ #[t, tx] ty #[ev s, ev x]) (by simp [execOp, resolve, invoke, builtin]) ⟨ev s, κ.w, ?_, κ, α s, σ, rfl, .refl κ, hI, hvs, hk⟩
 rw [he]
 exact dt_ hts hi hisz hsrc a n cap hnc
def CBp (σ0 σ : Store) (sz : Nat) (l : List AVal) (a : AVal) : Prop := (a = .lit (.slice none 0 0) ∧ l = [] ∧ σ = σ0) ∨ ∃ o, σ0.heap o = none ∧ a = .msl o sz 0 l.length ∧ σ = σ0.set o (.cells (flat l))
theorem CBp.sub {σ0 σ : Store} {sz : Nat} {l : List AVal} {a : AVal} (h : CBp σ0 σ sz l a) : σ0.Sub σ := by
 rcases h with ⟨_, _, rfl⟩ | ⟨o, ho, _, rfl⟩
 ·exact .refl _
 ·exact ⟨fun i x hx => by rw [Store.set_ne _ _ (fun hh => by rw [hh, ho] at hx; cases hx)]; exact hx, fun _ _ h => h⟩
theorem qY_ {σ0 : Store} {o o' : Nat} {x y : AObj} (ho : σ0.heap o = none) : ((σ0.set o x).delO (some o)).set o' y = σ0.set o' y := by
 show ((σ0.set o x).del o).set o' y = _
 rw [Store.set_del ho]
theorem ce_ {σ0 : Store} {s x : Operand} {t e : TypeId} {sz by_ : Nat} {l l2 : List AVal} {b : AVal}
  (ho : o.op = .call { callee := .builtin .append, args := #[s, x], argTypes := #[t, t] }) (hse : aA_ P t = some e) (hte : a6_ P e = some (sz, by_)) (hb : CBp σ0 σ sz l b) (hs : α s = b) (hsz : ∀ y ∈ l, y.cells.length = sz)
  (hx : slOf (α x) = some (sz, l2)) (hone : ∀ y ∈ l2, ∀ c ∈ y.cells, c.one = true) (hlen : (l.length + l2.length) * by_ ≤ 140737488355328)
  (hk : ∀ a' σ', CBp σ0 σ' sz (l ++ l2) a' → Kk a' σ') : AOp P o α σ Kk := by
 subst hs
 have hts : P.underlying t = some (.slice e) := by
  unfold aA_ at hse
  split at hse
  ·rename_i e' he'; obtain rfl := Option.some.inj hse; exact he'
  ·cases hse
 by_cases hne : l2 = []
 ·subst hne
  refine k4_ ho hse hte ?_ (.inl ⟨⟨_, hts⟩, .inl hx, hone⟩) (hk _ _ (by rwa [List.append_nil]))
  rcases hb with ⟨h, _⟩ | ⟨o, _, h, _⟩
  ·exact .inr h
  ·exact .inl ⟨o, _, h⟩
 ·have hfl := aR_ hsz
  rcases hb with ⟨h, rfl, rfl⟩ | ⟨ob, hob, h, rfl⟩
  ·refine d6_ ho hse hte (len := 0) (.inr ⟨h, rfl, rfl, rfl⟩) hx hne hone (by simpa using hlen) fun o' ho' => hk _ _ (.inr ⟨o', ho', by simp, ?_⟩)
   simp [Store.delO]
  ·refine d6_ ho hse hte (.inl ⟨ob, flat l, h, Store.set_get .., rfl, rfl, by rw [hfl]; exact Nat.le_refl _⟩) hx hne hone hlen fun o' ho' => hk _ _ (.inr ⟨o', ?_, by simp, ?_⟩)
   ·by_cases hh : o' = ob
    ·rw [hh]; exact hob
    ·rwa [Store.set_ne _ _ hh] at ho'
   ·rw [qY_ hob, List.take_of_length_le (by rw [hfl]; exact Nat.le_refl _), a7_]
theorem ai_.wkA {f : FuncId} {args args' : List AVal} {Q : AVal → Store → Prop} (h : ai_ P f args' σ Q) (hn : args.length = args'.length) (hw : ∀ i (hi : i < args.length) (hi' : i < args'.length), Wk args[i] args'[i]) : ai_ P f args σ Q :=
 fun κ vs hI hs hv => h κ vs hI (hs.trans hn) fun i hi => (hv i (by omega)).wk (hw i (by omega) hi)
end
end Go.Ab
end

section
set_option linter.all false
namespace Go.Ab
open Go.RowKit (Below)
section
variable {P : Program} {o : Oper} {α : Operand → AVal} {σ : Store} {Kk : AVal → Store → Prop}
theorem gv_ {κ : K} {so sz off len cap : Nat} {e : TypeId} {v : Value} (h : Rv κ (.mslc so sz off len cap e) v) : ∃ b, v = .slice (some ⟨b, off, none⟩) len cap ∧ κ.ρ so = some b ∧ len ≤ cap ∧ κ.w.shape? b = some (e, off + cap * sz) := by
 cases h with
 |mslc _ _ _ _ _ _ b n hb hlen hs hn => subst hn; exact ⟨b, rfl, hb, hlen, hs⟩
theorem bb_ {t e : TypeId} (hse : aA_ P t = some e) : P.underlying t = some (.slice e) := by
 unfold aA_ at hse
 split at hse
 ·rename_i e' he'; obtain rfl := Option.some.inj hse; exact he'
 ·cases hse
theorem lZ_ {x : Operand} {t e e' : TypeId} {so sz off len cap : Nat} (ho : o.op = .call { callee := .builtin .len, args := #[x], argTypes := #[t] }) (hse : aA_ P t = some e) (hx : α x = .mslc so sz off len cap e') (hk : Kk (.lit (.int .i64 len)) σ) : AOp P o α σ Kk := by
 obtain ⟨dst, op, ty, pos, after, guard⟩ := o
 obtain rfl : op = _ := ho
 intro κ ev hI hxx
 have hv := hxx x (by simp [Op.operands, Call.operands])
 rw [hx] at hv
 obtain ⟨b, hev, _⟩ := gv_ hv
 refine bj_ (s := Builtin.len_ #[t] ty #[ev x]) (by simp [execOp, resolve, invoke, builtin]) ⟨.int .i64 len, κ.w, ?_, κ, .lit (.int .i64 len), σ, rfl, .refl κ, hI, .lit _, hk⟩
 rw [hev]
 simp [Builtin.len_, run_underlying (bb_ hse), goInt]
theorem lY_ {x : Operand} {t e e' : TypeId} {so sz off len cap : Nat} (ho : o.op = .call { callee := .builtin .cap, args := #[x], argTypes := #[t] }) (hse : aA_ P t = some e) (hx : α x = .mslc so sz off len cap e') (hk : Kk (.lit (.int .i64 cap)) σ) : AOp P o α σ Kk := by
 obtain ⟨dst, op, ty, pos, after, guard⟩ := o
 obtain rfl : op = _ := ho
 intro κ ev hI hxx
 have hv := hxx x (by simp [Op.operands, Call.operands])
 rw [hx] at hv
 obtain ⟨b, hev, _⟩ := gv_ hv
 refine bj_ (s := Builtin.cap_ #[t] ty #[ev x]) (by simp [execOp, resolve, invoke, builtin]) ⟨.int .i64 cap, κ.w, ?_, κ, .lit (.int .i64 cap), σ, rfl, .refl κ, hI, .lit _, hk⟩
 rw [hev]
 simp [Builtin.cap_, run_underlying (bb_ hse), goInt]
theorem gG_ {κ : K} {t e : TypeId} {ti : TypeInfo} (ht : P.underlying t = some (.slice e)) (hti : P.info? e = some ti) {lo hi : Option Operand} {ev : Operand → Value} {b off len cap l h : Nat} (hf : ∀ y, (lo = some y ∨ hi = some y) → Rv κ (α y) (ev y)) (hl : alow (lo.map α) = some l) (hh : fJ_ len (hi.map α) = some h) (h1 : l ≤ h) (h2 : h ≤ cap) :
  (Instr.sliceAt t (.slice (some ⟨b, off, none⟩) len cap) (lo.map ev) (hi.map ev) none).run P κ.w = .ok (.slice (if cap = l then some ⟨b, off, none⟩ else some ⟨b, off + l * ti.size, none⟩) (h - l) (cap - l)) κ.w := by
 unfold Instr.sliceAt Instr.slice
 simp only [Sem.run_bind, run_underlying ht, Result.andThen_ok]
 rw [bF_ (α := α) hf hl hh h1 h2]
 simp only [Result.andThen_ok, aT_ hti, Sem.run_pure, Option.map_some, bA_]
theorem gJ_ {x : Operand} {t e e' : TypeId} {lo hi : Option Operand} {so sz by_ off len cap l h : Nat} (ho : o.op = .slice t x lo hi none) (hse : aA_ P t = some e) (hte : a6_ P e = some (sz, by_)) (hx : α x = .mslc so sz off len cap e') (hl : alow (lo.map α) = some l) (hh : fJ_ len (hi.map α) = some h) (h1 : l ≤ h) (h2 : h ≤ cap) (hk : Kk .any σ) : AOp P o α σ Kk := by
 obtain ⟨dst, op, ty, pos, after, guard⟩ := o
 obtain rfl : op = _ := ho
 intro κ ev hI hxx
 have hv := hxx x (by simp [Op.operands])
 rw [hx] at hv
 obtain ⟨b, hev, _⟩ := gv_ hv
 obtain ⟨i, z, hi', _⟩ := aZ_ hte
 have hr := gG_ (P := P) (α := α) (κ := κ) (ev := ev) (b := b) (off := off) (bb_ hse) hi' (fun y hy => hxx y (by simp only [Op.operands]; rcases hy with rfl | rfl <;> simp)) hl hh h1 h2
 refine bj_ (s := Instr.sliceAt t (ev x) (lo.map ev) (hi.map ev) (none.map ev)) rfl ⟨_, κ.w, by rw [hev]; exact hr, κ, .any, σ, rfl, .refl κ, hI, .any _, hk⟩
theorem ix_ {x : Operand} {t e e' : TypeId} {lo hi : Option Operand} {so sz by_ off len cap l h : Nat} (ho : o.op = .slice t x lo hi none) (hse : aA_ P t = some e) (hte : a6_ P e = some (sz, by_)) (hx : α x = .mslc so sz off len cap e') (hl : alow (lo.map α) = some l) (hh : fJ_ len (hi.map α) = some h) (h1 : l ≤ h) (h2 : h ≤ cap) (h0 : l = 0 ∨ l < cap) (hk : Kk (.mslc so sz (off + l * sz) (h - l) (cap - l) e') σ) : AOp P o α σ Kk := by
 obtain ⟨dst, op, ty, pos, after, guard⟩ := o
 obtain rfl : op = _ := ho
 intro κ ev hI hxx
 have hv := hxx x (by simp [Op.operands])
 rw [hx] at hv
 obtain ⟨b, hev, hb, hlc, hs⟩ := gv_ hv
 obtain ⟨i, z, hi', _, hsz, _⟩ := aZ_ hte
 have hr := gG_ (P := P) (α := α) (κ := κ) (ev := ev) (b := b) (off := off) (bb_ hse) hi' (fun y hy => hxx y (by simp only [Op.operands]; rcases hy with rfl | rfl <;> simp)) hl hh h1 h2
 have hif : (if cap = l then some (⟨b, off, none⟩ : Addr) else some ⟨b, off + l * i.size, none⟩) = some ⟨b, off + l * sz, none⟩ := by
  rw [hsz]
  split
  ·rename_i hcl
   rcases h0 with h0 | h0
   ·subst h0; simp
   ·omega
  ·rfl
 rw [hif] at hr
 refine bj_ (s := Instr.sliceAt t (ev x) (lo.map ev) (hi.map ev) (none.map ev)) rfl ⟨_, κ.w, by rw [hev]; exact hr, κ, .mslc so sz (off + l * sz) (h - l) (cap - l) e', σ, rfl, .refl κ, hI, .mslc so sz _ _ _ e' b _ hb (by omega) hs ?_, hk⟩
 rw [Nat.add_assoc, ← Nat.add_mul, show l + (cap - l) = cap by omega]
theorem Inv.reobj {κ : K} {x y : AObj} {so b : Nat} (h : Inv κ σ) (hh : σ.heap so = some x) (hb : κ.ρ so = some b) (hr : ORel κ y b) : Inv κ (σ.set so y) := by
 have hget : ∀ i z, (σ.set so y).heap i = some z → (i = so ∧ z = y) ∨ (i ≠ so ∧ σ.heap i = some z) := fun i z hz => by
  by_cases hi : i = so
  ·subst hi; rw [Store.set_get] at hz; exact .inl ⟨rfl, (Option.some.inj hz).symm⟩
  ·rw [Store.set_ne _ _ hi] at hz; exact .inr ⟨hi, hz⟩
 have hold : ∀ i z, (σ.set so y).heap i = some z → ∃ z', σ.heap i = some z' := fun i z hz => by
  rcases hget i z hz with ⟨rfl, _⟩ | ⟨_, hz⟩
  ·exact ⟨_, hh⟩
  ·exact ⟨_, hz⟩
 refine ⟨h.glob, h.base, fun i z hz => ?_, fun i i' z z' k hz hz' => ?_, h.tok, h.tokinj, fun t q v k i z ht hv hk hz => ?_, h.frO, h.frT, h.frI⟩
 ·rcases hget i z hz with ⟨rfl, rfl⟩ | ⟨_, hz⟩
  ·obtain ⟨b', hb', hbase, hIb, _⟩ := h.heap _ _ hh
   rw [hb] at hb'
   obtain rfl := Option.some.inj hb'
   exact ⟨b, hb, hbase, hIb, hr⟩
  ·exact h.heap i z hz
 ·obtain ⟨u, hu⟩ := hold i z hz
  obtain ⟨u', hu'⟩ := hold i' z' hz'
  exact h.inj i i' u u' k hu hu'
 ·obtain ⟨u, hu⟩ := hold i z hz
  exact h.tokobj t q v k i u ht hv hk hu
theorem iy_ {x y : Operand} {t e e' : TypeId} {so sz by_ len cap h : Nat} {cs : List AVal} (ho : o.op = .slice t x none (some y) none) (hse : aA_ P t = some e) (hte : a6_ P e = some (sz, by_)) (hx : α x = .mslc so sz 0 len cap e') (hy : ev_ (α y) = some h) (hh : σ.heap so = some (.cells cs)) (h2 : h ≤ cap) (hcs : cs.length ≤ h * sz)
  (hk : Kk (.msl so sz 0 h) (σ.set so (.cells (cs ++ List.replicate (h * sz - cs.length) .any)))) : AOp P o α σ Kk := by
 obtain ⟨dst, op, ty, pos, after, guard⟩ := o
 obtain rfl : op = _ := ho
 intro κ ev hI hxx
 have hv := hxx x (by simp [Op.operands])
 rw [hx] at hv
 obtain ⟨b, hev, hb, hlc, hs⟩ := gv_ hv
 obtain ⟨i, z, hi', _, hsz, _⟩ := aZ_ hte
 have hr := gG_ (P := P) (α := α) (κ := κ) (ev := ev) (b := b) (off := 0) (len := len) (lo := none) (hi := some y) (bb_ hse) hi' (fun u hu => hxx u (by simp only [Op.operands]; rcases hu with hu | hu; cases hu; cases hu; simp)) rfl (l := 0) hy (Nat.zero_le _) h2
 have hif : (if cap = 0 then some (⟨b, 0, none⟩ : Addr) else some ⟨b, 0 + 0 * i.size, none⟩) = some ⟨b, 0, none⟩ := by split <;> simp
 rw [hif] at hr
 obtain ⟨b', hb', hbase, hIb, c, e2, hc, hl, hR⟩ := hI.heap so _ hh
 rw [hb] at hb'
 obtain rfl := Option.some.inj hb'
 have hcz : c.size = cap * sz := by
  unfold World.shape? at hs
  rw [hc] at hs
  simp only [Option.some.injEq, Prod.mk.injEq] at hs
  omega
 have hle : h * sz ≤ cap * sz := Nat.mul_le_mul_right _ h2
 have hI' : Inv κ (σ.set so (.cells (cs ++ List.replicate (h * sz - cs.length) .any))) := hI.reobj hh hb ⟨c, e2, hc, by rw [List.length_append, List.length_replicate]; omega, fun j hj => by
  by_cases hlt : j < cs.length
  ·rw [List.getElem_append_left hlt]; exact hR j hlt
  ·rw [List.getElem_append_right (by omega), List.getElem_replicate]; exact .any _⟩
 refine bj_ (s := Instr.sliceAt t (ev x) (none.map ev) ((some y).map ev) (none.map ev)) rfl ⟨_, κ.w, by rw [hev]; exact hr, κ, .msl so sz 0 h, _, rfl, .refl κ, hI', ?_, hk⟩
 simp only [Nat.sub_zero]
 exact .msl so sz 0 h b cap _ e' hb h2 hs (Nat.le_refl _)
def SrcA (σ : Store) (a : AVal) (sz n : Nat) (srcs : List AVal) : Prop := (∃ l, slOf a = some (sz, l) ∧ n = l.length ∧ srcs = flat l) ∨ ∃ so off cs, a = .msl so sz off n ∧ σ.heap so = some (.cells cs) ∧ srcs = cs.drop off
theorem cX_ {x y : Operand} {t t2 e : TypeId} {d sz by_ off dlen n m : Nat} {cs srcs : List AVal} (ho : o.op = .call { callee := .builtin .copy, args := #[x, y], argTypes := #[t, t2] }) (hse : aA_ P t = some e) (hte : a6_ P e = some (sz, by_))
  (hx : α x = .msl d sz off dlen) (hh : σ.heap d = some (.cells cs)) (hy : SrcA σ (α y) sz n srcs) (hm : m = Nat.min n dlen) (h0 : 0 < m) (hs : m * sz ≤ srcs.length) (hone : ∀ a ∈ srcs.take (m * sz), a.one = true) (hd : off + m * sz ≤ cs.length)
  (hk : Kk (.lit (.int .i64 m)) (σ.set d (.cells (aput cs off (srcs.take (m * sz)))))) : AOp P o α σ Kk := by
 obtain ⟨dst, op, ty, pos, after, guard⟩ := o
 obtain rfl : op = _ := ho
 intro κ ev hI hxx
 obtain ⟨i, z, hi, hz, hisz, hiby, hzs, hsz, hby⟩ := aZ_ hte
 have hts := bb_ hse
 have hvx := hxx x (by simp [Op.operands, Call.operands])
 have hvy := hxx y (by simp [Op.operands, Call.operands])
 rw [hx] at hvx
 obtain ⟨b, dc, hev, hb⟩ : ∃ b dc, ev x = .slice (some ⟨b, off, none⟩) dlen dc ∧ κ.ρ d = some b := by
  generalize ev x = u at hvx
  cases hvx with
  |msl _ _ _ _ b cap n el hb hlc hsh hcap => exact ⟨b, cap, rfl, hb⟩
 obtain ⟨ad, sc, us, hevy, hrc, hcu⟩ : ∃ ad sc us, ev y = .slice (some ad) n sc ∧ RvC κ (srcs.take (m * sz)) us ∧ ∀ j u, us[j]? = some u → κ.w.cell? (ad.add j) = some u := by
  rcases hy with ⟨l, hsl, hn, rfl⟩ | ⟨so, so_off, cs2, hmsl, hh2, rfl⟩
  ·obtain ⟨a, cap, us2, hev2, hsz', hr, hc⟩ := dM_ (c6_ hsl hvy)
   rcases hc with ⟨_, h1, _⟩ | ⟨ad, rfl, hcu⟩
   ·subst h1; simp at hn; subst hn; simp [Nat.min_def] at hm; omega
   ·refine ⟨ad, cap, us2.take (m * sz), by rw [hn]; exact hev2, ⟨by simp [hr.1], fun j hj hj' => ?_⟩, fun j u hu => hcu j u ?_⟩
    ·rw [List.getElem_take, List.getElem_take]; exact hr.2 j _ _
    ·rw [List.getElem?_take] at hu
     split at hu
     ·exact hu
     ·cases hu
  ·rw [hmsl] at hvy
   generalize ev y = u at hvy ⊢
   cases hvy with
   |msl _ _ _ _ b2 cap2 n2 el hb2 hlc hsh hcap =>
    obtain ⟨b3, hb3, _, _, c, e3, hc, hl, hR⟩ := hI.heap so _ hh2
    rw [hb2] at hb3
    obtain rfl := Option.some.inj hb3
    rw [List.length_drop] at hs
    refine ⟨⟨b2, so_off, none⟩, cap2, (List.range (m * sz)).map fun j => c.getD (so_off + j) undef, rfl, ⟨by simp; omega, fun j hj hj' => ?_⟩, fun j u hu => ?_⟩
    ·have hj2 : j < m * sz := by simpa using hj'
     rw [List.getElem_take, List.getElem_drop, List.getElem_map, List.getElem_range]
     exact hR (so_off + j) (by omega)
    ·rw [List.getElem?_map] at hu
     cases hq : (List.range (m * sz))[j]? with
     |none => rw [hq] at hu; cases hu
     |some q =>
      rw [hq] at hu
      have hjm : j < m * sz := by
       have := (List.getElem?_eq_some_iff.1 hq).1
       simpa using this
      rw [List.getElem?_range hjm] at hq
      obtain rfl := Option.some.inj hq
      have hu' := Option.some.inj hu
      rw [bA_, cell_of_row _ _ _ _ _ _ hc, ← hu']
      simp [show so_off + j < c.size by omega]
 have hul : us.length = m * sz := by rw [← hrc.1, List.length_take]; omega
 obtain ⟨w', h1, h2, h3⟩ := bP_ (P := P) (b := b) (off := off) (i := d) (srcs.take (m * sz)) us 0 κ σ cs hI hh hb hrc.1.symm (fun k hk hk' => hrc.2 k hk hk') hone (by rw [List.length_take]; omega)
 have hfc := run_firstCells_some (P := P) κ.w sz m ad n sc us hul hcu
 refine bj_ (s := Builtin.copy_ #[t, t2] ty #[ev x, ev y]) (by simp [execOp, resolve, invoke, builtin]) ⟨.int .i64 m, w', ?_, { κ with w := w' }, .lit (.int .i64 m), _, rfl, h2, h3, .lit _, by rw [Nat.add_zero]; exact hk⟩
 rw [hev, hevy]
 simp [Builtin.copy_, run_underlying hts, Builtin.lenOf, aT_ hi, hisz, ← hm, hfc, h1, goInt]
theorem jP_ {s x : Operand} {t tx e e' : TypeId} {so sz by_ len cap n : Nat} {cs : List AVal} {k0 kx : IntKind}
  (ho : o.op = .call { callee := .builtin .append, args := #[s, x], argTypes := #[t, tx] }) (hse : aA_ P t = some e) (hte : a6_ P e = some (sz, by_)) (htx : P.underlying tx = some (.int kx))
  (hs : α s = .mslc so sz 0 len cap e') (hh : σ.heap so = some (.cells cs)) (hx : α x = .lit (.int k0 (n : Int))) (hn : 0 < n) (hg : cap < len + n) (hcs : len * sz ≤ cs.length) (hlen : (len + n) * by_ ≤ 140737488355328)
  (hk : ∀ o', σ.heap o' = none → Kk (.msl o' sz 0 (len + n)) (σ.set o' (.cells (cs.take (len * sz) ++ List.replicate (n * sz) .any)))) : AOp P o α σ Kk := by
 obtain ⟨dst, op, ty, pos, after, guard⟩ := o
 obtain rfl : op = .call { callee := .builtin .append, args := #[s, x], argTypes := #[t, tx] } := ho
 intro κ ev hI hxx
 obtain ⟨i, z, hi, hz, hisz, hiby, hzs, hsz, hby⟩ := aZ_ hte
 subst hisz
 subst hiby
 have hts := bb_ hse
 have hvs := hxx s (by simp [Op.operands, Call.operands])
 have hvx := hxx x (by simp [Op.operands, Call.operands])
 rw [hs] at hvs
 rw [hx] at hvx
 obtain ⟨b, hev, hb, hlc, hsh⟩ := gv_ hvs
 obtain ⟨b', hb', _, _, c, e2, hc, hl, hR⟩ := hI.heap so _ hh
 rw [hb] at hb'
 obtain rfl := Option.some.inj hb'
 obtain ⟨us, hus⟩ : ∃ us, us = (List.range (len * i.size)).map fun j => c.getD j undef := ⟨_, rfl⟩
 have hul : us.length = len * i.size := by rw [hus]; simp
 have hget : ∀ j (hj : j < us.length), us[j] = c.getD j undef := fun j hj => by subst hus; simp
 have hle47 : len + n ≤ 140737488355328 := Nat.le_trans (Nat.le_mul_of_pos_right _ hby) hlen
 have hold : (Builtin.firstCells i.size len (.slice (some ⟨b, 0, none⟩) len cap)).run P κ.w.drew = .ok us.toArray κ.w.drew :=
  run_firstCells_some (P := P) κ.w.drew i.size len ⟨b, 0, none⟩ len cap us hul (fun j u hu => by
   obtain ⟨hj, rfl⟩ := List.getElem?_eq_some_iff.1 hu
   have hc' : κ.w.drew.heap[b]? = some (.cells c e2 (0, 0)) := hc
   rw [bA_, Nat.zero_add, cell_of_row _ _ _ _ _ _ hc', hget j hj]
   simp [show j < c.size by omega])
 have hnb : n * i.bytes ≤ (len + n) * i.bytes := Nat.mul_le_mul_right _ (by omega)
 have hrun := Lib.run_append_grow_zeros (ty := ty) κ.w t tx e i z k0 kx hts htx hi hz (some ⟨b, 0, none⟩) len cap us hold n hn hsz hg (by omega) (by omega) (growslice_fits (by omega) hlen)
 obtain ⟨o', ho', hfr⟩ := hI.fresh
 have hd := hI.drew
 have hge := grownCap_ge κ.w (len + n) cap e
 obtain ⟨cap', hcap'⟩ : ∃ q, grownCap κ.w (len + n) cap e = q := ⟨_, rfl⟩
 rw [hcap'] at hrun hge
 generalize hcc : (us.toArray ++ Builtin.zeroCells z.cells n ++ Builtin.zeroCells z.cells (cap' - (len + n))) = cc at hrun
 have hsize : cc.size = cap' * i.size := by
  rw [← hcc]
  simp only [Array.size_append, List.size_toArray, size_zeroCells, hzs, hul, ← Nat.add_mul]
  congr 1; omega
 have hcl : cap' * i.size ≥ (len + n) * i.size := Nat.mul_le_mul_right _ hge
 obtain ⟨κ', hw, hle, hρ, hI'⟩ := hd.2.alloc o' ho' (.cells (cs.take (len * i.size) ++ List.replicate (n * i.size) .any)) (.cells cc e) fun κ' hle hh' _ => ⟨_, e, hh', by rw [List.length_append, List.length_take, List.length_replicate, hsize]; rw [Nat.add_mul] at hcl; omega, fun j hj => by
  by_cases hlt : j < len * i.size
  ·rw [List.getElem_append_left (by rw [List.length_take]; omega), List.getElem_take]
   have hju : j < us.length := by omega
   have e1 : cc.getD j undef = us[j] := by
    rw [← hcc]
    simp only [Array.getD_eq_getD_getElem?, Array.append_assoc]
    rw [Array.getElem?_append_left (by simpa using hju)]
    simp [hju]
   rw [e1, hget j hju]
   exact (hR j (by omega)).mono (hd.1.trans hle)
  ·rw [List.getElem_append_right (by rw [List.length_take]; omega), List.getElem_replicate]; exact .any _⟩
 have hheap : κ'.w.heap[κ.w.heap.size]? = some (.cells cc e (0, 0)) := by rw [hw]; exact Go.heap_alloc_new κ.w.drew _
 refine bj_ (s := Builtin.append_ #[t, tx] ty #[ev s, ev x]) (by simp [execOp, resolve, invoke, builtin]) ⟨_, _, by rw [hev, hvx.litInv]; exact hrun, κ', .msl o' i.size 0 (len + n), _, hw, hd.1.trans hle, hI', .msl o' i.size 0 (len + n) κ.w.heap.size cap' _ e hρ hge (by unfold World.shape?; rw [hheap]) (by rw [hsize]; omega), hk o' hfr⟩
set_option maxHeartbeats 2000000 in
theorem eZ_ {t e : TypeId} {n sz by_ : Nat} {parts : List (Nat × Operand)} {l : List AVal} (ho : o.op = .buildSlice t n parts.toArray) (hse : aA_ P t = some e) (hte : a6_ P e = some (sz, by_)) (hn : parts.length = n) (hr : parts.map (·.1) = List.range' 0 parts.length) (hl0 : (parts.map fun p => α p.2) = l)
  (hs : ∀ p ∈ parts, (α p.2).solid = true ∧ (α p.2).cells.length = sz) (hbig : n * sz ≤ 16777216) (hk : ∀ i, σ.heap i = none → Kk (.msl i sz 0 n) (σ.set i (.cells (flat l)))) : AOp P o α σ Kk := by
 obtain ⟨dst, op, ty, pos, after, guard⟩ := o
 obtain rfl : op = .buildSlice t n parts.toArray := ho
 subst hl0
 intro κ ev hI hx
 obtain ⟨i, z, hi, hz, hisz, hiby, hzs, hsz, hby⟩ := aZ_ hte
 have hts := bb_ hse
 have hzv : cD_ P e = some z := by simp [cD_, hi, hz]
 have hpx : ∀ p ∈ parts, Rv κ (α p.2) (ev p.2) := fun p hp => hx p.2 (by
  simp only [Op.operands, List.map_toArray, List.mem_toArray, List.mem_map]
  exact ⟨p, hp, rfl⟩)
 obtain ⟨zs, hzs0⟩ : ∃ zs : Array Value, zs = (if n * sz = 0 then (#[] : Array Value) else z.cells) := ⟨_, rfl⟩
 obtain ⟨us, hus⟩ : ∃ us : Array Value, us = (Array.range (n * sz)).map (zs[·% zs.size]!) := ⟨_, rfl⟩
 have husz : us.size = n * sz := by rw [hus]; simp
 have hany : RvL κ (us.toList.map .lit) us := ⟨by simp, fun j hj => by
  have hj' : j < us.size := by simpa using hj
  simp only [List.getElem_map]
  rw [show us.getD j undef = us.toList[j]'(by simpa using hj') by simp [hj']]
  exact .lit _⟩
 obtain ⟨rs, hrs, hrr⟩ := eV_ (κ := κ) (fun i => some (i * sz, sz)) parts (us.toList.map .lit) us _ hpx hany (fo_ parts 0 _ hr hs (by simp [husz, hn]))
 rw [Nat.zero_mul, List.take_zero, List.nil_append] at hrr
 have hszl : ∀ x ∈ (parts.map fun p => α p.2), x.cells.length = sz := fun x hx => by
  obtain ⟨p, hp, rfl⟩ := List.mem_map.1 hx
  exact (hs p hp).2
 have hfl : (flat (parts.map fun p => α p.2)).length = n * sz := by rw [aR_ hszl, List.length_map, hn]
 obtain ⟨oi, hoi, hfree⟩ := hI.fresh
 have hrsz : rs.size = n * sz := by
  have := hrr.1
  simp only [List.length_append, List.length_drop, List.length_map, Array.length_toList, husz, hfl] at this
  omega
 obtain ⟨κ', hw, hle, hρ, hI'⟩ := hI.alloc oi hoi (.cells (flat (parts.map fun p => α p.2))) (.cells rs e) fun κ' hle hh _ => ⟨_, e, hh, by rw [hfl, hrsz]; exact Nat.le_refl _, fun j hj => by
  exact (hrr.2 j hj).mono hle⟩
 have hheap : κ'.w.heap[κ.w.heap.size]? = some (.cells rs e (0, 0)) := by rw [hw]; exact heap_alloc_new _ _
 refine bj_ (s := Instr.buildSlice t n (parts.toArray.map fun (i, x) => (i, ev x))) rfl ⟨.slice (some ⟨κ.w.heap.size, 0, none⟩) n n, κ.w.alloc (.cells rs e), ?_, κ', .msl oi sz 0 n, _, hw, hle, hI', .msl oi sz 0 n κ.w.heap.size n _ e hρ (Nat.le_refl _) (by unfold World.shape?; rw [hheap]) (by rw [hrsz]; omega), hk oi hfree⟩
 unfold Instr.buildSlice
 simp only [Sem.run_bind, run_underlying hts, Result.andThen_ok, aT_ hi, hisz]
 rw [if_neg (by omega)]
 have hfill : Instr.fill (fun i => some (i * sz, sz)) us (parts.toArray.map fun (i, x) => (i, ev x)).toList = some rs := by
  simpa using hrs
 by_cases h0 : n * sz = 0
 ·rw [if_pos h0] at hzs0 ⊢
  subst hzs0
  subst hus
  simp only [Sem.run_bind, Sem.run_pure, Result.andThen_ok, hfill, newRow, run_newObj, World.alloc_eq]
 ·rw [if_neg h0] at hzs0 ⊢
  subst hzs0
  subst hus
  simp only [Sem.run_bind, Sem.run_pure, Result.andThen_ok, bg_ hzv, hfill, newRow, run_newObj, World.alloc_eq]
theorem gi_ {s x : Operand} {t e : TypeId} {sz by_ : Nat} {l2 : List AVal}
  (ho : o.op = .call { callee := .builtin .append, args := #[s, x], argTypes := #[t, t] }) (hse : aA_ P t = some e) (hte : a6_ P e = some (sz, by_))
  (hs : α s = .sl sz [] true) (hx : slOf (α x) = some (sz, l2)) (hne : l2 ≠ []) (hlen : l2.length * by_ ≤ 140737488355328)
  (hk : ∀ o' c, σ.heap o' = none → l2.length ≤ c → Kk (.mslc o' sz 0 l2.length c e) (σ.set o' (.cells (flat l2)))) : AOp P o α σ Kk := by
 obtain ⟨dst, op, ty, pos, after, guard⟩ := o
 obtain rfl : op = .call { callee := .builtin .append, args := #[s, x], argTypes := #[t, t] } := ho
 intro κ ev hI hxx
 obtain ⟨i, z, hi, hz, hisz, hiby, hzs, hsz, hby⟩ := aZ_ hte
 subst hisz
 subst hiby
 have hts := bb_ hse
 have hvs := hxx s (by simp [Op.operands, Call.operands])
 have hvx := hxx x (by simp [Op.operands, Call.operands])
 have hm : 0 < l2.length := List.length_pos_iff.2 hne
 have hle47 : l2.length ≤ 140737488355328 := Nat.le_trans (Nat.le_mul_of_pos_right _ hby) hlen
 obtain ⟨ad, cap2, vs, hevx, hl2sz, hvsr, hcu⟩ : ∃ ad cap2 vs, ev x = .slice (some ad) l2.length cap2 ∧ (∀ y ∈ l2, y.cells.length = i.size) ∧ RvC κ (flat l2) vs ∧ ∀ j u, vs[j]? = some u → κ.w.cell? (ad.add j) = some u := by
  obtain ⟨a, cap, us2, hev, hsz', hr, hc⟩ := dM_ (c6_ hx hvx)
  rcases hc with ⟨_, h0, _⟩ | ⟨ad, rfl, hcu⟩
  ·exact absurd h0 hne
  ·exact ⟨ad, cap, us2, hev, hsz', hr, hcu⟩
 have hfl2 : vs.length = l2.length * i.size := by rw [← hvsr.1, aR_ hl2sz]
 obtain ⟨o', ho', hfr⟩ := hI.fresh
 have hd := hI.drew
 have fresh : ∀ (cap' : Nat), l2.length ≤ cap' → Post κ Kk (.slice (some ⟨κ.w.heap.size, 0, none⟩) l2.length cap') (κ.w.drew.alloc (.cells (vs.toArray ++ Builtin.zeroCells z.cells (cap' - l2.length)) e)) := by
  intro cap' hcap
  have hsize : (vs.toArray ++ Builtin.zeroCells z.cells (cap' - l2.length)).size = cap' * i.size := by
   simp only [Array.size_append, List.size_toArray, size_zeroCells, hzs, hfl2, ← Nat.add_mul]
   congr 1; omega
  obtain ⟨κ', hw, hle, hρ, hI'⟩ := hd.2.alloc o' ho' (.cells (flat l2)) (.cells (vs.toArray ++ Builtin.zeroCells z.cells (cap' - l2.length)) e) fun κ' hle hh _ => by
   refine ⟨_, e, hh, ?_, fun j hj => ?_⟩
   ·rw [hsize, hvsr.1, hfl2]; exact Nat.mul_le_mul_right _ hcap
   ·have hj' : j < vs.length := by rw [← hvsr.1]; exact hj
    have e1 : (vs.toArray ++ Builtin.zeroCells z.cells (cap' - l2.length)).getD j undef = vs[j] := by
     simp only [Array.getD_eq_getD_getElem?]
     rw [Array.getElem?_append_left (by simpa using hj')]
     simp [hj']
    rw [e1]
    exact (hvsr.2 j hj hj').mono (hd.1.trans hle)
  have hheap : κ'.w.heap[κ.w.heap.size]? = some (.cells (vs.toArray ++ Builtin.zeroCells z.cells (cap' - l2.length)) e (0, 0)) := by
   rw [hw]; exact Go.heap_alloc_new κ.w.drew _
  exact ⟨κ', .mslc o' i.size 0 l2.length cap' e, _, hw, hd.1.trans hle, hI', .mslc o' i.size 0 _ _ e κ.w.heap.size _ hρ hcap (by unfold World.shape?; rw [hheap]) (by rw [hsize]; omega), hk o' cap' hfr hcap⟩
 refine bj_ (s := Builtin.append_ #[t, t] ty #[ev s, ev x]) (by simp [execOp, resolve, invoke, builtin]) ?_
 rw [hs] at hvs
 have hnil : (ev s = .slice none 0 0) ∨ ∃ b, ev s = .slice (some b) 0 0 := by
  rcases hvs.slInv with ⟨a, h1, h2⟩ | ⟨b, off, cap, vals, h1, hcap, htt, _⟩
  ·cases a with
   |none => exact .inl h1
   |some b => exact .inr ⟨b, h1⟩
  ·right
   have := htt rfl
   simp at this
   subst this
   exact ⟨_, h1⟩
 rw [hevx]
 rcases hnil with h0 | ⟨b, h0⟩
 ·rw [h0]
  have hr := run_append_nil (P := P) κ.w t ty e i z hts hi hz ad l2.length cap2 vs hfl2 hcu hm (by omega) (by omega)
  exact ⟨_, _, hr, fresh _ (grownCap_ge _ _ _ _)⟩
 ·rw [h0]
  have hr := run_append_grow (P := P) κ.w t ty e i z hts hi hz b 0 0 [] (by simp) (by simp) ad l2.length cap2 vs hfl2 hcu (by omega) (by omega) (growslice_fits (by omega) (by simpa using hlen))
  simp only [Nat.zero_add] at hr
  refine ⟨_, _, hr, ?_⟩
  have := fresh (grownCap κ.w l2.length 0 e) (grownCap_ge _ _ _ _)
  simpa using this
theorem sG_ {κ : K} {tS tR e : TypeId} {x y : Operand} {ev : Operand → Value} {s1 s2 sz by_ o1 n1 o2 n2 : Nat} {c1 c2 : List AVal} (hI : Inv κ σ) (hse : aA_ P tS = some e) (hte : a6_ P e = some (sz, by_)) (hx : α x = .msl s1 sz o1 n1) (hy : α y = .msl s2 sz o2 n2) (h1 : σ.heap s1 = some (.cells c1)) (h2 : σ.heap s2 = some (.cells c2)) (hne : s1 ≠ s2) (hn2 : 0 < c2.length) (h : ∀ z ∈ #[x, y], Rv κ (α z) (ev z)) :
  ∃ cv, (Extern.SlicesOverlaps.overlaps #[tS, tS] #[tR] (#[x, y].map ev)).run P κ.w = .ok cv κ.w ∧ Rv κ (.lit (.bool false)) cv := by
 have hvx := h x (by simp)
 have hvy := h y (by simp)
 rw [hx] at hvx
 rw [hy] at hvy
 obtain ⟨i, z, hi, _, hisz, _⟩ := aZ_ hte
 rw [show #[x, y].map ev = #[ev x, ev y] from by simp]
 generalize ev x = u at hvx ⊢
 generalize ev y = v at hvy ⊢
 cases hvx with
 |msl _ _ _ _ b1 cap1 m1 e1 hb1 hl1 hs1 hm1 =>
  cases hvy with
  |msl _ _ _ _ b2 cap2 m2 e2 hb2 hl2 hs2 hm2 =>
   obtain ⟨q1, hq1, _, _, d1, f1, hd1, _⟩ := hI.heap s1 _ h1
   obtain ⟨q2, hq2, _, _, d2, f2, hd2, hle2, _⟩ := hI.heap s2 _ h2
   rw [hb1] at hq1
   rw [hb2] at hq2
   obtain rfl := Option.some.inj hq1
   obtain rfl := Option.some.inj hq2
   have hbb : b1 ≠ b2 := fun hh => hne (hI.inj s1 s2 _ _ b1 h1 h2 hb1 (by rw [hb2, hh]))
   have hm2' : m2 = d2.size := by
    unfold World.shape? at hs2
    rw [hd2] at hs2
    simp only [Option.some.injEq, Prod.mk.injEq] at hs2
    exact hs2.2.symm
   exact ⟨_, Lib.run_overlaps_apart (P := P) κ.w tS tR e (bb_ hse) i.size (fun w => aT_ hi w) ⟨b1, o1, none⟩ ⟨b2, o2, none⟩ n1 cap1 n2 cap2 hbb e1 e2 m1 m2 hs1 hs2 (by omega) (by simp [World.frozen?, hd1]) (by simp [World.frozen?, hd1]), .lit _⟩
end
end Go.Ab
end

section
set_option linter.all false
namespace Go.Ab
def B (l : List UInt8) : ByteArray := ⟨l.toArray⟩
def Lb (s : ByteArray) : List UInt8 := s.data.toList
theorem B_Lb (s : ByteArray) : B (Lb s) = s := by cases s; simp [B, Lb]
theorem Lb_B (l : List UInt8) : Lb (B l) = l := by simp [B, Lb]
theorem l1_ (a b : List UInt8) : B a ++ B b = B (a ++ b) := by
 apply ByteArray.ext; simp [B, ByteArray.data_append]
theorem a3_ (l : List UInt8) : (B l).size = l.length := by show l.toArray.size = _; simp
theorem cr_ (s : ByteArray) : (Lb s).length = s.size := by show s.data.toList.length = s.data.size; simp
theorem wO_ {a b : List UInt8} (h : B a = B b) : a = b := by
 have := congrArg Lb h
 rwa [Lb_B, Lb_B] at this
theorem uw_ {a b : ByteArray} (h : Lb a = Lb b) : a = b := by rw [← B_Lb a, h, B_Lb]
theorem db_ {a b : List UInt8} : B a = B b ↔ a = b := ⟨wO_, fun h => by rw [h]⟩
theorem b6_ (s : ByteArray) (i j : Nat) : s.extract i j = B (((Lb s).take j).drop i) := by
 apply ByteArray.ext
 rw [ByteArray.data_extract]
 apply Array.ext'
 simp only [B, Lb, Array.toList_extract, List.extract_eq_drop_take]
 rw [List.drop_take]
theorem ea_ (l : List UInt8) : aJ_ (B l) = l.map fun b => .lit (.int .u8 b.toNat) := by simp [aJ_, B]
def eA_ (n : Int) : UInt8 := UInt8.ofNat (n % 256).toNat
theorem j4_ (n : Int) : ((eA_ n).toNat : Int) = n % 256 := by
 have h1 : 0 ≤ n % 256 := Int.emod_nonneg _ (by decide)
 have h2 : n % 256 < 256 := Int.emod_lt_of_pos _ (by decide)
 unfold eA_
 rw [UInt8.toNat_ofNat']
 omega
def beI : Nat → Int → List UInt8
 |0, _ => []
 |k + 1, n => eA_ (n / 256 ^ k) :: beI k n
theorem ay_ : ∀ (k : Nat) (n : Int), (beI k n).length = k
 |0, _ => rfl
 |k + 1, n => by rw [beI, List.length_cons, ay_ k n]
def natB (l : List UInt8) : Nat := l.foldl (fun n c => n * 256 + c.toNat) 0
theorem pn_ (l : List UInt8) (c : UInt8) : natB (l ++ [c]) = natB l * 256 + c.toNat := by simp [natB]
theorem hW_ : ∀ (l : List UInt8) (a : Nat), l.foldl (fun n c => n * 256 + c.toNat) a = a * 256 ^ l.length + natB l
 |[], a => by simp [natB]
 |c :: l, a => by
  have e : natB (c :: l) = (0 * 256 + c.toNat) * 256 ^ l.length + natB l := hW_ l (0 * 256 + c.toNat)
  rw [List.foldl_cons, hW_ l, e]
  rw [List.length_cons, Nat.pow_succ, Nat.add_mul, Nat.zero_mul, Nat.zero_add, Nat.mul_assoc, Nat.mul_comm 256]
  omega
theorem f0_ (c : UInt8) (l : List UInt8) : natB (c :: l) = c.toNat * 256 ^ l.length + natB l := by
 rw [natB, List.foldl_cons, hW_, Nat.zero_mul, Nat.zero_add]
theorem hX_ : ∀ (l : List UInt8), natB l < 256 ^ l.length
 |[] => by simp [natB]
 |c :: l => by
  have h1 := hX_ l
  have h2 : c.toNat < 256 := c.toNat_lt
  rw [f0_, List.length_cons, Nat.pow_succ]
  calc c.toNat * 256 ^ l.length + natB l < c.toNat * 256 ^ l.length + 256 ^ l.length := by omega
   _ = (c.toNat + 1) * 256 ^ l.length := by rw [Nat.succ_mul]
   _ ≤ 256 * 256 ^ l.length := Nat.mul_le_mul_right _ (by omega)
   _ = 256 ^ l.length * 256 := Nat.mul_comm _ _
theorem oW_ (n p : Int) (hp : 0 < p) : n % (p * 256) = (n / p) % 256 * p + n % p := by
 have e1 := Int.mul_ediv_add_emod n p
 have e2 := Int.mul_ediv_add_emod (n / p) 256
 have h1 := Int.emod_nonneg n (show p ≠ 0 by omega)
 have h2 := Int.emod_lt_of_pos n hp
 have h3 := Int.emod_nonneg (n / p) (show (256 : Int) ≠ 0 by decide)
 have h4 := Int.emod_lt_of_pos (n / p) (show (0 : Int) < 256 by decide)
 have hn : n = ((n / p) % 256 * p + n % p) + (p * 256) * (n / p / 256) := by
  calc n = p * (n / p) + n % p := e1.symm
   _ = p * (256 * (n / p / 256) + n / p % 256) + n % p := by rw [e2]
   _ = _ := by rw [Int.mul_add, ← Int.mul_assoc, Int.mul_comm p (n / p % 256)]; omega
 have hb : (n / p) % 256 * p + n % p < p * 256 := by
  have : (n / p) % 256 * p ≤ 255 * p := Int.mul_le_mul_of_nonneg_right (by omega) (by omega)
  omega
 have h0 : 0 ≤ (n / p) % 256 * p := Int.mul_nonneg h3 (by omega)
 conv => lhs; rw [hn]
 rw [Int.add_mul_emod_self_left]
 exact Int.emod_eq_of_lt (by omega) hb
theorem fZ_ : ∀ (k : Nat) (n : Int), (natB (beI k n) : Int) = n % 256 ^ k
 |0, n => by simp [beI, natB]
 |k + 1, n => by
  rw [beI, f0_, ay_, Int.natCast_add, Int.natCast_mul, j4_, fZ_ k n, Int.pow_succ, oW_ _ _ (Int.pow_pos (by decide))]
  simp
def rdI (l : List UInt8) : Int := IntKind.i64.wrap (natB l)
theorem gL_ (z : Int) : BitVec.ofInt 64 (IntKind.i64.wrap z) = BitVec.ofInt 64 z := by
 apply BitVec.eq_of_toNat_eq
 rw [BitVec.toNat_ofInt, BitVec.toNat_ofInt]
 unfold IntKind.wrap
 simp only [show IntKind.i64.bits = 64 from rfl, show IntKind.i64.signed = true from rfl]
 congr 1
 split <;> omega
theorem k0_ (z : Int) : IntKind.i64.wrap ((BitVec.ofInt 64 z).toNat : Int) = IntKind.i64.wrap z := by
 rw [BitVec.toNat_ofInt]
 unfold IntKind.wrap
 simp only [show IntKind.i64.bits = 64 from rfl, show IntKind.i64.signed = true from rfl]
 have e : ((z % (((2 ^ 64 : Nat)) : Int)).toNat : Int) % 2 ^ 64 = z % 2 ^ 64 := by omega
 rw [e]
theorem qN_ (m c : Int) (h0 : 0 ≤ c) (h1 : c < 256) : bOr .i64 (IntKind.i64.wrap (IntKind.i64.wrap m * 256)) c = IntKind.i64.wrap (m * 256 + c) := by
 unfold bOr
 have e1 : BitVec.ofInt IntKind.i64.bits (IntKind.i64.wrap (IntKind.i64.wrap m * 256)) = BitVec.ofInt 64 m * 256#64 := by
  show BitVec.ofInt 64 _ = _
  rw [gL_, BitVec.ofInt_mul, gL_]
  rfl
 have e2 : BitVec.ofInt 64 m * 256#64 &&& BitVec.ofInt 64 c = 0#64 := by
  apply BitVec.eq_of_toNat_eq
  rw [BitVec.toNat_and, BitVec.toNat_mul]
  apply Nat.eq_of_testBit_eq
  intro i
  rw [Nat.testBit_and]
  simp only [BitVec.toNat_ofNat, Nat.zero_mod, Nat.zero_testBit]
  by_cases hi : i < 8
  ·have : ((BitVec.ofInt 64 m).toNat * (256 % 2 ^ 64) % 2 ^ 64).testBit i = false := by
    rw [Nat.testBit_mod_two_pow]
    rw [show (256 % 2 ^ 64 : Nat) = 2 ^ 8 from rfl, Nat.testBit_mul_two_pow]
    simp [hi, show ¬ 8 ≤ i by omega]
   rw [this]; simp
  ·have : (BitVec.ofInt 64 c).toNat.testBit i = false := by
    rw [BitVec.toNat_ofInt]
    apply Nat.testBit_lt_two_pow
    have e : (c % ((2 ^ 64 : Nat) : Int)).toNat < 2 ^ 8 := by omega
    exact Nat.lt_of_lt_of_le e (Nat.pow_le_pow_right (by decide) (by omega))
   rw [this]; simp
 rw [e1]
 show IntKind.i64.wrap ((BitVec.ofInt 64 m * 256#64 ||| BitVec.ofInt 64 c).toNat : Int) = _
 rw [← BitVec.add_eq_or_of_and_eq_zero _ _ e2]
 have e3 : BitVec.ofInt 64 m * 256#64 + BitVec.ofInt 64 c = BitVec.ofInt 64 (m * 256 + c) := by
  rw [BitVec.ofInt_add, BitVec.ofInt_mul]; rfl
 rw [e3, k0_]
theorem mZ_ (l : List UInt8) (c : UInt8) : bOr .i64 (IntKind.i64.wrap (rdI l * 256)) c.toNat = rdI (l ++ [c]) := by
 have h : c.toNat < 256 := c.toNat_lt
 unfold rdI
 rw [qN_ _ _ (by omega) (by omega), pn_]
 simp
theorem ry_ (n : Int) (h1 : -9223372036854775808 ≤ n) (h2 : n ≤ 9223372036854775807) : rdI (beI 8 n) = n := by
 unfold rdI
 rw [fZ_, show (256 : Int) ^ 8 = 18446744073709551616 from by decide]
 unfold IntKind.wrap
 simp only [IntKind.bits, IntKind.signed, Bool.true_and, decide_eq_true_eq, ge_iff_le]
 have e1 : (2 : Int) ^ 64 = 18446744073709551616 := by decide
 have e2 : (2 : Int) ^ (64 - 1) = 9223372036854775808 := by decide
 simp only [e1, e2]
 split <;> omega
theorem h6_ (l : List UInt8) (h : l.length ≤ 7) : rdI l = natB l := by
 have h1 := hX_ l
 have h2 : 256 ^ l.length ≤ 256 ^ 7 := Nat.pow_le_pow_right (by decide) h
 exact aY_ _ (by omega) (by omega)
theorem tP_ (k : Nat) (n : Int) (hk : k ≤ 7) (h1 : 0 ≤ n) (h2 : n < 256 ^ k) : rdI (beI k n) = n := by
 rw [h6_ _ (by rw [ay_]; exact hk), fZ_]
 exact Int.emod_eq_of_lt h1 h2
theorem dq_ (w n : Nat) : BitVec.ofInt w (n : Int) = BitVec.ofNat w n := by
 apply BitVec.eq_of_toNat_eq
 rw [BitVec.toNat_ofInt, BitVec.toNat_ofNat]
 omega
theorem ma_ (k : IntKind) (p q : Nat) (hp : p < 2 ^ k.bits) (hq : q < 2 ^ k.bits) (hw : k.wrap ((p &&& q : Nat) : Int) = ((p &&& q : Nat) : Int)) : bAnd k p q = ((p &&& q : Nat) : Int) := by
 unfold bAnd
 rw [dq_, dq_, BitVec.toNat_and, BitVec.toNat_ofNat, BitVec.toNat_ofNat, Nat.mod_eq_of_lt hp, Nat.mod_eq_of_lt hq, hw]
theorem oy_ (k : IntKind) (p q : Nat) (hp : p < 2 ^ k.bits) (hq : q < 2 ^ k.bits) (hw : k.wrap ((p ||| q : Nat) : Int) = ((p ||| q : Nat) : Int)) : bOr k p q = ((p ||| q : Nat) : Int) := by
 unfold bOr
 rw [dq_, dq_, BitVec.toNat_or, BitVec.toNat_ofNat, BitVec.toNat_ofNat, Nat.mod_eq_of_lt hp, Nat.mod_eq_of_lt hq, hw]
theorem mb_ (k : IntKind) (p q : Nat) (hp : p < 2 ^ k.bits) (hq : q < 2 ^ k.bits) (hw : k.wrap ((p ^^^ q : Nat) : Int) = ((p ^^^ q : Nat) : Int)) : bXor k p q = ((p ^^^ q : Nat) : Int) := by
 unfold bXor
 rw [dq_, dq_, BitVec.toNat_xor, BitVec.toNat_ofNat, BitVec.toNat_ofNat, Nat.mod_eq_of_lt hp, Nat.mod_eq_of_lt hq, hw]
theorem dg_ (n : Int) : IntKind.u32.wrap n = n % 4294967296 := by
 unfold IntKind.wrap
 simp only [show IntKind.u32.bits = 32 from rfl, show IntKind.u32.signed = false from rfl]
 simp
theorem eY_ (n : Nat) (h : n < 4294967296) : IntKind.u32.wrap (n : Int) = (n : Int) := by rw [dg_]; omega
theorem lW_ (n : Int) : IntKind.u8.wrap n = n % 256 := by
 unfold IntKind.wrap
 simp only [show IntKind.u8.bits = 8 from rfl, show IntKind.u8.signed = false from rfl]
 simp
theorem or_ {p q : Nat} (hp : p < 4294967296) (hq : q < 4294967296) : bAnd .u32 p q = ((p &&& q : Nat) : Int) ∧ p &&& q < 4294967296 := by
 have h : p &&& q < 4294967296 := Nat.lt_of_le_of_lt Nat.and_le_left hp
 exact ⟨ma_ .u32 p q hp hq (eY_ _ h), h⟩
theorem or32 {p q : Nat} (hp : p < 4294967296) (hq : q < 4294967296) : bOr .u32 p q = ((p ||| q : Nat) : Int) ∧ p ||| q < 4294967296 := by
 have h : p ||| q < 2 ^ 32 := Nat.or_lt_two_pow hp hq
 exact ⟨oy_ .u32 p q hp hq (eY_ _ h), h⟩
theorem k1_ {p q : Nat} (hp : p < 4294967296) (hq : q < 4294967296) : bXor .u32 p q = ((p ^^^ q : Nat) : Int) ∧ p ^^^ q < 4294967296 := by
 have h : p ^^^ q < 2 ^ 32 := Nat.xor_lt_two_pow hp hq
 exact ⟨mb_ .u32 p q hp hq (eY_ _ h), h⟩
theorem ns_ {p q : Nat} (hp : p < 9223372036854775808) (hq : q < 9223372036854775808) : bAnd .i64 p q = ((p &&& q : Nat) : Int) ∧ p &&& q < 9223372036854775808 := by
 have h : p &&& q < 9223372036854775808 := Nat.lt_of_le_of_lt Nat.and_le_left hp
 exact ⟨ma_ .i64 p q (Nat.lt_of_lt_of_le hp (by decide)) (Nat.lt_of_lt_of_le hq (by decide)) (aY_ _ (by omega) (by omega)), h⟩
theorem or63 {p q : Nat} (hp : p < 9223372036854775808) (hq : q < 9223372036854775808) : bOr .i64 p q = ((p ||| q : Nat) : Int) ∧ p ||| q < 9223372036854775808 := by
 have h : p ||| q < 2 ^ 63 := Nat.or_lt_two_pow hp hq
 exact ⟨oy_ .i64 p q (Nat.lt_of_lt_of_le hp (by decide)) (Nat.lt_of_lt_of_le hq (by decide)) (aY_ _ (by omega) (by omega)), h⟩
theorem qr_ {p q : Nat} (hp : p < 9223372036854775808) (hq : q < 9223372036854775808) : bXor .i64 p q = ((p ^^^ q : Nat) : Int) ∧ p ^^^ q < 9223372036854775808 := by
 have h : p ^^^ q < 2 ^ 63 := Nat.xor_lt_two_pow hp hq
 exact ⟨mb_ .i64 p q (Nat.lt_of_lt_of_le hp (by decide)) (Nat.lt_of_lt_of_le hq (by decide)) (aY_ _ (by omega) (by omega)), h⟩
theorem so_ (p : Nat) : p &&& 4294967295 = p % 4294967296 := Nat.and_two_pow_sub_one_eq_mod p 32
theorem iA_ (k k' : IntKind) (a b : Int) (h0 : 0 ≤ b) (h1 : b ≤ k.bits) : aint .shl k a k' b = some (.int k (k.wrap (a * 2 ^ b.toNat))) := by
 simp only [aint]
 rw [if_neg (by omega), Nat.min_eq_left (by omega)]
theorem gn_ (k k' : IntKind) (a b : Int) (h0 : 0 ≤ b) (h1 : b ≤ k.bits) : aint .shr k a k' b = some (.int k (a / 2 ^ b.toNat)) := by
 simp only [aint]
 rw [if_neg (by omega), Nat.min_eq_left (by omega), Int.fdiv_eq_ediv_of_nonneg _ (Int.le_of_lt (Int.pow_pos (by decide)))]
@[go_sem] theorem si_ (k' : IntKind) (a b : Int) (h0 : 0 ≤ b) (h1 : b ≤ 64) : aint .shl .i64 a k' b = some (.int .i64 (IntKind.i64.wrap (a * 2 ^ b.toNat))) := iA_ .i64 k' a b h0 h1
@[go_sem] theorem sk_ (k' : IntKind) (a b : Int) (h0 : 0 ≤ b) (h1 : b ≤ 64) : aint .shr .i64 a k' b = some (.int .i64 (a / 2 ^ b.toNat)) := gn_ .i64 k' a b h0 h1
@[go_sem] theorem sj_ (k' : IntKind) (a b : Int) (h0 : 0 ≤ b) (h1 : b ≤ 32) : aint .shl .u32 a k' b = some (.int .u32 (IntKind.u32.wrap (a * 2 ^ b.toNat))) := iA_ .u32 k' a b h0 h1
@[go_sem] theorem sl_ (k' : IntKind) (a b : Int) (h0 : 0 ≤ b) (h1 : b ≤ 32) : aint .shr .u32 a k' b = some (.int .u32 (a / 2 ^ b.toNat)) := gn_ .u32 k' a b h0 h1
@[go_sem] theorem hq_ (a b : List UInt8) (h : a.length + b.length ≤ 9223372036854775807) : astr .add (B a) (B b) = some (.string (B (a ++ b))) := by
 rw [qH_ _ _ (by rw [a3_, a3_]; exact h), l1_]
theorem l9_ (n : Int) : bAnd .i64 n 255 = n % 256 := by
 unfold bAnd
 have e1 : (BitVec.ofInt IntKind.i64.bits n &&& BitVec.ofInt IntKind.i64.bits 255).toNat = (n % 256).toNat := by
  rw [BitVec.toNat_and, BitVec.toNat_ofInt, BitVec.toNat_ofInt]
  have e3 : ((255 : Int) % ((2 ^ IntKind.i64.bits : Nat) : Int)).toNat = 2 ^ 8 - 1 := by decide
  rw [e3, Nat.and_two_pow_sub_one_eq_mod]
  show (n % ((2 ^ 64 : Nat) : Int)).toNat % 2 ^ 8 = _
  omega
 rw [e1]
 exact (aY_ _ (by omega) (by omega)).trans (by omega)
theorem oC_ (n : Int) : eA_ (n % 256) = eA_ n := by unfold eA_; rw [Int.emod_emod_of_dvd _ (by decide : (256 : Int) ∣ 256)]
theorem qd_ (n : Int) : oe_ [n] = B [UInt8.ofNat n.toNat] := by
 apply ByteArray.ext; simp [oe_, B]
theorem of_ (n : Int) : oe_ [n % 256] = B [eA_ n] := by rw [qd_]; rfl
theorem mc_ (n : Int) : ∀ (k j : Nat), (beI (k + j) n).drop j = beI k n
 |k, 0 => rfl
 |k, j + 1 => by rw [← Nat.add_assoc, beI, List.drop_succ_cons, mc_ n k j]
theorem me_ {l : List UInt8} {k : Nat} {c : UInt8} (h : l[k]? = some c) : (aJ_ (B l))[k]? = some (.lit (.int .u8 (c.toNat : Int))) := by rw [ea_, List.getElem?_map, h]; rfl
theorem ax_ {α : Type} {l : List α} {k : Nat} {c : α} (h : l[k]? = some c) : l.take (k + 1) = l.take k ++ [c] := by rw [List.take_succ, h]; rfl
end Go.Ab
end

section
set_option linter.all false
set_option maxRecDepth 100000
namespace Go.Proofs.YtcaflcpcbcneiaaGreat
open Go.Ab
theorem o_ {p : Prop} (h : p := by simp only [List.getElem?_toArray, List.getElem?_cons_zero, List.getElem?_cons_succ]; rfl) : p := h
theorem v_ {p : Prop} (h : p := by first | (simp (disch := omega) only [go_sem, aY_, ↓reduceIte, Nat.reduceEqDiff, Nat.reduceAdd, Nat.reduceSub, Nat.reduceMul, Nat.reduceLeDiff, reduceCtorEq, Int.reduceToNat, Int.reduceLE, Int.reduceLT, List.getElem?_map, Nat.mul_one, R]; rfl) | (simp (disch := omega) only [go_sem, aY_, ↓reduceIte, Nat.reduceEqDiff, Nat.reduceAdd, Nat.reduceSub, Nat.reduceMul, Nat.reduceLeDiff, reduceCtorEq, Int.reduceToNat, Int.reduceLE, Int.reduceLT, List.getElem?_map, Nat.mul_one]; rfl)) : p := h
theorem va_ {p : Prop} (h : p := by first | (simp (disch := omega) only [go_sem, aY_, ↓reduceIte, Nat.reduceEqDiff, Nat.reduceAdd, Nat.reduceSub, Nat.reduceMul, Nat.reduceLeDiff, reduceCtorEq, Int.reduceToNat, Int.reduceLE, Int.reduceLT, List.getElem?_map, Nat.mul_one, R]; rfl) | (simp (disch := omega) only [go_sem, aY_, ↓reduceIte, Nat.reduceEqDiff, Nat.reduceAdd, Nat.reduceSub, Nat.reduceMul, Nat.reduceLeDiff, reduceCtorEq, Int.reduceToNat, Int.reduceLE, Int.reduceLT, List.getElem?_map, Nat.mul_one, R]; done) | (simp (disch := omega) only [go_sem, aY_, ↓reduceIte, Nat.reduceEqDiff, Nat.reduceAdd, Nat.reduceSub, Nat.reduceMul, Nat.reduceLeDiff, reduceCtorEq, Int.reduceToNat, Int.reduceLE, Int.reduceLT, List.getElem?_map, Nat.mul_one]; rfl) | (simp (disch := omega) only [go_sem, aY_, ↓reduceIte, Nat.reduceEqDiff, Nat.reduceAdd, Nat.reduceSub, Nat.reduceMul, Nat.reduceLeDiff, reduceCtorEq, Int.reduceToNat, Int.reduceLE, Int.reduceLT, List.getElem?_map, Nat.mul_one]; done) | rfl) : p := h
theorem h_ {p : Prop} (h : p := by first | (simp (disch := omega) only [go_sem, ↓reduceIte, Nat.reduceEqDiff, Nat.reduceAdd, Nat.reduceSub, Nat.reduceMul, Nat.reduceLeDiff, reduceCtorEq, Int.reduceToNat, Int.reduceLE, Int.reduceLT, List.getElem?_map, Nat.mul_one, R]; rfl) | (simp (disch := omega) only [go_sem, ↓reduceIte, Nat.reduceEqDiff, Nat.reduceAdd, Nat.reduceSub, Nat.reduceMul, Nat.reduceLeDiff, reduceCtorEq, Int.reduceToNat, Int.reduceLE, Int.reduceLT, List.getElem?_map, Nat.mul_one, R]; done) | (simp (disch := omega) only [go_sem, ↓reduceIte, Nat.reduceEqDiff, Nat.reduceAdd, Nat.reduceSub, Nat.reduceMul, Nat.reduceLeDiff, reduceCtorEq, Int.reduceToNat, Int.reduceLE, Int.reduceLT, List.getElem?_map, Nat.mul_one]; rfl) | (simp (disch := omega) only [go_sem, ↓reduceIte, Nat.reduceEqDiff, Nat.reduceAdd, Nat.reduceSub, Nat.reduceMul, Nat.reduceLeDiff, reduceCtorEq, Int.reduceToNat, Int.reduceLE, Int.reduceLT, List.getElem?_map, Nat.mul_one]; done)) : p := h
theorem g_ {p : Prop} (h : p := by first | (simp only [go_sem]; rfl) | (simp only [go_sem]; done) | assumption) : p := h
theorem gl_ {p : Prop} (h : p := by simp only [go_sem, ↓reduceIte, Nat.reduceEqDiff, Nat.reduceAdd, Nat.reduceSub, Nat.reduceMul, Nat.reduceLeDiff, reduceCtorEq, Int.reduceToNat, Int.reduceLE, Int.reduceLT]; rfl) : p := h
theorem c_ {p : Prop} (h : p := by simp [AVal.one, AVal.cells]) : p := h
theorem c2_ {p : Prop} (h : p := by simp [go_sem, AVal.one, AVal.cells, AVal.solid]) : p := h
theorem le_ {p : Prop} (h : p := by first | (simp; done) | (simp; omega) | omega) : p := h
theorem sub_ {p : Prop} (h : p := by first | exact Store.Wk.refl _ | exact Store.Sub.refl _ | ((try dsimp only); (try simp (disch := assumption) only [Store.newTok_set, Store.newTok_step]); (first | refine bd_ ?_ | refine lQ_ ?_ | skip); (repeat (first | refine gg_ (.head _) ?_ | refine gg_ (.tail _ (.head _)) ?_ | refine gg_ (.tail _ (.tail _ (.head _))) ?_ | refine gg_ (.tail _ (.tail _ (.tail _ (.head _)))) ?_ | refine ih_ h_ ?_)); (repeat (first | exact aX_ | refine bv_ (.head _) ?_ | refine bv_ (.tail _ (.head _)) ?_ | refine bv_ (.tail _ (.tail _ (.head _))) ?_ | refine bv_ (.tail _ (.tail _ (.tail _ (.head _)))) ?_ | refine ar_ (by first | assumption | (simp only [Store.newTok_heap]; assumption)) ?_ | refine r6_ ?_ | refine bm_ (by assumption) ?_)))) : p := h
theorem vg_ {p : Prop} (h : p := by intro hb; have hb' := hb; (try simp only [decide_eq_true_eq, decide_eq_false_iff_not, Bool.not_eq_true', Bool.not_eq_false', Bool.and_eq_true, Bool.or_eq_true, Bool.and_eq_false_iff, Bool.or_eq_false_iff, Bool.not_eq_eq_eq_not, Bool.not_true, Bool.not_false, Int.not_le, Int.not_lt, beq_iff_eq] at hb'); (try simp only [Bool.and_eq_true] at hb); first | (simp (disch := omega) only [go_sem, aY_, ↓reduceIte, Nat.reduceEqDiff, Nat.reduceAdd, Nat.reduceSub, Nat.reduceMul, Nat.reduceLeDiff, reduceCtorEq, Int.reduceToNat, Int.reduceLE, Int.reduceLT, List.getElem?_map, Nat.mul_one, R]; rfl) | (simp (disch := omega) only [go_sem, aY_, ↓reduceIte, Nat.reduceEqDiff, Nat.reduceAdd, Nat.reduceSub, Nat.reduceMul, Nat.reduceLeDiff, reduceCtorEq, Int.reduceToNat, Int.reduceLE, Int.reduceLT, List.getElem?_map, Nat.mul_one, hb, R]; rfl) | (simp (disch := omega) only [go_sem, aY_, ↓reduceIte, Nat.reduceEqDiff, Nat.reduceAdd, Nat.reduceSub, Nat.reduceMul, Nat.reduceLeDiff, reduceCtorEq, Int.reduceToNat, Int.reduceLE, Int.reduceLT, List.getElem?_map, Nat.mul_one]; rfl) | (simp (disch := omega) only [go_sem, aY_, ↓reduceIte, Nat.reduceEqDiff, Nat.reduceAdd, Nat.reduceSub, Nat.reduceMul, Nat.reduceLeDiff, reduceCtorEq, Int.reduceToNat, Int.reduceLE, Int.reduceLT, List.getElem?_map, Nat.mul_one, hb]; rfl)) : p := h
theorem vh_ {p : Prop} (h : p := by (try simp only [Bool.and_eq_true] at hb); first | (simp (disch := omega) only [go_sem, aY_, ↓reduceIte, Nat.reduceEqDiff, Nat.reduceAdd, Nat.reduceSub, Nat.reduceMul, Nat.reduceLeDiff, reduceCtorEq, Int.reduceToNat, Int.reduceLE, Int.reduceLT, List.getElem?_map, Nat.mul_one, hb, R]; rfl) | (simp (disch := omega) only [go_sem, aY_, ↓reduceIte, Nat.reduceEqDiff, Nat.reduceAdd, Nat.reduceSub, Nat.reduceMul, Nat.reduceLeDiff, reduceCtorEq, Int.reduceToNat, Int.reduceLE, Int.reduceLT, List.getElem?_map, Nat.mul_one, hb, R]; done) | (simp (disch := omega) only [go_sem, aY_, ↓reduceIte, Nat.reduceEqDiff, Nat.reduceAdd, Nat.reduceSub, Nat.reduceMul, Nat.reduceLeDiff, reduceCtorEq, Int.reduceToNat, Int.reduceLE, Int.reduceLT, List.getElem?_map, Nat.mul_one, hb]; rfl) | (simp (disch := omega) only [go_sem, aY_, ↓reduceIte, Nat.reduceEqDiff, Nat.reduceAdd, Nat.reduceSub, Nat.reduceMul, Nat.reduceLeDiff, reduceCtorEq, Int.reduceToNat, Int.reduceLE, Int.reduceLT, List.getElem?_map, Nat.mul_one, hb]; done)) : p := h
theorem cg_ {p : Prop} (h : p := by have hb' := hb; (try simp only [decide_eq_true_eq, decide_eq_false_iff_not, Bool.not_eq_true', Bool.not_eq_false', Bool.and_eq_true, Bool.or_eq_true, Bool.and_eq_false_iff, Bool.or_eq_false_iff, Bool.not_eq_eq_eq_not, Bool.not_true, Bool.not_false, Int.not_le, Int.not_lt, beq_iff_eq] at hb'); (try simp only [Bool.and_eq_true] at hb); first | (simp (disch := omega) only [go_sem, aY_, ↓reduceIte, Nat.reduceEqDiff, Nat.reduceAdd, Nat.reduceSub, Nat.reduceMul, Nat.reduceLeDiff, reduceCtorEq, Int.reduceToNat, Int.reduceLE, Int.reduceLT, List.getElem?_map, Nat.mul_one, R]; rfl) | (simp (disch := omega) only [go_sem, aY_, ↓reduceIte, Nat.reduceEqDiff, Nat.reduceAdd, Nat.reduceSub, Nat.reduceMul, Nat.reduceLeDiff, reduceCtorEq, Int.reduceToNat, Int.reduceLE, Int.reduceLT, List.getElem?_map, Nat.mul_one, R]; done) | (simp (disch := omega) only [go_sem, aY_, ↓reduceIte, Nat.reduceEqDiff, Nat.reduceAdd, Nat.reduceSub, Nat.reduceMul, Nat.reduceLeDiff, reduceCtorEq, Int.reduceToNat, Int.reduceLE, Int.reduceLT, List.getElem?_map, Nat.mul_one, hb, R]; rfl) | (simp (disch := omega) only [go_sem, aY_, ↓reduceIte, Nat.reduceEqDiff, Nat.reduceAdd, Nat.reduceSub, Nat.reduceMul, Nat.reduceLeDiff, reduceCtorEq, Int.reduceToNat, Int.reduceLE, Int.reduceLT, List.getElem?_map, Nat.mul_one, hb, R]; done) | (simp (disch := omega) only [go_sem, aY_, ↓reduceIte, Nat.reduceEqDiff, Nat.reduceAdd, Nat.reduceSub, Nat.reduceMul, Nat.reduceLeDiff, reduceCtorEq, Int.reduceToNat, Int.reduceLE, Int.reduceLT, List.getElem?_map, Nat.mul_one]; rfl) | (simp (disch := omega) only [go_sem, aY_, ↓reduceIte, Nat.reduceEqDiff, Nat.reduceAdd, Nat.reduceSub, Nat.reduceMul, Nat.reduceLeDiff, reduceCtorEq, Int.reduceToNat, Int.reduceLE, Int.reduceLT, List.getElem?_map, Nat.mul_one]; done) | (simp (disch := omega) only [go_sem, aY_, ↓reduceIte, Nat.reduceEqDiff, Nat.reduceAdd, Nat.reduceSub, Nat.reduceMul, Nat.reduceLeDiff, reduceCtorEq, Int.reduceToNat, Int.reduceLE, Int.reduceLT, List.getElem?_map, Nat.mul_one, hb]; rfl) | (simp (disch := omega) only [go_sem, aY_, ↓reduceIte, Nat.reduceEqDiff, Nat.reduceAdd, Nat.reduceSub, Nat.reduceMul, Nat.reduceLeDiff, reduceCtorEq, Int.reduceToNat, Int.reduceLE, Int.reduceLT, List.getElem?_map, Nat.mul_one, hb]; done)) : p := h
theorem vb_ {p : Prop} (h : p := by first | (simp (disch := omega) only [go_sem, aY_, ↓reduceIte, Nat.reduceEqDiff, Nat.reduceAdd, Nat.reduceSub, Nat.reduceMul, Nat.reduceLeDiff, reduceCtorEq, Int.reduceToNat, Int.reduceLE, Int.reduceLT, List.getElem?_map, Nat.mul_one, List.map_append, List.map_cons, List.map_nil, R]; done) | (simp (disch := omega) only [go_sem, aY_, ↓reduceIte, Nat.reduceEqDiff, Nat.reduceAdd, Nat.reduceSub, Nat.reduceMul, Nat.reduceLeDiff, reduceCtorEq, Int.reduceToNat, Int.reduceLE, Int.reduceLT, List.getElem?_map, Nat.mul_one, List.map_append, List.map_cons, List.map_nil]; done)) : p := h
theorem cv_ {p : Prop} (h : p := by (repeat (refine b0_.eq (by first | with_reducible rfl | exact va_ | exact vb_ | rfl) ?_)); exact b0_.nil) : p := h
section
variable {P : Program} {ops : Array Oper} {s0 : Store} {Kk : Env → Store → Prop} {rest : List Oper} {i : Nat} {r : DT} {e : Env} {σ : Store} {d j dj : Nat} {a : AVal} {b : Bool} {op : Op} {ty n : Nat} {po : String} {af : Array Edge} {t ft : TypeId} {x ad : Operand} {cs cs' cs2 : List AVal} {o off size : Nat} {gg : Bool} {G : FuncId} {az : Array Operand} {ts : Array TypeId} {args : List AVal} {Q : AVal → Store → Prop}
theorem s_ (h : a2_ P ops Kk rest (upd e d a) σ) (ha : aval P op (aev e) σ = some a := by exact v_) : a2_ P ops Kk (⟨some d, op, ty, po, af, none⟩ :: rest) e σ := aL_S rfl rfl ha h
theorem x_ (hg : isGo P G = true) (ha : [] ++ az.toList.map (aev e) ++ [] = args) (hc : ai_ P G args σ Q) (h : ∀ a σ', Q a σ' → a2_ P ops Kk rest (upd e d a) σ') : a2_ P ops Kk (⟨some d, .call ⟨.value (.func G), az, ts⟩, ty, po, af, none⟩ :: rest) e σ := aL_X rfl rfl (aU_ rfl rfl (.inr ⟨rfl, rfl, rfl⟩) hg ha hc h)
theorem gt_ (h : a2_ P ops Kk rest (upd e d (gval b a)) σ) (hj : (ops[j]?).bind (·.dst) = some dj := by rfl) (he : e dj = .lit (.bool b) := by exact v_) (ha : b = true → aval P op (aev e) σ = some a := by exact vg_) : a2_ P ops Kk (⟨some d, op, ty, po, af, some (j, true)⟩ :: rest) e σ := wQ_ rfl hj he rfl ha h
theorem gf_ (h : a2_ P ops Kk rest (upd e d (gval (!b) a)) σ) (hj : (ops[j]?).bind (·.dst) = some dj := by rfl) (he : e dj = .lit (.bool b) := by exact v_) (ha : (!b) = true → aval P op (aev e) σ = some a := by exact vg_) : a2_ P ops Kk (⟨some d, op, ty, po, af, some (j, false)⟩ :: rest) e σ := wP_ rfl hj he rfl ha h
theorem bx_ (h : ∀ j, σ.heap j = none → a2_ P ops Kk rest (upd e d (.ref j 0)) (σ.set j (.cells cs))) (hx : aev e x = a := by exact v_) (hs : a.solid = true := by rfl) (hc : a.cells = cs := by exact g_) : a2_ P ops Kk (⟨some d, .box t x, ty, po, af, none⟩ :: rest) e σ := uy_ rfl rfl rfl hx hs hc h
theorem lc_ {z : Value} (h : ∀ j, σ.heap j = none → a2_ P ops Kk rest (upd e d (.ref j 0)) (σ.set j (.cells cs))) (hz : cD_ P t = some z := by exact g_) (hc : bq_ z = cs := by exact gl_) : a2_ P ops Kk (⟨some d, .alloc t, ty, po, af, none⟩ :: rest) e σ := g0_ rfl rfl rfl hz hc h
theorem st_ (h : a2_ P ops Kk rest e (σ.set o (.cells cs2))) (ha : aev e ad = .ref o off := by exact v_) (hx : aev e x = a := by exact v_) (hh : σ.heap o = some (.cells cs) := by exact h_) (ht : cC_ P t = some (size, gg) := by exact g_) (hs : a.solid = true := by rfl) (hcs : a.cells = cs' := by exact g_) (hones : ∀ c ∈ cs', c.one = true := by exact c_) (hsz : cs'.length = size := by rfl) (hle : off + size ≤ cs.length := by exact le_) (hp : aput cs off cs' = cs2 := by exact v_) :
  a2_ P ops Kk (⟨none, .store t ad x, ty, po, af, none⟩ :: rest) e σ := bX_ rfl rfl rfl ha hx hh ht hs hcs hones hsz hle hp h
theorem ds_ (h : dRun P ops s0 Kk r (upd e d a) σ) (ho : ops[i]? = some ⟨some d, op, ty, po, af, none⟩ := by exact o_) (ha : aval P op (aev e) s0 = some a := by exact v_) : dRun P ops s0 Kk (.op i 0 r) e σ := dR_S ho rfl rfl ha h
theorem dx_ (ho : ops[i]? = some ⟨some d, .call ⟨.value (.func G), az, ts⟩, ty, po, af, none⟩) (hg : isGo P G = true) (ha : [] ++ az.toList.map (aev e) ++ [] = args) (hc : ai_ P G args σ Q) (h : ∀ a σ', Q a σ' → s0.Sub σ' ∧ dRun P ops s0 Kk r (upd e d a) σ') : dRun P ops s0 Kk (.op i 1 r) e σ :=
 dR_X ho rfl rfl (aU_ rfl rfl (.inr ⟨rfl, rfl, rfl⟩) hg ha hc h)
theorem tx_ (ho : ops[i]? = some ⟨some d, .call ⟨.value (.func G), az, ts⟩, ty, po, af, none⟩) (hg : isGo P G = true) (ha : [] ++ az.toList.map (aev e) ++ [] = args) (hc : ai_ P G args σ Q) (h : ∀ a σ', Q a σ' → dRun P ops s0 Kk r (upd e d a) σ') : dRun P ops s0 Kk (.op i 2 r) e σ :=
 dR_T ho rfl rfl (aU_ rfl rfl (.inr ⟨rfl, rfl, rfl⟩) hg ha hc h)
theorem dgt_ (h : dRun P ops s0 Kk r (upd e d (gval b a)) σ) (ho : ops[i]? = some ⟨some d, op, ty, po, af, some (j, true)⟩ := by exact o_) (hj : (ops[j]?).bind (·.dst) = some dj := by rfl) (he : e dj = .lit (.bool b) := by exact v_) (ha : b = true → aval P op (aev e) s0 = some a := by exact vg_) : dRun P ops s0 Kk (.op i 0 r) e σ := w3_ ho rfl hj he rfl ha h
theorem dgf_ (h : dRun P ops s0 Kk r (upd e d (gval (!b) a)) σ) (ho : ops[i]? = some ⟨some d, op, ty, po, af, some (j, false)⟩ := by exact o_) (hj : (ops[j]?).bind (·.dst) = some dj := by rfl) (he : e dj = .lit (.bool b) := by exact v_) (ha : (!b) = true → aval P op (aev e) s0 = some a := by exact vg_) : dRun P ops s0 Kk (.op i 0 r) e σ := w2_ ho rfl hj he rfl ha h
theorem aK_ {c : Bool} (h : dRun P ops s0 Kk r (upd e d (gval (b && c) a)) σ) (ho : ops[i]? = some ⟨some d, op, ty, po, af, some (j, true)⟩ := by exact o_) (hj : (ops[j]?).bind (·.dst) = some dj := by rfl) (he : e dj = gval b (.lit (.bool c)) := by exact v_) (ha : (b && c) = true → aval P op (aev e) s0 = some a := by exact vg_) : dRun P ops s0 Kk (.op i 0 r) e σ := u0_ ho rfl hj he rfl ha h
theorem dst_ (h : dRun P ops s0 Kk r e (σ.set o (.cells cs2))) (hop : ops[i]? = some ⟨none, .store t ad x, ty, po, af, none⟩ := by exact o_) (ha : aev e ad = .ref o off := by exact v_) (hx : aev e x = a := by exact v_) (hh : σ.heap o = some (.cells cs) := by exact h_) (ht : cC_ P t = some (size, gg) := by exact g_) (hs : a.solid = true := by rfl) (hcs : a.cells = cs' := by exact g_) (hones : ∀ c ∈ cs', c.one = true := by exact c_) (hsz : cs'.length = size := by rfl) (hle : off + size ≤ cs.length := by exact le_) (hp : aput cs off cs' = cs2 := by exact v_) :
  dRun P ops s0 Kk (.op i 2 r) e σ := ec_ hop rfl rfl rfl ha hx hh ht hs hcs hones hsz hle hp h
theorem dlc_ {z : Value} (h : ∀ j, σ.heap j = none → dRun P ops s0 Kk r (upd e d (.ref j 0)) (σ.set j (.cells cs))) (hop : ops[i]? = some ⟨some d, .alloc t, ty, po, af, none⟩ := by exact o_) (hz : cD_ P t = some z := by exact g_) (hc : bq_ z = cs := by exact gl_) (hsub : s0.Sub σ := by exact sub_) : dRun P ops s0 Kk (.op i 1 r) e σ := g5_ hop rfl rfl rfl hz hc hsub h
theorem er_ {rs : List ResultVar} {v : AVal} (σ' : Store) (hq : Q v σ') (h : aret P rs e σ = some v := by exact v_) (hs : σ'.Wk σ := by exact sub_) : aEnd P rs Q .ret e σ := au_ h hs hq
end
section
variable {P : Program} {n id : Nat} {l : List Oper} {Q : Exit → Env → Store → Prop} {e : Env} {σ : Store} {y x : Code}
theorem r_ (h : a2_ P l.toArray (Q .normal) l e σ) (hd : l.all (ir_ n l.toArray) = true := by kernel_rfl) : awp P n (.region id l.toArray false) Q e σ := iC_ hd h
theorem rr_ (h : a2_ P l.toArray (nr_ (awp P n y Q) Q .normal) l e σ) (hd : l.all (ir_ n l.toArray) = true := by kernel_rfl) : awp P n (.seq (.region id l.toArray false) y) Q e σ := ab_ (iC_ hd h)
theorem cd_ {c : Operand} {t : Bool} {p q : Prop} (h1 : p → awp P n x Q e σ) (h2 : q → awp P n y Q e σ) (hc : aev e c = .lit (.bool t) := by exact v_) (e1 : (t = true) = p := by (try simp only [decide_eq_true_eq, decide_eq_false_iff_not, Bool.not_eq_true', Bool.not_eq_false', Bool.and_eq_true, Bool.or_eq_true, Bool.and_eq_false_iff, Bool.or_eq_false_iff, Bool.not_eq_eq_eq_not, Bool.not_true, Bool.not_false, Int.not_le, Int.not_lt, beq_iff_eq]); rfl) (e2 : (t = false) = q := by (try simp only [decide_eq_true_eq, decide_eq_false_iff_not, Bool.not_eq_true', Bool.not_eq_false', Bool.and_eq_true, Bool.or_eq_true, Bool.and_eq_false_iff, Bool.or_eq_false_iff, Bool.not_eq_eq_eq_not, Bool.not_true, Bool.not_false, Int.not_le, Int.not_lt, beq_iff_eq]); rfl) : awp P n (.cond c x y) Q e σ := qL_ hc (fun h => h1 (e1 ▸ h)) fun h => h2 (e2 ▸ h)
theorem en_ {f : FuncId} {fn : Func} {c : Code} {args : List AVal} {R : AVal → Store → Prop} {rs : List ResultVar} {E : Env} (hf : P.funcs[f]? = some fn) (hnt : fn.ntmps = n) (hrs : fn.results = rs.toArray) (h : awp P n c (aEnd P rs R) E σ) (hb : fn.body = some c := by rfl) (hn : args.length ≤ n := by simp only [List.length_cons, List.length_nil]; decide) (hE : jc_ 0 args = E := by first | (simp only [iI_, ke_, Nat.reduceAdd]; done) | (simp only [iI_, ke_, Nat.reduceAdd]; rfl) | rfl) : ai_ P f args σ R := by
 subst hE
 exact ok_ hf hb hnt (by rw [hrs]) hn h
end
end Go.Proofs.YtcaflcpcbcneiaaGreat
end
