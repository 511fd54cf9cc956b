/-
  WALKING RULES: guarded steps of which it is not said whether they run; joins and loops by lists of what lives; values of structs compared; WHAT CHANGES NOTHING THAT WAS THERE; a slice made and not written; BYTES AS LISTS; NUMBERS AS BYTES; A RANGE OVER A STRING: the iterator is an object of its own; WHAT A WRITER OF TEXT IS MADE OF: a string appended to a slice of one's own, an object whose shape is told, the bytes behind a string; SHORT WORDS: closers of the side goals that every step leaves; What is read of bytes: the program's reader; What the program's values are; What is read of bytes: numbers, texts, lists; Contexts and objects read of bytes: the program's; What is read of bytes: the reference's reader; Contexts and objects read of bytes: the reference's; What is written as bytes: the program's writer; Contexts and objects as bytes: what the program writes; Names: the program's, and the reference's; Whether a context may be: the program's Check, the reference's May; Registries: whether they may be, on both sides. Own work (an AI agent).
-/
import Derived.Test.YtkcmbjodladflaaGreatDoorGC
import Derived.Lib.Builder
import Derived.Lib.UnsafeStr
import Derived.Laws.Externs
import Derived.Laws.RangeString
import Derived.Laws.RangeAny

section
set_option linter.all false
namespace Go.Ab
def gval (b : Bool) (a : AVal) : AVal := bif b then a else .lit undef
@[go_sem] theorem rp_ (a : AVal) : gval true a = a := rfl
@[go_sem] theorem qG_ (a : AVal) : gval false a = .lit undef := rfl
@[go_sem] theorem qS_ (b x y : Bool) : ie_ b (gval b (.lit (.bool x))) (.lit (.bool y)) = .lit (.bool (bif b then x else y)) := by cases b <;> rfl
@[go_sem] theorem sr_ (b x y : Bool) : ie_ b (.lit (.bool x)) (gval (!b) (.lit (.bool y))) = .lit (.bool (bif b then x else y)) := by cases b <;> rfl
@[go_sem] theorem sB_ (b x : Bool) : (bif b then x else false) = (b && x) := by cases b <;> rfl
@[go_sem] theorem sO_ (b x : Bool) : (bif b then true else x) = (b || x) := by cases b <;> rfl
theorem bF_ {ops : Array Oper} {o : Oper} {e : Env} {j d : Nat} {w b : Bool} (hg : o.guard = some (j, w)) (hd : (ops[j]?).bind (·.dst) = some d) (he : e d = .lit (.bool b)) : aZ_ ops o e = some (b == w) := by
 unfold aZ_
 simp only [hg, hd, he]
@[go_sem] theorem ro_ (b c : Bool) (a : AVal) : gval b (gval c a) = gval (b && c) a := by cases b <;> rfl
theorem dd_ {ops : Array Oper} {o : Oper} {e : Env} {j d : Nat} {w b c : Bool} (hg : o.guard = some (j, w)) (hd : (ops[j]?).bind (·.dst) = some d) (he : e d = gval b (.lit (.bool c))) : aZ_ ops o e = some (b && (c == w)) := by
 cases b with
 |true => rw [bF_ hg hd he]; rfl
 |false =>
  unfold aZ_
  simp only [hg, hd, he]
  rfl
theorem iP_ {ops : Array Oper} {o : Oper} {e : Env} {j d : Nat} {w : Bool} {x : AVal} (hg : o.guard = some (j, w)) (hd : (ops[j]?).bind (·.dst) = some d) (he : e d = x) (hx : x = .lit (.bool (!w))) : aZ_ ops o e = some false := by
 subst hx
 rw [bF_ hg hd he]
 cases w <;> rfl
theorem kD_ {ops : Array Oper} {o : Oper} {e : Env} {j d : Nat} {w : Bool} {x : AVal} (hg : o.guard = some (j, w)) (hd : (ops[j]?).bind (·.dst) = some d) (he : e d = x) (hx : x = .lit undef) : aZ_ ops o e = some false := by
 subst hx
 unfold aZ_
 simp only [hg, hd, he]
 rfl
theorem as_ {ops : Array Oper} {o : Oper} {e : Env} {j d : Nat} {w : Bool} {x : AVal} (hg : o.guard = some (j, w)) (hd : (ops[j]?).bind (·.dst) = some d) (he : e d = x) (hx : x = .lit (.bool w)) : aZ_ ops o e = some true := by
 subst hx
 rw [bF_ hg hd he]
 cases w <;> rfl
section
variable {P : Program} {ops : Array Oper} {Kk : Env → Store → Prop} {o : Oper} {rest : List Oper} {e : Env} {σ : Store}
theorem cZ_ {d : Nat} {a : AVal} (hw : aZ_ ops o e = some true) (hd : o.dst = some d) (ha : aval P o.op (aev e) σ = some a) (h : a1_ P ops Kk rest (upd e d a) σ) : a1_ P ops Kk (o :: rest) e σ := by
 unfold a1_ bY_
 rw [hw, hd]; exact eb_ ha h
theorem aC_ {d j dj : Nat} {a : AVal} {b : Bool} (hg : o.guard = some (j, true)) (hj : (ops[j]?).bind (·.dst) = some dj) (he : e dj = .lit (.bool b)) (hd : o.dst = some d) (ha : b = true → aval P o.op (aev e) σ = some a)
  (h : a1_ P ops Kk rest (upd e d (gval b a)) σ) : a1_ P ops Kk (o :: rest) e σ := by
 unfold a1_ bY_
 rw [bF_ hg hj he, hd]
 cases b with
 |true => exact eb_ (ha rfl) h
 |false => exact h
theorem ay_ {d j dj : Nat} {a : AVal} {b : Bool} (hg : o.guard = some (j, false)) (hj : (ops[j]?).bind (·.dst) = some dj) (he : e dj = .lit (.bool b)) (hd : o.dst = some d) (ha : (!b) = true → aval P o.op (aev e) σ = some a)
  (h : a1_ P ops Kk rest (upd e d (gval (!b) a)) σ) : a1_ P ops Kk (o :: rest) e σ := by
 unfold a1_ bY_
 rw [bF_ hg hj he, hd]
 cases b with
 |true => exact h
 |false => exact eb_ (ha rfl) h
theorem eo_ {d j dj : Nat} {a : AVal} {b c : Bool} (hg : o.guard = some (j, true)) (hj : (ops[j]?).bind (·.dst) = some dj) (he : e dj = gval b (.lit (.bool c))) (hd : o.dst = some d) (ha : (b && c) = true → aval P o.op (aev e) σ = some a)
  (h : a1_ P ops Kk rest (upd e d (gval (b && c) a)) σ) : a1_ P ops Kk (o :: rest) e σ := by
 unfold a1_ bY_
 rw [dd_ hg hj he, hd]
 have e1 : (b && (c == true)) = (b && c) := by cases b <;> cases c <;> rfl
 rw [e1]
 cases hbc : (b && c) with
 |true => rw [hbc] at h; exact eb_ (ha hbc) h
 |false => rw [hbc] at h; exact h
theorem ge_ {d j dj : Nat} {a : AVal} {b c : Bool} (hg : o.guard = some (j, false)) (hj : (ops[j]?).bind (·.dst) = some dj) (he : e dj = gval b (.lit (.bool c))) (hd : o.dst = some d) (ha : (b && !c) = true → aval P o.op (aev e) σ = some a)
  (h : a1_ P ops Kk rest (upd e d (gval (b && !c) a)) σ) : a1_ P ops Kk (o :: rest) e σ := by
 unfold a1_ bY_
 rw [dd_ hg hj he, hd]
 have e1 : (b && (c == false)) = (b && !c) := by cases b <;> cases c <;> rfl
 rw [e1]
 cases hbc : (b && !c) with
 |true => rw [hbc] at h; exact eb_ (ha hbc) h
 |false => rw [hbc] at h; exact h
theorem o2_ {d j dj : Nat} {a : AVal} {b c : Bool} (hg : o.guard = some (j, true)) (hj : (ops[j]?).bind (·.dst) = some dj) (he : e dj = gval b (.lit (.bool c))) (hd : o.dst = some d) (hx : (b && c) = true → AOp P o (aev e) σ fun v σ' => v = a ∧ σ = σ')
  (h : a1_ P ops Kk rest (upd e d (gval (b && c) a)) σ) : a1_ P ops Kk (o :: rest) e σ := by
 unfold a1_ bY_
 rw [dd_ hg hj he, hd]
 have e1 : (b && (c == true)) = (b && c) := by cases b <;> cases c <;> rfl
 rw [e1]
 cases hbc : (b && c) with
 |true => rw [hbc] at h; exact (hx hbc).mono fun v σ' ⟨h1, h2⟩ => by subst h1; subst h2; exact h
 |false => rw [hbc] at h; exact h
theorem o1_ {d j dj : Nat} {a : AVal} {b c : Bool} (hg : o.guard = some (j, false)) (hj : (ops[j]?).bind (·.dst) = some dj) (he : e dj = gval b (.lit (.bool c))) (hd : o.dst = some d) (hx : (b && !c) = true → AOp P o (aev e) σ fun v σ' => v = a ∧ σ = σ')
  (h : a1_ P ops Kk rest (upd e d (gval (b && !c) a)) σ) : a1_ P ops Kk (o :: rest) e σ := by
 unfold a1_ bY_
 rw [dd_ hg hj he, hd]
 have e1 : (b && (c == false)) = (b && !c) := by cases b <;> cases c <;> rfl
 rw [e1]
 cases hbc : (b && !c) with
 |true => rw [hbc] at h; exact (hx hbc).mono fun v σ' ⟨h1, h2⟩ => by subst h1; subst h2; exact h
 |false => rw [hbc] at h; exact h
theorem bA_ {d : Nat} (hw : aZ_ ops o e = some false) (hd : o.dst = some d) (h : a1_ P ops Kk rest (upd e d (.lit undef)) σ) : a1_ P ops Kk (o :: rest) e σ := by
 unfold a1_ bY_
 rw [hw, hd]; exact h
theorem ch_ {d : Nat} (hw : aZ_ ops o e = some true) (hd : o.dst = some d) (h : AOp P o (aev e) σ fun a σ' => a1_ P ops Kk rest (upd e d a) σ') : a1_ P ops Kk (o :: rest) e σ := by
 unfold a1_ bY_
 rw [hw, hd]; exact h
theorem b8_ {d j dj : Nat} {a : AVal} {b : Bool} (hg : o.guard = some (j, true)) (hj : (ops[j]?).bind (·.dst) = some dj) (he : e dj = .lit (.bool b)) (hd : o.dst = some d) (hx : b = true → AOp P o (aev e) σ fun v σ' => v = a ∧ σ = σ')
  (h : a1_ P ops Kk rest (upd e d (gval b a)) σ) : a1_ P ops Kk (o :: rest) e σ := by
 unfold a1_ bY_
 rw [bF_ hg hj he, hd]
 cases b with
 |true => exact (hx rfl).mono fun v σ' ⟨h1, h2⟩ => by subst h1; subst h2; exact h
 |false => exact h
theorem bQ_ {d j dj : Nat} {a : AVal} {b : Bool} (hg : o.guard = some (j, false)) (hj : (ops[j]?).bind (·.dst) = some dj) (he : e dj = .lit (.bool b)) (hd : o.dst = some d) (hx : (!b) = true → AOp P o (aev e) σ fun v σ' => v = a ∧ σ = σ')
  (h : a1_ P ops Kk rest (upd e d (gval (!b) a)) σ) : a1_ P ops Kk (o :: rest) e σ := by
 unfold a1_ bY_
 rw [bF_ hg hj he, hd]
 cases b with
 |true => exact h
 |false => exact (hx rfl).mono fun v σ' ⟨h1, h2⟩ => by subst h1; subst h2; exact h
end
section
variable {P : Program} {ops : Array Oper} {s0 : Store} {Kk : Env → Store → Prop} {o : Oper} {i : Nat} {r : DT} {e : Env} {σ : Store}
theorem bk_ {d j dj : Nat} {a : AVal} {b : Bool} (ho : ops[i]? = some o) (hg : o.guard = some (j, true)) (hj : (ops[j]?).bind (·.dst) = some dj) (he : e dj = .lit (.bool b)) (hd : o.dst = some d) (ha : b = true → aval P o.op (aev e) s0 = some a)
  (h : dRun P ops s0 Kk r (upd e d (gval b a)) σ) : dRun P ops s0 Kk (.op i 0 r) e σ := by
 have hw := bF_ hg hj he
 cases b with
 |true => exact eS_ ho hd hw (ha rfl) h
 |false => exact bZ_ ho hd hw h
theorem dY_ {d j dj : Nat} {a : AVal} {b : Bool} (ho : ops[i]? = some o) (hg : o.guard = some (j, false)) (hj : (ops[j]?).bind (·.dst) = some dj) (he : e dj = .lit (.bool b)) (hd : o.dst = some d) (ha : (!b) = true → aval P o.op (aev e) s0 = some a)
  (h : dRun P ops s0 Kk r (upd e d (gval (!b) a)) σ) : dRun P ops s0 Kk (.op i 0 r) e σ := by
 have hw := bF_ hg hj he
 cases b with
 |true => exact bZ_ ho hd hw h
 |false => exact eS_ ho hd hw (ha rfl) h
theorem rd_ {d j dj : Nat} {a : AVal} {b : Bool} (ho : ops[i]? = some o) (hg : o.guard = some (j, true)) (hj : (ops[j]?).bind (·.dst) = some dj) (he : e dj = .lit (.bool b)) (hd : o.dst = some d) (hs : s0.Sub σ) (hx : b = true → AOp P o (aev e) σ fun v σ' => v = a ∧ σ = σ')
  (h : dRun P ops s0 Kk r (upd e d (gval b a)) σ) : dRun P ops s0 Kk (.op i 1 r) e σ := by
 have hw := bF_ hg hj he
 cases b with
 |true => exact dR_X ho hd hw ((hx rfl).mono fun v σ' ⟨h1, h2⟩ => by subst h1; subst h2; exact ⟨hs, h⟩)
 |false => exact pp_ ho hd hw hs h
end
section
variable {P : Program} {ops : Array Oper} {s0 : Store} {Kk : Env → Store → Prop} {o : Oper} {i : Nat} {r : DT} {e : Env} {σ : Store}
theorem bI_ {d j dj : Nat} {a : AVal} {b c : Bool} (ho : ops[i]? = some o) (hg : o.guard = some (j, true)) (hj : (ops[j]?).bind (·.dst) = some dj) (he : e dj = gval b (.lit (.bool c))) (hd : o.dst = some d) (ha : (b && c) = true → aval P o.op (aev e) s0 = some a)
  (h : dRun P ops s0 Kk r (upd e d (gval (b && c) a)) σ) : dRun P ops s0 Kk (.op i 0 r) e σ := by
 have hw := dd_ hg hj he
 have e1 : (b && (c == true)) = (b && c) := by cases b <;> cases c <;> rfl
 rw [e1] at hw
 cases hbc : (b && c) with
 |true => rw [hbc] at h hw; exact eS_ ho hd hw (ha hbc) h
 |false => rw [hbc] at h hw; exact bZ_ ho hd hw h
end
theorem aK_ {P : Program} {o : Oper} {α : Operand → AVal} {σ : Store} {a : AVal} {c : Call} {f : Operand} {g : FuncId} {first captured args : List AVal} (ho : o.op = .call c) (hc : c.callee = .value f)
  (hf : α f = .fn (.func g) first captured ∨ (α f = .lit (.func (.func g) #[] #[]) ∧ first = [] ∧ captured = [])) (hg : isGo P g = true)
  (hargs : first ++ c.args.toList.map α ++ captured = args) (hcon : ao_ P g args σ (fun v σ' => v = a ∧ σ = σ')) : AOp P o α σ fun v σ' => v = a ∧ σ = σ' :=
 ae_ ho hc hf hg hargs hcon fun _ _ h => h
def envL : List (Nat × AVal) → Env
 |[] => emp
 |(k, a) :: l => upd (envL l) k a
@[go_sem] theorem au_ : envL [] = emp := rfl
@[go_sem] theorem ar_ (k : Nat) (a : AVal) (l : List (Nat × AVal)) : envL ((k, a) :: l) = upd (envL l) k a := rfl
def b3_ (e : Env) : List (Nat × AVal) → Prop
 |[] => True
 |(k, a) :: l => Wk (e k) a ∧ b3_ e l
theorem b3_.nil {e : Env} : b3_ e [] := trivial
theorem b3_.eq {e : Env} {k : Nat} {a : AVal} {l : List (Nat × AVal)} (h : e k = a) (hl : b3_ e l) : b3_ e ((k, a) :: l) := ⟨by rw [h]; exact .refl _, hl⟩
theorem b3_.wk {e : Env} {k : Nat} {a b : AVal} {l : List (Nat × AVal)} (h : e k = b) (hw : Wk b a) (hl : b3_ e l) : b3_ e ((k, a) :: l) := ⟨by rw [h]; exact hw, hl⟩
theorem b3_.all {e : Env} : ∀ {l : List (Nat × AVal)}, b3_ e l → ∀ k, Wk (e k) (envL l k)
 |[], _, k => .any _
 |(j, a) :: l, h, k => by
  simp only [envL, upd]
  by_cases hk : k = j
  ·subst hk; rw [if_pos rfl]; exact h.1
  ·rw [if_neg hk]; exact h.2.all k
theorem bp_ {P : Program} {n : Nat} {x y : Code} {Q : Exit → Env → Store → Prop} {e : Env} {σ : Store} {ι : Type} (I : ι → Prop) (E : ι → List (Nat × AVal)) (S : ι → Store)
  (h1 : awp P n x (kK_ (fun e' σ' => ∃ i, I i ∧ b3_ e' (E i) ∧ (S i).Wk σ') Q) e σ) (h2 : ∀ i, I i → awp P n y Q (envL (E i)) (S i)) : awp P n (.seq x y) Q e σ :=
 ab_ (h1.mono fun ex e' σ' hq => by
  cases ex with
  |normal => obtain ⟨i, hi, hc, hs⟩ := hq; exact (h2 i hi).wk hc.all hs
  |_ => exact hq)
theorem ap_ {P : Program} {n : Nat} {c : Code} {Q : Exit → Env → Store → Prop} {e : Env} {σ : Store} {ι : Type} (μ : ι → Nat) (I : ι → Prop) (E : ι → List (Nat × AVal)) (S : ι → Store) (i0 : ι)
  (hI : I i0) (hc : b3_ e (E i0)) (hs : (S i0).Wk σ)
  (round : ∀ i, I i → awp P n c (kK_ (fun e' σ' => ∃ i', μ i' < μ i ∧ I i' ∧ b3_ e' (E i') ∧ (S i').Wk σ') Q) (envL (E i)) (S i)) : awp P n (.loop c) Q e σ :=
 nb_ (fun m e σ => ∃ i, μ i = m ∧ I i ∧ b3_ e (E i) ∧ (S i).Wk σ) (m := μ i0) ⟨i0, rfl, hI, hc, hs⟩ fun m e σ ⟨i, hm, hi, hc, hs⟩ =>
  ((round i hi).wk hc.all hs).mono fun ex e' σ' hq => by
   cases ex with
   |normal => obtain ⟨i', hlt, h1, h2, h3⟩ := hq; exact ⟨μ i', by omega, i', rfl, h1, h2, h3⟩
   |_ => exact hq
theorem aJ_ {ι : Type} {μ : ι → Nat} {I : ι → Prop} {E : ι → List (Nat × AVal)} {S : ι → Store} {i : ι} {e : Env} {σ : Store} (i' : ι) (h1 : μ i' < μ i) (h2 : I i') (h3 : b3_ e (E i')) (h4 : (S i').Wk σ) :
  ∃ i', μ i' < μ i ∧ I i' ∧ b3_ e (E i') ∧ (S i').Wk σ := ⟨i', h1, h2, h3, h4⟩
theorem ag_ {K : Env → Store → Prop} {Q : Exit → Env → Store → Prop} {i : Nat} {e : Env} {σ : Store} (h : Q (.exit i) e σ) : kK_ K Q (.exit i) e σ := h
theorem aq_ {Q : Exit → Env → Store → Prop} {i : Nat} {e : Env} {σ : Store} (h : Q .normal e σ) : gd_ i Q (.exit i) e σ := by simpa [gd_] using h
theorem ec_ {Q : Exit → Env → Store → Prop} {i j : Nat} {e : Env} {σ : Store} (hj : j ≠ i) (h : Q (.exit j) e σ) : gd_ i Q (.exit j) e σ := by simpa [gd_, hj] using h
theorem an_ {σ : Store} {o j : Nat} {x : AObj} : (σ.set o x).heap j = none ↔ j ≠ o ∧ σ.heap j = none := ⟨nN_, fun ⟨h1, h2⟩ => by rw [Store.set_ne _ _ h1]; exact h2⟩
def SubX (l : List Nat) (σ τ : Store) : Prop := (∀ i x, i ∉ l → σ.heap i = some x → τ.heap i = some x) ∧ ∀ t n, σ.tok t = some n → τ.tok t = some n
theorem gB_ {σ τ : Store} (h : SubX [] σ τ) : σ.Wk τ := Store.Sub.wk ⟨fun i x hx => h.1 i x (by simp) hx, h.2⟩
theorem iI_ {σ τ : Store} (h : SubX [] σ τ) : σ.Sub τ := ⟨fun i x hx => h.1 i x (by simp) hx, h.2⟩
def WkL : List AVal → List AVal → Prop
 |[], [] => True
 |a :: l, b :: l' => Wk a b ∧ WkL l l'
 |_, _ => False
theorem WkL.at_ : ∀ {l l' : List AVal}, WkL l l' → l.length = l'.length ∧ ∀ i (hi : i < l.length) (hj : i < l'.length), Wk l[i] l'[i]
 |[], [], _ => ⟨rfl, fun i hi => by simp at hi⟩
 |a :: l, b :: l', h => by
  obtain ⟨h1, h2⟩ := WkL.at_ h.2
  refine ⟨by simp [h1], fun i hi hj => ?_⟩
  cases i with
  |zero => exact h.1
  |succ i => exact h2 i (by simpa using hi) (by simpa using hj)
 |[], _ :: _, h => h.elim
 |_ :: _, [], h => h.elim
theorem Store.Wk.refl' {σ τ : Store} (h : σ = τ) : σ.Wk τ := h ▸ Store.Wk.refl σ
theorem Store.wkTake {τ : Store} {o n : Nat} {cs : List AVal} (ho : τ.heap o = some (.cells cs)) : (τ.set o (.cells (cs.take n))).Wk τ := by
 intro κ hI
 obtain ⟨b, hb, hbase, hIb, c, el, hh, hn, hv⟩ := hI.heap o _ ho
 exact hI.step (κ' := κ) (.refl κ) rfl rfl hI.frO b hbase hIb (fun _ _ _ => rfl) o (.cells (cs.take n)) (fun _ _ => rfl) hb ⟨c, el, hh, by simp; omega, fun i hi => by
   rw [List.length_take] at hi
   rw [List.getElem_take]
   exact hv i (by omega)⟩
  (fun o' x hx hne hh => hne (hI.inj o' o x _ b hx ho hh hb))
  (fun t sz v ht hv hh => hI.tokobj t sz v b o _ ht hv hh ho hb)
theorem dJ_ {l : List Nat} {σ : Store} : SubX l σ σ := ⟨fun _ _ _ h => h, fun _ _ h => h⟩
theorem mu_ {l : List Nat} {σ τ : Store} {o : Nat} {x : AObj} (hx : τ.heap o = some x) (h : SubX (o :: l) σ τ) : SubX l (σ.set o x) τ := ⟨fun i y hi hy => by
 by_cases ho : i = o
 ·subst ho; rw [Store.set_get] at hy; rw [hx]; exact hy
 ·rw [Store.set_ne _ _ ho] at hy; exact h.1 i y (by simp [ho, hi]) hy, h.2⟩
theorem eM_ {l : List Nat} {σ τ : Store} {o : Nat} {x : AObj} (ho : o ∈ l) (h : SubX l σ τ) : SubX l (σ.set o x) τ := ⟨fun i y hi hy => by
 by_cases hio : i = o
 ·subst hio; exact absurd ho hi
 ·rw [Store.set_ne _ _ hio] at hy; exact h.1 i y hi hy, h.2⟩
theorem fY_ {l : List Nat} {σ τ : Store} {o : Nat} {x : AObj} (ho : o ∈ l) (h : SubX l σ τ) : SubX l σ (τ.set o x) := ⟨fun i y hi hy => by
 by_cases hio : i = o
 ·subst hio; exact absurd ho hi
 ·rw [Store.set_ne _ _ hio]; exact h.1 i y hi hy, h.2⟩
theorem g9_ {l : List Nat} {σ τ : Store} {o : Nat} {x : AObj} (ho : σ.heap o = none) (h : SubX l σ τ) : SubX l σ (τ.set o x) := ⟨fun i y hi hy => by
 by_cases hio : i = o
 ·subst hio; rw [ho] at hy; cases hy
 ·rw [Store.set_ne _ _ hio]; exact h.1 i y hi hy, h.2⟩
theorem ok_ {l : List Nat} {σ τ : Store} {k : Nat} {p : TypeId × Nat} (h : SubX l σ τ) : SubX l (σ.newTok none k p) (τ.newTok none k p) := ⟨h.1, fun t n ht => by
 simp only [Store.newTok] at ht ⊢
 split
 ·rename_i hh; rw [if_pos hh] at ht; exact ht
 ·rename_i hh; rw [if_neg hh] at ht; simp at ht ⊢; exact h.2 t n ht⟩
theorem iH_ {l : List Nat} {σ τ : Store} {k : Nat} {p : TypeId × Nat} (hk : σ.tok k = none) (h : SubX l σ τ) : SubX l σ (τ.newTok none k p) := ⟨h.1, fun t n ht => by
 simp only [Store.newTok]
 split
 ·rename_i hh; rw [hh, hk] at ht; cases ht
 ·simp; exact h.2 t n ht⟩
structure Fr (σ : Store) (S : List Nat) (σ' : Store) (S' : List Nat) : Prop where
 sub : SubX S σ σ'
 new : ∀ o ∈ S', o ∈ S ∨ σ.heap o = none
theorem Fr.refl (σ : Store) (S : List Nat) : Fr σ S σ S := ⟨dJ_, fun o h => .inl h⟩
theorem Fr.trans {σ τ υ : Store} {S T U : List Nat} (h : Fr σ S τ T) (k : Fr τ T υ U) : Fr σ S υ U where
 sub := by
  refine ⟨fun i x hi hx => k.sub.1 i x (fun hT => ?_) (h.sub.1 i x hi hx), fun t n ht => k.sub.2 t n (h.sub.2 t n ht)⟩
  rcases h.new i hT with h1 | h1
  ·exact hi h1
  ·rw [h1] at hx; cases hx
 new := fun o ho => by
  rcases k.new o ho with h1 | h1
  ·exact h.new o h1
  ·by_cases hS : o ∈ S
   ·exact .inl hS
   ·right
    cases hx : σ.heap o with
    |none => rfl
    |some x => rw [h.sub.1 o x hS hx] at h1; cases h1
theorem Fr.apart {σ σ' : Store} {S S' : List Nat} (h : Fr σ S σ' S') {o : Nat} {x : AObj} (ho : σ.heap o = some x) (hS : o ∉ S) : o ∉ S' ∧ σ'.heap o = some x :=
 ⟨fun hh => (h.new o hh).elim hS (fun h1 => absurd (h1.symm.trans ho) (fun h2 => nomatch h2)), h.sub.1 o x hS ho⟩
theorem Fr.set {σ τ : Store} {S T : List Nat} (h : Fr σ S τ T) {o : Nat} {x : AObj} (ho : o ∈ T) : Fr σ S (τ.set o x) T :=
 h.trans ⟨fY_ ho dJ_, fun o h => .inl h⟩
theorem Fr.setNew {σ τ : Store} {S T : List Nat} (h : Fr σ S τ T) {o : Nat} {x : AObj} (ho : τ.heap o = none) : Fr σ S (τ.set o x) (o :: T) :=
 h.trans ⟨g9_ ho dJ_, fun i hi => by
  rcases List.mem_cons.1 hi with rfl | hi
  ·exact .inr ho
  ·exact .inl hi⟩
theorem Fr.del {σ τ : Store} {S T : List Nat} (h : Fr σ S τ T) {o : Nat} (ho : o ∈ T) : Fr σ S (τ.del o) T :=
 h.trans ⟨⟨fun i x hi hx => by rw [Store.del_ne _ (fun hh => hi (by rw [hh]; exact ho))]; exact hx, fun _ _ h => h⟩, fun o h => .inl h⟩
theorem Fr.less {σ τ : Store} {S T U : List Nat} (h : Fr σ S τ T) (hU : ∀ o ∈ U, o ∈ T) : Fr σ S τ U := ⟨h.sub, fun o ho => h.new o (hU o ho)⟩
theorem Fr.newTok {σ τ : Store} {S T : List Nat} (h : Fr σ S τ T) {old : Option Nat} {k : Nat} {p : TypeId × Nat} (ho : ∀ j, old = some j → σ.tok j = none) (hk : τ.tok k = none) : Fr σ S (τ.newTok old k p) T :=
 ⟨⟨h.sub.1, fun t n ht => by
  have h1 := h.sub.2 t n ht
  simp only [Store.newTok]
  rw [if_neg (fun hh => by rw [hh, hk] at h1; cases h1), if_neg (fun hh => by rw [ho t hh.symm] at ht; cases ht)]
  exact h1⟩, h.new⟩
theorem Fr.noTok {σ τ : Store} {S T : List Nat} (h : Fr σ S τ T) {k : Nat} (hk : τ.tok k = none) : σ.tok k = none := by
 cases ht : σ.tok k with
 |none => rfl
 |some n => have := h.sub.2 k n ht; rw [hk] at this; cases this
theorem Fr.alloc {σ τ : Store} {S T : List Nat} (h : Fr σ S τ T) {o : Nat} {x : AObj} (ho : τ.heap o = none) : Fr σ S (τ.set o x) T :=
 h.trans ⟨g9_ ho dJ_, fun o h => .inl h⟩
theorem Fr.setOwn {σ τ : Store} {S T : List Nat} (h : Fr σ S τ T) {o : Nat} {x : AObj} (ho : σ.heap o = none) : Fr σ S (τ.set o x) T :=
 ⟨⟨fun i y hi hy => by rw [Store.set_ne _ _ (fun hh => by rw [hh, ho] at hy; cases hy)]; exact h.sub.1 i y hi hy, h.sub.2⟩, h.new⟩
theorem Fr.delOwn {σ τ : Store} {S T : List Nat} (h : Fr σ S τ T) {o : Nat} (ho : σ.heap o = none) : Fr σ S (τ.del o) T :=
 ⟨⟨fun i y hi hy => by rw [Store.del_ne _ (fun hh => by rw [hh, ho] at hy; cases hy)]; exact h.sub.1 i y hi hy, h.sub.2⟩, h.new⟩
theorem Fr.ownOf {σ τ τ' : Store} {S S' : List Nat} (h : Fr σ [] τ []) (k : Fr τ S τ' S') (hS : ∀ o ∈ S, σ.heap o = none) : Fr σ [] τ' [] ∧ ∀ o ∈ S', σ.heap o = none := by
 refine ⟨⟨⟨fun i x _ hx => ?_, fun t n ht => k.sub.2 t n (h.sub.2 t n ht)⟩, fun o ho => by cases ho⟩, fun o ho => ?_⟩
 ·exact k.sub.1 i x (fun hh => by rw [hS i hh] at hx; cases hx) (h.sub.1 i x (by simp) hx)
 ·rcases k.new o ho with h1 | h1
  ·exact hS o h1
  ·cases hx : σ.heap o with
   |none => rfl
   |some x => have := h.sub.1 o x (by simp) hx; rw [h1] at this; cases this
theorem Fr.noObj {σ τ : Store} {T : List Nat} (h : Fr σ [] τ T) {o : Nat} (ho : τ.heap o = none) : σ.heap o = none := by
 cases hx : σ.heap o with
 |none => rfl
 |some x => have := h.sub.1 o x (by simp) hx; rw [ho] at this; cases this
theorem cD_ {σ : Store} {o i : Nat} {x y : AObj} (ho : σ.heap o = none) (hx : σ.heap i = some y) : (σ.set o x).heap i = some y := by
 rw [Store.set_ne _ _ (fun hh => by rw [hh, ho] at hx; cases hx)]; exact hx
theorem Fr.more {σ τ : Store} {S T : List Nat} (h : Fr σ S τ T) (U : List Nat) : Fr σ (U ++ S) τ (U ++ T) :=
 ⟨⟨fun i x hi hx => h.sub.1 i x (fun hh => hi (List.mem_append_right _ hh)) hx, h.sub.2⟩, fun o ho => by
  rcases List.mem_append.1 ho with h1 | h1
  ·exact .inl (List.mem_append_left _ h1)
  ·rcases h.new o h1 with h2 | h2
   ·exact .inl (List.mem_append_right _ h2)
   ·exact .inr h2⟩
theorem a8_ {σ : Store} {k k' : Nat} {p : TypeId × Nat} (h : (σ.newTok none k p).tok k' = none) : k' ≠ k ∧ σ.tok k' = none := by
 simp only [Store.newTok] at h
 split at h
 ·cases h
 ·rename_i hh; simp at h; exact ⟨hh, h⟩
theorem aT_ {σ : Store} {o i : Nat} {x : AObj} (h : σ.heap o = some x) (h' : σ.heap i = none) : o ≠ i := fun hh => by rw [hh, h'] at h; cases h
theorem Store.set_self {σ : Store} {o : Nat} {x : AObj} (h : σ.heap o = some x) : σ.set o x = σ := by
 unfold Store.set
 have : (fun i => if i = o then some x else σ.heap i) = σ.heap := by
  funext i
  split
  ·rename_i hh; rw [hh, h]
  ·rfl
 rw [this]
theorem eq_ (a b : ByteArray) (h : a.size + b.size ≤ 1000000000) : astr .add a b = some (.string (a ++ b)) := iT_ a b (by unfold gW_; omega)
theorem ao_.wkS {P : Program} {f : FuncId} {args : List AVal} {σ : Store} {Q Q' : AVal → Store → Prop} (h : ao_ P f args σ Q) (hq : ∀ a σ', Q a σ' → ∃ a' σ'', Wk a a' ∧ σ''.Wk σ' ∧ Q' a' σ'') : ao_ P f args σ Q' :=
 fun κ vs hI hn hv => (h κ vs hI hn hv).mono fun _ _ ⟨cv, he, κ', a, σ', h1, h2, h3, h4, h5⟩ => by
  obtain ⟨a', σ'', hwk, hsub, hQ⟩ := hq a σ' h5
  exact ⟨cv, he, κ', a', σ'', h1, h2, hsub κ' h3, h4.wk hwk, hQ⟩
end Go.Ab
end

section
set_option linter.all false
namespace Go.Ab
theorem AOp.after {P : Program} {o : Oper} {α : Operand → AVal} {σ : Store} {K1 K2 : AVal → Store → Prop} (h : AOp P o α σ K1)
  (hk : ∀ (κ : K) a σ' cv, Inv κ σ' → Rv κ a cv → K1 a σ' → ∃ κ' a' σ'', κ'.w = κ.w ∧ κ.Le κ' ∧ Inv κ' σ'' ∧ Rv κ' a' cv ∧ K2 a' σ'') : AOp P o α σ K2 :=
 fun κ ev hI hx => (h κ ev hI hx).mono fun cv w ⟨κ1, a, σ', h1, h2, h3, h4, h5⟩ => by
  obtain ⟨κ2, a', σ'', g1, g2, g3, g4, g5⟩ := hk κ1 a σ' cv h3 h4 h5
  exact ⟨κ2, a', σ'', g1.trans h1, h2.trans g2, g3, g4, g5⟩
theorem Store.set_del {σ : Store} {i : Nat} {x : AObj} (h : σ.heap i = none) : (σ.set i x).del i = σ := by
 unfold Store.set Store.del
 cases σ with
 |mk hp tk =>
  congr 1
  funext j
  by_cases hj : j = i
  ·subst hj; simp; exact h.symm
  ·simp [hj]
theorem i4_ {l : List AVal} (h : ∀ x ∈ l, x.cells = [x]) : flat l = l := by
 induction l with
 |nil => rfl
 |cons x l ih => rw [bu_, h x (List.mem_cons_self ..), ih fun y hy => h y (List.mem_cons_of_mem _ hy)]; rfl
end Go.Ab
end

section
set_option linter.all false
namespace Go.Ab
def B (l : List UInt8) : ByteArray := ⟨l.toArray⟩
def Lb (s : ByteArray) : List UInt8 := s.data.toList
theorem B_Lb (s : ByteArray) : B (Lb s) = s := by cases s; simp [B, Lb]
theorem Lb_B (l : List UInt8) : Lb (B l) = l := by simp [B, Lb]
theorem df_ (a b : List UInt8) : B a ++ B b = B (a ++ b) := by
 apply ByteArray.ext; simp [B, ByteArray.data_append]
theorem cK_ (l : List UInt8) : (B l).size = l.length := by show l.toArray.size = _; simp
theorem aB_ (s : ByteArray) : (Lb s).length = s.size := by show s.data.toList.length = s.data.size; simp
theorem sC_ {a b : List UInt8} (h : B a = B b) : a = b := by
 have := congrArg Lb h
 rwa [Lb_B, Lb_B] at this
theorem fn_ {a b : ByteArray} (h : Lb a = Lb b) : a = b := by rw [← B_Lb a, h, B_Lb]
theorem hh_ (a b : ByteArray) : Lb (a ++ b) = Lb a ++ Lb b := by
 apply sC_; rw [← df_, B_Lb, B_Lb, B_Lb]
theorem bM_ (s : ByteArray) (i j : Nat) : s.extract i j = B (((Lb s).take j).drop i) := by
 apply ByteArray.ext
 rw [ByteArray.data_extract]
 apply Array.ext'
 simp only [B, Lb, Array.toList_extract, List.extract_eq_drop_take]
 rw [List.drop_take]
theorem gf_ (k k' : IntKind) (a b : Int) (h0 : 0 ≤ b) (h1 : b ≤ k.bits) : aint .shl k a k' b = some (.int k (k.wrap (a * 2 ^ b.toNat))) := by
 simp only [aint]
 rw [if_neg (by omega), Nat.min_eq_left (by omega)]
theorem eP_ (k k' : IntKind) (a b : Int) (h0 : 0 ≤ b) (h1 : b ≤ k.bits) : aint .shr k a k' b = some (.int k (a / 2 ^ b.toNat)) := by
 simp only [aint]
 rw [if_neg (by omega), Nat.min_eq_left (by omega), Int.fdiv_eq_ediv_of_nonneg _ (Int.le_of_lt (Int.pow_pos (by decide)))]
@[go_sem] theorem os_ (k' : IntKind) (a b : Int) (h0 : 0 ≤ b) (h1 : b ≤ 64) : aint .shl .i64 a k' b = some (.int .i64 (IntKind.i64.wrap (a * 2 ^ b.toNat))) := gf_ .i64 k' a b h0 h1
@[go_sem] theorem ou_ (k' : IntKind) (a b : Int) (h0 : 0 ≤ b) (h1 : b ≤ 64) : aint .shr .i64 a k' b = some (.int .i64 (a / 2 ^ b.toNat)) := eP_ .i64 k' a b h0 h1
@[go_sem] theorem ot_ (k' : IntKind) (a b : Int) (h0 : 0 ≤ b) (h1 : b ≤ 32) : aint .shl .u32 a k' b = some (.int .u32 (IntKind.u32.wrap (a * 2 ^ b.toNat))) := gf_ .u32 k' a b h0 h1
@[go_sem] theorem ov_ (k' : IntKind) (a b : Int) (h0 : 0 ≤ b) (h1 : b ≤ 32) : aint .shr .u32 a k' b = some (.int .u32 (a / 2 ^ b.toNat)) := eP_ .u32 k' a b h0 h1
@[go_sem] theorem qU_ (a b : List UInt8) (h : a.length + b.length ≤ 9223372036854775807) : astr .add (B a) (B b) = some (.string (B (a ++ b))) := by
 rw [iT_ _ _ (by rw [cK_, cK_]; exact h), df_]
theorem aX_ {α : Type} {l : List α} {k : Nat} {c : α} (h : l[k]? = some c) : l.take (k + 1) = l.take k ++ [c] := by rw [List.take_succ, h]; rfl
end Go.Ab
end

section
set_option linter.all false
namespace Go.Ab
open Go.RowKit (Below)
section
variable {P : Program} {o : Oper} {α : Operand → AVal} {σ : Store} {Kk : AVal → Store → Prop}
theorem Inv.setRaw {κ : K} {σ : Store} (h : Inv κ σ) {i : Nat} {x y : Obj} (hi : σ.heap i = some (.raw x)) (hy : ∀ c e f, y ≠ .cells c e f) :
  ∃ b, κ.ρ i = some b ∧ κ.w.heap[b]? = some x ∧ κ.Le { κ with w := { κ.w with heap := κ.w.heap.setIfInBounds b y } } ∧ Inv { κ with w := { κ.w with heap := κ.w.heap.setIfInBounds b y } } (σ.set i (.raw y)) := by
 obtain ⟨b, hb, hbase, hIb, hh, hx⟩ := h.heap i _ hi
 have hle : κ.Le { κ with w := { κ.w with heap := κ.w.heap.setIfInBounds b y } } := by
  refine ⟨rfl, ⟨rfl, rfl, rfl, by simp, fun k hk => a4_ _ (by omega)⟩, fun b' s e' => ?_, fun _ _ e' => e', fun _ _ e' => e', fun _ => Nat.le_refl _, fun b' off' u hi e' => ?_, Nat.le_refl _⟩
  ·have hne : b' ≠ b := fun hh' => by
    subst hh'
    unfold World.shape? at e'
    rw [hh] at e'
    cases x <;> first | (cases e'; done) | exact hx _ _ _ rfl
   unfold World.shape? at e' ⊢
   dsimp only
   rw [a4_ _ hne]; exact e'
  ·have hne : b' ≠ b := fun hh' => by rw [hh', hIb] at hi; omega
   simp only [World.cell?] at e' ⊢
   rw [a4_ _ hne]; exact e'
 refine ⟨b, hb, hh, hle, h.step hle rfl rfl h.frO b hbase hIb (fun b' hne _ => a4_ _ hne) i _ (fun _ _ => rfl) hb ⟨eA_ _ hh, hy⟩ ?_ ?_⟩
 ·intro j z hz hne hh'
  exact hne (h.inj j i _ _ b hz hi hh' hb)
 ·intro t sz u ht hu hh'
  exact h.tokobj t sz u b i _ ht hu hh' hi hb
theorem j0_ {t : TypeId} {x : Operand} {s : ByteArray} (ho : o.op = .range t x) (ht : P.underlying t = some .string) (hx : α x = .lit (.string s)) (hk : ∀ i, σ.heap i = none → Kk (.ref i 0) (σ.set i (.raw (.stringIter s 0)))) : AOp P o α σ Kk := by
 obtain ⟨dst, op, ty, pos, after, guard⟩ := o
 obtain rfl : op = _ := ho
 intro κ ev hI hxx
 have hv := hxx x (by simp [Op.operands])
 rw [hx] at hv
 obtain ⟨i, hi, hfree⟩ := hI.fresh
 obtain ⟨κ', hw, hle, hρ, hI'⟩ := hI.alloc i hi (.raw (.stringIter s 0)) (.stringIter s 0) fun κ' hle hh _ => ⟨hh, fun _ _ _ h => by cases h⟩
 refine bo_ rfl ⟨.pointer (some ⟨κ.w.heap.size, 0, none⟩), κ.w.alloc (.stringIter s 0), ?_, κ', .ref i 0, _, hw, hle, hI', .ref i 0 _ hρ, hk i hfree⟩
 rw [hv.litInv]
 exact run_range_string κ.w t s ht
def db_ (s : ByteArray) (p : Nat) : Int := (Utf8.decode s p).1
def kx_ (s : ByteArray) (p : Nat) : Nat := (Utf8.decode s p).2
theorem el_ {x : Operand} {s : ByteArray} {i p : Nat} (ho : o.op = .next x true) (hx : α x = .ref i 0) (hh : σ.heap i = some (.raw (.stringIter s p)))
  (hy : p < s.size → Kk (.tup [.lit (.bool true), .lit (.int .i64 p), .lit (.int .i32 (db_ s p))]) (σ.set i (.raw (.stringIter s (p + kx_ s p)))))
  (hn : ¬ p < s.size → Kk (.tup [.lit (.bool false)]) σ) : AOp P o α σ Kk := by
 obtain ⟨dst, op, ty, pos, after, guard⟩ := o
 obtain rfl : op = _ := ho
 intro κ ev hI hxx
 have hv := hxx x (by simp [Op.operands])
 rw [hx] at hv
 obtain ⟨b, hb, hheap, hle, hI'⟩ := hI.setRaw (y := .stringIter s (p + kx_ s p)) hh (fun _ _ _ h => by cases h)
 have he : ev x = .pointer (some ⟨b, 0, none⟩) := by
  generalize ev x = u at hv
  cases hv with
  |ref _ _ b' hb' => rw [hb] at hb'; obtain rfl := Option.some.inj hb'; rfl
 have tup : ∀ (κ : K) (l : List AVal) (vs : List Value), l.length = vs.length → (∀ j (h1 : j < l.length) (h2 : j < vs.length), l[j] = .lit vs[j]) → Rv κ (.tup l) (.tuple vs.toArray) := fun κ l vs h1 h2 =>
  .tup _ _ (by simp [h1]) fun j hj => by
   have : (vs.toArray.getD j undef) = vs[j]'(by omega) := by simp [show j < vs.length by omega]
   rw [h2 j hj (by omega), this]
   exact .lit _
 by_cases hp : p < s.size
 ·refine bo_ rfl ⟨.tuple #[.bool true, .int .i64 p, .int .i32 (db_ s p)], _, ?_, _, _, _, rfl, hle, hI', tup _ _ [.bool true, .int .i64 p, .int .i32 (db_ s p)] rfl (fun j h1 h2 => by match j, h1 with | 0, _ => rfl | 1, _ => rfl | 2, _ => rfl), hy hp⟩
  rw [he]
  simp [Instr.next, getObj, setObj, Sem.run, hheap, hp, Result.andThen, goInt, db_, kx_]
 ·refine bo_ rfl ⟨.tuple #[.bool false], κ.w, ?_, κ, _, σ, rfl, K.Le.refl _, hI, tup _ _ [.bool false] rfl (fun j h1 h2 => by match j, h1 with | 0, _ => rfl), hn hp⟩
  rw [he]
  simp [Instr.next, getObj, Sem.run, hheap, hp, Result.andThen]
end
end Go.Ab
end

section
set_option linter.all false
namespace Go.Ab
open Go.RowKit (Below)
section
variable {P : Program} {o : Oper} {α : Operand → AVal} {σ : Store} {Kk : AVal → Store → Prop}
theorem cz_ {s x : Operand} {t tx e : TypeId} {sz by_ : Nat} {l l2 : List AVal} {old : Option Nat}
  (ho : o.op = .call { callee := .builtin .append, args := #[s, x], argTypes := #[t, tx] }) (hse : aE_ P t = some e) (hte : a5_ P e = some (sz, by_))
  (hs : (∃ k, α s = .own k sz l ∧ σ.tok k = some (e, sz) ∧ old = some k) ∨ (α s = .lit (.slice none 0 0) ∧ l = [] ∧ old = none))
  (hx : ASrc P sz tx (α x) l2) (hlen : (l.length + l2.length) * by_ ≤ 140737488355328)
  (hk : ∀ t', σ.tok t' = none → Kk (.own t' sz (l ++ l2)) (σ.newTok old t' (e, sz))) : AOp P o α σ Kk := by
 obtain ⟨dst, op, ty, pos, after, guard⟩ := o
 obtain rfl : op = .call { callee := .builtin .append, args := #[s, x], argTypes := #[t, tx] } := ho
 intro κ ev hI hxx
 obtain ⟨i, z, hi, hz, hisz, hiby, hzs, hsz, hby⟩ := a3_ hte
 have hts : P.underlying t = some (.slice e) := by
  unfold aE_ at hse
  split at hse
  ·rename_i e' he'; obtain rfl := Option.some.inj hse; exact he'
  ·cases hse
 have hvs := hxx s (by simp [Op.operands, Call.operands])
 have hvx := hxx x (by simp [Op.operands, Call.operands])
 have hle47 : l.length + l2.length ≤ 140737488355328 := Nat.le_trans (Nat.le_mul_of_pos_right _ hby) hlen
 obtain ⟨us, hlsz, hown, hus, hIold, hfreeold⟩ := fs_ hI hvs hs
 obtain ⟨vs, hl2sz, hvsr, hsrc⟩ := hx.spec hvx
 have hfl2 : vs.length = l2.length * sz := by rw [← hvsr.1, aU_ hl2sz]
 obtain ⟨v', w', hrun, hown', hcase⟩ := ep_ (P := P) κ.w κ.base t tx ty e i z sz by_ hts hi hz hisz hiby hzs hsz (ev s) l.length us hown (ev x) l2.length vs hfl2 hsrc (by simp only [maxLen]; omega) hlen hI.base
 obtain ⟨κ', t', rfl, hle, hI', hr', htok'⟩ := ft_ hI hlsz hl2sz hus hvsr hIold hfreeold hown' hcase
 exact bo_ (s := Builtin.append_ #[t, tx] ty #[ev s, ev x]) (by simp [execOp, resolve, invoke, builtin]) ⟨v', κ'.w, hrun, κ', .own t' sz (l ++ l2), σ.newTok old t' (e, sz), rfl, hle, hI', hr', hk t' htok'⟩
theorem jU_ {t : TypeId} {z : Value} {r : List Value} (ho : o.op = .alloc t) (hz : b9_ P t = some z) (hc : z.cells.toList = .pointer none :: r) (hk : ∀ i, σ.heap i = none → Kk (.ref i 0) (σ.set i (.cells (.nilp i t (r.length + 1) :: r.map .lit)))) : AOp P o α σ Kk := by
 obtain ⟨dst, op, ty, pos, after, guard⟩ := o
 obtain rfl : op = .alloc t := ho
 intro κ ev hI hx
 obtain ⟨i, hi, hfree⟩ := hI.fresh
 have hsz : z.cells.size = r.length + 1 := by rw [← Array.length_toList, hc]; rfl
 obtain ⟨κ', hw, hle, hρ, hI'⟩ := hI.alloc i hi (.cells (.nilp i t (r.length + 1) :: r.map .lit)) (.cells z.cells t) fun κ' hle hh hρ' =>
  ⟨z.cells, t, hh, by simp [hsz], fun j hj => by
   have e1 : z.cells.getD j undef = (.pointer none :: r)[j]'(by simpa using hj) := by
    have : j < z.cells.size := by rw [hsz]; simpa using hj
    simp only [Array.getD_eq_getD_getElem?, ← Array.getElem?_toList, hc]
    rw [List.getElem?_eq_getElem (by simpa using hj)]; rfl
   rw [e1]
   cases j with
   |zero => exact .nilp i t _ κ.w.heap.size (by rw [hρ']; simp) (by unfold World.shape?; rw [hh]; simp [hsz])
   |succ j => simp only [List.getElem_cons_succ, List.getElem_map]; exact .lit _⟩
 refine bo_ rfl ⟨.pointer (some ⟨κ.w.heap.size, 0, none⟩), κ.w.alloc (.cells z.cells t), ?_, κ', .ref i 0, _, hw, hle, hI', .ref i 0 _ hρ, hk i hfree⟩
 simp only [Instr.alloc, Sem.run_bind, ba_ hz, Result.andThen_ok, newVar, newRow, run_newObj, Sem.run_pure, World.alloc_eq]
theorem eJ_ {κ : K} (hI : Inv κ σ) {i n b : Nat} {e : TypeId} {r : List AVal} (hh : σ.heap i = some (.cells (.nilp i e n :: r))) (hb : κ.ρ i = some b) : κ.w.shape? b = some (e, n) := by
 obtain ⟨b', hb', _, _, c, e', hheap, hlen, hR⟩ := hI.heap i _ hh
 rw [hb] at hb'
 obtain rfl := Option.some.inj hb'
 have := hR 0 (by simp)
 generalize c.getD 0 undef = u at this
 simp only [List.getElem_cons_zero] at this
 cases this with
 |nilp _ _ _ b2 hb2 hs => rw [hb] at hb2; obtain rfl := Option.some.inj hb2; exact hs
theorem oQ_ {κ : K} {i b off : Nat} {v : Value} (h : Rv κ (.ref i off) v) (hb : κ.ρ i = some b) : v = .pointer (some ⟨b, off, none⟩) := by
 cases h with
 |ref _ _ b' hb' => rw [hb] at hb'; obtain rfl := Option.some.inj hb'; rfl
theorem e1_ {src dst t e : TypeId} {x : Operand} {i n : Nat} {r : List AVal} (ho : o.op = .convert src dst x) (hs : P.underlying src = some (.pointer t)) (hd : P.underlying dst = some .unsafePointer) (ht : ((P.info? t).map fun j => j.size == 0) = some false)
  (hx : α x = .ref i 0) (hh : σ.heap i = some (.cells (.nilp i e n :: r))) (hn : 0 < n) (hk : Kk (.ref i 0) σ) : AOp P o α σ Kk := by
 obtain ⟨dst', op, ty, pos, after, guard⟩ := o
 obtain rfl : op = _ := ho
 intro κ ev hI hxx
 have hv := hxx x (by simp [Op.operands])
 rw [hx] at hv
 obtain ⟨b, hb, _⟩ := hI.heap i _ hh
 have he := oQ_ hv hb
 refine bo_ (s := convert src dst (ev x)) rfl ⟨.pointer (some ⟨b, 0, none⟩), κ.w, ?_, κ, _, σ, rfl, .refl κ, hI, .ref i 0 b hb, hk⟩
 rw [he]
 obtain ⟨j, ht, hj⟩ := Option.map_eq_some_iff.1 ht
 exact Lib.run_to_unsafe κ.w ⟨b, 0, none⟩ hs hd ht (by simpa using hj) (eJ_ hI hh hb) hn
theorem d2_ {src dst u e : TypeId} {x : Operand} {i n : Nat} {r : List AVal} (ho : o.op = .convert src dst x) (hs : P.underlying src = some .unsafePointer) (hd : P.underlying dst = some (.pointer u)) (hu : (P.info? u).isSome = true)
  (hx : α x = .ref i 0) (hh : σ.heap i = some (.cells (.nilp i e n :: r))) (hl : liesAt P P.depth e (n / P.cellsOf e) 0 u 1 = true) (hk : Kk (.ref i 0) σ) : AOp P o α σ Kk := by
 obtain ⟨dst', op, ty, pos, after, guard⟩ := o
 obtain rfl : op = _ := ho
 intro κ ev hI hxx
 have hv := hxx x (by simp [Op.operands])
 rw [hx] at hv
 obtain ⟨b, hb, _⟩ := hI.heap i _ hh
 have he := oQ_ hv hb
 refine bo_ (s := convert src dst (ev x)) rfl ⟨.pointer (some ⟨b, 0, none⟩), κ.w, ?_, κ, _, σ, rfl, .refl κ, hI, .ref i 0 b hb, hk⟩
 rw [he]
 obtain ⟨j, hu⟩ := Option.isSome_iff_exists.1 hu
 exact Lib.run_from_unsafe κ.w ⟨b, 0, none⟩ hs hd hu (eJ_ hI hh hb) hl
def fg_ (P : Program) (f : FuncId) : Option (Array Value → Sem Value) :=
 match P.funcs[f]? with
 |some fn => if !(fn.name == "runtime.NumGoroutine") && fn.body.isNone && (Extern.findNext fn).isNone then Extern.find fn else none
 |none => none
theorem gz_ {f : FuncId} {e : Array Value → Sem Value} (h : fg_ P f = some e) (args : Array Value) (w : World) : (callFunc f args).run P w = ((e args).run P w).andThen fun v w' => .ok (.value v) w' := by
 unfold fg_ at h
 split at h
 ·rename_i fn hf
  split at h
  ·rename_i hc
   simp only [Bool.and_eq_true, Bool.not_eq_true', Option.isNone_iff_eq_none] at hc
   exact run_callFunc_extern hf hc.1.1 (by simpa using hc.1.2) hc.2 h args w
  ·cases h
 ·cases h
theorem dN_ {f : FuncId} {args : Array Operand} {ts : Array TypeId} {e : Array Value → Sem Value} {a : AVal} (ho : o.op = .call { callee := .value (.func f), args := args, argTypes := ts }) (he : fg_ P f = some e)
  (hf : α (.func f) = .lit (.func (.func f) #[] #[])) (h : ∀ κ (ev : Operand → Value), Inv κ σ → (∀ x ∈ args, Rv κ (α x) (ev x)) → ∃ cv, (e (args.map ev)).run P κ.w = .ok cv κ.w ∧ Rv κ a cv) (hk : Kk a σ) : AOp P o α σ Kk := by
 obtain ⟨dst', op, ty, pos, after, guard⟩ := o
 obtain rfl : op = _ := ho
 intro κ ev hI hxx
 obtain ⟨cv, h1, h2⟩ := h κ ev hI fun x hx => hxx x (by simp [Op.operands, Call.operands, hx])
 have hfv : Rv κ (α (.func f)) (ev (.func f)) := hxx (.func f) (by simp [Op.operands, Call.operands])
 rw [hf] at hfv
 have hr : (execOp ev ⟨dst', .call { callee := .value (.func f), args := args, argTypes := ts }, ty, pos, after, guard⟩).run P κ.w = .ok (.value cv) κ.w := by
  simp only [execOp, resolve, Sem.run_bind, hfv.litInv, Deferred.ofValue, Sem.run_pure, Result.andThen_ok, invoke]
  rw [gz_ he]
  simp [h1]
 rw [hr]
 exact ⟨κ, a, σ, rfl, .refl κ, hI, h2, hk⟩
theorem mh_ {κ : K} {α : Operand → AVal} {x : Operand} {ev : Operand → Value} (h : Rv κ (α x) (ev x)) : ∃ cv, (Extern.AbiNoEscape.same (#[x].map ev)).run P κ.w = .ok cv κ.w ∧ Rv κ (α x) cv := ⟨ev x, by rw [show #[x].map ev = #[ev x] from by simp]; exact Lib.run_noEscape κ.w (ev x), h⟩
theorem em_ {x : Operand} {t e : TypeId} {k : Nat} {l : List AVal} {e0 : TypeId} (ho : o.op = .call { callee := .builtin .unsafeSliceData, args := #[x], argTypes := #[t] }) (hty : P.underlying o.type = some (.pointer e))
  (hx : (α x = .own k 1 l ∧ σ.tok k = some (e0, 1)) ∨ (α x = .lit (.slice none 0 0) ∧ l = [])) (hk : Kk (.sdp k l) σ) : AOp P o α σ Kk := by
 obtain ⟨dst', op, ty, pos, after, guard⟩ := o
 obtain rfl : op = _ := ho
 intro κ ev hI hxx
 have hv := hxx x (by simp [Op.operands, Call.operands])
 have fin : ∀ (cv : Value) κ', (Builtin.unsafeSliceData_ #[t] ty #[ev x]).run P κ.w = .ok cv κ'.w → κ.Le κ' → Inv κ' σ → Rv κ' (.sdp k l) cv → Upon P (Post κ Kk) ((execOp ev ⟨dst', .call { callee := .builtin .unsafeSliceData, args := #[x], argTypes := #[t] }, ty, pos, after, guard⟩).run P κ.w) := fun cv κ' h1 h2 h3 h4 =>
  bo_ (s := Builtin.unsafeSliceData_ #[t] ty #[ev x]) (by simp [execOp, resolve, invoke, builtin]) ⟨cv, κ'.w, h1, κ', .sdp k l, σ, rfl, h2, h3, h4, hk⟩
 rcases hx with ⟨hx, htok⟩ | ⟨hx, rfl⟩
 ·rw [hx] at hv
  obtain ⟨v, hτ, n, xs, how, _⟩ := hI.tok k _ htok
  dsimp only at how
  generalize ev x = u at hv fin
  cases hv with
  |own _ _ _ _ h0 hτ' =>
   rw [hτ] at hτ'
   obtain rfl := Option.some.inj hτ'
   obtain ⟨a, cap, us, hev, _, _, _⟩ := cG_ h0
   rcases how.2 with ⟨h1, h2⟩ | ⟨g, cap', cur, fr, h1, hbg, hg, hfr, hnc, hcm, hcs, htk⟩
   ·rw [hev] at h1
    simp only [Value.slice.injEq] at h1
    obtain rfl : l = [] := List.eq_nil_of_length_eq_zero h1.2.1
    rw [hev, h1.1] at fin
    exact fin (.pointer none) κ (Lib.run_unsafeSliceData_nil κ.w _ _ _ _) (.refl κ) hI (.sdp0 k none)
   ·rw [hev] at h1
    simp only [Value.slice.injEq] at h1
    obtain ⟨rfl, hnl, rfl⟩ := h1
    subst hev
    by_cases hc : cap = 0
    ·subst hc
     obtain rfl : l = [] := List.eq_nil_of_length_eq_zero (by omega)
     obtain ⟨κ', hw, hle, _, hI'⟩ := pV_ hI (w1 := κ.w) (.inl rfl) (.view ⟨g, 0, none⟩ e) 0
     exact fin (.pointer (some ⟨κ.w.heap.size, 0, none⟩)) κ' (by rw [hw]; exact Lib.run_unsafeSliceData_zero κ.w _ ty e hty _ _ (e0, cur.size) (by unfold World.shape?; rw [hg])) hle hI' (.sdp0 k _)
    ·exact fin (.pointer (some ⟨g, 0, none⟩)) κ (Lib.run_unsafeSliceData_row κ.w _ _ _ _ _ hc) (.refl κ) hI (.sdp k l g cap h0 hτ)
 ·rw [hx] at hv
  rw [hv.litInv] at fin
  exact fin (.pointer none) κ (Lib.run_unsafeSliceData_nil κ.w _ _ _ _) (.refl κ) hI (.sdp0 k none)
theorem Store.delTok_sub (σ : Store) (k : Nat) : (σ.delTok k).Sub σ := ⟨fun _ _ h => h, fun t n h => by
 by_cases ht : t = k
 ·subst ht; simp [Store.delTok] at h
 ·simpa [Store.delTok, ht] using h⟩
theorem d6_ (w : World) {g b : Nat} (n : Nat) (h : b ≠ g) : (w.freeze ⟨g, 0, none⟩ n).heap[b]? = w.heap[b]? := by
 unfold World.freeze
 split
 ·rfl
 ·simp only [Array.getElem?_modify]; rw [if_neg (Ne.symm h)]
theorem h1_ (w : World) (a : Addr) (n b : Nat) : (w.freeze a n).shape? b = w.shape? b := by
 by_cases h0 : n = 0
 ·simp [World.freeze, h0]
 ·simp only [World.freeze, World.shape?, h0, if_false, Array.getElem?_modify]
  by_cases hb : a.block = b
  ·rw [if_pos hb]
   cases w.heap[b]? with
   |none => rfl
   |some x => cases x <;> rfl
  ·rw [if_neg hb]
theorem ih_ (w : World) (a : Addr) (n : Nat) (p : Addr) : (w.freeze a n).cell? p = w.cell? p := by
 by_cases h0 : n = 0
 ·simp [World.freeze, h0]
 ·simp only [World.freeze, World.cell?, h0, if_false, Array.getElem?_modify]
  by_cases hb : a.block = p.block
  ·rw [if_pos hb]
   cases w.heap[p.block]? with
   |none => rfl
   |some x => cases x <;> rfl
  ·rw [if_neg hb]
theorem fc_ {x y : Operand} {t t2 e : TypeId} {k : Nat} {s : ByteArray} (ho : o.op = .call { callee := .builtin .unsafeString, args := #[x, y], argTypes := #[t, t2] }) (ht : P.underlying t = some (.pointer e)) (hc : P.cellsOf e = 1)
  (hx : α x = .sdp k (a7_ s)) (hy : α y = .lit (.int .i64 (s.size : Int))) (htok : s.size = 0 ∨ σ.tok k = some (e, 1)) (h63 : s.size ≤ 9223372036854775807) (hk : Kk (.lit (.string s)) (σ.delTok k)) : AOp P o α σ Kk := by
 obtain ⟨dst', op, ty, pos, after, guard⟩ := o
 obtain rfl : op = _ := ho
 intro κ ev hI hxx
 have hvx := hxx x (by simp [Op.operands, Call.operands])
 have hvy := hxx y (by simp [Op.operands, Call.operands])
 rw [hx] at hvx
 rw [hy] at hvy
 have hey := hvy.litInv
 have fin : ∀ κ', (Builtin.unsafeString_ #[t, t2] ty #[ev x, .int .i64 (s.size : Int)]).run P κ.w = .ok (.string s) κ'.w → κ.Le κ' → Inv κ' (σ.delTok k) → Upon P (Post κ Kk) ((execOp ev ⟨dst', .call { callee := .builtin .unsafeString, args := #[x, y], argTypes := #[t, t2] }, ty, pos, after, guard⟩).run P κ.w) := fun κ' h1 h2 h3 =>
  bo_ (s := Builtin.unsafeString_ #[t, t2] ty #[ev x, ev y]) (by simp [execOp, resolve, invoke, builtin]) ⟨.string s, κ'.w, by rw [hey]; exact h1, κ', .lit (.string s), _, rfl, h2, h3, .lit _, hk⟩
 by_cases h0 : s.size = 0
 ·have hs : s = .empty := by
   apply ByteArray.ext
   exact Array.eq_empty_of_size_eq_zero h0
  subst hs
  obtain ⟨a, ha⟩ : ∃ a, ev x = .pointer a := by
   generalize ev x = u at hvx
   cases hvx with
   |sdp0 => exact ⟨_, rfl⟩
   |sdp => exact ⟨_, rfl⟩
  exact fin κ (by rw [ha]; exact Lib.run_unsafeString_none κ.w t t2 ty a) (.refl κ) (hI.sub (Store.delTok_sub σ k))
 ·have htk : σ.tok k = some (e, 1) := htok.resolve_left h0
  generalize hu : ev x = u at hvx fin
  generalize hl : a7_ s = l at hvx
  cases hvx with
  |sdp0 => exact absurd (by have := a9_ s; rw [hl] at this; simpa using this.symm) h0
  |sdp _ _ g c hsl hτ =>
   subst hl
   obtain ⟨v, hτ', n, xs, how, hIb⟩ := hI.tok k _ htk
   rw [hτ] at hτ'
   obtain rfl := Option.some.inj hτ'
   rcases how.2 with ⟨h1, _⟩ | ⟨g', cap', cur, fr, h1, hbg, hg, hfr, hnc, hcm, hcs, htkk⟩
   ·cases h1
   simp only [Value.slice.injEq, Option.some.injEq, Addr.mk.injEq, and_true] at h1
   obtain ⟨rfl, hnl, rfl⟩ := h1
   rw [a9_] at hnl
   obtain ⟨a, cap, us, hev, _, hr, hcells⟩ := cG_ hsl
   have hsl' : s.data.toList.length = s.size := by show _ = s.data.size; simp
   have hcell : ∀ (j : Nat) x, s.data.toList[j]? = some x → κ.w.cell? ((⟨g, 0, none⟩ : Addr).add j) = some (.int .u8 x.toNat) := by
    intro j x hj
    simp only [Value.slice.injEq] at hev
    obtain ⟨rfl, _, rfl⟩ := hev
    rcases hcells with ⟨h1, _⟩ | ⟨ad, h1, hcu⟩
    ·cases h1
    ·obtain rfl := Option.some.inj h1
     have hj' : j < s.data.toList.length := (List.getElem?_eq_some_iff.1 hj).1
     have hjl : j < (flat (a7_ s)).length := by rw [eh_, a9_]; exact hsl' ▸ hj'
     have hju : j < us.length := by rw [← hr.1]; exact hjl
     have h2 := hr.2 j hjl hju
     have e3 : (flat (a7_ s))[j] = .lit (.int .u8 x.toNat) := by
      simp only [eh_]
      simp only [a7_, List.getElem_map]
      rw [(List.getElem?_eq_some_iff.1 hj).2]
     rw [e3] at h2
     have := hcu j us[j] (by simp [hju])
     rw [this, h2.litInv]
   have hrun := Lib.run_unsafeString_row (P := P) κ.w t t2 ty e ht hc g cur.size (by unfold World.shape?; rw [hg]) s.data.toList (by intro hh; apply h0; rw [← hsl', hh]; rfl) (by rw [hsl']; omega) (by rw [hsl']; exact h63) hcell
   have e1 : (s.data.toList.length : Int) = (s.size : Int) := by rw [hsl']
   have e2 : (⟨s.data.toList.toArray⟩ : ByteArray) = s := by cases s; simp
   rw [e1, e2] at hrun
   have hle : κ.Le { κ with w := κ.w.freeze ⟨g, 0, none⟩ s.data.toList.length } :=
    ⟨rfl, Lib.below_freeze (Below.refl _ _) hbg _, fun b sh h => by rw [h1_]; exact h, fun _ _ h => h, fun _ _ h => h, fun _ => Nat.le_refl _, fun b off v _ h => by rw [ih_]; exact h, by
     unfold World.freeze; split <;> exact Nat.le_refl _⟩
   refine fin { κ with w := κ.w.freeze ⟨g, 0, none⟩ s.data.toList.length } hrun hle ?_
   have sz : (κ.w.freeze ⟨g, 0, none⟩ s.data.toList.length).heap.size = κ.w.heap.size := by unfold World.freeze; split <;> simp
   have hI1 := hI.sub (Store.delTok_sub σ k)
   have tokne : ∀ t q, (σ.delTok k).tok t = some q → t ≠ k ∧ σ.tok t = some q := fun t q h => by
    by_cases ht : t = k
    ·subst ht; simp [Store.delTok] at h
    ·exact ⟨ht, by simpa [Store.delTok, ht] using h⟩
   exact {
    glob := hI.glob.le hle
    base := by rw [hle.base]; exact Nat.le_trans hI.base hle.below.size
    heap := fun i x hx => by
     obtain ⟨b, hb, hbase, hIb', hR⟩ := hI.heap i x hx
     have hne : b ≠ g := fun hh => hI.tokobj k _ _ g i x htk hτ rfl hx (by rw [hb, hh])
     exact ⟨b, hb, hbase, hIb', hR.mono hle (d6_ _ _ hne)⟩
    inj := hI1.inj
    tok := fun t q ht => by
     obtain ⟨hne, ht'⟩ := tokne t q ht
     obtain ⟨v, hv, hok⟩ := hI.tok t q ht'
     exact ⟨v, hv, hok.mono hle fun b hb => ⟨d6_ _ _ (fun hh => hne (hI.tokinj t k _ _ v _ g ht' htk hv hτ (by rw [hb, hh]) rfl)), rfl⟩⟩
    tokinj := hI1.tokinj
    tokobj := hI1.tokobj
    frO := hI.frO
    frT := hI.frT
    frI := fun b hb => hI.frI b (by rw [← sz]; exact hb) }
theorem eN_ {x y : Operand} {t t2 : TypeId} {k : Nat} (ho : o.op = .call { callee := .builtin .unsafeString, args := #[x, y], argTypes := #[t, t2] })
  (hx : α x = .sdp k []) (hy : α y = .lit (.int .i64 0)) (hk : Kk (.lit (.string ⟨#[]⟩)) σ) : AOp P o α σ Kk := by
 obtain ⟨dst', op, ty, pos, after, guard⟩ := o
 obtain rfl : op = _ := ho
 intro κ ev hI hxx
 have hvx := hxx x (by simp [Op.operands, Call.operands])
 have hvy := hxx y (by simp [Op.operands, Call.operands])
 rw [hx] at hvx
 rw [hy] at hvy
 obtain ⟨a, ha⟩ : ∃ a, ev x = .pointer a := by
  generalize ev x = u at hvx
  cases hvx with
  |sdp0 => exact ⟨_, rfl⟩
  |sdp => exact ⟨_, rfl⟩
 exact bo_ (s := Builtin.unsafeString_ #[t, t2] ty #[ev x, ev y]) (by simp [execOp, resolve, invoke, builtin]) ⟨.string ⟨#[]⟩, κ.w, by rw [hvy.litInv, ha]; exact Lib.run_unsafeString_none κ.w t t2 ty a, κ, .lit (.string ⟨#[]⟩), _, rfl, .refl κ, hI, .lit _, hk⟩
end
end Go.Ab
end

section
set_option linter.all false
set_option maxRecDepth 100000
namespace Go.Proofs.YtkcmbjodladflaaGreatDoor
open Go.Ab
theorem o_ {p : Prop} (h : p := by simp only [List.getElem?_toArray, List.getElem?_cons_zero, List.getElem?_cons_succ]; rfl) : p := h
theorem v_ {p : Prop} (h : p := by first | (simp (disch := omega) only [go_sem, wrap_i64, ↓reduceIte, Nat.reduceEqDiff, Nat.reduceAdd, Nat.reduceSub, Nat.reduceMul, Nat.reduceLeDiff, reduceCtorEq, Int.reduceToNat, Int.reduceLE, Int.reduceLT, List.getElem?_map, Nat.mul_one, R]; rfl) | (simp (disch := omega) only [go_sem, wrap_i64, ↓reduceIte, Nat.reduceEqDiff, Nat.reduceAdd, Nat.reduceSub, Nat.reduceMul, Nat.reduceLeDiff, reduceCtorEq, Int.reduceToNat, Int.reduceLE, Int.reduceLT, List.getElem?_map, Nat.mul_one]; rfl)) : p := h
theorem va_ {p : Prop} (h : p := by first | (simp (disch := omega) only [go_sem, wrap_i64, ↓reduceIte, Nat.reduceEqDiff, Nat.reduceAdd, Nat.reduceSub, Nat.reduceMul, Nat.reduceLeDiff, reduceCtorEq, Int.reduceToNat, Int.reduceLE, Int.reduceLT, List.getElem?_map, Nat.mul_one, R]; rfl) | (simp (disch := omega) only [go_sem, wrap_i64, ↓reduceIte, Nat.reduceEqDiff, Nat.reduceAdd, Nat.reduceSub, Nat.reduceMul, Nat.reduceLeDiff, reduceCtorEq, Int.reduceToNat, Int.reduceLE, Int.reduceLT, List.getElem?_map, Nat.mul_one, R]; done) | (simp (disch := omega) only [go_sem, wrap_i64, ↓reduceIte, Nat.reduceEqDiff, Nat.reduceAdd, Nat.reduceSub, Nat.reduceMul, Nat.reduceLeDiff, reduceCtorEq, Int.reduceToNat, Int.reduceLE, Int.reduceLT, List.getElem?_map, Nat.mul_one]; rfl) | (simp (disch := omega) only [go_sem, wrap_i64, ↓reduceIte, Nat.reduceEqDiff, Nat.reduceAdd, Nat.reduceSub, Nat.reduceMul, Nat.reduceLeDiff, reduceCtorEq, Int.reduceToNat, Int.reduceLE, Int.reduceLT, List.getElem?_map, Nat.mul_one]; done) | rfl) : p := h
theorem h_ {p : Prop} (h : p := by first | (simp (disch := omega) only [go_sem, ↓reduceIte, Nat.reduceEqDiff, Nat.reduceAdd, Nat.reduceSub, Nat.reduceMul, Nat.reduceLeDiff, reduceCtorEq, Int.reduceToNat, Int.reduceLE, Int.reduceLT, List.getElem?_map, Nat.mul_one, R]; rfl) | (simp (disch := omega) only [go_sem, ↓reduceIte, Nat.reduceEqDiff, Nat.reduceAdd, Nat.reduceSub, Nat.reduceMul, Nat.reduceLeDiff, reduceCtorEq, Int.reduceToNat, Int.reduceLE, Int.reduceLT, List.getElem?_map, Nat.mul_one, R]; done) | (simp (disch := omega) only [go_sem, ↓reduceIte, Nat.reduceEqDiff, Nat.reduceAdd, Nat.reduceSub, Nat.reduceMul, Nat.reduceLeDiff, reduceCtorEq, Int.reduceToNat, Int.reduceLE, Int.reduceLT, List.getElem?_map, Nat.mul_one]; rfl) | (simp (disch := omega) only [go_sem, ↓reduceIte, Nat.reduceEqDiff, Nat.reduceAdd, Nat.reduceSub, Nat.reduceMul, Nat.reduceLeDiff, reduceCtorEq, Int.reduceToNat, Int.reduceLE, Int.reduceLT, List.getElem?_map, Nat.mul_one]; done)) : p := h
theorem g_ {p : Prop} (h : p := by first | (simp only [go_sem]; rfl) | (simp only [go_sem]; done) | assumption) : p := h
theorem gl_ {p : Prop} (h : p := by simp only [go_sem, ↓reduceIte, Nat.reduceEqDiff, Nat.reduceAdd, Nat.reduceSub, Nat.reduceMul, Nat.reduceLeDiff, reduceCtorEq, Int.reduceToNat, Int.reduceLE, Int.reduceLT]; rfl) : p := h
theorem c_ {p : Prop} (h : p := by simp [AVal.one, AVal.cells]) : p := h
theorem c2_ {p : Prop} (h : p := by simp [go_sem, AVal.one, AVal.cells, AVal.solid]) : p := h
theorem le_ {p : Prop} (h : p := by first | (simp; done) | (simp; omega) | omega) : p := h
theorem ne_ {p : Prop} (h : p := by first | (simp; done) | (simp; assumption)) : p := h
theorem key_ {p : Prop} (h : p := by first | rfl | trivial | simp [Go.MapKept.IsKey]) : p := h
theorem sub_ {p : Prop} (h : p := by first | exact Store.Wk.refl _ | exact Store.Sub.refl _ | ((try dsimp only); (try simp (disch := assumption) only [Store.newTok_set, Store.newTok_step]); (first | refine gB_ ?_ | refine iI_ ?_ | skip); (repeat (first | refine eM_ (.head _) ?_ | refine eM_ (.tail _ (.head _)) ?_ | refine eM_ (.tail _ (.tail _ (.head _))) ?_ | refine eM_ (.tail _ (.tail _ (.tail _ (.head _)))) ?_ | refine mu_ h_ ?_)); (repeat (first | exact dJ_ | refine fY_ (.head _) ?_ | refine fY_ (.tail _ (.head _)) ?_ | refine fY_ (.tail _ (.tail _ (.head _))) ?_ | refine fY_ (.tail _ (.tail _ (.tail _ (.head _)))) ?_ | refine g9_ (by first | assumption | (simp only [Store.newTok_heap]; assumption)) ?_ | refine ok_ ?_ | refine iH_ (by assumption) ?_)))) : p := h
theorem vg_ {p : Prop} (h : p := by intro hb; have hb' := hb; (try simp only [decide_eq_true_eq, decide_eq_false_iff_not, Bool.not_eq_true', Bool.not_eq_false', Bool.and_eq_true, Bool.or_eq_true, Bool.and_eq_false_iff, Bool.or_eq_false_iff, Bool.not_eq_eq_eq_not, Bool.not_true, Bool.not_false, Int.not_le, Int.not_lt, beq_iff_eq] at hb'); (try simp only [Bool.and_eq_true] at hb); first | (simp (disch := omega) only [go_sem, wrap_i64, ↓reduceIte, Nat.reduceEqDiff, Nat.reduceAdd, Nat.reduceSub, Nat.reduceMul, Nat.reduceLeDiff, reduceCtorEq, Int.reduceToNat, Int.reduceLE, Int.reduceLT, List.getElem?_map, Nat.mul_one, R]; rfl) | (simp (disch := omega) only [go_sem, wrap_i64, ↓reduceIte, Nat.reduceEqDiff, Nat.reduceAdd, Nat.reduceSub, Nat.reduceMul, Nat.reduceLeDiff, reduceCtorEq, Int.reduceToNat, Int.reduceLE, Int.reduceLT, List.getElem?_map, Nat.mul_one, hb, R]; rfl) | (simp (disch := omega) only [go_sem, wrap_i64, ↓reduceIte, Nat.reduceEqDiff, Nat.reduceAdd, Nat.reduceSub, Nat.reduceMul, Nat.reduceLeDiff, reduceCtorEq, Int.reduceToNat, Int.reduceLE, Int.reduceLT, List.getElem?_map, Nat.mul_one]; rfl) | (simp (disch := omega) only [go_sem, wrap_i64, ↓reduceIte, Nat.reduceEqDiff, Nat.reduceAdd, Nat.reduceSub, Nat.reduceMul, Nat.reduceLeDiff, reduceCtorEq, Int.reduceToNat, Int.reduceLE, Int.reduceLT, List.getElem?_map, Nat.mul_one, hb]; rfl)) : p := h
theorem vh_ {p : Prop} (h : p := by (try simp only [Bool.and_eq_true] at hb); first | (simp (disch := omega) only [go_sem, wrap_i64, ↓reduceIte, Nat.reduceEqDiff, Nat.reduceAdd, Nat.reduceSub, Nat.reduceMul, Nat.reduceLeDiff, reduceCtorEq, Int.reduceToNat, Int.reduceLE, Int.reduceLT, List.getElem?_map, Nat.mul_one, hb, R]; rfl) | (simp (disch := omega) only [go_sem, wrap_i64, ↓reduceIte, Nat.reduceEqDiff, Nat.reduceAdd, Nat.reduceSub, Nat.reduceMul, Nat.reduceLeDiff, reduceCtorEq, Int.reduceToNat, Int.reduceLE, Int.reduceLT, List.getElem?_map, Nat.mul_one, hb, R]; done) | (simp (disch := omega) only [go_sem, wrap_i64, ↓reduceIte, Nat.reduceEqDiff, Nat.reduceAdd, Nat.reduceSub, Nat.reduceMul, Nat.reduceLeDiff, reduceCtorEq, Int.reduceToNat, Int.reduceLE, Int.reduceLT, List.getElem?_map, Nat.mul_one, hb]; rfl) | (simp (disch := omega) only [go_sem, wrap_i64, ↓reduceIte, Nat.reduceEqDiff, Nat.reduceAdd, Nat.reduceSub, Nat.reduceMul, Nat.reduceLeDiff, reduceCtorEq, Int.reduceToNat, Int.reduceLE, Int.reduceLT, List.getElem?_map, Nat.mul_one, hb]; done)) : p := h
theorem cg_ {p : Prop} (h : p := by have hb' := hb; (try simp only [decide_eq_true_eq, decide_eq_false_iff_not, Bool.not_eq_true', Bool.not_eq_false', Bool.and_eq_true, Bool.or_eq_true, Bool.and_eq_false_iff, Bool.or_eq_false_iff, Bool.not_eq_eq_eq_not, Bool.not_true, Bool.not_false, Int.not_le, Int.not_lt, beq_iff_eq] at hb'); (try simp only [Bool.and_eq_true] at hb); first | (simp (disch := omega) only [go_sem, wrap_i64, ↓reduceIte, Nat.reduceEqDiff, Nat.reduceAdd, Nat.reduceSub, Nat.reduceMul, Nat.reduceLeDiff, reduceCtorEq, Int.reduceToNat, Int.reduceLE, Int.reduceLT, List.getElem?_map, Nat.mul_one, R]; rfl) | (simp (disch := omega) only [go_sem, wrap_i64, ↓reduceIte, Nat.reduceEqDiff, Nat.reduceAdd, Nat.reduceSub, Nat.reduceMul, Nat.reduceLeDiff, reduceCtorEq, Int.reduceToNat, Int.reduceLE, Int.reduceLT, List.getElem?_map, Nat.mul_one, R]; done) | (simp (disch := omega) only [go_sem, wrap_i64, ↓reduceIte, Nat.reduceEqDiff, Nat.reduceAdd, Nat.reduceSub, Nat.reduceMul, Nat.reduceLeDiff, reduceCtorEq, Int.reduceToNat, Int.reduceLE, Int.reduceLT, List.getElem?_map, Nat.mul_one, hb, R]; rfl) | (simp (disch := omega) only [go_sem, wrap_i64, ↓reduceIte, Nat.reduceEqDiff, Nat.reduceAdd, Nat.reduceSub, Nat.reduceMul, Nat.reduceLeDiff, reduceCtorEq, Int.reduceToNat, Int.reduceLE, Int.reduceLT, List.getElem?_map, Nat.mul_one, hb, R]; done) | (simp (disch := omega) only [go_sem, wrap_i64, ↓reduceIte, Nat.reduceEqDiff, Nat.reduceAdd, Nat.reduceSub, Nat.reduceMul, Nat.reduceLeDiff, reduceCtorEq, Int.reduceToNat, Int.reduceLE, Int.reduceLT, List.getElem?_map, Nat.mul_one]; rfl) | (simp (disch := omega) only [go_sem, wrap_i64, ↓reduceIte, Nat.reduceEqDiff, Nat.reduceAdd, Nat.reduceSub, Nat.reduceMul, Nat.reduceLeDiff, reduceCtorEq, Int.reduceToNat, Int.reduceLE, Int.reduceLT, List.getElem?_map, Nat.mul_one]; done) | (simp (disch := omega) only [go_sem, wrap_i64, ↓reduceIte, Nat.reduceEqDiff, Nat.reduceAdd, Nat.reduceSub, Nat.reduceMul, Nat.reduceLeDiff, reduceCtorEq, Int.reduceToNat, Int.reduceLE, Int.reduceLT, List.getElem?_map, Nat.mul_one, hb]; rfl) | (simp (disch := omega) only [go_sem, wrap_i64, ↓reduceIte, Nat.reduceEqDiff, Nat.reduceAdd, Nat.reduceSub, Nat.reduceMul, Nat.reduceLeDiff, reduceCtorEq, Int.reduceToNat, Int.reduceLE, Int.reduceLT, List.getElem?_map, Nat.mul_one, hb]; done)) : p := h
theorem vb_ {p : Prop} (h : p := by first | (simp (disch := omega) only [go_sem, wrap_i64, ↓reduceIte, Nat.reduceEqDiff, Nat.reduceAdd, Nat.reduceSub, Nat.reduceMul, Nat.reduceLeDiff, reduceCtorEq, Int.reduceToNat, Int.reduceLE, Int.reduceLT, List.getElem?_map, Nat.mul_one, List.map_append, List.map_cons, List.map_nil, R]; done) | (simp (disch := omega) only [go_sem, wrap_i64, ↓reduceIte, Nat.reduceEqDiff, Nat.reduceAdd, Nat.reduceSub, Nat.reduceMul, Nat.reduceLeDiff, reduceCtorEq, Int.reduceToNat, Int.reduceLE, Int.reduceLT, List.getElem?_map, Nat.mul_one, List.map_append, List.map_cons, List.map_nil]; done)) : p := h
theorem cv_ {p : Prop} (h : p := by (repeat (refine b3_.eq (by first | with_reducible rfl | exact va_ | exact vb_ | rfl) ?_)); exact b3_.nil) : p := h
theorem nm_ {p q : Prop} (h : p) (e : p = q := by (try simp only [decide_eq_true_eq, decide_eq_false_iff_not, Bool.not_eq_true', Bool.not_eq_false', Bool.and_eq_true, Bool.or_eq_true, Bool.and_eq_false_iff, Bool.or_eq_false_iff, Bool.not_eq_eq_eq_not, Bool.not_true, Bool.not_false, Int.not_le, Int.not_lt, beq_iff_eq]); rfl) : q := e ▸ h
theorem wn_ {p : Prop} (h : p := by first | exact kD_ (by rfl) (by rfl) v_ (by rfl) | exact iP_ (by rfl) (by rfl) v_ (by rfl)) : p := h
end Go.Proofs.YtkcmbjodladflaaGreatDoor
end

section
set_option linter.all false
set_option maxRecDepth 100000
namespace Go.Proofs.YtkcmbjodladflaaGreatDoor
open Go.Ab
end Go.Proofs.YtkcmbjodladflaaGreatDoor
end

section
set_option linter.all false
namespace Go.Ab
structure Seen where
 node : ByteArray
 base : Int
 more : List Int
structure Sib where
 node : ByteArray
 n : Int
 value : ByteArray
 gone : Bool
 time : Int
structure Obj' where
 ctx : List Seen
 sibs : List Sib
@[reducible] def s3_ (x : Seen) : AVal := .agg [.lit (.string x.node), vInt x.base, .sl 1 (x.more.map vInt) false]
@[reducible] def sSib (x : Sib) : AVal := .agg [.lit (.string x.node), vInt x.n, .lit (.string x.value), .lit (.bool x.gone), vInt x.time]
@[reducible] def sObj (x : Obj') : AVal := .agg [.sl 3 (x.ctx.map s3_) false, .sl 5 (x.sibs.map sSib) false]
end Go.Ab
end

section
set_option linter.all false
set_option maxRecDepth 100000
namespace Go.Proofs.YtkcmbjodladflaaGreatDoor
open Go.Ab
theorem SubX.trans {l : List Nat} {a b c : Store} (h : SubX l a b) (k : SubX l b c) : SubX l a c := ⟨fun i x hi hx => k.1 i x hi (h.1 i x hi hx), fun t n ht => k.2 t n (h.2 t n ht)⟩
theorem SubX.newTok {l : List Nat} {a b : Store} (h : SubX l a b) {old : Option Nat} {k : Nat} {p : TypeId × Nat} (ho : ∀ j, old = some j → a.tok j = none) (hk : b.tok k = none) : SubX l a (b.newTok old k p) := ⟨h.1, fun t n ht => by
 have h1 := h.2 t n ht
 simp only [Store.newTok]
 rw [if_neg (fun hh => by rw [hh, hk] at h1; cases h1), if_neg (fun hh => by rw [ho t hh.symm] at ht; cases ht)]
 exact h1⟩
theorem SubX.noTok {l : List Nat} {a b : Store} (h : SubX l a b) {k : Nat} (hk : b.tok k = none) : a.tok k = none := by
 cases ht : a.tok k with
 |none => rfl
 |some n => have := h.2 k n ht; rw [hk] at this; cases this
end Go.Proofs.YtkcmbjodladflaaGreatDoor
end

section
set_option linter.all false
set_option maxRecDepth 100000
namespace Go.Proofs.YtkcmbjodladflaaGreatDoor
open Go.Ab
theorem keep {l : List Nat} {a b : Store} {i : Nat} {x : AObj} (h : SubX l a b) (hx : a.heap i = some x) (hi : i ∉ l) : b.heap i = some x := h.1 i x hi hx
end Go.Proofs.YtkcmbjodladflaaGreatDoor
end

section
set_option linter.all false
set_option maxRecDepth 100000
namespace Go.Proofs.YtkcmbjodladflaaGreatDoor
open Go.Ab
end Go.Proofs.YtkcmbjodladflaaGreatDoor
end

section
set_option linter.all false
set_option maxRecDepth 100000
namespace Go.Proofs.YtkcmbjodladflaaGreatDoor
open Go.Ab
def bq_ (σ : Store) (e : TypeId) (sz : Nat) (l : List AVal) (a : AVal) (old : Option Nat) : Prop := (∃ k, a = .own k sz l ∧ σ.tok k = some (e, sz) ∧ old = some k) ∨ (a = .lit (.slice none 0 0) ∧ l = [] ∧ old = none)
theorem bq_.wk {σ : Store} {e : TypeId} {sz : Nat} {l : List AVal} {a : AVal} {old : Option Nat} (h : bq_ σ e sz l a old) : Wk a (.sl sz l false) := by
 rcases h with ⟨k, rfl, _⟩ | ⟨rfl, rfl, _⟩
 ·exact .own1 _ _ _
 ·exact .nil _ _
theorem bq_.of {σ : Store} {e : TypeId} {sz : Nat} {l : List AVal} {a b : AVal} {old : Option Nat} (h : bq_ σ e sz l a old) (hb : b = a) : bq_ σ e sz l b old := hb ▸ h
theorem SubX.noObj {l : List Nat} {a b : Store} (h : SubX l a b) {i : Nat} (hi : b.heap i = none) (hl : i ∉ l) : a.heap i = none := by
 cases hh : a.heap i with
 |none => rfl
 |some y => have := h.1 i y hl hh; rw [hi] at this; cases this
end Go.Proofs.YtkcmbjodladflaaGreatDoor
end

section
set_option linter.all false
set_option maxRecDepth 100000
namespace Go.Proofs.YtkcmbjodladflaaGreatDoor
open Go.Ab
def Hld (σ : Store) (o t : Nat) : Prop := ∃ a sz l, σ.heap o = some (.cells [a, .own t sz l])
def WF (o : Nat) (σ σ' : Store) : Prop := (∀ i x, i ≠ o → σ.heap i = some x → σ'.heap i = some x) ∧ ∀ t n, σ.tok t = some n → ¬ Hld σ o t → σ'.tok t = some n ∧ ¬ Hld σ' o t
theorem WF.refl {o : Nat} {σ : Store} : WF o σ σ := ⟨fun _ _ _ h => h, fun _ _ h k => ⟨h, k⟩⟩
theorem WF.trans {o : Nat} {a b c : Store} (h : WF o a b) (k : WF o b c) : WF o a c :=
 ⟨fun i x hi hx => k.1 i x hi (h.1 i x hi hx), fun t n ht hn => k.2 t n (h.2 t n ht hn).1 (h.2 t n ht hn).2⟩
theorem WF.sub {o : Nat} {σ σ' : Store} {x : AObj} (ho : σ.heap o = none) (h : WF o (σ.set o x) σ') (hx : ∀ a t sz l, x ≠ .cells [a, .own t sz l]) : σ.Sub σ' :=
 ⟨fun i y hy => h.1 i y (fun hh => by rw [hh, ho] at hy; cases hy) (by rw [Store.set_ne _ _ (fun hh => by rw [hh, ho] at hy; cases hy)]; exact hy), fun t n ht => (h.2 t n ht fun ⟨a, sz, l, hh⟩ => by
  rw [Store.set_get] at hh
  exact hx _ _ _ _ (Option.some.inj hh)).1⟩
theorem WF.put {σ : Store} {o k : Nat} {a b c : AVal} {l l' : List AVal} {old : Option Nat} {p : TypeId × Nat} {e : TypeId} {sz sz' : Nat} (ho : σ.heap o = some (.cells [a, b])) (hb : bq_ σ e sz l b old) (hk : σ.tok k = none) :
  WF o σ ((σ.newTok old k p).set o (.cells [c, .own k sz' l'])) := by
 refine ⟨fun i x hi hx => by rw [Store.set_ne _ _ hi]; exact hx, fun t n ht hn => ?_⟩
 have hkt : t ≠ k := fun hh => by rw [hh, hk] at ht; cases ht
 refine ⟨?_, ?_⟩
 ·rw [Store.set_tok]
  simp only [Store.newTok]
  rw [if_neg hkt, if_neg (fun hh => ?_)]
  ·exact ht
  ·rcases hb with ⟨j, rfl, _, hj⟩ | ⟨rfl, _, hj⟩
   ·rw [hj] at hh
    obtain rfl := Option.some.inj hh
    exact hn ⟨_, _, _, ho⟩
   ·rw [hj] at hh; cases hh
 ·rintro ⟨a', sz2, l2, hh⟩
  rw [Store.set_get] at hh
  simp only [Option.some.injEq, AObj.cells.injEq, List.cons.injEq, AVal.own.injEq, and_true] at hh
  exact hkt hh.2.1.symm
theorem jG_ {σ : Store} {c : Bool} {o : Nat} : abin Tryz.prog σ .neq 206 c (.ref o 0) (.ref o 0) = some (.lit (.bool false)) := by
 simp only [abin, aeq, go_sem]
theorem il_ {o : Nat} {b : AVal} {σ : Store} (ho : σ.heap o = some (.cells [.ref o 0, b])) : ao_ Tryz.prog 223 [.ref o 0] σ fun v σ' => v = .tup [] ∧ σ' = σ.set o (.cells [.ref o 0, b]) := by
 refine aj_ Tryz.func223 rfl Tryz.ntmps223 (congrArg Array.toList Tryz.results223) (by simp only [List.length_cons, List.length_nil]; decide) ?_; simp only [af_, ak_, Nat.reduceAdd]
 refine ab_ ?_
 have R := And.intro ho @jG_
 refine aa_ kr_ ?_
 iterate 5 (refine aL_S rfl rfl v_ ?_)
 refine ac_ ?_
 refine ad_ v_ (fun hc0 => ?_) (fun hc0 => ?_)
 ·replace hc0 := nm_ hc0
  cases hc0
 ·replace hc0 := nm_ hc0
  refine ab_ ?_
  have R := And.intro ho @jG_
  refine aa_ kr_ ?_
  iterate 6 (refine aL_S rfl rfl v_ ?_)
  refine ac_ ?_
  refine ad_ v_ (fun hc2 => ?_) (fun hc2 => ?_)
  ·replace hc2 := nm_ hc2
   cases hc2
  ·replace hc2 := nm_ hc2
   refine ah_ ?_
   refine aP_ v_ (Store.Wk.refl _) ?_
   exact ⟨rfl, (Store.set_self ho).symm⟩
theorem oh_ {o k : Nat} {s : ByteArray} {σ : Store} {a : AVal} (ho : σ.heap o = some (.cells [a, .own k 1 (a7_ s)])) (hk : σ.tok k = some (5, 1)) (hs : s.size ≤ 1099511627776) : ao_ Tryz.prog 194 [.ref o 0] σ fun v σ' => v = vStr s ∧ σ' = σ.delTok k := by
 have hsl := a9_ s
 refine aj_ Tryz.func194 rfl Tryz.ntmps194 (congrArg Array.toList Tryz.results194) (by simp only [List.length_cons, List.length_nil]; decide) ?_; simp only [af_, ak_, Nat.reduceAdd]
 refine ab_ ?_
 have R := And.intro ho hsl
 refine aa_ kr_ ?_
 (refine aL_S rfl rfl v_ ?_)
 refine ac_ ?_
 refine ab_ ?_
 have R := And.intro ho hsl
 refine aG_ (.op 0 0 (.op 1 0 (.op 2 0 (.op 3 0 (.op 5 0 (.op 6 0 (.op 7 0 (.op 8 0 (.op 9 0 (.op 4 1 (.op 10 2 (.op 11 0 .nil)))))))))))) Tryz.mixed kr_ ?_
 iterate 9 (refine dR_S o_ (by rfl) (by rfl) v_ ?_)
 refine dR_X o_ (by rfl) (by rfl) (em_ (by rfl) g_ (.inl ⟨va_, hk⟩) ⟨sub_, ?_⟩)
 refine dR_T o_ (by rfl) (by rfl) (fc_ (by rfl) g_ kr_ va_ va_ (.inr hk) (by omega) ?_)
 (refine dR_S o_ (by rfl) (by rfl) v_ ?_)
 refine aL_ ?_
 refine am_ ?_
 refine ai_ v_ (Store.Wk.refl _) ?_
 exact ⟨rfl, rfl⟩
theorem oi_ {o : Nat} {σ : Store} {a : AVal} (ho : σ.heap o = some (.cells [a, .lit (.slice none 0 0)])) : ao_ Tryz.prog 194 [.ref o 0] σ fun v σ' => v = vStr (B []) ∧ σ = σ' := by
 refine aj_ Tryz.func194 rfl Tryz.ntmps194 (congrArg Array.toList Tryz.results194) (by simp only [List.length_cons, List.length_nil]; decide) ?_; simp only [af_, ak_, Nat.reduceAdd]
 refine ab_ ?_
 have R := ho
 refine aa_ kr_ ?_
 (refine aL_S rfl rfl v_ ?_)
 refine ac_ ?_
 refine ab_ ?_
 have R := ho
 refine aG_ (.op 0 0 (.op 1 0 (.op 2 0 (.op 3 0 (.op 5 0 (.op 6 0 (.op 7 0 (.op 8 0 (.op 9 0 (.op 4 1 (.op 10 2 (.op 11 0 .nil)))))))))))) Tryz.mixed kr_ ?_
 iterate 9 (refine dR_S o_ (by rfl) (by rfl) v_ ?_)
 refine dR_X o_ (by rfl) (by rfl) (em_ (k := 0) (l := []) (e0 := 0) (by rfl) g_ (.inr ⟨va_, rfl⟩) ⟨sub_, ?_⟩)
 refine dR_T o_ (by rfl) (by rfl) (eN_ (by rfl) va_ va_ ?_)
 (refine dR_S o_ (by rfl) (by rfl) v_ ?_)
 refine aL_ ?_
 refine am_ ?_
 refine ai_ (σ' := σ) v_ sub_ ?_
 exact ⟨rfl, rfl⟩
theorem WF.del {σ : Store} {o k : Nat} {a : AVal} {l : List AVal} {sz : Nat} (ho : σ.heap o = some (.cells [a, .own k sz l])) : WF o σ (σ.delTok k) := by
 refine ⟨fun i x _ hx => hx, fun t n ht hn => ⟨?_, hn⟩⟩
 have : t ≠ k := fun hh => hn ⟨_, _, _, by rw [hh]; exact ho⟩
 simp [Store.delTok, this, ht]
end Go.Proofs.YtkcmbjodladflaaGreatDoor
end

section
set_option linter.all false
set_option maxRecDepth 100000
namespace Go.Proofs.YtkcmbjodladflaaGreatDoor
open Go.Ab
theorem hH_ {α β : Type} {f : α → List β} {l : List α} {i : Nat} {x : α} (h : l[i]? = some x) : (l.take (i + 1)).flatMap f = (l.take i).flatMap f ++ f x := by
 rw [aX_ h, List.flatMap_append]; simp
theorem dF_ {α β : Type} {f : α → List β} (l : List α) (i : Nat) : ((l.take i).flatMap f).length ≤ (l.flatMap f).length := by
 conv => rhs; rw [← List.take_append_drop i l, List.flatMap_append, List.length_append]
 omega
theorem WF.keep {o i : Nat} {a b : Store} {x : AObj} (h : WF o a b) (hx : a.heap i = some x) (hi : i ≠ o) : b.heap i = some x := h.1 i x hi hx
theorem WF.alloc {o i : Nat} {a b : Store} {x : AObj} (h : WF o a b) (hi : b.heap i = none) (ho : i ≠ o) : WF o a (b.set i x) :=
 ⟨fun j y hj hy => by rw [Store.set_ne _ _ (fun hh => by have := h.1 j y hj hy; rw [hh, hi] at this; cases this)]; exact h.1 j y hj hy, fun t n ht hn => ⟨(h.2 t n ht hn).1, fun ⟨a, sz, l, hh⟩ => (h.2 t n ht hn).2 ⟨a, sz, l, by rw [Store.set_ne _ _ (Ne.symm ho)] at hh; exact hh⟩⟩⟩
theorem WF.alloc2 {o i : Nat} {a b : Store} {x y : AObj} (h : WF o a b) (hi : b.heap i = none) (ho : i ≠ o) : WF o a ((b.set i x).set i y) := by
 rw [Store.set_set]; exact h.alloc hi ho
structure SeenSm (x : Seen) : Prop where
 node : x.node.size ≤ 1000000
 more : x.more.length ≤ 1000000
structure SibSm (x : Sib) : Prop where
 node : x.node.size ≤ 1000000
 value : x.value.size ≤ 1000000
structure ObjSm (x : Obj') : Prop where
 ctx : ∀ y ∈ x.ctx, SeenSm y
 sibs : ∀ y ∈ x.sibs, SibSm y
 nc : x.ctx.length ≤ 1000
 ns : x.sibs.length ≤ 1000
end Go.Proofs.YtkcmbjodladflaaGreatDoor
end

section
set_option linter.all false
set_option maxRecDepth 100000
namespace Go.Proofs.YtkcmbjodladflaaGreatDoor
open Go.Ab
def lett (c : Int) : Bool := decide (97 ≤ c) && decide (c ≤ 122) || (decide (48 ≤ c) && decide (c ≤ 57)) || decide (c = 45)
def letB (b : UInt8) : Bool := lett b.toNat
def aI_ (s : ByteArray) : Bool := decide (1 ≤ s.size) && decide (s.size ≤ 16) && (Lb s).all letB
theorem hi_ {s : ByteArray} {p : Nat} (h : p < s.size) : (Lb s)[p]? = some (s[p]'h) := by
 rw [List.getElem?_eq_getElem (by rw [aB_]; exact h)]
 rfl
theorem qh_ {s : ByteArray} {p : Nat} (h : p < s.size) (ha : (s[p]'h).toNat < 128) : db_ s p = ((s[p]'h).toNat : Int) ∧ kx_ s p = 1 := by
 have := decode_ascii s p h ha
 exact ⟨by rw [db_, this], by rw [kx_, this]⟩
theorem jI_ {s : ByteArray} {p : Nat} (h : p < s.size) : lett (db_ s p) = letB (s[p]'h) ∧ (letB (s[p]'h) = true → kx_ s p = 1) := by
 by_cases ha : (s[p]'h).toNat < 128
 ·obtain ⟨h1, h2⟩ := qh_ h ha
  exact ⟨by rw [h1]; rfl, fun _ => h2⟩
 ·have h1 := (decode_high s p h (by omega)).1
  have e1 : lett (db_ s p) = false := by
   have : (128 : Int) ≤ db_ s p := by unfold db_; omega
   unfold lett
   rw [decide_eq_false (show ¬ db_ s p ≤ 122 by omega), decide_eq_false (show ¬ db_ s p ≤ 57 by omega), decide_eq_false (show ¬ db_ s p = 45 by omega)]
   simp
  have e2 : letB (s[p]'h) = false := by
   unfold letB lett
   rw [decide_eq_false (show ¬ (((s[p]'h).toNat : Nat) : Int) ≤ 122 by omega), decide_eq_false (show ¬ (((s[p]'h).toNat : Nat) : Int) ≤ 57 by omega), decide_eq_false (show ¬ (((s[p]'h).toNat : Nat) : Int) = 45 by omega)]
   simp
  exact ⟨by rw [e1, e2], fun hh => by rw [e2] at hh; cases hh⟩
theorem dg_ {l : List UInt8} {p : Nat} {c : UInt8} (f : UInt8 → Bool) (h : l[p]? = some c) (ha : (l.take p).all f = true) (hc : f c = true) : (l.take (p + 1)).all f = true := by
 rw [aX_ h, List.all_append, ha]; simp [hc]
theorem kS_ {l : List UInt8} {p : Nat} {c : UInt8} (f : UInt8 → Bool) (h : l[p]? = some c) (hc : f c = false) : l.all f = false := by
 rw [List.all_eq_false]
 exact ⟨c, List.mem_of_getElem? h, by simp [hc]⟩
theorem gp_ {c : Int} {σ : Store} : ao_ Tryz.prog 83 [.lit (.int .i32 c)] σ fun v σ' => v = .lit (.bool (lett c)) ∧ σ = σ' := by
 refine aj_ Tryz.func83 rfl Tryz.ntmps83 (congrArg Array.toList Tryz.results83) (by simp only [List.length_cons, List.length_nil]; decide) ?_; simp only [af_, ak_, Nat.reduceAdd]
 refine ab_ ?_
 refine aa_ kr_ ?_
 (refine aL_S rfl rfl v_ ?_)
 refine ac_ ?_
 refine ab_ ?_
 refine aa_ kr_ ?_
 iterate 3 (refine aL_S rfl rfl v_ ?_)
 refine aC_ rfl rfl v_ rfl vg_ ?_
 refine aC_ rfl rfl v_ rfl vg_ ?_
 iterate 2 (refine aL_S rfl rfl v_ ?_)
 refine ay_ rfl rfl v_ rfl vg_ ?_
 refine ay_ rfl rfl v_ rfl vg_ ?_
 refine ay_ rfl rfl v_ rfl vg_ ?_
 refine eo_ rfl rfl v_ rfl vg_ ?_
 refine eo_ rfl rfl v_ rfl vg_ ?_
 refine ay_ rfl rfl v_ rfl vg_ ?_
 iterate 2 (refine aL_S rfl rfl v_ ?_)
 refine ay_ rfl rfl v_ rfl vg_ ?_
 refine ay_ rfl rfl v_ rfl vg_ ?_
 iterate 2 (refine aL_S rfl rfl v_ ?_)
 refine ac_ ?_
 refine am_ ?_
 refine ai_ (σ' := σ) v_ sub_ ?_
 refine ⟨?_, rfl⟩
 try unfold lett
 by_cases h1 : 97 ≤ c <;> by_cases h2 : c ≤ 122 <;> by_cases h3 : 48 ≤ c <;> by_cases h4 : c ≤ 57 <;> by_cases h5 : c = 45 <;> simp [h1, h2, h3, h4, h5]
theorem bf_ {s : ByteArray} {σ : Store} (hs : s.size ≤ 1000000000000) : ao_ Tryz.prog 32 [vStr s] σ fun v σ' => v = .lit (.bool (aI_ s)) ∧ σ = σ' := by
 have h0 : s = ⟨#[]⟩ ↔ s.size = 0 := ⟨fun h => by rw [h]; rfl, fun h => by apply ByteArray.ext; exact Array.eq_empty_of_size_eq_zero h⟩
 refine aj_ Tryz.func32 rfl Tryz.ntmps32 (congrArg Array.toList Tryz.results32) (by simp only [List.length_cons, List.length_nil]; decide) ?_; simp only [af_, ak_, Nat.reduceAdd]
 refine ab_ ?_
 refine aa_ kr_ ?_
 (refine aL_S rfl rfl v_ ?_)
 refine ac_ ?_
 refine ab_ ?_
 refine ab_ ?_
 have R := h0
 refine aa_ kr_ ?_
 iterate 3 (refine aL_S rfl rfl v_ ?_)
 refine ay_ rfl rfl v_ rfl vg_ ?_
 refine ay_ rfl rfl v_ rfl vg_ ?_
 refine ay_ rfl rfl v_ rfl vg_ ?_
 (refine aL_S rfl rfl v_ ?_)
 refine ac_ ?_
 refine ad_ v_ (fun hc1 => ?_) (fun hc1 => ?_)
 ·replace hc1 := nm_ hc1
  refine ab_ ?_
  refine aa_ kr_ ?_
  (refine aL_S rfl rfl v_ ?_)
  refine ac_ ?_
  refine am_ ?_
  refine ai_ (σ' := σ) v_ sub_ ?_
  refine ⟨?_, rfl⟩
  simp only [aI_]
  rcases hc1 with h | h
  ·rw [decide_eq_false (show ¬ 1 ≤ s.size by omega)]; rfl
  ·rw [decide_eq_false (show ¬ s.size ≤ 16 by omega)]; simp
 ·replace hc1 := nm_ hc1
  refine ah_ ?_
  refine ab_ ?_
  refine ab_ ?_
  refine aa_ kr_ ?_
  (refine aL_S rfl rfl v_ ?_)
  refine aL_X rfl rfl (j0_ rfl g_ va_ fun o13 ho13 => ?_)
  refine ac_ ?_
  refine al_ ?_
  refine ap_ (ι := Nat) (fun p => s.size - p) (fun p => p ≤ s.size ∧ ((Lb s).take p).all letB = true) (fun p => [(13, .ref o13 0)]) (fun p => (σ.set o13 (.raw (.stringIter s p)))) 0 ?_ ?_ ?_ ?_
  ·exact ⟨Nat.zero_le _, rfl⟩
  ·exact cv_
  ·exact Store.Wk.refl _
  rintro p ⟨hp, ha⟩
  simp only [ar_, au_]
  refine ab_ ?_
  by_cases hs4 : p < s.size
  ·refine aa_ kr_ ?_
   first | (refine aL_X rfl rfl (el_ rfl va_ (Store.set_get ..) (fun _ => ?_) (fun hp => absurd hs4 hp))) | (refine aL_X rfl rfl (el_ rfl va_ (Store.set_get ..) (fun hp => absurd hp hs4) (fun _ => ?_)))
   (refine aL_S rfl rfl v_ ?_)
   refine ac_ ?_
   refine ab_ ?_
   refine ad_ v_ (fun hc4 => ?_) (fun hc4 => ?_)
   ·replace hc4 := nm_ hc4
    first
     |(exfalso; revert hc4; decide)
     |skip
      refine ah_ ?_
      refine al_ ?_
      refine ab_ ?_
      obtain ⟨hl, hl2⟩ := jI_ hs4
      have hg := hi_ hs4
      refine aa_ kr_ ?_
      iterate 2 (refine aL_S rfl rfl v_ ?_)
      refine ac_ ?_
      refine ab_ ?_
      refine aa_ kr_ ?_
      (refine aL_S rfl rfl v_ ?_)
      refine aL_X rfl rfl (ae_ rfl rfl (.inr ⟨rfl, rfl, rfl⟩) g_ va_ (gp_) ?_); rintro _ _ ⟨rfl, rfl⟩
      (refine aL_S rfl rfl v_ ?_)
      refine ac_ ?_
      refine ad_ v_ (fun hc6 => ?_) (fun hc6 => ?_)
      ·replace hc6 := nm_ hc6
       refine ab_ ?_
       refine aa_ kr_ ?_
       (refine aL_S rfl rfl v_ ?_)
       refine ac_ ?_
       refine am_ ?_
       refine ai_ (σ' := σ) v_ sub_ ?_
       refine ⟨?_, rfl⟩
       have hlf : letB (s[p]'hs4) = false := by rw [← hl]; simpa using hc6
       simp only [aI_]
       rw [kS_ letB hg hlf]; simp
      ·replace hc6 := nm_ hc6
       have hlt : letB (s[p]'hs4) = true := by rw [← hl]; simpa using hc6
       have hw := hl2 hlt
       have hnx := dg_ letB hg ha hlt
       refine ah_ ?_
       refine aJ_ (ι := Nat) (i := p) (p + 1) ?_ ?_ ?_ ?_
       ·omega
       ·exact ⟨by omega, hnx⟩
       ·exact cv_
       ·rw [Store.set_set, hw]; exact Store.Wk.refl _
   ·replace hc4 := nm_ hc4
    first
     |(exfalso; revert hc4; decide)
     |skip
      refine ax_ ?_
      refine ag_ ?_
      refine ag_ ?_
      refine aq_ ?_
      refine ab_ ?_
      refine aa_ kr_ ?_
      (refine aL_S rfl rfl v_ ?_)
      refine ac_ ?_
      refine am_ ?_
      refine ai_ (σ' := σ) v_ sub_ ?_
      exact ⟨rfl, rfl⟩
  ·refine aa_ kr_ ?_
   first | (refine aL_X rfl rfl (el_ rfl va_ (Store.set_get ..) (fun _ => ?_) (fun hp => absurd hs4 hp))) | (refine aL_X rfl rfl (el_ rfl va_ (Store.set_get ..) (fun hp => absurd hp hs4) (fun _ => ?_)))
   (refine aL_S rfl rfl v_ ?_)
   refine ac_ ?_
   refine ab_ ?_
   refine ad_ v_ (fun hc4 => ?_) (fun hc4 => ?_)
   ·replace hc4 := nm_ hc4
    first
     |(exfalso; revert hc4; decide)
     |skip
      refine ah_ ?_
      refine al_ ?_
      refine ab_ ?_
      obtain ⟨hl, hl2⟩ := jI_ hs4
      have hg := hi_ hs4
      refine aa_ kr_ ?_
      iterate 2 (refine aL_S rfl rfl v_ ?_)
      refine ac_ ?_
      refine ab_ ?_
      refine aa_ kr_ ?_
      (refine aL_S rfl rfl v_ ?_)
      refine aL_X rfl rfl (ae_ rfl rfl (.inr ⟨rfl, rfl, rfl⟩) g_ va_ (gp_) ?_); rintro _ _ ⟨rfl, rfl⟩
      (refine aL_S rfl rfl v_ ?_)
      refine ac_ ?_
      refine ad_ v_ (fun hc6 => ?_) (fun hc6 => ?_)
      ·replace hc6 := nm_ hc6
       refine ab_ ?_
       refine aa_ kr_ ?_
       (refine aL_S rfl rfl v_ ?_)
       refine ac_ ?_
       refine am_ ?_
       refine ai_ (σ' := σ) v_ sub_ ?_
       exact ⟨rfl, rfl⟩
      ·replace hc6 := nm_ hc6
       have hlt : letB (s[p]'hs4) = true := by rw [← hl]; simpa using hc6
       have hw := hl2 hlt
       have hnx := dg_ letB hg ha hlt
       refine ah_ ?_
       refine aJ_ (ι := Nat) (i := p) (p + 1) ?_ ?_ ?_ ?_
       ·omega
       ·exact ⟨by omega, hnx⟩
       ·exact cv_
       ·rw [Store.set_set, hw]; exact Store.Wk.refl _
   ·replace hc4 := nm_ hc4
    first
     |(exfalso; revert hc4; decide)
     |skip
      refine ax_ ?_
      refine ag_ ?_
      refine ag_ ?_
      refine aq_ ?_
      refine ab_ ?_
      refine aa_ kr_ ?_
      (refine aL_S rfl rfl v_ ?_)
      refine ac_ ?_
      refine am_ ?_
      refine ai_ (σ' := σ) v_ sub_ ?_
      refine ⟨?_, rfl⟩
      obtain rfl : p = s.size := by omega
      rw [List.take_of_length_le (by rw [aB_]; exact Nat.le_refl _)] at ha
      simp only [aI_]
      rw [ha, decide_eq_true (show 1 ≤ s.size by omega), decide_eq_true (show s.size ≤ 16 by omega)]; rfl
theorem nG_ (c : UInt8) : letB c = true ↔ ((97 ≤ ((c.toNat : Nat) : Int) ∧ ((c.toNat : Nat) : Int) ≤ 122) ∨ (48 ≤ ((c.toNat : Nat) : Int) ∧ ((c.toNat : Nat) : Int) ≤ 57)) ∨ ((c.toNat : Nat) : Int) = 45 := by simp [letB, lett]
theorem l5_ {s : ByteArray} {σ : Store} (hs : s.size ≤ 1000000000000) : ao_ Tryz.prog 18 [vStr s] σ fun v σ' => v = .lit (.bool (aI_ s)) ∧ σ = σ' := by
 refine aj_ Tryz.func18 rfl Tryz.ntmps18 (congrArg Array.toList Tryz.results18) (by simp only [List.length_cons, List.length_nil]; decide) ?_; simp only [af_, ak_, Nat.reduceAdd]
 refine ab_ ?_
 refine aa_ kr_ ?_
 (refine aL_S rfl rfl v_ ?_)
 refine ac_ ?_
 refine ab_ ?_
 refine ab_ ?_
 refine aa_ kr_ ?_
 (refine aL_S rfl rfl v_ ?_)
 refine ac_ ?_
 refine al_ ?_
 refine ap_ (ι := Nat) (fun p => s.size - p) (fun p => p ≤ s.size ∧ ((Lb s).take p).all letB = true) (fun p => [(0, vStr s), (3, vInt p)]) (fun p => σ) 0 ?_ ?_ ?_ ?_
 ·exact ⟨Nat.zero_le _, rfl⟩
 ·exact cv_
 ·exact sub_
 rintro p ⟨hp, ha⟩
 simp only [ar_, au_]
 refine ab_ ?_
 refine ab_ ?_
 refine aa_ kr_ ?_
 iterate 4 (refine aL_S rfl rfl v_ ?_)
 refine ac_ ?_
 refine ad_ v_ (fun hc2 => ?_) (fun hc2 => ?_)
 ·replace hc2 := nm_ hc2
  refine ah_ ?_
  refine ab_ ?_
  refine al_ ?_
  refine ab_ ?_
  have hp' : p < s.size := by omega
  have hg := hi_ hp'
  have hg2 : s[p]? = some (s[p]'hp') := getElem?_pos s p hp'
  obtain ⟨c, hc⟩ : ∃ c, s[p]'hp' = c := ⟨_, rfl⟩
  rw [hc] at hg hg2
  have hcl := nG_ c
  have R := hg2
  refine aa_ kr_ ?_
  iterate 5 (refine aL_S rfl rfl v_ ?_)
  refine ay_ rfl rfl v_ rfl vg_ ?_
  refine ay_ rfl rfl v_ rfl vg_ ?_
  refine ay_ rfl rfl v_ rfl vg_ ?_
  refine ay_ rfl rfl v_ rfl vg_ ?_
  iterate 2 (refine aL_S rfl rfl v_ ?_)
  refine aC_ rfl rfl v_ rfl vg_ ?_
  refine aC_ rfl rfl v_ rfl vg_ ?_
  refine aC_ rfl rfl v_ rfl vg_ ?_
  refine aC_ rfl rfl v_ rfl vg_ ?_
  refine aC_ rfl rfl v_ rfl vg_ ?_
  refine ge_ rfl rfl v_ rfl vg_ ?_
  refine ge_ rfl rfl v_ rfl vg_ ?_
  refine ge_ rfl rfl v_ rfl vg_ ?_
  refine ge_ rfl rfl v_ rfl vg_ ?_
  refine aC_ rfl rfl v_ rfl vg_ ?_
  iterate 2 (refine aL_S rfl rfl v_ ?_)
  refine aC_ rfl rfl v_ rfl vg_ ?_
  refine aC_ rfl rfl v_ rfl vg_ ?_
  refine aC_ rfl rfl v_ rfl vg_ ?_
  refine aC_ rfl rfl v_ rfl vg_ ?_
  (refine aL_S rfl rfl v_ ?_)
  refine ac_ ?_
  refine ad_ v_ (fun hc4 => ?_) (fun hc4 => ?_)
  ·replace hc4 := nm_ hc4
   skip
   have hlf : letB c = false := by
    cases h : letB c with
    |false => rfl
    |true => rw [hcl] at h; omega
   refine ab_ ?_
   refine aa_ kr_ ?_
   (refine aL_S rfl rfl v_ ?_)
   refine ac_ ?_
   refine am_ ?_
   refine ai_ (σ' := σ) v_ sub_ ?_
   refine ⟨?_, rfl⟩
   simp only [aI_]
   rw [kS_ letB hg hlf]; simp
  ·replace hc4 := nm_ hc4
   have hnx := dg_ letB hg ha (hcl.2 (by omega))
   refine ah_ ?_
   refine aa_ kr_ ?_
   iterate 3 (refine aL_S rfl rfl v_ ?_)
   refine ac_ ?_
   refine aJ_ (ι := Nat) (i := p) (p + 1) ?_ ?_ ?_ ?_
   ·omega
   ·exact ⟨by omega, hnx⟩
   ·exact cv_
   ·exact sub_
 ·replace hc2 := nm_ hc2
  refine ax_ ?_
  refine ag_ ?_
  refine ag_ ?_
  refine aq_ ?_
  refine ab_ ?_
  refine aa_ kr_ ?_
  iterate 4 (refine aL_S rfl rfl v_ ?_)
  refine aC_ rfl rfl v_ rfl vg_ ?_
  refine aC_ rfl rfl v_ rfl vg_ ?_
  refine aC_ rfl rfl v_ rfl vg_ ?_
  iterate 2 (refine aL_S rfl rfl v_ ?_)
  refine ac_ ?_
  refine am_ ?_
  refine ai_ (σ' := σ) v_ sub_ ?_
  refine ⟨?_, rfl⟩
  obtain rfl : p = s.size := by omega
  rw [List.take_of_length_le (by rw [aB_]; exact Nat.le_refl _)] at ha
  simp only [aI_]
  rw [ha, Bool.and_true]
  congr 2
  rw [Bool.eq_iff_iff]; simp; omega
end Go.Proofs.YtkcmbjodladflaaGreatDoor
end

section
set_option linter.all false
set_option maxRecDepth 100000
namespace Go.Proofs.YtkcmbjodladflaaGreatDoor
open Go.Ab
def ed_ (pv : Option ByteArray) (s : ByteArray) : Bool := match pv with | none => true | some p => sLt p s
theorem dD_ {α : Type} {l : List α} {k : Nat} {x : α} (h : l[k]? = some x) : l.drop k = x :: l.drop (k + 1) := by
 obtain ⟨hk, rfl⟩ := List.getElem?_eq_some_iff.1 h
 exact List.drop_eq_getElem_cons hk
theorem aA_ {α : Type} {l : List α} {k : Nat} (h : k < l.length) : ∃ x, l[k]? = some x := ⟨l[k], List.getElem?_eq_getElem h⟩
end Go.Proofs.YtkcmbjodladflaaGreatDoor
end

section
set_option linter.all false
set_option maxRecDepth 100000
namespace Go.Ab
structure Ent where
 key : ByteArray
 n : Int
 who : ByteArray
 value : ByteArray
@[reducible] def sEnt (x : Ent) : AVal := .agg [.lit (.string x.key), vInt x.n, .lit (.string x.who), .lit (.string x.value)]
end Go.Ab
namespace Go.Proofs.YtkcmbjodladflaaGreatDoor
open Go.Ab
structure EntSm (x : Ent) : Prop where
 key : x.key.size ≤ 1000000
 who : x.who.size ≤ 1000000
 value : x.value.size ≤ 1000000
def upGo {α : Type} (ok : α → Bool) (key : α → ByteArray) : Option ByteArray → List α → Bool
 |_, [] => true
 |pv, x :: l => ok x && ed_ pv (key x) && upGo ok key (some (key x)) l
def pvK {α : Type} (key : α → ByteArray) (c : List α) (k : Nat) : Option ByteArray := if k = 0 then none else (c[k - 1]?).map key
theorem jA_ {α : Type} {key : α → ByteArray} {c : List α} {k : Nat} {x : α} (h : c[k]? = some x) : pvK key c (k + 1) = some (key x) := by simp [pvK, h]
theorem jB_ {α : Type} (key : α → ByteArray) (c : List α) (k : Nat) (hk : k < c.length) : ∃ y : α, (0 < k → c[((k : Int) - 1).toNat]? = some y) ∧ ∀ s, ed_ (pvK key c k) s = (decide (k = 0) || sLt (key y) s) := by
 by_cases h0 : k = 0
 ·subst h0
  obtain ⟨y, hy⟩ := aA_ hk
  exact ⟨y, fun h => by omega, fun s => rfl⟩
 ·obtain ⟨y, hy⟩ := aA_ (l := c) (k := k - 1) (by omega)
  have e : ((k : Int) - 1).toNat = k - 1 := by omega
  exact ⟨y, fun _ => by rw [e]; exact hy, fun s => by simp [pvK, h0, hy, ed_]⟩
theorem r9_ {a b r s : Bool} {k : Nat} (hb : b = (decide (k = 0) || s)) (h : a = false ∨ 0 < (k : Int) ∧ s = false) : (a && b && r) = false := by
 rcases h with h | ⟨h, h'⟩
 ·rw [h]; rfl
 ·rw [hb, h', decide_eq_false (show ¬ k = 0 by omega)]; simp
theorem oW_ {a b r s : Bool} {k : Nat} (hb : b = (decide (k = 0) || s)) (h : a = true ∧ ((k : Int) ≤ 0 ∨ s = true)) : (a && b && r) = r := by
 obtain ⟨h1, h2⟩ := h
 have : b = true := by
  rw [hb]
  rcases h2 with h | h
  ·rw [decide_eq_true (show k = 0 by omega)]; rfl
  ·rw [h]; simp
 rw [h1, this]; rfl
abbrev vB (b : Bool) : AVal := .lit (.bool b)
abbrev vNil : AVal := .lit (.slice none 0 0)
instance : Inhabited Ent := ⟨⟨ByteArray.empty, 0, ByteArray.empty, ByteArray.empty⟩⟩
theorem ol_ (l : List Ent) : ∀ y ∈ l.map sEnt, y.cells.length = 4 := fun y hy => by
 obtain ⟨x, _, rfl⟩ := List.mem_map.1 hy
 rfl
def cW_ (n : Int) (w v : ByteArray) : Bool := decide (1 ≤ n) && decide (n ≤ 9007199254740992) && (decide (w.size = 0) || aI_ w) && decide (v.size ≤ 256)
def bS_ (x : Ent) : Bool := decide (1 ≤ x.key.size) && decide (x.key.size ≤ 128) && cW_ x.n x.who x.value
def bc_ (l : List Ent) : Bool := decide (l.length ≤ 4096) && upGo bS_ Ent.key none l
theorem ne0 (s : ByteArray) : s = ⟨#[]⟩ ↔ s.size = 0 := ⟨fun h => by rw [h]; rfl, fun h => by apply ByteArray.ext; exact Array.eq_empty_of_size_eq_zero h⟩
theorem oD_ {α : Type} {l : List α} {n k : Nat} {x : α} {p : α → Bool} (h : l[k]? = some x) (hp : p x = false) : (decide (l.length ≤ n) && l.all p) = false := by
 rw [show l.all p = false from List.all_eq_false.2 ⟨x, List.mem_of_getElem? h, by simp [hp]⟩, Bool.and_false]
theorem li_ {α : Type} {l : List α} {n k : Nat} {p : α → Bool} (ha : (l.take k).all p = true) (hk : k ≤ l.length) (he : l.length ≤ k ∨ n ≤ k) : decide ((l.length : Int) ≤ n) = (decide (l.length ≤ n) && l.all p) := by
 by_cases h : l.length ≤ n
 ·rw [decide_eq_true (by omega), decide_eq_true h]
  have : l.take k = l := List.take_of_length_le (by omega)
  rw [this] at ha; rw [ha]; rfl
 ·rw [decide_eq_false (by omega), decide_eq_false h]; rfl
theorem iR_ {α : Type} {l : List α} {k : Nat} {x : α} {p : α → Bool} (h : l[k]? = some x) (hp : p x = true) (ha : (l.take k).all p = true) : (l.take (k + 1)).all p = true := by
 rw [aX_ h, List.all_append, ha]; simp [hp]
theorem gy_ {n : Int} {w v : ByteArray} {σ : Store} (hw : w.size ≤ 1000000) : ao_ Tryz.prog 145 [.agg [vInt n, vStr w, vStr v]] σ fun u σ' => u = vInt (if cW_ n w v then 0 else 1) ∧ σ = σ' := by
 have hw0 := ne0 w
 refine aj_ Tryz.func145 rfl Tryz.ntmps145 (congrArg Array.toList Tryz.results145) (by simp only [List.length_cons, List.length_nil]; decide) ?_; simp only [af_, ak_, Nat.reduceAdd]
 refine ab_ ?_
 refine aa_ kr_ ?_
 refine bb_ rfl rfl rfl v_ rfl g_ fun o1 ho1 => ?_
 repeat (rw [an_] at ho1; obtain ⟨_, ho1⟩ := ho1)
 (refine aL_S rfl rfl v_ ?_)
 refine ac_ ?_
 refine ab_ ?_
 refine ab_ ?_
 have R := hw0
 refine aa_ kr_ ?_
 iterate 4 (refine aL_S rfl rfl v_ ?_)
 refine ay_ rfl rfl v_ rfl vg_ ?_
 refine ay_ rfl rfl v_ rfl vg_ ?_
 refine ay_ rfl rfl v_ rfl vg_ ?_
 iterate 2 (refine aL_S rfl rfl v_ ?_)
 refine ay_ rfl rfl v_ rfl vg_ ?_
 refine ay_ rfl rfl v_ rfl vg_ ?_
 refine ay_ rfl rfl v_ rfl vg_ ?_
 refine ay_ rfl rfl v_ rfl vg_ ?_
 refine eo_ rfl rfl v_ rfl vg_ ?_
 refine eo_ rfl rfl v_ rfl vg_ ?_
 refine o2_ rfl rfl v_ rfl (fun hb => aK_ (by rfl) (by rfl) (.inr ⟨by rfl, by rfl, by rfl⟩) g_ cg_ (bf_ (by omega))) ?_
 refine eo_ rfl rfl v_ rfl vg_ ?_
 refine ay_ rfl rfl v_ rfl vg_ ?_
 iterate 2 (refine aL_S rfl rfl v_ ?_)
 refine ay_ rfl rfl v_ rfl vg_ ?_
 refine ay_ rfl rfl v_ rfl vg_ ?_
 refine ay_ rfl rfl v_ rfl vg_ ?_
 refine ay_ rfl rfl v_ rfl vg_ ?_
 (refine aL_S rfl rfl v_ ?_)
 refine ac_ ?_
 refine ad_ v_ (fun hc1 => ?_) (fun hc1 => ?_)
 ·replace hc1 := nm_ hc1
  refine ab_ ?_
  refine aa_ kr_ ?_
  (refine aL_S rfl rfl v_ ?_)
  refine ac_ ?_
  refine am_ ?_
  refine ai_ (σ' := σ) v_ sub_ ?_
  refine ⟨?_, rfl⟩
  have : cW_ n w v = false := by
   unfold cW_
   rcases hc1 with ((h | h) | h) | h
   ·rw [decide_eq_false (show ¬ 1 ≤ n by omega)]; rfl
   ·rw [decide_eq_false (show ¬ n ≤ 9007199254740992 by omega)]; simp
   ·rw [decide_eq_false (show ¬ w.size = 0 by omega), h.2]; simp
   ·rw [decide_eq_false (show ¬ v.size ≤ 256 by omega)]; simp
  rw [this]; rfl
 ·replace hc1 := nm_ hc1
  refine ah_ ?_
  refine ab_ ?_
  refine aa_ kr_ ?_
  (refine aL_S rfl rfl v_ ?_)
  refine ac_ ?_
  refine am_ ?_
  refine ai_ (σ' := σ) v_ sub_ ?_
  refine ⟨?_, rfl⟩
  have : cW_ n w v = true := by
   unfold cW_
   obtain ⟨⟨⟨h1, h2⟩, h3⟩, h4⟩ := hc1
   rw [decide_eq_true (show 1 ≤ n by omega), decide_eq_true (show n ≤ 9007199254740992 by omega), decide_eq_true (show v.size ≤ 256 by omega)]
   rcases h3 with h | h
   ·rw [decide_eq_true (show w.size = 0 by omega)]; rfl
   ·rw [h]; simp
  rw [this]; rfl
theorem lv_ {x : Ent} {σ : Store} (hx : EntSm x) : ao_ Tryz.prog 82 [sEnt x] σ fun u σ' => u = vB (bS_ x) ∧ σ = σ' := by
 have h1 := hx.key; have h2 := hx.who
 have hk0 := ne0 x.key
 refine aj_ Tryz.func82 rfl Tryz.ntmps82 (congrArg Array.toList Tryz.results82) (by simp only [List.length_cons, List.length_nil]; decide) ?_; simp only [af_, ak_, Nat.reduceAdd]
 refine ab_ ?_
 refine aa_ kr_ ?_
 refine bb_ rfl rfl rfl v_ rfl g_ fun o1 ho1 => ?_
 repeat (rw [an_] at ho1; obtain ⟨_, ho1⟩ := ho1)
 (refine aL_S rfl rfl v_ ?_)
 refine ac_ ?_
 refine ab_ ?_
 have R := hk0
 refine aa_ kr_ ?_
 iterate 4 (refine aL_S rfl rfl v_ ?_)
 refine aC_ rfl rfl v_ rfl vg_ ?_
 refine aC_ rfl rfl v_ rfl vg_ ?_
 refine aC_ rfl rfl v_ rfl vg_ ?_
 refine aC_ rfl rfl v_ rfl vg_ ?_
 iterate 2 (refine aL_S rfl rfl v_ ?_)
 refine aC_ rfl rfl v_ rfl vg_ ?_
 refine aC_ rfl rfl v_ rfl vg_ ?_
 refine b8_ rfl rfl v_ rfl (fun hb => aK_ (by rfl) (by rfl) (.inr ⟨by rfl, by rfl, by rfl⟩) g_ cg_ (gy_ (by omega))) ?_
 refine aC_ rfl rfl v_ rfl vg_ ?_
 iterate 2 (refine aL_S rfl rfl v_ ?_)
 refine ac_ ?_
 refine am_ ?_
 refine ai_ (σ' := σ) v_ sub_ ?_
 refine ⟨?_, rfl⟩
 unfold bS_
 by_cases q1 : x.key.size = 0 <;> by_cases q2 : x.key.size ≤ 128 <;> cases cW_ x.n x.who x.value <;> simp [q1, q2, hk0] <;> omega
theorem l8_ {n : Int} {w v : ByteArray} {σ : Store} (hw : w.size ≤ 1000000) : ao_ Tryz.prog 122 [.agg [vInt n, vStr w, vStr v]] σ fun u σ' => u = vB (cW_ n w v) ∧ σ = σ' := by
 have hw0 := ne0 w
 refine aj_ Tryz.func122 rfl Tryz.ntmps122 (congrArg Array.toList Tryz.results122) (by simp only [List.length_cons, List.length_nil]; decide) ?_; simp only [af_, ak_, Nat.reduceAdd]
 refine ab_ ?_
 refine aa_ kr_ ?_
 refine bb_ rfl rfl rfl v_ rfl g_ fun o1 ho1 => ?_
 repeat (rw [an_] at ho1; obtain ⟨_, ho1⟩ := ho1)
 (refine aL_S rfl rfl v_ ?_)
 refine ac_ ?_
 refine ab_ ?_
 have R := hw0
 refine aa_ kr_ ?_
 iterate 4 (refine aL_S rfl rfl v_ ?_)
 refine aC_ rfl rfl v_ rfl vg_ ?_
 refine aC_ rfl rfl v_ rfl vg_ ?_
 refine aC_ rfl rfl v_ rfl vg_ ?_
 iterate 2 (refine aL_S rfl rfl v_ ?_)
 refine aC_ rfl rfl v_ rfl vg_ ?_
 refine aC_ rfl rfl v_ rfl vg_ ?_
 refine aC_ rfl rfl v_ rfl vg_ ?_
 refine aC_ rfl rfl v_ rfl vg_ ?_
 refine ge_ rfl rfl v_ rfl vg_ ?_
 refine ge_ rfl rfl v_ rfl vg_ ?_
 refine o1_ rfl rfl v_ rfl (fun hb => aK_ (by rfl) (by rfl) (.inr ⟨by rfl, by rfl, by rfl⟩) g_ cg_ (l5_ (by omega))) ?_
 refine aC_ rfl rfl v_ rfl vg_ ?_
 iterate 2 (refine aL_S rfl rfl v_ ?_)
 refine aC_ rfl rfl v_ rfl vg_ ?_
 refine aC_ rfl rfl v_ rfl vg_ ?_
 refine aC_ rfl rfl v_ rfl vg_ ?_
 refine aC_ rfl rfl v_ rfl vg_ ?_
 iterate 2 (refine aL_S rfl rfl v_ ?_)
 refine ac_ ?_
 refine am_ ?_
 refine ai_ (σ' := σ) v_ sub_ ?_
 refine ⟨?_, rfl⟩
 unfold cW_
 by_cases q1 : 1 ≤ n <;> by_cases q2 : n ≤ 9007199254740992 <;> by_cases q3 : w.size = 0 <;> by_cases q4 : v.size ≤ 256 <;> cases aI_ w <;> simp [q1, q2, q3, q4, hw0] <;> omega
theorem gx_ {x : Ent} {σ : Store} (hx : EntSm x) : ao_ Tryz.prog 64 [sEnt x] σ fun u σ' => u = vB (bS_ x) ∧ σ = σ' := by
 have h1 := hx.key; have h2 := hx.who
 refine aj_ Tryz.func64 rfl Tryz.ntmps64 (congrArg Array.toList Tryz.results64) (by simp only [List.length_cons, List.length_nil]; decide) ?_; simp only [af_, ak_, Nat.reduceAdd]
 refine ab_ ?_
 refine aa_ kr_ ?_
 refine bb_ rfl rfl rfl v_ rfl g_ fun o1 ho1 => ?_
 repeat (rw [an_] at ho1; obtain ⟨_, ho1⟩ := ho1)
 (refine aL_S rfl rfl v_ ?_)
 refine ac_ ?_
 refine ab_ ?_
 refine aa_ kr_ ?_
 iterate 5 (refine aL_S rfl rfl v_ ?_)
 refine aC_ rfl rfl v_ rfl vg_ ?_
 refine aC_ rfl rfl v_ rfl vg_ ?_
 refine aC_ rfl rfl v_ rfl vg_ ?_
 refine aC_ rfl rfl v_ rfl vg_ ?_
 iterate 2 (refine aL_S rfl rfl v_ ?_)
 refine aC_ rfl rfl v_ rfl vg_ ?_
 refine aC_ rfl rfl v_ rfl vg_ ?_
 refine b8_ rfl rfl v_ rfl (fun hb => aK_ (by rfl) (by rfl) (.inr ⟨by rfl, by rfl, by rfl⟩) g_ cg_ (l8_ (by omega))) ?_
 iterate 2 (refine aL_S rfl rfl v_ ?_)
 refine ac_ ?_
 refine am_ ?_
 refine ai_ (σ' := σ) v_ sub_ ?_
 refine ⟨?_, rfl⟩
 unfold bS_
 by_cases q1 : 1 ≤ x.key.size <;> by_cases q2 : x.key.size ≤ 128 <;> cases cW_ x.n x.who x.value <;> simp [q1, q2] <;> omega
theorem fy_ {l : List Ent} {t : Bool} {σ : Store} (hx : ∀ x ∈ l, EntSm x) (hn : l.length ≤ 1000000) : ao_ Tryz.prog 31 [.sl 4 (l.map sEnt) t] σ fun v σ' => v = vInt (if bc_ l then 0 else 1) ∧ σ = σ' := by
 refine aj_ Tryz.func31 rfl Tryz.ntmps31 (congrArg Array.toList Tryz.results31) (by simp only [List.length_cons, List.length_nil]; decide) ?_; simp only [af_, ak_, Nat.reduceAdd]
 refine ab_ ?_
 refine aa_ kr_ ?_
 (refine aL_S rfl rfl v_ ?_)
 refine ac_ ?_
 refine ab_ ?_
 refine ab_ ?_
 refine aa_ kr_ ?_
 iterate 3 (refine aL_S rfl rfl v_ ?_)
 refine ac_ ?_
 refine ad_ v_ (fun hc1 => ?_) (fun hc1 => ?_)
 ·replace hc1 := nm_ hc1
  refine ab_ ?_
  refine aa_ kr_ ?_
  (refine aL_S rfl rfl v_ ?_)
  refine ac_ ?_
  refine am_ ?_
  refine ai_ (σ' := σ) v_ sub_ ?_
  refine ⟨?_, rfl⟩
  rw [bc_, decide_eq_false (by omega)]; rfl
 ·replace hc1 := nm_ hc1
  have hln : decide (l.length ≤ 4096) = true := decide_eq_true (by omega)
  refine ah_ ?_
  refine ab_ ?_
  refine ab_ ?_
  refine aa_ kr_ ?_
  iterate 3 (refine aL_S rfl rfl v_ ?_)
  refine ac_ ?_
  refine al_ ?_
  refine ap_ (ι := Nat) (fun k => l.length - k) (fun k => k ≤ l.length ∧ upGo bS_ Ent.key (pvK Ent.key l k) (l.drop k) = upGo bS_ Ent.key none l) (fun k => [(0, .sl 4 (l.map sEnt) t), (8, .sl 4 (l.map sEnt) t), (9, vInt l.length), (10, vInt k)]) (fun k => σ) 0 ?_ ?_ ?_ ?_
  ·exact ⟨Nat.zero_le _, rfl⟩
  ·exact cv_
  ·exact sub_
  rintro k ⟨hk, hr⟩
  simp only [ar_, au_]
  refine ab_ ?_
  refine aa_ kr_ ?_
  (refine aL_S rfl rfl v_ ?_)
  refine ac_ ?_
  refine ab_ ?_
  refine ad_ v_ (fun hc4 => ?_) (fun hc4 => ?_)
  ·replace hc4 := nm_ hc4
   refine ah_ ?_
   refine ab_ ?_
   refine al_ ?_
   refine ab_ ?_
   obtain ⟨x, hxk⟩ := aA_ (l := l) (k := k) (by omega)
   have hsx := hx x (List.mem_of_getElem? hxk)
   obtain ⟨y, hy, hah⟩ := jB_ Ent.key l k (by omega)
   have hst : upGo bS_ Ent.key (pvK Ent.key l k) (l.drop k) = (bS_ x && ed_ (pvK Ent.key l k) x.key && upGo bS_ Ent.key (some x.key) (l.drop (k + 1))) := by rw [dD_ hxk]; rfl
   have R := hxk
   refine aa_ kr_ ?_
   iterate 3 (refine aL_S rfl rfl v_ ?_)
   refine aQ_ rfl rfl rfl g_ gl_ fun o4 ho4 => ?_
   repeat (rw [an_] at ho4; obtain ⟨_, ho4⟩ := ho4)
   (refine aL_S rfl rfl v_ ?_)
   refine av_ rfl rfl rfl v_ v_ h_ g_ rfl g_ c_ (by rfl) le_ v_ ?_
   refine ac_ ?_
   refine ab_ ?_
   have R := hy
   refine aG_ (.op 0 0 (.op 1 1 (.op 2 0 (.op 3 0 (.op 4 0 (.op 5 0 (.op 6 0 (.op 7 0 (.op 8 0 (.op 9 0 (.op 10 0 (.op 11 0 (.op 12 0 (.op 13 0 (.op 14 0 (.op 15 0 (.op 16 0 (.op 17 0 .nil)))))))))))))))))) Tryz.mixed kr_ ?_
   (refine dR_S o_ (by rfl) (by rfl) v_ ?_)
   refine dR_X o_ (by rfl) (by rfl) (ae_ (by rfl) (by rfl) (.inr ⟨by rfl, by rfl, by rfl⟩) g_ va_ (lv_ hsx) ?_); rintro _ _ ⟨rfl, rfl⟩; refine ⟨sub_, ?_⟩
   iterate 2 (refine dR_S o_ (by rfl) (by rfl) v_ ?_)
   refine dY_ o_ (by rfl) (by rfl) v_ (by rfl) vg_ ?_
   refine dY_ o_ (by rfl) (by rfl) v_ (by rfl) vg_ ?_
   refine dY_ o_ (by rfl) (by rfl) v_ (by rfl) vg_ ?_
   refine bI_ o_ (by rfl) (by rfl) v_ (by rfl) vg_ ?_
   refine bI_ o_ (by rfl) (by rfl) v_ (by rfl) vg_ ?_
   refine bI_ o_ (by rfl) (by rfl) v_ (by rfl) vg_ ?_
   refine bI_ o_ (by rfl) (by rfl) v_ (by rfl) vg_ ?_
   refine bI_ o_ (by rfl) (by rfl) v_ (by rfl) vg_ ?_
   refine bI_ o_ (by rfl) (by rfl) v_ (by rfl) vg_ ?_
   refine bI_ o_ (by rfl) (by rfl) v_ (by rfl) vg_ ?_
   refine bI_ o_ (by rfl) (by rfl) v_ (by rfl) vg_ ?_
   refine bI_ o_ (by rfl) (by rfl) v_ (by rfl) vg_ ?_
   refine dY_ o_ (by rfl) (by rfl) v_ (by rfl) vg_ ?_
   (refine dR_S o_ (by rfl) (by rfl) v_ ?_)
   refine aL_ ?_
   refine ad_ v_ (fun hc6 => ?_) (fun hc6 => ?_)
   ·replace hc6 := nm_ hc6
    refine ab_ ?_
    refine aa_ kr_ ?_
    (refine aL_S rfl rfl v_ ?_)
    refine ac_ ?_
    refine am_ ?_
    refine ai_ (σ' := σ) v_ sub_ ?_
    refine ⟨?_, rfl⟩
    rw [bc_, ← hr, hst, r9_ (hah _) hc6, Bool.and_false]; rfl
   ·replace hc6 := nm_ hc6
    have hnx : upGo bS_ Ent.key (pvK Ent.key l (k + 1)) (l.drop (k + 1)) = upGo bS_ Ent.key none l := by rw [jA_ hxk, ← hr, hst, oW_ (hah _) hc6]
    refine ah_ ?_
    refine aa_ kr_ ?_
    iterate 2 (refine aL_S rfl rfl v_ ?_)
    refine ac_ ?_
    refine aJ_ (ι := Nat) (i := k) (k + 1) ?_ ?_ ?_ ?_
    ·omega
    ·exact ⟨by omega, hnx⟩
    ·exact cv_
    ·exact sub_
  ·replace hc4 := nm_ hc4
   refine ax_ ?_
   refine ag_ ?_
   refine ag_ ?_
   refine aq_ ?_
   refine ab_ ?_
   refine aa_ kr_ ?_
   (refine aL_S rfl rfl v_ ?_)
   refine ac_ ?_
   refine am_ ?_
   refine ai_ (σ' := σ) v_ sub_ ?_
   refine ⟨?_, rfl⟩
   rw [bc_, hln, ← hr, List.drop_eq_nil_of_le (by omega)]; rfl
theorem jC_ {l : List Ent} {t : Bool} {σ : Store} (hx : ∀ x ∈ l, EntSm x) (hn : l.length ≤ 1000000) : ao_ Tryz.prog 17 [.sl 4 (l.map sEnt) t] σ fun v σ' => v = vB (bc_ l) ∧ σ = σ' := by
 refine aj_ Tryz.func17 rfl Tryz.ntmps17 (congrArg Array.toList Tryz.results17) (by simp only [List.length_cons, List.length_nil]; decide) ?_; simp only [af_, ak_, Nat.reduceAdd]
 refine ab_ ?_
 refine aa_ kr_ ?_
 (refine aL_S rfl rfl v_ ?_)
 refine ac_ ?_
 refine ab_ ?_
 refine ab_ ?_
 refine aa_ kr_ ?_
 iterate 3 (refine aL_S rfl rfl v_ ?_)
 refine ac_ ?_
 refine ad_ v_ (fun hc1 => ?_) (fun hc1 => ?_)
 ·replace hc1 := nm_ hc1
  refine ab_ ?_
  refine aa_ kr_ ?_
  (refine aL_S rfl rfl v_ ?_)
  refine ac_ ?_
  refine am_ ?_
  refine ai_ (σ' := σ) v_ sub_ ?_
  refine ⟨?_, rfl⟩
  rw [bc_, decide_eq_false (by omega)]; rfl
 ·replace hc1 := nm_ hc1
  have hln : decide (l.length ≤ 4096) = true := decide_eq_true (by omega)
  refine ah_ ?_
  refine ab_ ?_
  refine ab_ ?_
  refine aa_ kr_ ?_
  (refine aL_S rfl rfl v_ ?_)
  refine ac_ ?_
  refine al_ ?_
  refine ap_ (ι := Nat) (fun k => l.length - k) (fun k => k ≤ l.length ∧ upGo bS_ Ent.key (pvK Ent.key l k) (l.drop k) = upGo bS_ Ent.key none l) (fun k => [(0, .sl 4 (l.map sEnt) t), (3, vInt k)]) (fun k => σ) 0 ?_ ?_ ?_ ?_
  ·exact ⟨Nat.zero_le _, rfl⟩
  ·exact cv_
  ·exact sub_
  rintro k ⟨hk, hr⟩
  simp only [ar_, au_]
  refine ab_ ?_
  refine ab_ ?_
  refine aa_ kr_ ?_
  iterate 4 (refine aL_S rfl rfl v_ ?_)
  refine ac_ ?_
  refine ad_ v_ (fun hc4 => ?_) (fun hc4 => ?_)
  ·replace hc4 := nm_ hc4
   refine ah_ ?_
   refine ab_ ?_
   refine al_ ?_
   refine ab_ ?_
   obtain ⟨x, hxk⟩ := aA_ (l := l) (k := k) (by omega)
   have hsx := hx x (List.mem_of_getElem? hxk)
   obtain ⟨y, hy, hah⟩ := jB_ Ent.key l k (by omega)
   have hst : upGo bS_ Ent.key (pvK Ent.key l k) (l.drop k) = (bS_ x && ed_ (pvK Ent.key l k) x.key && upGo bS_ Ent.key (some x.key) (l.drop (k + 1))) := by rw [dD_ hxk]; rfl
   have R := And.intro hxk hy
   refine aG_ (.op 0 0 (.op 1 0 (.op 2 0 (.op 3 0 (.op 4 1 (.op 5 0 (.op 6 0 (.op 7 0 (.op 8 0 (.op 9 0 (.op 10 0 (.op 11 0 (.op 12 0 (.op 13 0 (.op 14 0 (.op 15 0 (.op 16 0 (.op 17 0 (.op 18 0 (.op 19 0 (.op 20 0 (.op 21 0 (.op 22 0 (.op 23 0 .nil)))))))))))))))))))))))) Tryz.mixed kr_ ?_
   iterate 4 (refine dR_S o_ (by rfl) (by rfl) v_ ?_)
   refine dR_X o_ (by rfl) (by rfl) (ae_ (by rfl) (by rfl) (.inr ⟨by rfl, by rfl, by rfl⟩) g_ va_ (gx_ hsx) ?_); rintro _ _ ⟨rfl, rfl⟩; refine ⟨sub_, ?_⟩
   iterate 2 (refine dR_S o_ (by rfl) (by rfl) v_ ?_)
   refine dY_ o_ (by rfl) (by rfl) v_ (by rfl) vg_ ?_
   refine dY_ o_ (by rfl) (by rfl) v_ (by rfl) vg_ ?_
   refine dY_ o_ (by rfl) (by rfl) v_ (by rfl) vg_ ?_
   refine bI_ o_ (by rfl) (by rfl) v_ (by rfl) vg_ ?_
   refine bI_ o_ (by rfl) (by rfl) v_ (by rfl) vg_ ?_
   refine bI_ o_ (by rfl) (by rfl) v_ (by rfl) vg_ ?_
   refine bI_ o_ (by rfl) (by rfl) v_ (by rfl) vg_ ?_
   refine bI_ o_ (by rfl) (by rfl) v_ (by rfl) vg_ ?_
   refine bI_ o_ (by rfl) (by rfl) v_ (by rfl) vg_ ?_
   refine bI_ o_ (by rfl) (by rfl) v_ (by rfl) vg_ ?_
   refine bI_ o_ (by rfl) (by rfl) v_ (by rfl) vg_ ?_
   refine bI_ o_ (by rfl) (by rfl) v_ (by rfl) vg_ ?_
   refine bI_ o_ (by rfl) (by rfl) v_ (by rfl) vg_ ?_
   refine bI_ o_ (by rfl) (by rfl) v_ (by rfl) vg_ ?_
   refine bI_ o_ (by rfl) (by rfl) v_ (by rfl) vg_ ?_
   refine dY_ o_ (by rfl) (by rfl) v_ (by rfl) vg_ ?_
   (refine dR_S o_ (by rfl) (by rfl) v_ ?_)
   refine aL_ ?_
   refine ad_ v_ (fun hc6 => ?_) (fun hc6 => ?_)
   ·replace hc6 := nm_ hc6
    refine ab_ ?_
    refine aa_ kr_ ?_
    (refine aL_S rfl rfl v_ ?_)
    refine ac_ ?_
    refine am_ ?_
    refine ai_ (σ' := σ) v_ sub_ ?_
    refine ⟨?_, rfl⟩
    rw [bc_, ← hr, hst, r9_ (hah _) hc6, Bool.and_false]
   ·replace hc6 := nm_ hc6
    have hnx : upGo bS_ Ent.key (pvK Ent.key l (k + 1)) (l.drop (k + 1)) = upGo bS_ Ent.key none l := by rw [jA_ hxk, ← hr, hst, oW_ (hah _) hc6]
    refine ah_ ?_
    refine aa_ kr_ ?_
    iterate 3 (refine aL_S rfl rfl v_ ?_)
    refine ac_ ?_
    refine aJ_ (ι := Nat) (i := k) (k + 1) ?_ ?_ ?_ ?_
    ·omega
    ·exact ⟨by omega, hnx⟩
    ·exact cv_
    ·exact sub_
  ·replace hc4 := nm_ hc4
   refine ax_ ?_
   refine ag_ ?_
   refine ag_ ?_
   refine aq_ ?_
   refine ab_ ?_
   refine aa_ kr_ ?_
   (refine aL_S rfl rfl v_ ?_)
   refine ac_ ?_
   refine am_ ?_
   refine ai_ (σ' := σ) v_ sub_ ?_
   refine ⟨?_, rfl⟩
   rw [bc_, hln, ← hr, List.drop_eq_nil_of_le (by omega)]; rfl
def hF_ (l : List Ent) (n : Nat) : Bool := decide (l.length ≤ n) && l.all fun x => decide (x.key.size ≤ 200) && (decide (x.who.size ≤ 100) && decide (x.value.size ≤ 300))
theorem nu_ {n : Int} {w v : ByteArray} {σ : Store} : ao_ Tryz.prog 29 [.agg [vInt n, vStr w, vStr v]] σ fun u σ' => u = vB (decide (w.size ≤ 100) && decide (v.size ≤ 300)) ∧ σ = σ' := by
 refine aj_ Tryz.func29 rfl Tryz.ntmps29 (congrArg Array.toList Tryz.results29) (by simp only [List.length_cons, List.length_nil]; decide) ?_; simp only [af_, ak_, Nat.reduceAdd]
 refine ab_ ?_
 refine aa_ kr_ ?_
 refine bb_ rfl rfl rfl v_ rfl g_ fun o1 ho1 => ?_
 repeat (rw [an_] at ho1; obtain ⟨_, ho1⟩ := ho1)
 (refine aL_S rfl rfl v_ ?_)
 refine ac_ ?_
 refine ab_ ?_
 refine aa_ kr_ ?_
 iterate 5 (refine aL_S rfl rfl v_ ?_)
 refine aC_ rfl rfl v_ rfl vg_ ?_
 refine aC_ rfl rfl v_ rfl vg_ ?_
 refine aC_ rfl rfl v_ rfl vg_ ?_
 refine aC_ rfl rfl v_ rfl vg_ ?_
 iterate 2 (refine aL_S rfl rfl v_ ?_)
 refine ac_ ?_
 refine am_ ?_
 refine ai_ (σ' := σ) v_ sub_ ?_
 refine ⟨?_, rfl⟩
 by_cases h1 : w.size ≤ 100 <;> by_cases h2 : v.size ≤ 300 <;> simp [h1, h2] <;> omega
theorem pt_ {l : List Ent} {n : Nat} {t : Bool} {σ : Store} (hn : n ≤ 1000000) : ao_ Tryz.prog 8 [.sl 4 (l.map sEnt) t, vInt n] σ fun v σ' => v = vB (hF_ l n) ∧ σ = σ' := by
 refine aj_ Tryz.func8 rfl Tryz.ntmps8 (congrArg Array.toList Tryz.results8) (by simp only [List.length_cons, List.length_nil]; decide) ?_; simp only [af_, ak_, Nat.reduceAdd]
 refine ab_ ?_
 refine aa_ kr_ ?_
 (refine aL_S rfl rfl v_ ?_)
 refine ac_ ?_
 refine ab_ ?_
 refine ab_ ?_
 refine aa_ kr_ ?_
 (refine aL_S rfl rfl v_ ?_)
 refine ac_ ?_
 refine al_ ?_
 refine ap_ (ι := Nat) (fun k => l.length - k) (fun k => k ≤ l.length ∧ k ≤ n ∧ (l.take k).all (fun x => decide (x.key.size ≤ 200) && (decide (x.who.size ≤ 100) && decide (x.value.size ≤ 300))) = true) (fun k => [(0, .sl 4 (l.map sEnt) t), (1, vInt n), (5, vInt k)]) (fun k => σ) 0 ?_ ?_ ?_ ?_
 ·exact ⟨Nat.zero_le _, Nat.zero_le _, rfl⟩
 ·exact cv_
 ·exact sub_
 rintro k ⟨hk, hk2, ha⟩
 simp only [ar_, au_]
 refine ab_ ?_
 refine ab_ ?_
 refine aa_ kr_ ?_
 iterate 5 (refine aL_S rfl rfl v_ ?_)
 refine aC_ rfl rfl v_ rfl vg_ ?_
 refine aC_ rfl rfl v_ rfl vg_ ?_
 refine aC_ rfl rfl v_ rfl vg_ ?_
 (refine aL_S rfl rfl v_ ?_)
 refine ac_ ?_
 refine ad_ v_ (fun hc2 => ?_) (fun hc2 => ?_)
 ·replace hc2 := nm_ hc2
  refine ah_ ?_
  refine ab_ ?_
  refine al_ ?_
  refine ab_ ?_
  obtain ⟨x, hx⟩ := aA_ (l := l) (k := k) (by omega)
  have R := hx
  refine aa_ kr_ ?_
  iterate 8 (refine aL_S rfl rfl v_ ?_)
  refine ay_ rfl rfl v_ rfl vg_ ?_
  refine ay_ rfl rfl v_ rfl vg_ ?_
  refine ay_ rfl rfl v_ rfl vg_ ?_
  refine ay_ rfl rfl v_ rfl vg_ ?_
  refine ay_ rfl rfl v_ rfl vg_ ?_
  refine bQ_ rfl rfl v_ rfl (fun hb => aK_ (by rfl) (by rfl) (.inr ⟨by rfl, by rfl, by rfl⟩) g_ cg_ (nu_)) ?_
  refine ay_ rfl rfl v_ rfl vg_ ?_
  (refine aL_S rfl rfl v_ ?_)
  refine ac_ ?_
  refine ad_ v_ (fun hc4 => ?_) (fun hc4 => ?_)
  ·replace hc4 := nm_ hc4
   refine ab_ ?_
   refine aa_ kr_ ?_
   (refine aL_S rfl rfl v_ ?_)
   refine ac_ ?_
   refine am_ ?_
   refine ai_ (σ' := σ) v_ sub_ ?_
   exact ⟨by rw [hF_, oD_ hx (by rcases hc4 with h | h | h; rw [decide_eq_false (by omega)]; rfl; simp [h]; simp [h])], rfl⟩
  ·replace hc4 := nm_ hc4
   refine ah_ ?_
   refine aa_ kr_ ?_
   iterate 3 (refine aL_S rfl rfl v_ ?_)
   refine ac_ ?_
   refine aJ_ (ι := Nat) (i := k) (k + 1) ?_ ?_ ?_ ?_
   ·omega
   ·exact ⟨by omega, by omega, iR_ hx (by obtain ⟨q1, q2⟩ := hc4; simp only [Bool.and_eq_true, decide_eq_true_eq] at q2 ⊢; omega) ha⟩
   ·exact cv_
   ·exact sub_
 ·replace hc2 := nm_ hc2
  refine ax_ ?_
  refine ag_ ?_
  refine ag_ ?_
  refine aq_ ?_
  refine ab_ ?_
  refine aa_ kr_ ?_
  iterate 5 (refine aL_S rfl rfl v_ ?_)
  refine ac_ ?_
  refine am_ ?_
  refine ai_ (σ' := σ) v_ sub_ ?_
  exact ⟨by rw [hF_, ← li_ ha hk (by omega)], rfl⟩
theorem gO_ {l : List Ent} {n : Nat} (h : hF_ l n = true) : l.length ≤ n ∧ (∀ x ∈ l, EntSm x) ∧ ∀ x ∈ l, x.key.size ≤ 200 ∧ x.who.size ≤ 100 ∧ x.value.size ≤ 300 := by
 simp only [hF_, Bool.and_eq_true, decide_eq_true_eq, List.all_eq_true] at h
 exact ⟨h.1, fun x hx => by obtain ⟨h1, h2, h3⟩ := h.2 x hx; exact ⟨by omega, by omega, by omega⟩, fun x hx => by obtain ⟨h1, h2, h3⟩ := h.2 x hx; exact ⟨h1, h2, h3⟩⟩
end Go.Proofs.YtkcmbjodladflaaGreatDoor
end
