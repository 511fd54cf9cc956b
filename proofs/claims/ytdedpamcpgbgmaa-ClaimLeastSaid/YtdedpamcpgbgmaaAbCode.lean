/-
  CODE over abstract states: what must be shown of a region, a branch, a loop, a function's body. Own work (an AI agent).
-/
import Derived.Test.YtdedpamcpgbgmaaAbSound4
set_option linter.all false
namespace Go.Ab

abbrev Env := Nat → AVal

def upd (e : Env) (d : Nat) (a : AVal) : Env := fun k => if k = d then a else e k
def updo (e : Env) : Option Tmp → AVal → Env
  | some d, a => upd e d a
  | none, _ => e
def emp : Env := fun _ => .any

/-- what a store and the temporaries' values say of a state -/
structure ASat (κ : K) (n : Nat) (e : Env) (σ : Store) (a : Act) : Prop where
  defers : a.defers = []
  size : a.tmps.size = n
  env : ∀ k, Rv κ (e k) (a.tmps.getD k undef)
  inv : Inv κ σ

def Out (κ : K) (n : Nat) (Q : Exit → Env → Store → Prop) (ex : Exit) (a : Act) (w : World) : Prop := ∃ κ' e σ, κ'.w = w ∧ κ.Le κ' ∧ ASat κ' n e σ a ∧ Q ex e σ

def awp (P : Program) (n : Nat) (c : Code) (Q : Exit → Env → Store → Prop) (e : Env) (σ : Store) : Prop :=
  ∀ κ a, ASat κ n e σ a → c.wp P (Out κ n Q) a κ.w

theorem Out.mono {κ : K} {n : Nat} {Q Q' : Exit → Env → Store → Prop} (h : ∀ ex e σ, Q ex e σ → Q' ex e σ) {ex : Exit} {a : Act} {w : World} (ho : Out κ n Q ex a w) : Out κ n Q' ex a w :=
  let ⟨κ', e, σ, h1, h2, h3, h4⟩ := ho
  ⟨κ', e, σ, h1, h2, h3, h _ _ _ h4⟩

theorem Out.up {κ κ' : K} {n : Nat} {Q : Exit → Env → Store → Prop} (hle : κ.Le κ') {ex : Exit} {a : Act} {w : World} (ho : Out κ' n Q ex a w) : Out κ n Q ex a w :=
  let ⟨κ'', e, σ, h1, h2, h3, h4⟩ := ho
  ⟨κ'', e, σ, h1, hle.trans h2, h3, h4⟩

theorem awp.mono {P : Program} {n : Nat} {c : Code} {Q Q' : Exit → Env → Store → Prop} {e : Env} {σ : Store} (h : awp P n c Q e σ) (hq : ∀ ex e σ, Q ex e σ → Q' ex e σ) : awp P n c Q' e σ :=
  fun κ a hs => wp_mono (h κ a hs) fun _ _ _ => Out.mono hq

/-- A store that says less: in each world of the one the other one is true, too. -/
def Store.Wk (σ' σ : Store) : Prop := ∀ κ, Inv κ σ → Inv κ σ'
theorem Store.Sub.wk {σ σ' : Store} (h : σ'.Sub σ) : σ'.Wk σ := fun _ hI => hI.sub h
theorem Store.Wk.refl (σ : Store) : σ.Wk σ := fun _ h => h
theorem Store.Wk.trans {a b c : Store} (h : a.Wk b) (k : b.Wk c) : a.Wk c := fun κ hI => h κ (k κ hI)

/-- Less may be known. -/
theorem awp.wk {P : Program} {n : Nat} {c : Code} {Q : Exit → Env → Store → Prop} {e e' : Env} {σ σ' : Store} (h : awp P n c Q e' σ') (he : ∀ k, Wk (e k) (e' k)) (hs : σ'.Wk σ) : awp P n c Q e σ :=
  fun κ a hx => h κ a ⟨hx.defers, hx.size, fun k => (hx.env k).wk (he k), hs κ hx.inv⟩

theorem ASat.ev {κ : K} {n : Nat} {e : Env} {σ : Store} {a : Act} (h : ASat κ n e σ a) (x : Operand) : Rv κ (aev e x) (a.eval x) := by
  cases x with
  | tmp t => exact h.env t
  | const v => exact .ofConst v
  | global g => exact .lit _
  | func f => exact .lit _

theorem ASat.put {κ κ' : K} {n : Nat} {e : Env} {σ σ' : Store} {a : Act} (h : ASat κ n e σ a) (hle : κ.Le κ') (hI : Inv κ' σ') {dst : Option Tmp} (hd : ∀ d, dst = some d → d < n) {x : AVal} {v : Value} (hv : Rv κ' x v) :
    ASat κ' n (updo e dst x) σ' (a.put dst v) := by
  cases dst with
  | none => exact ⟨h.defers, h.size, fun k => (h.env k).mono hle, hI⟩
  | some d =>
    refine ⟨h.defers, by simpa [Act.put] using h.size, fun k => ?_, hI⟩
    simp only [updo, upd, Act.put]
    by_cases hk : k = d
    · subst hk
      rw [if_pos rfl]
      have hlt : k < a.tmps.size := by rw [h.size]; exact hd k rfl
      simp [hlt]; exact hv
    · rw [if_neg hk]
      have : (a.tmps.setIfInBounds d v).getD k undef = a.tmps.getD k undef := by simp [Array.getElem?_setIfInBounds_ne (Ne.symm hk)]
      rw [this]
      exact (h.env k).mono hle

/-- does an operation run? (its guard) -/
def wantedA (ops : Array Oper) (o : Oper) (e : Env) : Option Bool :=
  match o.guard with
  | none => some true
  | some (j, want) => match (ops[j]?).bind (·.dst) with
    | some d => match e d with
      | .lit (.bool b) => some (b == want)
      | .lit _ => some false
      | _ => none
    | none => none

theorem wantedA_spec {κ : K} {n : Nat} {e : Env} {σ : Store} {a : Act} (h : ASat κ n e σ a) {ops : Array Oper} {o : Oper} {b : Bool} (hw : wantedA ops o e = some b) (hn : ∀ j w d, o.guard = some (j, w) → (ops[j]?).bind (·.dst) = some d → d < n) :
    Region.wanted o (yielded ops a.tmps) = b := by
  unfold wantedA at hw
  unfold Region.wanted
  split at hw
  · rename_i hg; rw [hg]; exact Option.some.inj hw
  · rename_i j want hg
    rw [hg]
    split at hw
    · rename_i d hd
      split at hw
      · rename_i c hc
        have := h.env d
        rw [hc] at this
        have hv := this.litInv
        obtain rfl := Option.some.inj hw
        have hlt : d < a.tmps.size := by rw [h.size]; exact hn j want d hg hd
        unfold yielded
        simp only [hd, Option.bind_some]
        have : a.tmps[d]? = some (.bool c) := by rw [← hv]; simp [hlt]
        rw [this]
        cases c <;> cases want <;> rfl
      · rename_i v hnb hc
        have := h.env d
        rw [hc] at this
        have hv := this.litInv
        obtain rfl := Option.some.inj hw
        have hlt : d < a.tmps.size := by rw [h.size]; exact hn j want d hg hd
        unfold yielded
        simp only [hd, Option.bind_some]
        have : a.tmps[d]? = some v := by rw [← hv]; simp [hlt]
        rw [this]
        cases v with
        | bool b => exact absurd rfl (hnb b)
        | _ => rfl
      · cases hw
    · cases hw

/-- the temporaries that an operation writes, or whose guard it asks, are there -/
def dstOk (n : Nat) (ops : Array Oper) (o : Oper) : Bool :=
  (match o.dst with
   | some d => decide (d < n)
   | none => true) &&
  (match o.guard with
   | some (j, _) => match (ops[j]?).bind (·.dst) with
     | some d => decide (d < n)
     | none => true
   | none => true)

theorem dstOk_dst {n : Nat} {ops : Array Oper} {o : Oper} (h : dstOk n ops o = true) : ∀ d, o.dst = some d → d < n := by
  intro d hd
  simp only [dstOk, hd, Bool.and_eq_true, decide_eq_true_eq] at h
  exact h.1
theorem dstOk_guard {n : Nat} {ops : Array Oper} {o : Oper} (h : dstOk n ops o = true) : ∀ j w d, o.guard = some (j, w) → (ops[j]?).bind (·.dst) = some d → d < n := by
  intro j w d hg hd
  simp only [dstOk, hg, hd, Bool.and_eq_true, decide_eq_true_eq] at h
  exact h.2

/-- one operation in a state -/
def aStep (P : Program) (ops : Array Oper) (o : Oper) (Kk : Env → Store → Prop) (e : Env) (σ : Store) : Prop :=
  match wantedA ops o e with
  | some true => AOp P o (aev e) σ fun v σ' => Kk (updo e o.dst v) σ'
  | some false => Kk (updo e o.dst (.lit undef)) σ
  | none => False

def aList (P : Program) (ops : Array Oper) (Kk : Env → Store → Prop) : List Oper → Env → Store → Prop
  | [], e, σ => Kk e σ
  | o :: rest, e, σ => aStep P ops o (aList P ops Kk rest) e σ

theorem Oper.wp_of_aop {P : Program} {o : Oper} {κ : K} {n : Nat} {e : Env} {σ : Store} {a : Act} (hs : ASat κ n e σ a) {Kk : AVal → Store → Prop} (h : AOp P o (aev e) σ Kk) {next : Act → World → Prop} {Q : Exit → Act → World → Prop}
    (hn : ∀ cv w', Post κ Kk cv w' → next (a.put o.dst cv) w') : o.wp P a κ.w next Q := by
  have h1 := h κ a.eval hs.inv (fun x _ => hs.ev x)
  unfold Oper.wp
  generalize (execOp a.eval o).run P κ.w = r at *
  unfold Upon at h1
  split at h1
  · exact hn _ _ h1
  · exact hn _ _ h1
  · exact h1.mono fun ee w'' ⟨v, he, hr⟩ => by subst he; exact hn _ _ hr
  · exact h1.elim

theorem wpList_of_aList {P : Program} {n : Nat} {ops : Array Oper} {Kk : Env → Store → Prop} {κ0 : K} {Q : Exit → Act → World → Prop} (hQ : ∀ κ e σ a, κ0.Le κ → ASat κ n e σ a → Kk e σ → Q .normal a κ.w) :
    ∀ (l : List Oper), (∀ o ∈ l, dstOk n ops o = true) → ∀ κ e σ a, κ0.Le κ → ASat κ n e σ a → aList P ops Kk l e σ → wpList P ops Q l a κ.w
  | [], _, κ, e, σ, a, hle, hs, h => hQ κ e σ a hle hs h
  | o :: rest, hd, κ, e, σ, a, hle, hs, h => by
    have hdo := hd o (List.mem_cons_self ..)
    unfold aList aStep at h
    unfold wpList
    split at h
    · rename_i hw
      rw [if_pos (wantedA_spec hs hw (dstOk_guard hdo))]
      left
      refine Oper.wp_of_aop hs h fun cv w' ⟨κ', x, σ', h1, h2, h3, h4, h5⟩ => ?_
      subst h1
      exact wpList_of_aList hQ rest (fun o ho => hd o (List.mem_cons_of_mem _ ho)) κ' _ σ' _ (hle.trans h2) (hs.put h2 h3 (dstOk_dst hdo) h4) h5
    · rename_i hw
      rw [if_neg (by rw [wantedA_spec hs hw (dstOk_guard hdo)]; simp)]
      exact wpList_of_aList hQ rest (fun o ho => hd o (List.mem_cons_of_mem _ ho)) κ _ σ _ hle (hs.put (.refl κ) hs.inv (dstOk_dst hdo) (.lit _)) h
    · exact h.elim

/-- A region whose order is the text's. -/
theorem awp_region {P : Program} {n id : Nat} {l : List Oper} {Q : Exit → Env → Store → Prop} {e : Env} {σ : Store} (hd : l.all (dstOk n l.toArray) = true) (h : aList P l.toArray (Q .normal) l e σ) :
    awp P n (.region id l.toArray false) Q e σ := by
  intro κ a hs
  refine wp_region_lit ?_
  exact wpList_of_aList (κ0 := κ) (fun κ' e' σ' a' hle hs' hk => ⟨κ', e', σ', rfl, hle, hs', hk⟩) l (fun o ho => List.all_eq_true.1 hd o ho) κ e σ a (.refl κ) hs h

/-! ### Control -/

theorem awp_skip {P : Program} {n : Nat} {Q : Exit → Env → Store → Prop} {e : Env} {σ : Store} (h : Q .normal e σ) : awp P n .skip Q e σ :=
  fun κ a hs => wp_skip ⟨κ, e, σ, rfl, .refl κ, hs, h⟩

theorem awp_ret {P : Program} {n : Nat} {Q : Exit → Env → Store → Prop} {e : Env} {σ : Store} (h : Q .ret e σ) : awp P n .ret Q e σ :=
  fun κ a hs => wp_ret ⟨κ, e, σ, rfl, .refl κ, hs, h⟩

theorem awp_exit {P : Program} {n id : Nat} {Q : Exit → Env → Store → Prop} {e : Env} {σ : Store} (h : Q (.exit id) e σ) : awp P n (.exit id) Q e σ :=
  fun κ a hs => wp_exit ⟨κ, e, σ, rfl, .refl κ, hs, h⟩

def aThen (K : Env → Store → Prop) (Q : Exit → Env → Store → Prop) : Exit → Env → Store → Prop
  | .normal, e, σ => K e σ
  | ex, e, σ => Q ex e σ

theorem awp_seq {P : Program} {n : Nat} {x y : Code} {Q : Exit → Env → Store → Prop} {e : Env} {σ : Store} (h : awp P n x (aThen (awp P n y Q) Q) e σ) : awp P n (.seq x y) Q e σ := by
  intro κ a hs
  refine wp_seq (wp_mono (h κ a hs) fun ex a' w' ⟨κ', e', σ', h1, h2, h3, h4⟩ => ?_)
  subst h1
  cases ex with
  | normal => exact wp_mono (h4 κ' a' h3) fun _ _ _ ho => ho.up h2
  | exit id => exact ⟨κ', e', σ', rfl, h2, h3, h4⟩
  | goto l => exact ⟨κ', e', σ', rfl, h2, h3, h4⟩
  | ret => exact ⟨κ', e', σ', rfl, h2, h3, h4⟩
  | panic c => exact ⟨κ', e', σ', rfl, h2, h3, h4⟩
  | outgrown => exact ⟨κ', e', σ', rfl, h2, h3, h4⟩

theorem awp_cond {P : Program} {n : Nat} {c : Operand} {x y : Code} {Q : Exit → Env → Store → Prop} {e : Env} {σ : Store} {t : Bool} (hc : aev e c = .lit (.bool t))
    (h1 : t = true → awp P n x Q e σ) (h2 : t = false → awp P n y Q e σ) : awp P n (.cond c x y) Q e σ := by
  intro κ a hs
  have hv := hs.ev c
  rw [hc] at hv
  exact wp_cond_split hv.litInv (fun ht => h1 ht κ a hs) (fun ht => h2 ht κ a hs)

def aBlock (id : Nat) (Q : Exit → Env → Store → Prop) : Exit → Env → Store → Prop
  | .exit id', e, σ => if id' = id then Q .normal e σ else Q (.exit id') e σ
  | ex, e, σ => Q ex e σ

theorem awp_block {P : Program} {n id : Nat} {c : Code} {Q : Exit → Env → Store → Prop} {e : Env} {σ : Store} (h : awp P n c (aBlock id Q) e σ) : awp P n (.block id c) Q e σ := by
  intro κ a hs
  refine wp_block (wp_mono (h κ a hs) fun ex a' w' ⟨κ', e', σ', h1, h2, h3, h4⟩ => ?_)
  cases ex with
  | exit id' =>
    unfold Exit.inBlock
    simp only [aBlock] at h4
    split at h4
    · rename_i hid; subst hid; simp only [if_true]; exact ⟨κ', e', σ', h1, h2, h3, h4⟩
    · rename_i hid; simp only [hid, if_false]; exact ⟨κ', e', σ', h1, h2, h3, h4⟩
  | normal => exact ⟨κ', e', σ', h1, h2, h3, h4⟩
  | goto l => exact ⟨κ', e', σ', h1, h2, h3, h4⟩
  | ret => exact ⟨κ', e', σ', h1, h2, h3, h4⟩
  | panic c => exact ⟨κ', e', σ', h1, h2, h3, h4⟩
  | outgrown => exact ⟨κ', e', σ', h1, h2, h3, h4⟩

/-- A loop, by an invariant over what the rounds leave and a number that goes down. -/
theorem awp_loop {P : Program} {n : Nat} {c : Code} {Q : Exit → Env → Store → Prop} (J : Nat → Env → Store → Prop) {m : Nat} {e : Env} {σ : Store} (h0 : J m e σ)
    (round : ∀ m e σ, J m e σ → awp P n c (aThen (fun e' σ' => ∃ m', m' < m ∧ J m' e' σ') Q) e σ) : awp P n (.loop c) Q e σ := by
  have key : ∀ (m : Nat) (e : Env) (σ : Store) κ a, ASat κ n e σ a → J m e σ → ∀ b k cs, ∃ ex a' w', Out κ n Q ex a' w' ∧ Arrives P (lone (b.at a (.code c :: .inLoop c :: k)) cs κ.w) b k cs ex a' w' := by
    intro m
    induction m using Nat.strongRecOn with
    | _ m ih =>
      intro e σ κ a hs hJ b k cs
      obtain ⟨ex, a1, w1, ⟨κ', e', σ', h1, h2, h3, h4⟩, harr⟩ := round m e σ hJ κ a hs b (.inLoop c :: k) cs
      subst h1
      cases ex with
      | normal =>
        obtain ⟨m', hm, hJ'⟩ := h4
        obtain ⟨ex2, a2, w2, q2, arr2⟩ := ih m' hm e' σ' κ' a1 h3 hJ' b k cs
        exact ⟨ex2, a2, w2, q2.up h2, .of_steps (Steps.trans harr (.one step_inLoop)) arr2⟩
      | exit id => exact ⟨.exit id, a1, κ'.w, ⟨κ', e', σ', rfl, h2, h3, h4⟩, fun k' hk => harr k' (by simpa [exitTo] using hk)⟩
      | goto l => exact ⟨.goto l, a1, κ'.w, ⟨κ', e', σ', rfl, h2, h3, h4⟩, fun k' hk => harr k' (by simpa [gotoIn] using hk)⟩
      | ret => exact ⟨.ret, a1, κ'.w, ⟨κ', e', σ', rfl, h2, h3, h4⟩, harr⟩
      | panic ch => exact ⟨.panic ch, a1, κ'.w, ⟨κ', e', σ', rfl, h2, h3, h4⟩, harr⟩
      | outgrown => exact ⟨.outgrown, a1, κ'.w, ⟨κ', e', σ', rfl, h2, h3, h4⟩, harr⟩
  intro κ a hs b k cs
  obtain ⟨ex, a', w', ho, harr⟩ := key m e σ κ a hs h0 b k cs
  exact ⟨ex, a', w', ho, .of_steps (.one step_loop) harr⟩

/-! ### A function -/

/-- what a function hands back -/
def aresults (P : Program) (rs : List ResultVar) (e : Env) (σ : Store) : Option (List AVal) :=
  rs.mapM fun
    | .tmp t => some (e t)
    | .cell a t => aload P σ t (e a)

def aret (P : Program) (rs : List ResultVar) (e : Env) (σ : Store) : Option AVal :=
  (aresults P rs e σ).map fun vs => match vs with
    | [v] => v
    | vs => .tup vs

def resOf (tmps : Array Value) : ResultVar → Sem Value
  | .tmp t => pure (tmps.getD t undef)
  | .cell a t => do loadVar t (← asAddr (tmps.getD a undef))

theorem results_resOf (fn : Func) (tmps : Array Value) : results fn tmps = (do
    let vs ← fn.results.mapM (resOf tmps)
    pure (if h : vs.size = 1 then vs[0] else .tuple vs)) := by
  unfold results
  congr 2

theorem run_aresults {P : Program} {κ : K} {e : Env} {σ : Store} {tmps : Array Value} (hI : Inv κ σ) (hv : ∀ k, Rv κ (e k) (tmps.getD k undef)) : ∀ (rs : List ResultVar) (vs : List AVal), aresults P rs e σ = some vs →
    ∃ cvs : List Value, (rs.mapM (m := Sem) (resOf tmps)).run P κ.w = .ok cvs κ.w ∧ cvs.length = vs.length ∧ ∀ i (hi : i < vs.length) (hj : i < cvs.length), Rv κ vs[i] cvs[i]
  | [], vs, h => by
    obtain rfl := Option.some.inj (h : some [] = some vs)
    exact ⟨[], by simp, rfl, fun i hi => by simp at hi⟩
  | r :: rs, vs, h => by
    unfold aresults at h
    rw [List.mapM_cons] at h
    obtain ⟨v, h1, h2⟩ := Option.bind_eq_some_iff.1 h
    obtain ⟨vs', h3, h4⟩ := Option.bind_eq_some_iff.1 h2
    obtain rfl := Option.some.inj h4
    obtain ⟨cvs, hr, hn, hc⟩ := run_aresults hI hv rs vs' h3
    have hone : ∃ cv, (resOf tmps r).run P κ.w = .ok cv κ.w ∧ Rv κ v cv := by
      cases r with
      | tmp t => obtain rfl := Option.some.inj h1; exact ⟨_, rfl, hv t⟩
      | cell a t =>
        obtain ⟨cv, q1, q2⟩ := snd_load hI (Store.Sub.refl σ) h1 (hv a)
        refine ⟨cv, ?_, q2⟩
        have : ∀ u, Rv κ (e a) u → ∀ t x, aload P σ t (e a) = some x → ∃ ad, u = .pointer (some ad) := by
          intro u hu t x hx
          unfold aload at hx
          split at hx
          · split at hx
            · rename_i heq; rw [heq] at hu; obtain ⟨b, off, vals, rfl, _⟩ := hu.roInv; exact ⟨_, rfl⟩
            · rename_i heq; rw [heq] at hu; obtain ⟨b, hb, rfl⟩ := hu.refInv; exact ⟨_, rfl⟩
            · cases hx
          · cases hx
        obtain ⟨ad, had⟩ := this _ (hv a) _ _ h1
        rw [had] at q1
        show (do loadVar t (← asAddr (tmps.getD a undef)) : Sem Value).run P κ.w = _
        rw [had]
        simpa [Instr.loadAt, Instr.sureAddr, asAddr] using q1
    obtain ⟨cv, q1, q2⟩ := hone
    refine ⟨cv :: cvs, ?_, by simp [hn], fun i hi hj => ?_⟩
    · rw [List.mapM_cons]
      simp only [Sem.run_bind]
      rw [q1]
      simp only [Result.andThen_ok]
      rw [hr]
      rfl
    · cases i with
      | zero => exact q2
      | succ i => exact hc i (by simpa using hi) (by simpa using hj)

theorem run_aret {P : Program} {κ : K} {e : Env} {σ : Store} {fn : Func} {tmps : Array Value} (hI : Inv κ σ) (hv : ∀ k, Rv κ (e k) (tmps.getD k undef)) {x : AVal} (h : aret P fn.results.toList e σ = some x) :
    ∃ cv, (results fn tmps).run P κ.w = .ok cv κ.w ∧ Rv κ x cv := by
  obtain ⟨vs, h1, rfl⟩ := Option.map_eq_some_iff.1 h
  obtain ⟨cvs, hr, hn, hc⟩ := run_aresults hI hv _ _ h1
  have hres : (results fn tmps).run P κ.w = .ok (if h : cvs.toArray.size = 1 then cvs.toArray[0] else .tuple cvs.toArray) κ.w := by
    rw [results_resOf, Array.mapM_eq_mapM_toList]
    simp only [Sem.run_bind, Sem.run_map]
    rw [hr]
    rfl
  refine ⟨_, hres, ?_⟩
  split
  · rename_i v
    match cvs, hn, hc with
    | [c], _, hc => exact hc 0 (by simp) (by simp)
  · rename_i hne
    have hl : cvs.length ≠ 1 := by
      intro h1
      match vs, hn, hne with
      | [v], _, hne => exact hne v rfl
      | [], hn, _ => simp [h1] at hn
      | _ :: _ :: _, hn, _ => simp [h1] at hn
    rw [dif_neg (by simpa using hl)]
    refine .tup _ _ (by simpa using hn) fun i hi => ?_
    have := hc i hi (by omega)
    simpa [show i < cvs.length by omega] using this

/-- what is known of the temporaries at a function's beginning -/
def envOf : Nat → List AVal → Env
  | _, [] => emp
  | k, a :: as => upd (envOf (k + 1) as) k a

theorem envOf_get : ∀ (as : List AVal) (k j : Nat), envOf k as j = if k ≤ j then (as[j - k]?).getD .any else .any
  | [], k, j => by simp [envOf, emp]
  | a :: as, k, j => by
    unfold envOf upd
    rw [envOf_get as (k + 1) j]
    by_cases h : j = k
    · subst h; simp
    · rw [if_neg h]
      by_cases h2 : k ≤ j
      · rw [if_pos (by omega), if_pos h2, show j - k = (j - (k + 1)) + 1 by omega, List.getElem?_cons_succ]
      · rw [if_neg (by omega), if_neg h2]

/-- at a function's end -/
def aEnd (P : Program) (rs : List ResultVar) (Q : AVal → Store → Prop) : Exit → Env → Store → Prop
  | .normal, e, σ => ∃ v v' σ', aret P rs e σ = some v' ∧ Wk v' v ∧ σ'.Wk σ ∧ Q v σ'
  | .ret, e, σ => ∃ v v' σ', aret P rs e σ = some v' ∧ Wk v' v ∧ σ'.Wk σ ∧ Q v σ'
  | _, _, _ => False

/-- A function's contract, from its body. -/
theorem ACalls_of {P : Program} {f : FuncId} {fn : Func} {c : Code} {args : List AVal} {σ : Store} {Q : AVal → Store → Prop} {n : Nat} {rs : List ResultVar} (hf : P.funcs[f]? = some fn) (hb : fn.body = some c) (hnt : fn.ntmps = n)
    (hrs : fn.results.toList = rs) (hn : args.length ≤ n) (h : awp P n c (aEnd P rs Q) (envOf 0 args) σ) : ACalls P f args σ Q := by
  subst hnt
  subst hrs
  intro κ vs hI hsz hv
  refine calls_of_wp hf hb (wp_mono (h κ _ ⟨rfl, ?_, fun k => ?_, hI⟩) ?_)
  · simp; omega
  · rw [envOf_get]
    simp only [Nat.zero_le, if_true, Nat.sub_zero]
    by_cases hk : k < args.length
    · have e1 : args[k]?.getD .any = args[k] := by simp [hk]
      rw [e1]
      have e2 : (vs ++ Array.replicate (fn.ntmps - vs.size) undef).getD k undef = vs.getD k undef := by
        simp [Array.getElem?_append_left (show k < vs.size by omega)]
      rw [e2]
      exact hv k hk
    · have e1 : args[k]?.getD .any = .any := by simp [List.getElem?_eq_none (show args.length ≤ k by omega)]
      rw [e1]
      exact .any _
  · rintro ex a w ⟨κ', e, σ', h1, h2, h3, h4⟩
    subst h1
    have fin : (∃ v v' σ'', aret P fn.results.toList e σ' = some v' ∧ Wk v' v ∧ σ''.Wk σ' ∧ Q v σ'') → a.defers = [] ∧ ∃ v, (results fn a.tmps).run P κ'.w = .ok v κ'.w ∧ ∃ cv, Ending.returned v = .returned cv ∧ Post κ Q cv κ'.w := by
      rintro ⟨v, v', σ'', q1, q0, q2, q3⟩
      obtain ⟨cv, r1, r2⟩ := run_aret h3.inv h3.env q1
      exact ⟨h3.defers, cv, r1, cv, rfl, κ', v, σ'', rfl, h2, q2 _ h3.inv, r2.wk q0, q3⟩
    cases ex with
    | normal => exact fin h4
    | ret => exact fin h4
    | exit id => exact h4.elim
    | goto l => exact h4.elim
    | panic c => exact h4.elim
    | outgrown => exact h4.elim

end Go.Ab
