/-
  A REGION THAT DRAWS ITS ORDER, over abstract states: one walk in an order of one's choice serves every order, if (checked by the kernel) each operation that only looks is taken as soon as it may be, every other one alone when nothing else is ready,
  and the last ones wait for all others. Own work (an AI agent), after the kit's Derived/Orders.lean.
-/
import Derived.Test.YtdedpamcpgbgmaaAbOps5
set_option linter.all false
namespace Go.Ab

section
variable {P : Program} {ops : Array Oper}

theorem unlisted {listed : Array Bool} {i : Nat} (h : listed.getD i true = false) : listed.getD i false = false := by
  simp only [Array.getD_eq_getD_getElem?] at *
  cases hl : listed[i]? with
  | none => simp
  | some b => rw [hl] at h; simpa using h

theorem none_listed (m j : Nat) : (Array.replicate m false).getD j false = false := by
  simp only [Array.getD_eq_getD_getElem?, Array.getElem?_replicate]
  split <;> rfl

theorem AOp_congr {o : Oper} {α α' : Operand → AVal} {σ : Store} {Kk : AVal → Store → Prop} (h : ∀ x ∈ o.op.operands, α x = α' x) (ha : AOp P o α σ Kk) : AOp P o α' σ Kk :=
  fun κ ev hI hx => ha κ ev hI fun x hx' => by rw [h x hx']; exact hx x hx'

theorem aval_congr {op : Op} {α α' : Operand → AVal} {σ : Store} (h : ∀ x ∈ op.operands, α x = α' x) : aval P op α σ = aval P op α' σ := by
  cases op <;> simp only [Op.operands] at h <;> simp only [aval]
  case build t ps =>
    congr 1
    apply List.map_congr_left
    intro p hp
    rw [h p.2 (by simp; exact ⟨p.1, by simpa using hp⟩)]
  case makeFunc fn first captured =>
    rw [List.map_congr_left (fun x hx => h x (by simp; exact .inl (by simpa using hx))), List.map_congr_left (fun x hx => h x (by simp; exact .inr (by simpa using hx)))]
  case call c =>
    have hargs : c.args.toList.map α = c.args.toList.map α' := List.map_congr_left fun x hx => h x (by simp [Call.operands]; exact .inr (by simpa using hx))
    unfold acall
    split
    · split
      · rename_i x t hx ht
        rw [h x (by simp only [Call.operands, Array.mem_append]; right; rw [← Array.mem_toList_iff, hx]; simp)]
      · rfl
    · rw [hargs]
    · rw [hargs]
    · rfl
  case slice t x lo hi mx => cases lo <;> cases hi <;> cases mx <;> simp_all
  all_goals (first | rfl | (simp_all; done))

theorem aev_updo {e : Env} {d : Option Tmp} {a : AVal} {x : Operand} (h : ∀ t, d = some t → x ≠ .tmp t) : aev (updo e d a) x = aev e x := by
  cases d with
  | none => rfl
  | some t =>
    cases x with
    | tmp u =>
      have : u ≠ t := fun hh => h t rfl (by rw [hh])
      simp [aev, updo, upd, this]
    | _ => rfl

theorem updo_comm (e : Env) {x y : Option Tmp} (a b : AVal) (h : ∀ d, x = some d → y ≠ some d) : updo (updo e x a) y b = updo (updo e y b) x a := by
  cases x with
  | none => rfl
  | some d =>
    cases y with
    | none => rfl
    | some d' =>
      have hne : d ≠ d' := fun hh => h d rfl (by rw [hh])
      funext k
      simp only [updo, upd]
      by_cases h1 : k = d
      · subst h1; simp [hne]
      · simp [h1]

theorem aev_operands {e : Env} {d : Option Tmp} {a : AVal} {o : Oper} (h : ∀ t, d = some t → t ∉ o.looksAt ops) : ∀ x ∈ o.op.operands, aev (updo e d a) x = aev e x :=
  fun x hx => aev_updo fun t ht hxt => h t ht (by
    subst hxt
    exact List.mem_append_left _ (List.mem_filterMap.2 ⟨.tmp t, by simpa using hx, rfl⟩))

theorem wantedA_updo {e : Env} {d : Option Tmp} {a : AVal} {o : Oper} (h : ∀ t, d = some t → t ∉ o.looksAt ops) : wantedA ops o (updo e d a) = wantedA ops o e := by
  cases d with
  | none => rfl
  | some t =>
    unfold wantedA
    cases hg : o.guard with
    | none => rfl
    | some gw =>
      obtain ⟨g, want⟩ := gw
      dsimp only
      cases ht : (ops[g]?).bind (·.dst) with
      | none => rfl
      | some u =>
        have hne : u ≠ t := fun hh => h t rfl (by subst hh; simp [Oper.looksAt, hg, ht])
        simp [updo, upd, hne]

/-- operation number i in a state -/
def aOpAt (P : Program) (ops : Array Oper) (i : Nat) (Kk : Env → Store → Prop) (e : Env) (σ : Store) : Prop :=
  match ops[i]? with
  | none => Kk e σ
  | some o => aStep P ops o Kk e σ

theorem aStep_mono {o : Oper} {Kk Kk' : Env → Store → Prop} {e : Env} {σ : Store} (h : ∀ e σ, Kk e σ → Kk' e σ) (ha : aStep P ops o Kk e σ) : aStep P ops o Kk' e σ := by
  unfold aStep at *
  split at ha
  · exact ha.mono fun v σ' => h _ _
  · exact h _ _ ha
  · exact ha.elim

theorem aOpAt_mono {i : Nat} {Kk Kk' : Env → Store → Prop} {e : Env} {σ : Store} (h : ∀ e σ, Kk e σ → Kk' e σ) (ha : aOpAt P ops i Kk e σ) : aOpAt P ops i Kk' e σ := by
  unfold aOpAt at *
  split
  · exact h _ _ (by simpa [*] using ha)
  · rename_i o ho
    simp only [ho] at ha
    exact aStep_mono h ha

/-- whatever is picked from here on; what belongs to the head keeps what is known of the store 's0' -/
def aAny (P : Program) (ops : Array Oper) (hd : Nat → Bool) (s0 : Store) (Kk : Env → Store → Prop) : Nat → Array Bool → Env → Store → Prop
  | 0, listed, e, σ => Region.ready .any ops listed = [] ∧ Kk e σ
  | fuel + 1, listed, e, σ => (Region.ready .any ops listed = [] → Kk e σ) ∧
    ∀ i ∈ Region.ready .any ops listed, aOpAt P ops i (fun e' σ' => (hd i = true → s0.Sub σ → s0.Sub σ') ∧ aAny P ops hd s0 Kk fuel (listed.setIfInBounds i true) e' σ') e σ

theorem wpAny_of_aAny {hd : Nat → Bool} {s0 : Store} {Kk : Env → Store → Prop} {n : Nat} {κ0 : K} {Q : Exit → Act → World → Prop} (hok : ∀ (i : Nat) o, ops[i]? = some o → dstOk n ops o = true)
    (hQ : ∀ κ e σ a, κ0.Le κ → ASat κ n e σ a → Kk e σ → Q .normal a κ.w) :
    ∀ (fuel : Nat) (listed : Array Bool) (e : Env) (σ : Store) κ a, κ0.Le κ → ASat κ n e σ a → aAny P ops hd s0 Kk fuel listed e σ → wpAny P .any ops Q fuel listed a κ.w
  | 0, listed, e, σ, κ, a, hle, hs, h => ⟨h.1, hQ κ e σ a hle hs h.2⟩
  | fuel + 1, listed, e, σ, κ, a, hle, hs, h => by
    refine ⟨fun h0 => hQ κ e σ a hle hs (h.1 h0), fun i hi => ?_⟩
    have h1 := h.2 i hi
    unfold aOpAt at h1
    unfold wpOp
    split
    · rename_i ho
      simp only [ho] at h1
      exact wpAny_of_aAny hok hQ fuel _ e σ κ a hle hs h1.2
    · rename_i o ho
      simp only [ho] at h1
      have hdo := hok i o ho
      unfold aStep at h1
      split at h1
      · rename_i hw
        rw [if_pos (wantedA_spec hs hw (dstOk_guard hdo))]
        left
        refine Oper.wp_of_aop hs h1 fun cv w' ⟨κ', x, σ', q1, q2, q3, q4, q5⟩ => ?_
        subst q1
        exact wpAny_of_aAny hok hQ fuel _ _ σ' κ' _ (hle.trans q2) (hs.put q2 q3 (dstOk_dst hdo) q4) q5.2
      · rename_i hw
        rw [if_neg (by rw [wantedA_spec hs hw (dstOk_guard hdo)]; simp)]
        exact wpAny_of_aAny hok hQ fuel _ _ σ κ _ hle (hs.put (.refl κ) hs.inv (dstOk_dst hdo) (.lit _)) h1.2
      · exact h1.elim

/-- in this state an operation that only looks yields 'a', whatever else the store holds -/
def AYields (P : Program) (ops : Array Oper) (s0 : Store) (o : Oper) (a : AVal) (e : Env) : Prop :=
  (wantedA ops o e = some true ∧ aval P o.op (aev e) s0 = some a) ∨ (wantedA ops o e = some false ∧ a = .lit undef)

/-- what it yields does not hang on the store -/
def storeless : Op → Bool
  | .move _ | .assign _ | .pick _ _ _ | .nilCheck _ | .unOp _ _ _ | .convert _ _ _ | .fieldAddr _ _ _ | .field _ _ _ | .indexAddr _ _ _ | .index _ _ _ | .extract _ _ | .slice _ _ _ _ _ | .makeInterface _ _ | .makeFunc _ _ _ | .build _ _ | .typeAssert _ _ _ _ => true
  | _ => false
theorem aval_storeless {op : Op} (h : storeless op = true) (α : Operand → AVal) (σ σ' : Store) : aval P op α σ = aval P op α σ' := by
  cases op <;> first | rfl | (simp [storeless] at h)

theorem AYields.opAt {s0 : Store} {i : Nat} {o : Oper} {a : AVal} {e : Env} {σ : Store} (hi : ops[i]? = some o) (hy : AYields P ops s0 o a e) (hs : s0.Sub σ) {Kk : Env → Store → Prop} (h : Kk (updo e o.dst a) σ) : aOpAt P ops i Kk e σ := by
  unfold aOpAt aStep
  simp only [hi]
  rcases hy with ⟨hw, ha⟩ | ⟨hw, rfl⟩
  · simp only [hw]; exact AOp_valw ha hs h
  · simp only [hw]; exact h
theorem AYields.less {s0 s : Store} {o : Oper} {a : AVal} {e : Env} (h : storeless o.op = true) (hy : AYields P ops s0 o a e) : AYields P ops s o a e := by
  unfold AYields at *
  rw [aval_storeless h _ s s0]; exact hy

theorem AYields.other {s0 : Store} {o : Oper} {a b : AVal} {d : Option Tmp} {e : Env} (h : ∀ t, d = some t → t ∉ o.looksAt ops) (hy : AYields P ops s0 o a e) : AYields P ops s0 o a (updo e d b) := by
  unfold AYields at *
  rw [wantedA_updo h, aval_congr (aev_operands h)]
  exact hy

/-- Another operation 'oj', apart from 'oi', ahead of it. -/
theorem aOpAt_swap {Y : Env → Prop} {j : Nat} {oi oj : Oper} {a : AVal} {e : Env} {σ : Store} {Kk : Env → Store → Prop} (hj : ops[j]? = some oj) (hap : oi.apart ops oj = true)
    (hY : ∀ (d : Option Tmp) (b : AVal) (e' : Env), (∀ t, d = some t → t ∉ oi.looksAt ops) → Y e' → Y (updo e' d b)) (hy : Y e) (h : aOpAt P ops j Kk (updo e oi.dst a) σ) :
    aOpAt P ops j (fun e' σ' => Y e' ∧ Kk (updo e' oi.dst a) σ') e σ := by
  obtain ⟨h1, h2, h3⟩ := Oper.apart_spec hap
  unfold aOpAt aStep at *
  simp only [hj] at *
  rw [wantedA_updo h1] at h
  split
  · rename_i hw
    simp only [hw] at h
    refine AOp_congr (aev_operands (ops := ops) h1) (h.mono fun v σ' hk => ⟨hY _ _ _ h3 hy, ?_⟩)
    rw [← updo_comm e a v h2]; exact hk
  · rename_i hw
    simp only [hw] at h
    refine ⟨hY _ _ _ h3 hy, ?_⟩
    rw [← updo_comm e a (.lit undef) h2]; exact h
  · rename_i hw
    simp only [hw] at h

/-- what an operation waits for, at whatever remove -/
def reachB (ops : Array Oper) : Nat → Nat → Nat → Bool
  | 0, _, _ => false
  | f + 1, t, i => match ops[t]? with
    | some o => o.after.any fun ed => Region.binds .any ed && (ed.on == i || reachB ops f ed.on i)
    | none => false

def Closed (ops : Array Oper) (listed : Array Bool) : Prop :=
  listed.size = ops.size ∧ ∀ j oj, ops[j]? = some oj → listed.getD j false = true → ∀ ed ∈ oj.after, Region.binds .any ed = true → listed.getD ed.on false = true

theorem Closed.set {listed : Array Bool} {i : Nat} (h : Closed ops listed) (hi : i ∈ Region.ready .any ops listed) : Closed ops (listed.setIfInBounds i true) := by
  obtain ⟨_, oi, hoi, hall⟩ := mem_ready.1 hi
  refine ⟨by simp [h.1], fun j oj hj hl ed he hb => ?_⟩
  by_cases hij : i = j
  · subst hij
    obtain rfl : oj = oi := Option.some.inj (hj.symm.trans hoi)
    exact getD_set_true (hall ed he hb)
  · rw [getD_set_ne false hij] at hl
    exact getD_set_true (h.2 j oj hj hl ed he hb)

theorem reach_listed {listed : Array Bool} (h : Closed ops listed) : ∀ (f t i : Nat) ot, ops[t]? = some ot → (∀ ed ∈ ot.after, Region.binds .any ed = true → listed.getD ed.on false = true) → reachB ops f t i = true → listed.getD i false = true
  | 0, _, _, _, _, _, hr => by cases hr
  | f + 1, t, i, ot, ht, hall, hr => by
    unfold reachB at hr
    simp only [ht] at hr
    obtain ⟨ed, he, hb⟩ := Array.any_eq_true'.1 hr
    simp only [Bool.and_eq_true, Bool.or_eq_true, beq_iff_eq] at hb
    have hl := hall ed he hb.1
    rcases hb.2 with hb2 | hb2
    · rw [← hb2]; exact hl
    · cases ho : ops[ed.on]? with
      | none =>
        have h1 : ops.size ≤ ed.on := by
          rcases Nat.lt_or_ge ed.on ops.size with hh | hh
          · rw [Array.getElem?_eq_getElem hh] at ho; cases ho
          · exact hh
        rw [show listed.getD ed.on false = false by simp [Array.getElem?_eq_none (show listed.size ≤ ed.on by rw [h.1]; exact h1)]] at hl
        cases hl
      | some o' => exact reach_listed h f ed.on i o' ho (fun ed' he' hb' => h.2 ed.on o' ho hl ed' he' hb') hb2

/-- An operation that only looks may be taken first. 'Y': it yields so; 'G': what is asked of a store for that. -/
theorem aAny_first {hd : Nat → Bool} {s0 : Store} {Kk : Env → Store → Prop} {i : Nat} {oi : Oper} {a : AVal} {Y : Env → Prop} {G : Store → Prop} (hi : ops[i]? = some oi)
    (hY : ∀ (d : Option Tmp) (b : AVal) (e' : Env), (∀ t, d = some t → t ∉ oi.looksAt ops) → Y e' → Y (updo e' d b)) (hat : ∀ e σ, Y e → G σ → ∃ s : Store, s.Sub σ ∧ AYields P ops s oi a e)
    (htail : (∀ σ, G σ) ∨ ((∀ σ, G σ ↔ s0.Sub σ) ∧ ∀ t, t < ops.size → hd t = false → reachB ops ops.size t i = true)) :
    ∀ (fuel : Nat) (listed : Array Bool) (e : Env) (σ : Store), Closed ops listed → G σ →
      (∀ j oj, ops[j]? = some oj → j ≠ i → listed.getD j true = false → (∀ ed ∈ oj.after, Region.binds .any ed = true → ed.on ≠ i) → oi.apart ops oj = true) →
      i ∈ Region.ready .any ops listed → Y e →
      aAny P ops hd s0 Kk fuel (listed.setIfInBounds i true) (updo e oi.dst a) σ → aAny P ops hd s0 Kk (fuel + 1) listed e σ := by
  intro fuel
  induction fuel with
  | zero =>
    intro listed e σ hcl hs _ hr hy H
    refine ⟨fun h => (by rw [h] at hr; cases hr), fun j hj => ?_⟩
    by_cases hji : j = i
    · subst hji
      obtain ⟨s, hs1, hs2⟩ := hat e σ hy hs
      exact hs2.opAt hi hs1 ⟨fun _ h => h, H⟩
    · have := ready_mono hj hji
      rw [H.1] at this
      cases this
  | succ fuel ih =>
    intro listed e σ hcl hs hfree hr hy H
    refine ⟨fun h => (by rw [h] at hr; cases hr), fun j hj => ?_⟩
    by_cases hji : j = i
    · subst hji
      obtain ⟨s, hs1, hs2⟩ := hat e σ hy hs
      exact hs2.opAt hi hs1 ⟨fun _ h => h, H⟩
    · have h1 := H.2 j (ready_mono hj hji)
      obtain ⟨hjun, oj, hoj, hall⟩ := mem_ready.1 hj
      have hiun : listed.getD i false = false := unlisted (mem_ready.1 hr).1
      have hnot : ∀ ed ∈ oj.after, Region.binds .any ed = true → ed.on ≠ i := fun ed he hb heq => by
        have h1 := hall ed he hb
        rw [heq, hiun] at h1
        cases h1
      have hG : ∀ σ', (hd j = true → s0.Sub σ → s0.Sub σ') → G σ' := by
        intro σ' hk
        rcases htail with h0 | ⟨h0, htail⟩
        · exact h0 σ'
        · refine (h0 σ').2 (hk ?_ ((h0 σ).1 hs))
          cases hh : hd j with
          | true => rfl
          | false =>
            have hjlt : j < ops.size := (Array.getElem?_eq_some_iff.1 hoj).1
            have := reach_listed hcl ops.size j i oj hoj hall (htail j hjlt hh)
            rw [hiun] at this
            cases this
      have h2 := aOpAt_swap hoj (hfree j oj hoj hji hjun hnot) hY hy h1
      have hfree' : ∀ k ok, ops[k]? = some ok → k ≠ i → (listed.setIfInBounds j true).getD k true = false →
          (∀ ed ∈ ok.after, Region.binds .any ed = true → ed.on ≠ i) → oi.apart ops ok = true := fun k ok hk hki hun hno => by
        refine hfree k ok hk hki ?_ hno
        by_cases hjk : j = k
        · subst hjk; exact hjun
        · rw [getD_set_ne true hjk] at hun; exact hun
      refine aOpAt_mono (fun e' σ' h3 => ⟨h3.2.1, ih (listed.setIfInBounds j true) e' σ' (hcl.set hj) (hG σ' h3.2.1) hfree' (ready_mono hr (Ne.symm hji)) h3.1 ?_⟩) h2
      rw [Array.setIfInBounds_comm _ _ hji]
      exact h3.2.2

/-! ### the walk in an order of one's choice: 0: it only looks; 1: another one, of the head; 2: one of the tail; 'alt': where several others are ready, each of them first -/

inductive DT where
  | nil
  | op (i k : Nat) (r : DT)
  | any (i : Nat) (r : DT)
  | alt (i k : Nat) (r t : DT)

def DT.alts : DT → List Nat
  | .nil => []
  | .op i _ _ => [i]
  | .any i _ => [i]
  | .alt i _ _ t => i :: t.alts
def DT.depth : DT → Nat
  | .nil => 0
  | .op _ _ r => r.depth + 1
  | .any _ r => r.depth + 1
  | .alt _ _ r t => max (r.depth + 1) t.depth
def DT.tails : DT → List Nat
  | .nil => []
  | .op i k r => if k ≤ 1 then r.tails else i :: r.tails
  | .any _ r => r.tails
  | .alt i k r t => (if k ≤ 1 then r.tails else i :: r.tails) ++ t.tails

def dRun (P : Program) (ops : Array Oper) (s0 : Store) (Kk : Env → Store → Prop) : DT → Env → Store → Prop
  | .nil, e, σ => Kk e σ
  | .op i 0 r, e, σ => ∃ o a, ops[i]? = some o ∧ AYields P ops s0 o a e ∧ dRun P ops s0 Kk r (updo e o.dst a) σ
  | .op i 1 r, e, σ => ∃ o, ops[i]? = some o ∧ aStep P ops o (fun e' σ' => s0.Sub σ' ∧ dRun P ops s0 Kk r e' σ') e σ
  | .op i (_ + 2) r, e, σ => ∃ o, ops[i]? = some o ∧ aStep P ops o (dRun P ops s0 Kk r) e σ
  | .any i r, e, σ => ∃ o a, ops[i]? = some o ∧ (∀ s, AYields P ops s o a e) ∧ dRun P ops s0 Kk r (updo e o.dst a) σ
  | .alt i 1 r t, e, σ => (∃ o, ops[i]? = some o ∧ aStep P ops o (fun e' σ' => s0.Sub σ' ∧ dRun P ops s0 Kk r e' σ') e σ) ∧ dRun P ops s0 Kk t e σ
  | .alt i _ r t, e, σ => (∃ o, ops[i]? = some o ∧ aStep P ops o (dRun P ops s0 Kk r) e σ) ∧ dRun P ops s0 Kk t e σ

/-- 'b': it is known already what is ready; 'tl': one of the tail was taken -/
def okT (ops : Array Oper) (hd : Nat → Bool) : DT → Bool → Bool → Array Bool → Bool
  | .nil, b, _, listed => !b && (Region.ready .any ops listed).isEmpty
  | .op i 0 r, b, tl, listed => !b && (Region.ready .any ops listed).contains i && Region.free .any ops listed i && (((ops[i]?).map fun o => storeless o.op) == some true || (!tl && (List.range ops.size).all fun t => hd t || reachB ops ops.size t i)) && okT ops hd r false tl (listed.setIfInBounds i true)
  | .op i (k + 1) r, b, tl, listed => (b || decide (Region.ready .any ops listed = [i])) && (hd i == decide (k = 0)) && (!tl || decide (k ≠ 0)) && okT ops hd r false (decide (k ≠ 0)) (listed.setIfInBounds i true)
  | .any i r, b, tl, listed => !b && (Region.ready .any ops listed).contains i && Region.free .any ops listed i && okT ops hd r false tl (listed.setIfInBounds i true)
  | .alt _ 0 _ _, _, _, _ => false
  | .alt i (k + 1) r t, b, tl, listed => (b || decide (Region.ready .any ops listed = i :: t.alts)) && (hd i == decide (k = 0)) && (!tl || decide (k ≠ 0)) && okT ops hd r false (decide (k ≠ 0)) (listed.setIfInBounds i true) && okT ops hd t true tl listed

theorem aAny_end {hd : Nat → Bool} {s0 : Store} {Kk : Env → Store → Prop} (fuel : Nat) {listed : Array Bool} {e : Env} {σ : Store} (h0 : Region.ready .any ops listed = []) (h : Kk e σ) : aAny P ops hd s0 Kk fuel listed e σ := by
  cases fuel with
  | zero => exact ⟨h0, h⟩
  | succ f => exact ⟨fun _ => h, fun i hi => by rw [h0] at hi; cases hi⟩

theorem aAny_alts {hd : Nat → Bool} {s0 : Store} {Kk : Env → Store → Prop} {fuel : Nat} {listed : Array Bool} {e : Env} {σ : Store} {l : List Nat} (hr : Region.ready .any ops listed = l) (hne : l ≠ [])
    (h : ∀ i ∈ l, i ∈ Region.ready .any ops listed → aOpAt P ops i (fun e' σ' => (hd i = true → s0.Sub σ → s0.Sub σ') ∧ aAny P ops hd s0 Kk fuel (listed.setIfInBounds i true) e' σ') e σ) : aAny P ops hd s0 Kk (fuel + 1) listed e σ :=
  ⟨fun h0 => absurd (hr.symm.trans h0) hne, fun i hi => h i (hr ▸ hi) hi⟩

theorem aAny_of_dRun {hd : Nat → Bool} {s0 : Store} {Kk : Env → Store → Prop} : ∀ (t : DT) (tl : Bool) (listed : Array Bool) (e : Env) (σ : Store), Closed ops listed → (tl = true ∨ s0.Sub σ) → dRun P ops s0 Kk t e σ →
    (okT ops hd t false tl listed = true → ∀ fuel, t.depth ≤ fuel → aAny P ops hd s0 Kk fuel listed e σ) ∧
    (∀ b, okT ops hd t b tl listed = true → ∀ fuel, t.depth ≤ fuel + 1 → (∀ i r, t ≠ .op i 0 r) → (∀ i r, t ≠ .any i r) → ∀ i ∈ t.alts, i ∈ Region.ready .any ops listed → aOpAt P ops i (fun e' σ' => (hd i = true → s0.Sub σ → s0.Sub σ') ∧ aAny P ops hd s0 Kk fuel (listed.setIfInBounds i true) e' σ') e σ)
  | .nil, tl, listed, e, σ, hcl, hs, h => ⟨fun hB fuel _ => aAny_end fuel (by simpa [okT] using hB) h, fun _ _ _ _ _ _ i hi => by cases hi⟩
  | .op i 0 r, tl, listed, e, σ, hcl, hs, h => by
    refine ⟨fun hB fuel hf => ?_, fun _ _ _ _ hne _ => absurd rfl (hne i r)⟩
    obtain ⟨o, a, ho, hy, hrest⟩ := h
    simp only [okT, Bool.and_eq_true, Bool.or_eq_true, Bool.not_eq_true', beq_iff_eq, ho, Option.map_some, Option.some.injEq] at hB
    obtain ⟨⟨⟨⟨_, hr⟩, hfr⟩, htail⟩, hB'⟩ := hB
    have hr' : i ∈ Region.ready .any ops listed := by simpa using hr
    cases fuel with
    | zero => simp [DT.depth] at hf
    | succ fuel =>
      have hnext := (aAny_of_dRun r tl _ _ σ (hcl.set hr') hs hrest).1 hB' fuel (by simpa [DT.depth] using hf)
      rcases htail with hsl | ⟨htl, htail⟩
      · exact aAny_first (Y := fun e => AYields P ops s0 o a e) (G := fun _ => True) ho (fun d b e' hd' hy' => hy'.other hd') (fun e σ hy' _ => ⟨σ, .refl σ, hy'.less hsl⟩) (.inl fun _ => trivial) fuel listed e σ hcl trivial (Region.free_spec ho hfr) hr' hy hnext
      · have hs' : s0.Sub σ := hs.resolve_left (by rw [htl]; decide)
        exact aAny_first (Y := fun e => AYields P ops s0 o a e) (G := fun σ => s0.Sub σ) ho (fun d b e' hd' hy' => hy'.other hd') (fun e σ hy' hs => ⟨s0, hs, hy'⟩) (.inr ⟨fun _ => Iff.rfl, fun t htlt hht => by
          have := List.all_eq_true.1 htail t (List.mem_range.2 htlt)
          simpa [hht] using this⟩) fuel listed e σ hcl hs' (Region.free_spec ho hfr) hr' hy hnext
  | .any i r, tl, listed, e, σ, hcl, hs, h => by
    refine ⟨fun hB fuel hf => ?_, fun _ _ _ _ _ hne => absurd rfl (hne i r)⟩
    obtain ⟨o, a, ho, hy, hrest⟩ := h
    simp only [okT, Bool.and_eq_true, Bool.not_eq_true'] at hB
    obtain ⟨⟨⟨_, hr⟩, hfr⟩, hB'⟩ := hB
    have hr' : i ∈ Region.ready .any ops listed := by simpa using hr
    cases fuel with
    | zero => simp [DT.depth] at hf
    | succ fuel =>
      have hnext := (aAny_of_dRun r tl _ _ σ (hcl.set hr') hs hrest).1 hB' fuel (by simpa [DT.depth] using hf)
      exact aAny_first (Y := fun e => ∀ s, AYields P ops s o a e) (G := fun _ => True) ho (fun d b e' hd' hy' s => (hy' s).other hd') (fun e σ hy' _ => ⟨σ, .refl σ, hy' σ⟩) (.inl fun _ => trivial) fuel listed e σ hcl trivial (Region.free_spec ho hfr) hr' hy hnext
  | .op i 1 r, tl, listed, e, σ, hcl, hs, h => by
    have key : ∀ b, okT ops hd (.op i 1 r) b tl listed = true → ∀ fuel, (DT.op i 1 r).depth ≤ fuel + 1 → i ∈ Region.ready .any ops listed → aOpAt P ops i (fun e' σ' => (hd i = true → s0.Sub σ → s0.Sub σ') ∧ aAny P ops hd s0 Kk fuel (listed.setIfInBounds i true) e' σ') e σ := by
      intro b hB fuel hf hi
      obtain ⟨o, ho, hst⟩ := h
      simp only [okT, Bool.and_eq_true] at hB
      unfold aOpAt
      simp only [ho]
      exact aStep_mono (fun e' σ' hk => ⟨fun _ _ => hk.1, (aAny_of_dRun r _ _ _ σ' (hcl.set hi) (.inr hk.1) hk.2).1 hB.2 fuel (by simpa [DT.depth] using hf)⟩) hst
    refine ⟨fun hB fuel hf => ?_, fun b hB fuel hf _ _ j hj hr => by
      have hji : j = i := by simpa [DT.alts] using hj
      rw [hji] at hr ⊢; exact key b hB fuel hf hr⟩
    cases fuel with
    | zero => simp [DT.depth] at hf
    | succ fuel =>
      have hr : Region.ready .any ops listed = [i] := by simp only [okT, Bool.and_eq_true, Bool.or_eq_true, decide_eq_true_eq] at hB; exact hB.1.1.1.resolve_left (by decide)
      exact aAny_alts hr (by simp) fun j hj hjr => by
        have hji : j = i := by simpa using hj
        rw [hji] at hjr ⊢; exact key false hB fuel hf hjr
  | .op i (q + 2) r, tl, listed, e, σ, hcl, hs, h => by
    have key : ∀ b, okT ops hd (.op i (q + 2) r) b tl listed = true → ∀ fuel, (DT.op i (q + 2) r).depth ≤ fuel + 1 → i ∈ Region.ready .any ops listed → aOpAt P ops i (fun e' σ' => (hd i = true → s0.Sub σ → s0.Sub σ') ∧ aAny P ops hd s0 Kk fuel (listed.setIfInBounds i true) e' σ') e σ := by
      intro b hB fuel hf hi
      obtain ⟨o, ho, hst⟩ := h
      simp only [okT, Bool.and_eq_true, beq_iff_eq] at hB
      unfold aOpAt
      simp only [ho]
      exact aStep_mono (fun e' σ' hk => ⟨fun h1 _ => by rw [hB.1.1.2] at h1; simp at h1, (aAny_of_dRun r _ _ _ σ' (hcl.set hi) (.inl (by simp)) hk).1 hB.2 fuel (by simpa [DT.depth] using hf)⟩) hst
    refine ⟨fun hB fuel hf => ?_, fun b hB fuel hf _ _ j hj hr => by
      have hji : j = i := by simpa [DT.alts] using hj
      rw [hji] at hr ⊢; exact key b hB fuel hf hr⟩
    cases fuel with
    | zero => simp [DT.depth] at hf
    | succ fuel =>
      have hr : Region.ready .any ops listed = [i] := by simp only [okT, Bool.and_eq_true, Bool.or_eq_true, decide_eq_true_eq] at hB; exact hB.1.1.1.resolve_left (by decide)
      exact aAny_alts hr (by simp) fun j hj hjr => by
        have hji : j = i := by simpa using hj
        rw [hji] at hjr ⊢; exact key false hB fuel hf hjr
  | .alt i 0 r t, tl, listed, e, σ, hcl, hs, h => ⟨fun hB => by simp [okT] at hB, fun b hB => by simp [okT] at hB⟩
  | .alt i 1 r t, tl, listed, e, σ, hcl, hs, h => by
    have key : ∀ b, okT ops hd (.alt i 1 r t) b tl listed = true → ∀ fuel, (DT.alt i 1 r t).depth ≤ fuel + 1 → ∀ j ∈ (DT.alt i 1 r t).alts, j ∈ Region.ready .any ops listed → aOpAt P ops j (fun e' σ' => (hd j = true → s0.Sub σ → s0.Sub σ') ∧ aAny P ops hd s0 Kk fuel (listed.setIfInBounds j true) e' σ') e σ := by
      intro b hB fuel hf j hj hjr
      obtain ⟨⟨o, ho, hst⟩, ht⟩ := h
      simp only [okT, Bool.and_eq_true] at hB
      simp only [DT.depth] at hf
      have ih := aAny_of_dRun (hd := hd) t tl listed e σ hcl hs ht
      rcases List.mem_cons.1 hj with rfl | hj
      · unfold aOpAt
        simp only [ho]
        exact aStep_mono (fun e' σ' hk => ⟨fun _ _ => hk.1, (aAny_of_dRun r _ _ _ σ' (hcl.set hjr) (.inr hk.1) hk.2).1 hB.1.2 fuel (by omega)⟩) hst
      · refine ih.2 true hB.2 fuel (by omega) (fun i' r' hh => ?_) (fun i' r' hh => ?_) j hj hjr
        all_goals (have := hB.2; rw [hh] at this; simp [okT] at this)
    refine ⟨fun hB fuel hf => ?_, fun b hB fuel hf _ _ j hj hr => key b hB fuel hf j hj hr⟩
    cases fuel with
    | zero => simp only [DT.depth] at hf; omega
    | succ fuel =>
      have hr : Region.ready .any ops listed = i :: t.alts := by simp only [okT, Bool.and_eq_true, Bool.or_eq_true, decide_eq_true_eq] at hB; exact hB.1.1.1.1.resolve_left (by decide)
      exact aAny_alts hr (by simp) fun j hj hjr => key false hB fuel hf j hj hjr
  | .alt i (q + 2) r t, tl, listed, e, σ, hcl, hs, h => by
    have key : ∀ b, okT ops hd (.alt i (q + 2) r t) b tl listed = true → ∀ fuel, (DT.alt i (q + 2) r t).depth ≤ fuel + 1 → ∀ j ∈ (DT.alt i (q + 2) r t).alts, j ∈ Region.ready .any ops listed → aOpAt P ops j (fun e' σ' => (hd j = true → s0.Sub σ → s0.Sub σ') ∧ aAny P ops hd s0 Kk fuel (listed.setIfInBounds j true) e' σ') e σ := by
      intro b hB fuel hf j hj hjr
      obtain ⟨⟨o, ho, hst⟩, ht⟩ := h
      simp only [okT, Bool.and_eq_true, beq_iff_eq] at hB
      simp only [DT.depth] at hf
      have ih := aAny_of_dRun (hd := hd) t tl listed e σ hcl hs ht
      rcases List.mem_cons.1 hj with rfl | hj
      · unfold aOpAt
        simp only [ho]
        exact aStep_mono (fun e' σ' hk => ⟨fun h1 _ => by rw [hB.1.1.1.2] at h1; simp at h1, (aAny_of_dRun r _ _ _ σ' (hcl.set hjr) (.inl (by simp)) hk).1 hB.1.2 fuel (by omega)⟩) hst
      · refine ih.2 true hB.2 fuel (by omega) (fun i' r' hh => ?_) (fun i' r' hh => ?_) j hj hjr
        all_goals (have := hB.2; rw [hh] at this; simp [okT] at this)
    refine ⟨fun hB fuel hf => ?_, fun b hB fuel hf _ _ j hj hr => key b hB fuel hf j hj hr⟩
    cases fuel with
    | zero => simp only [DT.depth] at hf; omega
    | succ fuel =>
      have hr : Region.ready .any ops listed = i :: t.alts := by simp only [okT, Bool.and_eq_true, Bool.or_eq_true, decide_eq_true_eq] at hB; exact hB.1.1.1.1.resolve_left (by decide)
      exact aAny_alts hr (by simp) fun j hj hjr => key false hB fuel hf j hj hjr

/-- all that is asked of an order, for the kernel -/
def okDraw (n : Nat) (ops : Array Oper) (t : DT) : Bool :=
  decide (t.depth ≤ ops.size) && ops.all (dstOk n ops) && okT ops (fun i => !t.tails.contains i) t false false (Array.replicate ops.size false)

theorem awp_draw {n id : Nat} {l : List Oper} {Q : Exit → Env → Store → Prop} {e : Env} {σ : Store} (t : DT) (hm : P.follows .mixedOrders = true) (hB : okDraw n l.toArray t = true)
    (h : dRun P l.toArray σ (Q .normal) t e σ) : awp P n (.region id l.toArray true) Q e σ := by
  intro κ a hs
  simp only [okDraw, Bool.and_eq_true, decide_eq_true_eq] at hB
  obtain ⟨⟨hlen, hdst⟩, hok⟩ := hB
  have hI := hs.inv.drew
  have hs' : ASat { κ with w := κ.w.drew } n e σ a := ⟨hs.defers, hs.size, fun k => (hs.env k).mono hI.1, hI.2⟩
  refine wp_region_any hm ?_
  have key := (aAny_of_dRun (P := P) (ops := l.toArray) (hd := fun i => !t.tails.contains i) (s0 := σ) (Kk := Q .normal) t false (Array.replicate l.toArray.size false) e σ ⟨by simp, fun j oj _ hl => (by rw [none_listed] at hl; cases hl)⟩ (.inr (.refl σ)) h).1 hok _ hlen
  exact wpAny_of_aAny (κ0 := κ) (fun i o ho => Array.all_eq_true_iff_forall_mem.1 hdst o (Array.mem_of_getElem? ho)) (fun κ' e' σ' a' hle hs'' hk => ⟨κ', e', σ', rfl, hle, hs'', hk⟩) _ _ e σ { κ with w := κ.w.drew } a hI.1 hs' key

end
end Go.Ab
