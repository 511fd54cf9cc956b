/-
  MORE OPERATIONS THAT LEAVE THE WORLD ALONE: slices, struct values, len, min, max, maps that are looked into. Own work (an AI agent).
-/
import Derived.Test.YtdedpamcpgbgmaaAbPure
set_option linter.all false
namespace Go.Ab

/-- a value of which it is known of how many cells it is -/
def AVal.solid : AVal → Bool
  | .any => false
  | .lit (.agg _) => false
  | .lit (.tuple _) => false
  | .tup _ => false
  | _ => true

/-- a value of one cell -/
def AVal.one : AVal → Bool
  | .any => false
  | .lit (.agg _) => false
  | .lit (.tuple _) => false
  | .tup _ => false
  | .agg _ => false
  | _ => true

theorem AVal.one_cells {a : AVal} (h : a.one = true) : a.cells = [a] := by
  cases a <;> first | rfl | cases h

theorem Rv.one {κ : K} {a : AVal} {v : Value} (h : Rv κ a v) (ho : a.one = true) : v.oneCell' = true ∧ v.cells = #[v] := by
  cases h <;> first | (cases ho; done) | exact ⟨rfl, rfl⟩ | skip
  case lit => cases v <;> first | exact ⟨rfl, rfl⟩ | cases ho
  case own t sz l h ht =>
    rcases h.slInv with ⟨_, rfl, _⟩ | ⟨b, off, cap, vals, rfl, _⟩ <;> exact ⟨rfl, rfl⟩

theorem Rv.cells {κ : K} {a : AVal} {v : Value} (h : Rv κ a v) (hs : a.solid = true) : v.cells.size = a.cells.length ∧ ∀ i (hi : i < a.cells.length), Rv κ a.cells[i] (v.cells.getD i undef) := by
  have one : a.one = true → v.cells.size = a.cells.length ∧ ∀ i (hi : i < a.cells.length), Rv κ a.cells[i] (v.cells.getD i undef) := by
    intro ho
    have e := AVal.one_cells ho
    have ev := (h.one ho).2
    refine ⟨by rw [e, ev]; rfl, fun i hi => ?_⟩
    have h0 : i = 0 := by rw [e] at hi; simpa using hi
    subst h0
    simp only [e, ev, List.getElem_cons_zero]
    exact h
  cases a
  case agg cs => obtain ⟨vs, rfl, hn, hv⟩ := h.aggInv; exact ⟨hn, hv⟩
  case lit u =>
    refine one ?_
    cases u <;> first | rfl | cases hs
  case any => cases hs
  case tup => cases hs
  all_goals exact one rfl

def abound : AVal → Option Nat
  | .lit (.int _ n) => if 0 ≤ n then some n.toNat else none
  | _ => none

def alow : Option AVal → Option Nat
  | none => some 0
  | some x => abound x

def ahigh (len : Nat) : Option AVal → Option Nat
  | none => some len
  | some x => abound x

def aslice (P : Program) (t : TypeId) (x : AVal) (lo hi mx : Option AVal) : Option AVal :=
  match alow lo with
  | none => none
  | some l =>
    if isStringT P t then
      match x, mx with
      | .lit (.string s), none => match ahigh s.size hi with
        | some h => if l ≤ h ∧ h ≤ s.size then some (.lit (.string (s.extract l h))) else none
        | none => none
      | _, _ => none
    else match sliceElem P t with
      | none => none
      | some e => match typeOf P e with
        | none => none
        | some (s, _) => match x with
          | .msl o sz off len => match mx, ahigh len hi with
            | none, some h => if s = sz ∧ (l = 0 ∨ l < len) ∧ l ≤ h ∧ h ≤ len then some (.msl o sz (off + l * sz) (h - l)) else none
            | _, _ => none
          | .lit (.slice none 0 0) => match mx, ahigh 0 hi with
            | none, some h => if l = 0 ∧ h = 0 then some (.lit (.slice none 0 0)) else none
            | _, _ => none
          | x => match slOf x with
            | none => none
            | some (sz, ls) => match mx, ahigh ls.length hi with
              | none, some h => if s = sz ∧ l ≤ h ∧ h ≤ ls.length then some (.sl sz ((ls.take h).drop l) false) else none
              | some m, some h => if hi.isSome ∧ abound m = some h ∧ s = sz ∧ l ≤ h ∧ h ≤ ls.length then some (.sl sz ((ls.take h).drop l) true) else none
              | _, none => none

theorem abound_spec {κ : K} {x : AVal} {v : Value} {n : Nat} (h : abound x = some n) (hr : Rv κ x v) : ∃ k, v = .int k (n : Int) := by
  unfold abound at h
  split at h
  · rename_i k m
    split at h
    · rename_i hm
      obtain rfl := hr.litInv
      have := Option.some.inj h
      exact ⟨k, by rw [← this, Int.toNat_of_nonneg hm]⟩
    · cases h
  · cases h

theorem run_sliceBound {P : Program} {w : World} {k : IntKind} {n y : Nat} {c : BoundsCode} (h : n ≤ y) : (Instr.sliceBound (.int k (n : Int)) y c).run P w = .ok n w := by
  unfold Instr.sliceBound
  simp only [Sem.run_bind, asIntOf, Sem.run_pure, Result.andThen_ok]
  rw [if_pos ⟨by omega, by omega⟩]
  simp

theorem run_sliceBounds {P : Program} {κ : K} {isS : Bool} {len cap : Nat} {lo hi : Option Operand} {α : Operand → AVal} {f : Operand → Value} (hf : ∀ x, (lo = some x ∨ hi = some x) → Rv κ (α x) (f x)) {l h : Nat}
    (hl : alow (lo.map α) = some l) (hh : ahigh len (hi.map α) = some h) (h1 : l ≤ h) (h2 : h ≤ cap) : (Instr.sliceBounds isS len cap (lo.map f) (hi.map f) none).run P κ.w = .ok (l, h, cap) κ.w := by
  unfold Instr.sliceBounds
  simp only [Sem.run_bind, Sem.run_pure, Result.andThen_ok]
  have low : ∀ c, ((match lo.map f with
      | some v => (do let l ← Instr.sliceBound v h c; pure (l, h, cap) : Sem (Nat × Nat × Nat))
      | none => (do let l ← pure 0; pure (l, h, cap) : Sem (Nat × Nat × Nat)))).run P κ.w = .ok (l, h, cap) κ.w := by
    intro c
    cases lo with
    | none => simp only [alow, Option.map_none, Option.some.injEq] at hl; subst hl; rfl
    | some x =>
      obtain ⟨k, e⟩ := abound_spec (κ := κ) hl (hf x (.inl rfl))
      simp only [Option.map_some, e, Sem.run_bind, run_sliceBound h1, Result.andThen_ok, Sem.run_pure]
  cases hi with
  | none =>
    simp only [ahigh, Option.map_none, Option.some.injEq] at hh
    subst hh
    simp only [Option.map_none, Sem.run_bind, Sem.run_pure, Result.andThen_ok]
    exact low _
  | some x =>
    obtain ⟨k, e⟩ := abound_spec (κ := κ) hh (hf x (.inr rfl))
    simp only [Option.map_some, e, Sem.run_bind, run_sliceBound h2, Result.andThen_ok]
    exact low _

theorem run_sliceBounds3 {P : Program} {κ : K} {isS : Bool} {len cap : Nat} {lo : Option Operand} {hi mx : Operand} {α : Operand → AVal} {f : Operand → Value} (hf : ∀ x, (lo = some x ∨ x = hi ∨ x = mx) → Rv κ (α x) (f x)) {l h : Nat}
    (hl : alow (lo.map α) = some l) (hh : abound (α hi) = some h) (hm : abound (α mx) = some h) (h1 : l ≤ h) (h2 : h ≤ cap) :
    (Instr.sliceBounds isS len cap (lo.map f) (some (f hi)) (some (f mx))).run P κ.w = .ok (l, h, h) κ.w := by
  unfold Instr.sliceBounds
  obtain ⟨k1, e1⟩ := abound_spec (κ := κ) hh (hf hi (.inr (.inl rfl)))
  obtain ⟨k2, e2⟩ := abound_spec (κ := κ) hm (hf mx (.inr (.inr rfl)))
  simp only [Sem.run_bind, e1, e2, run_sliceBound h2, Result.andThen_ok, run_sliceBound (Nat.le_refl h)]
  cases lo with
  | none => simp only [alow, Option.map_none, Option.some.injEq] at hl; subst hl; rfl
  | some x =>
    obtain ⟨k, e⟩ := abound_spec (κ := κ) hl (hf x (.inl rfl))
    simp only [Option.map_some, e, Sem.run_bind, run_sliceBound h1, Result.andThen_ok, Sem.run_pure]

/-- a piece of a list of elements -/
theorem flat_take {sz : Nat} : ∀ {l : List AVal}, (∀ x ∈ l, x.cells.length = sz) → ∀ n, flat (l.take n) = (flat l).take (n * sz)
  | [], _, n => by simp [flat]
  | x :: l, hs, 0 => by simp [flat]
  | x :: l, hs, n + 1 => by
    have hx : x.cells.length = sz := hs x (List.mem_cons_self ..)
    rw [List.take_succ_cons, flat_cons, flat_cons, flat_take (fun y hy => hs y (List.mem_cons_of_mem _ hy)) n, List.take_append]
    rw [List.take_of_length_le (l := x.cells) (by rw [Nat.succ_mul]; omega)]
    congr 2
    rw [Nat.succ_mul]; omega

theorem flat_drop {sz : Nat} : ∀ {l : List AVal}, (∀ x ∈ l, x.cells.length = sz) → ∀ n, flat (l.drop n) = (flat l).drop (n * sz)
  | [], _, n => by simp [flat]
  | x :: l, hs, 0 => by simp
  | x :: l, hs, n + 1 => by
    have hx : x.cells.length = sz := hs x (List.mem_cons_self ..)
    rw [List.drop_succ_cons, flat_cons, flat_drop (fun y hy => hs y (List.mem_cons_of_mem _ hy)) n, List.drop_append]
    rw [List.drop_of_length_le (l := x.cells) (by rw [Nat.succ_mul]; omega), List.nil_append]
    congr 1
    rw [Nat.succ_mul]; omega

theorem sl_piece {κ : K} {sz : Nat} {ls : List AVal} {v : Value} (h : Rv κ (.sl sz ls false) v) {l hh : Nat} (h1 : l ≤ hh) (h2 : hh ≤ ls.length) :
    (∃ a, v = .slice a 0 0 ∧ ls = []) ∨ ∃ b off cap, v = .slice (some ⟨b, off, none⟩) ls.length cap ∧ ls.length ≤ cap ∧
      (∀ cap', hh - l ≤ cap' → Rv κ (.sl sz ((ls.take hh).drop l) false) (.slice (some ⟨b, off + l * sz, none⟩) (hh - l) cap')) ∧
      Rv κ (.sl sz ((ls.take hh).drop l) true) (.slice (some ⟨b, off + l * sz, none⟩) (hh - l) (hh - l)) := by
  rcases h.slInv with ⟨a, rfl, rfl⟩ | ⟨b, off, cap, vals, rfl, hcap, _, hsz, hc, hv⟩
  · exact .inl ⟨a, rfl, rfl⟩
  · refine .inr ⟨b, off, cap, rfl, hcap, ?_⟩
    have hsz' : ∀ x ∈ (ls.take hh).drop l, x.cells.length = sz := fun x hx => hsz x (List.mem_of_mem_take (List.mem_of_mem_drop hx))
    have hflat : flat ((ls.take hh).drop l) = ((flat ls).take (hh * sz)).drop (l * sz) := by
      rw [flat_drop (fun x hx => hsz x (List.mem_of_mem_take hx)), flat_take hsz]
    have hlen : ((ls.take hh).drop l).length = hh - l := by simp; omega
    have key : ∀ (t : Bool) (cap' : Nat), hh - l ≤ cap' → (t = true → cap' = hh - l) → Rv κ (.sl sz ((ls.take hh).drop l) t) (.slice (some ⟨b, off + l * sz, none⟩) (hh - l) cap') := by
      intro t cap' hle ht
      have := Rv.sl (κ := κ) sz ((ls.take hh).drop l) t b (off + l * sz) cap' (fun k => vals (l * sz + k)) (by omega) (by rw [hlen]; exact ht) hsz' (fun k hk => ?_) (fun k hk => ?_)
      · rw [hlen] at this; exact this
      · rw [hflat] at hk
        simp only [List.length_drop, List.length_take] at hk
        rw [Nat.add_assoc]
        exact hc (l * sz + k) (by omega)
      · have hk' := hk
        rw [hflat] at hk'
        simp only [List.length_drop, List.length_take] at hk'
        have e : (flat ((ls.take hh).drop l))[k] = (flat ls)[l * sz + k]'(by omega) := by
          simp only [hflat, List.getElem_drop, List.getElem_take]
        rw [e]
        exact hv _ _
    exact ⟨fun cap' hle => key false cap' hle (by simp), key true _ (Nat.le_refl _) (fun _ => rfl)⟩

end Go.Ab
