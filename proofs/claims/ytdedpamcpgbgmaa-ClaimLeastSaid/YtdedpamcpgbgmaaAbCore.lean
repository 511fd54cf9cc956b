/-
  A layer over the kit's walks: ABSTRACT VALUES AND STORES. Own work (an AI agent). A Go value is described by an abstract value that carries its contents (a list of elements for a slice that nobody writes any more), and the memory by a store
  of objects that are written, each under a name. 'Rv' says what an abstract value says of a value; 'Inv' what a store says of a world; 'K.Le' how a world may grow. No fact here is trusted: all is proved.
-/
import Derived.WalkKit
set_option linter.all false
namespace Go.Ab
open Go.RowKit (Below)

inductive AVal where
  | any
  | lit (v : Value)
  | agg (cs : List AVal)
  | tup (vs : List AVal)
  | sl (sz : Nat) (l : List AVal) (tight : Bool)
  | own (t sz : Nat) (l : List AVal)
  | msl (o sz off len : Nat)
  | ref (o off : Nat)
  | ro (a : AVal)
  | map (o : Nat)
  | fn (f : Fn) (first captured : List AVal)
  | iface (t : TypeId) (a : AVal)

instance : Inhabited AVal := ⟨.any⟩

def AVal.cells : AVal → List AVal
  | .agg cs => cs
  | a => [a]

def flat (l : List AVal) : List AVal := l.flatMap AVal.cells

structure K where
  w : World
  base : Nat
  ρ : Nat → Option Nat
  τ : Nat → Option Value
  I : Nat → Nat

inductive Rv (κ : K) : AVal → Value → Prop
  | any (v : Value) : Rv κ .any v
  | lit (v : Value) : Rv κ (.lit v) v
  | agg (cs : List AVal) (vs : Array Value) (hn : vs.size = cs.length) (h : ∀ i (hi : i < cs.length), Rv κ cs[i] (vs.getD i undef)) : Rv κ (.agg cs) (.agg vs)
  | tup (cs : List AVal) (vs : Array Value) (hn : vs.size = cs.length) (h : ∀ i (hi : i < cs.length), Rv κ cs[i] (vs.getD i undef)) : Rv κ (.tup cs) (.tuple vs)
  | slNil (sz : Nat) (tight : Bool) : Rv κ (.sl sz [] tight) (.slice none 0 0)
  | slE (sz : Nat) (tight : Bool) (a : Addr) : Rv κ (.sl sz [] tight) (.slice (some a) 0 0)
  | sl (sz : Nat) (l : List AVal) (tight : Bool) (b off cap : Nat) (vals : Nat → Value) (hcap : l.length ≤ cap) (ht : tight = true → cap = l.length)
      (hsz : ∀ x ∈ l, x.cells.length = sz)
      (hc : ∀ k, k < (flat l).length → off + k < κ.I b ∧ κ.w.cell? ⟨b, off + k, none⟩ = some (vals k))
      (hv : ∀ k (hk : k < (flat l).length), Rv κ (flat l)[k] (vals k)) : Rv κ (.sl sz l tight) (.slice (some ⟨b, off, none⟩) l.length cap)
  | own (t sz : Nat) (l : List AVal) (v : Value) (h : Rv κ (.sl sz l false) v) (ht : κ.τ t = some v) : Rv κ (.own t sz l) v
  | msl (o sz off len b cap n : Nat) (e : TypeId) (hb : κ.ρ o = some b) (hlen : len ≤ cap) (hs : κ.w.shape? b = some (e, n)) (hn : off + cap * sz ≤ n) :
      Rv κ (.msl o sz off len) (.slice (some ⟨b, off, none⟩) len cap)
  | ref (o off b : Nat) (hb : κ.ρ o = some b) : Rv κ (.ref o off) (.pointer (some ⟨b, off, none⟩))
  | ro (a : AVal) (b off : Nat) (vals : Nat → Value)
      (hc : ∀ k, k < a.cells.length → off + k < κ.I b ∧ κ.w.cell? ⟨b, off + k, none⟩ = some (vals k))
      (hv : ∀ k (hk : k < a.cells.length), Rv κ a.cells[k] (vals k)) : Rv κ (.ro a) (.pointer (some ⟨b, off, none⟩))
  | map (o b : Nat) (hb : κ.ρ o = some b) : Rv κ (.map o) (.map (some b))
  | fn (f : Fn) (first captured : List AVal) (vs ws : Array Value) (hn : vs.size = first.length) (h : ∀ i (hi : i < first.length), Rv κ first[i] (vs.getD i undef))
      (hm : ws.size = captured.length) (h' : ∀ i (hi : i < captured.length), Rv κ captured[i] (ws.getD i undef)) : Rv κ (.fn f first captured) (.func f vs ws)
  | iface (t : TypeId) (a : AVal) (v : Value) (h : Rv κ a v) : Rv κ (.iface t a) (.iface t v)

/-- A world may grow: what was there below the base is as it was; what is never written is as it was. -/
structure K.Le (κ κ' : K) : Prop where
  base : κ'.base = κ.base
  below : Below κ.base κ.w κ'.w
  shape : ∀ b s, κ.w.shape? b = some s → κ'.w.shape? b = some s
  rho : ∀ o b, κ.ρ o = some b → κ'.ρ o = some b
  tau : ∀ t v, κ.τ t = some v → κ'.τ t = some v
  imm : ∀ b, κ.I b ≤ κ'.I b
  cell : ∀ b off v, off < κ.I b → κ.w.cell? ⟨b, off, none⟩ = some v → κ'.w.cell? ⟨b, off, none⟩ = some v

theorem K.Le.refl (κ : K) : κ.Le κ := ⟨rfl, Below.refl _ _, fun _ _ h => h, fun _ _ h => h, fun _ _ h => h, fun _ => Nat.le_refl _, fun _ _ _ _ h => h⟩

theorem K.Le.trans {a b c : K} (h : a.Le b) (k : b.Le c) : a.Le c :=
  ⟨k.base.trans h.base, h.below.trans (by have := k.below; rw [h.base] at this; exact this), fun x s e => k.shape x s (h.shape x s e), fun o x e => k.rho o x (h.rho o x e),
    fun t v e => k.tau t v (h.tau t v e), fun x => Nat.le_trans (h.imm x) (k.imm x), fun x off v ho e => k.cell x off v (Nat.lt_of_lt_of_le ho (h.imm x)) (h.cell x off v ho e)⟩

theorem Rv.mono {κ κ' : K} (hle : κ.Le κ') {a : AVal} {v : Value} (h : Rv κ a v) : Rv κ' a v := by
  induction h with
  | any v => exact .any v
  | lit v => exact .lit v
  | agg cs vs hn _ ih => exact .agg cs vs hn ih
  | tup cs vs hn _ ih => exact .tup cs vs hn ih
  | slNil sz t => exact .slNil sz t
  | slE sz t a => exact .slE sz t a
  | sl sz l t b off cap vals hcap ht hsz hc _ ih =>
    exact .sl sz l t b off cap vals hcap ht hsz (fun k hk => ⟨Nat.lt_of_lt_of_le (hc k hk).1 (hle.imm b), hle.cell b _ _ (hc k hk).1 (hc k hk).2⟩) ih
  | own t sz l v _ ht ih => exact .own t sz l v ih (hle.tau _ _ ht)
  | msl o sz off len b cap n e hb hlen hs hn => exact .msl o sz off len b cap n e (hle.rho _ _ hb) hlen (hle.shape _ _ hs) hn
  | ref o off b hb => exact .ref o off b (hle.rho _ _ hb)
  | ro a b off vals hc _ ih => exact .ro a b off vals (fun k hk => ⟨Nat.lt_of_lt_of_le (hc k hk).1 (hle.imm b), hle.cell b _ _ (hc k hk).1 (hc k hk).2⟩) ih
  | map o b hb => exact .map o b (hle.rho _ _ hb)
  | fn f first captured vs ws hn _ hm _ ih ih' => exact .fn f first captured vs ws hn ih hm ih'
  | iface t a v _ ih => exact .iface t a v ih

theorem Rv.sl0 {κ : K} (sz : Nat) (t : Bool) (a : Option Addr) : Rv κ (.sl sz [] t) (.slice a 0 0) := by
  cases a with
  | none => exact .slNil sz t
  | some a => exact .slE sz t a

/-! ### Weaker words for one value -/

inductive Wk : AVal → AVal → Prop
  | refl (a : AVal) : Wk a a
  | any (a : AVal) : Wk a .any
  | nil (sz : Nat) (t : Bool) : Wk (.lit (.slice none 0 0)) (.sl sz [] t)
  | sl (sz : Nat) (l l' : List AVal) (t : Bool) (hn : l.length = l'.length) (hs : ∀ x ∈ l', x.cells.length = sz) (h : ∀ i (hi : i < l.length) (hi' : i < l'.length), Wk l[i] l'[i]) : Wk (.sl sz l t) (.sl sz l' false)
  | own (t sz : Nat) (l l' : List AVal) (hn : l.length = l'.length) (hs : ∀ x ∈ l', x.cells.length = sz) (h : ∀ i (hi : i < l.length) (hi' : i < l'.length), Wk l[i] l'[i]) : Wk (.own t sz l) (.sl sz l' false)
  | own1 (t sz : Nat) (l : List AVal) : Wk (.own t sz l) (.sl sz l false)
  | sl1 (sz : Nat) (l : List AVal) (t : Bool) : Wk (.sl sz l t) (.sl sz l false)
  | agg (l l' : List AVal) (hn : l.length = l'.length) (h : ∀ i (hi : i < l.length) (hi' : i < l'.length), Wk l[i] l'[i]) : Wk (.agg l) (.agg l')
  | tup (l l' : List AVal) (hn : l.length = l'.length) (h : ∀ i (hi : i < l.length) (hi' : i < l'.length), Wk l[i] l'[i]) : Wk (.tup l) (.tup l')
  | iface (t : TypeId) (a b : AVal) (h : Wk a b) : Wk (.iface t a) (.iface t b)

theorem Wk.cells {a b : AVal} (h : Wk a b) (hl : a.cells.length = b.cells.length) : ∀ i (hi : i < a.cells.length) (hi' : i < b.cells.length), Wk a.cells[i] b.cells[i] := by
  have one : ∀ x y : AVal, x.cells = [x] → y.cells = [y] → Wk x y → ∀ i (hi : i < x.cells.length) (hi' : i < y.cells.length), Wk x.cells[i] y.cells[i] := by
    intro x y hx hy hxy i hi hi'
    have h0 : i = 0 := by rw [hx] at hi; simpa using hi
    subst h0
    simp only [hx, hy, List.getElem_cons_zero]
    exact hxy
  cases h with
  | refl => intro i _ _; exact .refl _
  | any =>
    intro i hi hi'
    have h0 : (AVal.any.cells)[i] = .any := by
      have : i = 0 := by simpa [AVal.cells] using hi'
      subst this; rfl
    rw [h0]; exact .any _
  | nil sz t => exact one _ _ rfl rfl (.nil sz t)
  | sl sz l l' t hn hs h => exact one _ _ rfl rfl (.sl sz l l' t hn hs h)
  | own t sz l l' hn hs h => exact one _ _ rfl rfl (.own t sz l l' hn hs h)
  | own1 t sz l => exact one _ _ rfl rfl (.own1 t sz l)
  | sl1 sz l t => exact one _ _ rfl rfl (.sl1 sz l t)
  | agg l l' hn h => exact fun i hi hi' => h i hi hi'
  | tup l l' hn h => exact one _ _ rfl rfl (.tup l l' hn h)
  | iface t a b h => exact one _ _ rfl rfl (.iface t a b h)

/-- The flat list of a list of elements of one size. -/
theorem flat_nil : flat [] = [] := rfl
theorem flat_cons (x : AVal) (l : List AVal) : flat (x :: l) = x.cells ++ flat l := by simp [flat]
theorem flat_append (l l' : List AVal) : flat (l ++ l') = flat l ++ flat l' := by simp [flat]
theorem flat_length {sz : Nat} {l : List AVal} (h : ∀ x ∈ l, x.cells.length = sz) : (flat l).length = l.length * sz := by
  induction l with
  | nil => simp [flat]
  | cons x l ih =>
    rw [flat_cons, List.length_append, ih (fun y hy => h y (List.mem_cons_of_mem _ hy)), h x (List.mem_cons_self ..), List.length_cons, Nat.succ_mul]
    omega
theorem flat_get? {sz : Nat} : ∀ {l : List AVal}, (∀ x ∈ l, x.cells.length = sz) → ∀ (i j : Nat) (_ : j < sz) (x : AVal), l[i]? = some x → (flat l)[i * sz + j]? = x.cells[j]?
  | [], _, _, _, _, _, h => by simp at h
  | y :: l, hs, i, j, hj, x, h => by
    have hy : y.cells.length = sz := hs y (List.mem_cons_self ..)
    rw [flat_cons]
    cases i with
    | zero =>
      obtain rfl : y = x := by simpa using h
      rw [Nat.zero_mul, Nat.zero_add, List.getElem?_append_left (by omega)]
    | succ i =>
      have e : (i + 1) * sz + j = y.cells.length + (i * sz + j) := by rw [Nat.succ_mul, hy]; omega
      rw [e, List.getElem?_append_right (by omega), Nat.add_sub_cancel_left]
      exact flat_get? (fun z hz => hs z (List.mem_cons_of_mem _ hz)) i j hj x (by simpa using h)

theorem flat_div {sz : Nat} {l : List AVal} (hs : ∀ x ∈ l, x.cells.length = sz) (k : Nat) (hk : k < (flat l).length) : 0 < sz ∧ k / sz < l.length ∧ k % sz < sz := by
  rw [flat_length hs] at hk
  have h0 : 0 < sz := by rcases Nat.eq_zero_or_pos sz with h | h
                         · subst h; simp at hk
                         · exact h
  exact ⟨h0, by rw [Nat.div_lt_iff_lt_mul h0]; exact hk, Nat.mod_lt _ h0⟩

theorem flat_at {sz : Nat} {l : List AVal} (hs : ∀ x ∈ l, x.cells.length = sz) (k : Nat) (hk : k < (flat l).length) :
    ∃ (hi : k / sz < l.length) (hj : k % sz < (l[k / sz]).cells.length), (flat l)[k] = (l[k / sz]).cells[k % sz] := by
  obtain ⟨h0, hi, hj⟩ := flat_div hs k hk
  have hj' : k % sz < (l[k / sz]).cells.length := by rw [hs _ (List.getElem_mem hi)]; exact hj
  refine ⟨hi, hj', ?_⟩
  have e := flat_get? hs (k / sz) (k % sz) hj _ (List.getElem?_eq_getElem hi)
  rw [show k / sz * sz + k % sz = k by rw [Nat.mul_comm]; exact Nat.div_add_mod k sz] at e
  rw [List.getElem?_eq_getElem hk, List.getElem?_eq_getElem hj'] at e
  exact Option.some.inj e

theorem flat_wk {sz : Nat} {l l' : List AVal} (hs : ∀ x ∈ l, x.cells.length = sz) (hs' : ∀ x ∈ l', x.cells.length = sz) (hn : l.length = l'.length)
    (h : ∀ i (hi : i < l.length) (hi' : i < l'.length), Wk l[i] l'[i]) : ∀ k (hk : k < (flat l).length) (hk' : k < (flat l').length), Wk (flat l)[k] (flat l')[k] := by
  intro k hk hk'
  obtain ⟨hi, hj, e⟩ := flat_at hs k hk
  obtain ⟨hi', hj', e'⟩ := flat_at hs' k hk'
  rw [e, e']
  exact (h _ hi hi').cells (by rw [hs _ (List.getElem_mem hi), hs' _ (List.getElem_mem hi')]) _ hj hj'

/-- What a value says, a weaker word says, too. -/
theorem Rv.wk {κ : K} {a : AVal} {v : Value} (h : Rv κ a v) : ∀ {b : AVal}, Wk a b → Rv κ b v := by
  induction h with
  | any v =>
    intro b hw
    cases hw with
    | refl => exact .any v
    | any => exact .any v
  | lit v =>
    intro b hw
    cases hw with
    | refl => exact .lit v
    | any => exact .any v
    | nil sz t => exact .slNil sz t
  | agg cs vs hn h0 ih =>
    intro b hw
    cases hw with
    | refl => exact .agg cs vs hn h0
    | any => exact .any _
    | agg _ l' hl h' => exact .agg l' vs (hn.trans hl) fun i hi => ih i (by omega) (h' i (by omega) hi)
  | tup cs vs hn h0 ih =>
    intro b hw
    cases hw with
    | refl => exact .tup cs vs hn h0
    | any => exact .any _
    | tup _ l' hl h' => exact .tup l' vs (hn.trans hl) fun i hi => ih i (by omega) (h' i (by omega) hi)
  | slNil sz t =>
    intro b hw
    cases hw with
    | refl => exact .slNil sz t
    | any => exact .any _
    | sl _ _ l' _ hl _ _ =>
      obtain rfl : l' = [] := List.eq_nil_of_length_eq_zero hl.symm
      exact .slNil sz _
    | sl1 => exact .slNil sz _
  | slE sz t a =>
    intro b hw
    cases hw with
    | refl => exact .slE sz t a
    | any => exact .any _
    | sl _ _ l' _ hl _ _ =>
      obtain rfl : l' = [] := List.eq_nil_of_length_eq_zero hl.symm
      exact .slE sz _ a
    | sl1 => exact .slE sz _ a
  | sl sz l t b off cap vals hcap ht hsz hc h0 ih =>
    intro b' hw
    cases hw with
    | refl => exact .sl sz l t b off cap vals hcap ht hsz hc h0
    | any => exact .any _
    | sl _ _ l' _ hl hs' h' =>
      have hlen : (flat l).length = (flat l').length := by rw [flat_length hsz, flat_length hs', hl]
      have := Rv.sl (κ := κ) sz l' false b off cap vals (by omega) (by simp) hs' (fun k hk => hc k (by omega)) (fun k hk => ih k (by omega) (flat_wk hsz hs' hl h' k (by omega) hk))
      rw [← hl] at this
      exact this
    | sl1 => exact .sl sz l false b off cap vals hcap (by simp) hsz hc h0
  | own t sz l v h0 ht ih =>
    intro b hw
    cases hw with
    | refl => exact .own t sz l v h0 ht
    | any => exact .any _
    | own _ _ _ l' hl hs' h' => exact ih (.sl sz l l' false hl hs' h')
    | own1 => exact h0
  | msl o sz off len b cap n e hb hlen hs hn =>
    intro b' hw
    cases hw with
    | refl => exact .msl o sz off len b cap n e hb hlen hs hn
    | any => exact .any _
  | ref o off b hb =>
    intro b' hw
    cases hw with
    | refl => exact .ref o off b hb
    | any => exact .any _
  | ro a b off vals hc h0 ih =>
    intro b' hw
    cases hw with
    | refl => exact .ro a b off vals hc h0
    | any => exact .any _
  | map o b hb =>
    intro b' hw
    cases hw with
    | refl => exact .map o b hb
    | any => exact .any _
  | fn f first captured vs ws hn h0 hm h1 ih ih' =>
    intro b' hw
    cases hw with
    | refl => exact .fn f first captured vs ws hn h0 hm h1
    | any => exact .any _
  | iface t a v h0 ih =>
    intro b' hw
    cases hw with
    | refl => exact .iface t a v h0
    | any => exact .any _
    | iface _ _ b h' => exact .iface t b v (ih h')

end Go.Ab
