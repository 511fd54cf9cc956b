/-
  WHAT COMES IN, READ: a value of data (numbers, bools, strings, structs, arrays, slices of these, to any depth) that the row's reading met is described by an abstract value; a call's contract gives the row's. Own work (an AI agent).
-/
import Derived.Test.YtdedpamcpgbgmaaAbWalk
import Derived.ProofKit
import Derived.OpenShut
import Derived.ShutString
import Derived.ChangeOld
import Derived.Below
set_option linter.all false
namespace Go.Ab
open Go.RowKit (Below)
open Go.ChangeShapes Go.WideShapes

/-- the shape of a type of data -/
inductive Sh where
  | int (k : IntKind)
  | bool
  | str
  | sl (g : Bool) (e : Sh)
  | unit
  | pair (a b : Sh)

def Sh.size : Sh → Nat
  | .unit => 0
  | .pair a b => a.size + b.size
  | _ => 1

/-- cells of a shape -/
def Sh.ok : Sh → List AVal → Prop
  | .int k, cs => ∃ n, cs = [.lit (.int k n)] ∧ (Lit.int k n).wf = true
  | .bool, cs => ∃ b, cs = [.lit (.bool b)]
  | .str, cs => ∃ s, cs = [.lit (.string s)] ∧ s.size ≤ maxLen
  | .sl g e, cs => ∃ l : List AVal, cs = [.sl e.size l false] ∧ l.length ≤ maxLen ∧ ∀ x ∈ l, ∃ c, e.ok c ∧ (if g then x = .agg c else c = [x])
  | .unit, cs => cs = []
  | .pair a b, cs => ∃ c d, cs = c ++ d ∧ a.ok c ∧ b.ok d

def Sh.okv (s : Sh) (g : Bool) (a : AVal) : Prop := ∃ c, s.ok c ∧ (if g then a = .agg c else c = [a])

def fieldsSh (sh : TypeId → Option Sh) (P : Program) : List Field → Nat → Option Sh
  | [], _ => some .unit
  | f :: fs, off => if f.offset = off then match sh f.type with
      | some s => if s.size = P.cellsOf f.type then (fieldsSh sh P fs (off + s.size)).map (.pair s) else none
      | none => none
    else none

def repSh (s : Sh) : Nat → Sh
  | 0 => .unit
  | n + 1 => .pair s (repSh s n)

def shapeOf (P : Program) : Nat → TypeId → Option Sh
  | 0, _ => none
  | d + 1, t => match P.underlying t with
    | some .bool => some .bool
    | some (.int k) => some (.int k)
    | some .string => some .str
    | some (.slice e) => match shapeOf P d e with
      | some s => if s.size = P.cellsOf e ∧ 0 < s.size ∧ (aggB P e = false → s.size = 1) then some (.sl (aggB P e) s) else none
      | none => none
    | some (.struct fs) => match fieldsSh (shapeOf P d) P fs.toList 0 with
      | some s => if s.size = P.cellsOf t then some s else none
      | none => none
    | some (.array n e) => match shapeOf P d e with
      | some s => if s.size = P.cellsOf e ∧ P.cellsOf t = n * s.size then some (repSh s n) else none
      | none => none
    | _ => none

theorem Sh.ok_length : ∀ {s : Sh} {cs : List AVal}, s.ok cs → cs.length = s.size
  | .int k, cs, h => by obtain ⟨n, rfl, _⟩ := h; rfl
  | .bool, cs, h => by obtain ⟨n, rfl⟩ := h; rfl
  | .str, cs, h => by obtain ⟨n, rfl, _⟩ := h; rfl
  | .sl g e, cs, h => by obtain ⟨n, rfl, _⟩ := h; rfl
  | .unit, cs, h => by obtain rfl : cs = [] := h; rfl
  | .pair a b, cs, h => by
    obtain ⟨c, d, rfl, h1, h2⟩ := h
    simp [Sh.size, Sh.ok_length h1, Sh.ok_length h2]

theorem repSh_size (s : Sh) (n : Nat) : (repSh s n).size = n * s.size := by
  induction n with
  | zero => simp [repSh, Sh.size]
  | succ n ih => simp [repSh, Sh.size, ih, Nat.succ_mul, Nat.add_comm]

theorem pickList {p : Nat → AVal → Prop} : ∀ (n : Nat), (∀ i, i < n → ∃ x, p i x) → ∃ l : List AVal, l.length = n ∧ ∀ i (hi : i < l.length), p i l[i]
  | 0, _ => ⟨[], rfl, fun i hi => by simp at hi⟩
  | n + 1, h => by
    obtain ⟨l, hl, hp⟩ := pickList n fun i hi => h i (by omega)
    obtain ⟨x, hx⟩ := h n (by omega)
    refine ⟨l ++ [x], by simp [hl], fun i hi => ?_⟩
    by_cases hlt : i < l.length
    · rw [List.getElem_append_left hlt]; exact hp i hlt
    · have : i = n := by simp at hi; omega
      subst this
      rw [List.getElem_append_right (by omega)]
      simpa [hl] using hx

section
variable {H : Type} {enc : TypeId × Value → H} {P : Program} {κ : K} {held : Bool}

theorem cells?_at {w : World} {base : Nat} {a : Addr} {n : Nat} {cs : List Value} (h : w.cells? base a n = some cs) : cs.length = n ∧ ∀ i (hi : i < cs.length), w.cell? (a.add i) = some cs[i] := by
  unfold World.cells? at h
  split at h
  · have hl : cs.length = n := by
      have := mapM_len h
      simpa using this
    refine ⟨hl, fun i hi => ?_⟩
    have := mapM_at h i (by simpa [hl] using hi) hi
    simpa using this
  · cases h
where
  mapM_len {α β : Type} {f : α → Option β} : ∀ {l : List α} {r : List β}, l.mapM f = some r → r.length = l.length
    | [], r, h => by simp at h; subst h; rfl
    | x :: l, r, h => by
      rw [List.mapM_cons] at h
      obtain ⟨y, _, h2⟩ := Option.bind_eq_some_iff.1 h
      obtain ⟨ys, h3, h4⟩ := Option.bind_eq_some_iff.1 h2
      obtain rfl := Option.some.inj h4
      simp [mapM_len h3]
  mapM_at {α β : Type} {f : α → Option β} : ∀ {l : List α} {r : List β}, l.mapM f = some r → ∀ i (hi : i < l.length) (hj : i < r.length), f l[i] = some r[i]
    | [], r, h, i, hi, _ => by simp at hi
    | x :: l, r, h, i, hi, hj => by
      rw [List.mapM_cons] at h
      obtain ⟨y, h1, h2⟩ := Option.bind_eq_some_iff.1 h
      obtain ⟨ys, h3, h4⟩ := Option.bind_eq_some_iff.1 h2
      obtain rfl := Option.some.inj h4
      cases i with
      | zero => simpa using h1
      | succ i => simpa using mapM_at h3 i (by simpa using hi) (by simpa using hj)

def Reads (enc : TypeId × Value → H) (P : Program) (κ : K) (held : Bool) (d : Nat) : Prop :=
  ∀ (t : TypeId) (s : Sh) (fuel : Nat) (cs : List Value) (x : DataW H × List MemPlace), shapeOf P d t = some s → DataW.trod enc P κ.w 0 (fun _ => true) held fuel t cs = some x → ∃ av, s.ok av ∧ RvC κ av cs

theorem read_fields {d : Nat} (ih : Reads enc P κ held d) {n : Nat} {cs : List Value} : ∀ (fs : List Field) (off : Nat) (s : Sh), fieldsSh (shapeOf P d) P fs off = some s → off + s.size ≤ cs.length →
    (∀ (i : Nat) (f : Field), fs[i]? = some f → ∃ y, DataW.trod enc P κ.w 0 (fun _ => true) held n f.type ((cs.drop f.offset).take (P.cellsOf f.type)) = some y) → ∃ av, s.ok av ∧ RvC κ av ((cs.drop off).take s.size)
  | [], off, s, hs, _, _ => by
    obtain rfl := Option.some.inj hs
    exact ⟨[], rfl, by simp [Sh.size], fun i hi => by simp at hi⟩
  | f :: fs, off, s, hs, hle, hf => by
    unfold fieldsSh at hs
    split at hs
    · rename_i ho
      split at hs
      · rename_i s1 h1
        split at hs
        · rename_i hsz
          obtain ⟨s2, h2, rfl⟩ := Option.map_eq_some_iff.1 hs
          simp only [Sh.size] at hle ⊢
          obtain ⟨y, hy⟩ := hf 0 f rfl
          obtain ⟨av, ha1, ha2⟩ := ih f.type s1 n _ y h1 hy
          obtain ⟨bs, hb1, hb2⟩ := read_fields ih fs (off + s1.size) s2 h2 (by omega) fun i g hg => hf (i + 1) g (by simpa using hg)
          refine ⟨av ++ bs, ⟨av, bs, rfl, ha1, hb1⟩, ?_⟩
          have e : (cs.drop off).take (s1.size + s2.size) = (cs.drop f.offset).take (P.cellsOf f.type) ++ (cs.drop (off + s1.size)).take s2.size := by
            rw [List.take_add, ho, ← hsz, List.drop_drop]
          rw [e]
          exact ha2.append hb2
        · cases hs
      · cases hs
    · cases hs

theorem read_rep {s : Sh} {cs : List Value} : ∀ (n off : Nat), (∀ i, i < n → ∃ av, s.ok av ∧ RvC κ av ((cs.drop (off + i * s.size)).take s.size)) → ∃ av, (repSh s n).ok av ∧ RvC κ av ((cs.drop off).take (n * s.size))
  | 0, off, _ => ⟨[], rfl, by simp, fun i hi => by simp at hi⟩
  | n + 1, off, h => by
    obtain ⟨av, ha1, ha2⟩ := h 0 (by omega)
    obtain ⟨bs, hb1, hb2⟩ := read_rep n (off + s.size) fun i hi => by
      have := h (i + 1) (by omega)
      rwa [show off + (i + 1) * s.size = off + s.size + i * s.size by rw [Nat.succ_mul]; omega] at this
    refine ⟨av ++ bs, ⟨av, bs, rfl, ha1, hb1⟩, ?_⟩
    have e : (cs.drop off).take ((n + 1) * s.size) = (cs.drop (off + 0 * s.size)).take s.size ++ (cs.drop (off + s.size)).take (n * s.size) := by
      rw [show (n + 1) * s.size = s.size + n * s.size by rw [Nat.succ_mul]; omega, List.take_add, List.drop_drop]; simp
    rw [e]
    exact ha2.append hb2

theorem Sh.ok_one {d : Nat} {t : TypeId} {s : Sh} {av : List AVal} (hs : shapeOf P d t = some s) (hg : aggB P t = false) (h : s.ok av) : ∃ x, av = [x] ∧ x.cells = [x] := by
  cases d with
  | zero => cases hs
  | succ d =>
    unfold shapeOf at hs
    split at hs
    · obtain rfl := Option.some.inj hs; obtain ⟨b, rfl⟩ := h; exact ⟨_, rfl, rfl⟩
    · obtain rfl := Option.some.inj hs; obtain ⟨b, rfl, _⟩ := h; exact ⟨_, rfl, rfl⟩
    · obtain rfl := Option.some.inj hs; obtain ⟨b, rfl, _⟩ := h; exact ⟨_, rfl, rfl⟩
    · split at hs
      · split at hs
        · obtain rfl := Option.some.inj hs; obtain ⟨b, rfl, _⟩ := h; exact ⟨_, rfl, rfl⟩
        · cases hs
      · cases hs
    · rename_i fs ht; simp [aggB, ht] at hg
    · rename_i fs ht; simp [aggB, ht] at hg
    · cases hs

theorem reads (hI : ∀ b off v, κ.w.cell? ⟨b, off, none⟩ = some v → off < κ.I b) : ∀ d, Reads enc P κ held d
  | 0 => fun t s fuel cs x hs _ => by cases hs
  | d + 1 => fun t s fuel cs x hs hx => by
    have ih := reads hI d
    have hs0 := hs
    unfold shapeOf at hs
    split at hs
    · rename_i ht
      obtain rfl := Option.some.inj hs
      obtain ⟨b, rfl, _⟩ := DataW.trod_bool ht hx
      exact ⟨_, ⟨b, rfl⟩, .one (.lit _)⟩
    · rename_i k ht
      obtain rfl := Option.some.inj hs
      obtain ⟨b, rfl, _, hw⟩ := DataW.trod_int ht hx
      exact ⟨_, ⟨b, rfl, hw⟩, .one (.lit _)⟩
    · rename_i ht
      obtain rfl := Option.some.inj hs
      obtain ⟨b, rfl, _, hw⟩ := DataW.trod_string ht hx
      exact ⟨_, ⟨b, rfl, hw⟩, .one (.lit _)⟩
    · rename_i e ht
      split at hs
      · rename_i s1 h1
        split at hs
        · rename_i hc
          obtain ⟨hsz, hpos, hone⟩ := hc
          obtain rfl := Option.some.inj hs
          rcases DataW.trod_slice ht hx with ⟨rfl, _⟩ | ⟨a, len, cap, elems, rest, n, _, rfl, _, _, hl, hm, hlen, hel, hsp, _⟩
          · exact ⟨_, ⟨[], rfl, by simp, by simp⟩, .one (.slNil _ _)⟩
          · have each : ∀ i, i < cap → ∃ cs' y, κ.w.cells? 0 (a.add (i * P.cellsOf e)) (P.cellsOf e) = some cs' ∧ DataW.trod enc P κ.w 0 (fun _ => true) held n e cs' = some y := by
              intro i hi
              by_cases hil : i < len
              · have := hel i hil
                rw [List.getElem?_eq_getElem (by omega)] at this
                obtain ⟨cs', q1, q2⟩ := Option.bind_eq_some_iff.1 this
                exact ⟨cs', _, q1, q2⟩
              · obtain ⟨hr, hj⟩ := hsp rfl
                have := hj (i - len) (by omega)
                rw [show len + (i - len) = i by omega, List.getElem?_eq_getElem (by omega)] at this
                obtain ⟨cs', q1, q2⟩ := Option.bind_eq_some_iff.1 this
                exact ⟨cs', _, q1, q2⟩
            by_cases hcap : cap = 0
            · subst hcap
              obtain rfl : len = 0 := by omega
              exact ⟨_, ⟨[], rfl, by simp, by simp⟩, .one (.slE _ _ a)⟩
            · have hspot : a.spot = none := by
                obtain ⟨cs', y, q1, _⟩ := each 0 (by omega)
                obtain ⟨r1, r2⟩ := cells?_at q1
                have := r2 0 (by omega)
                rw [Nat.zero_mul] at this
                exact World.cell?_spot (by simpa [Addr.add] using this)
              obtain ⟨b, off, spot⟩ := a
              subst hspot
              have each' : ∀ i, i < len → ∃ x : AVal, x.cells.length = s1.size ∧ (∃ c, s1.ok c ∧ (if aggB P e then x = .agg c else c = [x])) ∧
                  ∀ j (hj : j < x.cells.length), ∃ v, κ.w.cell? ⟨b, off + (i * s1.size + j), none⟩ = some v ∧ Rv κ x.cells[j] v := by
                intro i hi
                obtain ⟨cs', y, q1, q2⟩ := each i (by omega)
                obtain ⟨r1, r2⟩ := cells?_at q1
                obtain ⟨av, ha, hr⟩ := ih e s1 n cs' y h1 q2
                have hal := Sh.ok_length ha
                obtain ⟨x, hxc, hxo⟩ : ∃ x : AVal, x.cells = av ∧ (∃ c, s1.ok c ∧ (if aggB P e then x = .agg c else c = [x])) := by
                  cases hg : aggB P e with
                  | true => exact ⟨.agg av, rfl, av, ha, by simp⟩
                  | false =>
                    obtain ⟨x, rfl, hx⟩ := Sh.ok_one h1 hg ha
                    exact ⟨x, hx, [x], ha, by simp⟩
                refine ⟨x, by rw [hxc]; exact hal, hxo, fun j hj => ?_⟩
                have hj' : j < cs'.length := by rw [← hr.1, ← hxc]; exact hj
                refine ⟨cs'[j], ?_, ?_⟩
                · have := r2 j hj'
                  rw [← hsz] at this
                  rw [← this]
                  simp only [Addr.add]
                  congr 1
                  by_cases h0 : i * s1.size = 0
                  · rw [if_pos h0, h0]
                    by_cases hj0 : j = 0
                    · simp [hj0]
                    · simp [hj0]
                  · rw [if_neg h0]
                    by_cases hj0 : j = 0
                    · simp [hj0]
                    · simp [hj0]; omega
                · have := hr.2 j (by rw [← hxc]; exact hj) hj'
                  simp only [hxc]
                  exact this
              obtain ⟨l, hll, hlp⟩ := pickList len each'
              have hszl : ∀ x ∈ l, x.cells.length = s1.size := fun x hx => by
                obtain ⟨i, hi, rfl⟩ := List.getElem_of_mem hx
                exact (hlp i hi).1
              refine ⟨[.sl s1.size l false], ⟨l, rfl, by omega, fun x hx => ?_⟩, .one ?_⟩
              · obtain ⟨i, hi, rfl⟩ := List.getElem_of_mem hx
                exact (hlp i hi).2.1
              · have at_ : ∀ k (hk : k < (flat l).length), ∃ v, κ.w.cell? ⟨b, off + k, none⟩ = some v ∧ Rv κ (flat l)[k] v := by
                  intro k hk
                  obtain ⟨hi, hj, e1⟩ := flat_at hszl k hk
                  obtain ⟨v, hv1, hv2⟩ := (hlp _ hi).2.2 _ hj
                  rw [show k / s1.size * s1.size + k % s1.size = k by rw [Nat.mul_comm]; exact Nat.div_add_mod k s1.size] at hv1
                  exact ⟨v, hv1, by rw [e1]; exact hv2⟩
                have := Rv.sl (κ := κ) s1.size l false b off cap (fun k => (κ.w.cell? ⟨b, off + k, none⟩).getD undef) (by omega) (by simp) hszl
                  (fun k hk => by obtain ⟨v, hv1, _⟩ := at_ k hk; exact ⟨hI _ _ _ hv1, by simp [hv1]⟩)
                  (fun k hk => by obtain ⟨v, hv1, hv2⟩ := at_ k hk; simpa [hv1] using hv2)
                rwa [hll] at this
        · cases hs
      · cases hs
    · rename_i fs ht
      split at hs
      · rename_i s1 h1
        split at hs
        · rename_i hc
          obtain rfl := Option.some.inj hs
          obtain ⟨xs, n, _, _, hcl, hxl, hf⟩ := DataW.trod_struct ht hx
          obtain ⟨av, ha, hr⟩ := read_fields (cs := cs) (n := n) ih fs.toList 0 s1 h1 (by omega) fun i f hfi => by
            have hfi' : fs[i]? = some f := by simpa using hfi
            have := hf i f hfi'
            have hlt : i < xs.length := by rw [hxl]; exact (Array.getElem?_eq_some_iff.1 hfi').1
            rw [List.getElem?_eq_getElem hlt] at this
            exact ⟨_, this⟩
          refine ⟨av, ha, ?_⟩
          rw [List.drop_zero, List.take_of_length_le (by omega)] at hr
          exact hr
        · cases hs
      · cases hs
    · rename_i n e ht
      split at hs
      · rename_i s1 h1
        split at hs
        · rename_i hc
          obtain rfl := Option.some.inj hs
          obtain ⟨xs, m, _, _, hcl, hxl, hf⟩ := DataW.trod_array ht hx
          obtain ⟨av, ha, hr⟩ := read_rep (κ := κ) (s := s1) (cs := cs) n 0 fun i hi => by
            have := hf i hi
            rw [List.getElem?_eq_getElem (by omega), ← hc.1] at this
            rw [Nat.zero_add]
            exact ih e s1 m _ _ h1 this
          refine ⟨av, ha, ?_⟩
          rw [List.drop_zero, List.take_of_length_le (by rw [hcl, hc.2]; omega)] at hr
          exact hr
        · cases hs
      · cases hs
    · cases hs

/-- an argument -/
theorem read_arg (hI : ∀ b off v, κ.w.cell? ⟨b, off, none⟩ = some v → off < κ.I b) {d base : Nat} {r : Reach} {W : World} {t : TypeId} {s : Sh} {g : Bool} {v : Value} {x : DataW H} {ps : List MemPlace} (hs : shapeOf P d t = some s) (hg : aggB P t = g)
    (hval : Value.okWide P W r base t v) (h : DataW.Trod enc P κ.w 0 (fun _ => true) held t v x ps) : ∃ a, Rv κ a v ∧ s.okv g a := by
  subst hg
  obtain ⟨fuel, hf⟩ := h
  obtain ⟨av, ha, hr⟩ := reads hI d t s fuel _ _ hs hf
  cases hg : aggB P t with
  | true =>
    have : ∃ cs, v = .agg cs := by
      unfold Value.okWide at hval
      unfold aggB at hg
      split at hval <;> simp_all
      · obtain ⟨cs, rfl, _⟩ := hval; exact ⟨cs, rfl⟩
      · obtain ⟨cs, rfl, _⟩ := hval; exact ⟨cs, rfl⟩
    obtain ⟨cs, rfl⟩ := this
    refine ⟨.agg av, .agg av cs ?_ fun i hi => ?_, av, ha, by simp⟩
    · have := hr.1; simpa [Value.cells] using this.symm
    · have hl : av.length = cs.size := by have := hr.1; simpa [Value.cells] using this
      have := hr.2 i hi (by simp [Value.cells]; omega)
      simpa [Value.cells, show i < cs.size by omega] using this
  | false =>
    obtain ⟨x, rfl, hx⟩ := Sh.ok_one hs hg ha
    have hv : v.cells = #[v] := by
      unfold Value.okWide at hval
      unfold aggB at hg
      split at hval
      · simp_all
      · simp_all
      · unfold Cell.okWide at hval
        split at hval <;> first | rfl | skip
        unfold Cell.ok at hval
        split at hval <;> first | rfl | exact hval.elim
    refine ⟨x, ?_, [x], ha, by simp⟩
    have := hr.2 0 (by simp) (by rw [hv]; simp)
    simpa [hv] using this

/-- at the beginning nothing is written -/
def kOf (W : World) : K := { w := W, base := W.heap.size, ρ := fun _ => none, τ := fun _ => none, I := fun b => match W.heap[b]? with | some (.cells c _ _) => c.size | _ => 0 }

def s0 : Store := { heap := fun _ => none, tok := fun _ => none }

theorem kOf_imm (W : World) : ∀ b off v, (kOf W).w.cell? ⟨b, off, none⟩ = some v → off < (kOf W).I b := by
  intro b off v h
  simp only [kOf, World.cell?] at *
  cases hb : W.heap[b]? with
  | none => simp [hb] at h
  | some o =>
    rw [hb] at h
    cases o <;> simp_all
    have := (Array.getElem?_eq_some_iff.1 h).1
    omega

theorem kOf_inv (W : World) : Inv (kOf W) s0 where
  base := Nat.le_refl _
  heap o x e := by cases e
  inj o o' x x' b e := by cases e
  tok t sz e := by cases e
  tokinj t t' sz sz' v v' b e := by cases e
  tokobj t sz v b o x e := by cases e
  frO := ⟨0, fun _ _ => rfl⟩
  frT := ⟨0, fun _ _ => rfl⟩
  frI b hb := by
    have hb' : W.heap.size ≤ b := hb
    simp [kOf, Array.getElem?_eq_none hb']

/-- A law's contract, av the row's step wants it. -/
theorem calls_of_law {f : FuncId} {av : List AVal} {vs : Array Value} {W : World} (h : ACalls P f av s0 fun v _ => v = vBool true) (hn : vs.size = av.length) (hr : ∀ i (hi : i < av.length), Rv (kOf W) av[i] (vs.getD i undef)) :
    Calls P f vs W (fun e w' => e = .returned (.bool true) ∧ Below W.heap.size W w') := by
  have := h (kOf W) vs (kOf_inv W) hn hr
  refine this.mono fun e w' ⟨cv, he, κ', a, σ', hw, hle, _, hv, ha⟩ => ?_
  subst ha
  obtain rfl := hv.litInv
  subst hw
  exact ⟨he, hle.below⟩

end

/-- a slice of numbers -/
theorem lits_of {k : IntKind} : ∀ {l : List AVal}, (∀ x ∈ l, ∃ c, (Sh.int k).ok c ∧ (if false = true then x = .agg c else c = [x])) → ∃ zs : List Int, l = zs.map fun n => .lit (.int k n)
  | [], _ => ⟨[], rfl⟩
  | x :: l, h => by
    obtain ⟨zs, rfl⟩ := lits_of fun y hy => h y (List.mem_cons_of_mem _ hy)
    obtain ⟨c, ⟨n, rfl, _⟩, e⟩ := h x (List.mem_cons_self ..)
    simp only [Bool.false_eq_true, if_false, List.cons.injEq, and_true] at e
    subst e
    exact ⟨n :: zs, rfl⟩

/-- a slice of whatever is read one by one -/
theorem list_of {α : Type} (f : α → AVal) : ∀ {l : List AVal}, (∀ x ∈ l, ∃ a, x = f a) → ∃ zs : List α, l = zs.map f
  | [], _ => ⟨[], rfl⟩
  | x :: l, h => by
    obtain ⟨zs, rfl⟩ := list_of f fun y hy => h y (List.mem_cons_of_mem _ hy)
    obtain ⟨a, rfl⟩ := h x (List.mem_cons_self ..)
    exact ⟨a :: zs, rfl⟩

end Go.Ab
