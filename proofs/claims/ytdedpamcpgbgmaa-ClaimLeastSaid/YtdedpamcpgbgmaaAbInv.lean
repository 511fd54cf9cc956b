/-
  THE STORE: what is known of the memory that is still written: objects (rows of cells, maps, plain blocks) and the tokens of slices that are still appended to. 'Inv' ties a store to a world; each law here is one step of a world. Own work (an AI agent).
-/
import Derived.Test.YtdedpamcpgbgmaaAbCore
set_option linter.all false
namespace Go.Ab
open Go.RowKit (Below)

inductive AObj where
  | cells (cs : List AVal)
  | map (kvs : List (Value × AVal))
  | raw (o : Obj)
  | mapIter (m : Option Nat) (since : Nat) (seen : Array Nat) (stepped : Nat)

structure Store where
  heap : Nat → Option AObj
  tok : Nat → Option (TypeId × Nat)

/-- Fewer things are known. -/
structure Store.Sub (σ σ' : Store) : Prop where
  heap : ∀ o x, σ.heap o = some x → σ'.heap o = some x
  tok : ∀ t n, σ.tok t = some n → σ'.tok t = some n

theorem Store.Sub.refl (σ : Store) : σ.Sub σ := ⟨fun _ _ h => h, fun _ _ h => h⟩
theorem Store.Sub.trans {a b c : Store} (h : a.Sub b) (k : b.Sub c) : a.Sub c := ⟨fun o x e => k.heap o x (h.heap o x e), fun t n e => k.tok t n (h.tok t n e)⟩

def Store.set (σ : Store) (o : Nat) (x : AObj) : Store := { σ with heap := fun i => if i = o then some x else σ.heap i }
def Store.del (σ : Store) (o : Nat) : Store := { σ with heap := fun i => if i = o then none else σ.heap i }
def Store.setTok (σ : Store) (t : Nat) (n : TypeId × Nat) : Store := { σ with tok := fun i => if i = t then some n else σ.tok i }
def Store.delTok (σ : Store) (t : Nat) : Store := { σ with tok := fun i => if i = t then none else σ.tok i }

def ORel (κ : K) (x : AObj) (b : Nat) : Prop :=
  match x with
  | .cells cs => ∃ c e, κ.w.heap[b]? = some (.cells c e (0, 0)) ∧ cs.length ≤ c.size ∧ ∀ i (hi : i < cs.length), Rv κ cs[i] (c.getD i undef)
  | .map kvs => ∃ es clock, κ.w.heap[b]? = some (.map es clock) ∧ es.size = kvs.length ∧ (∀ e ∈ es, e.born < clock) ∧ (es.toList.map (·.born)).Pairwise (· ≠ ·) ∧
      ∀ i (hi : i < kvs.length) (hj : i < es.size), es[i].key = kvs[i].1 ∧ Rv κ kvs[i].2 es[i].val
  | .raw o => κ.w.heap[b]? = some o ∧ (∀ c e f, o ≠ .cells c e f)
  | .mapIter m since seen stepped => ∃ mb, (match m with | none => mb = none | some o => ∃ c, κ.ρ o = some c ∧ mb = some c) ∧ κ.w.heap[b]? = some (.mapIter mb since seen stepped)

def tokBlock : Value → Option Nat
  | .slice (some a) _ _ => some a.block
  | _ => none

/-- The slice of a token that lives: nil, or the whole used part of a block of its own. -/
def TokOk (κ : K) (p : TypeId × Nat) (v : Value) : Prop :=
  ∃ n xs, κ.w.ownsRow κ.base p.1 p.2 v n xs ∧ ∀ b, tokBlock v = some b → κ.I b = n * p.2

structure Inv (κ : K) (σ : Store) : Prop where
  base : κ.base ≤ κ.w.heap.size
  heap : ∀ o x, σ.heap o = some x → ∃ b, κ.ρ o = some b ∧ κ.base ≤ b ∧ κ.I b = 0 ∧ ORel κ x b
  inj : ∀ o o' x x' b, σ.heap o = some x → σ.heap o' = some x' → κ.ρ o = some b → κ.ρ o' = some b → o = o'
  tok : ∀ t sz, σ.tok t = some sz → ∃ v, κ.τ t = some v ∧ TokOk κ sz v
  tokinj : ∀ (t t' : Nat) sz sz' v v' b, σ.tok t = some sz → σ.tok t' = some sz' → κ.τ t = some v → κ.τ t' = some v' → tokBlock v = some b → tokBlock v' = some b → t = t'
  tokobj : ∀ t sz v b o x, σ.tok t = some sz → κ.τ t = some v → tokBlock v = some b → σ.heap o = some x → κ.ρ o ≠ some b
  frO : ∃ N, ∀ o, N ≤ o → κ.ρ o = none
  frT : ∃ N, ∀ t, N ≤ t → κ.τ t = none
  frI : ∀ b, κ.w.heap.size ≤ b → κ.I b = 0

theorem ORel.lt {κ : K} {x : AObj} {b : Nat} (h : ORel κ x b) : b < κ.w.heap.size := by
  have key : ∀ o : Obj, κ.w.heap[b]? = some o → b < κ.w.heap.size := fun o h => (Array.getElem?_eq_some_iff.1 h).1
  cases x with
  | cells cs => obtain ⟨c, e, h, _⟩ := h; exact key _ h
  | map kvs => obtain ⟨es, cl, h, _⟩ := h; exact key _ h
  | raw o => exact key _ h.1
  | mapIter m s se st => obtain ⟨mb, _, h⟩ := h; exact key _ h

theorem ORel.mono {κ κ' : K} (hle : κ.Le κ') {x : AObj} {b : Nat} (hb : κ'.w.heap[b]? = κ.w.heap[b]?) (h : ORel κ x b) : ORel κ' x b := by
  cases x with
  | cells cs => obtain ⟨c, e, h, hl, hc⟩ := h; exact ⟨c, e, by rw [hb]; exact h, hl, fun i hi => (hc i hi).mono hle⟩
  | map kvs => obtain ⟨es, cl, h, hl, h1, h2, hc⟩ := h; exact ⟨es, cl, by rw [hb]; exact h, hl, h1, h2, fun i hi hj => ⟨(hc i hi hj).1, (hc i hi hj).2.mono hle⟩⟩
  | raw o => exact ⟨by rw [hb]; exact h.1, h.2⟩
  | mapIter m s se st =>
    obtain ⟨mb, h0, h⟩ := h
    refine ⟨mb, ?_, by rw [hb]; exact h⟩
    cases m with
    | none => exact h0
    | some o => obtain ⟨c, hc, e⟩ := h0; exact ⟨c, hle.rho _ _ hc, e⟩

theorem TokOk.mono {κ κ' : K} (hle : κ.Le κ') {sz : TypeId × Nat} {v : Value} (hb : ∀ b, tokBlock v = some b → κ'.w.heap[b]? = κ.w.heap[b]? ∧ κ'.I b = κ.I b) (h : TokOk κ sz v) : TokOk κ' sz v := by
  obtain ⟨n, xs, ⟨h1, h2⟩, h3⟩ := h
  refine ⟨n, xs, ⟨h1, ?_⟩, fun b hh => by rw [(hb b hh).2]; exact h3 b hh⟩
  rcases h2 with h2 | ⟨g, cap, cur, rfl, hbg, hg, r⟩
  · exact .inl h2
  · exact .inr ⟨g, cap, cur, rfl, by rw [hle.base]; exact hbg, by rw [(hb g rfl).1]; exact hg, r⟩

theorem TokOk.lt {κ : K} {sz : TypeId × Nat} {v : Value} (h : TokOk κ sz v) {b : Nat} (hb : tokBlock v = some b) : b < κ.w.heap.size := by
  obtain ⟨n, xs, ⟨h1, h2⟩, h3⟩ := h
  rcases h2 with ⟨rfl, _⟩ | ⟨g, cap, cur, rfl, hbg, hg, r⟩
  · cases hb
  · obtain rfl : g = b := by simpa [tokBlock] using hb
    exact (Array.getElem?_eq_some_iff.1 hg).1

theorem TokOk.base {κ : K} {sz : TypeId × Nat} {v : Value} (h : TokOk κ sz v) {b : Nat} (hb : tokBlock v = some b) : κ.base ≤ b := by
  obtain ⟨n, xs, ⟨h1, h2⟩, h3⟩ := h
  rcases h2 with ⟨rfl, _⟩ | ⟨g, cap, cur, rfl, hbg, hg, r⟩
  · cases hb
  · obtain rfl : g = b := by simpa [tokBlock] using hb
    exact hbg

theorem Inv.sub {κ : K} {σ σ' : Store} (h : Inv κ σ') (hs : σ.Sub σ') : Inv κ σ where
  base := h.base
  heap o x e := h.heap o x (hs.heap o x e)
  inj o o' x x' b e e' := h.inj o o' x x' b (hs.heap _ _ e) (hs.heap _ _ e')
  tok t sz e := h.tok t sz (hs.tok _ _ e)
  tokinj t t' sz sz' v v' b e e' := h.tokinj t t' sz sz' v v' b (hs.tok _ _ e) (hs.tok _ _ e')
  tokobj t sz v b o x e hv hb ho := h.tokobj t sz v b o x (hs.tok _ _ e) hv hb (hs.heap _ _ ho)
  frO := h.frO
  frT := h.frT
  frI := h.frI

/-- THE STEP. A world goes on: every block that something known stands in is as it was, but for one object 'o0' that is known anew (or is new). -/
theorem Inv.step {κ κ' : K} {σ : Store} (h : Inv κ σ) (hle : κ.Le κ') (hτ : κ'.τ = κ.τ) (hI : κ'.I = κ.I) (hfr : ∃ N, ∀ o, N ≤ o → κ'.ρ o = none)
    (b0 : Nat) (hb0 : κ.base ≤ b0) (hI0 : κ.I b0 = 0)
    (hkeep : ∀ b, b ≠ b0 → b < κ.w.heap.size → κ'.w.heap[b]? = κ.w.heap[b]?)
    (o0 : Nat) (x0 : AObj) (hρ : ∀ o, o ≠ o0 → κ'.ρ o = κ.ρ o) (hρ0 : κ'.ρ o0 = some b0) (hx0 : ORel κ' x0 b0)
    (hfree : ∀ o x, σ.heap o = some x → o ≠ o0 → κ.ρ o ≠ some b0) (htok : ∀ t sz v, σ.tok t = some sz → κ.τ t = some v → tokBlock v ≠ some b0) : Inv κ' (σ.set o0 x0) where
  base := by rw [hle.base]; exact Nat.le_trans h.base hle.below.size
  heap o x e := by
    by_cases ho : o = o0
    · subst ho
      have : x0 = x := by simpa [Store.set] using e
      subst this
      exact ⟨b0, hρ0, by rw [hle.base]; exact hb0, by rw [hI]; exact hI0, hx0⟩
    · have e' : σ.heap o = some x := by simpa [Store.set, ho] using e
      obtain ⟨b, hb, hbase, hIb, hR⟩ := h.heap o x e'
      have hne : b ≠ b0 := fun hh => hfree o x e' ho (by rw [hb, hh])
      exact ⟨b, by rw [hρ o ho]; exact hb, by rw [hle.base]; exact hbase, by rw [hI]; exact hIb, hR.mono hle (hkeep b hne hR.lt)⟩
  inj o o' x x' b e e' hb hb' := by
    by_cases ho : o = o0 <;> by_cases ho' : o' = o0
    · rw [ho, ho']
    · subst ho
      have e2 : σ.heap o' = some x' := by simpa [Store.set, ho'] using e'
      rw [hρ o' ho'] at hb'
      rw [hρ0] at hb
      exact absurd (by rw [hb', ← Option.some.inj hb]) (hfree o' x' e2 ho')
    · subst ho'
      have e2 : σ.heap o = some x := by simpa [Store.set, ho] using e
      rw [hρ o ho] at hb
      rw [hρ0] at hb'
      exact absurd (by rw [hb, ← Option.some.inj hb']) (hfree o x e2 ho)
    · rw [hρ o ho] at hb
      rw [hρ o' ho'] at hb'
      exact h.inj o o' x x' b (by simpa [Store.set, ho] using e) (by simpa [Store.set, ho'] using e') hb hb'
  tok t sz e := by
    obtain ⟨v, hv, hok⟩ := h.tok t sz e
    refine ⟨v, by rw [hτ]; exact hv, hok.mono hle fun b hb => ⟨hkeep b (fun hh => htok t sz v e hv (by rw [hb, hh])) (hok.lt hb), by rw [hI]⟩⟩
  tokinj t t' sz sz' v v' b e e' hv hv' := h.tokinj t t' sz sz' v v' b e e' (by rw [← hτ]; exact hv) (by rw [← hτ]; exact hv')
  tokobj t sz v b o x e hv hb ho := by
    by_cases hoo : o = o0
    · subst hoo
      rw [hρ0]
      intro hh
      exact htok t sz v e (by rw [← hτ]; exact hv) (by rw [hb, Option.some.inj hh])
    · rw [hρ o hoo]
      exact h.tokobj t sz v b o x e (by rw [← hτ]; exact hv) hb (by simpa [Store.set, hoo] using ho)
  frO := hfr
  frT := by rw [hτ]; exact h.frT
  frI b hb := by rw [hI]; exact h.frI b (Nat.le_trans hle.below.size hb)

/-- A step that touches no known block at all. -/
theorem Inv.quiet {κ κ' : K} {σ : Store} (h : Inv κ σ) (hle : κ.Le κ') (hρ : κ'.ρ = κ.ρ) (hτ : κ'.τ = κ.τ) (hI : ∀ b, b < κ.w.heap.size → κ'.I b = κ.I b) (hfI : ∀ b, κ'.w.heap.size ≤ b → κ'.I b = 0)
    (hkeep : ∀ b, b < κ.w.heap.size → κ'.w.heap[b]? = κ.w.heap[b]?) : Inv κ' σ where
  base := by rw [hle.base]; exact Nat.le_trans h.base hle.below.size
  heap o x e := by
    obtain ⟨b, hb, hbase, hIb, hR⟩ := h.heap o x e
    exact ⟨b, by rw [hρ]; exact hb, by rw [hle.base]; exact hbase, by rw [hI b hR.lt]; exact hIb, hR.mono hle (hkeep b hR.lt)⟩
  inj o o' x x' b e e' hb hb' := h.inj o o' x x' b e e' (by rw [← hρ]; exact hb) (by rw [← hρ]; exact hb')
  tok t sz e := by
    obtain ⟨v, hv, hok⟩ := h.tok t sz e
    exact ⟨v, by rw [hτ]; exact hv, hok.mono hle fun b hb => ⟨hkeep b (hok.lt hb), hI b (hok.lt hb)⟩⟩
  tokinj t t' sz sz' v v' b e e' hv hv' := h.tokinj t t' sz sz' v v' b e e' (by rw [← hτ]; exact hv) (by rw [← hτ]; exact hv')
  tokobj t sz v b o x e hv hb ho := by rw [hρ]; exact h.tokobj t sz v b o x e (by rw [← hτ]; exact hv) hb ho
  frO := by rw [hρ]; exact h.frO
  frT := by rw [hτ]; exact h.frT
  frI := hfI

/-! ### The worlds' own steps -/

theorem shape?_alloc_old (w : World) (x : Obj) (b : Nat) (s : TypeId × Nat) (h : w.shape? b = some s) : (w.alloc x).shape? b = some s := by
  unfold World.shape? at *
  rcases Nat.lt_or_ge b w.heap.size with hb | hb
  · rw [Below.heap_alloc w x b hb]; exact h
  · rw [Array.getElem?_eq_none hb] at h; cases h

theorem cell?_alloc_old' (w : World) (x : Obj) (b off : Nat) (v : Value) (h : w.cell? ⟨b, off, none⟩ = some v) : (w.alloc x).cell? ⟨b, off, none⟩ = some v := by
  rw [World.cell?_alloc_lt w x _ (World.block_lt_of_cell? w _ h)]; exact h

theorem heap_alloc_new (w : World) (x : Obj) : (w.alloc x).heap[w.heap.size]? = some x := by
  show (w.heap.push x)[w.heap.size]? = _
  simp

/-- A new block, known as a new object. -/
theorem Inv.alloc {κ : K} {σ : Store} (h : Inv κ σ) (o : Nat) (ho : κ.ρ o = none) (x : AObj) (b : Obj)
    (hx : ∀ κ', κ.Le κ' → κ'.w.heap[κ.w.heap.size]? = some b → κ'.ρ = (fun i => if i = o then some κ.w.heap.size else κ.ρ i) → ORel κ' x κ.w.heap.size) :
    ∃ κ', κ'.w = κ.w.alloc b ∧ κ.Le κ' ∧ κ'.ρ o = some κ.w.heap.size ∧ Inv κ' (σ.set o x) := by
  refine ⟨{ κ with w := κ.w.alloc b, ρ := fun i => if i = o then some κ.w.heap.size else κ.ρ i }, rfl, ?_, by simp, ?_⟩
  · refine ⟨rfl, (Below.refl _ _).alloc h.base _, fun b' s e => shape?_alloc_old _ _ _ _ e, fun i c e => ?_, fun _ _ e => e, fun _ => Nat.le_refl _, fun b' off v _ e => cell?_alloc_old' _ _ _ _ _ e⟩
    show (if i = o then _ else _) = _
    rw [if_neg (fun hh => by rw [hh, ho] at e; cases e)]
    exact e
  · have hle : κ.Le { κ with w := κ.w.alloc b, ρ := fun i => if i = o then some κ.w.heap.size else κ.ρ i } := by
      refine ⟨rfl, (Below.refl _ _).alloc h.base _, fun b' s e => shape?_alloc_old _ _ _ _ e, fun i c e => ?_, fun _ _ e => e, fun _ => Nat.le_refl _, fun b' off v _ e => cell?_alloc_old' _ _ _ _ _ e⟩
      show (if i = o then _ else _) = _
      rw [if_neg (fun hh => by rw [hh, ho] at e; cases e)]
      exact e
    refine h.step hle rfl rfl ?_ κ.w.heap.size h.base (h.frI _ (Nat.le_refl _)) (fun b' _ hb => Below.heap_alloc _ _ _ hb) o x (fun i hi => by simp [hi]) (by simp) (hx _ hle (heap_alloc_new _ _) rfl) ?_ ?_
    · obtain ⟨N, hN⟩ := h.frO
      refine ⟨N + o + 1, fun i hi => ?_⟩
      show (if i = o then _ else _) = _
      rw [if_neg (by omega)]
      exact hN i (by omega)
    · intro i y hy _ hh
      obtain ⟨b', hb', _, _, hR⟩ := h.heap i y hy
      rw [hb'] at hh
      have := hR.lt
      have := Option.some.inj hh
      omega
    · intro t sz v ht hv hh
      obtain ⟨v', hv', hok⟩ := h.tok t sz ht
      rw [hv] at hv'
      obtain rfl := Option.some.inj hv'
      have := hok.lt hh
      omega

theorem Inv.fresh {κ : K} {σ : Store} (h : Inv κ σ) : ∃ o, κ.ρ o = none ∧ σ.heap o = none := by
  obtain ⟨N, hN⟩ := h.frO
  refine ⟨N, hN N (Nat.le_refl _), ?_⟩
  cases e : σ.heap N with
  | none => rfl
  | some x =>
    obtain ⟨b, hb, _⟩ := h.heap N x e
    rw [hN N (Nat.le_refl _)] at hb
    cases hb

theorem Inv.freshTok {κ : K} {σ : Store} (h : Inv κ σ) : ∃ t, κ.τ t = none ∧ σ.tok t = none := by
  obtain ⟨N, hN⟩ := h.frT
  refine ⟨N, hN N (Nat.le_refl _), ?_⟩
  cases e : σ.tok N with
  | none => rfl
  | some x =>
    obtain ⟨b, hb, _⟩ := h.tok N x e
    rw [hN N (Nat.le_refl _)] at hb
    cases hb

/-- A draw. -/
theorem Inv.drew {κ : K} {σ : Store} (h : Inv κ σ) : κ.Le { κ with w := κ.w.drew } ∧ Inv { κ with w := κ.w.drew } σ := by
  have hle : κ.Le { κ with w := κ.w.drew } := ⟨rfl, (Below.refl _ _).drew, fun _ _ e => e, fun _ _ e => e, fun _ _ e => e, fun _ => Nat.le_refl _, fun _ _ _ _ e => e⟩
  exact ⟨hle, h.quiet hle rfl rfl (fun _ _ => rfl) (fun b hb => h.frI b hb) (fun _ _ => rfl)⟩

/-- A store into an object's cell. -/
theorem heap_setCell_same {w : World} {b off : Nat} {c : Array Value} {e : TypeId} (v : Value) (h : w.heap[b]? = some (.cells c e (0, 0))) :
    (w.setCell ⟨b, off, none⟩ v).heap[b]? = some (.cells (c.setIfInBounds off v) e (0, 0)) := by
  simp [World.setCell, Array.getElem?_modify, h]

theorem shape?_setCell (w : World) (a : Addr) (v : Value) (b : Nat) : (w.setCell a v).shape? b = w.shape? b := by
  unfold World.shape? World.setCell
  simp only [Array.getElem?_modify]
  by_cases hb : a.block = b
  · simp only [hb, if_true]
    cases w.heap[b]? with
    | none => rfl
    | some x =>
      cases x <;> simp
      split <;> simp
  · simp [hb]

theorem Inv.setCell {κ : K} {σ : Store} (h : Inv κ σ) {o : Nat} {cs : List AVal} (ho : σ.heap o = some (.cells cs)) {off : Nat} (hoff : off < cs.length) {a : AVal} {v : Value} (hv : Rv κ a v) :
    ∃ b, κ.ρ o = some b ∧ (∃ u, κ.w.cell? ⟨b, off, none⟩ = some u) ∧ κ.w.frozen? ⟨b, off, none⟩ = false ∧
      κ.Le { κ with w := κ.w.setCell ⟨b, off, none⟩ v } ∧ Inv { κ with w := κ.w.setCell ⟨b, off, none⟩ v } (σ.set o (.cells (cs.set off a))) := by
  obtain ⟨b, hb, hbase, hI, c, e, hc, hl, hR⟩ := h.heap o _ ho
  have hle : κ.Le { κ with w := κ.w.setCell ⟨b, off, none⟩ v } := by
    refine ⟨rfl, (Below.refl _ _).setCell hbase _, fun b' s e' => by rw [shape?_setCell]; exact e', fun _ _ e' => e', fun _ _ e' => e', fun _ => Nat.le_refl _, fun b' off' u hi e' => ?_⟩
    have hne : b ≠ b' := fun hh => by rw [← hh, hI] at hi; omega
    rw [World.cell?_setCell_other _ _ _ _ (fun hh => hne (by injection hh))]
    exact e'
  refine ⟨b, hb, ⟨c.getD off undef, ?_⟩, ?_, hle, ?_⟩
  · simp only [World.cell?, hc]
    simp [show off < c.size by omega]
  · simp only [World.frozen?, hc]
    simp
  · refine h.step hle rfl rfl h.frO b hbase hI (fun b' hne _ => Below.heap_setCell _ _ _ _ hne) o _ (fun _ _ => rfl) hb ?_ ?_ ?_
    · refine ⟨c.setIfInBounds off v, e, heap_setCell_same v hc, by simpa using hl, fun i hi => ?_⟩
      rw [List.getElem_set]
      by_cases hio : off = i
      · subst hio
        rw [if_pos rfl]
        have : (c.setIfInBounds off v).getD off undef = v := by simp [show off < c.size by omega]
        rw [this]
        exact hv.mono hle
      · rw [if_neg hio]
        have : (c.setIfInBounds off v).getD i undef = c.getD i undef := by simp [Array.getElem?_setIfInBounds_ne hio]
        rw [this]
        exact (hR i (by simpa using hi)).mono hle
    · intro i y hy hne hh
      exact hne (h.inj i o _ _ b hy ho hh hb)
    · intro t sz u ht hu hh
      exact h.tokobj t sz u b o _ ht hu hh ho hb

end Go.Ab
