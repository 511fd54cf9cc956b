/-
  SLICES THAT GROW: append to a slice of one's own (a token goes from hand to hand), slices written out. Own work (an AI agent).
-/
import Derived.Test.YtbjloippgpilcaaGreatDoorGB
import Derived.Laws.OwnMore
import Derived.Deep.AppendSrc

section
set_option linter.all false
namespace Go.Ab
open Go.RowKit (Below)

/-- two rows of one length, cell by cell -/
def RvC (κ : K) (av : List AVal) (cs : List Value) : Prop := av.length = cs.length ∧ ∀ i (hi : i < av.length) (hj : i < cs.length), Rv κ av[i] cs[i]

theorem RvC.append {κ : K} {av bs : List AVal} {cs ds : List Value} (h : RvC κ av cs) (k : RvC κ bs ds) : RvC κ (av ++ bs) (cs ++ ds) := by
  refine ⟨by simp [h.1, k.1], fun i hi hj => ?_⟩
  by_cases hlt : i < av.length
  · rw [List.getElem_append_left hlt, List.getElem_append_left (by rw [← h.1]; exact hlt)]
    exact h.2 i hlt _
  · have hl := h.1
    rw [List.getElem_append_right (by omega), List.getElem_append_right (by omega)]
    have := k.2 (i - av.length) (by simp at hi; omega) (by simp at hj; omega)
    simpa [hl] using this

theorem RvC.one {κ : K} {a : AVal} {v : Value} (h : Rv κ a v) : RvC κ [a] [v] := ⟨rfl, fun i hi _ => by
  have h0 : i = 0 := by simpa using hi
  subst h0; exact h⟩
theorem RvC.nil {κ : K} : RvC κ [] [] := ⟨rfl, fun i hi => by simp at hi⟩
theorem RvC.mono {κ κ' : K} (hle : κ.Le κ') {av : List AVal} {cs : List Value} (h : RvC κ av cs) : RvC κ' av cs := ⟨h.1, fun i hi hj => (h.2 i hi hj).mono hle⟩

/-- the cells that a slice's elements stand in -/
theorem sl_vals {κ : K} {sz : Nat} {l : List AVal} {v : Value} (h : Rv κ (.sl sz l false) v) :
    ∃ a cap us, v = .slice a l.length cap ∧ (∀ x ∈ l, x.cells.length = sz) ∧ RvC κ (flat l) us ∧ ((a = none ∧ l = [] ∧ cap = 0) ∨ ∃ ad : Addr, a = some ad ∧ ∀ j u, us[j]? = some u → κ.w.cell? (ad.add j) = some u) := by
  rcases h.slInv with ⟨a, rfl, rfl⟩ | ⟨b, off, cap, vals, rfl, hcap, _, hsz, hc, hv⟩
  · refine ⟨a, 0, [], rfl, by simp, .nil, ?_⟩
    cases a with
    | none => exact .inl ⟨rfl, rfl, rfl⟩
    | some ad => exact .inr ⟨ad, rfl, by simp⟩
  · refine ⟨_, cap, (List.range (flat l).length).map vals, rfl, hsz, ⟨by simp, fun i hi hj => by simpa using hv i hi⟩, .inr ⟨_, rfl, fun j u hu => ?_⟩⟩
    have hj : j < (flat l).length := by
      have := (List.getElem?_eq_some_iff.1 hu).1
      simpa using this
    have : u = vals j := by
      rw [List.getElem?_map, List.getElem?_range hj] at hu
      exact (Option.some.inj hu).symm
    subst this
    rw [add_addr]
    exact (hc j hj).2

def Store.newTok (σ : Store) (old : Option Nat) (t : Nat) (p : TypeId × Nat) : Store := { σ with tok := fun i => if i = t then some p else if some i = old then none else σ.tok i }

/-- A token goes on: the slice of the one that was (or of nobody) is the slice of the new one. -/
theorem Inv.tokStep {κ κ' : K} {σ : Store} (h : Inv κ σ) (hle : κ.Le κ') {t' : Nat} {v' : Value} {p : TypeId × Nat} {old : Option Nat} (hρ : κ'.ρ = κ.ρ) (hτ : κ'.τ = fun i => if i = t' then some v' else κ.τ i)
    (hI : ∀ b, tokBlock v' ≠ some b → κ'.I b = κ.I b) (hkeep : ∀ b, tokBlock v' ≠ some b → b < κ.w.heap.size → κ'.w.heap[b]? = κ.w.heap[b]?) (hok : TokOk κ' p v')
    (hfree : ∀ b, tokBlock v' = some b → κ.w.heap.size ≤ b ∨ ∃ t v q, old = some t ∧ σ.tok t = some q ∧ κ.τ t = some v ∧ tokBlock v = some b) : Inv κ' (σ.newTok old t' p) := by
  have other : ∀ t q v b, t ≠ t' → some t ≠ old → σ.tok t = some q → κ.τ t = some v → tokBlock v = some b → tokBlock v' ≠ some b := by
    intro t q v b _ ho ht hv hb hb'
    rcases hfree b hb' with hlt | ⟨t1, v1, q1, e1, e2, e3, e4⟩
    · obtain ⟨v2, hv2, hk⟩ := h.tok t q ht
      rw [hv] at hv2
      obtain rfl := Option.some.inj hv2
      have := hk.lt hb
      omega
    · exact ho (by rw [e1, h.tokinj t t1 q q1 v v1 b ht e2 hv e3 hb e4])
  have objs : ∀ o x b, σ.heap o = some x → κ.ρ o = some b → tokBlock v' ≠ some b := by
    intro o x b ho hb hb'
    obtain ⟨b1, hb1, _, _, hR⟩ := h.heap o x ho
    rw [hb] at hb1
    obtain rfl := Option.some.inj hb1
    rcases hfree b hb' with hlt | ⟨t1, v1, q1, e1, e2, e3, e4⟩
    · have := hR.lt; omega
    · exact h.tokobj t1 q1 v1 b o x e2 e3 e4 ho hb
  have was : ∀ t q, (σ.newTok old t' p).tok t = some q → t ≠ t' → some t ≠ old ∧ σ.tok t = some q := by
    intro t q ht hne
    simp only [Store.newTok, hne, if_false] at ht
    split at ht
    · cases ht
    · rename_i ho; exact ⟨ho, ht⟩
  refine ⟨h.glob.le hle, by rw [hle.base]; exact Nat.le_trans h.base hle.below.size, fun o x e => ?_, fun o o' x x' b e e' hb hb' => h.inj o o' x x' b e e' (by rw [← hρ]; exact hb) (by rw [← hρ]; exact hb'), fun t q e => ?_, fun t t1 q q1 v v1 b e e1 hv hv1 hb hb1 => ?_,
    fun t q v b o x e hv hb ho => ?_, by rw [hρ]; exact h.frO, ?_, fun b hb => ?_⟩
  · obtain ⟨b, hb, hbase, hIb, hR⟩ := h.heap o x e
    have hne := objs o x b e hb
    exact ⟨b, by rw [hρ]; exact hb, by rw [hle.base]; exact hbase, by rw [hI b hne]; exact hIb, hR.mono hle (hkeep b hne hR.lt)⟩
  · by_cases ht : t = t'
    · subst ht
      have : p = q := by simpa [Store.newTok] using e
      subst this
      exact ⟨v', by rw [hτ]; simp, hok⟩
    · obtain ⟨ho, e'⟩ := was t q e ht
      obtain ⟨v, hv, hk⟩ := h.tok t q e'
      refine ⟨v, by rw [hτ]; simp [ht, hv], hk.mono hle fun b hb => ?_⟩
      have hne := other t q v b ht ho e' hv hb
      exact ⟨hkeep b hne (hk.lt hb), hI b hne⟩
  · rw [hτ] at hv hv1
    by_cases ht : t = t' <;> by_cases ht1 : t1 = t'
    · rw [ht, ht1]
    · obtain ⟨ho, e'⟩ := was t1 q1 e1 ht1
      simp only [ht, if_true, Option.some.injEq] at hv
      simp only [ht1, if_false] at hv1
      subst hv
      exact absurd hb (other t1 q1 v1 b ht1 ho e' hv1 hb1)
    · obtain ⟨ho, e'⟩ := was t q e ht
      simp only [ht1, if_true, Option.some.injEq] at hv1
      simp only [ht, if_false] at hv
      subst hv1
      exact absurd hb1 (other t q v b ht ho e' hv hb)
    · obtain ⟨ho, e'⟩ := was t q e ht
      obtain ⟨ho1, e1'⟩ := was t1 q1 e1 ht1
      simp only [ht, if_false] at hv
      simp only [ht1, if_false] at hv1
      exact h.tokinj t t1 q q1 v v1 b e' e1' hv hv1 hb hb1
  · rw [hτ] at hv
    rw [hρ]
    by_cases ht : t = t'
    · simp only [ht, if_true, Option.some.injEq] at hv
      subst hv
      intro hh
      exact objs o x b ho hh hb
    · obtain ⟨hoo, e'⟩ := was t q e ht
      simp only [ht, if_false] at hv
      exact h.tokobj t q v b o x e' hv hb ho
  · obtain ⟨N, hN⟩ := h.frT
    refine ⟨N + t' + 1, fun i hi => ?_⟩
    rw [hτ]
    dsimp only
    rw [if_neg (by omega)]
    exact hN i (by omega)
  · by_cases hb' : tokBlock v' = some b
    · have := hok.lt hb'; omega
    · rw [hI b hb']; exact h.frI b (Nat.le_trans hle.below.size hb)

theorem run_append_zero {P : Program} {tx ty t e : TypeId} {i : TypeInfo} {sz : Nat} (ht : P.underlying t = some (.slice e)) (hi : P.info? e = some i) (hsz : i.size = sz) {w : World} {x : Value} {news : List Value} (hs : Src P sz tx x 0 news w) (a : Option Addr) (n cap : Nat) (hn : n ≤ cap) :
    (Builtin.append_ #[t, tx] ty #[.slice a n cap, x]).run P w = .ok (.slice a n cap) w := by
  subst hsz
  have hnews : news = [] := List.eq_nil_of_length_eq_zero (by simpa using hs.newsLen)
  subst hnews
  cases a <;> rcases hs.kind with ⟨e', hk⟩ | hk <;> simp [Builtin.append_, run_underlying ht, run_underlying hk, sizeOf, typeInfo, hi, hs.len, hs.cells, hn, storeCells]

/-- cells laid into a row, one behind the other -/
theorem setCells_row (w : World) (g : Nat) (e : TypeId) (fr : Nat × Nat) : ∀ (vs : List Value) (off : Nat) (cur : Array Value), w.heap[g]? = some (.cells cur e fr) → off + vs.length ≤ cur.size →
    w.setCells g off vs = w.setRow g (cur.toList.take off ++ vs ++ cur.toList.drop (off + vs.length)).toArray := by
  have key : ∀ (vs : List Value) (off : Nat) (cur : Array Value) (w : World), w.heap[g]? = some (.cells cur e fr) → off + vs.length ≤ cur.size →
      w.setCells g off vs = w.setRow g (cur.toList.take off ++ vs ++ cur.toList.drop (off + vs.length)).toArray := by
    intro vs
    induction vs with
    | nil =>
      intro off cur w hg h
      have e1 : (cur.toList.take off ++ [] ++ cur.toList.drop (off + ([] : List Value).length)).toArray = cur := by simp
      rw [e1]
      show w = _
      unfold World.setRow
      have hlt : g < w.heap.size := (Array.getElem?_eq_some_iff.1 hg).1
      have hv : w.heap[g] = .cells cur e fr := (Array.getElem?_eq_some_iff.1 hg).2
      show World.mk w.heap w.tape w.drawn w.os w.output = _
      congr 1
      apply Array.ext (by simp)
      intro i h1 h2
      rw [Array.getElem_modify]
      split
      · rename_i hh; subst hh; rw [hv]
      · rfl
    | cons v vs ih =>
      intro off cur w hg h
      have hlt : g < w.heap.size := (Array.getElem?_eq_some_iff.1 hg).1
      have hv : w.heap[g] = .cells cur e fr := (Array.getElem?_eq_some_iff.1 hg).2
      have hset : w.setCell ⟨g, off, none⟩ v = w.setRow g (cur.setIfInBounds off v) := by
        unfold World.setCell World.setRow
        congr 1
        apply Array.ext (by simp)
        intro i h1 h2
        rw [Array.getElem_modify, Array.getElem_modify]
        split
        · rename_i hh; dsimp only at hh; subst hh; rw [hv]; simp
        · rfl
      have hg2 := setRow_heap w g cur (cur.setIfInBounds off v) e fr hg
      show (w.setCell ⟨g, off, none⟩ v).setCells g (off + 1) vs = _
      rw [hset, ih (off + 1) (cur.setIfInBounds off v) _ hg2 (by simp at h ⊢; omega)]
      have hrr : ∀ a b : Array Value, (w.setRow g a).setRow g b = w.setRow g b := fun a b => by
        unfold World.setRow
        congr 1
        apply Array.ext (by simp)
        intro i h1 h2
        rw [Array.getElem_modify, Array.getElem_modify, Array.getElem_modify]
        split
        · rename_i hh; subst hh; rw [hv]
        · rfl
      rw [hrr]
      congr 2
      have ho : off < cur.toList.length := by simp at h ⊢; omega
      rw [Array.toList_setIfInBounds, List.set_eq_take_append_cons_drop, if_pos ho]
      have l1 : (cur.toList.take off).length = off := by simp at ho ⊢; omega
      rw [List.take_append, l1, show off + 1 - off = 1 by omega, List.take_of_length_le (by omega : (cur.toList.take off).length ≤ off + 1)]
      rw [List.drop_append, l1, List.drop_eq_nil_of_le (by omega : (cur.toList.take off).length ≤ off + 1 + vs.length), show off + 1 + vs.length - off = vs.length + 1 by omega]
      simp [List.drop_drop, Nat.add_assoc, Nat.add_comm 1]
  exact fun vs off cur hg h => key vs off cur w hg h

/-- append to a row of one's own, in three ways -/
theorem append_casesS {P : Program} (w : World) (base : Nat) (t tx ty e : TypeId) (i : TypeInfo) (z : Value) (size bytes : Nat) (ht : P.underlying t = some (.slice e)) (hi : P.info? e = some i) (hz : i.zero = some z)
    (hsize : i.size = size) (hby : i.bytes = bytes) (hzs : z.cells.size = size) (hsz : 0 < size)
    (v : Value) (n : Nat) (xs : List Value) (hown : OwnsRow w base e size v n xs) (x : Value)
    (m : Nat) (news : List Value) (hl : news.length = m * size) (hx : Src P size tx x m news w)
    (h63 : n + m ≤ maxLen) (hbytes : (n + m) * bytes ≤ 140737488355328) (hbase : base ≤ w.heap.size) :
    ∃ v' w', (Builtin.append_ #[t, tx] ty #[v, x]).run P w = .ok v' w' ∧ OwnsRow w' base e size v' (n + m) (xs ++ news) ∧
      ((v' = v ∧ w' = w ∧ m = 0) ∨
       (∃ g cap cur cur' fr, v = .slice (some ⟨g, 0, none⟩) n cap ∧ w.heap[g]? = some (.cells cur e fr) ∧ v' = .slice (some ⟨g, 0, none⟩) (n + m) cap ∧ w' = w.setRow g cur' ∧ cur'.size = cur.size ∧ base ≤ g ∧ ∀ k, k < n * size → cur'[k]? = cur[k]?) ∨
       (∃ c cap' fr, w' = w.drew.alloc (.cells c e fr) ∧ v' = .slice (some ⟨w.heap.size, 0, none⟩) (n + m) cap')) := by
  subst hsize
  subst hby
  have hsmall : n + m ≤ 9223372036854775807 := by simp only [maxLen] at h63; omega
  have hlen : (xs ++ news).length = (n + m) * i.size := by rw [List.length_append, hown.1, hl, Nat.add_mul]
  have hnone : m = 0 → ∀ a cap, n ≤ cap → v = .slice a n cap → ∃ v' w', (Builtin.append_ #[t, tx] ty #[v, x]).run P w = .ok v' w' ∧ OwnsRow w' base e i.size v' (n + m) (xs ++ news) ∧ (v' = v ∧ w' = w ∧ m = 0) := by
    rintro rfl a cap hc rfl
    obtain rfl : news = [] := List.eq_nil_of_length_eq_zero (by simpa using hl)
    exact ⟨_, w, run_append_zero ht hi rfl hx a n cap hc, by simpa using hown, rfl, rfl, rfl⟩
  have grown : ∀ (old : Nat), old < n + m →
      OwnsRow (w.drew.alloc (.cells ((xs ++ news).toArray ++ Builtin.zeroCells z.cells (grownCap w (n + m) old e - (n + m))) e)) base e i.size
        (.slice (some ⟨w.heap.size, 0, none⟩) (n + m) (grownCap w (n + m) old e)) (n + m) (xs ++ news) := by
    intro old ho
    have hge := grownCap_ge w (n + m) old e
    have hcm : grownCap w (n + m) old e ≤ maxLen := grownCap_le_maxLen w (n + m) old e h63
    refine ⟨hlen, .inr ⟨w.heap.size, _, _, (0, 0), rfl, hbase, Go.heap_alloc_new w.drew _, .inl rfl, hge, hcm, ?_, ?_⟩⟩
    · simp only [Array.size_append, List.size_toArray, size_zeroCells, hzs, hlen, ← Nat.add_mul]
      congr 1
      omega
    · simp only [Array.toList_append]
      rw [← hlen]
      exact List.take_left
  rcases hown.2 with ⟨rfl, rfl⟩ | ⟨g, cap, cur, fr, rfl, hbg, hg, hfr, hnc, hcm, hcs, htake⟩
  · have hx0 : xs = [] := List.eq_nil_of_length_eq_zero (by simpa using hown.1)
    subst hx0
    by_cases hm : m = 0
    · obtain ⟨v', w', h1, h2, h3⟩ := hnone hm none 0 (Nat.le_refl _) rfl
      exact ⟨v', w', h1, h2, .inl h3⟩
    · have hr := run_append_grow_src (P := P) (w := w) t tx ty e i z ht hi hz none 0 0 [] (by simp [Builtin.firstCells, loadCells, loadCellsFrom]) x m news hx (by omega) (by omega) (growslice_fits (by omega) hbytes)
      exact ⟨_, _, hr, grown 0 (by omega), .inr (.inr ⟨_, _, (0, 0), rfl, rfl⟩)⟩
  · by_cases hm : m = 0
    · obtain ⟨v', w', h1, h2, h3⟩ := hnone hm _ cap hnc rfl
      exact ⟨v', w', h1, h2, .inl h3⟩
    by_cases hroom : n + m ≤ cap
    · have hfit : n * i.size + news.length ≤ cur.size := by rw [hl, hcs, ← Nat.add_mul]; exact Nat.mul_le_mul_right _ hroom
      have hcell : ∀ j, j < news.length → ∃ u, w.cell? ⟨g, 0 + n * i.size + j, none⟩ = some u := fun j hj => ⟨cur[0 + n * i.size + j]'(by omega), by simp [World.cell?, hg, show 0 + n * i.size + j < cur.size by omega]⟩
      have hr := run_append_room_src (P := P) (w := w) t tx ty e i ht hi g 0 n cap x m news hx hroom (fun j hj => by obtain ⟨u, hu⟩ := hcell j hj; rw [hu]; rfl) (fun j hj => OwnsRow.thaw hg hfr (by omega))
      have hrow : w.setCells g (0 + n * i.size) news = w.setRow g (cur.toList.take (n * i.size) ++ news ++ cur.toList.drop (n * i.size + news.length)).toArray := by
        rw [Nat.zero_add]; exact setCells_row w g e fr news (n * i.size) cur hg hfit
      rw [hrow] at hr
      have hsz2 : (cur.toList.take (n * i.size) ++ news ++ cur.toList.drop (n * i.size + news.length)).toArray.size = cur.size := by
        simp only [List.size_toArray, List.length_append, List.length_take, List.length_drop, Array.length_toList]
        omega
      refine ⟨_, _, hr, ⟨hlen, .inr ⟨g, cap, _, fr, rfl, hbg, setRow_heap w g cur _ e _ hg, hfr.imp id (fun h => by rw [hsz2]; exact h), hroom, hcm, ?_, ?_⟩⟩, .inr (.inl ⟨g, cap, cur, _, fr, rfl, hg, rfl, rfl, ?_, hbg, fun k hk => ?_⟩)⟩
      · simp only [List.size_toArray, List.length_append, List.length_take, List.length_drop, Array.length_toList]
        omega
      · rw [htake, ← hlen]
        exact List.take_left
      · simp only [List.size_toArray, List.length_append, List.length_take, List.length_drop, Array.length_toList]
        omega
      · have hk1 : k < (cur.toList.take (n * i.size)).length := by
          simp only [List.length_take, Array.length_toList]; omega
        simp only [List.getElem?_toArray, List.append_assoc]
        rw [List.getElem?_append_left hk1, List.getElem?_take, if_pos hk]
        simp
    · have hold : (Builtin.firstCells i.size n (.slice (some ⟨g, 0, none⟩) n cap)).run P w.drew = .ok xs.toArray w.drew :=
        run_firstCells_some (P := P) w.drew i.size n ⟨g, 0, none⟩ n cap xs hown.1 (fun j u hu => hown.cells (g := g) rfl j u hu)
      have hr := run_append_grow_src (P := P) (w := w) t tx ty e i z ht hi hz (some ⟨g, 0, none⟩) n cap xs hold x m news hx (by omega) (by omega) (growslice_fits (by omega) hbytes)
      exact ⟨_, _, hr, grown cap (by omega), .inr (.inr ⟨_, _, (0, 0), rfl, rfl⟩)⟩

/-- what append asks of an element's type -/
def appInfo (P : Program) (e : TypeId) : Option (Nat × Nat) :=
  match P.info? e with
  | some i => match i.zero with
    | some z => if z.cells.size = i.size ∧ 0 < i.size ∧ 0 < i.bytes then some (i.size, i.bytes) else none
    | none => none
  | none => none

theorem appInfo_spec {P : Program} {e : TypeId} {sz by_ : Nat} (h : appInfo P e = some (sz, by_)) : ∃ i z, P.info? e = some i ∧ i.zero = some z ∧ i.size = sz ∧ i.bytes = by_ ∧ z.cells.size = sz ∧ 0 < sz ∧ 0 < by_ := by
  unfold appInfo at h
  split at h
  · rename_i i hi
    split at h
    · rename_i z hz
      split at h
      · rename_i hc
        simp only [Option.some.injEq, Prod.mk.injEq] at h
        obtain ⟨rfl, rfl⟩ := h
        exact ⟨i, z, hi, hz, rfl, rfl, hc.1, hc.2.1, hc.2.2⟩
      · cases h
    · cases h
  · cases h

/-- a row of one's own, seen as a slice -/
theorem rv_of_owns {κ : K} {e : TypeId} {sz : Nat} {v : Value} {l : List AVal} {us : List Value} (hs : ∀ x ∈ l, x.cells.length = sz) (ho : OwnsRow κ.w κ.base e sz v l.length us) (hr : RvC κ (flat l) us)
    (hI : ∀ b, tokBlock v = some b → κ.I b = l.length * sz) : Rv κ (.sl sz l false) v := by
  have hfl : (flat l).length = l.length * sz := flat_length hs
  rcases ho.2 with ⟨rfl, h0⟩ | ⟨g, cap, cur, fr, rfl, hbg, hg, _, hnc, hcm, hcs, htake⟩
  · obtain rfl : l = [] := List.eq_nil_of_length_eq_zero h0
    exact .slNil _ _
  · have hc := ho.cells (g := g) rfl
    refine .sl sz l false g 0 cap (fun k => us.getD k undef) hnc (by simp) hs (fun k hk => ?_) (fun k hk => ?_)
    · have hku : k < us.length := by rw [← hr.1]; exact hk
      rw [hI g rfl]
      refine ⟨by omega, ?_⟩
      have := hc k us[k] (by simp [hku])
      rw [add_addr] at this
      simpa [hku] using this
    · have hku : k < us.length := by rw [← hr.1]; exact hk
      have := hr.2 k hk hku
      simpa [hku] using this

section
variable {P : Program} {o : Oper} {α : Operand → AVal} {σ : Store} {Kk : AVal → Store → Prop}

/-- the slice that is appended to -/
theorem append_base {κ : K} {σ : Store} (hI : Inv κ σ) {v0 : Value} {e : TypeId} {sz : Nat} {l : List AVal} {old : Option Nat} {a : AVal} (hvs : Rv κ a v0)
    (hs : (∃ k, a = .own k sz l ∧ σ.tok k = some (e, sz) ∧ old = some k) ∨ (a = .lit (.slice none 0 0) ∧ l = [] ∧ old = none)) : ∃ us, (∀ y ∈ l, y.cells.length = sz) ∧ OwnsRow κ.w κ.base e sz v0 l.length us ∧ RvC κ (flat l) us ∧ (∀ b, tokBlock v0 = some b → κ.I b = l.length * sz) ∧
      (∀ b, tokBlock v0 = some b → ∃ t v q, old = some t ∧ σ.tok t = some q ∧ κ.τ t = some v ∧ tokBlock v = some b) := by
  rcases hs with ⟨k, hk1, hk2, rfl⟩ | ⟨hk1, rfl, rfl⟩
  · subst hk1
    cases hvs with
    | own _ _ _ _ h0 hτ =>
      obtain ⟨v, hv, n, xs, how, hIb⟩ := hI.tok k _ hk2
      rw [hτ] at hv
      obtain rfl := Option.some.inj hv
      obtain ⟨a, cap, us, hev, hsz', hr, hc⟩ := sl_vals h0
      have hn : n = l.length := by
        rcases how.2 with ⟨h1, rfl⟩ | ⟨g, cap', cur, fr, h1, _⟩
        · rw [hev] at h1; simp at h1; simp [h1]
        · rw [hev] at h1; simp at h1; omega
      subst hn
      have hxs : xs = us := by
        apply List.ext_getElem?
        intro j
        have hlx : xs.length = us.length := by rw [how.1, ← hr.1, flat_length hsz']
        by_cases hj : j < xs.length
        · rcases how.2 with ⟨h1, h0'⟩ | ⟨g, cap', cur, fr, h1, _⟩
          · rw [how.1, h0'] at hj; simp at hj
          · have e1 := how.cells (g := g) (by rw [h1]; rfl) j xs[j] (by simp [hj])
            rcases hc with ⟨rfl, _, _⟩ | ⟨ad, rfl, hcu⟩
            · rw [hev] at h1; simp at h1
            · have e2 := hcu j us[j] (by simp [show j < us.length by omega])
              rw [hev] at h1
              simp only [Value.slice.injEq, Option.some.injEq] at h1
              rw [h1.1] at e2
              rw [e1] at e2
              rw [List.getElem?_eq_getElem hj, List.getElem?_eq_getElem (by omega), Option.some.inj e2]
        · rw [List.getElem?_eq_none (by omega), List.getElem?_eq_none (by omega)]
      subst hxs
      exact ⟨xs, hsz', how, hr, hIb, fun b hb => ⟨k, _, _, rfl, hk2, hτ, hb⟩⟩
  · subst hk1
    have := hvs.litInv
    subst this
    exact ⟨[], by simp, OwnsRow.nil _ _ _ _, .nil, by simp [tokBlock], by simp [tokBlock]⟩

/-- the world behind -/
theorem append_post {κ : K} {σ : Store} (hI : Inv κ σ) {v0 v' : Value} {w' : World} {e : TypeId} {sz : Nat} {l l2 : List AVal} {us vs : List Value} {old : Option Nat} (hlsz : ∀ y ∈ l, y.cells.length = sz) (hl2sz : ∀ y ∈ l2, y.cells.length = sz)
    (hus : RvC κ (flat l) us) (hvsr : RvC κ (flat l2) vs) (hIold : ∀ b, tokBlock v0 = some b → κ.I b = l.length * sz)
    (hfreeold : ∀ b, tokBlock v0 = some b → ∃ t v q, old = some t ∧ σ.tok t = some q ∧ κ.τ t = some v ∧ tokBlock v = some b)
    (hown' : OwnsRow w' κ.base e sz v' (l.length + l2.length) (us ++ vs))
    (hcase : (v' = v0 ∧ w' = κ.w ∧ l2.length = 0) ∨
       (∃ g cap cur cur' fr, v0 = .slice (some ⟨g, 0, none⟩) l.length cap ∧ κ.w.heap[g]? = some (.cells cur e fr) ∧ v' = .slice (some ⟨g, 0, none⟩) (l.length + l2.length) cap ∧ w' = κ.w.setRow g cur' ∧ cur'.size = cur.size ∧ κ.base ≤ g ∧ ∀ k, k < l.length * sz → cur'[k]? = cur[k]?) ∨
       (∃ c cap' fr, w' = κ.w.drew.alloc (.cells c e fr) ∧ v' = .slice (some ⟨κ.w.heap.size, 0, none⟩) (l.length + l2.length) cap')) :
    ∃ κ' t', κ'.w = w' ∧ κ.Le κ' ∧ Inv κ' (σ.newTok old t' (e, sz)) ∧ Rv κ' (.own t' sz (l ++ l2)) v' ∧ σ.tok t' = none := by
  obtain ⟨t', ht', htok'⟩ := hI.freshTok
  have hszall : ∀ y ∈ l ++ l2, y.cells.length = sz := fun y hy => (List.mem_append.1 hy).elim (hlsz y) (hl2sz y)
  -- the world behind
  obtain ⟨κ', hw', hle, hρ, hτ, hIb, hIo, hkeep, hfree⟩ : ∃ κ' : K, κ'.w = w' ∧ κ.Le κ' ∧ κ'.ρ = κ.ρ ∧ κ'.τ = (fun j => if j = t' then some v' else κ.τ j) ∧ (∀ b, tokBlock v' = some b → κ'.I b = (l ++ l2).length * sz) ∧
      (∀ b, tokBlock v' ≠ some b → κ'.I b = κ.I b) ∧ (∀ b, tokBlock v' ≠ some b → b < κ.w.heap.size → κ'.w.heap[b]? = κ.w.heap[b]?) ∧
      (∀ b, tokBlock v' = some b → κ.w.heap.size ≤ b ∨ ∃ t v q, old = some t ∧ σ.tok t = some q ∧ κ.τ t = some v ∧ tokBlock v = some b) := by
    have tau : ∀ (t : Nat) v, κ.τ t = some v → (if t = t' then some v' else κ.τ t) = some v := fun t v hv => by
      rw [if_neg (fun hh => by rw [hh, ht'] at hv; cases hv)]; exact hv
    rcases hcase with ⟨rfl, rfl, hm⟩ | ⟨g, cap, cur, cur', fr, hev, hg, rfl, rfl, hcs, hbg, hck⟩ | ⟨c, cap', fr, rfl, rfl⟩
    · refine ⟨{ κ with τ := fun j => if j = t' then some _ else κ.τ j }, rfl, ⟨rfl, Below.refl _ _, fun _ _ h => h, fun _ _ h => h, tau, fun _ => Nat.le_refl _, fun _ _ _ _ h => h, Nat.le_refl _⟩, rfl, rfl, fun b hb => ?_, fun _ _ => rfl, fun _ _ _ => rfl, fun b hb => .inr (hfreeold b hb)⟩
      show κ.I b = _
      rw [hIold b hb, List.length_append, hm, Nat.add_zero]
    · have hIg : κ.I g = l.length * sz := hIold g (by rw [hev]; rfl)
      have hgt := setRow_heap κ.w g cur cur' e fr hg
      refine ⟨{ κ with w := κ.w.setRow g cur', τ := fun j => if j = t' then some _ else κ.τ j, I := fun b => if b = g then (l ++ l2).length * sz else κ.I b }, rfl,
        ⟨rfl, ⟨rfl, rfl, rfl, by simp [World.setRow], fun k hk => setRow_other κ.w g k cur' (by omega)⟩, fun b s hs => ?_, fun _ _ h => h, tau, fun b => ?_, fun b off v ho hv => ?_, Nat.le_refl _⟩, rfl, rfl, fun b hb => ?_, fun b hb => ?_, fun b hb hlt => ?_, fun b hb => .inr (hfreeold b ?_)⟩
      · show (κ.w.setRow g cur').shape? b = _
        by_cases hbg' : b = g
        · subst hbg'
          unfold World.shape? at hs ⊢
          rw [hg] at hs
          rw [hgt]
          simpa [hcs] using hs
        · unfold World.shape? at hs ⊢
          rw [setRow_other κ.w g b cur' hbg']
          exact hs
      · show _ ≤ (if b = g then _ else _)
        split
        · rename_i hh; subst hh; rw [hIg, List.length_append, Nat.add_mul]; omega
        · exact Nat.le_refl _
      · show (κ.w.setRow g cur').cell? _ = _
        by_cases hbg' : b = g
        · subst hbg'
          rw [hIg] at ho
          rw [cell_of_row _ _ _ _ _ _ hg] at hv
          rw [cell_of_row _ _ _ _ _ _ hgt, hck off ho]
          exact hv
        · simp only [World.cell?] at hv ⊢
          rw [setRow_other κ.w g b cur' hbg']
          exact hv
      · have : g = b := by simpa [tokBlock] using hb
        subst this
        simp
      · have : b ≠ g := fun hh => hb (by subst hh; rfl)
        simp [this]
      · exact setRow_other κ.w g b cur' (fun hh => hb (by subst hh; rfl))
      · rw [hev]
        have : g = b := by simpa [tokBlock] using hb
        subst this; rfl
    · refine ⟨{ κ with w := κ.w.drew.alloc (.cells c e fr), τ := fun j => if j = t' then some _ else κ.τ j, I := fun b => if b = κ.w.heap.size then (l ++ l2).length * sz else κ.I b }, rfl,
        ⟨rfl, ((Below.refl _ _).drew).alloc hI.base _, fun b s hs => shape?_alloc_old κ.w.drew _ b s hs, fun _ _ h => h, tau, fun b => ?_, fun b off v _ hv => cell?_alloc_old' κ.w.drew _ b off v hv, Nat.le_succ _⟩, rfl, rfl, fun b hb => ?_, fun b hb => ?_, fun b hb hlt => ?_, fun b hb => .inl ?_⟩
      · show _ ≤ (if b = _ then _ else _)
        split
        · rename_i hh; subst hh; rw [hI.frI _ (Nat.le_refl _)]; exact Nat.zero_le _
        · exact Nat.le_refl _
      · have : κ.w.heap.size = b := by simpa [tokBlock] using hb
        subst this
        simp
      · have : b ≠ κ.w.heap.size := fun hh => hb (by subst hh; rfl)
        simp [this]
      · exact Below.heap_alloc κ.w.drew _ b hlt
      · have : κ.w.heap.size = b := by simpa [tokBlock] using hb
        omega
  subst hw'
  have hr' : RvC κ' (flat (l ++ l2)) (us ++ vs) := by rw [flat_append]; exact (hus.mono hle).append (hvsr.mono hle)
  have hown2 : OwnsRow κ'.w κ'.base e sz v' (l ++ l2).length (us ++ vs) := by rw [hle.base, List.length_append]; exact hown'
  have hok : TokOk κ' (e, sz) v' := ⟨_, _, hown2, hIb⟩
  have hsl := rv_of_owns hszall hown2 hr' hIb
  exact ⟨κ', t', rfl, hle, hI.tokStep hle hρ hτ hIo hkeep hok hfree, .own t' sz _ v' hsl (by rw [hτ]; simp), htok'⟩

theorem AOp_append {s x : Operand} {t e : TypeId} {sz by_ : Nat} {l l2 : List AVal} {old : Option Nat}
    (ho : o.op = .call { callee := .builtin .append, args := #[s, x], argTypes := #[t, t] }) (hse : sliceElem P t = some e) (hte : appInfo P e = some (sz, by_))
    (hs : (∃ k, α s = .own k sz l ∧ σ.tok k = some (e, sz) ∧ old = some k) ∨ (α s = .lit (.slice none 0 0) ∧ l = [] ∧ old = none))
    (hx : slOf (α x) = some (sz, l2) ∨ (α x = .lit (.slice none 0 0) ∧ l2 = [])) (hone : ∀ y ∈ l2, ∀ c ∈ y.cells, c.one = true)
    (hlen : (l.length + l2.length) * by_ ≤ 140737488355328)
    (hk : ∀ t', σ.tok t' = none → Kk (.own t' sz (l ++ l2)) (σ.newTok old t' (e, sz))) : AOp P o α σ Kk := by
  obtain ⟨dst, op, ty, pos, after, guard⟩ := o
  obtain rfl : op = .call { callee := .builtin .append, args := #[s, x], argTypes := #[t, t] } := ho
  intro κ ev hI hxx
  obtain ⟨i, z, hi, hz, hisz, hiby, hzs, hsz, hby⟩ := appInfo_spec hte
  have hts : P.underlying t = some (.slice e) := by
    unfold sliceElem at hse
    split at hse
    · rename_i e' he'; obtain rfl := Option.some.inj hse; exact he'
    · cases hse
  have hvs := hxx s (by simp [Op.operands, Call.operands])
  have hvx := hxx x (by simp [Op.operands, Call.operands])
  have hle47 : l.length + l2.length ≤ 140737488355328 := Nat.le_trans (Nat.le_mul_of_pos_right _ hby) hlen
  obtain ⟨us, hlsz, hown, hus, hIold, hfreeold⟩ := append_base hI hvs hs
  -- what is appended
  obtain ⟨vs, hl2sz, hvsr, hxv⟩ : ∃ vs, (∀ y ∈ l2, y.cells.length = sz) ∧ RvC κ (flat l2) vs ∧ ((ev x = .slice none 0 0 ∧ l2.length = 0) ∨ ∃ a c, ev x = .slice (some a) l2.length c ∧ ∀ j u, vs[j]? = some u → κ.w.cell? (a.add j) = some u) := by
    rcases hx with hx | ⟨hx, rfl⟩
    · obtain ⟨a, cap, us2, hev, hsz', hr, hc⟩ := sl_vals (slOf_rv hx hvx)
      refine ⟨us2, hsz', hr, ?_⟩
      rcases hc with ⟨rfl, rfl, rfl⟩ | ⟨ad, rfl, hcu⟩
      · exact .inl ⟨hev, rfl⟩
      · exact .inr ⟨ad, cap, hev, hcu⟩
    · rw [hx] at hvx
      exact ⟨[], by simp, .nil, .inl ⟨hvx.litInv, rfl⟩⟩
  have hfl2 : vs.length = l2.length * sz := by rw [← hvsr.1, flat_length hl2sz]
  have hones : ∀ u ∈ vs, u.oneCell' = true := by
    intro u hu
    obtain ⟨j, hj, rfl⟩ := List.getElem_of_mem hu
    have hj' : j < (flat l2).length := by rw [hvsr.1]; exact hj
    refine ((hvsr.2 j hj' hj).one ?_).1
    have : (flat l2)[j] ∈ flat l2 := List.getElem_mem hj'
    unfold flat at this
    obtain ⟨y, hy, hc⟩ := List.mem_flatMap.1 this
    exact hone y hy _ hc
  have hsrc : Src P sz t (ev x) l2.length vs κ.w := by
    rcases hxv with ⟨h1, h2⟩ | ⟨a, c, h1, h2⟩
    · rw [h1, h2]
      obtain rfl : vs = [] := List.eq_nil_of_length_eq_zero (by rw [hfl2, h2, Nat.zero_mul])
      exact Src.ofNil κ.w hts 0
    · rw [h1]; exact Src.ofSlice κ.w hts a l2.length c vs hfl2 h2 hones
  obtain ⟨v', w', hrun, hown', hcase⟩ := append_casesS (P := P) κ.w κ.base t t ty e i z sz by_ hts hi hz hisz hiby hzs hsz (ev s) l.length us hown (ev x) l2.length vs hfl2 hsrc (by simp only [maxLen]; omega) hlen hI.base
  obtain ⟨κ', t', rfl, hle, hI', hr', htok'⟩ := append_post hI hlsz hl2sz hus hvsr hIold hfreeold hown' hcase
  refine upon_v (s := Builtin.append_ #[t, t] ty #[ev s, ev x]) (by simp [execOp, resolve, invoke, builtin]) ⟨v', κ'.w, hrun, κ', .own t' sz (l ++ l2), σ.newTok old t' (e, sz), rfl, hle, hI', hr', hk t' htok'⟩

theorem afill_range {sz : Nat} {α : Operand → AVal} : ∀ (parts : List (Nat × Operand)) (k : Nat) (cs : List AVal), parts.map (·.1) = List.range' k parts.length → (∀ p ∈ parts, (α p.2).solid = true ∧ (α p.2).cells.length = sz) → cs.length = (k + parts.length) * sz →
    afill (fun i => some (i * sz, sz)) cs (parts.map fun p => (p.1, α p.2)) = some (cs.take (k * sz) ++ flat (parts.map fun p => α p.2))
  | [], k, cs, _, _, hn => by
    simp only [List.map_nil, afill, flat_nil, List.append_nil]
    rw [List.take_of_length_le (by rw [hn]; simp)]
  | (i, x) :: rest, k, cs, hk, hs, hn => by
    simp only [List.map_cons, List.length_cons, List.range'_succ, List.cons.injEq] at hk
    obtain ⟨rfl, hk⟩ := hk
    obtain ⟨h1, h2⟩ := hs (i, x) (List.mem_cons_self ..)
    dsimp only at h1 h2
    simp only [List.length_cons] at hn
    have hsz : i * sz + sz ≤ cs.length := by
      rw [hn, show i * sz + sz = (i + 1) * sz by rw [Nat.succ_mul]]
      exact Nat.mul_le_mul_right _ (by omega)
    simp only [List.map_cons, afill]
    rw [if_pos ⟨h1, h2, hsz⟩]
    have hlen : (aput cs (i * sz) (α x).cells).length = cs.length := by simp [aput, h2]; omega
    rw [afill_range rest (i + 1) (aput cs (i * sz) (α x).cells) hk (fun p hp => hs p (List.mem_cons_of_mem _ hp)) (by rw [hlen, hn]; congr 1; omega)]
    congr 1
    rw [flat_cons, ← List.append_assoc]
    congr 1
    simp only [aput]
    rw [List.take_append_of_le_length (by simp [h2, Nat.succ_mul]; omega), List.take_of_length_le (by simp [h2, Nat.succ_mul]; omega)]

set_option maxHeartbeats 2000000 in
theorem AOp_buildSlice {t e : TypeId} {n sz by_ : Nat} {parts : Array (Nat × Operand)} (ho : o.op = .buildSlice t n parts) (hse : sliceElem P t = some e) (hte : appInfo P e = some (sz, by_)) (hn : parts.toList.length = n) (hr : parts.toList.map (·.1) = List.range' 0 parts.toList.length)
    (hs : ∀ p ∈ parts.toList, (α p.2).solid = true ∧ (α p.2).cells.length = sz) (hbig : n * sz ≤ 16777216) (hk : Kk (.sl sz (parts.toList.map fun p => α p.2) true) σ) : AOp P o α σ Kk := by
  obtain ⟨dst, op, ty, pos, after, guard⟩ := o
  obtain rfl : op = .buildSlice t n parts := ho
  intro κ ev hI hx
  obtain ⟨i, z, hi, hz, hisz, hiby, hzs, hsz, hby⟩ := appInfo_spec hte
  have hts : P.underlying t = some (.slice e) := by
    unfold sliceElem at hse
    split at hse
    · rename_i e' he'; obtain rfl := Option.some.inj hse; exact he'
    · cases hse
  have hzv : zeroOf P e = some z := by simp [zeroOf, hi, hz]
  have hpx : ∀ p ∈ parts.toList, Rv κ (α p.2) (ev p.2) := fun p hp => hx p.2 (by
    simp only [Op.operands, List.mem_toArray, List.mem_map]
    exact ⟨p, hp, rfl⟩)
  obtain ⟨zs, hzs0⟩ : ∃ zs : Array Value, zs = (if n * sz = 0 then (#[] : Array Value) else z.cells) := ⟨_, rfl⟩
  obtain ⟨us, hus⟩ : ∃ us : Array Value, us = (Array.range (n * sz)).map (zs[· % zs.size]!) := ⟨_, rfl⟩
  have husz : us.size = n * sz := by rw [hus]; simp
  have hany : RvL κ (us.toList.map .lit) us := ⟨by simp, fun j hj => by
    have hj' : j < us.size := by simpa using hj
    simp only [List.getElem_map]
    rw [show us.getD j undef = us.toList[j]'(by simpa using hj') by simp [hj']]
    exact .lit _⟩
  obtain ⟨rs, hrs, hrr⟩ := run_afill (κ := κ) (fun i => some (i * sz, sz)) parts.toList (us.toList.map .lit) us _ hpx hany (afill_range parts.toList 0 _ hr hs (by simp [husz, hn]))
  rw [Nat.zero_mul, List.take_zero, List.nil_append] at hrr
  have hl : (parts.toList.map fun p => α p.2).length = n := by simp [hn]
  have hszl : ∀ x ∈ (parts.toList.map fun p => α p.2), x.cells.length = sz := fun x hx => by
    obtain ⟨p, hp, rfl⟩ := List.mem_map.1 hx
    exact (hs p hp).2
  have hfl : (flat (parts.toList.map fun p => α p.2)).length = n * sz := by rw [flat_length hszl, hl]
  have hle : κ.Le { κ with w := κ.w.alloc (.cells rs e), I := fun b => if b = κ.w.heap.size then n * sz else κ.I b } :=
    ⟨rfl, (Below.refl _ _).alloc hI.base _, fun b s h => shape?_alloc_old _ _ b s h, fun _ _ h => h, fun _ _ h => h, fun b => by
      show _ ≤ (if b = _ then _ else _)
      split
      · rename_i hh; subst hh; rw [hI.frI _ (Nat.le_refl _)]; exact Nat.zero_le _
      · exact Nat.le_refl _, fun b off v _ hv => cell?_alloc_old' _ _ b off v hv, Nat.le_refl _⟩
  refine upon_v (s := Instr.buildSlice t n (parts.map fun (i, x) => (i, ev x))) rfl ⟨.slice (some ⟨κ.w.heap.size, 0, none⟩) n n, κ.w.alloc (.cells rs e), ?_, _, _, σ, rfl, hle, ?_, ?_, hk⟩
  · unfold Instr.buildSlice
    simp only [Sem.run_bind, run_underlying hts, Result.andThen_ok, run_sizeOf' hi, hisz]
    rw [if_neg (by omega)]
    have hfill : Instr.fill (fun i => some (i * sz, sz)) us (parts.map fun (i, x) => (i, ev x)).toList = some rs := by
      simpa using hrs
    by_cases h0 : n * sz = 0
    · rw [if_pos h0] at hzs0 ⊢
      subst hzs0
      subst hus
      simp only [Sem.run_bind, Sem.run_pure, Result.andThen_ok, hfill, newRow, run_newObj, World.alloc_eq]
    · rw [if_neg h0] at hzs0 ⊢
      subst hzs0
      subst hus
      simp only [Sem.run_bind, Sem.run_pure, Result.andThen_ok, run_zeroValue' hzv, hfill, newRow, run_newObj, World.alloc_eq]
  · refine hI.quiet hle rfl rfl (fun b hb => ?_) (fun b hb => ?_) (fun b hb => Below.heap_alloc _ _ b hb)
    · show (if b = _ then _ else _) = _
      rw [if_neg (by omega)]
    · show (if b = _ then _ else _) = _
      have hb' : κ.w.heap.size + 1 ≤ b := by simpa using hb
      rw [if_neg (by omega)]
      exact hI.frI b (by omega)
  · have := Rv.sl (κ := { κ with w := κ.w.alloc (.cells rs e), I := fun b => if b = κ.w.heap.size then n * sz else κ.I b }) sz (parts.toList.map fun p => α p.2) true κ.w.heap.size 0 n (fun k => rs.getD k undef) (by omega) (fun _ => hl.symm) hszl
      (fun k hk => by
        refine ⟨by simp; omega, ?_⟩
        show (κ.w.alloc (.cells rs e)).cell? _ = _
        rw [cell_of_row _ _ _ rs e (0, 0) (heap_alloc_new _ _)]
        have hk' : k < rs.size := by rw [hrr.1]; exact hk
        simp [hk'])
      (fun k hk => (hrr.2 k hk).mono hle)
    rwa [hl] at this

/-- A nil slice is nobody's: it may be taken for one's own. -/
theorem AOp_nilOwn {x : Operand} {e : TypeId} {sz : Nat} (ho : o.op = .assign x) (hx : α x = .lit (.slice none 0 0)) (hk : ∀ t', σ.tok t' = none → Kk (.own t' sz []) (σ.newTok none t' (e, sz))) : AOp P o α σ Kk := by
  obtain ⟨dst, op, ty, pos, after, guard⟩ := o
  obtain rfl : op = .assign x := ho
  intro κ ev hI hxx
  have hv := hxx x (by simp [Op.operands])
  rw [hx] at hv
  have hv' := hv.litInv
  obtain ⟨t', ht', htok'⟩ := hI.freshTok
  have hle : κ.Le { κ with τ := fun j => if j = t' then some (.slice none 0 0) else κ.τ j } :=
    ⟨rfl, Below.refl _ _, fun _ _ h => h, fun _ _ h => h, fun t v hv => by
      show (if t = t' then _ else _) = _
      rw [if_neg (fun hh => by rw [hh, ht'] at hv; cases hv)]; exact hv, fun _ => Nat.le_refl _, fun _ _ _ _ h => h, Nat.le_refl _⟩
  have : (execOp ev { dst := dst, op := .assign x, type := ty, pos := pos, after := after, guard := guard }).run P κ.w = .ok (.value (ev x)) κ.w := by simp [execOp]
  rw [this, hv']
  exact ⟨{ κ with τ := fun j => if j = t' then some (.slice none 0 0) else κ.τ j }, .own t' sz [], σ.newTok none t' (e, sz), rfl, hle, hI.tokStep hle rfl rfl (fun _ _ => rfl) (fun _ _ _ => rfl) ⟨0, [], OwnsRow.nil _ _ _ _, by simp [tokBlock]⟩ (by simp [tokBlock]), .own t' sz [] _ (.slNil _ _) (by simp), hk t' htok'⟩

end

theorem Store.newTok_set (σ : Store) (o : Nat) (x : AObj) (a : Option Nat) (t : Nat) (p : TypeId × Nat) : (σ.set o x).newTok a t p = (σ.newTok a t p).set o x := rfl
theorem Store.newTok_heap (σ : Store) (o : Nat) (a : Option Nat) (t : Nat) (p : TypeId × Nat) : (σ.newTok a t p).heap o = σ.heap o := rfl
theorem Store.set_tok (σ : Store) (o : Nat) (x : AObj) (t : Nat) : (σ.set o x).tok t = σ.tok t := rfl
theorem Store.newTok_get (σ : Store) (a : Option Nat) (t : Nat) (p : TypeId × Nat) : (σ.newTok a t p).tok t = some p := by simp [Store.newTok]
theorem Store.newTok_step {σ : Store} {k k' : Nat} {p q : TypeId × Nat} (h : σ.tok k = none) : (σ.newTok none k p).newTok (some k) k' q = σ.newTok none k' q := by
  unfold Store.newTok
  congr 1
  funext i
  by_cases h1 : i = k'
  · simp [h1]
  · by_cases h2 : i = k
    · subst h2; simp [h1, h]
    · simp [h1, h2]

end Go.Ab
end
