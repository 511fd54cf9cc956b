/-
  WHAT IS KNOWN OF WRITES, plainly: rows that rise, each node's dots as a set, contexts joined; Few parts, as functions; A STORE BY ITS FACTS: what was built is let go, what is known of it stays; THE LIBRARY's SORT OF STRUCTS by the kit's contract; what a comparison that only looks costs there; OBJECTS MERGED, plainly: per dot nothing is known, a value, or that it is replaced; merging is the greater of these; The reference's contexts joined, a dot added: the same as the program's; The reference's Join and Add; Values sorted by their dots. Own work (an AI agent).
-/
import Derived.Test.YtgpibooklhakgaaGreatGP
import Derived.Test.YtgpibooklhakgaaGreatGE
import Derived.Test.YtgpibooklhakgaaGreatGF
import Derived.Shelf.SlSortCmp.WholeK
import Derived.Test.YtgpibooklhakgaaGreatGN

section
set_option linter.all false
set_option maxRecDepth 100000
namespace Go.Proofs.YtgpibooklhakgaaGreat
open Go.Ab

/-! ### rows that rise -/
theorem rise_unique {α : Type} {r : α → α → Prop} (irr : ∀ a, ¬ r a a) (tr : ∀ a b c, r a b → r b c → r a c) : ∀ {l m : List α}, l.Pairwise r → m.Pairwise r → (∀ x, x ∈ l ↔ x ∈ m) → l = m
  | [], [], _, _, _ => rfl
  | [], y :: m, _, _, h => absurd ((h y).2 (.head _)) (by simp)
  | x :: l, [], _, _, h => absurd ((h x).1 (.head _)) (by simp)
  | x :: l, y :: m, hl, hm, h => by
    rw [List.pairwise_cons] at hl hm
    have hxy : x = y := by
      rcases List.mem_cons.1 ((h x).1 (.head _)) with e | e
      · exact e
      · rcases List.mem_cons.1 ((h y).2 (.head _)) with e' | e'
        · exact e'.symm
        · exact absurd (tr _ _ _ (hm.1 x e) (hl.1 y e')) (irr _)
    subst hxy
    rw [rise_unique irr tr hl.2 hm.2 fun z => ?_]
    constructor
    · intro hz
      rcases List.mem_cons.1 ((h z).1 (.tail _ hz)) with e | e
      · subst e; exact absurd (hl.1 _ hz) (irr _)
      · exact e
    · intro hz
      rcases List.mem_cons.1 ((h z).2 (.tail _ hz)) with e | e
      · subst e; exact absurd (hm.1 _ hz) (irr _)
      · exact e

theorem compactUpTo_spec {α : Type} [Inhabited α] [DecidableEq α] {r : α → α → Prop} (tr : ∀ a b c, r a b → r b c → r a c) (zs : List α) (hs : zs.Pairwise fun x y => x = y ∨ r x y) :
    ∀ m, m ≤ zs.length → (Lib.compactUpTo zs.toArray m).Pairwise r ∧ (∀ x, x ∈ Lib.compactUpTo zs.toArray m ↔ x ∈ zs.take m) ∧ (∀ x ∈ Lib.compactUpTo zs.toArray m, ∀ y, zs[m - 1]? = some y → x = y ∨ r x y)
  | 0, _ => by simp [Lib.compactUpTo]
  | m + 1, hm => by
    obtain ⟨h1, h2, h3⟩ := compactUpTo_spec tr zs hs m (by omega)
    have hz : zs[m]? = some zs[m] := List.getElem?_eq_getElem (by omega)
    have hz' : zs.toArray[m]! = zs[m] := by simp [show m < zs.length by omega]
    rw [Lib.compactUpTo_succ, hz']
    have ht : zs.take (m + 1) = zs.take m ++ [zs[m]] := by rw [List.take_succ_eq_append_getElem (by omega)]
    have e1 : ∀ y, zs[m + 1 - 1]? = some y → y = zs[m] := fun y hy => by rw [Nat.add_sub_cancel, hz] at hy; exact (Option.some.inj hy).symm
    by_cases hk : m = 0
    · subst hk
      have : Lib.keeps zs.toArray 0 = true := by simp [Lib.keeps]
      rw [this, ht]
      have hn : Lib.compactUpTo zs.toArray 0 = [] := by simp [Lib.compactUpTo]
      rw [hn]
      refine ⟨by simp, by simp, fun x hx y hy => ?_⟩
      have := e1 y hy
      simp at hx; subst hx; left; exact this.symm
    · have hp : zs[m - 1]? = some zs[m - 1] := List.getElem?_eq_getElem (by omega)
      have hp' : zs.toArray[m - 1]! = zs[m - 1] := by simp [show m - 1 < zs.length by omega]
      have hord := List.pairwise_iff_getElem.1 hs (m - 1) m (by omega) (by omega) (by omega)
      by_cases he : zs[m] = zs[m - 1]
      · have : Lib.keeps zs.toArray m = false := by simp only [Lib.keeps, hz', hp']; simp [hk, he]
        rw [this]
        simp only [Bool.false_eq_true, if_false, List.append_nil]
        refine ⟨h1, fun x => ?_, fun x hx y hy => ?_⟩
        · rw [h2 x, ht, List.mem_append, List.mem_singleton]
          constructor
          · exact .inl
          · rintro (h | h)
            · exact h
            · rw [h, he]; exact List.mem_take_iff_getElem.2 ⟨m - 1, by omega, rfl⟩
        · rw [e1 y hy, he]; exact h3 x hx _ hp
      · have : Lib.keeps zs.toArray m = true := by simp only [Lib.keeps, hz', hp']; simp [he]
        rw [this]
        simp only [if_true]
        have hlt : r zs[m - 1] zs[m] := by
          rcases hord with h | h
          · exact absurd h.symm he
          · exact h
        have hall : ∀ x ∈ Lib.compactUpTo zs.toArray m, r x zs[m] := fun x hx => by
          rcases h3 x hx _ hp with h | h
          · rw [h]; exact hlt
          · exact tr _ _ _ h hlt
        refine ⟨?_, fun x => ?_, fun x hx y hy => ?_⟩
        · rw [List.pairwise_append]
          exact ⟨h1, List.pairwise_singleton _ _, fun x hx y hy => by rw [List.mem_singleton.1 hy]; exact hall x hx⟩
        · rw [List.mem_append, h2 x, ht, List.mem_append]
        · rw [e1 y hy]
          rcases List.mem_append.1 hx with h | h
          · exact .inr (hall x h)
          · exact .inl (List.mem_singleton.1 h)
theorem compact_spec {α : Type} [Inhabited α] [DecidableEq α] {r : α → α → Prop} (tr : ∀ a b c, r a b → r b c → r a c) (zs : List α) (hs : zs.Pairwise fun x y => x = y ∨ r x y) :
    (Lib.compact zs).Pairwise r ∧ ∀ x, x ∈ Lib.compact zs ↔ x ∈ zs := by
  obtain ⟨h1, h2, _⟩ := compactUpTo_spec tr zs hs zs.length (Nat.le_refl _)
  rw [List.take_length] at h2
  exact ⟨h1, h2⟩

/-! ### numbers, once each, rising -/
theorem onceI_rise (l : List Int) : (onceI l).Pairwise (· < ·) ∧ ∀ x, x ∈ onceI l ↔ x ∈ l := by
  have hs : (sortII l).Pairwise fun x y : Int => x = y ∨ x < y := by
    have := List.pairwise_mergeSort (le := fun x y : Int => decide (x ≤ y)) (fun a b c h1 h2 => by simp at *; omega) (fun a b => by simp; omega) l
    exact this.imp fun h => by simp at h; omega
  obtain ⟨h1, h2⟩ := compact_spec (r := fun x y : Int => x < y) (fun a b c h1 h2 => Int.lt_trans h1 h2) (sortII l) hs
  exact ⟨h1, fun x => by rw [onceI, h2]; unfold sortII; exact List.mem_mergeSort⟩
theorem onceI_unique {l m : List Int} (hm : m.Pairwise (· < ·)) (h : ∀ x, x ∈ m ↔ x ∈ l) : onceI l = m :=
  rise_unique (r := fun x y : Int => x < y) (fun a => Int.lt_irrefl a) (fun a b c h1 h2 => Int.lt_trans h1 h2) (onceI_rise l).1 hm fun x => by rw [(onceI_rise l).2, h]
/-! ### names, once each, rising -/
def RiseN (l : List ByteArray) : Prop := l.Pairwise fun x y => sLt x y = true
theorem onceN_rise (ss : List ByteArray) : RiseN (compactL (sortSS ss)) ∧ ∀ s, s ∈ compactL (sortSS ss) ↔ s ∈ ss := by
  have e : (sortSS ss).map Lb = (ss.map Lb).mergeSort fun x y => decide (x ≤ y) := by
    unfold sortSS
    rw [List.map_map]
    conv => rhs; rw [← List.map_id ((ss.map Lb).mergeSort fun x y => decide (x ≤ y))]
    apply List.map_congr_left; intro x _; exact Lb_B x
  have hs : ((sortSS ss).map Lb).Pairwise fun x y : List UInt8 => x = y ∨ x < y := by
    rw [e]
    have := List.pairwise_mergeSort (le := fun x y : List UInt8 => decide (x ≤ y)) (fun a b c h1 h2 => by simp only [decide_eq_true_eq] at *; exact List.le_trans h1 h2) (fun a b => by simp only [Bool.or_eq_true, decide_eq_true_eq]; exact List.le_total a b) (ss.map Lb)
    exact this.imp fun {a b} h => by
      simp only [decide_eq_true_eq] at h
      by_cases hlt : a < b
      · exact .inr hlt
      · exact .inl (List.le_antisymm h (List.not_lt.1 hlt))
  obtain ⟨h1, h2⟩ := compact_spec (r := fun x y : List UInt8 => x < y) (fun a b c h1 h2 => List.lt_trans h1 h2) _ hs
  refine ⟨?_, fun s => ?_⟩
  · unfold RiseN compactL
    rw [List.pairwise_map]
    exact h1.imp fun h => by rw [sLt_def, Lb_B, Lb_B]; exact decide_eq_true h
  · unfold compactL
    rw [List.mem_map]
    constructor
    · rintro ⟨l, hl, rfl⟩
      have := (h2 l).1 hl
      rw [e, List.mem_mergeSort] at this
      obtain ⟨t, ht, rfl⟩ := List.mem_map.1 this
      rw [B_Lb]; exact ht
    · intro hs'
      exact ⟨Lb s, (h2 _).2 (by rw [e, List.mem_mergeSort]; exact List.mem_map.2 ⟨s, hs', rfl⟩), B_Lb s⟩
theorem riseN_unique {l m : List ByteArray} (hl : RiseN l) (hm : RiseN m) (h : ∀ x, x ∈ l ↔ x ∈ m) : l = m :=
  rise_unique (r := fun x y : ByteArray => sLt x y = true) (fun a => by rw [sLt_irrefl]; simp) (fun a b c h1 h2 => sLt_trans h1 h2) hl hm h

/-! ### a node's dots -/
def Kn (x : Seen) (n : Int) : Prop := (0 < n ∧ n ≤ x.base) ∨ n ∈ x.more
theorem inS_iff {l : List Int} {n : Int} : inS l n = true ↔ n ∈ l := by simp [inS]
theorem hasX_iff {x : Seen} {s : ByteArray} {n : Int} : hasX x s n = true ↔ x.node = s ∧ Kn x n := by
  simp [hasX, Kn, inS_iff]
theorem hasS_iff {c : List Seen} {s : ByteArray} {n : Int} : hasS c s n = true ↔ ∃ x ∈ c, x.node = s ∧ Kn x n := by
  simp [hasS, hasX_iff]
theorem riseOk_iff : ∀ {l : List Int} {z : Int}, riseOk z l = true ↔ l.Pairwise (· < ·) ∧ ∀ n ∈ l, z < n ∧ n ≤ 9007199254740992
  | [], z => by simp [riseOk]
  | m :: l, z => by
    simp only [riseOk, Bool.and_eq_true, decide_eq_true_eq, riseOk_iff (l := l), List.pairwise_cons, List.mem_cons]
    constructor
    · rintro ⟨⟨h1, h2⟩, h3, h4⟩
      exact ⟨⟨fun n hn => (h4 n hn).1, h3⟩, fun n hn => by rcases hn with rfl | hn; exact ⟨h1, h2⟩; have := h4 n hn; omega⟩
    · rintro ⟨⟨h1, h2⟩, h3⟩
      exact ⟨h3 m (.inl rfl), h2, fun n hn => ⟨h1 n hn, (h3 n (.inr hn)).2⟩⟩
structure SeenCn (x : Seen) : Prop where
  lo : 0 ≤ x.base
  hi : x.base ≤ 9007199254740992
  rise : x.more.Pairwise (· < ·)
  ab : ∀ n ∈ x.more, x.base + 1 < n ∧ n ≤ 9007199254740992
theorem seenOk_iff {x : Seen} : seenOk x = true ↔ nameOk x.node = true ∧ SeenCn x ∧ ∃ n, Kn x n := by
  simp only [seenOk, seenHd, Bool.and_eq_true, decide_eq_true_eq, riseOk_iff, Bool.not_eq_true', Bool.and_eq_false_iff, decide_eq_false_iff_not]
  constructor
  · rintro ⟨⟨⟨⟨h1, h2⟩, h3⟩, h4⟩, h5, h6⟩
    refine ⟨h1, ⟨h2, h3, h5, h6⟩, ?_⟩
    by_cases h0 : x.base = 0
    · rcases h4 with h | h
      · exact absurd h0 h
      · cases hm : x.more with
        | nil => rw [hm] at h; exact absurd rfl h
        | cons a l => exact ⟨a, .inr (by rw [hm]; exact .head _)⟩
    · exact ⟨1, .inl ⟨by omega, by omega⟩⟩
  · rintro ⟨h1, ⟨h2, h3, h4, h5⟩, n, hn⟩
    refine ⟨⟨⟨⟨h1, h2⟩, h3⟩, ?_⟩, h4, h5⟩
    by_cases h0 : x.base = 0
    · right
      rcases hn with h | h
      · omega
      · exact fun hh => by rw [List.length_eq_zero_iff.1 hh] at h; cases h
    · exact .inl h0
theorem cn_pos {x : Seen} (h : SeenCn x) {n : Int} (hn : Kn x n) : 0 < n ∧ n ≤ 9007199254740992 := by
  rcases hn with hn | hn
  · have := h.hi; omega
  · have := h.ab n hn; have := h.lo; omega
theorem cn_base {x y : Seen} (hx : SeenCn x) (hy : SeenCn y) (h : ∀ n, Kn x n → Kn y n) : x.base ≤ y.base := by
  by_cases hb : x.base ≤ y.base
  · exact hb
  · have h1 : Kn x (y.base + 1) := .inl ⟨by have := hy.lo; omega, by omega⟩
    rcases h _ h1 with h2 | h2
    · omega
    · have := (hy.ab _ h2).1; omega
theorem cn_unique {x y : Seen} (hx : SeenCn x) (hy : SeenCn y) (hn : x.node = y.node) (h : ∀ n, Kn x n ↔ Kn y n) : x = y := by
  have hb : x.base = y.base := Int.le_antisymm (cn_base hx hy fun n => (h n).1) (cn_base hy hx fun n => (h n).2)
  have hm : x.more = y.more := rise_unique (r := fun x y : Int => x < y) (fun a => Int.lt_irrefl a) (fun a b c h1 h2 => Int.lt_trans h1 h2) hx.rise hy.rise fun n => by
    constructor
    · intro hn
      have h1 := (hx.ab n hn).1
      rcases (h n).1 (.inr hn) with h2 | h2
      · omega
      · exact h2
    · intro hn
      have h1 := (hy.ab n hn).1
      rcases (h n).2 (.inr hn) with h2 | h2
      · omega
      · exact h2
  cases x; cases y; simp at hn hb hm ⊢; exact ⟨hn, hb, hm⟩
theorem bfold_spec : ∀ (L : List Int) (b : Int) (rest : List Int), L.Pairwise (· < ·) → (∀ n ∈ L, 0 < n ∧ n ≤ 9007199254740992) → 0 ≤ b → b ≤ 9007199254740992 → rest.Pairwise (· < ·) → (∀ m ∈ rest, b + 1 < m ∧ m ≤ 9007199254740992) → (∀ m ∈ rest, ∀ n ∈ L, m < n) →
    0 ≤ (L.foldl bstep (b, rest)).1 ∧ (L.foldl bstep (b, rest)).1 ≤ 9007199254740992 ∧ (L.foldl bstep (b, rest)).2.Pairwise (· < ·) ∧ (∀ m ∈ (L.foldl bstep (b, rest)).2, (L.foldl bstep (b, rest)).1 + 1 < m ∧ m ≤ 9007199254740992) ∧
    ∀ n, ((0 < n ∧ n ≤ (L.foldl bstep (b, rest)).1) ∨ n ∈ (L.foldl bstep (b, rest)).2) ↔ ((0 < n ∧ n ≤ b) ∨ n ∈ rest ∨ n ∈ L)
  | [], b, rest, _, _, h3, h4, h5, h6, _ => ⟨h3, h4, h5, h6, fun n => by simp⟩
  | k :: L, b, rest, h1, h2, h3, h4, h5, h6, h7 => by
    rw [List.pairwise_cons] at h1
    have hk := h2 k (.head _)
    rw [List.foldl_cons]
    by_cases c1 : k = b + 1
    · have hr : rest = [] := by
        cases rest with
        | nil => rfl
        | cons m r => have := (h6 m (.head _)).1; have := h7 m (.head _) k (.head _); omega
      subst hr
      have e : bstep (b, []) k = (k, []) := by simp [bstep, c1]
      rw [e]
      obtain ⟨g1, g2, g3, g4, g5⟩ := bfold_spec L k [] h1.2 (fun n hn => h2 n (.tail _ hn)) (by omega) hk.2 .nil (fun m hm => by cases hm) (fun m hm => by cases hm)
      refine ⟨g1, g2, g3, g4, fun n => ?_⟩
      rw [g5 n]
      simp only [List.not_mem_nil, false_or, List.mem_cons]
      constructor
      · rintro (h | h)
        · by_cases hn : n = k
          · exact .inr (.inl hn)
          · left; omega
        · exact .inr (.inr h)
      · rintro (h | h | h)
        · left; omega
        · left; omega
        · exact .inr h
    · by_cases c2 : b < k
      · have e : bstep (b, rest) k = (b, rest ++ [k]) := by simp [bstep, c1, c2]
        rw [e]
        obtain ⟨g1, g2, g3, g4, g5⟩ := bfold_spec L b (rest ++ [k]) h1.2 (fun n hn => h2 n (.tail _ hn)) h3 h4 (by
            rw [List.pairwise_append]
            exact ⟨h5, List.pairwise_singleton _ _, fun x hx y hy => by rw [List.mem_singleton.1 hy]; exact h7 x hx k (.head _)⟩) (fun m hm => by
            rcases List.mem_append.1 hm with h | h
            · exact h6 m h
            · rw [List.mem_singleton.1 h]; omega) (fun m hm n hn => by
            rcases List.mem_append.1 hm with h | h
            · exact h7 m h n (.tail _ hn)
            · rw [List.mem_singleton.1 h]; exact h1.1 n hn)
        refine ⟨g1, g2, g3, g4, fun n => ?_⟩
        rw [g5 n]
        simp only [List.mem_append, List.mem_singleton, List.mem_cons, or_assoc, List.not_mem_nil, false_or]
      · have e : bstep (b, rest) k = (b, rest) := by simp [bstep, c1, c2]
        rw [e]
        obtain ⟨g1, g2, g3, g4, g5⟩ := bfold_spec L b rest h1.2 (fun n hn => h2 n (.tail _ hn)) h3 h4 h5 h6 (fun m hm n hn => h7 m hm n (.tail _ hn))
        refine ⟨g1, g2, g3, g4, fun n => ?_⟩
        rw [g5 n, List.mem_cons]
        constructor
        · rintro (h | h | h)
          · exact .inl h
          · exact .inr (.inl h)
          · exact .inr (.inr (.inr h))
        · rintro (h | h | h | h)
          · exact .inl h
          · exact .inr (.inl h)
          · left; omega
          · exact .inr (.inr h)
theorem both_spec {a b : Seen} (ha : SeenCn a) (hb : SeenCn b) : (bothS a b).node = a.node ∧ SeenCn (bothS a b) ∧ ∀ n, Kn (bothS a b) n ↔ Kn a n ∨ Kn b n := by
  obtain ⟨o1, o2⟩ := onceI_rise (a.more ++ b.more)
  have hpos : ∀ n ∈ onceI (a.more ++ b.more), 0 < n ∧ n ≤ 9007199254740992 := fun n hn => by
    rw [o2, List.mem_append] at hn
    rcases hn with h | h
    · exact cn_pos ha (.inr h)
    · exact cn_pos hb (.inr h)
  have l1 := ha.lo; have l2 := hb.lo; have u1 := ha.hi; have u2 := hb.hi
  obtain ⟨g1, g2, g3, g4, g5⟩ := bfold_spec (onceI (a.more ++ b.more)) (max a.base b.base) [] o1 hpos (by omega) (by omega) .nil (fun m hm => by cases hm) (fun m hm => by cases hm)
  refine ⟨rfl, ⟨g1, g2, g3, g4⟩, fun n => ?_⟩
  have := g5 n
  unfold Kn bothS bothF
  rw [this, o2, List.mem_append]
  simp only [List.not_mem_nil, false_or]
  constructor
  · rintro (h | h | h)
    · by_cases hh : n ≤ a.base
      · exact .inl (.inl ⟨h.1, hh⟩)
      · exact .inr (.inl ⟨h.1, by omega⟩)
    · exact .inl (.inr h)
    · exact .inr (.inr h)
  · rintro ((h | h) | (h | h))
    · left; omega
    · exact .inr (.inl h)
    · left; omega
    · exact .inr (.inr h)

/-! ### contexts -/
def RiseX (c : List Seen) : Prop := c.Pairwise fun x y => sLt x.node y.node = true
def room (c : List Seen) : Nat := (c.map fun x => x.more.length).sum
structure CtxG (c : List Seen) : Prop where
  rise : RiseX c
  ok : ∀ x ∈ c, seenOk x = true
theorem ctxGo_iff : ∀ {l : List Seen} {pv : Option ByteArray} {rm : Int}, 0 ≤ rm → (ctxGo pv rm l = true ↔ (∀ p, pv = some p → ∀ x ∈ l, sLt p x.node = true) ∧ CtxG l ∧ (room l : Int) ≤ rm)
  | [], pv, rm, h => by simp [ctxGo, room, CtxG.mk, h]; exact ⟨.nil, fun x hx => by cases hx⟩
  | x :: l, pv, rm, h => by
    simp only [ctxGo, Bool.and_eq_true, decide_eq_true_eq]
    have e : (room (x :: l) : Int) = x.more.length + room l := by simp [room]
    constructor
    · rintro ⟨⟨⟨h1, h2⟩, h3⟩, h4⟩
      obtain ⟨g1, g2, g3⟩ := (ctxGo_iff (l := l) (pv := some x.node) (rm := rm - x.more.length) (by omega)).1 h4
      refine ⟨fun p hp y hy => ?_, ⟨List.pairwise_cons.2 ⟨fun y hy => g1 _ rfl y hy, g2.rise⟩, fun y hy => ?_⟩, by omega⟩
      · subst hp
        have h5 : sLt p x.node = true := h2
        rcases List.mem_cons.1 hy with rfl | hy
        · exact h5
        · exact sLt_trans h5 (g1 _ rfl y hy)
      · rcases List.mem_cons.1 hy with rfl | hy
        · exact h1
        · exact g2.ok y hy
    · rintro ⟨h1, ⟨h2, h3⟩, h4⟩
      have hp := List.pairwise_cons.1 h2
      refine ⟨⟨⟨h3 x (.head _), ?_⟩, by omega⟩, (ctxGo_iff (l := l) (pv := some x.node) (rm := rm - x.more.length) (by omega)).2 ⟨fun p hp' y hy => by cases hp'; exact hp.1 y hy, ⟨hp.2, fun y hy => h3 y (.tail _ hy)⟩, by omega⟩⟩
      cases pv with
      | none => rfl
      | some p => exact h1 p rfl x (.head _)
theorem ctxOk_iff {c : List Seen} : ctxOk c = true ↔ CtxG c ∧ room c ≤ 4096 := by
  unfold ctxOk
  rw [ctxGo_iff (by decide)]
  constructor
  · rintro ⟨_, h1, h2⟩; exact ⟨h1, by omega⟩
  · rintro ⟨h1, h2⟩; exact ⟨(fun p hp => by cases hp), h1, by omega⟩
theorem seen0_cn (s : ByteArray) : SeenCn (seen0 s) := ⟨Int.le_refl 0, by show (0 : Int) ≤ _; decide, .nil, fun n hn => by cases hn⟩
theorem seen0_kn (s : ByteArray) (n : Int) : ¬ Kn (seen0 s) n := by rintro (⟨h1, h2⟩ | h); exact absurd h2 (by show ¬ n ≤ 0; omega); cases h
theorem riseX_one {c : List Seen} (h : RiseX c) {x y : Seen} (hx : x ∈ c) (hy : y ∈ c) (e : x.node = y.node) : x = y := by
  induction c with
  | nil => cases hx
  | cons z c ih =>
    have hp := List.pairwise_cons.1 h
    rcases List.mem_cons.1 hx with h1 | h1 <;> rcases List.mem_cons.1 hy with h2 | h2
    · rw [h1, h2]
    · exact absurd (h1 ▸ e) (sLt_ne (hp.1 y h2))
    · exact absurd (h2 ▸ e.symm) (sLt_ne (hp.1 x h1))
    · exact ih hp.2 h1 h2
theorem ofS_mem {c : List Seen} (h : RiseX c) {x : Seen} (hx : x ∈ c) : ofS c x.node = x := by
  unfold ofS
  split
  · rename_i y hy
    exact riseX_one h (List.mem_of_find?_eq_some hy) hx (by simpa using List.find?_some hy)
  · rename_i hy
    have := List.find?_eq_none.1 hy x hx
    simp at this
theorem ofS_not {c : List Seen} {s : ByteArray} (h : ∀ x ∈ c, x.node ≠ s) : ofS c s = seen0 s := by
  unfold ofS
  rw [List.find?_eq_none.2 fun x hx => by simpa using h x hx]
theorem ofS_spec {c : List Seen} (h : CtxG c) (s : ByteArray) : SeenCn (ofS c s) ∧ ∀ n, Kn (ofS c s) n ↔ hasS c s n = true := by
  by_cases hx : ∃ x ∈ c, x.node = s
  · obtain ⟨x, hx, rfl⟩ := hx
    rw [ofS_mem h.rise hx]
    refine ⟨(seenOk_iff.1 (h.ok x hx)).2.1, fun n => ?_⟩
    rw [hasS_iff]
    exact ⟨fun hn => ⟨x, hx, rfl, hn⟩, fun ⟨y, hy, e, hn⟩ => by rw [← riseX_one h.rise hy hx e]; exact hn⟩
  · have hx' : ∀ x ∈ c, x.node ≠ s := fun x hxc e => hx ⟨x, hxc, e⟩
    rw [ofS_not hx']
    refine ⟨seen0_cn s, fun n => ⟨fun hn => absurd hn (seen0_kn s n), fun hn => ?_⟩⟩
    obtain ⟨y, hy, e, _⟩ := hasS_iff.1 hn
    exact absurd e (hx' y hy)
theorem ctx_unique {a b : List Seen} (ha : CtxG a) (hb : CtxG b) (h : ∀ s n, hasS a s n = hasS b s n) : a = b := by
  have key : ∀ {a b : List Seen}, CtxG a → CtxG b → (∀ s n, hasS a s n = hasS b s n) → ∀ x ∈ a, x ∈ b := fun {a b} ha hb h x hx => by
    obtain ⟨_, hcx, n, hn⟩ := seenOk_iff.1 (ha.ok x hx)
    have h1 : hasS a x.node n = true := hasS_iff.2 ⟨x, hx, rfl, hn⟩
    rw [h] at h1
    obtain ⟨y, hy, e, _⟩ := hasS_iff.1 h1
    have hcy := (seenOk_iff.1 (hb.ok y hy)).2.1
    have : x = y := cn_unique hcx hcy e.symm fun m => by
      have e1 := (ofS_spec ha x.node).2 m
      have e2 := (ofS_spec hb x.node).2 m
      rw [ofS_mem ha.rise hx] at e1
      rw [← e, ofS_mem hb.rise hy, e] at e2
      rw [e1, e2, h]
    rw [this]; exact hy
  exact rise_unique (r := fun x y : Seen => sLt x.node y.node = true) (fun x => by rw [sLt_irrefl]; simp) (fun x y z h1 h2 => sLt_trans h1 h2) ha.rise hb.rise fun x => ⟨key ha hb h x, key hb ha (fun s n => (h s n).symm) x⟩
theorem nodesS_spec (a b : List Seen) : RiseN (nodesS a b) ∧ ∀ s, s ∈ nodesS a b ↔ ∃ x ∈ a ++ b, x.node = s := by
  obtain ⟨h1, h2⟩ := onceN_rise ((a ++ b).map (·.node))
  exact ⟨h1, fun s => by rw [nodesS, h2, List.mem_map]⟩
theorem join_node {a b : List Seen} (s : ByteArray) : (bothS (ofS a s) (ofS b s)).node = s := ofS_node a s
theorem hasS_name {c : List Seen} {s : ByteArray} {n : Int} (hc : CtxG c) (h : hasS c s n = true) : nameOk s = true ∧ 0 < n ∧ n ≤ 9007199254740992 := by
  obtain ⟨x, hx, rfl, hn⟩ := hasS_iff.1 h
  obtain ⟨h1, h2, _⟩ := seenOk_iff.1 (hc.ok x hx)
  exact ⟨h1, cn_pos h2 hn⟩
theorem join_spec {a b : List Seen} (ha : CtxG a) (hb : CtxG b) : CtxG (joinAll a b) ∧ ∀ s n, hasS (joinAll a b) s n = (hasS a s n || hasS b s n) := by
  obtain ⟨h1, h2⟩ := nodesS_spec a b
  have sp := fun s => both_spec (ofS_spec ha s).1 (ofS_spec hb s).1
  have hk : ∀ s n, Kn (bothS (ofS a s) (ofS b s)) n ↔ hasS a s n = true ∨ hasS b s n = true := fun s n => by
    rw [(sp s).2.2 n, (ofS_spec ha s).2, (ofS_spec hb s).2]
  refine ⟨⟨?_, fun x hx => ?_⟩, fun s n => ?_⟩
  · unfold RiseX joinAll
    rw [List.pairwise_map]
    exact h1.imp fun h => by rw [join_node, join_node]; exact h
  · obtain ⟨s, hs, rfl⟩ := List.mem_map.1 hx
    obtain ⟨y, hy, rfl⟩ := (h2 s).1 hs
    have hyn : ∃ n, hasS a y.node n = true ∨ hasS b y.node n = true := by
      rcases List.mem_append.1 hy with h | h
      · obtain ⟨_, _, n, hn⟩ := seenOk_iff.1 (ha.ok y h); exact ⟨n, .inl (hasS_iff.2 ⟨y, h, rfl, hn⟩)⟩
      · obtain ⟨_, _, n, hn⟩ := seenOk_iff.1 (hb.ok y h); exact ⟨n, .inr (hasS_iff.2 ⟨y, h, rfl, hn⟩)⟩
    obtain ⟨n, hn⟩ := hyn
    refine seenOk_iff.2 ⟨?_, (sp _).2.1, n, (hk _ n).2 hn⟩
    rw [join_node]
    rcases hn with h | h
    · exact (hasS_name ha h).1
    · exact (hasS_name hb h).1
  · rw [Bool.eq_iff_iff, Bool.or_eq_true]
    constructor
    · intro h
      obtain ⟨x, hx, e, hn⟩ := hasS_iff.1 h
      obtain ⟨t, ht, rfl⟩ := List.mem_map.1 hx
      rw [join_node] at e
      subst e
      exact (hk _ n).1 hn
    · intro h
      have hs : s ∈ nodesS a b := by
        rw [h2]
        rcases h with h | h
        · obtain ⟨x, hx, e, _⟩ := hasS_iff.1 h; exact ⟨x, List.mem_append.2 (.inl hx), e⟩
        · obtain ⟨x, hx, e, _⟩ := hasS_iff.1 h; exact ⟨x, List.mem_append.2 (.inr hx), e⟩
      exact hasS_iff.2 ⟨_, List.mem_map.2 ⟨s, hs, rfl⟩, join_node s, (hk s n).2 h⟩
theorem join_comm {a b : List Seen} (ha : CtxG a) (hb : CtxG b) : joinAll a b = joinAll b a :=
  ctx_unique (join_spec ha hb).1 (join_spec hb ha).1 fun s n => by rw [(join_spec ha hb).2, (join_spec hb ha).2, Bool.or_comm]
theorem join_self {a : List Seen} (ha : CtxG a) : joinAll a a = a :=
  ctx_unique (join_spec ha ha).1 ha fun s n => by rw [(join_spec ha ha).2, Bool.or_self]
theorem ctxG_nil : CtxG [] := ⟨.nil, fun x hx => by cases hx⟩
theorem join_nil {a : List Seen} (ha : CtxG a) : joinAll a [] = a :=
  ctx_unique (join_spec ha ctxG_nil).1 ha fun s n => by rw [(join_spec ha ctxG_nil).2]; simp [hasS]
theorem nil_join {a : List Seen} (ha : CtxG a) : joinAll [] a = a := by rw [join_comm ctxG_nil ha, join_nil ha]
theorem join_assoc {a b c : List Seen} (ha : CtxG a) (hb : CtxG b) (hc : CtxG c) : joinAll (joinAll a b) c = joinAll a (joinAll b c) :=
  ctx_unique (join_spec (join_spec ha hb).1 hc).1 (join_spec ha (join_spec hb hc).1).1 fun s n => by
    rw [(join_spec (join_spec ha hb).1 hc).2, (join_spec ha hb).2, (join_spec ha (join_spec hb hc).1).2, (join_spec hb hc).2, Bool.or_assoc]
/-- how many are told one by one -/
theorem sum_at {s : ByteArray} {L : Nat} : ∀ {N : List ByteArray}, RiseN N → (N.map fun t => if s = t then L else 0).sum ≤ L
  | [], _ => by simp
  | t :: N, h => by
    have hp := List.pairwise_cons.1 h
    by_cases e : s = t
    · subst e
      have : (N.map fun t => if s = t then L else 0).sum = 0 := by
        rw [List.map_congr_left (g := fun _ => 0) fun x hx => if_neg (sLt_ne (hp.1 x hx))]
        clear hp h
        induction N with
        | nil => rfl
        | cons _ _ ih => simpa using ih
      simp [this]
    · have := sum_at (s := s) (L := L) hp.2
      simp only [List.map_cons, List.sum_cons, if_neg e]; omega
theorem sum_le {α : Type} {f g : α → Nat} : ∀ {l : List α}, (∀ x ∈ l, f x ≤ g x) → (l.map f).sum ≤ (l.map g).sum
  | [], _ => by simp
  | x :: l, h => by
    have := sum_le (l := l) fun y hy => h y (.tail _ hy)
    have := h x (.head _)
    simp only [List.map_cons, List.sum_cons]; omega
theorem sum_add {α : Type} (f g : α → Nat) : ∀ (l : List α), (l.map fun x => f x + g x).sum = (l.map f).sum + (l.map g).sum
  | [] => rfl
  | x :: l => by have := sum_add f g l; simp only [List.map_cons, List.sum_cons]; omega
theorem sum_of {N : List ByteArray} (hN : RiseN N) : ∀ (c : List Seen), (N.map fun s => (ofS c s).more.length).sum ≤ room c
  | [] => by
    have : (N.map fun s => (ofS [] s).more.length) = N.map fun _ => 0 := List.map_congr_left fun s _ => rfl
    rw [this]
    clear this hN
    induction N with
    | nil => simp [room]
    | cons _ _ ih => simpa using ih
  | x :: c => by
    have h1 := sum_of hN c
    have h2 : (N.map fun s => (ofS (x :: c) s).more.length).sum ≤ (N.map fun s => (if x.node = s then x.more.length else 0) + (ofS c s).more.length).sum := by
      refine sum_le fun s _ => ?_
      by_cases e : x.node = s
      · have : ofS (x :: c) s = x := by unfold ofS; rw [List.find?_cons_of_pos (by simpa using e)]
        rw [this, if_pos e]; omega
      · have : ofS (x :: c) s = ofS c s := by unfold ofS; rw [List.find?_cons_of_neg (by simpa using e)]
        rw [this]; omega
    rw [sum_add] at h2
    have h3 := sum_at (s := x.node) (L := x.more.length) hN
    have e : room (x :: c) = x.more.length + room c := by simp [room]
    omega
theorem join_room (a b : List Seen) : room (joinAll a b) ≤ room a + room b := by
  obtain ⟨h1, _⟩ := nodesS_spec a b
  have h2 : room (joinAll a b) ≤ ((nodesS a b).map fun s => (ofS a s).more.length + (ofS b s).more.length).sum := by
    unfold room joinAll
    rw [List.map_map]
    exact sum_le fun s _ => bothS_len _ _
  rw [sum_add] at h2
  have := sum_of h1 a
  have := sum_of h1 b
  omega
theorem join_ok {a b : List Seen} (ha : ctxOk a = true) (hb : ctxOk b = true) (h : room a + room b ≤ 4096) : joinS a b = (joinAll a b, 0) := by
  have h1 := ctxOk_iff.1 ha; have h2 := ctxOk_iff.1 hb
  have : ctxOk (joinAll a b) = true := ctxOk_iff.2 ⟨(join_spec h1.1 h2.1).1, Nat.le_trans (join_room a b) h⟩
  simp [joinS, ha, hb, this]
end Go.Proofs.YtgpibooklhakgaaGreat
end

section
set_option linter.all false
set_option maxRecDepth 100000
namespace Go.Proofs.YtgpibooklhakgaaGreat
open Go.Ab

theorem FewC.sm {c : List Seen} (h : FewC c) : (∀ x ∈ c, SeenSm x) ∧ c.length ≤ 1000 := ⟨fun x hx => ⟨by have := (h.2 x hx).1; omega, by have := (h.2 x hx).2; omega⟩, by have := h.1; omega⟩
theorem FewO.sm {o : Obj'} (h : FewO o) : ObjSm o := ⟨h.1.sm.1, fun x hx => ⟨by have := (h.2.2 x hx).2; omega, by have := (h.2.2 x hx).1; omega⟩, h.1.sm.2, by have := h.2.1; omega⟩
def fewCb (c : List Seen) : Bool := decide (c.length ≤ 12) && c.all fun x => decide (x.node.size ≤ 100) && decide (x.more.length ≤ 40)
theorem fewCb_iff {c : List Seen} : fewCb c = true ↔ FewC c := by simp [fewCb, FewC]
def fewOb (o : Obj') : Bool := fewCb o.ctx && decide (o.sibs.length ≤ 12) && o.sibs.all fun x => decide (x.value.size ≤ 300) && decide (x.node.size ≤ 100)
theorem fewOb_iff {o : Obj'} : fewOb o = true ↔ FewO o := by simp [fewOb, FewO, fewCb_iff, and_assoc]
theorem few06_f {c : List Seen} {t : Bool} {σ : Store} : ACalls Tryz.prog 13 [.sl 3 (c.map sSeen) t] σ fun v σ' => v = vB (fewCb c) ∧ σ = σ' :=
  few06_c.wkS fun v σ' ⟨⟨r, hv, hr⟩, hs⟩ => ⟨v, σ', .refl _, .refl _, by rw [hv, show r = fewCb c from by rw [Bool.eq_iff_iff, hr, fewCb_iff]], hs⟩
theorem few07_f {o : Obj'} {σ : Store} : ACalls Tryz.prog 14 [sObj o] σ fun v σ' => v = vB (fewOb o) ∧ σ = σ' :=
  few07_c.wkS fun v σ' ⟨⟨r, hv, hr⟩, hs⟩ => ⟨v, σ', .refl _, .refl _, by rw [hv, show r = fewOb o from by rw [Bool.eq_iff_iff, hr, fewOb_iff]], hs⟩
end Go.Proofs.YtgpibooklhakgaaGreat
end

section
set_option linter.all false
namespace Go.Ab
theorem awp_gen {P : Program} {n : Nat} {c : Code} {Q : Exit → Env → Store → Prop} {e : Env} {σ : Store} (h : ∀ S, S = σ → awp P n c Q e S) : awp P n c Q e σ := h σ rfl
section
variable {S S0 σ : Store} {o i : Nat} {x y z : AObj}
theorem gen_get (h : S = (S0.set o x).set o y) : S.heap o = some y := by rw [h]; exact Store.set_get ..
theorem gen_keep (h : S = (S0.set o x).set o y) (ho : S0.heap o = none) (hi : S0.heap i = some z) : S.heap i = some z := by
  have hne : i ≠ o := fun hh => by rw [hh, ho] at hi; cases hi
  rw [h, Store.set_ne _ _ hne, Store.set_ne _ _ hne]; exact hi
theorem gen_sub (h : S = (S0.set o x).set o y) (ho : S0.heap o = none) (hs : SubX [] σ S0) : SubX [] σ S := by
  have hno : σ.heap o = none := by
    cases hh : σ.heap o with
    | none => rfl
    | some w => have := hs.1 o w (by simp) hh; rw [ho] at this; cases this
  rw [h]
  exact subx_new hno (subx_new hno hs)
end
end Go.Ab
end

section
set_option linter.all false
namespace Go.Ab
open Go.RowKit (Below)
open Go.Shelf Go.Proofs Go.Sort

section
variable {P : Program} {σ : Store}
theorem world_grown {w w' : World} (hb : Below w.heap.size w w') (hd : w.drawn ≤ w'.drawn) : ∃ q os', w' = Sort.grow (w.drewN q) os' := by
  obtain ⟨heap, tape, drawn, os, output⟩ := w'
  obtain ⟨h1, h2, h3, h4, h5⟩ := hb
  simp only at h1 h2 h3 h4 h5 hd
  subst h1; subst h2; subst h3
  refine ⟨drawn - w.drawn, heap.extract w.heap.size heap.size, ?_⟩
  unfold Sort.grow World.drewN
  have e1 : w.drawn + (drawn - w.drawn) = drawn := by omega
  have e2 : w.heap ++ heap.extract w.heap.size heap.size = heap := by
    apply Array.ext_getElem?
    intro i
    by_cases hi : i < w.heap.size
    · rw [Array.getElem?_append_left hi, h5 i hi]
    · rw [Array.getElem?_append_right (by omega), Array.getElem?_extract]
      by_cases hi' : i < heap.size
      · rw [if_pos (by omega), show w.heap.size + (i - w.heap.size) = i by omega]
      · rw [if_neg (by omega), Array.getElem?_eq_none (by omega)]
  simp only [e1, e2]
theorem cmp_lays {g : FuncId} {a b : AVal} {u v : Value} {c : Int} (h : ACalls P g [a, b] s0 fun v σ' => v = vInt c ∧ s0 = σ') (ha : ∀ κ, Rv κ a u) (hb : ∀ κ, Rv κ b v) (w : World) :
    Calls P g #[u, v] w fun e w' => e = .returned (.int .i64 c) ∧ ∃ q os', w' = Sort.grow (w.drewN q) os' := by
  have := h (kOf w) #[u, v] (kOf_inv w) rfl (fun i hi => by
    match i, hi with
    | 0, _ => exact ha _
    | 1, _ => exact hb _)
  refine this.mono fun e w' ⟨cv, he, κ', a, σ', hw, hle, _, hv, ha⟩ => ?_
  obtain ⟨rfl, _⟩ := ha
  obtain rfl := hv.litInv
  subst hw
  exact ⟨he, world_grown hle.below hle.drawn⟩
theorem sortK_of {f : FuncId} {o k n : Nat} (F : List Value) (Q : List Value → Prop) (ho : σ.heap o = some (.cells (F.map .lit))) (extra : List AVal) (ev : List Value)
    (h : ∀ (b cap : Nat) (w : World), Sort.Holds id w b 0 F.toArray → b < w.heap.size → Calls P f (#[.slice (some ⟨b, 0, none⟩) n cap] ++ ev.toArray) w fun e w' => e = .returned (.tuple #[]) ∧ ∃ F' m os, Q F' ∧ F'.length = F.length ∧ w' = Sort.grow (Sort.putRow id (Sort.ahead w m) b 0 F'.toArray) os)
    (he : extra = ev.map .lit) : ACalls P f (.msl o k 0 n :: extra) σ fun v σ' => v = .tup [] ∧ ∃ F', Q F' ∧ σ' = σ.set o (.cells (F'.map .lit)) := by
  intro κ vs hI hn hv
  subst he
  obtain ⟨b, cap, e0, hb⟩ := (hv 0 (by simp)).mslInv
  have hvs : vs = #[.slice (some ⟨b, 0, none⟩) n cap] ++ ev.toArray := by
    apply Array.ext (by simpa [Nat.add_comm] using hn)
    intro i h1 h2
    have hi : i < (AVal.msl o k 0 n :: ev.map .lit).length := by rw [← hn]; exact h1
    have hr := hv i hi
    have eg : vs.getD i undef = vs[i] := by simp [h1]
    rw [eg] at hr
    cases i with
    | zero => rw [← eg, e0]; simp
    | succ i =>
      simp only [List.getElem_cons_succ, List.getElem_map] at hr
      rw [hr.litInv]
      simp [Array.getElem_append]
  obtain ⟨b', hb', hbase, hIb, c, e, hheap, hlen', hR⟩ := hI.heap o _ ho
  rw [hb] at hb'
  obtain rfl := Option.some.inj hb'
  have hlt : b < κ.w.heap.size := (Array.getElem?_eq_some_iff.1 hheap).1
  have hH : Sort.Holds id κ.w b 0 F.toArray := holds_of id F.toArray hheap (by simpa using hlen') fun j hj => by
    have hj' : j < F.length := by simpa using hj
    have h1 := hR j (by simpa using hj')
    simp only [List.getElem_map] at h1
    rw [h1.litInv]
    simp [hj']
  rw [hvs]
  refine (h b cap κ.w hH hlt).mono fun ex w' ⟨he, F', m, os, hQ, hlen, hw⟩ => ⟨_, he, ?_⟩
  have key := hI.rowed ho hb m (Sort.putCells id 0 F'.toArray) os (fun c => putCells_size id 0 _ c) (cs' := F'.map .lit) (fun c hc _ => ⟨by simpa [hlen] using hc, fun i hi => by
    have hi' : i < F'.length := by simpa using hi
    rw [putCells_at id F'.toArray c i (by simpa using hi') (by simp at hc ⊢; omega)]
    simp [hi']
    exact .lit _⟩)
  rw [hw]
  exact postNil (κ' := { κ with w := Ab.rowed κ.w m b (Sort.putCells id 0 F'.toArray) os }) key.1 key.2 ⟨rfl, F', hQ, rfl⟩
theorem flat_flatK {α : Type} [Inhabited α] (s : α → AVal) (enc : α → List Value) {k : Nat} (hs : ∀ x, (s x).cells = (enc x).map .lit) (hk : ∀ x, (enc x).length = k) (L : List α) : flat (L.map s) = ((flatK enc k L.toArray).toList).map .lit := by
  have hsz : ∀ y ∈ L.map s, y.cells.length = k := fun y hy => by
    obtain ⟨x, _, rfl⟩ := List.mem_map.1 hy
    rw [hs, List.length_map, hk]
  have hlen := flat_length hsz
  rw [List.length_map] at hlen
  apply List.ext_getElem (by simp [hlen])
  intro i h1 h2
  obtain ⟨hi, hj, e⟩ := flat_at hsz i h1
  rw [e]
  have hi' : i / k < L.length := by simpa using hi
  have hmod : i % k < k := by
    simp only [List.getElem_map, hs, List.length_map, hk] at hj
    exact hj
  simp only [List.getElem_map, hs, Array.getElem_toList]
  have h3 : i < L.toArray.size * k := by simpa [hlen] using h1
  have := get_flatK enc k L.toArray i h3
  rw [getElem!_pos (flatK enc k L.toArray) i (by simpa using h3)] at this
  rw [this]
  simp [hi', hk, hmod]
theorem perm_of {α : Type} [Inhabited α] {d d' : Array α} (h : Sort.PermIn 0 d.size d d') : d'.toList.Perm d.toList := by
  obtain ⟨h1, _, h2⟩ := h
  have e1 : (d'.extract 0 d.size).toList = d'.toList := by rw [← h1]; simp
  have e2 : (d.extract 0 d.size).toList = d.toList := by simp
  rw [e1, e2] at h2
  exact h2
theorem sorted_of {α : Type} [Inhabited α] {lt : α → α → Bool} {d : Array α} {n : Nat} (hn : d.size = n) (h : Sort.SortedIn lt 0 n d) : d.toList.Pairwise fun x y => lt y x = false := by
  rw [List.pairwise_iff_getElem]
  intro i j hi hj hij
  have := h i j (Nat.zero_le _) hij (by simp at hj; omega)
  simp at hi hj
  simpa [hi, hj] using this
end
end Go.Ab
end

section
set_option linter.all false
set_option maxRecDepth 100000
namespace Go.Proofs.YtgpibooklhakgaaGreat
open Go.Ab

/-! ### dots in order -/
theorem lessD_irrefl (s : ByteArray) (n : Int) : lessD s n s n = false := by simp [lessD, sLt_irrefl]
theorem lessD_trans {s t u : ByteArray} {k m n : Int} (h1 : lessD s k t m = true) (h2 : lessD t m u n = true) : lessD s k u n = true := by
  simp only [lessD, Bool.or_eq_true, Bool.and_eq_true, decide_eq_true_eq] at *
  rcases h1 with h1 | ⟨rfl, h1⟩ <;> rcases h2 with h2 | ⟨rfl, h2⟩
  · exact .inl (sLt_trans h1 h2)
  · exact .inl h1
  · exact .inl h2
  · exact .inr ⟨rfl, by omega⟩
theorem lessD_tri {s t : ByteArray} {k m : Int} (h : lessD s k t m = false) (hn : ¬ (s = t ∧ k = m)) : lessD t m s k = true := by
  simp only [lessD, Bool.or_eq_true, Bool.and_eq_true, decide_eq_true_eq, Bool.or_eq_false_iff, Bool.and_eq_false_iff, decide_eq_false_iff_not] at *
  obtain ⟨h1, h2⟩ := h
  by_cases e : s = t
  · subst e
    right; refine ⟨rfl, ?_⟩
    rcases h2 with h2 | h2
    · exact absurd rfl h2
    · have : k ≠ m := fun hh => hn ⟨rfl, hh⟩
      omega
  · exact .inl (sLt_tri h1 e)
theorem lessD_ne {s t : ByteArray} {k m : Int} (h : lessD s k t m = true) : ¬ (s = t ∧ k = m) := by
  rintro ⟨rfl, rfl⟩; rw [lessD_irrefl] at h; cases h
def lessX (x y : Sib) : Bool := lessD x.node x.n y.node y.n
def Dot (x y : Sib) : Prop := x.node = y.node ∧ x.n = y.n
theorem Dot.symm {x y : Sib} (h : Dot x y) : Dot y x := ⟨h.1.symm, h.2.symm⟩
def RiseD (l : List Sib) : Prop := l.Pairwise fun x y => lessX x y = true
def Uq (l : List Sib) : Prop := ∀ x ∈ l, ∀ y ∈ l, Dot x y → x = y
theorem RiseD.uq : ∀ {l : List Sib}, RiseD l → Uq l
  | [], _ => fun x hx => by cases hx
  | z :: l, h => fun x hx y hy e => by
    have hp := List.pairwise_cons.1 h
    rcases List.mem_cons.1 hx with h1 | h1 <;> rcases List.mem_cons.1 hy with h2 | h2
    · rw [h1, h2]
    · exact absurd (h1 ▸ e) (lessD_ne (hp.1 y h2))
    · exact absurd (h2 ▸ e.symm) (lessD_ne (hp.1 x h1))
    · exact RiseD.uq hp.2 x h1 y h2 e
theorem riseD_unique {l m : List Sib} (hl : RiseD l) (hm : RiseD m) (h : ∀ x, x ∈ l ↔ x ∈ m) : l = m :=
  rise_unique (r := fun x y : Sib => lessX x y = true) (fun x => by unfold lessX; rw [lessD_irrefl]; simp) (fun x y z h1 h2 => lessD_trans h1 h2) hl hm h

/-! ### the greater of two values of one dot -/
def ltV (x y : Sib) : Bool := decide (x.time < y.time) || (decide (x.time = y.time) && (sLt x.value y.value || (decide (x.value = y.value) && (!x.gone && y.gone))))
def grS (x y : Sib) : Sib := if ltV x y then y else x
theorem ltV_iff {x y : Sib} : ltV x y = true ↔ x.time < y.time ∨ (x.time = y.time ∧ (sLt x.value y.value = true ∨ (x.value = y.value ∧ x.gone = false ∧ y.gone = true))) := by simp [ltV]
theorem ltV_irrefl (x : Sib) : ltV x x = false := by
  rw [← Bool.not_eq_true, ltV_iff, sLt_irrefl]
  rintro (h | ⟨_, h | ⟨_, h1, h2⟩⟩)
  · omega
  · cases h
  · rw [h1] at h2; cases h2
theorem ltV_trans {x y z : Sib} (h1 : ltV x y = true) (h2 : ltV y z = true) : ltV x z = true := by
  rw [ltV_iff] at *
  rcases h1 with h1 | ⟨e1, h1⟩ <;> rcases h2 with h2 | ⟨e2, h2⟩
  · left; omega
  · left; omega
  · left; omega
  · right
    refine ⟨e1.trans e2, ?_⟩
    rcases h1 with h1 | ⟨v1, g1, k1⟩ <;> rcases h2 with h2 | ⟨v2, g2, k2⟩
    · exact .inl (sLt_trans h1 h2)
    · left; rw [← v2]; exact h1
    · left; rw [v1]; exact h2
    · rw [k1] at g2; cases g2
theorem ltV_tri {x y : Sib} (h1 : ltV x y = false) (h2 : ltV y x = false) (hd : Dot x y) : x = y := by
  rw [← Bool.not_eq_true, ltV_iff, not_or, not_and, not_or] at h1 h2
  have ht : x.time = y.time := by omega
  have a1 := h1.2 ht; have a2 := h2.2 ht.symm
  have hv : x.value = y.value := by
    by_cases e : x.value = y.value
    · exact e
    · exact absurd (sLt_tri (by simpa using a1.1) e) a2.1
  have hg : x.gone = y.gone := by
    have b1 := a1.2; have b2 := a2.2
    cases h : x.gone <;> cases k : y.gone <;> simp [hv, h, k] at b1 b2 ⊢
  cases x; cases y; simp [Dot] at *; exact ⟨hd.1, hd.2, hv, hg, ht⟩
theorem grS_self (x : Sib) : grS x x = x := by simp [grS]
theorem grS_comm {x y : Sib} (hd : Dot x y) : grS x y = grS y x := by
  unfold grS
  cases h : ltV x y <;> cases k : ltV y x
  · simp; exact ltV_tri h k hd
  · simp
  · simp
  · have := ltV_trans h k; rw [ltV_irrefl] at this; cases this
theorem grS_dot {x y : Sib} (hd : Dot x y) : Dot (grS x y) x := by unfold grS; split; exact hd.symm; exact ⟨rfl, rfl⟩
theorem grS_or (x y : Sib) : grS x y = x ∨ grS x y = y := by unfold grS; split <;> simp
theorem grS_assoc {x y z : Sib} (h1 : Dot x y) (h2 : Dot y z) : grS (grS x y) z = grS x (grS y z) := by
  have h3 : Dot x z := ⟨h1.1.trans h2.1, h1.2.trans h2.2⟩
  unfold grS
  cases a : ltV x y <;> cases b : ltV y z <;> simp only [Bool.false_eq_true, if_false, if_true, a, b]
  · cases c : ltV x z
    · simp
    · cases d : ltV y x
      · have := ltV_tri a d h1; subst this; rw [b] at c; cases c
      · rw [ltV_trans d c] at b; cases b
  · rw [ltV_trans a b]; simp

/-! ### where a dot's value stands -/
def isDot (s : ByteArray) (n : Int) (x : Sib) : Bool := decide (x.node = s) && decide (x.n = n)
def fnd (l : List Sib) (s : ByteArray) (n : Int) : Option Sib := l.find? (isDot s n)
theorem isDot_iff {s : ByteArray} {n : Int} {x : Sib} : isDot s n x = true ↔ x.node = s ∧ x.n = n := by simp [isDot]
theorem fnd_mem {l : List Sib} {s : ByteArray} {n : Int} {x : Sib} (h : fnd l s n = some x) : x ∈ l ∧ x.node = s ∧ x.n = n := ⟨List.mem_of_find?_eq_some h, isDot_iff.1 (List.find?_some h)⟩
theorem fnd_none {l : List Sib} {s : ByteArray} {n : Int} : fnd l s n = none ↔ ∀ x ∈ l, ¬ (x.node = s ∧ x.n = n) := by
  unfold fnd
  rw [List.find?_eq_none]
  exact ⟨fun h x hx hh => h x hx (isDot_iff.2 hh), fun h x hx hh => h x hx (isDot_iff.1 hh)⟩
theorem fnd_uq {l : List Sib} (hu : Uq l) {x : Sib} (hx : x ∈ l) : fnd l x.node x.n = some x := by
  cases h : fnd l x.node x.n with
  | none => exact absurd ⟨rfl, rfl⟩ (fnd_none.1 h x hx)
  | some y => obtain ⟨h1, h2⟩ := fnd_mem h; rw [hu y h1 x hx h2]
theorem fnd_eq {l m : List Sib} (hl : Uq l) (hm : ∀ x, x ∈ l ↔ x ∈ m) (s : ByteArray) (n : Int) : fnd l s n = fnd m s n := by
  cases h : fnd l s n with
  | none => exact (fnd_none.2 fun x hx => fnd_none.1 h x ((hm x).2 hx)).symm
  | some x =>
    obtain ⟨h1, rfl, rfl⟩ := fnd_mem h
    have hm' : Uq m := fun y hy z hz e => hl y ((hm y).2 hy) z ((hm z).2 hz) e
    exact (fnd_uq hm' ((hm x).1 h1)).symm
theorem fnd_map {f : Sib → Option Sib} (hf : ∀ x y, f x = some y → Dot y x) {s : ByteArray} {n : Int} : ∀ {l : List Sib}, RiseD l → fnd (l.filterMap f) s n = (fnd l s n).bind f
  | [], _ => rfl
  | x :: l, h => by
    have hp := List.pairwise_cons.1 h
    have ih := fnd_map hf (s := s) (n := n) (l := l) hp.2
    by_cases hd : isDot s n x = true
    · have e : fnd (x :: l) s n = some x := by unfold fnd; rw [List.find?_cons_of_pos hd]
      rw [e]
      cases hx : f x with
      | some y =>
        rw [List.filterMap_cons_some hx]
        have hy : isDot s n y = true := by
          have h1 := hf x y hx; have h2 := isDot_iff.1 hd
          exact isDot_iff.2 ⟨h1.1.trans h2.1, h1.2.trans h2.2⟩
        unfold fnd; rw [List.find?_cons_of_pos hy]; exact hx.symm
      | none =>
        rw [List.filterMap_cons_none hx, ih]
        have : fnd l s n = none := fnd_none.2 fun y hy hh => by
          have h2 := isDot_iff.1 hd
          exact lessD_ne (hp.1 y hy) ⟨h2.1.trans hh.1.symm, h2.2.trans hh.2.symm⟩
        rw [this]; exact hx.symm
    · have e : fnd (x :: l) s n = fnd l s n := by unfold fnd; rw [List.find?_cons_of_neg hd]
      rw [e, ← ih]
      cases hx : f x with
      | some y =>
        rw [List.filterMap_cons_some hx]
        have hy : ¬ isDot s n y = true := fun hh => hd (by
          have h1 := hf x y hx; have h2 := isDot_iff.1 hh
          exact isDot_iff.2 ⟨h1.1.symm.trans h2.1, h1.2.symm.trans h2.2⟩)
        unfold fnd; rw [List.find?_cons_of_neg hy]
      | none => rw [List.filterMap_cons_none hx]
theorem rise_map {f : Sib → Option Sib} (hf : ∀ x y, f x = some y → Dot y x) {l : List Sib} (h : RiseD l) : RiseD (l.filterMap f) := by
  unfold RiseD
  rw [List.pairwise_filterMap]
  exact h.imp fun {x y} hxy u hu v hv => by
    have h1 := hf x u hu; have h2 := hf y v hv
    show lessD u.node u.n v.node v.n = true
    rw [h1.1, h1.2, h2.1, h2.2]; exact hxy

/-! ### what two objects come to -/
def keptF (b : Obj') (x : Sib) : Option Sib := match fnd b.sibs x.node x.n with
  | some y => some (grS x y)
  | none => if hasS b.ctx x.node x.n then none else some x
def keptG (a : Obj') (x : Sib) : Option Sib := if (fnd a.sibs x.node x.n).isNone && !hasS a.ctx x.node x.n then some x else none
def keptA (a b : Obj') : List Sib := a.sibs.filterMap (keptF b)
def keptB (a b : Obj') : List Sib := b.sibs.filterMap (keptG a)
def putD : List Sib → Sib → List Sib
  | [], s => [s]
  | y :: l, s => if lessX y s then y :: putD l s else s :: y :: l
def mergeL (a b : Obj') : List Sib := (keptA a b ++ keptB a b).foldl putD []
def mergeO (a b : Obj') : Obj' := ⟨joinAll a.ctx b.ctx, mergeL a b⟩
theorem keptF_dot {b : Obj'} (x y : Sib) (h : keptF b x = some y) : Dot y x := by
  unfold keptF at h
  split at h
  · rename_i z hz
    obtain rfl := Option.some.inj h
    have := (fnd_mem hz).2
    exact grS_dot (x := x) (y := z) ⟨this.1.symm, this.2.symm⟩
  · split at h
    · cases h
    · obtain rfl := Option.some.inj h; exact ⟨rfl, rfl⟩
theorem keptG_eq {a : Obj'} {x y : Sib} (h : keptG a x = some y) : y = x ∧ fnd a.sibs x.node x.n = none ∧ hasS a.ctx x.node x.n = false := by
  unfold keptG at h
  split at h
  · rename_i hh
    simp only [Bool.and_eq_true, Option.isNone_iff_eq_none, Bool.not_eq_true'] at hh
    exact ⟨(Option.some.inj h).symm, hh⟩
  · cases h
theorem keptG_dot {a : Obj'} (x y : Sib) (h : keptG a x = some y) : Dot y x := by rw [(keptG_eq h).1]; exact ⟨rfl, rfl⟩
theorem putD_mem {s x : Sib} : ∀ {l : List Sib}, x ∈ putD l s ↔ x = s ∨ x ∈ l
  | [] => by simp [putD]
  | y :: l => by
    unfold putD
    split
    · rw [List.mem_cons, putD_mem (l := l), List.mem_cons]
      constructor
      · rintro (h | h | h)
        · exact .inr (.inl h)
        · exact .inl h
        · exact .inr (.inr h)
      · rintro (h | h | h)
        · exact .inr (.inl h)
        · exact .inl h
        · exact .inr (.inr h)
    · rw [List.mem_cons]
theorem putD_rise {s : Sib} : ∀ {l : List Sib}, RiseD l → (∀ x ∈ l, ¬ Dot x s) → RiseD (putD l s)
  | [], _, _ => List.pairwise_singleton _ _
  | y :: l, h, hn => by
    have hp := List.pairwise_cons.1 h
    unfold putD
    split
    · rename_i hy
      refine List.pairwise_cons.2 ⟨fun z hz => ?_, putD_rise hp.2 fun x hx => hn x (.tail _ hx)⟩
      rcases putD_mem.1 hz with rfl | hz
      · exact hy
      · exact hp.1 z hz
    · rename_i hy
      have hsy : lessX s y = true := lessD_tri (by simpa [lessX] using hy) (hn y (.head _))
      refine List.pairwise_cons.2 ⟨fun z hz => ?_, h⟩
      rcases List.mem_cons.1 hz with rfl | hz
      · exact hsy
      · exact lessD_trans hsy (hp.1 z hz)
theorem puts_spec : ∀ {M l : List Sib}, RiseD l → M.Pairwise (fun x y => ¬ Dot x y) → (∀ x ∈ l, ∀ y ∈ M, ¬ Dot x y) → RiseD (M.foldl putD l) ∧ ∀ x, x ∈ M.foldl putD l ↔ x ∈ l ∨ x ∈ M
  | [], l, h, _, _ => ⟨h, fun x => by simp⟩
  | s :: M, l, h, hM, hx => by
    have hp := List.pairwise_cons.1 hM
    obtain ⟨h1, h2⟩ := puts_spec (M := M) (putD_rise h fun x hxl => hx x hxl s (.head _)) hp.2 (fun x hxl y hy => by
      rcases putD_mem.1 hxl with rfl | hxl
      · exact hp.1 y hy
      · exact hx x hxl y (.tail _ hy))
    refine ⟨h1, fun x => ?_⟩
    rw [List.foldl_cons, h2, putD_mem, List.mem_cons]
    constructor
    · rintro ((h | h) | h)
      · exact .inr (.inl h)
      · exact .inl h
      · exact .inr (.inr h)
    · rintro (h | h | h)
      · exact .inl (.inr h)
      · exact .inl (.inl h)
      · exact .inr h
structure ObjG (o : Obj') : Prop where
  ctx : CtxG o.ctx
  rise : RiseD o.sibs
  ok : ∀ x ∈ o.sibs, sibOk x = true ∧ hasS o.ctx x.node x.n = true
theorem kept_apart {a b : Obj'} (ha : RiseD a.sibs) (hb : RiseD b.sibs) : (keptA a b ++ keptB a b).Pairwise fun x y => ¬ Dot x y := by
  rw [List.pairwise_append]
  refine ⟨(rise_map keptF_dot ha).imp fun h => lessD_ne h, (rise_map keptG_dot hb).imp fun h => lessD_ne h, fun x hx y hy hd => ?_⟩
  obtain ⟨u, hu, hux⟩ := List.mem_filterMap.1 hx
  obtain ⟨v, hv, hvy⟩ := List.mem_filterMap.1 hy
  have h1 := keptF_dot u x hux
  obtain ⟨rfl, h2, _⟩ := keptG_eq hvy
  exact fnd_none.1 h2 u hu ⟨h1.1.symm.trans hd.1, h1.2.symm.trans hd.2⟩
theorem mergeL_spec {a b : Obj'} (ha : RiseD a.sibs) (hb : RiseD b.sibs) : RiseD (mergeL a b) ∧ ∀ x, x ∈ mergeL a b ↔ x ∈ keptA a b ++ keptB a b := by
  obtain ⟨h1, h2⟩ := puts_spec (M := keptA a b ++ keptB a b) (l := []) .nil (kept_apart ha hb) (fun x hx => by cases hx)
  exact ⟨h1, fun x => by rw [mergeL, h2]; simp⟩
theorem fnd_merge {a b : Obj'} (ha : RiseD a.sibs) (hb : RiseD b.sibs) (s : ByteArray) (n : Int) : fnd (mergeL a b) s n = ((fnd a.sibs s n).bind (keptF b)).or ((fnd b.sibs s n).bind (keptG a)) := by
  obtain ⟨h1, h2⟩ := mergeL_spec ha hb
  rw [fnd_eq h1.uq h2, ← fnd_map keptF_dot ha, ← fnd_map keptG_dot hb]
  exact List.find?_append
inductive St where
  | un
  | rep
  | val (x : Sib)
def mg : St → St → St
  | .un, t => t
  | s, .un => s
  | .val x, .val y => .val (grS x y)
  | _, _ => .rep
def look (o : Obj') (s : ByteArray) (n : Int) : St := match fnd o.sibs s n with
  | some x => .val x
  | none => if hasS o.ctx s n then .rep else .un
theorem look_has {o : Obj'} (ho : ObjG o) (s : ByteArray) (n : Int) : hasS o.ctx s n = true ↔ look o s n ≠ .un := by
  unfold look
  cases h : fnd o.sibs s n with
  | some x =>
    obtain ⟨h1, rfl, rfl⟩ := fnd_mem h
    simp [(ho.ok x h1).2]
  | none => cases hh : hasS o.ctx s n <;> simp
theorem look_val {o : Obj'} (ho : ObjG o) {s : ByteArray} {n : Int} {x : Sib} : look o s n = .val x ↔ x ∈ o.sibs ∧ x.node = s ∧ x.n = n := by
  unfold look
  constructor
  · intro h
    split at h
    · rename_i y hy
      obtain rfl := St.val.inj h
      exact fnd_mem hy
    · split at h <;> cases h
  · rintro ⟨h1, rfl, rfl⟩
    rw [fnd_uq ho.rise.uq h1]
theorem merge_good {a b : Obj'} (ha : ObjG a) (hb : ObjG b) : ObjG (mergeO a b) := by
  obtain ⟨h1, h2⟩ := mergeL_spec ha.rise hb.rise
  obtain ⟨j1, j2⟩ := join_spec ha.ctx hb.ctx
  refine ⟨j1, h1, fun x hx => ?_⟩
  show sibOk x = true ∧ hasS (joinAll a.ctx b.ctx) x.node x.n = true
  rw [j2]
  rcases List.mem_append.1 ((h2 x).1 hx) with h | h
  · obtain ⟨u, hu, hux⟩ := List.mem_filterMap.1 h
    have hd := keptF_dot u x hux
    have hk := ha.ok u hu
    refine ⟨?_, by rw [hd.1, hd.2, hk.2]; rfl⟩
    unfold keptF at hux
    split at hux
    · rename_i z hz
      obtain rfl := Option.some.inj hux
      rcases grS_or u z with e | e
      · rw [e]; exact hk.1
      · rw [e]; exact (hb.ok z (fnd_mem hz).1).1
    · split at hux
      · cases hux
      · obtain rfl := Option.some.inj hux; exact hk.1
  · obtain ⟨u, hu, hux⟩ := List.mem_filterMap.1 h
    obtain ⟨rfl, _, _⟩ := keptG_eq hux
    have hk := hb.ok x hu
    exact ⟨hk.1, by rw [hk.2, Bool.or_true]⟩
theorem look_merge {a b : Obj'} (ha : ObjG a) (hb : ObjG b) (s : ByteArray) (n : Int) : look (mergeO a b) s n = mg (look a s n) (look b s n) := by
  obtain ⟨_, j2⟩ := join_spec ha.ctx hb.ctx
  unfold look
  rw [show (mergeO a b).sibs = mergeL a b from rfl, show (mergeO a b).ctx = joinAll a.ctx b.ctx from rfl, fnd_merge ha.rise hb.rise, j2]
  cases h1 : fnd a.sibs s n with
  | some x =>
    obtain ⟨m1, rfl, rfl⟩ := fnd_mem h1
    have ka := (ha.ok x m1).2
    cases h2 : fnd b.sibs x.node x.n with
    | some y => simp [keptF, h2, mg]
    | none => cases h3 : hasS b.ctx x.node x.n <;> simp [keptF, h2, h3, ka, mg]
  | none =>
    cases h2 : fnd b.sibs s n with
    | some y =>
      obtain ⟨m2, rfl, rfl⟩ := fnd_mem h2
      have kb := (hb.ok y m2).2
      cases h3 : hasS a.ctx y.node y.n <;> simp [keptG, h1, h3, kb, mg]
    | none => cases h3 : hasS a.ctx s n <;> cases h4 : hasS b.ctx s n <;> simp [mg]
theorem obj_unique {a b : Obj'} (ha : ObjG a) (hb : ObjG b) (h : ∀ s n, look a s n = look b s n) : a = b := by
  have hc : a.ctx = b.ctx := ctx_unique ha.ctx hb.ctx fun s n => by rw [Bool.eq_iff_iff, look_has ha, look_has hb, h]
  have hs : a.sibs = b.sibs := riseD_unique ha.rise hb.rise fun x => by
    have h1 := look_val ha (s := x.node) (n := x.n) (x := x)
    have h2 := look_val hb (s := x.node) (n := x.n) (x := x)
    rw [h] at h1
    simp only [and_true] at h1 h2
    rw [← h1, ← h2]
  rw [obj_eq]; exact ⟨hc, hs⟩
def Fits (s t : St) : Prop := ∀ x y, s = .val x → t = .val y → Dot x y
theorem look_fits {a b : Obj'} (s : ByteArray) (n : Int) : Fits (look a s n) (look b s n) := by
  have key : ∀ {o : Obj'} {x : Sib}, look o s n = .val x → x.node = s ∧ x.n = n := fun {o x} h => by
    unfold look at h
    split at h
    · rename_i y hy
      obtain rfl := St.val.inj h
      exact (fnd_mem hy).2
    · split at h <;> cases h
  intro x y hx hy
  have h1 := key hx; have h2 := key hy
  exact ⟨h1.1.trans h2.1.symm, h1.2.trans h2.2.symm⟩
theorem mg_comm {s t : St} (h : Fits s t) : mg s t = mg t s := by
  cases s <;> cases t <;> simp [mg]
  exact grS_comm (h _ _ rfl rfl)
theorem mg_self (s : St) : mg s s = s := by cases s <;> simp [mg, grS_self]
theorem mg_assoc {s t u : St} (h1 : Fits s t) (h2 : Fits t u) : mg (mg s t) u = mg s (mg t u) := by
  cases s <;> cases t <;> cases u <;> simp [mg]
  exact grS_assoc (h1 _ _ rfl rfl) (h2 _ _ rfl rfl)
theorem merge_comm {a b : Obj'} (ha : ObjG a) (hb : ObjG b) : mergeO a b = mergeO b a :=
  obj_unique (merge_good ha hb) (merge_good hb ha) fun s n => by rw [look_merge ha hb, look_merge hb ha, mg_comm (look_fits s n)]
theorem merge_self {a : Obj'} (ha : ObjG a) : mergeO a a = a :=
  obj_unique (merge_good ha ha) ha fun s n => by rw [look_merge ha ha, mg_self]
theorem merge_assoc {a b c : Obj'} (ha : ObjG a) (hb : ObjG b) (hc : ObjG c) : mergeO (mergeO a b) c = mergeO a (mergeO b c) :=
  obj_unique (merge_good (merge_good ha hb) hc) (merge_good ha (merge_good hb hc)) fun s n => by
    rw [look_merge (merge_good ha hb) hc, look_merge ha hb, look_merge ha (merge_good hb hc), look_merge hb hc, mg_assoc (look_fits s n) (look_fits s n)]
theorem sibsGo_iff {c : List Seen} : ∀ {l : List Sib} {pv : Option Sib}, sibsGo c pv l = true ↔ (∀ p, pv = some p → ∀ x ∈ l, lessX p x = true) ∧ RiseD l ∧ ∀ x ∈ l, sibOk x = true ∧ hasS c x.node x.n = true
  | [], pv => by simp [sibsGo]; exact .nil
  | x :: l, pv => by
    simp only [sibsGo, Bool.and_eq_true, sibsGo_iff (l := l) (pv := some x)]
    constructor
    · rintro ⟨⟨⟨h1, h2⟩, h3⟩, h4, h5, h6⟩
      refine ⟨fun p hp y hy => ?_, List.pairwise_cons.2 ⟨fun y hy => h4 _ rfl y hy, h5⟩, fun y hy => ?_⟩
      · subst hp
        have h7 : lessX p x = true := h3
        rcases List.mem_cons.1 hy with rfl | hy
        · exact h7
        · exact lessD_trans h7 (h4 _ rfl y hy)
      · rcases List.mem_cons.1 hy with rfl | hy
        · exact ⟨h1, h2⟩
        · exact h6 y hy
    · rintro ⟨h1, h2, h3⟩
      have hp := List.pairwise_cons.1 h2
      refine ⟨⟨h3 x (.head _), ?_⟩, (fun p hp' y hy => by cases hp'; exact hp.1 y hy), hp.2, fun y hy => h3 y (.tail _ hy)⟩
      cases pv with
      | none => rfl
      | some p => exact h1 p rfl x (.head _)
theorem objOk_iff {o : Obj'} : objOk o = true ↔ ObjG o ∧ room o.ctx ≤ 4096 := by
  simp only [objOk, Bool.and_eq_true, ctxOk_iff, sibsGo_iff]
  constructor
  · rintro ⟨⟨h1, h2⟩, _, h3, h4⟩; exact ⟨⟨h1, h3, h4⟩, h2⟩
  · rintro ⟨⟨h1, h2, h3⟩, h4⟩; exact ⟨⟨h1, h4⟩, (fun p hp => by cases hp), h2, h3⟩
def mergeS (a b : Obj') : Obj' × Int := if objOk a && objOk b then (if (joinS a.ctx b.ctx).2 = 0 then (⟨(joinS a.ctx b.ctx).1, mergeL a b⟩, 0) else (⟨[], []⟩, (joinS a.ctx b.ctx).2)) else (⟨[], []⟩, 1)
theorem mergeS_ok {a b : Obj'} (ha : objOk a = true) (hb : objOk b = true) (h : room a.ctx + room b.ctx ≤ 4096) : mergeS a b = (mergeO a b, 0) ∧ objOk (mergeO a b) = true := by
  have h1 := objOk_iff.1 ha; have h2 := objOk_iff.1 hb
  have hj := join_ok (ctxOk_iff.2 ⟨h1.1.ctx, h1.2⟩) (ctxOk_iff.2 ⟨h2.1.ctx, h2.2⟩) h
  refine ⟨by simp [mergeS, ha, hb, hj, mergeO], objOk_iff.2 ⟨merge_good h1.1 h2.1, Nat.le_trans (join_room _ _) h⟩⟩
end Go.Proofs.YtgpibooklhakgaaGreat
end

section
set_option linter.all false
set_option maxRecDepth 100000
namespace Go.Proofs.YtgpibooklhakgaaGreat
open Go.Ab

def putI : List Int → Int → List Int
  | [], n => [n]
  | m :: l, n => if m < n then m :: putI l n else if m = n then m :: l else n :: m :: l
theorem putI_mem {n x : Int} : ∀ {l : List Int}, x ∈ putI l n ↔ x = n ∨ x ∈ l
  | [] => by simp [putI]
  | m :: l => by
    unfold putI
    split
    · rw [List.mem_cons, putI_mem (l := l), List.mem_cons]
      constructor
      · rintro (h | h | h)
        · exact .inr (.inl h)
        · exact .inl h
        · exact .inr (.inr h)
      · rintro (h | h | h)
        · exact .inr (.inl h)
        · exact .inl h
        · exact .inr (.inr h)
    · split
      · rename_i h; subst h; simp
      · simp
theorem putI_rise {n : Int} : ∀ {l : List Int}, l.Pairwise (· < ·) → (putI l n).Pairwise (· < ·)
  | [], _ => List.pairwise_singleton _ _
  | m :: l, h => by
    have hp := List.pairwise_cons.1 h
    unfold putI
    split
    · rename_i hm
      exact List.pairwise_cons.2 ⟨fun x hx => by rcases putI_mem.1 hx with rfl | hx; exact hm; exact hp.1 x hx, putI_rise hp.2⟩
    · split
      · exact h
      · exact List.pairwise_cons.2 ⟨fun x hx => by rcases List.mem_cons.1 hx with rfl | hx; omega; have := hp.1 x hx; omega, h⟩
theorem putI_len (n : Int) : ∀ (l : List Int), (putI l n).length ≤ l.length + 1
  | [] => by simp [putI]
  | m :: l => by
    have := putI_len n l
    unfold putI
    split
    · simp; omega
    · split <;> simp
theorem putsI_len : ∀ (M l : List Int), (M.foldl putI l).length ≤ l.length + M.length
  | [], l => by simp
  | n :: M, l => by
    have h1 := putsI_len M (putI l n)
    have h2 := putI_len n l
    simp only [List.foldl_cons, List.length_cons]; omega
theorem putsI_spec : ∀ {M l : List Int}, l.Pairwise (· < ·) → (M.foldl putI l).Pairwise (· < ·) ∧ ∀ x, x ∈ M.foldl putI l ↔ x ∈ l ∨ x ∈ M
  | [], l, h => ⟨h, fun x => by simp⟩
  | n :: M, l, h => by
    obtain ⟨h1, h2⟩ := putsI_spec (M := M) (putI_rise (n := n) h)
    refine ⟨h1, fun x => ?_⟩
    rw [List.foldl_cons, h2, putI_mem, List.mem_cons]
    constructor
    · rintro ((h | h) | h)
      · exact .inr (.inl h)
      · exact .inl h
      · exact .inr (.inr h)
    · rintro (h | h | h)
      · exact .inl (.inr h)
      · exact .inl (.inl h)
      · exact .inr h
theorem puts_once (l : List Int) : l.foldl putI [] = onceI l := by
  obtain ⟨h1, h2⟩ := putsI_spec (M := l) (l := []) .nil
  exact (onceI_unique h1 fun x => by rw [h2]; simp).symm
theorem putI_at {n : Int} : ∀ {l : List Int} {k : Nat}, (∀ j x, j < k → l[j]? = some x → x < n) → (∀ x, l[k]? = some x → ¬ x < n) → k ≤ l.length → putI l n = if l[k]? = some n then l else l.take k ++ n :: l.drop k
  | [], k, _, _, hk => by
    obtain rfl : k = 0 := by simpa using hk
    simp [putI]
  | m :: l, 0, _, h2, _ => by
    have := h2 m rfl
    simp only [putI, if_neg this, List.getElem?_cons_zero, Option.some.injEq, List.take_zero, List.drop_zero, List.nil_append]
  | m :: l, k + 1, h1, h2, hk => by
    have hm := h1 0 m (by omega) rfl
    have ih := putI_at (n := n) (l := l) (k := k) (fun j x hj hx => h1 (j + 1) x (by omega) hx) (fun x hx => h2 x hx) (by simpa using hk)
    rw [putI, if_pos hm, ih]
    simp only [List.getElem?_cons_succ, List.take_succ_cons, List.drop_succ_cons, List.cons_append]
    split <;> rfl
theorem get_if {α : Type} [Inhabited α] (l : List α) (k : Nat) : ∃ x : α, k < l.length → l[k]? = some x := by
  by_cases h : k < l.length
  · exact ⟨l[k], fun _ => List.getElem?_eq_getElem h⟩
  · exact ⟨default, fun h' => absurd h' h⟩
theorem rPutI_c {l : List Int} {n : Int} {t : Bool} {σ : Store} (hl : l.length ≤ 10000000) : ACalls Tryz.prog 241 [.sl 1 (l.map vInt) t, vInt n] σ fun v σ' => v = .sl 1 ((putI l n).map vInt) false ∧ σ = σ' := by
  refine ACalls_of Tryz.func241 rfl Tryz.ntmps241 (congrArg Array.toList Tryz.results241) (by simp only [List.length_cons, List.length_nil]; decide) ?_; simp only [envOf_cons, envOf_nil, Nat.reduceAdd]
  refine awp_seq ?_
  refine awp_region (by kernel_rfl) ?_
  (refine aL_S rfl rfl v_ ?_)
  refine aL_nil ?_
  refine awp_seq ?_
  refine awp_region (by kernel_rfl) ?_
  (refine aL_S rfl rfl v_ ?_)
  refine aL_nil ?_
  refine awp_seq ?_
  refine awp_block ?_
  refine awp_loop_env (ι := Nat) (fun k => l.length - k) (fun k => k ≤ l.length ∧ ∀ j x, j < k → l[j]? = some x → x < n) (fun k => [(0, .sl 1 (l.map vInt) t), (1, vInt n), (5, vInt k)]) (fun k => σ) 0 ?_ ?_ ?_ ?_
  · exact ⟨Nat.zero_le _, fun j x h => by omega⟩
  · exact cv_
  · exact sub_
  rintro k ⟨hk, ha⟩
  simp only [envL_cons, envL_nil]
  refine awp_seq ?_
  refine awp_seq ?_
  obtain ⟨x, hx⟩ := get_if l k
  have R := hx
  refine awp_region (by kernel_rfl) ?_
  iterate 5 (refine aL_S rfl rfl v_ ?_)
  refine aL_GT rfl rfl v_ rfl vg_ ?_
  refine aL_GT rfl rfl v_ rfl vg_ ?_
  refine aL_GT rfl rfl v_ rfl vg_ ?_
  refine aL_GT rfl rfl v_ rfl vg_ ?_
  refine aL_GT rfl rfl v_ rfl vg_ ?_
  refine aL_GT rfl rfl v_ rfl vg_ ?_
  (refine aL_S rfl rfl v_ ?_)
  refine aL_nil ?_
  refine awp_cond v_ (fun hc2 => ?_) (fun hc2 => ?_)
  · replace hc2 := nm_ hc2
    refine awp_skip ?_
    refine awp_block ?_
    refine awp_region (by kernel_rfl) ?_
    iterate 3 (refine aL_S rfl rfl v_ ?_)
    refine aL_nil ?_
    refine aNext (ι := Nat) (i := k) (k + 1) ?_ ?_ ?_ ?_
    · omega
    · exact ⟨by omega, fun j y hj hy => by rcases Nat.lt_or_eq_of_le (Nat.le_of_lt_succ hj) with h | h; exact ha j y h hy; rw [h, hx (by omega)] at hy; obtain rfl := Option.some.inj hy; omega⟩
    · exact cv_
    · exact sub_
  · replace hc2 := nm_ hc2
    refine awp_exit ?_
    refine aThen_exit ?_
    refine aThen_exit ?_
    refine aBlock_hit ?_
    refine awp_seq ?_
    refine awp_seq ?_
    skip
    have hat : putI l n = if l[k]? = some n then l else l.take k ++ n :: l.drop k := putI_at ha (fun y hy => by
      have h1 := (List.getElem?_eq_some_iff.1 hy).1
      rw [hx h1] at hy; obtain rfl := Option.some.inj hy
      rcases hc2 with h | h <;> omega) hk
    have R := hx
    refine awp_region (by kernel_rfl) ?_
    iterate 5 (refine aL_S rfl rfl v_ ?_)
    refine aL_GT rfl rfl v_ rfl vg_ ?_
    refine aL_GT rfl rfl v_ rfl vg_ ?_
    refine aL_GT rfl rfl v_ rfl vg_ ?_
    refine aL_GT rfl rfl v_ rfl vg_ ?_
    refine aL_GT rfl rfl v_ rfl vg_ ?_
    refine aL_GT rfl rfl v_ rfl vg_ ?_
    (refine aL_S rfl rfl v_ ?_)
    refine aL_nil ?_
    refine awp_cond v_ (fun hc4 => ?_) (fun hc4 => ?_)
    · replace hc4 := nm_ hc4
      skip
      have hres : putI l n = l := by rw [hat, hx (by omega), if_pos (by rw [hc4.2])]
      refine awp_seq ?_
      refine awp_region (by kernel_rfl) ?_
      iterate 2 (refine aL_S rfl rfl v_ ?_)
      refine aL_nil ?_
      refine awp_ret ?_
      rw [hres]
      exact aEnd_retW (v := .sl 1 (l.map vInt) false) (v' := .sl 1 (l.map vInt) t) va_ (.sl1 _ _ _) sub_ ⟨rfl, rfl⟩
    · replace hc4 := nm_ hc4
      skip
      have hres : putI l n = l.take k ++ n :: l.drop k := by
        rw [hat, if_neg]
        intro h
        have h1 := (List.getElem?_eq_some_iff.1 h).1
        rw [hx h1] at h
        have := Option.some.inj h
        rcases hc4 with hh | hh <;> omega
      have m1 : (l.map vInt).take k = (l.take k).map vInt := List.map_take.symm
      have m2 : ((l.map vInt).take l.length).drop k = (l.drop k).map vInt := by rw [List.take_of_length_le (by simp), List.map_drop]
      have m3 : (l.map vInt).drop k = (l.drop k).map vInt := List.map_drop.symm
      refine awp_skip ?_
      refine awp_seq ?_
      refine awp_region (by kernel_rfl) ?_
      refine aL_nilOwn 3 1 rfl rfl rfl (by rfl) fun k6 hk6 => ?_
      refine aL_nil ?_
      refine awp_seq ?_
      have R := m1
      refine awp_region (by kernel_rfl) ?_
      iterate 4 (refine aL_S rfl rfl v_ ?_)
      refine aL_append rfl rfl rfl g_ g_ v_ h_ v_ (oneInt _) (by simp; omega) fun k38 hk38 => ?_
      have t38 := (newTok_none hk38).2
      (refine aL_S rfl rfl v_ ?_)
      refine aL_nil ?_
      refine awp_seq ?_
      refine awp_region (by kernel_rfl) ?_
      iterate 2 (refine aL_S rfl rfl v_ ?_)
      refine aL_buildSlice rfl rfl rfl g_ g_ rfl rfl h_ c2_ (by decide) ?_
      refine aL_append rfl rfl rfl g_ g_ v_ h_ v_ c_ (by simp; omega) fun k42 hk42 => ?_
      rw [Store.newTok_step hk6] at hk42
      have t42 := (newTok_none hk42).2
      (refine aL_S rfl rfl v_ ?_)
      refine aL_nil ?_
      refine awp_seq ?_
      have R := And.intro m2 m3
      refine awp_region (by kernel_rfl) ?_
      iterate 4 (refine aL_S rfl rfl v_ ?_)
      refine aL_append rfl rfl rfl g_ g_ v_ h_ v_ (oneInt _) (by simp; omega) fun k47 hk47 => ?_
      rw [Store.newTok_step hk6, Store.newTok_step t38] at hk47
      have t47 := (newTok_none hk47).2
      (refine aL_S rfl rfl v_ ?_)
      refine aL_nil ?_
      refine awp_seq ?_
      refine awp_region (by kernel_rfl) ?_
      iterate 2 (refine aL_S rfl rfl v_ ?_)
      refine aL_nil ?_
      refine awp_ret ?_
      rw [hres, show (l.take k ++ n :: l.drop k).map vInt = (l.take k).map vInt ++ [vInt n] ++ (l.drop k).map vInt from by simp]
      exact aEnd_retW (v := .sl 1 ((l.take k).map vInt ++ [vInt n] ++ (l.drop k).map vInt) false) (v' := .own k47 1 ((l.take k).map vInt ++ [vInt n] ++ (l.drop k).map vInt)) va_ (.own1 _ _ _) sub_ ⟨rfl, rfl⟩
theorem rOf_c {c : List Seen} {s : ByteArray} {t : Bool} {σ : Store} (hn : c.length ≤ 1000000) : ACalls Tryz.prog 201 [.sl 3 (c.map sSeen) t, vStr s] σ fun v σ' => v = sSeen (ofS c s) ∧ σ = σ' := by
  refine ACalls_of Tryz.func201 rfl Tryz.ntmps201 (congrArg Array.toList Tryz.results201) (by simp only [List.length_cons, List.length_nil]; decide) ?_; simp only [envOf_cons, envOf_nil, Nat.reduceAdd]
  refine awp_seq ?_
  refine awp_region (by kernel_rfl) ?_
  refine aL_alloc rfl rfl rfl g_ gl_ fun o4 ho4 => ?_
  repeat (rw [none_set_iff] at ho4; obtain ⟨_, ho4⟩ := ho4)
  refine aL_nil ?_
  refine awp_seq ?_
  refine awp_seq ?_
  refine awp_region (by kernel_rfl) ?_
  (refine aL_S rfl rfl v_ ?_)
  refine aL_nil ?_
  refine awp_block ?_
  refine awp_loop_env (ι := Nat) (fun i => c.length - i) (fun i => i ≤ c.length ∧ ∀ j x, j < i → c[j]? = some x → x.node ≠ s) (fun i => [(0, .sl 3 (c.map sSeen) t), (1, vStr s), (4, .ref o4 0), (5, vInt i)]) (fun i => (σ.set o4 (.cells [.lit (.string ⟨#[]⟩), .lit (.int .i64 0), .lit (.slice none 0 0)]))) 0 ?_ ?_ ?_ ?_
  · exact ⟨Nat.zero_le _, fun j x h => by omega⟩
  · exact cv_
  · exact Store.Wk.refl _
  rintro i ⟨hi, ha⟩
  simp only [envL_cons, envL_nil]
  refine awp_seq ?_
  refine awp_seq ?_
  refine awp_region (by kernel_rfl) ?_
  iterate 4 (refine aL_S rfl rfl v_ ?_)
  refine aL_nil ?_
  refine awp_cond v_ (fun hc2 => ?_) (fun hc2 => ?_)
  · replace hc2 := nm_ hc2
    refine awp_skip ?_
    refine awp_seq ?_
    refine awp_block ?_
    refine awp_seq ?_
    obtain ⟨x, hx⟩ := get_some (l := c) (k := i) (by omega)
    have R := hx
    refine awp_region (by kernel_rfl) ?_
    iterate 7 (refine aL_S rfl rfl v_ ?_)
    refine aL_nil ?_
    refine awp_cond v_ (fun hc4 => ?_) (fun hc4 => ?_)
    · replace hc4 := nm_ hc4
      refine awp_seq ?_
      have R := hx
      refine awp_region (by kernel_rfl) ?_
      iterate 4 (refine aL_S rfl rfl v_ ?_)
      refine aL_store rfl rfl rfl v_ v_ h_ g_ rfl g_ c_ (by rfl) le_ v_ ?_
      refine aL_nil ?_
      refine awp_ret ?_
      refine aEnd_ret (σ' := σ) v_ sub_ ?_
      refine ⟨?_, rfl⟩
      have : ofS c s = x := by
        unfold ofS
        rw [find_at (r := i) hx (by simpa using hc4) fun m y hm hy => decide_eq_false (ha m y hm hy)]
      rw [this]
    · replace hc4 := nm_ hc4
      refine awp_skip ?_
      refine awp_region (by kernel_rfl) ?_
      iterate 3 (refine aL_S rfl rfl v_ ?_)
      refine aL_nil ?_
      refine aNext (ι := Nat) (i := i) (i + 1) ?_ ?_ ?_ ?_
      · omega
      · exact ⟨by omega, fun j y hj hy => by rcases Nat.lt_or_eq_of_le (Nat.le_of_lt_succ hj) with h | h; exact ha j y h hy; rw [h, hx] at hy; obtain rfl := Option.some.inj hy; exact hc4⟩
      · exact cv_
      · exact sub_
  · replace hc2 := nm_ hc2
    refine awp_exit ?_
    refine aThen_exit ?_
    refine aThen_exit ?_
    refine aBlock_hit ?_
    refine awp_seq ?_
    refine awp_region (by kernel_rfl) ?_
    iterate 2 (refine aL_S rfl rfl v_ ?_)
    refine aL_store rfl rfl rfl v_ v_ h_ g_ rfl g_ c_ (by rfl) le_ v_ ?_
    refine aL_nil ?_
    refine awp_ret ?_
    rw [ofS_not (c := c) (s := s) fun x hx => by
      obtain ⟨j, hj⟩ := List.mem_iff_getElem?.1 hx
      exact ha j x (by have := (List.getElem?_eq_some_iff.1 hj).1; omega) hj]
    exact aEnd_retW (v := sSeen (seen0 s)) (v' := .agg [vStr s, vInt 0, vNil]) va_ (.agg _ _ rfl (fun i hi hi' => by match i, hi with | 0, _ => exact .refl _ | 1, _ => exact .refl _ | 2, _ => exact .nil _ _)) sub_ ⟨rfl, rfl⟩
theorem rBoth_c {a b : Seen} {σ : Store} (ha : SeenBd a) (hb : SeenBd b) : ACalls Tryz.prog 200 [sSeen a, sSeen b] σ fun v σ' => v = sSeen (bothS a b) ∧ σ = σ' := by
  have h1 := ha.len; have h2 := hb.len; have h3 := ha.lo; have h4 := hb.lo; have h5 := ha.hi; have h6 := hb.hi
  have hol := onceI_len (a.more ++ b.more)
  rw [List.length_append] at hol
  have hom : ∀ n ∈ onceI (a.more ++ b.more), n ≤ 9007199254740992 := fun n hn => by
    rcases List.mem_append.1 (onceI_mem hn) with h | h
    · exact ha.more n h
    · exact hb.more n h
  have hbase : max a.base b.base = max a.base b.base := rfl
  refine ACalls_of Tryz.func200 rfl Tryz.ntmps200 (congrArg Array.toList Tryz.results200) (by simp only [List.length_cons, List.length_nil]; decide) ?_; simp only [envOf_cons, envOf_nil, Nat.reduceAdd]
  refine awp_seq ?_
  refine awp_region (by kernel_rfl) ?_
  refine aL_box rfl rfl rfl v_ rfl g_ fun o2 ho2 => ?_
  repeat (rw [none_set_iff] at ho2; obtain ⟨_, ho2⟩ := ho2)
  refine aL_box rfl rfl rfl v_ rfl g_ fun o3 ho3 => ?_
  repeat (rw [none_set_iff] at ho3; obtain ⟨_, ho3⟩ := ho3)
  refine aL_alloc rfl rfl rfl g_ gl_ fun o4 ho4 => ?_
  repeat (rw [none_set_iff] at ho4; obtain ⟨_, ho4⟩ := ho4)
  refine aL_nil ?_
  refine awp_seq ?_
  refine awp_region (by kernel_rfl) ?_
  iterate 6 (refine aL_S rfl rfl v_ ?_)
  refine aL_nil ?_
  refine awp_seq ?_
  refine awp_region (by kernel_rfl) ?_
  refine aL_nilSl 1 rfl rfl rfl (by rfl) ?_
  refine aL_nil ?_
  refine awp_seq ?_
  refine awp_seq ?_
  refine awp_region (by kernel_rfl) ?_
  (refine aL_S rfl rfl v_ ?_)
  refine aL_nil ?_
  refine awp_block ?_
  refine awp_loop_env (ι := Nat × AVal) (fun ⟨i, g⟩ => a.more.length - i) (fun ⟨i, g⟩ => i ≤ a.more.length ∧ Wk (.sl 1 (((a.more.take i).foldl putI []).map vInt) false) g) (fun ⟨i, g⟩ => [(2, .ref o2 0), (3, .ref o3 0), (4, .ref o4 0), (5, vInt (max a.base b.base)), (6, .sl 1 (((a.more.take i).foldl putI []).map vInt) false), (7, vInt i)]) (fun ⟨i, g⟩ => (((σ.set o2 (.cells (sSeen a).cells)).set o3 (.cells (sSeen b).cells)).set o4 (.cells [.lit (.string ⟨#[]⟩), .lit (.int .i64 0), .lit (.slice none 0 0)]))) (0, .sl 1 [] false) ?_ ?_ ?_ ?_
  · exact ⟨Nat.zero_le _, .refl _⟩
  · exact cv_
  · exact Store.Wk.refl _
  rintro ⟨i, g⟩ ⟨hi, _⟩
  simp only [envL_cons, envL_nil]
  refine awp_seq ?_
  refine awp_seq ?_
  refine awp_region (by kernel_rfl) ?_
  iterate 5 (refine aL_S rfl rfl v_ ?_)
  refine aL_nil ?_
  refine awp_cond v_ (fun hc4 => ?_) (fun hc4 => ?_)
  · replace hc4 := nm_ hc4
    refine awp_skip ?_
    refine awp_seq ?_
    refine awp_block ?_
    obtain ⟨x, hx⟩ := get_some (l := a.more) (k := i) (by omega)
    have hfold : (a.more.take (i + 1)).foldl putI [] = putI ((a.more.take i).foldl putI []) x := by rw [take_snoc hx, List.foldl_append]; rfl
    have hle := putsI_len (a.more.take i) []
    rw [List.length_take, List.length_nil] at hle
    have R := hx
    refine awp_region (by kernel_rfl) ?_
    iterate 6 (refine aL_S rfl rfl v_ ?_)
    refine aL_X rfl rfl (AOp_use rfl rfl (.inr ⟨rfl, rfl, rfl⟩) g_ va_ (rPutI_c (by omega)) ?_); rintro _ _ ⟨rfl, rfl⟩
    (refine aL_S rfl rfl v_ ?_)
    refine aL_nil ?_
    refine awp_region (by kernel_rfl) ?_
    iterate 3 (refine aL_S rfl rfl v_ ?_)
    refine aL_nil ?_
    refine aNext (ι := Nat × AVal) (i := ⟨i, g⟩) (i + 1, .sl 1 (((a.more.take (i + 1)).foldl putI []).map vInt) false) ?_ ?_ ?_ ?_
    · show a.more.length - (i + 1) < a.more.length - i; omega
    · exact ⟨by show i + 1 ≤ a.more.length; omega, .refl _⟩
    · have R := hfold; exact cv_
    · exact sub_
  · replace hc4 := nm_ hc4
    refine awp_exit ?_
    refine aThen_exit ?_
    refine aThen_exit ?_
    refine aBlock_hit ?_
    refine awp_seq ?_
    refine awp_seq ?_
    refine awp_region (by kernel_rfl) ?_
    (refine aL_S rfl rfl v_ ?_)
    refine aL_nil ?_
    refine awp_block ?_
    refine awp_loop_env (ι := Nat) (fun i => b.more.length - i) (fun i => i ≤ b.more.length) (fun i => [(2, .ref o2 0), (3, .ref o3 0), (4, .ref o4 0), (5, vInt (max a.base b.base)), (6, .sl 1 (((a.more ++ b.more.take i).foldl putI []).map vInt) false), (8, vInt i)]) (fun i => (((σ.set o2 (.cells (sSeen a).cells)).set o3 (.cells (sSeen b).cells)).set o4 (.cells [.lit (.string ⟨#[]⟩), .lit (.int .i64 0), .lit (.slice none 0 0)]))) 0 ?_ ?_ ?_ ?_
    · exact Nat.zero_le _
    · have R := (show (a.more.take i).foldl putI [] = a.more.foldl putI [] from by rw [List.take_of_length_le (by omega)]); exact cv_
    · exact Store.Wk.refl _
    rintro i hi
    simp only [envL_cons, envL_nil]
    refine awp_seq ?_
    refine awp_seq ?_
    refine awp_region (by kernel_rfl) ?_
    iterate 5 (refine aL_S rfl rfl v_ ?_)
    refine aL_nil ?_
    refine awp_cond v_ (fun hc8 => ?_) (fun hc8 => ?_)
    · replace hc8 := nm_ hc8
      refine awp_skip ?_
      refine awp_seq ?_
      refine awp_block ?_
      obtain ⟨x, hx⟩ := get_some (l := b.more) (k := i) (by omega)
      have hfold : (a.more ++ b.more.take (i + 1)).foldl putI [] = putI ((a.more ++ b.more.take i).foldl putI []) x := by rw [take_snoc hx, ← List.append_assoc, List.foldl_append (l' := [x])]; rfl
      have hle := putsI_len (a.more ++ b.more.take i) []
      rw [List.length_append, List.length_take, List.length_nil] at hle
      have R := hx
      refine awp_region (by kernel_rfl) ?_
      iterate 6 (refine aL_S rfl rfl v_ ?_)
      refine aL_X rfl rfl (AOp_use rfl rfl (.inr ⟨rfl, rfl, rfl⟩) g_ va_ (rPutI_c (by omega)) ?_); rintro _ _ ⟨rfl, rfl⟩
      (refine aL_S rfl rfl v_ ?_)
      refine aL_nil ?_
      refine awp_region (by kernel_rfl) ?_
      iterate 3 (refine aL_S rfl rfl v_ ?_)
      refine aL_nil ?_
      refine aNext (ι := Nat) (i := i) (i + 1) ?_ ?_ ?_ ?_
      · omega
      · show i + 1 ≤ b.more.length; omega
      · have R := hfold; exact cv_
      · exact sub_
    · replace hc8 := nm_ hc8
      refine awp_exit ?_
      refine aThen_exit ?_
      refine aThen_exit ?_
      refine aBlock_hit ?_
      refine awp_seq ?_
      obtain ⟨L, hL⟩ : ∃ L, onceI (a.more ++ b.more) = L := ⟨_, rfl⟩
      have hfin : (a.more ++ b.more.take i).foldl putI [] = L := by rw [List.take_of_length_le (by omega), puts_once, hL]
      rw [hL] at hol hom
      rw [hfin]
      refine awp_region (by kernel_rfl) ?_
      refine aL_nilOwn 3 1 rfl rfl rfl (by rfl) fun k9 hk9 => ?_
      refine aL_nil ?_
      refine awp_seq ?_
      refine awp_seq ?_
      refine awp_region (by kernel_rfl) ?_
      (refine aL_S rfl rfl v_ ?_)
      refine aL_nil ?_
      refine awp_block ?_
      refine awp_loop_env (ι := Nat × Nat × (Int × List Int)) (fun ⟨k, j, st⟩ => L.length - j) (fun ⟨k, j, st⟩ => j ≤ L.length ∧ (L.take j).foldl bstep (max a.base b.base, []) = st ∧ σ.tok k = none ∧ (0 ≤ st.1 ∧ st.1 ≤ 9007199254740992) ∧ st.2.length ≤ j) (fun ⟨k, j, st⟩ => [(2, .ref o2 0), (4, .ref o4 0), (5, vInt st.1), (6, .sl 1 (L.map vInt) false), (9, .own k 1 (st.2.map vInt)), (10, vInt j)]) (fun ⟨k, j, st⟩ => ((((σ.set o2 (.cells (sSeen a).cells)).set o3 (.cells (sSeen b).cells)).set o4 (.cells [.lit (.string ⟨#[]⟩), .lit (.int .i64 0), .lit (.slice none 0 0)])).newTok none k (3, 1))) (k9, 0, (max a.base b.base, [])) ?_ ?_ ?_ ?_
      · exact ⟨Nat.zero_le _, rfl, hk9, ⟨by show 0 ≤ max a.base b.base; omega, by show max a.base b.base ≤ _; omega⟩, Nat.le_refl _⟩
      · exact cv_
      · exact Store.Wk.refl _
      rintro ⟨k, j, st⟩ ⟨hj, hst, hk, hb, hlen⟩
      simp only [envL_cons, envL_nil]
      refine awp_seq ?_
      refine awp_seq ?_
      refine awp_region (by kernel_rfl) ?_
      iterate 4 (refine aL_S rfl rfl v_ ?_)
      refine aL_nil ?_
      refine awp_cond v_ (fun hc13 => ?_) (fun hc13 => ?_)
      · replace hc13 := nm_ hc13
        refine awp_skip ?_
        refine awp_seq ?_
        refine awp_block ?_
        refine awp_seq ?_
        obtain ⟨n, hn⟩ := get_some (l := L) (k := j) (by omega)
        have hnb := hom n (List.mem_of_getElem? hn)
        have hfold : (L.take (j + 1)).foldl bstep (max a.base b.base, []) = bstep st n := by rw [take_snoc hn, List.foldl_append, hst]; rfl
        have R := hn
        refine awp_region (by kernel_rfl) ?_
        iterate 7 (refine aL_S rfl rfl v_ ?_)
        refine aL_nil ?_
        refine awp_cond v_ (fun hc15 => ?_) (fun hc15 => ?_)
        · replace hc15 := nm_ hc15
          have R := hn
          refine awp_region (by kernel_rfl) ?_
          iterate 5 (refine aL_S rfl rfl v_ ?_)
          refine aL_nil ?_
          refine awp_region (by kernel_rfl) ?_
          iterate 3 (refine aL_S rfl rfl v_ ?_)
          refine aL_nil ?_
          refine aNext (ι := Nat × Nat × (Int × List Int)) (i := ⟨k, j, st⟩) (k, j + 1, (n, st.2)) ?_ ?_ ?_ ?_
          · show L.length - (j + 1) < L.length - j; omega
          · exact ⟨by show j + 1 ≤ L.length; omega, by rw [hfold, bstep, if_pos hc15], hk, ⟨by show 0 ≤ n; omega, by show n ≤ _; omega⟩, by show st.2.length ≤ j + 1; omega⟩
          · exact cv_
          · exact Store.Wk.refl _
        · replace hc15 := nm_ hc15
          refine awp_seq ?_
          have R := hn
          refine awp_region (by kernel_rfl) ?_
          iterate 6 (refine aL_S rfl rfl v_ ?_)
          refine aL_nil ?_
          refine awp_cond v_ (fun hc17 => ?_) (fun hc17 => ?_)
          · replace hc17 := nm_ hc17
            have R := hn
            refine awp_region (by kernel_rfl) ?_
            iterate 5 (refine aL_S rfl rfl v_ ?_)
            refine aL_buildSlice rfl rfl rfl g_ g_ rfl rfl h_ c2_ (by decide) ?_
            refine aL_append rfl rfl rfl g_ g_ v_ h_ v_ c_ (by simp; omega) fun k73 hk73 => ?_
            (refine aL_S rfl rfl v_ ?_)
            refine aL_nil ?_
            refine awp_region (by kernel_rfl) ?_
            iterate 3 (refine aL_S rfl rfl v_ ?_)
            refine aL_nil ?_
            refine aNext (ι := Nat × Nat × (Int × List Int)) (i := ⟨k, j, st⟩) (k73, j + 1, (st.1, st.2 ++ [n])) ?_ ?_ ?_ ?_
            · show L.length - (j + 1) < L.length - j; omega
            · exact ⟨by show j + 1 ≤ L.length; omega, by rw [hfold, bstep, if_neg hc15, if_pos hc17], (newTok_none hk73).2, hb, by show (st.2 ++ [n]).length ≤ j + 1; rw [List.length_append]; simp; omega⟩
            · exact cv_
            · rw [Store.newTok_step (show Store.tok (((σ.set o2 (.cells (sSeen a).cells)).set o3 (.cells (sSeen b).cells)).set o4 (.cells [.lit (.string ⟨#[]⟩), .lit (.int .i64 0), .lit (.slice none 0 0)])) k = none from hk)]; exact Store.Wk.refl _
          · replace hc17 := nm_ hc17
            refine awp_skip ?_
            refine awp_region (by kernel_rfl) ?_
            iterate 3 (refine aL_S rfl rfl v_ ?_)
            refine aL_nil ?_
            refine aNext (ι := Nat × Nat × (Int × List Int)) (i := ⟨k, j, st⟩) (k, j + 1, st) ?_ ?_ ?_ ?_
            · show L.length - (j + 1) < L.length - j; omega
            · exact ⟨by show j + 1 ≤ L.length; omega, by rw [hfold, bstep, if_neg hc15, if_neg (by omega)], hk, hb, by show st.2.length ≤ j + 1; omega⟩
            · exact cv_
            · exact Store.Wk.refl _
      · replace hc13 := nm_ hc13
        refine awp_exit ?_
        refine aThen_exit ?_
        refine aThen_exit ?_
        refine aBlock_hit ?_
        refine awp_seq ?_
        skip
        have hfin : bothS a b = ⟨a.node, st.1, st.2⟩ := by
          have : bothF a b = st := by rw [← hst, List.take_of_length_le (by omega), ← hL]; rfl
          rw [bothS, this]
        refine awp_region (by kernel_rfl) ?_
        iterate 5 (refine aL_S rfl rfl v_ ?_)
        refine aL_store rfl rfl rfl v_ v_ h_ g_ rfl g_ c_ (by rfl) le_ v_ ?_
        refine aL_nil ?_
        refine awp_ret ?_
        rw [hfin]
        exact aEnd_retW (v := .agg [vStr a.node, vInt st.1, .sl 1 (st.2.map vInt) false]) (v' := .agg [vStr a.node, vInt st.1, .own k 1 (st.2.map vInt)]) va_ (.agg _ _ rfl (fun i hi hi' => by match i, hi with | 0, _ => exact .refl _ | 1, _ => exact .refl _ | 2, _ => exact .own1 _ _ _)) sub_ ⟨rfl, rfl⟩
end Go.Proofs.YtgpibooklhakgaaGreat
end

section
set_option linter.all false
set_option maxRecDepth 100000
namespace Go.Proofs.YtgpibooklhakgaaGreat
open Go.Ab

structure NodesI (a b : List Seen) (i k : Nat) (out : List ByteArray) : Prop where
  ri : RiseN out
  mem : ∀ s, s ∈ out ↔ (∃ x ∈ a.take i, x.node = s) ∨ ∃ x ∈ b.take k, x.node = s
  ha : ∀ s ∈ out, ∀ x ∈ a.drop i, sLt s x.node = true
  hb : ∀ s ∈ out, ∀ x ∈ b.drop k, sLt s x.node = true
theorem NodesI.swap {a b : List Seen} {i k : Nat} {out : List ByteArray} (h : NodesI a b i k out) : NodesI b a k i out := ⟨h.ri, fun s => by rw [h.mem, Or.comm], h.hb, h.ha⟩
theorem riseX_drop {a : List Seen} (ra : RiseX a) {i : Nat} {x : Seen} (hx : a[i]? = some x) : ∀ y ∈ a.drop (i + 1), sLt x.node y.node = true := by
  have h1 : RiseX (a.drop i) := List.Pairwise.sublist (List.drop_sublist i a) ra
  rw [drop_cons hx] at h1
  exact (List.pairwise_cons.1 h1).1
theorem drop_above {b : List Seen} (rb : RiseX b) {k : Nat} {s : ByteArray} {y : Seen} (hy : b[k]? = some y) (h : sLt s y.node = true) : ∀ z ∈ b.drop k, sLt s z.node = true := fun z hz => by
  rw [drop_cons hy] at hz
  rcases List.mem_cons.1 hz with rfl | hz
  · exact h
  · exact sLt_trans h (riseX_drop rb hy z hz)
theorem NodesI.s1 {a b : List Seen} {i k : Nat} {out : List ByteArray} (h : NodesI a b i k out) (ra : RiseX a) {x : Seen} (hx : a[i]? = some x) (hlt : ∀ y ∈ b.drop k, sLt x.node y.node = true) : NodesI a b (i + 1) k (out ++ [x.node]) := by
  have hd := drop_cons hx
  have hxs : ∀ s ∈ out, sLt s x.node = true := fun s hs => h.ha s hs x (by rw [hd]; exact .head _)
  refine ⟨?_, fun s => ?_, fun s hs y hy => ?_, fun s hs y hy => ?_⟩
  · refine List.pairwise_append.2 ⟨h.ri, List.pairwise_singleton _ _, fun s hs t ht => ?_⟩
    rw [List.mem_singleton.1 ht]; exact hxs s hs
  · rw [List.mem_append, h.mem, List.mem_singleton, take_snoc hx]
    constructor
    · rintro ((⟨y, hy, e⟩ | ⟨y, hy, e⟩) | rfl)
      · exact .inl ⟨y, List.mem_append.2 (.inl hy), e⟩
      · exact .inr ⟨y, hy, e⟩
      · exact .inl ⟨x, List.mem_append.2 (.inr (List.mem_singleton.2 rfl)), rfl⟩
    · rintro (⟨y, hy, e⟩ | ⟨y, hy, e⟩)
      · rcases List.mem_append.1 hy with hy | hy
        · exact .inl (.inl ⟨y, hy, e⟩)
        · right; rw [← e, List.mem_singleton.1 hy]
      · exact .inl (.inr ⟨y, hy, e⟩)
  · rcases List.mem_append.1 hs with hs | hs
    · exact h.ha s hs y (by rw [hd]; exact .tail _ hy)
    · rw [List.mem_singleton.1 hs]; exact riseX_drop ra hx y hy
  · rcases List.mem_append.1 hs with hs | hs
    · exact h.hb s hs y hy
    · rw [List.mem_singleton.1 hs]; exact hlt y hy
theorem NodesI.s3 {a b : List Seen} {i k : Nat} {out : List ByteArray} (h : NodesI a b i k out) (ra : RiseX a) (rb : RiseX b) {x y : Seen} (hx : a[i]? = some x) (hy : b[k]? = some y) (e : x.node = y.node) : NodesI a b (i + 1) (k + 1) (out ++ [x.node]) := by
  have hd := drop_cons hx
  have hd' := drop_cons hy
  have hxs : ∀ s ∈ out, sLt s x.node = true := fun s hs => h.ha s hs x (by rw [hd]; exact .head _)
  refine ⟨?_, fun s => ?_, fun s hs z hz => ?_, fun s hs z hz => ?_⟩
  · refine List.pairwise_append.2 ⟨h.ri, List.pairwise_singleton _ _, fun s hs t ht => ?_⟩
    rw [List.mem_singleton.1 ht]; exact hxs s hs
  · rw [List.mem_append, h.mem, List.mem_singleton, take_snoc hx, take_snoc hy]
    constructor
    · rintro ((⟨z, hz, e⟩ | ⟨z, hz, e⟩) | rfl)
      · exact .inl ⟨z, List.mem_append.2 (.inl hz), e⟩
      · exact .inr ⟨z, List.mem_append.2 (.inl hz), e⟩
      · exact .inl ⟨x, List.mem_append.2 (.inr (List.mem_singleton.2 rfl)), rfl⟩
    · rintro (⟨z, hz, e'⟩ | ⟨z, hz, e'⟩)
      · rcases List.mem_append.1 hz with hz | hz
        · exact .inl (.inl ⟨z, hz, e'⟩)
        · right; rw [← e', List.mem_singleton.1 hz]
      · rcases List.mem_append.1 hz with hz | hz
        · exact .inl (.inr ⟨z, hz, e'⟩)
        · right; rw [← e', List.mem_singleton.1 hz, e]
  · rcases List.mem_append.1 hs with hs | hs
    · exact h.ha s hs z (by rw [hd]; exact .tail _ hz)
    · rw [List.mem_singleton.1 hs]; exact riseX_drop ra hx z hz
  · rcases List.mem_append.1 hs with hs | hs
    · exact h.hb s hs z (by rw [hd']; exact .tail _ hz)
    · rw [List.mem_singleton.1 hs, e]; exact riseX_drop rb hy z hz
instance : Inhabited Seen := ⟨⟨.empty, 0, []⟩⟩
theorem rNodes_c {a b : List Seen} {ta tb : Bool} {σ : Store} (ra : RiseX a) (rb : RiseX b) (hna : a.length ≤ 100000) (hnb : b.length ≤ 100000) :
    ACalls Tryz.prog 199 [.sl 3 (a.map sSeen) ta, .sl 3 (b.map sSeen) tb] σ fun v σ' => v = .sl 1 ((nodesS a b).map vStr) false ∧ σ = σ' := by
  refine ACalls_of Tryz.func199 rfl Tryz.ntmps199 (congrArg Array.toList Tryz.results199) (by simp only [List.length_cons, List.length_nil]; decide) ?_; simp only [envOf_cons, envOf_nil, Nat.reduceAdd]
  refine awp_seq ?_
  refine awp_region (by kernel_rfl) ?_
  (refine aL_S rfl rfl v_ ?_)
  refine aL_nil ?_
  refine awp_seq ?_
  refine awp_region (by kernel_rfl) ?_
  refine aL_nilOwn 9 1 rfl rfl rfl (by rfl) fun k5 hk5 => ?_
  refine aL_nil ?_
  refine awp_seq ?_
  refine awp_region (by kernel_rfl) ?_
  iterate 2 (refine aL_S rfl rfl v_ ?_)
  refine aL_nil ?_
  refine awp_seq ?_
  refine awp_block ?_
  refine awp_loop_env (ι := Nat × Nat × Nat × List ByteArray) (fun ⟨t, i, k, out⟩ => (a.length - i) + (b.length - k)) (fun ⟨t, i, k, out⟩ => i ≤ a.length ∧ k ≤ b.length ∧ σ.tok t = none ∧ NodesI a b i k out ∧ out.length ≤ i + k) (fun ⟨t, i, k, out⟩ => [(0, .sl 3 (a.map sSeen) ta), (1, .sl 3 (b.map sSeen) tb), (5, .own t 1 (out.map vStr)), (6, vInt i), (7, vInt k)]) (fun ⟨t, i, k, out⟩ => (σ.newTok none t (9, 1))) (k5, 0, 0, []) ?_ ?_ ?_ ?_
  · exact ⟨Nat.zero_le _, Nat.zero_le _, hk5, ⟨.nil, fun s => by simp, (fun s hs => by cases hs), fun s hs => by cases hs⟩, Nat.le_refl _⟩
  · exact cv_
  · exact Store.Wk.refl _
  rintro ⟨t, i, k, out⟩ ⟨hi, hk, ht, hN, hl⟩
  simp only [envL_cons, envL_nil]
  refine awp_seq ?_
  refine awp_seq ?_
  refine awp_region (by kernel_rfl) ?_
  iterate 5 (refine aL_S rfl rfl v_ ?_)
  refine aL_GF rfl rfl v_ rfl vg_ ?_
  refine aL_GF rfl rfl v_ rfl vg_ ?_
  refine aL_GF rfl rfl v_ rfl vg_ ?_
  refine aL_GF rfl rfl v_ rfl vg_ ?_
  (refine aL_S rfl rfl v_ ?_)
  refine aL_nil ?_
  refine awp_cond v_ (fun hc3 => ?_) (fun hc3 => ?_)
  · replace hc3 := nm_ hc3
    refine awp_skip ?_
    refine awp_block ?_
    refine awp_block ?_
    refine awp_seq ?_
    obtain ⟨x, hx⟩ := get_if a i
    obtain ⟨y, hy⟩ := get_if b k
    have R := And.intro hx hy
    refine awp_draw (.op 0 0 (.op 1 0 (.op 2 0 (.op 3 0 (.op 4 0 (.op 5 0 (.op 6 0 (.op 7 0 (.op 8 0 (.op 9 0 (.op 10 0 (.op 11 0 (.op 12 0 (.op 13 0 (.op 14 0 (.op 15 0 (.op 16 0 (.op 17 0 (.op 18 0 (.op 19 0 (.op 20 0 (.op 21 0 (.op 22 0 (.op 23 0 .nil)))))))))))))))))))))))) Tryz.mixed (by kernel_rfl) ?_
    iterate 5 (refine dR_S o_ (by rfl) (by rfl) v_ ?_)
    refine dR_GF o_ (by rfl) (by rfl) v_ (by rfl) vg_ ?_
    refine dR_GF o_ (by rfl) (by rfl) v_ (by rfl) vg_ ?_
    refine dR_GF o_ (by rfl) (by rfl) v_ (by rfl) vg_ ?_
    refine dR_GF o_ (by rfl) (by rfl) v_ (by rfl) vg_ ?_
    refine dR_GF o_ (by rfl) (by rfl) v_ (by rfl) vg_ ?_
    refine dR_GGT o_ (by rfl) (by rfl) v_ (by rfl) vg_ ?_
    refine dR_GGT o_ (by rfl) (by rfl) v_ (by rfl) vg_ ?_
    refine dR_GGT o_ (by rfl) (by rfl) v_ (by rfl) vg_ ?_
    refine dR_GGT o_ (by rfl) (by rfl) v_ (by rfl) vg_ ?_
    refine dR_GGT o_ (by rfl) (by rfl) v_ (by rfl) vg_ ?_
    refine dR_GGT o_ (by rfl) (by rfl) v_ (by rfl) vg_ ?_
    refine dR_GGT o_ (by rfl) (by rfl) v_ (by rfl) vg_ ?_
    refine dR_GGT o_ (by rfl) (by rfl) v_ (by rfl) vg_ ?_
    refine dR_GGT o_ (by rfl) (by rfl) v_ (by rfl) vg_ ?_
    refine dR_GGT o_ (by rfl) (by rfl) v_ (by rfl) vg_ ?_
    refine dR_GGT o_ (by rfl) (by rfl) v_ (by rfl) vg_ ?_
    refine dR_GF o_ (by rfl) (by rfl) v_ (by rfl) vg_ ?_
    iterate 2 (refine dR_S o_ (by rfl) (by rfl) v_ ?_)
    refine dR_nil ?_
    refine awp_cond v_ (fun hc7 => ?_) (fun hc7 => ?_)
    · replace hc7 := nm_ hc7
      have hia : i < a.length := by rcases hc7 with h | h <;> omega
      have hN1 : NodesI a b (i + 1) k (out ++ [x.node]) := hN.s1 ra (hx hia) (by
        rcases hc7 with h | h
        · rw [List.drop_eq_nil_of_le (by omega)]; intro y hy; cases hy
        · by_cases hkb : k < b.length
          · exact drop_above rb (hy hkb) h.2
          · rw [List.drop_eq_nil_of_le (by omega)]; intro y hy; cases hy)
      refine awp_seq ?_
      have R := hx
      refine awp_region (by kernel_rfl) ?_
      iterate 6 (refine aL_S rfl rfl v_ ?_)
      refine aL_buildSlice rfl rfl rfl g_ g_ rfl rfl h_ c2_ (by decide) ?_
      refine aL_append rfl rfl rfl g_ g_ v_ h_ v_ c_ (by simp; omega) fun k61 hk61 => ?_
      (refine aL_S rfl rfl v_ ?_)
      refine aL_nil ?_
      refine awp_region (by kernel_rfl) ?_
      iterate 3 (refine aL_S rfl rfl v_ ?_)
      refine aL_nil ?_
      refine aNext (ι := Nat × Nat × Nat × List ByteArray) (i := ⟨t, i, k, out⟩) (k61, i + 1, k, out ++ [x.node]) ?_ ?_ ?_ ?_
      · show (a.length - (i + 1)) + (b.length - k) < (a.length - i) + (b.length - k); omega
      · exact ⟨by show i + 1 ≤ a.length; omega, hk, (newTok_none hk61).2, hN1, by show (out ++ [x.node]).length ≤ i + 1 + k; simp; omega⟩
      · exact cv_
      · rw [Store.newTok_step ht]; exact Store.Wk.refl _
    · replace hc7 := nm_ hc7
      refine awp_seq ?_
      have R := And.intro hx hy
      refine awp_draw (.op 0 0 (.op 1 0 (.op 2 0 (.op 3 0 (.op 4 0 (.op 5 0 (.op 6 0 (.op 7 0 (.op 8 0 (.op 9 0 (.op 10 0 (.op 11 0 (.op 12 0 (.op 13 0 (.op 14 0 (.op 15 0 (.op 16 0 (.op 17 0 .nil)))))))))))))))))) Tryz.mixed (by kernel_rfl) ?_
      iterate 5 (refine dR_S o_ (by rfl) (by rfl) v_ ?_)
      refine dR_GF o_ (by rfl) (by rfl) v_ (by rfl) vg_ ?_
      refine dR_GF o_ (by rfl) (by rfl) v_ (by rfl) vg_ ?_
      refine dR_GF o_ (by rfl) (by rfl) v_ (by rfl) vg_ ?_
      refine dR_GF o_ (by rfl) (by rfl) v_ (by rfl) vg_ ?_
      refine dR_GF o_ (by rfl) (by rfl) v_ (by rfl) vg_ ?_
      refine dR_GF o_ (by rfl) (by rfl) v_ (by rfl) vg_ ?_
      refine dR_GF o_ (by rfl) (by rfl) v_ (by rfl) vg_ ?_
      refine dR_GF o_ (by rfl) (by rfl) v_ (by rfl) vg_ ?_
      refine dR_GF o_ (by rfl) (by rfl) v_ (by rfl) vg_ ?_
      refine dR_GF o_ (by rfl) (by rfl) v_ (by rfl) vg_ ?_
      refine dR_GF o_ (by rfl) (by rfl) v_ (by rfl) vg_ ?_
      iterate 2 (refine dR_S o_ (by rfl) (by rfl) v_ ?_)
      refine dR_nil ?_
      refine awp_cond v_ (fun hc10 => ?_) (fun hc10 => ?_)
      · replace hc10 := nm_ hc10
        have hkb : k < b.length := by omega
        have hN2 : NodesI a b i (k + 1) (out ++ [y.node]) := (hN.swap.s1 rb (hy hkb) (by
          rcases hc10 with h | h
          · rw [List.drop_eq_nil_of_le (by omega)]; intro y hy; cases hy
          · by_cases hia : i < a.length
            · exact drop_above ra (hx hia) h
            · rw [List.drop_eq_nil_of_le (by omega)]; intro y hy; cases hy)).swap
        refine awp_seq ?_
        have R := hy
        refine awp_region (by kernel_rfl) ?_
        iterate 6 (refine aL_S rfl rfl v_ ?_)
        refine aL_buildSlice rfl rfl rfl g_ g_ rfl rfl h_ c2_ (by decide) ?_
        refine aL_append rfl rfl rfl g_ g_ v_ h_ v_ c_ (by simp; omega) fun k89 hk89 => ?_
        (refine aL_S rfl rfl v_ ?_)
        refine aL_nil ?_
        refine awp_region (by kernel_rfl) ?_
        iterate 3 (refine aL_S rfl rfl v_ ?_)
        refine aL_nil ?_
        refine aNext (ι := Nat × Nat × Nat × List ByteArray) (i := ⟨t, i, k, out⟩) (k89, i, k + 1, out ++ [y.node]) ?_ ?_ ?_ ?_
        · show (a.length - i) + (b.length - (k + 1)) < (a.length - i) + (b.length - k); omega
        · exact ⟨hi, by show k + 1 ≤ b.length; omega, (newTok_none hk89).2, hN2, by show (out ++ [y.node]).length ≤ i + (k + 1); simp; omega⟩
        · exact cv_
        · rw [Store.newTok_step ht]; exact Store.Wk.refl _
      · replace hc10 := nm_ hc10
        have hkb : k < b.length := by omega
        have hia : i < a.length := by omega
        have hxy : x.node = y.node := by
          rcases hc7.2 with h | h
          · omega
          · by_cases e : x.node = y.node
            · exact e
            · have := sLt_tri h e; rw [hc10.2] at this; cases this
        have hN3 : NodesI a b (i + 1) (k + 1) (out ++ [x.node]) := hN.s3 ra rb (hx hia) (hy hkb) hxy
        refine awp_seq ?_
        have R := hx
        refine awp_region (by kernel_rfl) ?_
        iterate 6 (refine aL_S rfl rfl v_ ?_)
        refine aL_buildSlice rfl rfl rfl g_ g_ rfl rfl h_ c2_ (by decide) ?_
        refine aL_append rfl rfl rfl g_ g_ v_ h_ v_ c_ (by simp; omega) fun k25 hk25 => ?_
        (refine aL_S rfl rfl v_ ?_)
        refine aL_nil ?_
        refine awp_seq ?_
        refine awp_region (by kernel_rfl) ?_
        iterate 3 (refine aL_S rfl rfl v_ ?_)
        refine aL_nil ?_
        refine awp_region (by kernel_rfl) ?_
        iterate 3 (refine aL_S rfl rfl v_ ?_)
        refine aL_nil ?_
        refine aNext (ι := Nat × Nat × Nat × List ByteArray) (i := ⟨t, i, k, out⟩) (k25, i + 1, k + 1, out ++ [x.node]) ?_ ?_ ?_ ?_
        · show (a.length - (i + 1)) + (b.length - (k + 1)) < (a.length - i) + (b.length - k); omega
        · exact ⟨by show i + 1 ≤ a.length; omega, by show k + 1 ≤ b.length; omega, (newTok_none hk25).2, hN3, by show (out ++ [x.node]).length ≤ i + 1 + (k + 1); simp; omega⟩
        · exact cv_
        · rw [Store.newTok_step ht]; exact Store.Wk.refl _
  · replace hc3 := nm_ hc3
    refine awp_exit ?_
    refine aThen_exit ?_
    refine aThen_exit ?_
    refine aBlock_hit ?_
    refine awp_seq ?_
    skip
    have hfin : out = nodesS a b := by
      obtain ⟨n1, n2⟩ := nodesS_spec a b
      refine riseN_unique hN.ri n1 fun s => ?_
      rw [hN.mem, n2, List.take_of_length_le (by omega), List.take_of_length_le (by omega)]
      constructor
      · rintro (⟨z, hz, e⟩ | ⟨z, hz, e⟩)
        · exact ⟨z, List.mem_append.2 (.inl hz), e⟩
        · exact ⟨z, List.mem_append.2 (.inr hz), e⟩
      · rintro ⟨z, hz, e⟩
        rcases List.mem_append.1 hz with hz | hz
        · exact .inl ⟨z, hz, e⟩
        · exact .inr ⟨z, hz, e⟩
    refine awp_region (by kernel_rfl) ?_
    iterate 2 (refine aL_S rfl rfl v_ ?_)
    refine aL_nil ?_
    refine awp_ret ?_
    rw [← hfin]
    exact aEnd_retW (v := .sl 1 (out.map vStr) false) (v' := .own t 1 (out.map vStr)) va_ (.own1 _ _ _) (subx_start (subx_newTok ht subx_refl)) ⟨rfl, rfl⟩
theorem rJoin_c {a b : List Seen} {ta tb : Bool} {σ : Store} (hA : ∀ x ∈ a, SeenSm x) (hB : ∀ x ∈ b, SeenSm x) (hna : a.length ≤ 100000) (hnb : b.length ≤ 100000) :
    ACalls Tryz.prog 139 [.sl 3 (a.map sSeen) ta, .sl 3 (b.map sSeen) tb] σ fun v σ' => v = .tup [.sl 3 ((joinS a b).1.map sSeen) false, vInt (joinS a b).2] ∧ σ = σ' := by
  refine ACalls_of Tryz.func139 rfl Tryz.ntmps139 (congrArg Array.toList Tryz.results139) (by simp only [List.length_cons, List.length_nil]; decide) ?_; simp only [envOf_cons, envOf_nil, Nat.reduceAdd]
  refine awp_seq ?_
  refine awp_region (by kernel_rfl) ?_
  iterate 2 (refine aL_S rfl rfl v_ ?_)
  refine aL_nil ?_
  refine awp_seq ?_
  refine awp_seq ?_
  refine awp_region (by kernel_rfl) ?_
  (refine aL_S rfl rfl v_ ?_)
  refine aL_X rfl rfl (AOp_use rfl rfl (.inr ⟨rfl, rfl, rfl⟩) g_ va_ (rMay06_c hA (by omega)) ?_); rintro _ _ ⟨rfl, rfl⟩
  iterate 2 (refine aL_S rfl rfl v_ ?_)
  refine aL_GF rfl rfl v_ rfl vg_ ?_
  refine aL_GFX rfl rfl v_ rfl (fun hb => AOp_useV (by rfl) (by rfl) (.inr ⟨by rfl, by rfl, by rfl⟩) g_ cg_ (rMay06_c hB (by omega))) ?_
  refine aL_GF rfl rfl v_ rfl vg_ ?_
  (refine aL_S rfl rfl v_ ?_)
  refine aL_nil ?_
  refine awp_cond v_ (fun hc1 => ?_) (fun hc1 => ?_)
  · replace hc1 := nm_ hc1
    skip
    have hj : joinS a b = ([], 1) := by
      unfold joinS
      cases h1 : ctxOk a <;> cases h2 : ctxOk b <;> simp [h1, h2] at hc1 ⊢
    refine awp_seq ?_
    refine awp_region (by kernel_rfl) ?_
    iterate 2 (refine aL_S rfl rfl v_ ?_)
    refine aL_nil ?_
    refine awp_ret ?_
    rw [hj]
    exact aEnd_retW (v := .tup [.sl 3 [] false, vInt 1]) (v' := .tup [vNil, vInt 1]) va_ (.tup _ _ rfl (fun i hi hi' => by match i, hi with | 0, _ => exact .nil _ _ | 1, _ => exact .refl _)) sub_ ⟨rfl, rfl⟩
  · replace hc1 := nm_ hc1
    skip
    have gA := ctxOk_gd hc1.1
    have gB := ctxOk_gd hc1.2
    have rA := (ctxOk_iff.1 hc1.1).1.rise
    have rB := (ctxOk_iff.1 hc1.2).1.rise
    refine awp_skip ?_
    refine awp_seq ?_
    refine awp_region (by kernel_rfl) ?_
    refine aL_nilOwn 98 3 rfl rfl rfl (by rfl) fun k6 hk6 => ?_
    refine aL_nil ?_
    refine awp_seq ?_
    refine awp_region (by kernel_rfl) ?_
    iterate 2 (refine aL_S rfl rfl v_ ?_)
    refine aL_X rfl rfl (AOp_use rfl rfl (.inr ⟨rfl, rfl, rfl⟩) g_ va_ (rNodes_c rA rB hna hnb) ?_); rintro _ _ ⟨rfl, rfl⟩
    (refine aL_S rfl rfl v_ ?_)
    refine aL_nil ?_
    skip
    obtain ⟨Nd, hNd⟩ : ∃ Nd, nodesS a b = Nd := ⟨_, rfl⟩
    have hnl := nodesS_len a b
    rw [hNd] at hnl ⊢
    have hall : joinAll a b = Nd.map fun s => bothS (ofS a s) (ofS b s) := by rw [← hNd]; rfl
    refine awp_seq ?_
    refine awp_seq ?_
    refine awp_region (by kernel_rfl) ?_
    (refine aL_S rfl rfl v_ ?_)
    refine aL_nil ?_
    refine awp_block ?_
    refine awp_loop_env (ι := Nat × Nat) (fun ⟨k, i⟩ => Nd.length - i) (fun ⟨k, i⟩ => i ≤ Nd.length ∧ σ.tok k = none) (fun ⟨k, i⟩ => [(0, .sl 3 (a.map sSeen) ta), (1, .sl 3 (b.map sSeen) tb), (6, .own k 3 (((Nd.take i).map fun s => bothS (ofS a s) (ofS b s)).map sSeen)), (7, .sl 1 (Nd.map vStr) false), (8, vInt i)]) (fun ⟨k, i⟩ => (σ.newTok none k (98, 3))) (k6, 0) ?_ ?_ ?_ ?_
    · exact ⟨Nat.zero_le _, hk6⟩
    · exact cv_
    · exact Store.Wk.refl _
    rintro ⟨k, i⟩ ⟨hi, hk⟩
    simp only [envL_cons, envL_nil]
    refine awp_seq ?_
    refine awp_seq ?_
    refine awp_region (by kernel_rfl) ?_
    iterate 4 (refine aL_S rfl rfl v_ ?_)
    refine aL_nil ?_
    refine awp_cond v_ (fun hc6 => ?_) (fun hc6 => ?_)
    · replace hc6 := nm_ hc6
      refine awp_skip ?_
      refine awp_seq ?_
      refine awp_block ?_
      obtain ⟨n, hn⟩ := get_some (l := Nd) (k := i) (by omega)
      have R := hn
      refine awp_draw (.op 0 0 (.op 1 0 (.op 2 0 (.op 3 0 (.op 4 0 (.op 5 0 (.op 7 0 (.op 8 0 (.op 9 0 (.op 10 0 (.op 11 0 (.op 6 1 (.op 12 1 (.op 13 1 (.op 14 1 (.op 15 2 (.op 16 0 .nil))))))))))))))))) Tryz.mixed (by kernel_rfl) ?_
      iterate 11 (refine dR_S o_ (by rfl) (by rfl) v_ ?_)
      refine dR_X o_ (by rfl) (by rfl) (AOp_use (by rfl) (by rfl) (.inr ⟨by rfl, by rfl, by rfl⟩) g_ va_ (rOf_c (by omega)) ?_); rintro _ _ ⟨rfl, rfl⟩; refine ⟨sub_, ?_⟩
      refine dR_X o_ (by rfl) (by rfl) (AOp_use (by rfl) (by rfl) (.inr ⟨by rfl, by rfl, by rfl⟩) g_ va_ (rOf_c (by omega)) ?_); rintro _ _ ⟨rfl, rfl⟩; refine ⟨sub_, ?_⟩
      refine dR_X o_ (by rfl) (by rfl) (AOp_use (by rfl) (by rfl) (.inr ⟨by rfl, by rfl, by rfl⟩) g_ va_ (rBoth_c (ofS_bd gA _).1 (ofS_bd gB _).1) ?_); rintro _ _ ⟨rfl, rfl⟩; refine ⟨sub_, ?_⟩
      refine dR_X o_ (by rfl) (by rfl) (AOp_buildSlice' (by rfl) g_ g_ (by rfl) (by rfl) h_ c2_ (by decide) ⟨sub_, ?_⟩)
      refine dR_T o_ (by rfl) (by rfl) (AOp_appendS (by rfl) g_ g_ (.inl ⟨_, va_, h_, rfl⟩) (.inl ⟨⟨_, g_⟩, .inl v_, c_⟩) (by simp; omega) fun k41 hk41 => ?_)
      (refine dR_S o_ (by rfl) (by rfl) v_ ?_)
      refine dR_nil ?_
      refine awp_region (by kernel_rfl) ?_
      iterate 3 (refine aL_S rfl rfl v_ ?_)
      refine aL_nil ?_
      refine aNext (ι := Nat × Nat) (i := ⟨k, i⟩) (k41, i + 1) ?_ ?_ ?_ ?_
      · show Nd.length - (i + 1) < Nd.length - i; omega
      · exact ⟨by show i + 1 ≤ Nd.length; omega, (newTok_none hk41).2⟩
      · have R := (show ((Nd.take (i + 1)).map fun s => bothS (ofS a s) (ofS b s)).map sSeen = ((Nd.take i).map fun s => bothS (ofS a s) (ofS b s)).map sSeen ++ [sSeen (bothS (ofS a n) (ofS b n))] from by rw [take_snoc hn, List.map_append, List.map_append]; rfl); exact cv_
      · rw [Store.newTok_step hk]; exact Store.Wk.refl _
    · replace hc6 := nm_ hc6
      refine awp_exit ?_
      refine aThen_exit ?_
      refine aThen_exit ?_
      refine aBlock_hit ?_
      refine awp_seq ?_
      refine awp_seq ?_
      obtain rfl : i = Nd.length := by omega
      rw [List.take_length, ← hall]
      have hjl : (joinAll a b).length ≤ 1000000 := by rw [hall, List.length_map]; omega
      refine awp_region (by kernel_rfl) ?_
      (refine aL_S rfl rfl v_ ?_)
      refine aL_X rfl rfl (AOp_use rfl rfl (.inr ⟨rfl, rfl, rfl⟩) g_ va_ (ACalls.wkA (args := [.own k 3 ((joinAll a b).map sSeen)]) (rMay06_c (t := false) (joinAll_sm gA gB) hjl) rfl (fun j hj hj' => by match j, hj with | 0, _ => exact .own1 _ _ _)) ?_); rintro _ _ ⟨rfl, rfl⟩
      (refine aL_S rfl rfl v_ ?_)
      refine aL_nil ?_
      refine awp_cond v_ (fun hc9 => ?_) (fun hc9 => ?_)
      · replace hc9 := nm_ hc9
        refine awp_seq ?_
        refine awp_region (by kernel_rfl) ?_
        iterate 2 (refine aL_S rfl rfl v_ ?_)
        refine aL_nil ?_
        refine awp_ret ?_
        skip
        have hj : joinS a b = ([], 4) := by simp [joinS, hc1.1, hc1.2, hc9]
        rw [hj]
        exact aEnd_retW (v := .tup [.sl 3 [] false, vInt 4]) (v' := .tup [vNil, vInt 4]) va_ (.tup _ _ rfl (fun i hi hi' => by match i, hi with | 0, _ => exact .nil _ _ | 1, _ => exact .refl _)) (subx_start (subx_newTok hk subx_refl)) ⟨rfl, rfl⟩
      · replace hc9 := nm_ hc9
        refine awp_skip ?_
        refine awp_seq ?_
        refine awp_region (by kernel_rfl) ?_
        iterate 3 (refine aL_S rfl rfl v_ ?_)
        refine aL_nil ?_
        refine awp_ret ?_
        skip
        have hj : joinS a b = (joinAll a b, 0) := by simp [joinS, hc1.1, hc1.2, hc9]
        rw [hj]
        exact aEnd_retW (v := .tup [.sl 3 ((joinAll a b).map sSeen) false, vInt 0]) (v' := .tup [.own k 3 ((joinAll a b).map sSeen), vInt 0]) va_ (.tup _ _ rfl (fun i hi hi' => by match i, hi with | 0, _ => exact .own1 _ _ _ | 1, _ => exact .refl _)) (subx_start (subx_newTok hk subx_refl)) ⟨rfl, rfl⟩
theorem rAdd_c {c : List Seen} {s : ByteArray} {n : Int} {t : Bool} {σ : Store} (hA : ∀ x ∈ c, SeenSm x) (hn : c.length ≤ 100000) (hs : s.size ≤ 1000000) :
    ACalls Tryz.prog 129 [.sl 3 (c.map sSeen) t, sDot s n] σ fun v σ' => v = .tup [.sl 3 ((addS c s n).1.map sSeen) false, vInt (addS c s n).2] ∧ σ = σ' := by
  have hon := oneS_node s n
  have hsm : ∀ x ∈ [oneS s n], SeenSm x := fun x hx => by
    obtain rfl := List.mem_singleton.1 hx
    refine ⟨by rw [hon]; exact hs, ?_⟩
    unfold oneS; split <;> simp
  refine ACalls_of Tryz.func129 rfl Tryz.ntmps129 (congrArg Array.toList Tryz.results129) (by simp only [List.length_cons, List.length_nil]; decide) ?_; simp only [envOf_cons, envOf_nil, Nat.reduceAdd]
  refine awp_seq ?_
  refine awp_region (by kernel_rfl) ?_
  refine aL_box rfl rfl rfl v_ rfl g_ fun o3 ho3 => ?_
  repeat (rw [none_set_iff] at ho3; obtain ⟨_, ho3⟩ := ho3)
  iterate 2 (refine aL_S rfl rfl v_ ?_)
  refine aL_nil ?_
  refine awp_seq ?_
  refine awp_seq ?_
  refine awp_region (by kernel_rfl) ?_
  (refine aL_S rfl rfl v_ ?_)
  refine aL_X rfl rfl (AOp_use rfl rfl (.inr ⟨rfl, rfl, rfl⟩) g_ va_ (rMay06_c hA (by omega)) ?_); rintro _ _ ⟨rfl, rfl⟩
  iterate 2 (refine aL_S rfl rfl v_ ?_)
  refine aL_GF rfl rfl v_ rfl vg_ ?_
  refine aL_GFX rfl rfl v_ rfl (fun hb => AOp_useV (by rfl) (by rfl) (.inr ⟨by rfl, by rfl, by rfl⟩) g_ cg_ (rIsDot_c hs)) ?_
  refine aL_GF rfl rfl v_ rfl vg_ ?_
  (refine aL_S rfl rfl v_ ?_)
  refine aL_nil ?_
  refine awp_cond v_ (fun hc1 => ?_) (fun hc1 => ?_)
  · replace hc1 := nm_ hc1
    refine awp_seq ?_
    refine awp_region (by kernel_rfl) ?_
    iterate 2 (refine aL_S rfl rfl v_ ?_)
    refine aL_nil ?_
    refine awp_ret ?_
    rw [show addS c s n = ([], 1) from by
      unfold addS joinS
      cases h1 : ctxOk c <;> cases h2 : dotOk s n <;> simp [h1, h2] at hc1 ⊢]
    exact aEnd_retW (v := .tup [.sl 3 [] false, vInt 1]) (v' := .tup [vNil, vInt 1]) va_ (.tup _ _ rfl (fun i hi hi' => by match i, hi with | 0, _ => exact .nil _ _ | 1, _ => exact .refl _)) sub_ ⟨rfl, rfl⟩
  · replace hc1 := nm_ hc1
    have haj : addS c s n = joinS c [oneS s n] := by rw [addS, hc1.2]; rfl
    refine awp_skip ?_
    refine awp_seq ?_
    refine awp_region (by kernel_rfl) ?_
    iterate 4 (refine aL_S rfl rfl v_ ?_)
    refine aL_buildSlice rfl rfl rfl g_ g_ rfl rfl h_ c2_ (by decide) ?_
    (refine aL_S rfl rfl v_ ?_)
    refine aL_alloc rfl rfl rfl g_ gl_ fun o6 ho6 => ?_
    repeat (rw [none_set_iff] at ho6; obtain ⟨_, ho6⟩ := ho6)
    refine aL_store rfl rfl rfl v_ v_ h_ g_ rfl g_ c_ (by rfl) le_ v_ ?_
    refine aL_nil ?_
    refine awp_seq ?_
    refine awp_seq ?_
    refine awp_region (by kernel_rfl) ?_
    iterate 3 (refine aL_S rfl rfl v_ ?_)
    refine aL_nil ?_
    refine awp_cond v_ (fun hc4 => ?_) (fun hc4 => ?_)
    · replace hc4 := nm_ hc4
      refine awp_region (by kernel_rfl) ?_
      iterate 3 (refine aL_S rfl rfl v_ ?_)
      refine aL_store rfl rfl rfl v_ v_ h_ g_ rfl g_ c_ (by rfl) le_ v_ ?_
      refine aL_nil ?_
      refine awp_wkCells o6 [.lit (.string (oneS s n).node), vInt (oneS s n).base, .sl 1 ((oneS s n).more.map vInt) false] h_ (by rw [show oneS s n = ⟨s, 1, []⟩ from if_pos hc4]; exact ⟨.refl _, .refl _, .nil _ _, trivial⟩) ?_
      refine awp_seq ?_
      refine awp_region (by kernel_rfl) ?_
      iterate 2 (refine aL_S rfl rfl v_ ?_)
      refine aL_buildSlice rfl rfl rfl g_ g_ rfl rfl h_ c2_ (by decide) ?_
      refine aL_X rfl rfl (AOp_use rfl rfl (.inr ⟨rfl, rfl, rfl⟩) g_ va_ (rJoin_c (b := [oneS s n]) hA hsm hn (by simp)) ?_); rintro _ _ ⟨rfl, rfl⟩
      iterate 4 (refine aL_S rfl rfl v_ ?_)
      refine aL_nil ?_
      refine awp_ret ?_
      refine aEnd_ret (σ' := σ) v_ sub_ ?_
      exact ⟨by rw [haj], rfl⟩
    · replace hc4 := nm_ hc4
      refine awp_wkCells o6 [.lit (.string (oneS s n).node), vInt (oneS s n).base, .sl 1 ((oneS s n).more.map vInt) false] h_ (by rw [show oneS s n = ⟨s, 0, [n]⟩ from if_neg hc4]; exact ⟨.refl _, .refl _, .sl1 _ _ _, trivial⟩) ?_
      refine awp_skip ?_
      refine awp_seq ?_
      refine awp_region (by kernel_rfl) ?_
      iterate 2 (refine aL_S rfl rfl v_ ?_)
      refine aL_buildSlice rfl rfl rfl g_ g_ rfl rfl h_ c2_ (by decide) ?_
      refine aL_X rfl rfl (AOp_use rfl rfl (.inr ⟨rfl, rfl, rfl⟩) g_ va_ (rJoin_c (b := [oneS s n]) hA hsm hn (by simp)) ?_); rintro _ _ ⟨rfl, rfl⟩
      iterate 4 (refine aL_S rfl rfl v_ ?_)
      refine aL_nil ?_
      refine awp_ret ?_
      refine aEnd_ret (σ' := σ) v_ sub_ ?_
      exact ⟨by rw [haj], rfl⟩
end Go.Proofs.YtgpibooklhakgaaGreat
end

section
set_option linter.all false
set_option maxRecDepth 100000
namespace Go.Proofs
open Go.Shelf
def sortF_ren : Go.Shelf.Ren := ⟨(fun n => match n with | 6 => 136 | 14 => 197 | 15 => 198 | 20 => 231 | 21 => 232 | 22 => 233 | 23 => 234 | 24 => 235 | 25 => 236 | 26 => 237 | 27 => 238 | 28 => 239 | 29 => 240 | 46 => 262 | 47 => 263 | 48 => 264 | 49 => 265 | 50 => 266 | 57 => 283 | _ => 0), (fun n => match n with | 0 => 0 | 3 => 3 | 4 => 4 | 5 => 5 | 9 => 9 | 22 => 23 | 24 => 77 | 25 => 157 | 39 => 166 | 45 => 257 | 46 => 258 | 50 => 223 | 53 => 176 | 55 => 265 | 66 => 280 | 70 => 284 | 76 => 295 | 77 => 296 | _ => 0), (fun n => match n with  | _ => 0)⟩
theorem sortF : SlLaysF0.n6 Tryz.prog sortF_ren := {
  mixed := Tryz.mixed
  f6 := ⟨ "slices.SortFunc[[]pantler/api.Sib,pantler/api.Sib]", by decide, by kernel_rfl⟩
  f14 := ⟨ "slices.pdqsortCmpFunc[pantler/api.Sib]", by decide, by kernel_rfl⟩
  f15 := by kernel_rfl
  f20 := ⟨ "slices.insertionSortCmpFunc[pantler/api.Sib]", by decide, by kernel_rfl⟩
  f21 := ⟨ "slices.heapSortCmpFunc[pantler/api.Sib]", by decide, by kernel_rfl⟩
  f22 := ⟨ "slices.breakPatternsCmpFunc[pantler/api.Sib]", by decide, by kernel_rfl⟩
  f23 := ⟨ "slices.choosePivotCmpFunc[pantler/api.Sib]", by decide, by kernel_rfl⟩
  f24 := ⟨ "slices.reverseRangeCmpFunc[pantler/api.Sib]", by decide, by kernel_rfl⟩
  f25 := ⟨ "slices.partialInsertionSortCmpFunc[pantler/api.Sib]", by decide, by kernel_rfl⟩
  f26 := ⟨ "slices.partitionEqualCmpFunc[pantler/api.Sib]", by decide, by kernel_rfl⟩
  f27 := ⟨ "slices.partitionCmpFunc[pantler/api.Sib]", by decide, by kernel_rfl⟩
  f28 := by kernel_rfl
  f29 := by kernel_rfl
  f46 := ⟨ "slices.siftDownCmpFunc[pantler/api.Sib]", by decide, by kernel_rfl⟩
  f47 := by kernel_rfl
  f48 := by kernel_rfl
  f49 := ⟨ "slices.medianAdjacentCmpFunc[pantler/api.Sib]", by decide, by kernel_rfl⟩
  f50 := ⟨ "slices.medianCmpFunc[pantler/api.Sib]", by decide, by kernel_rfl⟩
  f57 := ⟨ "slices.order2CmpFunc[pantler/api.Sib]", by decide, by kernel_rfl⟩
  t0 := Tryz.underlying0
  a0 := Tryz.isAgg0
  z0 := Tryz.sizeOf0
  v0 := Tryz.zeroValue0
  t3 := Tryz.underlying3
  a3 := Tryz.isAgg3
  z3 := Tryz.sizeOf3
  v3 := Tryz.zeroValue3
  t4 := Tryz.underlying4
  a4 := Tryz.isAgg4
  z4 := Tryz.sizeOf4
  v4 := Tryz.zeroValue4
  t5 := Tryz.underlying5
  a5 := Tryz.isAgg5
  z5 := Tryz.sizeOf5
  v5 := Tryz.zeroValue5
  t9 := Tryz.underlying9
  a9 := Tryz.isAgg9
  z9 := Tryz.sizeOf9
  v9 := Tryz.zeroValue9
  t22 := Tryz.underlying23
  a22 := Tryz.isAgg23
  z22 := Tryz.sizeOf23
  v22 := Tryz.zeroValue23
  t25 := Tryz.underlying157
  a25 := Tryz.isAgg157
  z25 := Tryz.sizeOf157
  v25 := Tryz.zeroValue157
  t39 := Tryz.underlying166
  a39 := Tryz.isAgg166
  z39 := Tryz.sizeOf166
  v39 := Tryz.zeroValue166
  t45 := Tryz.underlying257
  a45 := Tryz.isAgg257
  z45 := Tryz.sizeOf257
  v45 := Tryz.zeroValue257
  t46 := Tryz.underlying258
  a46 := Tryz.isAgg258
  z46 := Tryz.sizeOf258
  v46 := Tryz.zeroValue258
  t50 := Tryz.underlying223
  a50 := Tryz.isAgg223
  z50 := Tryz.sizeOf223
  v50 := Tryz.zeroValue223
  t53 := Tryz.underlying176
  a53 := Tryz.isAgg176
  z53 := Tryz.sizeOf176
  v53 := Tryz.zeroValue176
  t55 := Tryz.underlying265
  a55 := Tryz.isAgg265
  z55 := Tryz.sizeOf265
  v55 := Tryz.zeroValue265
  t66 := Tryz.underlying280
  a66 := Tryz.isAgg280
  z66 := Tryz.sizeOf280
  v66 := Tryz.zeroValue280
  t70 := Tryz.underlying284
  a70 := Tryz.isAgg284
  z70 := Tryz.sizeOf284
  v70 := Tryz.zeroValue284
  t76 := Tryz.underlying295
  a76 := Tryz.isAgg295
  z76 := Tryz.sizeOf295
  v76 := Tryz.zeroValue295
  t77 := Tryz.underlying296
  a77 := Tryz.isAgg296
  z77 := Tryz.sizeOf296
  v77 := Tryz.zeroValue296 }

end Go.Proofs
namespace Go.Proofs.YtgpibooklhakgaaGreat
open Go.Ab Go.Shelf Go.Sort
instance : Inhabited Sib := ⟨⟨.empty, 0, .empty, false, 0⟩⟩
def encV (x : Sib) : List Value := [.string x.node, .int .i64 x.n, .string x.value, .bool x.gone, .int .i64 x.time]
theorem cells_enc (x : Sib) : (sSib x).cells = (encV x).map .lit := rfl
def cfD (x y : Sib) : Int := cmpD x.node x.n y.node y.n
theorem ltOf_cfD (x y : Sib) : ltOf cfD x y = lessX x y := by
  unfold ltOf cfD lessX
  rw [Bool.eq_iff_iff, decide_eq_true_eq, cmpD_less]
theorem lessX_irrefl (x : Sib) : lessX x x = false := lessD_irrefl _ _
theorem swoD : SWO (ltOf cfD) where
  irrefl x := by rw [ltOf_cfD, lessX_irrefl]
  trans x y z h1 h2 := by rw [ltOf_cfD] at *; exact lessD_trans h1 h2
  ntrans x y z h1 h2 := by
    rw [ltOf_cfD] at *
    cases h : lessX x z with
    | false => rfl
    | true =>
      by_cases e : x.node = y.node ∧ x.n = y.n
      · have : lessX y z = true := by unfold lessX at h ⊢; rw [← e.1, ← e.2]; exact h
        rw [this] at h2; cases h2
      · have k := lessD_tri h1 e
        have : lessX y z = true := lessD_trans k h
        rw [this] at h2; cases h2
theorem rv_sib5 (κ : K) (x : Sib) : Rv κ (sSib x) (.agg (encV x).toArray) := .agg _ _ rfl (fun i hi => by
  match i, hi with
  | 0, _ => exact .lit _
  | 1, _ => exact .lit _
  | 2, _ => exact .lit _
  | 3, _ => exact .lit _
  | 4, _ => exact .lit _)
theorem sortFunc_c {o : Nat} {L : List Sib} {σ : Store} (ho : σ.heap o = some (.cells (flat (L.map sSib)))) (hl : L.length ≤ 1000000000) :
    ACalls Tryz.prog 136 [.msl o 5 0 L.length, .lit (.func (.func 131) #[] #[])] σ fun v σ' => v = .tup [] ∧ ∃ L' : List Sib, L'.Perm L ∧ L'.Pairwise (fun x y => lessX y x = false) ∧ σ' = σ.set o (.cells (flat (L'.map sSib))) := by
  have e1 : ∀ M : List Sib, flat (M.map sSib) = (flatK encV 5 M.toArray).toList.map .lit := fun M => flat_flatK sSib encV cells_enc (fun _ => rfl) M
  rw [e1] at ho
  refine (sortK_of (P := Tryz.prog) (σ := σ) (f := 136) (o := o) (k := 5) (n := L.length) (flatK encV 5 L.toArray).toList
    (fun F' => ∃ L' : List Sib, L'.Perm L ∧ L'.Pairwise (fun x y => lessX y x = false) ∧ F' = (flatK encV 5 L'.toArray).toList) ho [.lit (.func (.func 131) #[] #[])] [.func (.func 131) #[] #[]] (fun b cap w hH hb => ?_) rfl).wkS fun v σ' ⟨hv, F', ⟨L', h1, h2, h3⟩, h4⟩ => ⟨v, σ', .refl _, .refl _, hv, L', h1, h2, by rw [h4, h3, e1]⟩
  have hcmp : CmpLays Tryz.prog 131 #[] encV 5 cfD b 0 L.toArray.size w := fun m os dk _ x y => by
    have := cmp_lays (P := Tryz.prog) (g := 131) (order_c (x := x) (y := y) (σ := s0)) (fun κ => rv_sib5 κ x) (fun κ => rv_sib5 κ y) (sortWorldK encV 5 w b 0 m dk os)
    exact this
  have key := AnyQ.slices_SortFunc sortF 5 Tryz.isAgg77 Tryz.sizeOf77 encV (fun _ => rfl) (fun x v hv => by simp [encV] at hv; rcases hv with rfl | rfl | rfl | rfl | rfl <;> rfl) cfD swoD 131 #[] b 0 cap L.toArray w (fun args w => run_callFunc (by kernel_rfl) args w) hcmp (by simpa [HoldsK] using hH) hb (by simp; omega)
  have key2 : Calls Tryz.prog 136 (#[.slice (some ⟨b, 0, none⟩) L.length cap] ++ #[.func (.func 131) #[] #[]]) w _ := key
  refine key2.mono fun e w' ⟨he, d', n, os, hp, hs, hw⟩ => ⟨he, (flatK encV 5 d').toList, n, os, ⟨d'.toList, ?_, ?_, by simp⟩, ?_, ?_⟩
  · exact perm_of hp
  · exact (sorted_of (n := L.toArray.size) hp.1 hs).imp fun {a b} h => by rw [ltOf_cfD] at h; exact h
  · simp [hp.1]
  · rw [hw]; simp [sortWorldK, putRowK]
end Go.Proofs.YtgpibooklhakgaaGreat
end
