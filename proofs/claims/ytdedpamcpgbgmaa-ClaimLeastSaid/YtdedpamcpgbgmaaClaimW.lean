/-
  Claims: the program's shares as the plain ones; which one is the queue's first. Own work (an AI agent).
-/
import Derived.Test.YtdedpamcpgbgmaaClaimV
set_option linter.all false
set_option maxRecDepth 100000
namespace Go.Proofs.Ytdedpamcpgbgmaa
open Go.Ab

/-- one of the shares, at some stage -/
def cK (E : List Sh) (ws hs : List Int) (k : Nat) : Sh := ⟨(gS E k).o, (gS E k).nm, (gS E k).pl, gI hs k, gI ws k⟩
def cS (E : List Sh) (ws hs : List Int) : List Sh := (List.range E.length).map (cK E ws hs)
theorem cS_get {E : List Sh} {ws hs : List Int} {k : Nat} (h : k < E.length) : (cS E ws hs)[k]? = some (cK E ws hs k) := by
  unfold cS
  rw [List.getElem?_map, List.getElem?_range h]
  rfl
theorem cS_len (E : List Sh) (ws hs : List Int) : (cS E ws hs).length = E.length := by simp [cS]
theorem gS_get {L : List Sh} {k : Nat} (h : k < L.length) : L[k]? = some (gS L k) := by unfold gS; rw [List.getElem?_eq_getElem h]; rfl

theorem built_ns {ow nm : List ByteArray} {E : List Sh} (h : Built ow nm E) {k : Nat} (hk : k < E.length) : (onceS nm)[k]? = some (gS E k).nm := by
  rw [← h.nm, List.getElem?_map, gS_get hk]; rfl
theorem built_has {ow nm : List ByteArray} {E : List Sh} (h : Built ow nm E) {k : Nat} (hk : k < E.length) : (gS E k).has = gI (loadsS ow (onceS nm)) k := by
  have h1 := (h.has _ (List.mem_of_getElem? (gS_get hk))).1
  rw [h1]
  unfold gI loadsS
  rw [List.getElem?_map, built_ns h hk]
  rfl
theorem built_pl {ow nm : List ByteArray} {E : List Sh} (h : Built ow nm E) {i k : Nat} (hi : i < E.length) (hk : k < E.length) : (gS E i).pl < (gS E k).pl ↔ i < k := by
  have e : ∀ {a b : Nat} (ha : a < E.length) (hb : b < E.length), a < b → (gS E a).pl < (gS E b).pl := fun {a b} ha hb hab => by
    have := List.pairwise_iff_getElem.1 h.pl a b ha hb hab
    unfold gS
    rw [List.getElem?_eq_getElem ha, List.getElem?_eq_getElem hb]
    exact this
  constructor
  · intro hlt
    rcases Nat.lt_or_ge i k with h1 | h1
    · exact h1
    · rcases Nat.lt_or_eq_of_le h1 with h2 | h2
      · have := e hk hi h2; omega
      · subst h2; omega
  · exact e hi hk
theorem rank_built {ow nm : List ByteArray} {E : List Sh} (h : Built ow nm E) {k : Nat} (hk : k < E.length) : rank E (gS E k) = aheadN (loadsS ow (onceS nm)) k := by
  have hl : (loadsS ow (onceS nm)).length = E.length := by rw [loadsS_len, ← h.nm, List.length_map]
  unfold rank aheadN
  rw [count_idx default, hl]
  refine List.countP_congr fun i hi => ?_
  have hi' : i < E.length := List.mem_range.1 hi
  show decide (ahd (gS E i) (gS E k)) = true ↔ _
  rw [decide_eq_true_eq, decide_eq_true_eq]
  unfold ahd
  rw [built_has h hi', built_has h hk, built_pl h hi' hk]
theorem shared_get {ow nm : List ByteArray} {E : List Sh} (h : Built ow nm E) {k : Nat} (hk : k < E.length) : cK E (wsS ow (onceS nm)) (List.replicate (onceS nm).length 0) k ∈ shared E ow.length := by
  have hl : (onceS nm).length = E.length := by rw [← h.nm, List.length_map]
  refine List.mem_map.2 ⟨gS E k, List.mem_of_getElem? (gS_get hk), ?_⟩
  rw [rank_built h hk]
  unfold updS cK
  have h1 : gI (wsS ow (onceS nm)) k = ((ow.length / E.length : Nat) : Int) + if aheadN (loadsS ow (onceS nm)) k < ow.length % E.length then 1 else 0 := by
    unfold gI wsS
    rw [List.getElem?_map, List.getElem?_range (by omega)]
    show wantN _ _ _ = _
    unfold wantN
    rw [loadsS_len, hl]
  rw [h1, gI_rep]

/-- what the map tells of a name, and where it stands -/
theorem byV_idx {ow nm : List ByteArray} {E : List Sh} (h : Built ow nm E) (s : ByteArray) : (byV E s = .lit (.pointer none) ∧ idxI (onceS nm) s = -1) ∨ ∃ k, byV E s = .ref (gS E k).o 0 ∧ k < E.length ∧ idxI (onceS nm) s = (k : Int) := by
  have hf : ∀ x, E.find? (fun x => decide (x.nm = s)) = some x → ∃ k, k < E.length ∧ gS E k = x ∧ idxI (onceS nm) s = (k : Int) := fun x hx => by
    obtain ⟨h1, k, hk, h2, h3⟩ := List.find?_eq_some_iff_getElem.1 hx
    refine ⟨k, hk, by unfold gS; rw [List.getElem?_eq_getElem hk]; exact h2, idx_some ?_ fun j y hj hy => ?_⟩
    · rw [built_ns h hk]
      unfold gS
      rw [List.getElem?_eq_getElem hk]
      show some E[k].nm = _
      rw [h2]
      simpa using h1
    · have := h3 j hj
      rw [built_ns h (by omega)] at hy
      unfold gS at hy
      rw [List.getElem?_eq_getElem (by omega)] at hy
      rw [← Option.some.inj hy]
      simpa using this
  cases hx : E.find? (fun x => decide (x.nm = s)) with
  | none =>
    refine .inl ⟨by unfold byV; rw [hx], idx_none fun k x hk hh => ?_⟩
    have hkl : k < E.length := by
      have := (List.getElem?_eq_some_iff.1 hk).1
      rw [← h.nm, List.length_map] at this
      exact this
    have h2 := List.find?_eq_none.1 hx _ (List.mem_of_getElem? (gS_get hkl))
    rw [built_ns h hkl] at hk
    rw [Option.some.inj hk] at h2
    simp [hh] at h2
  | some x =>
    obtain ⟨k, h1, h2, h3⟩ := hf x hx
    exact .inr ⟨k, by rw [byV_some hx, h2], h1, h3⟩

/-- does it want more? -/
def wnt (x : Sh) : Bool := decide (x.has < x.want)
theorem filt_set {D : List Sh} {b : Nat} {x : Sh} (hx : D[b]? = some x) (y : Sh) : D.filter wnt = (D.take b).filter wnt ++ ((if wnt x then [x] else []) ++ (D.drop (b + 1)).filter wnt) ∧ (D.set b y).filter wnt = (D.take b).filter wnt ++ ((if wnt y then [y] else []) ++ (D.drop (b + 1)).filter wnt) := by
  obtain ⟨hb, rfl⟩ := List.getElem?_eq_some_iff.1 hx
  constructor
  · conv => lhs; rw [← List.take_append_drop b D, List.drop_eq_getElem_cons hb]
    rw [List.filter_append, List.filter_cons]
    split <;> simp [*]
  · rw [List.set_eq_take_append_cons_drop, if_pos hb, List.filter_append, List.filter_cons]
    split <;> simp [*]

theorem cS_set {E : List Sh} {ws hs : List Int} {b : Nat} {v : Int} (hb : b < E.length) (hl : hs.length = E.length) : cS E ws (hs.set b v) = (cS E ws hs).set b (cK E ws (hs.set b v) b) := by
  apply List.ext_getElem?
  intro k
  rw [List.getElem?_set, cS_len]
  by_cases hk : k < E.length
  · rw [cS_get hk]
    split
    · rename_i hh; subst hh; rfl
    · rename_i hh
      rw [cS_get hk]
      unfold cK
      rw [gI_set (by omega), if_neg (Ne.symm hh)]
  · have h1 : (cS E ws (hs.set b v))[k]? = none := List.getElem?_eq_none (by rw [cS_len]; omega)
    have h2 : (cS E ws hs)[k]? = none := List.getElem?_eq_none (by rw [cS_len]; omega)
    rw [h1, h2, if_neg (by omega)]

/-- the queue's first one is the best -/
theorem root_best {ow nm : List ByteArray} {E L : List Sh} {ws hs : List Int} (h : Built ow nm E) (hH : HeapS L) (hp : L.Perm ((cS E ws hs).filter wnt)) {b : Nat} (hb : b < E.length) (hlt : gI hs b < gI ws b)
    (hbest : ∀ k, k < E.length → gI hs k < gI ws k → gI hs b < gI hs k ∨ gI hs b = gI hs k ∧ b ≤ k) : 0 < L.length ∧ gS L 0 = cK E ws hs b := by
  have hm : cK E ws hs b ∈ L := hp.mem_iff.2 (List.mem_filter.2 ⟨List.mem_of_getElem? (cS_get hb), decide_eq_true (p := (cK E ws hs b).has < (cK E ws hs b).want) hlt⟩)
  have h0 : 0 < L.length := List.length_pos_of_mem hm
  refine ⟨h0, ?_⟩
  obtain ⟨k, hk, hkb⟩ := List.getElem_of_mem hm
  have hmin := heap_min (claimO 0 ⟨fun _ => none, fun _ => none⟩ []) (n := L.length) (s := L) hH k hk h0
  have e1 : gS L k = cK E ws hs b := by unfold gS; rw [List.getElem?_eq_getElem hk, ← hkb]; rfl
  have hmin' : lessSh (cK E ws hs b) (gS L 0) = false := by rw [← e1]; exact hmin
  obtain ⟨h1, h2⟩ := List.mem_filter.1 (hp.mem_iff.1 (List.mem_of_getElem? (gS_get h0)))
  unfold cS at h1
  obtain ⟨j, hj, hjr⟩ := List.mem_map.1 h1
  have hj' : j < E.length := List.mem_range.1 hj
  rw [← hjr] at h2 hmin' ⊢
  have h2 : gI hs j < gI ws j := of_decide_eq_true (p := (cK E ws hs j).has < (cK E ws hs j).want) h2
  have hmin' : ¬ (gI hs b < gI hs j ∨ gI hs b = gI hs j ∧ (gS E b).pl < (gS E j).pl) := of_decide_eq_false (p := (cK E ws hs b).has < (cK E ws hs j).has ∨ (cK E ws hs b).has = (cK E ws hs j).has ∧ (cK E ws hs b).pl < (cK E ws hs j).pl) hmin'
  have hbj := hbest j hj' h2
  have hpl := built_pl h hb hj'
  have : b = j := by
    refine Classical.byContradiction fun hne => hmin' ?_
    rcases hbj with h3 | ⟨h3, h4⟩
    · exact .inl h3
    · exact .inr ⟨h3, hpl.2 (by omega)⟩
  rw [this]
end Go.Proofs.Ytdedpamcpgbgmaa
