/-
  Claims: how partitions are shared out, in plain Lean. Own work (an AI agent).
-/
import Derived.Test.YtdedpamcpgbgmaaClaimU
set_option linter.all false
set_option maxRecDepth 100000
namespace Go.Proofs.Ytdedpamcpgbgmaa
open Go.Ab

def gI (l : List Int) (k : Nat) : Int := l[k]?.getD 0
def aheadN (lo : List Int) (i : Nat) : Nat := (List.range lo.length).countP fun k => decide (gI lo i < gI lo k ∨ gI lo k = gI lo i ∧ k < i)
def wantN (lo : List Int) (n i : Nat) : Int := ((n / lo.length : Nat) : Int) + if aheadN lo i < n % lo.length then 1 else 0
def wsS (ow ns : List ByteArray) : List Int := (List.range ns.length).map fun i => wantN (loadsS ow ns) ow.length i
theorem loadsS_len (ow ns : List ByteArray) : (loadsS ow ns).length = ns.length := by simp [loadsS]
theorem wsS_len (ow ns : List ByteArray) : (wsS ow ns).length = ns.length := by simp [wsS]

theorem gI_some {l : List Int} {k : Nat} {x : Int} (h : l[k]? = some x) : gI l k = x := by unfold gI; rw [h]; rfl
theorem gI_get {l : List Int} {k : Nat} (h : k < l.length) : l[k]? = some (gI l k) := by unfold gI; rw [List.getElem?_eq_getElem h]; rfl
theorem gI_set {l : List Int} {k j : Nat} {v : Int} (h : k < l.length) : gI (l.set k v) j = if j = k then v else gI l j := by
  unfold gI
  rw [List.getElem?_set]
  by_cases hj : j = k
  · subst hj; rw [if_pos rfl, if_pos h, if_pos rfl]; rfl
  · rw [if_neg (Ne.symm hj), if_neg hj]

theorem sum_set : ∀ {l : List Int} {k : Nat}, k < l.length → (l.set k (gI l k + 1)).sum = l.sum + 1
  | [], k, h => by simp at h
  | x :: l, 0, h => by
    show (x + 1) + l.sum = (x + l.sum) + 1
    omega
  | x :: l, k + 1, h => by
    have := sum_set (l := l) (k := k) (by simpa using h)
    have e : gI (x :: l) (k + 1) = gI l k := rfl
    rw [e]
    show x + (l.set k (gI l k + 1)).sum = (x + l.sum) + 1
    rw [this]; omega
theorem sum_le : ∀ {a b : List Int}, a.length = b.length → (∀ k, k < a.length → gI a k ≤ gI b k) → a.sum ≤ b.sum
  | [], [], _, _ => by simp
  | [], y :: b, h, _ => by simp at h
  | x :: a, [], h, _ => by simp at h
  | x :: a, y :: b, h, hk => by
    have h0 : x ≤ y := hk 0 (by simp)
    have ih := sum_le (a := a) (b := b) (by simpa using h) fun k hk' => hk (k + 1) (by simpa using hk')
    show x + a.sum ≤ y + b.sum
    omega
theorem some_room {hs ws : List Int} (hl : hs.length = ws.length) (h : hs.sum < ws.sum) : ∃ k, k < hs.length ∧ gI hs k < gI ws k := by
  refine Classical.byContradiction fun hn => ?_
  have : ws.sum ≤ hs.sum := sum_le hl.symm fun k hk => by
    refine Int.not_lt.1 fun hlt => hn ⟨k, by omega, hlt⟩
  omega

/-! ### the sum of the shares -/
theorem count_idx {α : Type} (d : α) (p : α → Bool) : ∀ l : List α, l.countP p = (List.range l.length).countP fun i => p (l[i]?.getD d)
  | [] => rfl
  | x :: l => by
    rw [List.length_cons, List.range_succ_eq_map, List.countP_cons, List.countP_cons, List.countP_map, count_idx d p l]
    rfl
def mkE (lo : List Int) : List Sh := (List.range lo.length).map fun i => ⟨i, ByteArray.empty, (i : Int), gI lo i, 0⟩
theorem rank_mk {lo : List Int} {i : Nat} (h : i < lo.length) : rank (mkE lo) ⟨i, ByteArray.empty, (i : Int), gI lo i, 0⟩ = aheadN lo i := by
  unfold rank mkE aheadN
  rw [List.countP_map]
  congr 1
  funext k
  refine decide_eq_decide.2 ?_
  show (gI lo i < gI lo k ∨ gI lo k = gI lo i ∧ (k : Int) < (i : Int)) ↔ _
  omega
theorem count_lt (lo : List Int) (r : Nat) (hr : r ≤ lo.length) : (List.range lo.length).countP (fun i => decide (aheadN lo i < r)) = r := by
  have hpl : (mkE lo).Pairwise fun x y => x.pl < y.pl := by
    unfold mkE
    rw [List.pairwise_map]
    refine List.pairwise_lt_range.imp fun {a b} hab => ?_
    show (a : Int) < (b : Int)
    omega
  have hlen : (mkE lo).length = lo.length := by simp [mkE]
  obtain ⟨S, hS1, hS2, hS3⟩ := insTo_spec (mkE lo) hpl (mkE lo).length (Nat.le_refl _)
  rw [List.take_length] at hS2
  have hSl := hS2.length_eq
  have e1 : (List.range lo.length).countP (fun i => decide (aheadN lo i < r)) = (mkE lo).countP fun x => decide (rank (mkE lo) x < r) := by
    conv => rhs; unfold mkE
    rw [List.countP_map]
    refine List.countP_congr fun i hi => ?_
    have hi' : i < lo.length := List.mem_range.1 hi
    have := rank_mk hi'
    show decide (aheadN lo i < r) = true ↔ decide (rank (mkE lo) ⟨i, ByteArray.empty, (i : Int), gI lo i, 0⟩ < r) = true
    rw [this]
  rw [e1, ← hS2.countP_eq, count_idx default]
  have e2 : (List.range S.length).countP (fun i => decide (rank (mkE lo) (S[i]?.getD default) < r)) = (List.range S.length).countP fun i => decide (i < r) := by
    refine List.countP_congr fun i hi => ?_
    have hi' : i < S.length := List.mem_range.1 hi
    have : rank (mkE lo) (S[i]?.getD default) = i := by
      rw [List.getElem?_eq_getElem hi']
      exact rank_of hS2 hS3 (List.getElem?_eq_getElem hi')
    rw [this]
  rw [e2, hSl, hlen]
  generalize lo.length = m at hr
  clear e1 e2 hpl hlen hS1 hS2 hS3 hSl
  induction m with
  | zero => simp; omega
  | succ m ih =>
    rw [List.range_succ, List.countP_append]
    by_cases hm : r ≤ m
    · rw [ih hm]; simp; omega
    · obtain rfl : r = m + 1 := by omega
      have : (List.range m).countP (fun i => decide (i < m + 1)) = m := by
        rw [List.countP_eq_length.2 fun i hi => by have := List.mem_range.1 hi; simp; omega, List.length_range]
      rw [this]; simp

theorem sum_map_add {α : Type} (c : Int) (p : α → Bool) : ∀ l : List α, (l.map fun i => c + if p i then 1 else 0).sum = c * l.length + l.countP p
  | [] => by simp
  | x :: l => by
    rw [List.map_cons, List.sum_cons, sum_map_add c p l, List.countP_cons, List.length_cons]
    have e : c * ((l.length + 1 : Nat) : Int) = c * l.length + c := by
      rw [Int.natCast_add, Int.mul_add]; simp
    rw [e]
    cases p x <;> simp <;> omega
theorem ws_sum {ow ns : List ByteArray} (h : 0 < ns.length) : (wsS ow ns).sum = ow.length := by
  have hl := loadsS_len ow ns
  have e : wsS ow ns = (List.range ns.length).map fun i => ((ow.length / ns.length : Nat) : Int) + if decide (aheadN (loadsS ow ns) i < ow.length % ns.length) then 1 else 0 := by
    unfold wsS wantN
    rw [hl]
    congr 1
    funext i
    simp
  rw [e, sum_map_add, List.length_range]
  have hc := count_lt (loadsS ow ns) (ow.length % ns.length) (by rw [hl]; exact Nat.le_of_lt (Nat.mod_lt _ h))
  rw [hl] at hc
  rw [hc]
  have := Nat.div_add_mod ow.length ns.length
  have e2 : ((ow.length / ns.length : Nat) : Int) * (ns.length : Int) = ((ns.length * (ow.length / ns.length) : Nat) : Int) := by rw [Nat.mul_comm]; simp
  rw [e2]
  omega
theorem ws_nonneg (ow ns : List ByteArray) (k : Nat) : 0 ≤ gI (wsS ow ns) k := by
  unfold gI wsS
  rw [List.getElem?_map]
  cases (List.range ns.length)[k]? with
  | none => simp
  | some i =>
    show 0 ≤ wantN _ _ _
    unfold wantN
    generalize ow.length / (loadsS ow ns).length = q
    split <;> omega

/-! ### the two passes -/
structure F1 where
  hs : List Int
  out : List ByteArray
  kp : List Int
def fits (ns : List ByteArray) (ws hs : List Int) (s : ByteArray) : Prop := 0 ≤ idxI ns s ∧ gI hs (idxI ns s).toNat < gI ws (idxI ns s).toNat
instance (ns : List ByteArray) (ws hs : List Int) (s : ByteArray) : Decidable (fits ns ws hs s) := by unfold fits; infer_instance
def f1s (ns : List ByteArray) (ws : List Int) (st : F1) (i : Nat) (s : ByteArray) : F1 :=
  if fits ns ws st.hs s then ⟨st.hs.set (idxI ns s).toNat (gI st.hs (idxI ns s).toNat + 1), st.out.set i s, st.kp.set i 1⟩ else st
def f1 (ns : List ByteArray) (ws : List Int) (ow : List ByteArray) : Nat → F1
  | 0 => ⟨List.replicate ns.length 0, List.replicate ow.length ByteArray.empty, List.replicate ow.length 0⟩
  | i + 1 => f1s ns ws (f1 ns ws ow i) i (ow[i]?.getD ByteArray.empty)
def lefts (kp : List Int) (i : Nat) : List Nat := (List.range i).filter fun p => !decide (gI kp p = 1)
theorem lefts_step (kp : List Int) (i : Nat) : lefts kp (i + 1) = lefts kp i ++ if gI kp i = 1 then [] else [i] := by
  unfold lefts
  rw [List.range_succ, List.filter_append]
  by_cases h : gI kp i = 1 <;> simp [h]

def bestTo (hs ws : List Int) : Nat → Int
  | 0 => -1
  | k + 1 => if gI hs k < gI ws k ∧ (bestTo hs ws k < 0 ∨ gI hs k < gI hs (bestTo hs ws k).toNat) then (k : Int) else bestTo hs ws k
structure S2 where
  hs : List Int
  out : List ByteArray
def p2s (ns : List ByteArray) (ws : List Int) (st : S2) (p : Nat) : S2 :=
  ⟨st.hs.set (bestTo st.hs ws ns.length).toNat (gI st.hs (bestTo st.hs ws ns.length).toNat + 1), st.out.set p (ns[(bestTo st.hs ws ns.length).toNat]?.getD ByteArray.empty)⟩
def evenS (ow nm : List ByteArray) : List ByteArray :=
  if (onceS nm).length = 0 then List.replicate ow.length ByteArray.empty
  else ((lefts (f1 (onceS nm) (wsS ow (onceS nm)) ow ow.length).kp ow.length).foldl (p2s (onceS nm) (wsS ow (onceS nm))) ⟨(f1 (onceS nm) (wsS ow (onceS nm)) ow ow.length).hs, (f1 (onceS nm) (wsS ow (onceS nm)) ow ow.length).out⟩).out

/-- the best: what it is -/
theorem best_spec (hs ws : List Int) : ∀ n, (bestTo hs ws n < 0 ∧ ∀ k, k < n → ¬ gI hs k < gI ws k) ∨
    ∃ b : Nat, bestTo hs ws n = b ∧ b < n ∧ gI hs b < gI ws b ∧ ∀ k, k < n → gI hs k < gI ws k → gI hs b < gI hs k ∨ gI hs b = gI hs k ∧ b ≤ k
  | 0 => .inl ⟨show (-1 : Int) < 0 by decide, fun k hk => absurd hk (Nat.not_lt_zero k)⟩
  | n + 1 => by
    unfold bestTo
    rcases best_spec hs ws n with ⟨h1, h2⟩ | ⟨b, h1, h2, h3, h4⟩
    · by_cases hn : gI hs n < gI ws n
      · rw [if_pos ⟨hn, .inl h1⟩]
        refine .inr ⟨n, rfl, Nat.lt_succ_self n, hn, fun k hk hlt => ?_⟩
        rcases Nat.lt_succ_iff_lt_or_eq.1 hk with hk | rfl
        · exact absurd hlt (h2 k hk)
        · exact .inr ⟨rfl, Nat.le_refl _⟩
      · rw [if_neg (fun hh => hn hh.1)]
        exact .inl ⟨h1, fun k hk => (Nat.lt_succ_iff_lt_or_eq.1 hk).elim (h2 k) fun hh => by rw [hh]; exact hn⟩
    · rw [h1]
      by_cases hn : gI hs n < gI ws n ∧ gI hs n < gI hs b
      · rw [if_pos ⟨hn.1, .inr (by simpa using hn.2)⟩]
        refine .inr ⟨n, rfl, Nat.lt_succ_self n, hn.1, fun k hk hlt => ?_⟩
        rcases Nat.lt_succ_iff_lt_or_eq.1 hk with hk | rfl
        · rcases h4 k hk hlt with h | h <;> left <;> omega
        · exact .inr ⟨rfl, Nat.le_refl _⟩
      · rw [if_neg (fun hh => hn ⟨hh.1, by rcases hh.2 with h | h; exact absurd h (by omega); simpa using h⟩)]
        refine .inr ⟨b, rfl, by omega, h3, fun k hk hlt => ?_⟩
        rcases Nat.lt_succ_iff_lt_or_eq.1 hk with hk | rfl
        · exact h4 k hk hlt
        · have : ¬ gI hs k < gI hs b := fun hh => hn ⟨hlt, hh⟩
          by_cases he : gI hs b = gI hs k
          · exact .inr ⟨he, by omega⟩
          · exact .inl (by omega)

/-- what is known all along the first pass -/
structure Inv1 (ns : List ByteArray) (ws : List Int) (n i : Nat) (st : F1) : Prop where
  lh : st.hs.length = ns.length
  lo : st.out.length = n
  lk : st.kp.length = n
  bd : ∀ k, 0 ≤ gI st.hs k ∧ gI st.hs k ≤ gI ws k
  sum : st.hs.sum + (lefts st.kp i).length = i
  fresh : ∀ p, i ≤ p → gI st.kp p = 0
theorem gI_rep (n k : Nat) : gI (List.replicate n 0) k = 0 := by
  unfold gI
  rw [List.getElem?_replicate]
  split <;> rfl
theorem idx_lt {l : List ByteArray} {s : ByteArray} (h : 0 ≤ idxI l s) : (idxI l s).toNat < l.length ∧ idxI l s = ((idxI l s).toNat : Int) ∧ l[(idxI l s).toNat]? = some s := by
  unfold idxI at h ⊢
  cases hf : l.findIdx? (fun x => decide (x = s)) with
  | none => rw [hf] at h; simp at h
  | some k =>
    obtain ⟨hk, h1, _⟩ := List.findIdx?_eq_some_iff_getElem.1 hf
    refine ⟨hk, rfl, ?_⟩
    show l[k]? = some s
    rw [List.getElem?_eq_getElem hk]
    simpa using h1
theorem lefts_congr {a b : List Int} {i : Nat} (h : ∀ p, p < i → gI a p = gI b p) : lefts a i = lefts b i := by
  unfold lefts
  refine List.filter_congr fun p hp => ?_
  rw [h p (List.mem_range.1 hp)]
theorem sum_rep (n : Nat) : (List.replicate n (0 : Int)).sum = 0 := by
  induction n with
  | zero => rfl
  | succ n ih => rw [List.replicate_succ, List.sum_cons, ih]; rfl
theorem f1_inv (ow ns : List ByteArray) : ∀ i, i ≤ ow.length → Inv1 ns (wsS ow ns) ow.length i (f1 ns (wsS ow ns) ow i)
  | 0, _ => ⟨by simp [f1], by simp [f1], by simp [f1], fun k => by unfold f1; rw [gI_rep]; exact ⟨Int.le_refl _, ws_nonneg ow ns k⟩, by unfold f1 lefts; rw [sum_rep]; rfl, fun p _ => by unfold f1; exact gI_rep _ _⟩
  | i + 1, hi => by
    have h := f1_inv ow ns i (by omega)
    unfold f1 f1s
    generalize f1 ns (wsS ow ns) ow i = st at h
    generalize ow[i]?.getD ByteArray.empty = s
    split
    · rename_i hf
      obtain ⟨h0, h1⟩ := hf
      obtain ⟨hk, _, _⟩ := idx_lt h0
      generalize (idxI ns s).toNat = k at h1 hk
      have hkl : k < st.hs.length := by rw [h.lh]; exact hk
      have hik : i < st.kp.length := by rw [h.lk]; omega
      refine ⟨by simpa using h.lh, by simpa using h.lo, by simpa using h.lk, fun j => ?_, ?_, fun p hp => ?_⟩
      · show 0 ≤ gI (st.hs.set k _) j ∧ gI (st.hs.set k _) j ≤ _
        rw [gI_set hkl]
        have := h.bd j
        have := h.bd k
        split
        · rename_i hj; subst hj; omega
        · omega
      · show (st.hs.set k (gI st.hs k + 1)).sum + ((lefts (st.kp.set i 1) (i + 1)).length : Int) = ((i + 1 : Nat) : Int)
        rw [sum_set hkl, lefts_step, lefts_congr (b := st.kp) fun p hp => by rw [gI_set hik, if_neg (by omega)], gI_set hik, if_pos rfl, if_pos rfl, List.append_nil]
        have := h.sum
        omega
      · show gI (st.kp.set i 1) p = 0
        rw [gI_set hik, if_neg (by omega)]
        exact h.fresh p (by omega)
    · refine ⟨h.lh, h.lo, h.lk, h.bd, ?_, fun p hp => h.fresh p (by omega)⟩
      rw [lefts_step, h.fresh i (Nat.le_refl i), if_neg (by decide), List.length_append]
      have := h.sum
      simp only [List.length_cons, List.length_nil]
      omega

/-- what is known all along the second one -/
structure Inv2 (ns : List ByteArray) (ws : List Int) (n left : Nat) (st : S2) : Prop where
  lh : st.hs.length = ns.length
  lo : st.out.length = n
  bd : ∀ k, 0 ≤ gI st.hs k ∧ gI st.hs k ≤ gI ws k
  sum : st.hs.sum + left = n
theorem Inv2.best {ow ns : List ByteArray} {left : Nat} {st : S2} (hns : 0 < ns.length) (h : Inv2 ns (wsS ow ns) ow.length (left + 1) st) :
    ∃ b : Nat, bestTo st.hs (wsS ow ns) ns.length = b ∧ b < ns.length ∧ gI st.hs b < gI (wsS ow ns) b ∧ ∀ k, k < ns.length → gI st.hs k < gI (wsS ow ns) k → gI st.hs b < gI st.hs k ∨ gI st.hs b = gI st.hs k ∧ b ≤ k := by
  rcases best_spec st.hs (wsS ow ns) ns.length with ⟨_, h2⟩ | h
  · exfalso
    obtain ⟨k, hk, hlt⟩ := some_room (hs := st.hs) (ws := wsS ow ns) (by rw [h.lh, wsS_len]) (by rw [ws_sum hns]; have := h.sum; omega)
    exact h2 k (by rw [← h.lh]; exact hk) hlt
  · exact h
theorem Inv2.step {ow ns : List ByteArray} {left p : Nat} {st : S2} (hns : 0 < ns.length) (h : Inv2 ns (wsS ow ns) ow.length (left + 1) st) : Inv2 ns (wsS ow ns) ow.length left (p2s ns (wsS ow ns) st p) := by
  obtain ⟨b, hb, h1, h2, _⟩ := h.best hns
  unfold p2s
  rw [hb, Int.toNat_natCast]
  have hbl : b < st.hs.length := by rw [h.lh]; exact h1
  refine ⟨by simpa using h.lh, by simpa using h.lo, fun j => ?_, ?_⟩
  · show 0 ≤ gI (st.hs.set b _) j ∧ gI (st.hs.set b _) j ≤ _
    rw [gI_set hbl]
    have := h.bd j
    have := h.bd b
    split
    · rename_i hj; subst hj; omega
    · omega
  · show (st.hs.set b (gI st.hs b + 1)).sum + (left : Int) = _
    rw [sum_set hbl]
    have := h.sum
    omega
end Go.Proofs.Ytdedpamcpgbgmaa
