/-
  Claims: the least that can be moved, in plain Lean. Own work (an AI agent).
-/
import Derived.Test.YtdedpamcpgbgmaaClaimP
set_option linter.all false
set_option maxRecDepth 100000
namespace Go.Proofs.Ytdedpamcpgbgmaa
open Go.Ab

/-- the least, tried by all owners of each partition -/
def leastS (ns : List ByteArray) (q n : Int) : List ByteArray → List Int → Int
  | [], hs => if ∀ h ∈ hs, q ≤ h ∧ h ≤ q + 1 then 0 else n + 1
  | o :: os, hs => (List.range ns.length).foldl (fun best k => if q < gI hs k then best else min best (leastS ns q n os (hs.set k (gI hs k + 1)) + if ns[k]? = some o then 0 else 1)) (n + 1)
def leastB (ns : List ByteArray) (q n : Int) (o : ByteArray) (os : List ByteArray) (hs : List Int) (k : Nat) : Int :=
  (List.range k).foldl (fun best k => if q < gI hs k then best else min best (leastS ns q n os (hs.set k (gI hs k + 1)) + if ns[k]? = some o then 0 else 1)) (n + 1)
theorem leastB_step (ns : List ByteArray) (q n : Int) (o : ByteArray) (os : List ByteArray) (hs : List Int) (k : Nat) : leastB ns q n o os hs (k + 1) = if q < gI hs k then leastB ns q n o os hs k else min (leastB ns q n o os hs k) (leastS ns q n os (hs.set k (gI hs k + 1)) + if ns[k]? = some o then 0 else 1) := by
  unfold leastB
  rw [List.range_succ, List.foldl_append]
  rfl
theorem leastS_cons (ns : List ByteArray) (q n : Int) (o : ByteArray) (os : List ByteArray) (hs : List Int) : leastS ns q n (o :: os) hs = leastB ns q n o os hs ns.length := rfl
theorem leastB_bd {ns : List ByteArray} {q n : Int} {o : ByteArray} {os : List ByteArray} {hs : List Int} (hn : 0 ≤ n) (h : ∀ hs, 0 ≤ leastS ns q n os hs) : ∀ k, 0 ≤ leastB ns q n o os hs k ∧ leastB ns q n o os hs k ≤ n + 1
  | 0 => by unfold leastB; simp; omega
  | k + 1 => by
    have ih := leastB_bd (o := o) (hs := hs) hn h k
    have h1 := h (hs.set k (gI hs k + 1))
    rw [leastB_step]
    split
    · exact ih
    · split <;> omega
theorem leastS_bd {ns : List ByteArray} {q n : Int} (hn : 0 ≤ n) : ∀ (os : List ByteArray) (hs : List Int), 0 ≤ leastS ns q n os hs ∧ leastS ns q n os hs ≤ n + 1
  | [], hs => by unfold leastS; split <;> omega
  | o :: os, hs => by
    rw [leastS_cons]
    exact leastB_bd hn (fun hs => (leastS_bd hn os hs).1) _
/-- which one it is -/
theorem leastB_is (ns : List ByteArray) (q n : Int) (o : ByteArray) (os : List ByteArray) (hs : List Int) : ∀ K, (leastB ns q n o os hs K = n + 1 ∨ ∃ k, k < K ∧ gI hs k ≤ q ∧ leastB ns q n o os hs K = leastS ns q n os (hs.set k (gI hs k + 1)) + if ns[k]? = some o then 0 else 1) ∧
    ∀ k, k < K → gI hs k ≤ q → leastB ns q n o os hs K ≤ leastS ns q n os (hs.set k (gI hs k + 1)) + if ns[k]? = some o then 0 else 1
  | 0 => ⟨.inl rfl, fun k hk => absurd hk (Nat.not_lt_zero k)⟩
  | K + 1 => by
    obtain ⟨h1, h2⟩ := leastB_is ns q n o os hs K
    rw [leastB_step]
    obtain ⟨c, hc⟩ : ∃ c, c = leastS ns q n os (hs.set K (gI hs K + 1)) + if ns[K]? = some o then 0 else 1 := ⟨_, rfl⟩
    rw [← hc]
    by_cases hq : q < gI hs K
    · rw [if_pos hq]
      refine ⟨h1.imp id fun ⟨k, a, b, e⟩ => ⟨k, by omega, b, e⟩, fun k hk hkq => ?_⟩
      rcases Nat.lt_succ_iff_lt_or_eq.1 hk with hk | rfl
      · exact h2 k hk hkq
      · omega
    · rw [if_neg hq]
      constructor
      · rcases Int.le_total (leastB ns q n o os hs K) c with hh | hh
        · rw [Int.min_eq_left hh]
          exact h1.imp id fun ⟨k, a, b, e⟩ => ⟨k, by omega, b, e⟩
        · rw [Int.min_eq_right hh]
          exact .inr ⟨K, by omega, by omega, hc⟩
      · intro k hk hkq
        rcases Nat.lt_succ_iff_lt_or_eq.1 hk with hk | rfl
        · exact Int.le_trans (Int.min_le_left ..) (h2 k hk hkq)
        · rw [← hc]; exact Int.min_le_right ..

/-! ### sums along a range -/
def sumR (m : Nat) (f : Nat → Int) : Int := ((List.range m).map f).sum
theorem sumR_succ (m : Nat) (f : Nat → Int) : sumR (m + 1) f = sumR m f + f m := by
  unfold sumR
  rw [List.range_succ, List.map_append, List.sum_append]
  simp
theorem sumR_le {m : Nat} {f g : Nat → Int} (h : ∀ i, i < m → f i ≤ g i) : sumR m f ≤ sumR m g := by
  induction m with
  | zero => exact Int.le_refl _
  | succ m ih =>
    have h1 := ih fun i hi => h i (by omega)
    have h2 := h m (by omega)
    rw [sumR_succ, sumR_succ]; omega
theorem sumR_lt {m k : Nat} {f g : Nat → Int} (h : ∀ i, i < m → f i ≤ g i) (hk : k < m) (hlt : f k + 1 ≤ g k) : sumR m f + 1 ≤ sumR m g := by
  induction m with
  | zero => omega
  | succ m ih =>
    rw [sumR_succ, sumR_succ]
    rcases Nat.lt_succ_iff_lt_or_eq.1 hk with hk | rfl
    · have h1 := ih (fun i hi => h i (by omega)) hk
      have h2 := h m (by omega)
      omega
    · have h1 := sumR_le (m := k) fun i hi => h i (by omega)
      omega
theorem sumR_congr {m : Nat} {f g : Nat → Int} (h : ∀ i, i < m → f i = g i) : sumR m f = sumR m g :=
  Int.le_antisymm (sumR_le fun i hi => by rw [h i hi]; exact Int.le_refl _) (sumR_le fun i hi => by rw [h i hi]; exact Int.le_refl _)
theorem sum_gI (l : List Int) : l.sum = sumR l.length (gI l) := by
  unfold sumR
  congr 1
  apply List.ext_getElem?
  intro k
  rw [List.getElem?_map]
  by_cases hk : k < l.length
  · rw [List.getElem?_range hk, gI_get hk]; rfl
  · rw [List.getElem?_eq_none (by omega), List.getElem?_eq_none (by simp; omega)]; rfl

/-! ### from below -/
def nK (ns : List ByteArray) (k : Nat) : ByteArray := ns[k]?.getD ByteArray.empty
theorem nK_get {ns : List ByteArray} {k : Nat} (h : k < ns.length) : ns[k]? = some (nK ns k) := by unfold nK; rw [List.getElem?_eq_getElem h]; rfl
def gainS (ns os : List ByteArray) (hs t : List Int) : Int := sumR ns.length fun k => min (cnt os (nK ns k) : Int) (gI t k - gI hs k)
structure Goal (q : Int) (m : Nat) (hs t : List Int) (n : Int) : Prop where
  len : t.length = m
  near : ∀ k, k < m → (gI t k = q ∨ gI t k = q + 1) ∧ gI hs k ≤ gI t k
  sum : t.sum = hs.sum + n
theorem cnt_cons (o : ByteArray) (os : List ByteArray) (s : ByteArray) : cnt (o :: os) s = cnt os s + if o = s then 1 else 0 := by
  unfold cnt
  rw [List.countP_cons]
  by_cases h : o = s <;> simp [h]
theorem least_low {ns : List ByteArray} {q n : Int} : ∀ (os : List ByteArray) (hs : List Int), hs.length = ns.length → n + 1 ≤ leastS ns q n os hs ∨ ∃ t, Goal q ns.length hs t os.length ∧ (os.length : Int) - gainS ns os hs t ≤ leastS ns q n os hs
  | [], hs, hl => by
    unfold leastS
    split
    · rename_i h
      refine .inr ⟨hs, ⟨hl, fun k hk => ?_, by simp⟩, ?_⟩
      · have := h _ (List.mem_of_getElem? (gI_get (l := hs) (k := k) (by omega)))
        exact ⟨by omega, Int.le_refl _⟩
      · unfold gainS
        rw [sumR_congr (g := fun _ => 0) fun i _ => by simp [cnt]]
        have : sumR ns.length (fun _ => 0) = 0 := by
          generalize ns.length = m
          induction m with
          | zero => rfl
          | succ m ih => rw [sumR_succ, ih]; rfl
        rw [this]; simp
    · exact .inl (Int.le_refl _)
  | o :: os, hs, hl => by
    rw [leastS_cons]
    rcases (leastB_is ns q n o os hs ns.length).1 with h1 | ⟨k, hk, hkq, h1⟩
    · exact .inl (by omega)
    · rw [h1]
      rcases least_low (ns := ns) (q := q) (n := n) os (hs.set k (gI hs k + 1)) (by simpa using hl) with h2 | ⟨t, hG, h2⟩
      · left; split <;> omega
      · right
        have hkl : k < hs.length := by omega
        refine ⟨t, ⟨hG.len, fun j hj => ?_, ?_⟩, ?_⟩
        · have := hG.near j hj
          rw [gI_set hkl] at this
          refine ⟨this.1, ?_⟩
          have h3 := this.2
          split at h3
          · rename_i hh; subst hh; omega
          · exact h3
        · have := hG.sum
          rw [sum_set hkl] at this
          simp only [List.length_cons]
          omega
        · have hle : ∀ i, i < ns.length → min (cnt os (nK ns i) : Int) (gI t i - gI (hs.set k (gI hs k + 1)) i) ≤ min (cnt (o :: os) (nK ns i) : Int) (gI t i - gI hs i) := fun i hi => by
            rw [gI_set hkl, cnt_cons]
            have : (cnt os (nK ns i) : Int) ≤ ((cnt os (nK ns i) + if o = nK ns i then 1 else 0 : Nat) : Int) := by split <;> omega
            split
            · rename_i hh; subst hh; omega
            · omega
          have hlen : ((o :: os).length : Int) = os.length + 1 := by simp
          rw [hlen]
          by_cases ho : ns[k]? = some o
          · rw [if_pos ho]
            have h3 : gainS ns os (hs.set k (gI hs k + 1)) t + 1 ≤ gainS ns (o :: os) hs t := sumR_lt hle hk (by
              have : o = nK ns k := by unfold nK; rw [ho]; rfl
              rw [gI_set hkl, if_pos rfl, cnt_cons, if_pos this]
              omega)
            omega
          · rw [if_neg ho]
            have h3 : gainS ns os (hs.set k (gI hs k + 1)) t ≤ gainS ns (o :: os) hs t := sumR_le hle
            omega

/-! ### from above -/
theorem diffs_cons (x y : ByteArray) (a b : List ByteArray) (n : Nat) : diffs (x :: a) (y :: b) (n + 1) = diffs a b n + if x = y then 0 else 1 := by
  unfold diffs
  rw [List.range_succ_eq_map, List.countP_cons, List.countP_map]
  congr 1
  by_cases h : x = y <;> simp [h]
theorem least_up {ns : List ByteArray} {q n : Int} (hnd : ns.Nodup) : ∀ (os ev : List ByteArray) (hs : List Int), ev.length = os.length → hs.length = ns.length → (∀ e ∈ ev, e ∈ ns) → (∀ k s, ns[k]? = some s → q ≤ gI hs k + cnt ev s ∧ gI hs k + cnt ev s ≤ q + 1) → leastS ns q n os hs ≤ diffs os ev os.length
  | [], ev, hs, hl, hh, hin, hc => by
    obtain rfl : ev = [] := List.eq_nil_of_length_eq_zero hl
    unfold leastS
    rw [if_pos]
    · simp
    · intro h hm
      obtain ⟨k, hk, rfl⟩ := List.getElem_of_mem hm
      have := hc k _ (nK_get (by omega))
      have e : gI hs k = hs[k] := by unfold gI; rw [List.getElem?_eq_getElem hk]; rfl
      rw [e] at this
      simp [cnt] at this
      omega
  | o :: os, [], hs, hl, hh, hin, hc => by simp at hl
  | o :: os, e :: ev, hs, hl, hh, hin, hc => by
    obtain ⟨k, hk, hke⟩ := List.getElem_of_mem (hin e (List.mem_cons_self ..))
    have hke' : ns[k]? = some e := by rw [List.getElem?_eq_getElem hk, hke]
    have hkl : k < hs.length := by omega
    have h1 := hc k e hke'
    rw [cnt_cons, if_pos rfl] at h1
    have ih := least_up (n := n) (q := q) hnd os ev (hs.set k (gI hs k + 1)) (by simpa using hl) (by simpa using hh) (fun x hx => hin x (List.mem_cons_of_mem _ hx)) fun j s hj => by
      have h2 := hc j s hj
      rw [cnt_cons] at h2
      rw [gI_set hkl]
      by_cases hjk : j = k
      · subst hjk
        rw [hke'] at hj
        obtain rfl := Option.some.inj hj
        rw [if_pos rfl] at h2 ⊢
        omega
      · rw [if_neg hjk]
        rw [if_neg (fun hh => hjk (by subst hh; exact (List.getElem?_inj (i := j) (j := k) (List.getElem?_eq_some_iff.1 hj).1 hnd).1 (by rw [hj, hke'])))] at h2
        omega
    have h3 := (leastB_is ns q n o os hs ns.length).2 k hk (by omega)
    rw [leastS_cons]
    show _ ≤ ((diffs (o :: os) (e :: ev) (os.length + 1) : Nat) : Int)
    rw [diffs_cons]
    rw [hke'] at h3
    by_cases hoe : o = e
    · rw [if_pos (by rw [hoe])] at h3
      rw [if_pos hoe]; omega
    · rw [if_neg (fun hh => hoe (Option.some.inj hh).symm)] at h3
      rw [if_neg hoe]; omega

/-! ### what is moved here -/
theorem f1_min {ow ns : List ByteArray} (hnd : ns.Nodup) : ∀ i, i ≤ ow.length → (∀ k s, ns[k]? = some s → gI (f1 ns (wsS ow ns) ow i).hs k = min (cnt (ow.take i) s : Int) (gI (wsS ow ns) k)) ∧ ∀ p, p < i → gI (f1 ns (wsS ow ns) ow i).kp p = 1 → (f1 ns (wsS ow ns) ow i).out[p]? = ow[p]?
  | 0, _ => ⟨fun k s _ => by
      have := ws_nonneg ow ns k
      unfold f1
      rw [gI_rep]
      simp [cnt]
      omega, fun p hp => absurd hp (Nat.not_lt_zero p)⟩
  | i + 1, hi => by
    obtain ⟨h1, h2⟩ := f1_min (ow := ow) hnd i (by omega)
    have hI := f1_inv ow ns i (by omega)
    obtain ⟨s, hs⟩ := getS (l := ow) (i := i) (by omega)
    have e : f1 ns (wsS ow ns) ow (i + 1) = f1s ns (wsS ow ns) (f1 ns (wsS ow ns) ow i) i s := by rw [f1, hs]; rfl
    rw [e]
    have hct := fun t => cnt_take (s := t) hs
    generalize f1 ns (wsS ow ns) ow i = st at h1 h2 hI
    unfold f1s
    split
    · rename_i hf
      obtain ⟨h0, hlt⟩ := hf
      obtain ⟨hk, _, hks⟩ := idx_lt h0
      obtain ⟨j, hj⟩ : ∃ j, (idxI ns s).toNat = j := ⟨_, rfl⟩
      rw [hj] at hlt hk hks ⊢
      constructor
      · intro k t hkt
        show gI (st.hs.set j _) k = _
        rw [gI_set (by rw [hI.lh]; exact hk), hct]
        by_cases hkj : k = j
        · subst hkj
          rw [hks] at hkt
          obtain rfl := Option.some.inj hkt
          have := h1 k s hks
          rw [if_pos rfl, if_pos rfl]; omega
        · rw [if_neg hkj, if_neg (fun hh => hkj (by subst hh; exact (List.getElem?_inj (i := k) (j := j) (List.getElem?_eq_some_iff.1 hkt).1 hnd).1 (by rw [hkt, hks])))]
          exact h1 k t hkt
      · intro p hp hkp
        show (st.out.set i s)[p]? = _
        rw [List.getElem?_set]
        by_cases hpi : p = i
        · subst hpi
          rw [if_pos rfl, if_pos (by rw [hI.lo]; omega), hs]
        · rw [if_neg (Ne.symm hpi)]
          refine h2 p (by omega) ?_
          have : gI (st.kp.set i 1) p = 1 := hkp
          rwa [gI_set (by rw [hI.lk]; omega), if_neg hpi] at this
    · rename_i hf
      constructor
      · intro k t hkt
        rw [hct, h1 k t hkt]
        by_cases hst : s = t
        · subst hst
          rw [if_pos rfl]
          have hidx : idxI ns s = (k : Int) := idx_some hkt fun j y hj hy hh => by
            subst hh
            have := (List.getElem?_inj (i := j) (j := k) (by have := (List.getElem?_eq_some_iff.1 hkt).1; omega) hnd).1 (by rw [hy, hkt])
            omega
          have hnl : ¬ gI st.hs k < gI (wsS ow ns) k := fun hh => hf ⟨by omega, by rw [hidx, Int.toNat_natCast]; exact hh⟩
          have := h1 k s hkt
          omega
        · rw [if_neg hst]; rfl
      · intro p hp hkp
        by_cases hpi : p = i
        · subst hpi
          rw [hI.fresh p (Nat.le_refl p)] at hkp
          cases hkp
        · exact h2 p (by omega) hkp
theorem moved_le {ow nm : List ByteArray} (h : 0 < nm.length) : (diffs ow (evenS ow nm) ow.length : Int) ≤ ow.length - sumR (onceS nm).length fun k => min (cnt ow (nK (onceS nm) k) : Int) (gI (wsS ow (onceS nm)) k) := by
  have hI := f1_inv ow (onceS nm) ow.length (Nat.le_refl _)
  obtain ⟨h1, h2⟩ := f1_min (ow := ow) (once_nodup nm) ow.length (Nat.le_refl _)
  have h3 := (even_ok (ow := ow) h).2
  generalize f1 (onceS nm) (wsS ow (onceS nm)) ow ow.length = F at hI h1 h2 h3
  have hd : ∀ i, i ≤ ow.length → diffs ow (evenS ow nm) i ≤ (lefts F.kp i).length := by
    intro i
    induction i with
    | zero => intro _; exact Nat.le_refl _
    | succ i ih =>
      intro hi
      have := ih (by omega)
      rw [diffs_step, lefts_step, List.length_append]
      by_cases hk : gI F.kp i = 1
      · rw [if_pos hk, if_pos]
        · simpa using this
        · rw [h3 i fun hh => ?_, h2 i (by omega) hk]
          unfold lefts at hh
          have := (List.mem_filter.1 hh).2
          simp [hk] at this
      · rw [if_neg hk]
        have : (if ow[i]? = (evenS ow nm)[i]? then 0 else 1) ≤ 1 := by split <;> omega
        simp only [List.length_cons, List.length_nil]
        omega
  have h4 := hd ow.length (Nat.le_refl _)
  have h5 := hI.sum
  rw [sum_gI, hI.lh] at h5
  have h6 : sumR (onceS nm).length (gI F.hs) = sumR (onceS nm).length fun k => min (cnt ow (nK (onceS nm) k) : Int) (gI (wsS ow (onceS nm)) k) := sumR_congr fun k hk => by
    rw [h1 k _ (nK_get hk), List.take_length]
  omega

/-! ### no other even shares keep more -/
theorem countP_lt {α : Type} {p r : α → Bool} : ∀ {l : List α}, (∀ x ∈ l, p x = true → r x = true) → (∃ x ∈ l, p x = false ∧ r x = true) → l.countP p < l.countP r
  | [], _, h => by obtain ⟨x, hx, _⟩ := h; cases hx
  | y :: l, h, hx => by
    obtain ⟨x, hx, hp, hr⟩ := hx
    rw [List.countP_cons, List.countP_cons]
    have hm : l.countP p ≤ l.countP r := List.countP_mono_left fun z hz => h z (List.mem_cons_of_mem _ hz)
    rcases List.mem_cons.1 hx with rfl | hx
    · rw [hp, hr]; simp; omega
    · have ih := countP_lt (fun z hz => h z (List.mem_cons_of_mem _ hz)) ⟨x, hx, hp, hr⟩
      have := h y (List.mem_cons_self ..)
      cases hpy : p y
      · simp; omega
      · rw [this hpy]; simp; exact ih
theorem ahead_lt {lo : List Int} {j k : Nat} (hj : j < lo.length) (hk : k < lo.length) (h : gI lo j < gI lo k) : aheadN lo k < aheadN lo j := by
  unfold aheadN
  refine countP_lt (fun i hi => ?_) ⟨k, List.mem_range.2 hk, ?_, ?_⟩
  · simp only [decide_eq_true_eq]; omega
  · simp
  · simp; omega
theorem sum_min (c : Nat → Int) (q : Int) (e : Nat → Bool) (m : Nat) : sumR m (fun k => min (c k) (q + if e k then 1 else 0)) = sumR m (fun k => min (c k) q) + ((List.range m).countP fun k => e k && decide (q < c k) : Nat) := by
  induction m with
  | zero => rfl
  | succ m ih =>
    rw [sumR_succ, sumR_succ, ih, List.range_succ, List.countP_append]
    cases hem : e m
    · simp [hem]; omega
    · by_cases hq : q < c m <;> simp [hq, hem] <;> omega
theorem best_gain {ow ns : List ByteArray} {t : List Int} (hns : 0 < ns.length) (hG : Goal ((ow.length / ns.length : Nat) : Int) ns.length (List.replicate ns.length 0) t ow.length) :
    gainS ns ow (List.replicate ns.length 0) t ≤ sumR ns.length fun k => min (cnt ow (nK ns k) : Int) (gI (wsS ow ns) k) := by
  obtain ⟨q, hq⟩ : ∃ q : Int, ((ow.length / ns.length : Nat) : Int) = q := ⟨_, rfl⟩
  obtain ⟨r, hr⟩ : ∃ r, ow.length % ns.length = r := ⟨_, rfl⟩
  obtain ⟨e, he⟩ : ∃ e : Nat → Bool, e = fun k => decide (aheadN (loadsS ow ns) k < r) := ⟨_, rfl⟩
  obtain ⟨e', he'⟩ : ∃ e' : Nat → Bool, e' = fun k => decide (gI t k = q + 1) := ⟨_, rfl⟩
  obtain ⟨c, hc⟩ : ∃ c : Nat → Int, c = fun k => (cnt ow (nK ns k) : Int) := ⟨_, rfl⟩
  rw [hq] at hG
  have ht : ∀ k, k < ns.length → gI t k = q + if e' k then 1 else 0 := fun k hk => by
    rw [he']
    rcases (hG.near k hk).1 with h | h
    · simp [h]; omega
    · simp [h]
  have hw : ∀ k, k < ns.length → gI (wsS ow ns) k = q + if e k then 1 else 0 := fun k hk => by rw [ws_get _ _ hk, hq, hr, he]; simp
  have e1 : gainS ns ow (List.replicate ns.length 0) t = sumR ns.length fun k => min (c k) (q + if e' k then 1 else 0) := sumR_congr fun k hk => by
    rw [gI_rep, ht k hk, hc]; simp
  have e2 : (sumR ns.length fun k => min (cnt ow (nK ns k) : Int) (gI (wsS ow ns) k)) = sumR ns.length fun k => min (c k) (q + if e k then 1 else 0) := sumR_congr fun k hk => by
    rw [hw k hk, hc]
  rw [e1, e2, sum_min, sum_min]
  have hce : (List.range ns.length).countP e = r := by
    have := count_lt (loadsS ow ns) r (by rw [loadsS_len, ← hr]; exact Nat.le_of_lt (Nat.mod_lt _ hns))
    rw [loadsS_len] at this
    rw [he]; exact this
  have hce' : (List.range ns.length).countP e' = r := by
    have h1 := hG.sum
    rw [sum_gI, hG.len, sumR_congr ht, sum_rep] at h1
    unfold sumR at h1
    rw [sum_map_add, List.length_range, ← hq] at h1
    have h2 := Nat.div_add_mod ow.length ns.length
    have h3 : ((ow.length / ns.length : Nat) : Int) * (ns.length : Int) = ((ns.length * (ow.length / ns.length) : Nat) : Int) := by rw [Nat.mul_comm]; simp
    rw [h3] at h1
    omega
  have hlo : ∀ k, k < ns.length → gI (loadsS ow ns) k = c k := fun k hk => by rw [loads_get ow (nK_get hk), hc]
  have key : (List.range ns.length).countP (fun k => e' k && decide (q < c k)) ≤ (List.range ns.length).countP (fun k => e k && decide (q < c k)) := by
    by_cases hx : ∃ k, k < ns.length ∧ q < c k ∧ e k = false
    · obtain ⟨k, hk, hqk, hek⟩ := hx
      have h1 : (List.range ns.length).countP (fun k => e k && decide (q < c k)) = r := by
        rw [← hce]
        refine List.countP_congr fun j hj => ?_
        have hj' := List.mem_range.1 hj
        constructor
        · intro h; simp at h; exact h.1
        · intro h
          have h2 : ¬ c j < c k := fun hlt => by
            have h3 := ahead_lt (lo := loadsS ow ns) (j := j) (k := k) (by rw [loadsS_len]; exact hj') (by rw [loadsS_len]; exact hk) (by rw [hlo j hj', hlo k hk]; exact hlt)
            rw [he] at h hek
            simp at h hek
            omega
          simp [h]; omega
      rw [h1, ← hce']
      exact List.countP_mono_left fun j _ h => by simp at h; exact h.1
    · have h1 : (List.range ns.length).countP (fun k => e k && decide (q < c k)) = (List.range ns.length).countP (fun k => decide (q < c k)) := by
        refine List.countP_congr fun j hj => ?_
        have hj' := List.mem_range.1 hj
        constructor
        · intro h; simp at h; simpa using h.2
        · intro h
          simp at h
          have : e j = true := by
            cases hej : e j with
            | true => rfl
            | false => exact absurd ⟨j, hj', h, hej⟩ hx
          simp [this, h]
      rw [h1]
      exact List.countP_mono_left fun j _ h => by simp at h; simpa using h.2
  omega

theorem least_eq {ow nm : List ByteArray} (h : 0 < nm.length) : leastS (onceS nm) ((ow.length / (onceS nm).length : Nat) : Int) ow.length ow (List.replicate (onceS nm).length 0) = diffs ow (evenS ow nm) ow.length := by
  have hns := once_pos h
  have hel := even_len ow nm
  have hup := least_up (q := ((ow.length / (onceS nm).length : Nat) : Int)) (n := ow.length) (once_nodup nm) ow (evenS ow nm) (List.replicate (onceS nm).length 0) hel (by simp) (even_in h) fun k s hk => by
    rw [gI_rep, even_cnt h hk, ws_get _ _ (List.getElem?_eq_some_iff.1 hk).1]
    split <;> omega
  have hml := moved_le (ow := ow) h
  have hdl := diffs_le ow (evenS ow nm) ow.length
  rcases least_low (ns := onceS nm) (q := ((ow.length / (onceS nm).length : Nat) : Int)) (n := (ow.length : Int)) ow (List.replicate (onceS nm).length 0) (by simp) with h1 | ⟨t, hG, h1⟩
  · omega
  · have := best_gain hns hG
    omega
end Go.Proofs.Ytdedpamcpgbgmaa
