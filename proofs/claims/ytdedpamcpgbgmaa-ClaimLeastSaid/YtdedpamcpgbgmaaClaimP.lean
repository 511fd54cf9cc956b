/-
  Claims: what the plain sharing out comes to: how many each name gets. Own work (an AI agent).
-/
import Derived.Test.YtdedpamcpgbgmaaClaimY
set_option linter.all false
set_option maxRecDepth 100000
namespace Go.Proofs.Ytdedpamcpgbgmaa
open Go.Ab

theorem once_nodup (l : List ByteArray) : (onceS l).Nodup := by
  have : ∀ (l out : List ByteArray), out.Nodup → (l.foldl stepO out).Nodup := by
    intro l
    induction l with
    | nil => intro out h; exact h
    | cons x l ih =>
      intro out h
      refine ih _ ?_
      unfold stepO
      split
      · rename_i hx
        rw [List.nodup_append]
        refine ⟨h, by simp, fun a ha b hb hh => ?_⟩
        obtain rfl := List.mem_singleton.1 hb
        subst hh
        exact idx_neg.1 hx ha
      · exact h
  exact this l [] List.nodup_nil
theorem foldO_eq : ∀ (l out : List ByteArray), (l.foldl stepO out).length = out.length + l.length → l.foldl stepO out = out ++ l
  | [], out, _ => by simp
  | x :: l, out, h => by
    have e : stepO out x = out ++ [x] := by
      unfold stepO
      split
      · rfl
      · rename_i hx
        exfalso
        have h1 := foldO_le l out
        rw [List.foldl_cons, show stepO out x = out from if_neg hx] at h
        simp only [List.length_cons] at h
        omega
    rw [List.foldl_cons, e] at h ⊢
    rw [foldO_eq l (out ++ [x]) (by rw [h]; simp; omega)]
    simp
theorem once_self {l : List ByteArray} (h : (onceS l).length = l.length) : onceS l = l := by
  have := foldO_eq l [] (by simpa [onceS] using h)
  simpa [onceS] using this
theorem once_mem {l : List ByteArray} {s : ByteArray} (h : s ∈ l) : s ∈ onceS l := by
  have : ∀ (l out : List ByteArray), (∀ s ∈ out, s ∈ l.foldl stepO out) ∧ ∀ s ∈ l, s ∈ l.foldl stepO out := by
    intro l
    induction l with
    | nil => intro out; exact ⟨fun s h => h, by simp⟩
    | cons x l ih =>
      intro out
      have hm : ∀ s ∈ out, s ∈ stepO out x := fun s hs => by
        unfold stepO
        split
        · exact List.mem_append_left _ hs
        · exact hs
      have hx : x ∈ stepO out x := by
        unfold stepO
        split
        · simp
        · rename_i hh
          exact Classical.byContradiction fun hn => hh (idx_neg.2 hn)
      obtain ⟨i1, i2⟩ := ih (stepO out x)
      refine ⟨fun s hs => i1 s (hm s hs), fun s hs => ?_⟩
      rcases List.mem_cons.1 hs with rfl | hs
      · exact i1 _ hx
      · exact i2 s hs
  exact (this l []).2 s h

theorem count_set' {l : List (Option Nat)} {p : Nat} {x y z : Option Nat} (hp : l[p]? = some x) (hxz : x ≠ z) : (l.set p y).count z = l.count z + if y = z then 1 else 0 := by
  obtain ⟨hpl, rfl⟩ := List.getElem?_eq_some_iff.1 hp
  have h1 : l.count z = (l.take p).count z + (l.drop (p + 1)).count z := by
    conv => lhs; rw [← List.take_append_drop p l, List.drop_eq_getElem_cons hpl]
    rw [List.count_append, List.count_cons_of_ne hxz]
  rw [h1, List.set_eq_take_append_cons_drop, if_pos hpl, List.count_append, List.count_cons]
  by_cases hh : y = z
  · simp [hh]; omega
  · simp [hh]

/-- which name each has been given so far -/
structure AsOk (ns : List ByteArray) (out : List ByteArray) (hs : List Int) (n : Nat) (a : List (Option Nat)) : Prop where
  len : a.length = n
  lo : out.length = n
  lh : hs.length = ns.length
  out : ∀ (p k : Nat), a[p]? = some (some k) → k < ns.length ∧ out[p]? = ns[k]?
  cnt : ∀ k, k < ns.length → gI hs k = (a.count (some k) : Int)
theorem AsOk.step {ns out : List ByteArray} {hs : List Int} {n p k : Nat} {s : ByteArray} {a : List (Option Nat)} (h : AsOk ns out hs n a) (hp : a[p]? = some none) (hk : ns[k]? = some s) : AsOk ns (out.set p s) (hs.set k (gI hs k + 1)) n (a.set p (some k)) where
  len := by simpa using h.len
  lo := by simpa using h.lo
  lh := by simpa using h.lh
  out := fun q j hq => by
    have hkl := (List.getElem?_eq_some_iff.1 hk).1
    have hpl := (List.getElem?_eq_some_iff.1 hp).1
    rw [List.getElem?_set] at hq
    by_cases hpq : p = q
    · subst hpq
      rw [if_pos rfl, if_pos hpl] at hq
      obtain rfl : k = j := by simpa using hq
      refine ⟨hkl, ?_⟩
      rw [List.getElem?_set, if_pos rfl, if_pos (by rw [h.lo, ← h.len]; exact hpl), hk]
    · rw [if_neg hpq] at hq
      rw [List.getElem?_set, if_neg hpq]
      exact h.out q j hq
  cnt := fun j hj => by
    have hkl := (List.getElem?_eq_some_iff.1 hk).1
    rw [gI_set (by rw [h.lh]; exact hkl), count_set' hp (by simp)]
    by_cases hjk : j = k
    · subst hjk
      rw [if_pos rfl, if_pos rfl, h.cnt j hj]
      simp
    · rw [if_neg hjk, if_neg (fun hh => hjk (Option.some.inj hh).symm), h.cnt j hj]
      simp

theorem f1_as (ow ns : List ByteArray) : ∀ i, i ≤ ow.length → ∃ a : List (Option Nat), AsOk ns (f1 ns (wsS ow ns) ow i).out (f1 ns (wsS ow ns) ow i).hs ow.length a ∧ ∀ (p : Nat), p < ow.length → (a[p]? = some none ↔ (i ≤ p ∨ gI (f1 ns (wsS ow ns) ow i).kp p ≠ 1))
  | 0, _ => by
    refine ⟨List.replicate ow.length none, ⟨by simp, by simp [f1], by simp [f1], fun p k h => ?_, fun k _ => ?_⟩, fun p hp => ?_⟩
    · rw [List.getElem?_replicate] at h
      split at h <;> simp at h
    · unfold f1
      rw [gI_rep, List.count_replicate]
      simp
    · rw [List.getElem?_replicate, if_pos hp]
      simp
  | i + 1, hi => by
    obtain ⟨a, h1, h2⟩ := f1_as ow ns i (by omega)
    have hI := f1_inv ow ns i (by omega)
    have hai : a[i]? = some none := (h2 i (by omega)).2 (.inl (Nat.le_refl i))
    unfold f1 f1s
    generalize f1 ns (wsS ow ns) ow i = st at h1 h2 hI
    generalize ow[i]?.getD ByteArray.empty = s
    split
    · rename_i hf
      obtain ⟨h0, _⟩ := hf
      obtain ⟨hk, _, hks⟩ := idx_lt h0
      refine ⟨a.set i (some (idxI ns s).toNat), h1.step hai hks, fun p hp => ?_⟩
      have hik : i < st.kp.length := by rw [hI.lk]; omega
      show (a.set i _)[p]? = some none ↔ i + 1 ≤ p ∨ gI (st.kp.set i 1) p ≠ 1
      rw [gI_set hik, List.getElem?_set]
      by_cases hpi : i = p
      · subst hpi
        rw [if_pos rfl, if_pos rfl, if_pos (by rw [h1.len]; omega)]
        simp
      · rw [if_neg hpi, if_neg (Ne.symm hpi), h2 p hp]
        omega
    · refine ⟨a, h1, fun p hp => ?_⟩
      rw [h2 p hp]
      have := hI.fresh i (Nat.le_refl i)
      by_cases hpi : p = i
      · subst hpi
        rw [this]
        simp
      · omega
theorem p2_as {ow ns : List ByteArray} {n : Nat} (hns : 0 < ns.length) (hn : n = ow.length) : ∀ (l : List Nat) (st : S2) (a : List (Option Nat)), AsOk ns st.out st.hs n a → Inv2 ns (wsS ow ns) ow.length l.length st → l.Nodup → (∀ p ∈ l, a[p]? = some none) →
    ∃ a', AsOk ns (p2L ns (wsS ow ns) st l).out (p2L ns (wsS ow ns) st l).hs n a' ∧ Inv2 ns (wsS ow ns) ow.length 0 (p2L ns (wsS ow ns) st l) ∧ (∀ p, p ∉ l → a'[p]? = a[p]?) ∧ (∀ p ∈ l, a'[p]? ≠ some none) ∧ ∀ p, p ∉ l → (p2L ns (wsS ow ns) st l).out[p]? = st.out[p]?
  | [], st, a, h, hI, _, _ => ⟨a, h, hI, fun _ _ => rfl, fun p hp => by simp at hp, fun _ _ => rfl⟩
  | x :: l, st, a, h, hI, hnd, hl => by
    obtain ⟨b, hb, hb1, _, _⟩ := hI.best hns
    obtain ⟨s, hs⟩ := getS hb1
    have hax := hl x (List.mem_cons_self ..)
    have hst := hI.step (p := x) hns
    obtain ⟨hxl, hnd'⟩ := List.nodup_cons.1 hnd
    have e : p2s ns (wsS ow ns) st x = ⟨st.hs.set b (gI st.hs b + 1), st.out.set x s⟩ := by
      unfold p2s
      rw [hb, Int.toNat_natCast, hs]; rfl
    rw [e] at hst
    have hxa := (List.getElem?_eq_some_iff.1 hax).1
    obtain ⟨a', i1, i2, i3, i4, i5⟩ := p2_as hns hn l ⟨st.hs.set b (gI st.hs b + 1), st.out.set x s⟩ (a.set x (some b)) (h.step hax hs) hst hnd' fun p hp => by
      rw [List.getElem?_set, if_neg (fun hh => hxl (by rw [hh]; exact hp))]
      exact hl p (List.mem_cons_of_mem _ hp)
    have e2 : p2L ns (wsS ow ns) st (x :: l) = p2L ns (wsS ow ns) ⟨st.hs.set b (gI st.hs b + 1), st.out.set x s⟩ l := by
      rw [← e]; rfl
    rw [e2]
    refine ⟨a', i1, i2, fun p hp => ?_, fun p hp => ?_, fun p hp => ?_⟩
    · rw [i3 p (fun hh => hp (List.mem_cons_of_mem _ hh)), List.getElem?_set, if_neg (fun hh => hp (by rw [hh]; exact List.mem_cons_self ..))]
    · rcases List.mem_cons.1 hp with rfl | hp
      · rw [i3 _ hxl, List.getElem?_set, if_pos rfl, if_pos hxa]
        simp
      · exact i4 p hp
    · rw [i5 p (fun hh => hp (List.mem_cons_of_mem _ hh)), List.getElem?_set, if_neg (fun hh => hp (by rw [hh]; exact List.mem_cons_self ..))]

/-- pointwise not more, and the same sum: the same -/
theorem sum_tight : ∀ {a b : List Int}, a.length = b.length → (∀ k, gI a k ≤ gI b k) → a.sum = b.sum → ∀ k, gI a k = gI b k
  | [], [], _, _, _, k => rfl
  | [], y :: b, h, _, _, _ => by simp at h
  | x :: a, [], h, _, _, _ => by simp at h
  | x :: a, y :: b, h, hk, hs, k => by
    have h0 : x ≤ y := hk 0
    have h1 : a.sum ≤ b.sum := sum_le (by simpa using h) fun k _ => hk (k + 1)
    have h2 : x + a.sum = y + b.sum := hs
    have ih := sum_tight (a := a) (b := b) (by simpa using h) (fun k => hk (k + 1)) (by omega)
    cases k with
    | zero => show x = y; omega
    | succ k => exact ih k

/-- who has what, at last -/
structure EvenOk (ow nm : List ByteArray) (a : List (Option Nat)) : Prop where
  ok : AsOk (onceS nm) (evenS ow nm) (wsS ow (onceS nm)) ow.length a
  all : ∀ (p : Nat), p < ow.length → ∃ k, a[p]? = some (some k)
theorem even_ok {ow nm : List ByteArray} (h : 0 < nm.length) : (∃ a, EvenOk ow nm a) ∧ ∀ p, p ∉ lefts (f1 (onceS nm) (wsS ow (onceS nm)) ow ow.length).kp ow.length → (evenS ow nm)[p]? = (f1 (onceS nm) (wsS ow (onceS nm)) ow ow.length).out[p]? := by
  obtain ⟨ns, hns⟩ : ∃ ns, onceS nm = ns := ⟨_, rfl⟩
  have hns0 : 0 < ns.length := by rw [← hns]; exact once_pos h
  obtain ⟨a, h1, h2⟩ := f1_as ow ns ow.length (Nat.le_refl _)
  have hI := f1_inv ow ns ow.length (Nat.le_refl _)
  have hev : evenS ow nm = (p2L ns (wsS ow ns) ⟨(f1 ns (wsS ow ns) ow ow.length).hs, (f1 ns (wsS ow ns) ow ow.length).out⟩ (lefts (f1 ns (wsS ow ns) ow ow.length).kp ow.length)).out := by
    unfold evenS p2L
    rw [hns, if_neg (by omega)]
  obtain ⟨F, hF⟩ : ∃ F, f1 ns (wsS ow ns) ow ow.length = F := ⟨_, rfl⟩
  rw [hF] at h1 h2 hI hev
  obtain ⟨L0, hL0⟩ : ∃ L0, lefts F.kp ow.length = L0 := ⟨_, rfl⟩
  have hmem : ∀ p, p ∈ L0 ↔ p < ow.length ∧ gI F.kp p ≠ 1 := fun p => by
    rw [← hL0]
    unfold lefts
    rw [List.mem_filter, List.mem_range]
    simp
  have hnd : L0.Nodup := by rw [← hL0]; exact List.Nodup.sublist List.filter_sublist List.nodup_range
  rw [hL0] at hev
  obtain ⟨a', i1, i2, i3, i4, i5⟩ := p2_as (ow := ow) hns0 rfl L0 ⟨F.hs, F.out⟩ a h1 ⟨hI.lh, hI.lo, hI.bd, by have := hI.sum; rw [hL0] at this; exact this⟩ hnd fun p hp => by
    obtain ⟨hp1, hp2⟩ := (hmem p).1 hp
    exact (h2 p hp1).2 (.inr hp2)
  have hws : ∀ k, gI (p2L ns (wsS ow ns) ⟨F.hs, F.out⟩ L0).hs k = gI (wsS ow ns) k := sum_tight (by rw [i2.lh, wsS_len]) (fun k => (i2.bd k).2) (by rw [ws_sum hns0]; have := i2.sum; omega)
  refine ⟨⟨a', ?_, fun p hp => ?_⟩, fun p hp => ?_⟩
  · rw [hns, hev]
    refine ⟨i1.len, i1.lo, wsS_len .., i1.out, fun k hk => ?_⟩
    rw [← hws k]
    exact i1.cnt k hk
  · have hpa : p < a'.length := by rw [i1.len]; exact hp
    have h3 : a'[p]? ≠ some none := by
      by_cases hpl : p ∈ L0
      · exact i4 p hpl
      · rw [i3 p hpl]
        intro hh
        rcases (h2 p hp).1 hh with h4 | h4
        · omega
        · exact hpl ((hmem p).2 ⟨hp, h4⟩)
    rw [List.getElem?_eq_getElem hpa] at h3 ⊢
    cases hx : a'[p] with
    | none => rw [hx] at h3; exact absurd rfl h3
    | some k => exact ⟨k, rfl⟩
  · rw [hns, hF, hL0] at hp
    rw [hns, hF, hev]
    exact i5 p hp
theorem cnt_as {ns : List ByteArray} (hnd : ns.Nodup) {k : Nat} {s : ByteArray} (hk : ns[k]? = some s) : ∀ {l : List ByteArray} {a : List (Option Nat)}, a.length = l.length → (∀ (p j : Nat), a[p]? = some (some j) → j < ns.length ∧ l[p]? = ns[j]?) → (∀ (p : Nat), p < l.length → ∃ j, a[p]? = some (some j)) → cnt l s = a.count (some k)
  | [], [], _, _, _ => rfl
  | [], y :: a, h, _, _ => by simp at h
  | x :: l, [], h, _, _ => by simp at h
  | x :: l, y :: a, h, h1, h2 => by
    have ih := cnt_as hnd hk (l := l) (a := a) (by simpa using h) (fun p j hp => by
      have := h1 (p + 1) j (by simpa using hp)
      simpa using this) fun p hp => by
      have := h2 (p + 1) (by simpa using hp)
      simpa using this
    obtain ⟨j, hj⟩ := h2 0 (by simp)
    obtain rfl : y = some j := by simpa using hj
    obtain ⟨hjl, hxj⟩ := h1 0 j rfl
    have hxj' : ns[j]? = some x := by rw [← hxj]; rfl
    unfold cnt at ih ⊢
    rw [List.countP_cons, ih, List.count_cons]
    have : x = s ↔ j = k := by
      constructor
      · intro hh
        subst hh
        exact (List.getElem?_inj (i := j) (j := k) hjl hnd).1 (by rw [hxj', hk])
      · intro hh
        subst hh
        rw [hxj'] at hk
        exact Option.some.inj hk
    by_cases hh : x = s
    · rw [this.1 hh]; simp [hh]
    · have hjk : j ≠ k := fun h => hh (this.2 h)
      simp [hh, hjk]
/-- how many each name gets -/
theorem even_cnt {ow nm : List ByteArray} (h : 0 < nm.length) {k : Nat} {s : ByteArray} (hk : (onceS nm)[k]? = some s) : (cnt (evenS ow nm) s : Int) = gI (wsS ow (onceS nm)) k := by
  obtain ⟨⟨a, h1, h2⟩, _⟩ := even_ok (ow := ow) h
  rw [h1.cnt k (List.getElem?_eq_some_iff.1 hk).1, cnt_as (once_nodup nm) hk (by rw [h1.len, h1.lo]) h1.out (fun p hp => h2 p (by rw [← h1.lo]; exact hp))]
theorem ws_get (ow ns : List ByteArray) {k : Nat} (hk : k < ns.length) : gI (wsS ow ns) k = ((ow.length / ns.length : Nat) : Int) + if aheadN (loadsS ow ns) k < ow.length % ns.length then 1 else 0 := by
  unfold gI wsS
  rw [List.getElem?_map, List.getElem?_range hk]
  show wantN _ _ _ = _
  unfold wantN
  rw [loadsS_len]
theorem loads_get (ow : List ByteArray) {ns : List ByteArray} {k : Nat} {s : ByteArray} (hk : ns[k]? = some s) : gI (loadsS ow ns) k = (cnt ow s : Int) := by
  unfold gI loadsS
  rw [List.getElem?_map, hk]; rfl
/-- the loads of what was shared out are the shares -/
theorem even_loads {ow nm : List ByteArray} (h : 0 < nm.length) {k : Nat} (hk : k < (onceS nm).length) : gI (loadsS (evenS ow nm) (onceS nm)) k = gI (wsS ow (onceS nm)) k := by
  obtain ⟨s, hs⟩ := getS hk
  rw [loads_get _ hs, even_cnt h hs]
theorem even_loads_eq {ow nm : List ByteArray} (h : 0 < nm.length) : loadsS (evenS ow nm) (onceS nm) = wsS ow (onceS nm) := by
  apply List.ext_getElem?
  intro k
  by_cases hk : k < (onceS nm).length
  · rw [gI_get (by rw [loadsS_len]; exact hk), gI_get (by rw [wsS_len]; exact hk), even_loads h hk]
  · rw [List.getElem?_eq_none (by rw [loadsS_len]; omega), List.getElem?_eq_none (by rw [wsS_len]; omega)]
theorem even_near {ow nm : List ByteArray} (h : 0 < nm.length) {i k : Nat} {a b : Int} (ha : (loadsS (evenS ow nm) nm)[i]? = some a) (hb : (loadsS (evenS ow nm) nm)[k]? = some b) : a - b ≤ 1 := by
  have e : ∀ {i : Nat} {a : Int}, (loadsS (evenS ow nm) nm)[i]? = some a → ∃ j, j < (onceS nm).length ∧ a = gI (wsS ow (onceS nm)) j := fun {i a} ha => by
    unfold loadsS at ha
    rw [List.getElem?_map] at ha
    cases hs : nm[i]? with
    | none => rw [hs] at ha; cases ha
    | some s =>
      rw [hs] at ha
      obtain ⟨j, hj, hjs⟩ := List.getElem_of_mem (once_mem (List.mem_of_getElem? hs))
      have hjs' : (onceS nm)[j]? = some s := by rw [List.getElem?_eq_getElem hj, hjs]
      exact ⟨j, hj, (Option.some.inj ha).symm.trans (even_cnt h hjs')⟩
  obtain ⟨i', hi, rfl⟩ := e ha
  obtain ⟨k', hk, rfl⟩ := e hb
  rw [ws_get _ _ hi, ws_get _ _ hk]
  generalize ow.length / (onceS nm).length = q
  split <;> split <;> omega

/-- shared out again: the same shares -/
theorem ahead_mono {lo : List Int} {q : Int} {r : Nat} {e : Nat → Bool} (hc : (List.range lo.length).countP e = r) (hlo : ∀ k, k < lo.length → gI lo k = q + if e k then 1 else 0) {k : Nat} (hk : k < lo.length) : aheadN lo k < r ↔ e k = true := by
  unfold aheadN
  constructor
  · intro hlt
    refine Classical.byContradiction fun hne => ?_
    have hek : e k = false := by simpa using hne
    have : r ≤ (List.range lo.length).countP fun j => decide (gI lo k < gI lo j ∨ gI lo j = gI lo k ∧ j < k) := by
      rw [← hc]
      refine List.countP_mono_left fun j hj hej => ?_
      have hj' := List.mem_range.1 hj
      rw [hlo k hk, hlo j hj', hek, hej]
      simp
      omega
    omega
  · intro hek
    rw [← hc]
    have h1 : (List.range lo.length).countP (fun j => decide (gI lo k < gI lo j ∨ gI lo j = gI lo k ∧ j < k)) = (List.range lo.length).countP fun j => e j && decide (j < k) := by
      refine List.countP_congr fun j hj => ?_
      have hj' := List.mem_range.1 hj
      rw [hlo k hk, hlo j hj', hek]
      cases e j <;> simp <;> omega
    rw [h1, ← List.take_append_drop k (List.range lo.length), List.countP_append, List.countP_append]
    have hd : (List.range lo.length).drop k = k :: (List.range lo.length).drop (k + 1) := by
      rw [List.drop_eq_getElem_cons (by simpa using hk), List.getElem_range]
    have h2 : ((List.range lo.length).drop k).countP (fun j => e j && decide (j < k)) = 0 := by
      rw [List.countP_eq_zero]
      intro j hj
      obtain ⟨n, hn, rfl⟩ := List.getElem_of_mem hj
      rw [List.getElem_drop, List.getElem_range]
      simp
    have h3 : 0 < ((List.range lo.length).drop k).countP e := by
      rw [hd, List.countP_cons, hek]; simp
    have h4 : ((List.range lo.length).take k).countP (fun j => e j && decide (j < k)) ≤ ((List.range lo.length).take k).countP e := List.countP_mono_left fun j hj h => by
      simp at h; exact h.1
    omega
theorem ws_again {ow nm : List ByteArray} (h : 0 < nm.length) : wsS (evenS ow nm) (onceS nm) = wsS ow (onceS nm) := by
  have hns := once_pos h
  obtain ⟨ns, hn⟩ : ∃ ns, onceS nm = ns := ⟨_, rfl⟩
  have hl := even_loads_eq (ow := ow) h
  have hel := even_len ow nm
  rw [hn] at hns hl ⊢
  have hlw := wsS_len ow ns
  apply List.ext_getElem?
  intro k
  by_cases hk : k < ns.length
  · rw [gI_get (by rw [wsS_len]; exact hk), gI_get (by rw [wsS_len]; exact hk), ws_get _ _ hk, hel, hl]
    have hcl := count_lt (loadsS ow ns) (ow.length % ns.length) (by rw [loadsS_len]; exact Nat.le_of_lt (Nat.mod_lt _ hns))
    have := ahead_mono (lo := wsS ow ns) (q := ((ow.length / ns.length : Nat) : Int)) (r := ow.length % ns.length) (e := fun i => decide (aheadN (loadsS ow ns) i < ow.length % ns.length)) (by rw [hlw]; rw [loadsS_len] at hcl; exact hcl) (fun k hk' => by rw [ws_get _ _ (by omega)]; simp) (k := k) (by omega)
    rw [ws_get _ _ hk]
    simp only [decide_eq_true_eq] at this
    congr 1
    by_cases hh : aheadN (wsS ow ns) k < ow.length % ns.length
    · rw [if_pos hh, if_pos (this.1 hh)]
    · rw [if_neg hh, if_neg (fun h => hh (this.2 h))]
  · rw [List.getElem?_eq_none (by rw [wsS_len]; omega), List.getElem?_eq_none (by rw [wsS_len]; omega)]

/-- a list whose loads are its shares is left as it is -/
theorem f1_full {l ns : List ByteArray} (hnd : ns.Nodup) (hin : ∀ s ∈ l, s ∈ ns) (hws : ∀ k s, ns[k]? = some s → gI (wsS l ns) k = (cnt l s : Int)) : ∀ i, i ≤ l.length → (∀ k s, ns[k]? = some s → gI (f1 ns (wsS l ns) l i).hs k = (cnt (l.take i) s : Int)) ∧ (∀ p, p < i → gI (f1 ns (wsS l ns) l i).kp p = 1 ∧ (f1 ns (wsS l ns) l i).out[p]? = l[p]?)
  | 0, _ => ⟨fun k s _ => by unfold f1; rw [gI_rep]; rfl, fun p hp => absurd hp (Nat.not_lt_zero p)⟩
  | i + 1, hi => by
    obtain ⟨h1, h2⟩ := f1_full hnd hin hws i (by omega)
    have hI := f1_inv l ns i (by omega)
    obtain ⟨s, hs⟩ := getS (l := l) (i := i) (by omega)
    obtain ⟨k, hk, hks⟩ := List.getElem_of_mem (hin s (List.mem_of_getElem? hs))
    have hks' : ns[k]? = some s := by rw [List.getElem?_eq_getElem hk, hks]
    have hidx : idxI ns s = (k : Int) := idx_some hks' fun j y hj hy hh => by
      subst hh
      have := (List.getElem?_inj (i := j) (j := k) (by omega) hnd).1 (by rw [hy, hks'])
      omega
    have hct := cnt_take (s := s) hs
    rw [if_pos rfl] at hct
    have hle : cnt (l.take (i + 1)) s ≤ cnt l s := by
      unfold cnt
      exact List.Sublist.countP_le (List.take_sublist ..)
    have hf : fits ns (wsS l ns) (f1 ns (wsS l ns) l i).hs s := by
      unfold fits
      rw [hidx, Int.toNat_natCast, h1 k s hks', hws k s hks']
      omega
    have e : f1 ns (wsS l ns) l (i + 1) = ⟨(f1 ns (wsS l ns) l i).hs.set k (gI (f1 ns (wsS l ns) l i).hs k + 1), (f1 ns (wsS l ns) l i).out.set i s, (f1 ns (wsS l ns) l i).kp.set i 1⟩ := by
      rw [f1, hs]
      show f1s _ _ _ _ s = _
      rw [f1s, if_pos hf, hidx, Int.toNat_natCast]
    rw [e]
    generalize f1 ns (wsS l ns) l i = st at h1 h2 hI
    refine ⟨fun j t hj => ?_, fun p hp => ?_⟩
    · show gI (st.hs.set k _) j = _
      rw [gI_set (by rw [hI.lh]; exact hk), cnt_take hs]
      by_cases hjk : j = k
      · subst hjk
        rw [hks'] at hj
        obtain rfl := Option.some.inj hj
        rw [if_pos rfl, if_pos rfl, h1 _ _ hks']; simp
      · rw [if_neg hjk, if_neg (fun hh => hjk ?_), h1 j t hj]; rfl
        subst hh
        exact (List.getElem?_inj (i := j) (j := k) (List.getElem?_eq_some_iff.1 hj).1 hnd).1 (by rw [hj, hks'])
    · show gI (st.kp.set i 1) p = 1 ∧ (st.out.set i s)[p]? = l[p]?
      rw [gI_set (by rw [hI.lk]; omega), List.getElem?_set]
      by_cases hpi : p = i
      · subst hpi
        rw [if_pos rfl, if_pos rfl, if_pos (by rw [hI.lo]; omega), hs]
        exact ⟨rfl, rfl⟩
      · rw [if_neg hpi, if_neg (Ne.symm hpi)]
        exact h2 p (by omega)
theorem even_in {ow nm : List ByteArray} (h : 0 < nm.length) : ∀ s ∈ evenS ow nm, s ∈ onceS nm := fun s hs => by
  obtain ⟨⟨a, h1, h2⟩, _⟩ := even_ok (ow := ow) h
  obtain ⟨p, hp, rfl⟩ := List.getElem_of_mem hs
  obtain ⟨k, hk⟩ := h2 p (by rw [← even_len ow nm]; exact hp)
  obtain ⟨h3, h4⟩ := h1.out p k hk
  rw [List.getElem?_eq_getElem hp] at h4
  exact List.mem_of_getElem? h4.symm
theorem even_again {ow nm : List ByteArray} (h : 0 < nm.length) : evenS (evenS ow nm) nm = evenS ow nm := by
  have hel := even_len ow nm
  have hns := once_pos h
  have hin := even_in (ow := ow) h
  have hwa := ws_again (ow := ow) h
  have hcn := fun k s hk => even_cnt (ow := ow) h (k := k) (s := s) hk
  generalize evenS ow nm = l at hel hin hwa hcn ⊢
  rw [← hwa] at hcn
  obtain ⟨h1, h2⟩ := f1_full (l := l) (ns := onceS nm) (once_nodup nm) hin (fun k s hk => (hcn k s hk).symm) l.length (Nat.le_refl _)
  have hI := f1_inv l (onceS nm) l.length (Nat.le_refl _)
  have hl : lefts (f1 (onceS nm) (wsS l (onceS nm)) l l.length).kp l.length = [] := by
    unfold lefts
    rw [List.filter_eq_nil_iff]
    intro p hp
    rw [(h2 p (List.mem_range.1 hp)).1]
    simp
  unfold evenS
  rw [if_neg (by omega), hl]
  show (f1 (onceS nm) (wsS l (onceS nm)) l l.length).out = l
  apply List.ext_getElem?
  intro p
  by_cases hp : p < l.length
  · exact (h2 p hp).2
  · rw [List.getElem?_eq_none (by rw [hI.lo]; omega), List.getElem?_eq_none (by omega)]
theorem even_sum {ow nm : List ByteArray} (h : 0 < nm.length) : (loadsS (evenS ow nm) (onceS nm)).sum = ow.length := by
  rw [even_loads_eq h, ws_sum (once_pos h)]
end Go.Proofs.Ytdedpamcpgbgmaa
