/-
  TimerOnce: what it runs, in plain Lean and in the code. Own work (an AI agent).
-/
import Derived.Test.YtdedpamcpgbgmaaTimerM
set_option linter.all false
set_option maxRecDepth 100000
namespace Go.Proofs.Ytdedpamcpgbgmaa
open Go.Ab

theorem nd_setS {l : List (Int × Int)} {c a : Int} (h : (l.map (·.1)).Nodup) : ((setS l c a).map (·.1)).Nodup := by
  unfold setS
  rw [List.map_append, List.nodup_append]
  refine ⟨h.sublist ((List.filter_sublist ..).map _), by simp, fun x hx y hy => ?_⟩
  obtain ⟨p, hp, rfl⟩ := List.mem_map.1 hx
  obtain rfl : y = c := by simpa using hy
  have := (List.mem_filter.1 hp).2
  simpa using this

theorem mem_setS {l : List (Int × Int)} {c a : Int} {p : Int × Int} : p ∈ setS l c a ↔ (p ∈ l ∧ p.1 ≠ c) ∨ p = (c, a) := by
  unfold setS
  rw [List.mem_append, List.mem_filter]
  simp

/-- dropping the one of this call -/
theorem drop_cons {l : List (Int × Int)} {m : Int × Int} (hnd : (l.map (·.1)).Nodup) (hm : m ∈ l) : l.Perm (m :: dropS l m.1) := by
  induction l with
  | nil => cases hm
  | cons p l ih =>
    rw [List.map_cons, List.nodup_cons] at hnd
    rcases List.mem_cons.1 hm with rfl | hm
    · unfold dropS
      rw [List.filter_cons_of_neg (by simp)]
      have : l.filter (fun p => !decide (p.1 = m.1)) = l := List.filter_eq_self.2 fun q hq => by
        have : q.1 ≠ m.1 := fun hh => hnd.1 (hh ▸ List.mem_map.2 ⟨q, hq, rfl⟩)
        simpa using this
      rw [this]
    · have hpm : p.1 ≠ m.1 := fun hh => hnd.1 (hh ▸ List.mem_map.2 ⟨m, hm, rfl⟩)
      have := ih hnd.2 hm
      unfold dropS at this ⊢
      rw [List.filter_cons_of_pos (by simpa using hpm)]
      exact (this.cons p).trans (List.Perm.swap ..)
theorem nd_dropS {l : List (Int × Int)} {c : Int} (h : (l.map (·.1)).Nodup) : ((dropS l c).map (·.1)).Nodup := h.sublist ((List.filter_sublist ..).map _)

/-- what is due, and what is left -/
theorem due_spec (now : Int) : ∀ (f : Nat) (l : List (Int × Int)), l.length ≤ f → (l.map (·.1)).Nodup → ∀ c : Int, ((dueF now f l).1.count c = (l.filter fun p => decide (p.1 = c ∧ p.2 ≤ now)).length) ∧ ∀ p ∈ (dueF now f l).2, ¬ p.2 ≤ now
  | 0, l, h, _, c => by
    obtain rfl : l = [] := List.eq_nil_of_length_eq_zero (by omega)
    exact ⟨rfl, fun p hp => by cases hp⟩
  | f + 1, l, h, hnd, c => by
    unfold dueF
    split
    · rename_i hh
      obtain ⟨_, hm, _⟩ := firstE_spec hh.1
      have hlt := dropS_length hh.1
      have hp := (drop_cons hnd hm).filter fun p => decide (p.1 = c ∧ p.2 ≤ now)
      obtain ⟨i1, i2⟩ := due_spec now f (dropS l (firstE l).1) (by omega) (nd_dropS hnd) c
      refine ⟨?_, i2⟩
      rw [hp.length_eq, List.filter_cons]
      show ((firstE l).1 :: (dueF now f (dropS l (firstE l).1)).1).count c = _
      rw [List.count_cons, i1]
      by_cases hc : (firstE l).1 = c
      · rw [if_pos (by simpa using hc), if_pos (by simpa using ⟨hc, hh.2⟩), List.length_cons]
      · rw [if_neg (by simpa using hc), if_neg (by simp [hc])]
        rfl
    · rename_i hh
      have hall : ∀ p ∈ l, ¬ p.2 ≤ now := fun p hp hle => by
        have h0 : 0 < l.length := List.length_pos_of_mem hp
        obtain ⟨_, _, hmin⟩ := firstE_spec h0
        have := hmin p hp
        simp only [ltC, decide_eq_false_iff_not] at this
        exact hh ⟨h0, by omega⟩
      refine ⟨?_, hall⟩
      have : l.filter (fun p => decide (p.1 = c ∧ p.2 ≤ now)) = [] := List.filter_eq_nil_iff.2 fun p hp => by
        have := hall p hp
        simp [this]
      rw [this]; rfl
theorem due_mem (now : Int) : ∀ (f : Nat) (l : List (Int × Int)), ∀ c ∈ (dueF now f l).1, ∃ p ∈ l, p.1 = c
  | 0, l, c, h => by cases h
  | f + 1, l, c, h => by
    unfold dueF at h
    split at h
    · rename_i hh
      rcases List.mem_cons.1 h with rfl | h
      · obtain ⟨_, hm, _⟩ := firstE_spec hh.1
        exact ⟨_, hm, rfl⟩
      · obtain ⟨p, hp, e⟩ := due_mem now f _ c h
        exact ⟨p, (List.mem_filter.1 hp).1, e⟩
    · cases h
theorem due_again {now : Int} {l : List (Int × Int)} (h : ∀ p ∈ l, ¬ p.2 ≤ now) : dueS now l = ([], l) := dueS_end fun h0 => h _ (firstE_spec h0).2.1

/-- what the two rows say of the timer -/
structure Once (l : List (Int × Int)) (la sa : List Int) : Prop where
  nd : (l.map (·.1)).Nodup
  key : ∀ p ∈ l, ∃ k : Nat, k < 8 ∧ p.1 = k
  ll : la.length = 8
  ls : sa.length = 8
  at_ : ∀ k : Nat, k < 8 → (sa[k]? = some 1 ∧ ∃ a, la[k]? = some a ∧ ((k : Int), a) ∈ l) ∨ (sa[k]? = some 0 ∧ ∀ p ∈ l, p.1 ≠ k)
theorem Once.zero : Once [] [0, 0, 0, 0, 0, 0, 0, 0] [0, 0, 0, 0, 0, 0, 0, 0] :=
  ⟨by simp, by simp, rfl, rfl, fun k hk => .inr ⟨by
    match k, hk with
    | 0, _ => rfl | 1, _ => rfl | 2, _ => rfl | 3, _ => rfl | 4, _ => rfl | 5, _ => rfl | 6, _ => rfl | 7, _ => rfl, by simp⟩⟩
theorem Once.set {l : List (Int × Int)} {la sa : List Int} {k : Nat} {a : Int} (h : Once l la sa) (hk : k < 8) : Once (setS l k a) (la.set k a) (sa.set k 1) where
  nd := nd_setS h.nd
  key p hp := by
    rcases mem_setS.1 hp with ⟨hp, _⟩ | rfl
    · exact h.key p hp
    · exact ⟨k, hk, rfl⟩
  ll := by simpa using h.ll
  ls := by simpa using h.ls
  at_ j hj := by
    have h1 := h.ll
    have h2 := h.ls
    rw [List.getElem?_set, List.getElem?_set]
    by_cases hkj : k = j
    · subst hkj
      rw [if_pos rfl, if_pos (by omega), if_pos rfl, if_pos (by omega)]
      exact .inl ⟨rfl, a, rfl, mem_setS.2 (.inr rfl)⟩
    · rw [if_neg hkj, if_neg hkj]
      rcases h.at_ j hj with ⟨q1, b, q2, q3⟩ | ⟨q1, q2⟩
      · exact .inl ⟨q1, b, q2, mem_setS.2 (.inl ⟨q3, fun hh => hkj (by have : (j : Int) = (k : Int) := hh; omega)⟩)⟩
      · refine .inr ⟨q1, fun p hp => ?_⟩
        rcases mem_setS.1 hp with ⟨hp, _⟩ | rfl
        · exact q2 p hp
        · exact fun hh => hkj (by have : (k : Int) = (j : Int) := hh; omega)

/-- how often a call is due -/
theorem Once.count {l : List (Int × Int)} {la sa : List Int} (h : Once l la sa) (now : Int) {k : Nat} (hk : k < 8) {s a : Int} (hs : sa[k]? = some s) (ha : la[k]? = some a) : ((dueS now l).1.count (k : Int) : Int) = if s = 1 ∧ a ≤ now then 1 else 0 := by
  have hc := (due_spec now l.length l (Nat.le_refl _) h.nd k).1
  unfold dueS
  rw [hc]
  rcases h.at_ k hk with ⟨q1, b, q2, q3⟩ | ⟨q1, q2⟩
  · rw [hs] at q1
    rw [ha] at q2
    obtain rfl := Option.some.inj q1
    obtain rfl := Option.some.inj q2
    have hp := (drop_cons h.nd q3).filter fun p => decide (p.1 = (k : Int) ∧ p.2 ≤ now)
    rw [hp.length_eq, List.filter_cons]
    have hnil : (dropS l (k : Int)).filter (fun p => decide (p.1 = (k : Int) ∧ p.2 ≤ now)) = [] := List.filter_eq_nil_iff.2 fun p hp => by
      have := (List.mem_filter.1 hp).2
      simp at this
      simp [this]
    rw [hnil]
    by_cases hn : a ≤ now
    · simp [hn]
    · simp [hn]
  · rw [hs] at q1
    obtain rfl := Option.some.inj q1
    have hnil : l.filter (fun p => decide (p.1 = (k : Int) ∧ p.2 ≤ now)) = [] := List.filter_eq_nil_iff.2 fun p hp => by
      have := q2 p hp
      simp [this]
    rw [hnil]
    simp

/-- the sum -/
def below (out : List Int) (K : Nat) : Nat := (out.filter fun x => decide (x < (K : Int))).length
theorem below_step (out : List Int) (K : Nat) : below out (K + 1) = below out K + out.count (K : Int) := by
  unfold below
  induction out with
  | nil => rfl
  | cons x l ih =>
    rw [List.filter_cons, List.filter_cons, List.count_cons]
    by_cases h1 : x < (K : Int)
    · have h2 : x < ((K + 1 : Nat) : Int) := by omega
      have h3 : ¬ x = (K : Int) := by omega
      rw [if_pos (by simpa using h2), if_pos (by simpa using h1), if_neg (by simpa using h3), List.length_cons, List.length_cons, ih]
      omega
    · by_cases h3 : x = (K : Int)
      · have h2 : x < ((K + 1 : Nat) : Int) := by omega
        rw [if_pos (by simpa using h2), if_neg (by simpa using h1), if_pos (by simpa using h3), List.length_cons, ih]
        omega
      · have h2 : ¬ x < ((K + 1 : Nat) : Int) := by omega
        rw [if_neg (by simpa using h2), if_neg (by simpa using h1), if_neg (by simpa using h3), ih]
        rfl
theorem below_0 {out : List Int} (h : ∀ x ∈ out, ∃ k : Nat, k < 8 ∧ x = k) : below out 0 = 0 := by
  unfold below
  rw [List.filter_eq_nil_iff.2 fun x hx => by
    obtain ⟨k, _, rfl⟩ := h x hx
    simp]
  rfl
theorem below_8 {out : List Int} (h : ∀ x ∈ out, ∃ k : Nat, k < 8 ∧ x = k) : below out 8 = out.length := by
  unfold below
  rw [List.filter_eq_self.2 fun x hx => by
    obtain ⟨k, hk, rfl⟩ := h x hx
    simp; omega]
end Go.Proofs.Ytdedpamcpgbgmaa
