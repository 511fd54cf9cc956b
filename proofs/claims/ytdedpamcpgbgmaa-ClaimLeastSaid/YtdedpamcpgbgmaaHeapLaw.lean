/-
  THE HEAP'S ORDER: what up, down, Fix and Remove leave is a heap, if what was there was one but for the one place. Plain Lean. Own work (an AI agent).
-/
import Derived.Test.YtdedpamcpgbgmaaHeap
set_option linter.all false
namespace Go.Proofs.Ytdedpamcpgbgmaa
open Go.Ab

structure HeapOrd {P : Program} {t : TypeId} {a : AVal} (St : Type) (len : St → Nat) (less : St → Nat → Nat → Bool) (swap : St → Nat → Nat → St) where
  α : Type
  get : St → Nat → α
  lt : α → α → Bool
  hless : ∀ s i j, i < len s → j < len s → less s i j = lt (get s i) (get s j)
  hswap : ∀ s i j k, i < len s → j < len s → get (swap s i j) k = if k = i then get s j else if k = j then get s i else get s k
  trans : ∀ x y z, lt y x = false → lt z y = false → lt z x = false
  asym : ∀ x y, lt x y = true → lt y x = false

section
variable {t : TypeId} {a : AVal} {H : HeapI Try.prog t a} (O : HeapOrd (P := Try.prog) (t := t) (a := a) H.St H.len H.less H.swap)

def HeapN (s : H.St) (n : Nat) : Prop := ∀ k, 0 < k → k < n → O.lt (O.get s k) (O.get s ((k - 1) / 2)) = false
/-- a heap, but for place i -/
def HeapBut (s : H.St) (n i : Nat) : Prop :=
  (∀ k, 0 < k → k < n → k ≠ i → (k - 1) / 2 ≠ i → O.lt (O.get s k) (O.get s ((k - 1) / 2)) = false) ∧
  ∀ c, 0 < c → c < n → (c - 1) / 2 = i → 0 < i → O.lt (O.get s c) (O.get s ((i - 1) / 2)) = false
def KidsOk (s : H.St) (n i : Nat) : Prop := ∀ c, 0 < c → c < n → (c - 1) / 2 = i → O.lt (O.get s c) (O.get s i) = false

theorem heap_of_but {s : H.St} {n i : Nat} (h : HeapBut O s n i) (hk : KidsOk O s n i) (hp : 0 < i → i < n → O.lt (O.get s i) (O.get s ((i - 1) / 2)) = false) : HeapN O s n := by
  intro k h0 hn
  by_cases h1 : k = i
  · subst h1; exact hp h0 hn
  · by_cases h2 : (k - 1) / 2 = i
    · rw [h2]; exact hk k h0 hn h2
    · exact h.1 k h0 hn h1 h2

theorem up_heap {n : Nat} : ∀ (j : Nat) (s : H.St), n ≤ H.len s → j < n → HeapBut O s n j → KidsOk O s n j → HeapN O (upS H s j) n := by
  intro j
  induction j using Nat.strongRecOn with
  | _ j ih =>
    intro s hn hj hb hk
    rw [upS]
    by_cases h0 : 0 < j
    · rw [dif_pos h0]
      have hp : (j - 1) / 2 < j := by omega
      have hl := O.hless s j ((j - 1) / 2) (by omega) (by omega)
      by_cases hls : H.less s j ((j - 1) / 2) = true
      · rw [if_pos hls]
        rw [hl] at hls
        have hg := fun k => O.hswap s ((j - 1) / 2) j k (by omega) (by omega)
        have hpar : ∀ k, 0 < k → k < n → k ≠ j → (k - 1) / 2 = (j - 1) / 2 → O.lt (O.get s k) (O.get s ((j - 1) / 2)) = false := by
          intro k h1 h2 h3 h4
          have := hb.1 k h1 h2 h3 (by omega)
          rwa [h4] at this
        refine ih ((j - 1) / 2) hp _ (by rw [H.lenSwap]; exact hn) (by omega) ⟨fun k h1 h2 h3 h4 => ?_, fun c h1 h2 h3 h4 => ?_⟩ fun c h1 h2 h3 => ?_
        · rw [hg, hg, if_neg h3]
          by_cases h5 : (k - 1) / 2 = j
          · rw [if_neg (by omega), if_neg (by omega), if_pos h5]
            exact hb.2 k h1 h2 h5 h0
          · by_cases h6 : k = j
            · subst h6; exact absurd rfl h4
            · rw [if_neg h6, if_neg h4, if_neg h5]
              exact hb.1 k h1 h2 h6 h5
        · have hpp : O.lt (O.get s ((j - 1) / 2)) (O.get s (((j - 1) / 2 - 1) / 2)) = false := hb.1 _ h4 (by omega) (by omega) (by omega)
          have e1 := hg c
          have e2 := hg (((j - 1) / 2 - 1) / 2)
          rw [if_neg (by omega)] at e1
          rw [if_neg (by omega), if_neg (by omega)] at e2
          rw [e1, e2]
          by_cases h6 : c = j
          · rw [if_pos h6]; exact hpp
          · rw [if_neg h6]
            exact O.trans _ _ _ hpp (hpar c h1 h2 h6 h3)
        · rw [hg, hg, if_neg (by omega), if_pos rfl]
          by_cases h6 : c = j
          · rw [if_pos h6]; exact O.asym _ _ hls
          · rw [if_neg h6]
            exact O.trans _ _ _ (O.asym _ _ hls) (hpar c h1 h2 h6 h3)
      · rw [if_neg hls]
        exact heap_of_but O hb hk fun _ _ => by rw [← hl]; simpa using hls
    · rw [dif_neg h0]
      exact heap_of_but O hb hk fun h _ => absurd h h0

theorem child_least {s : H.St} {i n : Nat} (hn : n ≤ H.len s) (h : 2 * i + 1 < n) {c : Nat} (h1 : 0 < c) (h2 : c < n) (h3 : (c - 1) / 2 = i) : O.lt (O.get s c) (O.get s (childS H s i n)) = false := by
  have irr : ∀ x, O.lt x x = false := fun x => by
    cases hx : O.lt x x with
    | false => rfl
    | true => have := O.asym x x hx; rw [hx] at this; cases this
  unfold childS
  by_cases hh : 2 * i + 2 < n ∧ H.less s (2 * i + 2) (2 * i + 1) = true
  · rw [if_pos hh]
    have hl := hh.2
    rw [O.hless _ _ _ (by omega) (by omega)] at hl
    have hc : c = 2 * i + 1 ∨ c = 2 * i + 2 := by omega
    rcases hc with rfl | rfl
    · exact O.asym _ _ hl
    · exact irr _
  · rw [if_neg hh]
    have hc : c = 2 * i + 1 ∨ c = 2 * i + 2 := by omega
    rcases hc with rfl | rfl
    · exact irr _
    · have : H.less s (2 * i + 2) (2 * i + 1) ≠ true := fun hx => hh ⟨h2, hx⟩
      rw [O.hless _ _ _ (by omega) (by omega)] at this
      simpa using this

theorem down_heap {n : Nat} : ∀ (m i : Nat) (s : H.St), n - i = m → n ≤ H.len s → HeapBut O s n i →
    (downS H s i n = (s, i) ∧ KidsOk O s n i) ∨ (i < (downS H s i n).2 ∧ HeapN O (downS H s i n).1 n) := by
  intro m
  induction m using Nat.strongRecOn with
  | _ m ih =>
    intro i s hm hn hb
    by_cases h : 2 * i + 1 < n
    · have hbd := childS_bd H s h
      have hleast := fun c h1 h2 h3 => child_least O hn h (c := c) h1 h2 h3
      have hpc : (childS H s i n - 1) / 2 = i := by unfold childS; split <;> omega
      generalize hcd : childS H s i n = c at hbd hleast hpc
      have hl := O.hless s c i (by omega) (by omega)
      by_cases hls : H.less s c i = true
      · right
        have e : downS H s i n = downS H (H.swap s i c) c n := by rw [downS.eq_1 H s i n, dif_pos h, hcd, if_pos hls]
        rw [e]
        rw [hl] at hls
        have hg := fun k => O.hswap s i c k (by omega) (by omega)
        have hb' : HeapBut O (H.swap s i c) n c := by
          refine ⟨fun k h1 h2 h3 h4 => ?_, fun d h1 h2 h3 h4 => ?_⟩
          · rw [hg, hg]
            by_cases h5 : k = i
            · subst h5
              rw [if_pos rfl, if_neg (by omega), if_neg (by omega)]
              exact hb.2 c (by omega) hbd.2 hpc h1
            · rw [if_neg h5, if_neg h3]
              by_cases h6 : (k - 1) / 2 = i
              · rw [if_pos h6]; exact hleast k h1 h2 h6
              · rw [if_neg h6, if_neg h4]; exact hb.1 k h1 h2 h5 h6
          · rw [hg, hg, hpc, if_neg (by omega), if_neg (by omega), if_pos rfl]
            have := hb.1 d h1 h2 (by omega) (by omega)
            rwa [h3] at this
        have hup : O.lt (O.get (H.swap s i c) c) (O.get (H.swap s i c) ((c - 1) / 2)) = false := by
          rw [hpc, hg, hg, if_neg (by omega), if_pos rfl, if_pos rfl]
          exact O.asym _ _ hls
        rcases ih (n - c) (by omega) c (H.swap s i c) rfl (by rw [H.lenSwap]; exact hn) hb' with ⟨h1, h2⟩ | ⟨h1, h2⟩
        · rw [h1]
          exact ⟨hbd.1, heap_of_but O hb' h2 fun _ _ => hup⟩
        · exact ⟨by omega, h2⟩
      · left
        have hls' : H.less s c i = false := by simpa using hls
        refine ⟨downS_end H (fun _ => by rw [hcd]; exact hls'), fun d h1 h2 h3 => ?_⟩
        rw [hl] at hls'
        exact O.trans _ _ _ hls' (hleast d h1 h2 h3)
    · left
      exact ⟨downS_end H (fun hh => absurd hh h), fun c h1 h2 h3 => by omega⟩

theorem fix_heap {n i : Nat} {s : H.St} (hn : n ≤ H.len s) (hi : i < n) (hb : HeapBut O s n i) : HeapN O (fixS H s i n) n := by
  unfold fixS
  rcases down_heap O (n - i) i s rfl hn hb with ⟨h1, h2⟩ | ⟨h1, h2⟩
  · rw [h1, if_neg (Nat.lt_irrefl i)]
    exact up_heap O i s hn hi hb h2
  · rw [if_pos h1]; exact h2

theorem heap_min {n : Nat} {s : H.St} (h : HeapN O s n) : ∀ k, k < n → 0 < n → O.lt (O.get s k) (O.get s 0) = false := by
  intro k
  induction k using Nat.strongRecOn with
  | _ k ih =>
    intro hk hn
    by_cases h0 : 0 < k
    · exact O.trans _ _ _ (ih ((k - 1) / 2) (by omega) (by omega) hn) (h k h0 hk)
    · obtain rfl : k = 0 := by omega
      cases hx : O.lt (O.get s 0) (O.get s 0) with
      | false => rfl
      | true => have := O.asym _ _ hx; rw [hx] at this; cases this

theorem rem_heap {n i : Nat} {s : H.St} (hn : H.len s = n + 1) (hi : i ≤ n) (h : HeapN O s (n + 1)) : HeapN O (remS H s i) n := by
  unfold remS
  rw [hn, Nat.add_sub_cancel]
  by_cases hni : n = i
  · rw [if_pos hni]; exact fun k h0 hk => h k h0 (by omega)
  · rw [if_neg hni]
    have hg := fun k => O.hswap s i n k (by omega) (by omega)
    refine fix_heap O (by rw [H.lenSwap]; omega) (by omega) ⟨fun k h1 h2 h3 h4 => ?_, fun c h1 h2 h3 h4 => ?_⟩
    · rw [hg, hg, if_neg h3, if_neg (by omega), if_neg h4, if_neg (by omega)]
      exact h k h1 (by omega)
    · rw [hg, hg, if_neg (by omega), if_neg (by omega), if_neg (by omega), if_neg (by omega)]
      have h5 := h c h1 (by omega)
      rw [h3] at h5
      exact O.trans _ _ _ (h i h4 (by omega)) h5

/-- what swapping keeps, all of it keeps -/
theorem up_keeps {p : H.St → Prop} (hp : ∀ s i j, i < H.len s → j < H.len s → p s → p (H.swap s i j)) : ∀ (j : Nat) (s : H.St), j < H.len s → p s → p (upS H s j) := by
  intro j
  induction j using Nat.strongRecOn with
  | _ j ih =>
    intro s hj h
    rw [upS]
    split
    · split
      · exact ih _ (by omega) _ (by rw [H.lenSwap]; omega) (hp _ _ _ (by omega) hj h)
      · exact h
    · exact h
theorem down_keeps {p : H.St → Prop} (hp : ∀ s i j, i < H.len s → j < H.len s → p s → p (H.swap s i j)) {n : Nat} : ∀ (m i : Nat) (s : H.St), n - i = m → n ≤ H.len s → p s → p (downS H s i n).1 := by
  intro m
  induction m using Nat.strongRecOn with
  | _ m ih =>
    intro i s hm hn h
    rw [downS]
    split
    · rename_i hh
      have := childS_bd H s hh
      split
      · exact ih (n - childS H s i n) (by omega) _ _ rfl (by rw [H.lenSwap]; exact hn) (hp _ _ _ (by omega) (by omega) h)
      · exact h
    · exact h
theorem fix_keeps {p : H.St → Prop} (hp : ∀ s i j, i < H.len s → j < H.len s → p s → p (H.swap s i j)) {n i : Nat} {s : H.St} (hn : n ≤ H.len s) (hi : i < H.len s) (h : p s) : p (fixS H s i n) := by
  unfold fixS
  have := down_keeps hp (n - i) i s rfl hn h
  split
  · exact this
  · exact up_keeps hp i _ (by rw [downS_len]; exact hi) this
theorem rem_keeps {p : H.St → Prop} (hp : ∀ s i j, i < H.len s → j < H.len s → p s → p (H.swap s i j)) {i : Nat} {s : H.St} (hi : i < H.len s) (h : p s) : p (remS H s i) := by
  unfold remS
  split
  · exact h
  · exact fix_keeps hp (by rw [H.lenSwap]; omega) (by rw [H.lenSwap]; exact hi) (hp _ _ _ hi (by omega) h)

/-- behind Remove, ahead of its Pop: what is removed stands last -/
theorem up_last {n : Nat} : ∀ (j : Nat) (s : H.St) (m : Nat), j < H.len s → m < H.len s → j < m → O.get (upS H s j) m = O.get s m := by
  intro j
  induction j using Nat.strongRecOn with
  | _ j ih =>
    intro s m hj hm hjm
    rw [upS]
    split
    · split
      · rw [ih _ (by omega) _ m (by rw [H.lenSwap]; omega) (by rw [H.lenSwap]; exact hm) (by omega), O.hswap _ _ _ _ (by omega) hj, if_neg (by omega), if_neg (by omega)]
      · rfl
    · rfl
theorem down_last {n : Nat} : ∀ (d i : Nat) (s : H.St) (m : Nat), n - i = d → n ≤ H.len s → n ≤ m → O.get (downS H s i n).1 m = O.get s m := by
  intro d
  induction d using Nat.strongRecOn with
  | _ d ih =>
    intro i s m hd hn hm
    rw [downS]
    split
    · rename_i hh
      have := childS_bd H s hh
      split
      · rw [ih (n - childS H s i n) (by omega) _ _ m rfl (by rw [H.lenSwap]; exact hn) hm, O.hswap _ _ _ _ (by omega) (by omega), if_neg (by omega), if_neg (by omega)]
      · rfl
    · rfl
theorem rem_last {n i : Nat} {s : H.St} (hn : H.len s = n + 1) (hi : i ≤ n) : O.get (remS H s i) n = O.get s i := by
  unfold remS
  rw [hn, Nat.add_sub_cancel]
  by_cases hni : n = i
  · rw [if_pos hni, hni]
  · rw [if_neg hni]
    have e : O.get (H.swap s i n) n = O.get s i := by rw [O.hswap _ _ _ _ (by omega) (by omega), if_neg hni, if_pos rfl]
    unfold fixS
    have hd : O.get (downS H (H.swap s i n) i n).1 n = O.get s i := by rw [down_last O (n - i) i _ n rfl (by rw [H.lenSwap]; omega) (Nat.le_refl _), e]
    split
    · exact hd
    · rw [up_last O (n := n) i _ n (by rw [downS_len, H.lenSwap]; omega) (by rw [downS_len, H.lenSwap]; omega) (by omega), hd]

end
end Go.Proofs.Ytdedpamcpgbgmaa
