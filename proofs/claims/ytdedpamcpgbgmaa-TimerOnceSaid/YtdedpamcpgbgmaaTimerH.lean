/-
  The timer's queue as a heap: what stands where, and what the library's heap makes of it. Own work (an AI agent).
-/
import Derived.Test.YtdedpamcpgbgmaaTimerQ
set_option linter.all false
set_option maxRecDepth 100000
namespace Go.Proofs.Ytdedpamcpgbgmaa
open Go.Ab

structure QAt (σ : Store) (T : Nat) (bv : AVal) (L : List Ent) (S : List Nat) : Prop where
  t : ∃ qv, σ.heap T = some (.cells [qv, bv]) ∧ ((qv = .lit (.slice none 0 0) ∧ L = []) ∨ ∃ oq, oq ∈ S ∧ qv = .msl oq 1 0 L.length ∧ σ.heap oq = some (qC L))
  e : ∀ (k : Nat) x, L[k]? = some x → x.1 ∈ S ∧ σ.heap x.1 = some (entC x k)
  nd : (L.map (·.1)).Nodup
  ts : T ∈ S
  len : L.length ≤ 1000

theorem ne_q {σ : Store} {T oq n : Nat} {bv : AVal} {L : List Ent} (hT : σ.heap T = some (.cells [.msl oq 1 0 n, bv])) (hq : σ.heap oq = some (qC L)) : T ≠ oq := by
  intro h
  rw [← h, hT] at hq
  cases L with
  | nil => simp [qC] at hq
  | cons a l => simp [qC] at hq
theorem ne_e {σ : Store} {T p : Nat} {a b : AVal} {x : Ent} (hT : σ.heap T = some (.cells [a, b])) (hx : σ.heap x.1 = some (entC x p)) : T ≠ x.1 := by
  intro h
  rw [← h, hT] at hx
  simp [entC] at hx

/-- two entries of a queue have two objects -/
theorem nd_ne {L : List Ent} (h : (L.map (·.1)).Nodup) {i k : Nat} {x y : Ent} (hx : L[i]? = some x) (hy : L[k]? = some y) (hik : i ≠ k) : x.1 ≠ y.1 := by
  intro hh
  have hi : i < (L.map (·.1)).length := by simpa using (List.getElem?_eq_some_iff.1 hx).1
  have hk : k < (L.map (·.1)).length := by simpa using (List.getElem?_eq_some_iff.1 hy).1
  have e1 : (L.map (·.1))[i] = x.1 := by
    have : (L.map (·.1))[i]? = some x.1 := by rw [List.getElem?_map, hx]; rfl
    rw [List.getElem?_eq_getElem hi] at this
    exact Option.some.inj this
  have e2 : (L.map (·.1))[k] = y.1 := by
    have : (L.map (·.1))[k]? = some y.1 := by rw [List.getElem?_map, hy]; rfl
    rw [List.getElem?_eq_getElem hk] at this
    exact Option.some.inj this
  rcases Nat.lt_or_gt_of_ne hik with hlt | hlt
  · exact List.pairwise_iff_getElem.1 h i k hi hk hlt (by rw [e1, e2, hh])
  · exact List.pairwise_iff_getElem.1 h k i hk hi hlt (by rw [e1, e2, hh])

theorem swapL_perm (L : List Ent) (i k : Nat) : (swapL L i k).Perm L := by
  unfold swapL
  split
  · rename_i x y hx hy
    obtain ⟨hi, rfl⟩ := List.getElem?_eq_some_iff.1 hx
    obtain ⟨hk, rfl⟩ := List.getElem?_eq_some_iff.1 hy
    exact List.set_set_perm hi hk
  · exact .refl _

def lessAt (L : List Ent) (i k : Nat) : Bool := match L[i]?, L[k]? with
  | some x, some y => lessE x y
  | _, _ => false

theorem QAt.swap {σ : Store} {T oq : Nat} {bv : AVal} {L : List Ent} {S : List Nat} (h : QAt σ T bv L S) (hT : σ.heap T = some (.cells [.msl oq 1 0 L.length, bv])) (hoq : oq ∈ S) (hq : σ.heap oq = some (qC L)) {i k : Nat} {x y : Ent} (hx : L[i]? = some x) (hy : L[k]? = some y) :
    QAt (((σ.set oq (qC (swapL L i k))).set y.1 (entC y i)).set x.1 (entC x k)) T bv (swapL L i k) S := by
  have hi := (List.getElem?_eq_some_iff.1 hx).1
  have hk := (List.getElem?_eq_some_iff.1 hy).1
  obtain ⟨hxs, hex⟩ := h.e i x hx
  obtain ⟨hys, hey⟩ := h.e k y hy
  have n1 := ne_q hT hq
  have n2 := ne_e hT hex
  have n3 := ne_e hT hey
  have n4 := ne_ent hq hex
  have n5 := ne_ent hq hey
  refine ⟨⟨_, by rw [Store.set_ne _ _ n2, Store.set_ne _ _ n3, Store.set_ne _ _ n1]; exact hT, .inr ⟨oq, hoq, by rw [swapL_length], by rw [Store.set_ne _ _ (Ne.symm n4), Store.set_ne _ _ (Ne.symm n5), Store.set_get]⟩⟩, fun m z hz => ?_, ((swapL_perm L i k).map _).nodup_iff.2 h.nd, h.ts, by rw [swapL_length]; exact h.len⟩
  rw [swapL_get hi hk] at hz
  by_cases h1 : m = i
  · subst h1
    rw [if_pos rfl, hy] at hz
    obtain rfl := Option.some.inj hz
    refine ⟨hys, ?_⟩
    by_cases hxy : y.1 = x.1
    · by_cases hmk : m = k
      · subst hmk
        rw [hx] at hy
        obtain rfl := Option.some.inj hy
        rw [Store.set_get]
      · exact absurd hxy (nd_ne h.nd hy hx (Ne.symm hmk))
    · rw [Store.set_ne _ _ hxy, Store.set_get]
  · rw [if_neg h1] at hz
    by_cases h2 : m = k
    · subst h2
      rw [if_pos rfl, hx] at hz
      obtain rfl := Option.some.inj hz
      exact ⟨hxs, by rw [Store.set_get]⟩
    · rw [if_neg h2] at hz
      obtain ⟨h3, h4⟩ := h.e m z hz
      refine ⟨h3, ?_⟩
      rw [Store.set_ne _ _ (nd_ne h.nd hz hx h1), Store.set_ne _ _ (nd_ne h.nd hz hy h2), Store.set_ne _ _ (ne_ent hq h4)]
      exact h4

/-- the timer's queue behind the library's interface; what it holds apart from 'S0' at first stays as it was in 'σ0' -/
def timerH (T : Nat) (bv : AVal) (σ0 : Store) (S0 : List Nat) : HeapI Try.prog 93 (.ref T 0) where
  St := List Ent
  at_ L σ := ∃ S, QAt σ T bv L S ∧ Fr σ0 S0 σ S
  len L := L.length
  less := lessAt
  swap := swapL
  small L σ := fun ⟨S, h, _⟩ => Nat.le_trans h.len (by decide)
  lenSwap L i k := swapL_length L i k
  hLen L σ := by
    rintro ⟨S, h, hf⟩
    obtain ⟨qv, hT, hq⟩ := h.t
    rcases hq with ⟨rfl, rfl⟩ | ⟨oq, hoq, rfl, hq⟩
    · exact ⟨96, false, _, by kernel_rfl, (by first | (simp (disch := omega) only [go_sem, hT, ↓reduceIte, Nat.reduceEqDiff, Nat.reduceAdd, Nat.reduceSub, Nat.reduceMul, Nat.reduceLeDiff, reduceCtorEq, Int.reduceToNat, Int.reduceLE, Int.reduceLT]; rfl) | simp (disch := omega) only [go_sem, hT, ↓reduceIte, Nat.reduceEqDiff, Nat.reduceAdd, Nat.reduceSub, Nat.reduceMul, Nat.reduceLeDiff, reduceCtorEq, Int.reduceToNat, Int.reduceLE, Int.reduceLT]), by simp only [go_sem], qLen_nil⟩
    · exact ⟨96, false, _, by kernel_rfl, (by first | (simp (disch := omega) only [go_sem, hT, ↓reduceIte, Nat.reduceEqDiff, Nat.reduceAdd, Nat.reduceSub, Nat.reduceMul, Nat.reduceLeDiff, reduceCtorEq, Int.reduceToNat, Int.reduceLE, Int.reduceLT]; rfl) | simp (disch := omega) only [go_sem, hT, ↓reduceIte, Nat.reduceEqDiff, Nat.reduceAdd, Nat.reduceSub, Nat.reduceMul, Nat.reduceLeDiff, reduceCtorEq, Int.reduceToNat, Int.reduceLE, Int.reduceLT]), by simp only [go_sem], qLen_c⟩
  hLess L σ i k := by
    rintro ⟨S, h, hf⟩ hi hk
    obtain ⟨qv, hT, hq⟩ := h.t
    rcases hq with ⟨rfl, rfl⟩ | ⟨oq, hoq, rfl, hq⟩
    · exact absurd hi (Nat.not_lt_zero _)
    · have hx : L[i]? = some L[i] := List.getElem?_eq_getElem hi
      have hy : L[k]? = some L[k] := List.getElem?_eq_getElem hk
      refine ⟨97, false, _, by kernel_rfl, (by first | (simp (disch := omega) only [go_sem, hT, ↓reduceIte, Nat.reduceEqDiff, Nat.reduceAdd, Nat.reduceSub, Nat.reduceMul, Nat.reduceLeDiff, reduceCtorEq, Int.reduceToNat, Int.reduceLE, Int.reduceLT]; rfl) | simp (disch := omega) only [go_sem, hT, ↓reduceIte, Nat.reduceEqDiff, Nat.reduceAdd, Nat.reduceSub, Nat.reduceMul, Nat.reduceLeDiff, reduceCtorEq, Int.reduceToNat, Int.reduceLE, Int.reduceLT]), by simp only [go_sem], (qLess_c hq hx hy (h.e i _ hx).2 (h.e k _ hy).2).mono fun v σ' hh => ?_⟩
      refine ⟨hh.1.trans ?_, hh.2⟩
      unfold lessAt
      rw [hx, hy]
  hSwap L σ i k := by
    rintro ⟨S, h, hf⟩ hi hk
    obtain ⟨qv, hT, hq⟩ := h.t
    rcases hq with ⟨rfl, rfl⟩ | ⟨oq, hoq, rfl, hq⟩
    · exact absurd hi (Nat.not_lt_zero _)
    · have hx : L[i]? = some L[i] := List.getElem?_eq_getElem hi
      have hy : L[k]? = some L[k] := List.getElem?_eq_getElem hk
      have hs := h.swap hT hoq hq hx hy
      have hxS := (h.e i _ hx).1
      have hyS := (h.e k _ hy).1
      have hfr : Fr σ0 S0 (((σ.set oq (qC (swapL L i k))).set L[k].1 (entC L[k] i)).set L[i].1 (entC L[i] k)) S := ((hf.set hoq).set hyS).set hxS
      by_cases hik : i = k
      · subst hik
        refine ⟨98, false, _, by kernel_rfl, (by first | (simp (disch := omega) only [go_sem, hT, ↓reduceIte, Nat.reduceEqDiff, Nat.reduceAdd, Nat.reduceSub, Nat.reduceMul, Nat.reduceLeDiff, reduceCtorEq, Int.reduceToNat, Int.reduceLE, Int.reduceLT]; rfl) | simp (disch := omega) only [go_sem, hT, ↓reduceIte, Nat.reduceEqDiff, Nat.reduceAdd, Nat.reduceSub, Nat.reduceMul, Nat.reduceLeDiff, reduceCtorEq, Int.reduceToNat, Int.reduceLE, Int.reduceLT]), by simp only [go_sem], (qSwap_eq hq hx (h.e i _ hx).2).mono fun v σ' hh => ⟨hh.1, S, ?_⟩⟩
        rw [hh.2]
        rw [Store.set_set] at hs hfr
        exact ⟨hs, hfr⟩
      · refine ⟨98, false, _, by kernel_rfl, (by first | (simp (disch := omega) only [go_sem, hT, ↓reduceIte, Nat.reduceEqDiff, Nat.reduceAdd, Nat.reduceSub, Nat.reduceMul, Nat.reduceLeDiff, reduceCtorEq, Int.reduceToNat, Int.reduceLE, Int.reduceLT]; rfl) | simp (disch := omega) only [go_sem, hT, ↓reduceIte, Nat.reduceEqDiff, Nat.reduceAdd, Nat.reduceSub, Nat.reduceMul, Nat.reduceLeDiff, reduceCtorEq, Int.reduceToNat, Int.reduceLE, Int.reduceLT]), by simp only [go_sem], (qSwap_ne hq hx hy (h.e i _ hx).2 (h.e k _ hy).2 (nd_ne h.nd hx hy hik)).mono fun v σ' hh => ⟨hh.1, S, ?_⟩⟩
        rw [hh.2]
        exact ⟨hs, hfr⟩

def timerO (T : Nat) (bv : AVal) (σ0 : Store) (S0 : List Nat) : HeapOrd (P := Try.prog) (t := 93) (a := .ref T 0) (timerH T bv σ0 S0).St (timerH T bv σ0 S0).len (timerH T bv σ0 S0).less (timerH T bv σ0 S0).swap where
  α := Ent
  get := fun (L : List Ent) k => L[k]?.getD (0, 0, 0)
  lt := lessE
  hless := fun (L : List Ent) i k (hi : i < L.length) (hk : k < L.length) => by
    show lessAt L i k = _
    unfold lessAt
    rw [List.getElem?_eq_getElem hi, List.getElem?_eq_getElem hk]
    rfl
  hswap := fun (L : List Ent) i j k (hi : i < L.length) (hj : j < L.length) => by
    show (swapL L i j)[k]?.getD _ = _
    rw [swapL_get hi hj]
    split
    · rfl
    · split <;> rfl
  trans := fun x y z h1 h2 => by simp only [lessE, decide_eq_false_iff_not] at *; omega
  asym := fun x y h => by simp only [lessE, decide_eq_false_iff_not, decide_eq_true_eq] at *; omega

end Go.Proofs.Ytdedpamcpgbgmaa
