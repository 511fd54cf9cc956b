/-
  The timer's queue: Fix, Push and Remove, all told. Own work (an AI agent).
-/
import Derived.Test.YtdedpamcpgbgmaaTimerH
set_option linter.all false
set_option maxRecDepth 100000
namespace Go.Proofs.Ytdedpamcpgbgmaa
open Go.Ab

def gE (L : List Ent) (k : Nat) : Ent := L[k]?.getD (0, 0, 0)
def HeapL (L : List Ent) : Prop := ∀ k, 0 < k → k < L.length → lessE (gE L k) (gE L ((k - 1) / 2)) = false

theorem heapL_of {T : Nat} {bv : AVal} {σ0 : Store} {S0 : List Nat} {L : List Ent} (h : HeapN (timerO T bv σ0 S0) L L.length) : HeapL L := h
theorem ofHeapL {T : Nat} {bv : AVal} {σ0 : Store} {S0 : List Nat} {L : List Ent} (h : HeapL L) : HeapN (timerO T bv σ0 S0) L L.length := h

theorem keeps_perm {T : Nat} {bv : AVal} {σ0 : Store} {S0 : List Nat} (M : List Ent) : ∀ (s : (timerH T bv σ0 S0).St) i j, i < (timerH T bv σ0 S0).len s → j < (timerH T bv σ0 S0).len s → (fun L : List Ent => L.Perm M) s → (fun L : List Ent => L.Perm M) ((timerH T bv σ0 S0).swap s i j) :=
  fun s i j _ _ h => (swapL_perm s i j).trans h

theorem gE_set {L : List Ent} {p k : Nat} {y : Ent} (hp : p < L.length) : gE (L.set p y) k = if k = p then y else gE L k := by
  unfold gE
  rw [List.getElem?_set]
  by_cases h : k = p
  · subst h; rw [if_pos rfl, if_pos hp, if_pos rfl]; rfl
  · rw [if_neg (Ne.symm h), if_neg h]

theorem but_set {T : Nat} {bv : AVal} {σ0 : Store} {S0 : List Nat} {L : List Ent} {p : Nat} {y : Ent} (h : HeapL L) (hp : p < L.length) : HeapBut (timerO T bv σ0 S0) (L.set p y) L.length p := by
  refine ⟨fun k h1 h2 h3 h4 => ?_, fun c h1 h2 h3 h4 => ?_⟩
  · show lessE (gE (L.set p y) k) (gE (L.set p y) ((k - 1) / 2)) = false
    rw [gE_set hp, gE_set hp, if_neg h3, if_neg h4]
    exact h k h1 h2
  · show lessE (gE (L.set p y) c) (gE (L.set p y) ((p - 1) / 2)) = false
    rw [gE_set hp, gE_set hp, if_neg (by omega), if_neg (by omega)]
    have h5 := h c h1 h2
    rw [h3] at h5
    exact (timerO T bv σ0 S0).trans _ _ _ (h p h4 hp) h5

/-- an entry has a new time: Fix -/
theorem qFix_c {T p : Nat} {bv : AVal} {L : List Ent} {S : List Nat} {y : Ent} {σ : Store} (h : QAt σ T bv (L.set p y) S) (hL : HeapL L) (hp : p < L.length) :
    ACalls Try.prog 62 [.iface 93 (.ref T 0), vInt p] σ fun v σ' => v = .tup [] ∧ ∃ L' S', QAt σ' T bv L' S' ∧ Fr σ S σ' S' ∧ HeapL L' ∧ L'.Perm (L.set p y) := by
  refine (hFix_c (timerH T bv σ S) (s := L.set p y) (i := p) ⟨S, h, .refl σ S⟩ (by show p < (L.set p y).length; simpa using hp)).mono fun v σ' hh => ⟨hh.1, ?_⟩
  obtain ⟨S', h1, h2⟩ := hh.2
  have hlen : (timerH T bv σ S).len (L.set p y) = L.length := by show (L.set p y).length = _; simp
  have hlen' := fixS_len (timerH T bv σ S) (L.set p y) p L.length
  rw [hlen] at h1 hlen'
  refine ⟨_, S', h1, h2, ?_, ?_⟩
  · have := fix_heap (timerO T bv σ S) (n := L.length) (i := p) (s := L.set p y) (by rw [hlen]; exact Nat.le_refl _) hp (but_set hL hp)
    intro k h3 h4
    exact this k h3 (by rw [← hlen']; exact h4)
  · exact fix_keeps (H := timerH T bv σ S) (p := fun M : List Ent => M.Perm (L.set p y)) (n := L.length) (i := p) (s := L.set p y) (keeps_perm _) (by rw [hlen]; exact Nat.le_refl _) (by rw [hlen]; exact hp) (List.Perm.refl _)

theorem nd_snoc {L : List Ent} {x : Ent} (h : (L.map (·.1)).Nodup) (hx : ∀ y ∈ L, y.1 ≠ x.1) : ((L ++ [x]).map (·.1)).Nodup := by
  rw [List.map_append, List.nodup_append]
  refine ⟨h, by simp, fun a ha b hb => ?_⟩
  obtain ⟨y, hy, rfl⟩ := List.mem_map.1 ha
  obtain rfl : b = x.1 := by simpa using hb
  exact hx y hy

theorem get_snoc {L : List Ent} {x : Ent} {k : Nat} {y : Ent} (h : (L ++ [x])[k]? = some y) : (k < L.length ∧ L[k]? = some y) ∨ (k = L.length ∧ y = x) := by
  rcases Nat.lt_or_ge k L.length with hk | hk
  · rw [List.getElem?_append_left hk] at h; exact .inl ⟨hk, h⟩
  · rw [List.getElem?_append_right hk] at h
    have h0 : k - L.length = 0 := by
      have := (List.getElem?_eq_some_iff.1 h).1
      simpa using this
    rw [h0] at h
    exact .inr ⟨by omega, (Option.some.inj h).symm⟩

theorem mem_get {L : List Ent} {y : Ent} (h : y ∈ L) : ∃ k : Nat, L[k]? = some y := by
  obtain ⟨k, hk, rfl⟩ := List.getElem_of_mem h
  exact ⟨k, List.getElem?_eq_getElem hk⟩

/-- Push by the queue's own method -/
theorem qPush_at {T e : Nat} {bv : AVal} {L : List Ent} {S : List Nat} {c a p : Int} {σ : Store} (h : QAt σ T bv L S) (he : σ.heap e = some (.cells [vInt c, vInt a, vInt p])) (hLe : ∀ y ∈ L, y.1 ≠ e) (hL : L.length < 1000) :
    AInv Try.prog 93 (.ref T 0) "Push" [.iface 91 (.ref e 0)] σ fun v σ' => v = .tup [] ∧ ∃ S', QAt σ' T bv (L ++ [(e, c, a)]) S' ∧ Fr σ (e :: S) σ' S' := by
  obtain ⟨qv, hT, hq⟩ := h.t
  have hTe : T ≠ e := fun hh => by rw [hh, he] at hT; simp at hT
  refine ⟨103, true, _, by kernel_rfl, (by first | (simp (disch := omega) only [go_sem, hT, ↓reduceIte, Nat.reduceEqDiff, Nat.reduceAdd, Nat.reduceSub, Nat.reduceMul, Nat.reduceLeDiff, reduceCtorEq, Int.reduceToNat, Int.reduceLE, Int.reduceLT]; rfl) | simp (disch := omega) only [go_sem, hT, ↓reduceIte, Nat.reduceEqDiff, Nat.reduceAdd, Nat.reduceSub, Nat.reduceMul, Nat.reduceLeDiff, reduceCtorEq, Int.reduceToNat, Int.reduceLE, Int.reduceLT]), by simp only [go_sem], ?_⟩
  rcases hq with ⟨rfl, rfl⟩ | ⟨oq, hoq, rfl, hq⟩
  · refine (qPush_nil hT he).mono fun v σ' ⟨hv, o', h1, h2, h3⟩ => ⟨hv, [o', e, T], ?_, ?_⟩
    · subst h3
      have hTo : T ≠ o' := ne_of_heap hT h2
      refine ⟨⟨_, Store.set_get .., .inr ⟨o', by simp, rfl, by rw [Store.set_ne _ _ (Ne.symm hTo), Store.set_get]; rfl⟩⟩, fun k x hx => ?_, by simp, by simp, by simp⟩
      rcases get_snoc hx with ⟨h4, _⟩ | ⟨rfl, rfl⟩
      · exact absurd h4 (Nat.not_lt_zero _)
      · exact ⟨by simp, by rw [Store.set_ne _ _ (Ne.symm hTe), Store.set_ne _ _ (Ne.symm h1), Store.set_get]; rfl⟩
    · subst h3
      have hTo : T ≠ o' := ne_of_heap hT h2
      have f1 : Fr σ (e :: S) (σ.set e (entC (e, c, a) 0)) (e :: S) := (Fr.refl σ (e :: S)).set (by simp)
      have f2 := f1.setNew (o := o') (x := qC [(e, c, a)]) (by rw [Store.set_ne _ _ h1]; exact h2)
      exact (f2.set (o := T) (by simp [h.ts])).less (by intro i hi; simp at hi ⊢; rcases hi with rfl | rfl | rfl; exact .inl rfl; exact .inr (.inl rfl); exact .inr (.inr h.ts))
  · have hTq := ne_q hT hq
    have heq : e ≠ oq := fun hh => by
      rw [hh, hq] at he
      cases L with
      | nil => simp [qC] at he
      | cons a l => simp [qC] at he
    refine (qPush_c hT hq he hTq heq (by omega)).mono fun v σ' ⟨hv, o', h1, h2, h2', h3⟩ => ⟨hv, o' :: e :: S, ?_, ?_⟩
    · subst h3
      refine ⟨⟨_, Store.set_get .., .inr ⟨o', by simp, by simp, by rw [Store.set_ne _ _ (Ne.symm h2'), Store.set_get]⟩⟩, fun k x hx => ?_, nd_snoc h.nd hLe, by simp [h.ts], by simp; omega⟩
      rcases get_snoc hx with ⟨h4, h5⟩ | ⟨rfl, rfl⟩
      · obtain ⟨h6, h7⟩ := h.e k x h5
        have hxo : x.1 ≠ o' := by
          rcases h2 with rfl | h2
          · exact ne_ent hq h7
          · exact ne_of_heap h7 h2
        exact ⟨by simp [h6], by rw [Store.set_ne _ _ (Ne.symm (ne_e hT h7)), Store.set_ne _ _ hxo, Store.del_ne _ (ne_ent hq h7), Store.set_ne _ _ (hLe x (List.mem_of_getElem? h5))]; exact h7⟩
      · exact ⟨by simp, by rw [Store.set_ne _ _ (Ne.symm hTe), Store.set_ne _ _ (Ne.symm h1), Store.del_ne _ heq, Store.set_get]⟩
    · subst h3
      have f1 : Fr σ (e :: S) (σ.set e (entC (e, c, a) L.length)) (e :: S) := (Fr.refl σ (e :: S)).set (by simp)
      have f2 := f1.del (o := oq) (by simp [hoq])
      have f3 := f2.setNew (o := o') (x := qC (L ++ [(e, c, a)])) (by
        by_cases ho : o' = oq
        · rw [ho, Store.del_get]
        · rw [Store.del_ne _ ho, Store.set_ne _ _ h1]; exact h2.resolve_left ho)
      exact f3.set (o := T) (by simp [h.ts])

theorem but_snoc {T : Nat} {bv : AVal} {σ0 : Store} {S0 : List Nat} {L : List Ent} {x : Ent} (h : HeapL L) : HeapBut (timerO T bv σ0 S0) (L ++ [x]) (L.length + 1) L.length ∧ KidsOk (timerO T bv σ0 S0) (L ++ [x]) (L.length + 1) L.length := by
  have hg : ∀ k, k < L.length → gE (L ++ [x]) k = gE L k := fun k hk => by unfold gE; rw [List.getElem?_append_left hk]
  refine ⟨⟨fun k h1 h2 h3 h4 => ?_, fun c h1 h2 h3 h4 => absurd h3 (by omega)⟩, fun c h1 h2 h3 => absurd h3 (by omega)⟩
  show lessE (gE (L ++ [x]) k) (gE (L ++ [x]) ((k - 1) / 2)) = false
  rw [hg _ (by omega), hg _ (by omega)]
  exact h k h1 (by omega)

/-- Push -/
theorem qPushAll_c {T e : Nat} {bv : AVal} {L : List Ent} {S : List Nat} {c a p : Int} {σ : Store} (h : QAt σ T bv L S) (hH : HeapL L) (he : σ.heap e = some (.cells [vInt c, vInt a, vInt p])) (hLe : ∀ y ∈ L, y.1 ≠ e) (hL : L.length < 1000) :
    ACalls Try.prog 63 [.iface 93 (.ref T 0), .iface 91 (.ref e 0)] σ fun v σ' => v = .tup [] ∧ ∃ L' S', QAt σ' T bv L' S' ∧ Fr σ (e :: S) σ' S' ∧ HeapL L' ∧ L'.Perm (L ++ [(e, c, a)]) := by
  obtain ⟨f, ptr, r, q1, q2, q3, q4⟩ := qPush_at h he hLe hL
  refine (hPush_c (timerH T bv σ (e :: S)) (s := L ++ [(e, c, a)]) ⟨f, ptr, r, q1, q2, q3, q4⟩ (by show 0 < (L ++ [(e, c, a)]).length; simp)).mono fun v σ' hh => ⟨hh.1, ?_⟩
  obtain ⟨S', h1, h2⟩ := hh.2
  have hlen : (timerH T bv σ (e :: S)).len (L ++ [(e, c, a)]) = L.length + 1 := by show (L ++ [(e, c, a)]).length = _; simp
  have hlen' := upS_len (timerH T bv σ (e :: S)) (L ++ [(e, c, a)]) L.length
  rw [hlen] at hlen'
  rw [hlen, Nat.add_sub_cancel] at h1
  refine ⟨_, S', h1, h2, ?_, ?_⟩
  · have := up_heap (timerO T bv σ (e :: S)) (n := L.length + 1) L.length (L ++ [(e, c, a)]) (by rw [hlen]; exact Nat.le_refl _) (Nat.lt_succ_self _) (but_snoc hH).1 (but_snoc hH).2
    intro k h3 h4
    exact this k h3 (by rw [← hlen']; exact h4)
  · exact up_keeps (H := timerH T bv σ (e :: S)) (p := fun M : List Ent => M.Perm (L ++ [(e, c, a)])) (keeps_perm _) L.length (L ++ [(e, c, a)]) (by rw [hlen]; exact Nat.lt_succ_self _) (List.Perm.refl _)

theorem snoc_of {L : List Ent} {n : Nat} {x : Ent} (hn : L.length = n + 1) (hx : gE L n = x) : ∃ L', L = L' ++ [x] ∧ L'.length = n := by
  refine ⟨L.dropLast, ?_, by simp [hn]⟩
  have hne : L ≠ [] := fun h => by rw [h] at hn; simp at hn
  have : L.getLast hne = x := by
    rw [List.getLast_eq_getElem, ← hx]
    unfold gE
    simp [hn]
  rw [← this]
  exact (List.dropLast_concat_getLast hne).symm

/-- Remove -/
theorem qRemove_c {T i : Nat} {bv : AVal} {L : List Ent} {S : List Nat} {x : Ent} {σ : Store} (h : QAt σ T bv L S) (hH : HeapL L) (hx : L[i]? = some x) :
    ACalls Try.prog 69 [.iface 93 (.ref T 0), vInt i] σ fun v σ' => ∃ L' S', QAt σ' T bv L' S' ∧ Fr σ S σ' S' ∧ HeapL L' ∧ (L' ++ [x]).Perm L := by
  have hi : i < L.length := (List.getElem?_eq_some_iff.1 hx).1
  obtain ⟨n, hn⟩ : ∃ n, L.length = n + 1 := ⟨L.length - 1, by omega⟩
  have hlen : (timerH T bv σ S).len L = n + 1 := hn
  refine hRemove_c (timerH T bv σ S) (s := L) (i := i) ⟨S, h, .refl σ S⟩ hi fun τ hτ => ?_
  obtain ⟨S', h1, h2⟩ := hτ
  have hlen' : (remS (timerH T bv σ S) L i : List Ent).length = n + 1 := (remS_len (timerH T bv σ S) L i).trans hlen
  have hlast : gE (remS (timerH T bv σ S) L i) n = x := by
    have := rem_last (timerO T bv σ S) (n := n) (i := i) (s := L) hlen (by omega)
    refine this.trans ?_
    show L[i]?.getD _ = x
    rw [hx]; rfl
  have hperm : List.Perm (remS (timerH T bv σ S) L i) L := rem_keeps (H := timerH T bv σ S) (p := fun M : List Ent => M.Perm L) (i := i) (s := L) (keeps_perm _) (by rw [hlen]; omega) (List.Perm.refl _)
  have hheap := rem_heap (timerO T bv σ S) (n := n) (i := i) (s := L) hlen (by omega) (by rw [← hn]; exact hH)
  generalize remS (timerH T bv σ S) L i = R at h1 hlen' hlast hperm hheap
  obtain ⟨L', rfl, hL'⟩ := snoc_of hlen' hlast
  obtain ⟨qv, hT, hq⟩ := h1.t
  rcases hq with ⟨_, h0⟩ | ⟨oq, hoq, rfl, hq⟩
  · simp at h0
  have hll : (L' ++ [x]).length = L'.length + 1 := by simp
  rw [hll] at hT
  have hTq := ne_q hT hq
  have hll2 := h1.len
  rw [hll] at hll2
  refine ⟨102, true, _, by kernel_rfl, (by first | (simp (disch := omega) only [go_sem, hT, ↓reduceIte, Nat.reduceEqDiff, Nat.reduceAdd, Nat.reduceSub, Nat.reduceMul, Nat.reduceLeDiff, reduceCtorEq, Int.reduceToNat, Int.reduceLE, Int.reduceLT]; rfl) | simp (disch := omega) only [go_sem, hT, ↓reduceIte, Nat.reduceEqDiff, Nat.reduceAdd, Nat.reduceSub, Nat.reduceMul, Nat.reduceLeDiff, reduceCtorEq, Int.reduceToNat, Int.reduceLE, Int.reduceLT]), by simp only [go_sem], (qPop_c hT hq hTq (by omega)).mono fun v σ' hh => ?_⟩
  obtain ⟨_, rfl⟩ := hh
  have hnd := h1.nd
  rw [List.map_append, List.nodup_append] at hnd
  refine ⟨L', S', ⟨⟨_, by rw [Store.set_ne _ _ hTq, Store.set_get], .inr ⟨oq, hoq, rfl, Store.set_get ..⟩⟩, fun k y hy => ?_, hnd.1, h1.ts, by omega⟩, (h2.set h1.ts).set hoq, ?_, hperm⟩
  · have hk := (List.getElem?_eq_some_iff.1 hy).1
    obtain ⟨h5, h6⟩ := h1.e k y (by rw [List.getElem?_append_left hk]; exact hy)
    exact ⟨h5, by rw [Store.set_ne _ _ (ne_ent hq h6), Store.set_ne _ _ (Ne.symm (ne_e hT h6))]; exact h6⟩
  · intro k h5 h6
    have h7 := hheap k h5 (by omega)
    have hg : ∀ k, k < L'.length → gE (L' ++ [x]) k = gE L' k := fun k hk => by unfold gE; rw [List.getElem?_append_left hk]
    rw [← hg k h6, ← hg _ (by omega)]
    exact h7
end Go.Proofs.Ytdedpamcpgbgmaa
