/-
  The program's timer: Set, Drop and Due. Own work (an AI agent).
-/
import Derived.Test.YtdedpamcpgbgmaaTimer
set_option linter.all false
set_option maxRecDepth 100000
namespace Go.Proofs.Ytdedpamcpgbgmaa
open Go.Ab
open Go.MapKept (IsKey)

/-- calls with their times -/
def calls (L : List Ent) : List (Int × Int) := L.map (·.2)
def setS (l : List (Int × Int)) (c a : Int) : List (Int × Int) := (l.filter fun p => !decide (p.1 = c)) ++ [(c, a)]
def dropS (l : List (Int × Int)) (c : Int) : List (Int × Int) := l.filter fun p => !decide (p.1 = c)

theorem find_nd : ∀ {M : List (Int × Nat)} {q : Int × Nat}, (M.map (·.1)).Nodup → q ∈ M → (M.find? fun p => decide (p.1 = q.1)) = some q
  | [], _, _, h => by cases h
  | p :: M, q, hnd, h => by
    rw [List.map_cons, List.nodup_cons] at hnd
    rw [List.find?_cons]
    rcases List.mem_cons.1 h with rfl | h
    · simp
    · have : p.1 ≠ q.1 := fun hh => hnd.1 (hh ▸ List.mem_map.2 ⟨q, h, rfl⟩)
      simp only [this, decide_false]
      exact find_nd hnd.2 h
theorem keys_nd {L : List Ent} {M : List (Int × Nat)} (hM : M.Perm (keysL L)) (hnd : (L.map (·.2.1)).Nodup) : (M.map (·.1)).Nodup := by
  refine (hM.map (·.1)).nodup_iff.2 ?_
  simpa [keysL, Function.comp_def] using hnd
theorem find_key_L {L : List Ent} {M : List (Int × Nat)} (hM : M.Perm (keysL L)) (hnd : (L.map (·.2.1)).Nodup) {x : Ent} (hx : x ∈ L) {c : Int} (hc : x.2.1 = c) : (M.find? fun p => decide (p.1 = c)) = some (c, x.1) := by
  subst hc
  exact find_nd (q := (x.2.1, x.1)) (keys_nd hM hnd) (hM.mem_iff.2 (List.mem_map.2 ⟨x, hx, rfl⟩))
theorem no_key_L {L : List Ent} {M : List (Int × Nat)} (hM : M.Perm (keysL L)) {c : Int} (hc : ∀ x ∈ L, x.2.1 ≠ c) : ∀ p ∈ M, p.1 ≠ c := by
  intro p hp
  obtain ⟨x, hx, rfl⟩ := List.mem_map.1 (hM.mem_iff.1 hp)
  exact hc x hx
theorem find_none {M : List (Int × Nat)} {c : Int} (h : ∀ p ∈ M, p.1 ≠ c) : (M.find? fun p => decide (p.1 = c)) = none := List.find?_eq_none.2 fun p hp => by simpa using h p hp
theorem erase_perm : ∀ {M : List (Int × Nat)} {c : Int} {q : Int × Nat}, (M.find? fun p => decide (p.1 = c)) = some q → (q :: M.eraseP fun p => decide (p.1 = c)).Perm M
  | [], _, _, h => by cases h
  | p :: M, c, q, h => by
    rw [List.find?_cons] at h
    rw [List.eraseP_cons]
    by_cases hp : p.1 = c
    · simp only [hp, decide_true, Option.some.injEq] at h ⊢
      subst h; exact .refl _
    · simp only [hp, decide_false, Bool.false_eq_true, if_false] at h ⊢
      exact (List.Perm.swap ..).trans ((erase_perm h).cons p)

theorem tSet_found {σ : Store} {T om p : Nat} {L : List Ent} {S : List Nat} {M : List (Int × Nat)} {x : Ent} {c a : Int} (h : QAt σ T (.map om) L S) (hH : HeapL L) (hm : σ.heap om = some (.map (kvM M))) (hf : (M.find? fun p => decide (p.1 = c)) = some (c, x.1)) (hx : L[p]? = some x) (hc : x.2.1 = c) :
    ACalls Try.prog 39 [.ref T 0, vInt c, vInt a] σ fun v σ' => v = .tup [] ∧ ∃ L' S', QAt σ' T (.map om) L' S' ∧ Fr σ S σ' S' ∧ HeapL L' ∧ L'.Perm (L.set p (x.1, c, a)) := by
  obtain ⟨qv, hT, hq⟩ := h.t
  obtain ⟨hxS, hex⟩ := h.e p x hx
  have hTx := ne_e hT hex
  have hp : p < L.length := (List.getElem?_eq_some_iff.1 hx).1
  have hset : QAt (σ.set x.1 (entC (x.1, c, a) p)) T (.map om) (L.set p (x.1, c, a)) S := by
    refine ⟨⟨qv, by rw [Store.set_ne _ _ hTx]; exact hT, ?_⟩, fun k y hy => ?_, ?_, h.ts, by simpa using h.len⟩
    · rcases hq with ⟨_, rfl⟩ | ⟨oq, q1, q2, q3⟩
      · simp at hx
      · refine .inr ⟨oq, q1, by simpa using q2, ?_⟩
        rw [Store.set_ne _ _ (Ne.symm (ne_ent q3 hex)), q3]
        unfold qC
        rw [List.map_set]
        congr 2
        apply List.ext_getElem?
        intro k
        rw [List.getElem?_set]
        split
        · rename_i hk; subst hk
          rw [if_pos (by simpa using hp), List.getElem?_map, hx]; rfl
        · rfl
    · rw [List.getElem?_set] at hy
      by_cases hk : p = k
      · subst hk
        rw [if_pos rfl, if_pos hp] at hy
        obtain rfl := Option.some.inj hy
        exact ⟨hxS, Store.set_get ..⟩
      · rw [if_neg hk] at hy
        refine ⟨(h.e k y hy).1, ?_⟩
        rw [Store.set_ne _ _ (nd_ne h.nd hy hx (Ne.symm hk))]
        exact (h.e k y hy).2
    · have : (L.set p (x.1, c, a)).map (·.1) = L.map (·.1) := by
        rw [List.map_set]
        apply List.ext_getElem?
        intro k
        rw [List.getElem?_set]
        split
        · rename_i hk; subst hk
          rw [if_pos (by simpa using hp), List.getElem?_map, hx]; rfl
        · rfl
      rw [this]; exact h.nd
  have hfr : Fr σ S (σ.set x.1 (entC (x.1, c, a) p)) S := (Fr.refl σ S).set hxS
  refine ACalls_of Try.func39 rfl Try.ntmps39 (congrArg Array.toList Try.results39) (by simp only [List.length_cons, List.length_nil]; decide) ?_; simp only [envOf_cons, envOf_nil, Nat.reduceAdd]
  refine awp_seq ?_
  refine awp_seq ?_
  refine awp_region (by kernel_rfl) ?_
  (refine aL_S rfl rfl (by simp (disch := omega) only [go_sem, wrap_i64, ↓reduceIte, Nat.reduceEqDiff, Nat.reduceAdd, Nat.reduceSub, Nat.reduceMul, Nat.reduceLeDiff, reduceCtorEq, Int.reduceToNat, Int.reduceLE, Int.reduceLT, hT, hm, hex, alookup, amapOf, plainKey, lookupRes, afind_M, hf, Store.set_ne, hTx, ne_eq, not_false_eq_true, hc]; rfl) ?_)
  (refine aL_S rfl rfl (by simp (disch := omega) only [go_sem, wrap_i64, ↓reduceIte, Nat.reduceEqDiff, Nat.reduceAdd, Nat.reduceSub, Nat.reduceMul, Nat.reduceLeDiff, reduceCtorEq, Int.reduceToNat, Int.reduceLE, Int.reduceLT, hT, hm, hex, alookup, amapOf, plainKey, lookupRes, afind_M, hf, Store.set_ne, hTx, ne_eq, not_false_eq_true, hc]; rfl) ?_)
  refine aL_nil ?_
  refine awp_cond (by simp (disch := omega) only [go_sem, wrap_i64, ↓reduceIte, Nat.reduceEqDiff, Nat.reduceAdd, Nat.reduceSub, Nat.reduceMul, Nat.reduceLeDiff, reduceCtorEq, Int.reduceToNat, Int.reduceLE, Int.reduceLT]; rfl) (fun hc0 => ?_) (fun hc0 => ?_)
  · (try simp only [decide_eq_true_eq, decide_eq_false_iff_not, Bool.not_eq_true', Bool.not_eq_false', Bool.and_eq_true, Bool.or_eq_true, Bool.and_eq_false_iff, Bool.or_eq_false_iff, Bool.not_eq_eq_eq_not, Bool.not_true, Bool.not_false, Int.not_le, Int.not_lt, beq_iff_eq] at hc0)
    cases hc0
  · (try simp only [decide_eq_true_eq, decide_eq_false_iff_not, Bool.not_eq_true', Bool.not_eq_false', Bool.and_eq_true, Bool.or_eq_true, Bool.and_eq_false_iff, Bool.or_eq_false_iff, Bool.not_eq_eq_eq_not, Bool.not_true, Bool.not_false, Int.not_le, Int.not_lt, beq_iff_eq] at hc0)
    refine awp_skip ?_
    refine awp_seq ?_
    refine awp_seq ?_
    refine awp_region (by kernel_rfl) ?_
    (refine aL_S rfl rfl (by simp (disch := omega) only [go_sem, wrap_i64, ↓reduceIte, Nat.reduceEqDiff, Nat.reduceAdd, Nat.reduceSub, Nat.reduceMul, Nat.reduceLeDiff, reduceCtorEq, Int.reduceToNat, Int.reduceLE, Int.reduceLT, hT, hm, hex, alookup, amapOf, plainKey, lookupRes, afind_M, hf, Store.set_ne, hTx, ne_eq, not_false_eq_true, hc]; rfl) ?_)
    (refine aL_S rfl rfl (by simp (disch := omega) only [go_sem, wrap_i64, ↓reduceIte, Nat.reduceEqDiff, Nat.reduceAdd, Nat.reduceSub, Nat.reduceMul, Nat.reduceLeDiff, reduceCtorEq, Int.reduceToNat, Int.reduceLE, Int.reduceLT, hT, hm, hex, alookup, amapOf, plainKey, lookupRes, afind_M, hf, Store.set_ne, hTx, ne_eq, not_false_eq_true, hc]; rfl) ?_)
    (refine aL_S rfl rfl (by simp (disch := omega) only [go_sem, wrap_i64, ↓reduceIte, Nat.reduceEqDiff, Nat.reduceAdd, Nat.reduceSub, Nat.reduceMul, Nat.reduceLeDiff, reduceCtorEq, Int.reduceToNat, Int.reduceLE, Int.reduceLT, hT, hm, hex, alookup, amapOf, plainKey, lookupRes, afind_M, hf, Store.set_ne, hTx, ne_eq, not_false_eq_true, hc]; rfl) ?_)
    (refine aL_S rfl rfl (by simp (disch := omega) only [go_sem, wrap_i64, ↓reduceIte, Nat.reduceEqDiff, Nat.reduceAdd, Nat.reduceSub, Nat.reduceMul, Nat.reduceLeDiff, reduceCtorEq, Int.reduceToNat, Int.reduceLE, Int.reduceLT, hT, hm, hex, alookup, amapOf, plainKey, lookupRes, afind_M, hf, Store.set_ne, hTx, ne_eq, not_false_eq_true, hc]; rfl) ?_)
    (refine aL_S rfl rfl (by simp (disch := omega) only [go_sem, wrap_i64, ↓reduceIte, Nat.reduceEqDiff, Nat.reduceAdd, Nat.reduceSub, Nat.reduceMul, Nat.reduceLeDiff, reduceCtorEq, Int.reduceToNat, Int.reduceLE, Int.reduceLT, hT, hm, hex, alookup, amapOf, plainKey, lookupRes, afind_M, hf, Store.set_ne, hTx, ne_eq, not_false_eq_true, hc]; rfl) ?_)
    refine aL_nil ?_
    refine awp_cond (by simp (disch := omega) only [go_sem, wrap_i64, ↓reduceIte, Nat.reduceEqDiff, Nat.reduceAdd, Nat.reduceSub, Nat.reduceMul, Nat.reduceLeDiff, reduceCtorEq, Int.reduceToNat, Int.reduceLE, Int.reduceLT]; rfl) (fun hc1 => ?_) (fun hc1 => ?_)
    · (try simp only [decide_eq_true_eq, decide_eq_false_iff_not, Bool.not_eq_true', Bool.not_eq_false', Bool.and_eq_true, Bool.or_eq_true, Bool.and_eq_false_iff, Bool.or_eq_false_iff, Bool.not_eq_eq_eq_not, Bool.not_true, Bool.not_false, Int.not_le, Int.not_lt, beq_iff_eq] at hc1)
      cases hc1
    · (try simp only [decide_eq_true_eq, decide_eq_false_iff_not, Bool.not_eq_true', Bool.not_eq_false', Bool.and_eq_true, Bool.or_eq_true, Bool.and_eq_false_iff, Bool.or_eq_false_iff, Bool.not_eq_eq_eq_not, Bool.not_true, Bool.not_false, Int.not_le, Int.not_lt, beq_iff_eq] at hc1)
      refine awp_skip ?_
      refine awp_seq ?_
      refine awp_seq ?_
      refine awp_region (by kernel_rfl) ?_
      (refine aL_S rfl rfl (by simp (disch := omega) only [go_sem, wrap_i64, ↓reduceIte, Nat.reduceEqDiff, Nat.reduceAdd, Nat.reduceSub, Nat.reduceMul, Nat.reduceLeDiff, reduceCtorEq, Int.reduceToNat, Int.reduceLE, Int.reduceLT, hT, hm, hex, alookup, amapOf, plainKey, lookupRes, afind_M, hf, Store.set_ne, hTx, ne_eq, not_false_eq_true, hc]; rfl) ?_)
      (refine aL_S rfl rfl (by simp (disch := omega) only [go_sem, wrap_i64, ↓reduceIte, Nat.reduceEqDiff, Nat.reduceAdd, Nat.reduceSub, Nat.reduceMul, Nat.reduceLeDiff, reduceCtorEq, Int.reduceToNat, Int.reduceLE, Int.reduceLT, hT, hm, hex, alookup, amapOf, plainKey, lookupRes, afind_M, hf, Store.set_ne, hTx, ne_eq, not_false_eq_true, hc]; rfl) ?_)
      (refine aL_S rfl rfl (by simp (disch := omega) only [go_sem, wrap_i64, ↓reduceIte, Nat.reduceEqDiff, Nat.reduceAdd, Nat.reduceSub, Nat.reduceMul, Nat.reduceLeDiff, reduceCtorEq, Int.reduceToNat, Int.reduceLE, Int.reduceLT, hT, hm, hex, alookup, amapOf, plainKey, lookupRes, afind_M, hf, Store.set_ne, hTx, ne_eq, not_false_eq_true, hc]; rfl) ?_)
      (refine aL_S rfl rfl (by simp (disch := omega) only [go_sem, wrap_i64, ↓reduceIte, Nat.reduceEqDiff, Nat.reduceAdd, Nat.reduceSub, Nat.reduceMul, Nat.reduceLeDiff, reduceCtorEq, Int.reduceToNat, Int.reduceLE, Int.reduceLT, hT, hm, hex, alookup, amapOf, plainKey, lookupRes, afind_M, hf, Store.set_ne, hTx, ne_eq, not_false_eq_true, hc]; rfl) ?_)
      (refine aL_S rfl rfl (by simp (disch := omega) only [go_sem, wrap_i64, ↓reduceIte, Nat.reduceEqDiff, Nat.reduceAdd, Nat.reduceSub, Nat.reduceMul, Nat.reduceLeDiff, reduceCtorEq, Int.reduceToNat, Int.reduceLE, Int.reduceLT, hT, hm, hex, alookup, amapOf, plainKey, lookupRes, afind_M, hf, Store.set_ne, hTx, ne_eq, not_false_eq_true, hc]; rfl) ?_)
      (refine aL_S rfl rfl (by simp (disch := omega) only [go_sem, wrap_i64, ↓reduceIte, Nat.reduceEqDiff, Nat.reduceAdd, Nat.reduceSub, Nat.reduceMul, Nat.reduceLeDiff, reduceCtorEq, Int.reduceToNat, Int.reduceLE, Int.reduceLT, hT, hm, hex, alookup, amapOf, plainKey, lookupRes, afind_M, hf, Store.set_ne, hTx, ne_eq, not_false_eq_true, hc]; rfl) ?_)
      (refine aL_S rfl rfl (by simp (disch := omega) only [go_sem, wrap_i64, ↓reduceIte, Nat.reduceEqDiff, Nat.reduceAdd, Nat.reduceSub, Nat.reduceMul, Nat.reduceLeDiff, reduceCtorEq, Int.reduceToNat, Int.reduceLE, Int.reduceLT, hT, hm, hex, alookup, amapOf, plainKey, lookupRes, afind_M, hf, Store.set_ne, hTx, ne_eq, not_false_eq_true, hc]; rfl) ?_)
      refine aL_nil ?_
      refine awp_seq ?_
      refine awp_region (by kernel_rfl) ?_
      (refine aL_S rfl rfl (by simp (disch := omega) only [go_sem, wrap_i64, ↓reduceIte, Nat.reduceEqDiff, Nat.reduceAdd, Nat.reduceSub, Nat.reduceMul, Nat.reduceLeDiff, reduceCtorEq, Int.reduceToNat, Int.reduceLE, Int.reduceLT, hT, hm, hex, alookup, amapOf, plainKey, lookupRes, afind_M, hf, Store.set_ne, hTx, ne_eq, not_false_eq_true, hc]; rfl) ?_)
      (refine aL_S rfl rfl (by simp (disch := omega) only [go_sem, wrap_i64, ↓reduceIte, Nat.reduceEqDiff, Nat.reduceAdd, Nat.reduceSub, Nat.reduceMul, Nat.reduceLeDiff, reduceCtorEq, Int.reduceToNat, Int.reduceLE, Int.reduceLT, hT, hm, hex, alookup, amapOf, plainKey, lookupRes, afind_M, hf, Store.set_ne, hTx, ne_eq, not_false_eq_true, hc]; rfl) ?_)
      refine aL_nil ?_
      refine awp_cond (by simp (disch := omega) only [go_sem, wrap_i64, ↓reduceIte, Nat.reduceEqDiff, Nat.reduceAdd, Nat.reduceSub, Nat.reduceMul, Nat.reduceLeDiff, reduceCtorEq, Int.reduceToNat, Int.reduceLE, Int.reduceLT]; rfl) (fun hc4 => ?_) (fun hc4 => ?_)
      · (try simp only [decide_eq_true_eq, decide_eq_false_iff_not, Bool.not_eq_true', Bool.not_eq_false', Bool.and_eq_true, Bool.or_eq_true, Bool.and_eq_false_iff, Bool.or_eq_false_iff, Bool.not_eq_eq_eq_not, Bool.not_true, Bool.not_false, Int.not_le, Int.not_lt, beq_iff_eq] at hc4)
        refine awp_seq ?_
        refine awp_region (by kernel_rfl) ?_
        (refine aL_S rfl rfl (by simp (disch := omega) only [go_sem, wrap_i64, ↓reduceIte, Nat.reduceEqDiff, Nat.reduceAdd, Nat.reduceSub, Nat.reduceMul, Nat.reduceLeDiff, reduceCtorEq, Int.reduceToNat, Int.reduceLE, Int.reduceLT, hT, hm, hex, alookup, amapOf, plainKey, lookupRes, afind_M, hf, Store.set_ne, hTx, ne_eq, not_false_eq_true, hc]; rfl) ?_)
        (refine aL_S rfl rfl (by simp (disch := omega) only [go_sem, wrap_i64, ↓reduceIte, Nat.reduceEqDiff, Nat.reduceAdd, Nat.reduceSub, Nat.reduceMul, Nat.reduceLeDiff, reduceCtorEq, Int.reduceToNat, Int.reduceLE, Int.reduceLT, hT, hm, hex, alookup, amapOf, plainKey, lookupRes, afind_M, hf, Store.set_ne, hTx, ne_eq, not_false_eq_true, hc]; rfl) ?_)
        (refine aL_S rfl rfl (by simp (disch := omega) only [go_sem, wrap_i64, ↓reduceIte, Nat.reduceEqDiff, Nat.reduceAdd, Nat.reduceSub, Nat.reduceMul, Nat.reduceLeDiff, reduceCtorEq, Int.reduceToNat, Int.reduceLE, Int.reduceLT, hT, hm, hex, alookup, amapOf, plainKey, lookupRes, afind_M, hf, Store.set_ne, hTx, ne_eq, not_false_eq_true, hc]; rfl) ?_)
        (refine aL_S rfl rfl (by simp (disch := omega) only [go_sem, wrap_i64, ↓reduceIte, Nat.reduceEqDiff, Nat.reduceAdd, Nat.reduceSub, Nat.reduceMul, Nat.reduceLeDiff, reduceCtorEq, Int.reduceToNat, Int.reduceLE, Int.reduceLT, hT, hm, hex, alookup, amapOf, plainKey, lookupRes, afind_M, hf, Store.set_ne, hTx, ne_eq, not_false_eq_true, hc]; rfl) ?_)
        refine aL_store rfl rfl rfl (by simp (disch := omega) only [go_sem, wrap_i64, ↓reduceIte, Nat.reduceEqDiff, Nat.reduceAdd, Nat.reduceSub, Nat.reduceMul, Nat.reduceLeDiff, reduceCtorEq, Int.reduceToNat, Int.reduceLE, Int.reduceLT, hT, hm, hex, alookup, amapOf, plainKey, lookupRes, afind_M, hf, Store.set_ne, hTx, ne_eq, not_false_eq_true, hc]; rfl) (by simp (disch := omega) only [go_sem, wrap_i64, ↓reduceIte, Nat.reduceEqDiff, Nat.reduceAdd, Nat.reduceSub, Nat.reduceMul, Nat.reduceLeDiff, reduceCtorEq, Int.reduceToNat, Int.reduceLE, Int.reduceLT, hT, hm, hex, alookup, amapOf, plainKey, lookupRes, afind_M, hf, Store.set_ne, hTx, ne_eq, not_false_eq_true, hc]; rfl) (by first | (simp (disch := omega) only [go_sem, ↓reduceIte, Nat.reduceEqDiff, Nat.reduceAdd, Nat.reduceSub, Nat.reduceMul, Nat.reduceLeDiff, reduceCtorEq, Int.reduceToNat, Int.reduceLE, Int.reduceLT, hT, hm, hex, alookup, amapOf, plainKey, lookupRes, afind_M, hf, Store.set_ne, hTx, ne_eq, not_false_eq_true, hc]; rfl) | simp (disch := omega) only [go_sem, ↓reduceIte, Nat.reduceEqDiff, Nat.reduceAdd, Nat.reduceSub, Nat.reduceMul, Nat.reduceLeDiff, reduceCtorEq, Int.reduceToNat, Int.reduceLE, Int.reduceLT, hT, hm, hex, alookup, amapOf, plainKey, lookupRes, afind_M, hf, Store.set_ne, hTx, ne_eq, not_false_eq_true, hc]) (by simp only [go_sem]; rfl) rfl (by simp only [go_sem]; rfl) (by simp [AVal.one]) (by rfl) (by first | (simp; done) | (simp; omega) | omega) (by simp (disch := omega) only [go_sem, wrap_i64, ↓reduceIte, Nat.reduceEqDiff, Nat.reduceAdd, Nat.reduceSub, Nat.reduceMul, Nat.reduceLeDiff, reduceCtorEq, Int.reduceToNat, Int.reduceLE, Int.reduceLT, hT, hm, hex, alookup, amapOf, plainKey, lookupRes, afind_M, hf, Store.set_ne, hTx, ne_eq, not_false_eq_true, hc]; rfl) ?_
        refine aL_nil ?_
        refine awp_seq ?_
        refine awp_draw (.op 0 0 (.op 1 0 (.op 2 0 (.op 3 0 (.op 4 0 (.op 5 0 (.op 6 0 (.op 7 0 (.op 8 2 .nil))))))))) Try.mixed (by kernel_rfl) ?_
        (refine dR_S (by simp only [List.getElem?_toArray, List.getElem?_cons_zero, List.getElem?_cons_succ]; rfl) (by rfl) (by rfl) (by simp (disch := omega) only [go_sem, wrap_i64, ↓reduceIte, Nat.reduceEqDiff, Nat.reduceAdd, Nat.reduceSub, Nat.reduceMul, Nat.reduceLeDiff, reduceCtorEq, Int.reduceToNat, Int.reduceLE, Int.reduceLT, hT, hm, hex, alookup, amapOf, plainKey, lookupRes, afind_M, hf, Store.set_ne, hTx, ne_eq, not_false_eq_true, hc]; rfl) ?_)
        (refine dR_S (by simp only [List.getElem?_toArray, List.getElem?_cons_zero, List.getElem?_cons_succ]; rfl) (by rfl) (by rfl) (by simp (disch := omega) only [go_sem, wrap_i64, ↓reduceIte, Nat.reduceEqDiff, Nat.reduceAdd, Nat.reduceSub, Nat.reduceMul, Nat.reduceLeDiff, reduceCtorEq, Int.reduceToNat, Int.reduceLE, Int.reduceLT, hT, hm, hex, alookup, amapOf, plainKey, lookupRes, afind_M, hf, Store.set_ne, hTx, ne_eq, not_false_eq_true, hc]; rfl) ?_)
        (refine dR_S (by simp only [List.getElem?_toArray, List.getElem?_cons_zero, List.getElem?_cons_succ]; rfl) (by rfl) (by rfl) (by simp (disch := omega) only [go_sem, wrap_i64, ↓reduceIte, Nat.reduceEqDiff, Nat.reduceAdd, Nat.reduceSub, Nat.reduceMul, Nat.reduceLeDiff, reduceCtorEq, Int.reduceToNat, Int.reduceLE, Int.reduceLT, hT, hm, hex, alookup, amapOf, plainKey, lookupRes, afind_M, hf, Store.set_ne, hTx, ne_eq, not_false_eq_true, hc]; rfl) ?_)
        (refine dR_S (by simp only [List.getElem?_toArray, List.getElem?_cons_zero, List.getElem?_cons_succ]; rfl) (by rfl) (by rfl) (by simp (disch := omega) only [go_sem, wrap_i64, ↓reduceIte, Nat.reduceEqDiff, Nat.reduceAdd, Nat.reduceSub, Nat.reduceMul, Nat.reduceLeDiff, reduceCtorEq, Int.reduceToNat, Int.reduceLE, Int.reduceLT, hT, hm, hex, alookup, amapOf, plainKey, lookupRes, afind_M, hf, Store.set_ne, hTx, ne_eq, not_false_eq_true, hc]; rfl) ?_)
        (refine dR_S (by simp only [List.getElem?_toArray, List.getElem?_cons_zero, List.getElem?_cons_succ]; rfl) (by rfl) (by rfl) (by simp (disch := omega) only [go_sem, wrap_i64, ↓reduceIte, Nat.reduceEqDiff, Nat.reduceAdd, Nat.reduceSub, Nat.reduceMul, Nat.reduceLeDiff, reduceCtorEq, Int.reduceToNat, Int.reduceLE, Int.reduceLT, hT, hm, hex, alookup, amapOf, plainKey, lookupRes, afind_M, hf, Store.set_ne, hTx, ne_eq, not_false_eq_true, hc]; rfl) ?_)
        (refine dR_S (by simp only [List.getElem?_toArray, List.getElem?_cons_zero, List.getElem?_cons_succ]; rfl) (by rfl) (by rfl) (by simp (disch := omega) only [go_sem, wrap_i64, ↓reduceIte, Nat.reduceEqDiff, Nat.reduceAdd, Nat.reduceSub, Nat.reduceMul, Nat.reduceLeDiff, reduceCtorEq, Int.reduceToNat, Int.reduceLE, Int.reduceLT, hT, hm, hex, alookup, amapOf, plainKey, lookupRes, afind_M, hf, Store.set_ne, hTx, ne_eq, not_false_eq_true, hc]; rfl) ?_)
        (refine dR_S (by simp only [List.getElem?_toArray, List.getElem?_cons_zero, List.getElem?_cons_succ]; rfl) (by rfl) (by rfl) (by simp (disch := omega) only [go_sem, wrap_i64, ↓reduceIte, Nat.reduceEqDiff, Nat.reduceAdd, Nat.reduceSub, Nat.reduceMul, Nat.reduceLeDiff, reduceCtorEq, Int.reduceToNat, Int.reduceLE, Int.reduceLT, hT, hm, hex, alookup, amapOf, plainKey, lookupRes, afind_M, hf, Store.set_ne, hTx, ne_eq, not_false_eq_true, hc]; rfl) ?_)
        (refine dR_S (by simp only [List.getElem?_toArray, List.getElem?_cons_zero, List.getElem?_cons_succ]; rfl) (by rfl) (by rfl) (by simp (disch := omega) only [go_sem, wrap_i64, ↓reduceIte, Nat.reduceEqDiff, Nat.reduceAdd, Nat.reduceSub, Nat.reduceMul, Nat.reduceLeDiff, reduceCtorEq, Int.reduceToNat, Int.reduceLE, Int.reduceLT, hT, hm, hex, alookup, amapOf, plainKey, lookupRes, afind_M, hf, Store.set_ne, hTx, ne_eq, not_false_eq_true, hc]; rfl) ?_)
        refine dR_T (by simp only [List.getElem?_toArray, List.getElem?_cons_zero, List.getElem?_cons_succ]; rfl) (by rfl) (by rfl) (AOp_use (by rfl) (by rfl) (.inr ⟨by rfl, by rfl, by rfl⟩) (by simp only [go_sem]) (by first | (simp (disch := omega) only [go_sem, wrap_i64, ↓reduceIte, Nat.reduceEqDiff, Nat.reduceAdd, Nat.reduceSub, Nat.reduceMul, Nat.reduceLeDiff, reduceCtorEq, Int.reduceToNat, Int.reduceLE, Int.reduceLT, hT, hm, hex, alookup, amapOf, plainKey, lookupRes, afind_M, hf, Store.set_ne, hTx, ne_eq, not_false_eq_true, hc]; rfl) | (simp (disch := omega) only [go_sem, wrap_i64, ↓reduceIte, Nat.reduceEqDiff, Nat.reduceAdd, Nat.reduceSub, Nat.reduceMul, Nat.reduceLeDiff, reduceCtorEq, Int.reduceToNat, Int.reduceLE, Int.reduceLT, hT, hm, hex, alookup, amapOf, plainKey, lookupRes, afind_M, hf, Store.set_ne, hTx, ne_eq, not_false_eq_true, hc])) (qFix_c hset hH hp) ?_); rintro _ τ ⟨rfl, L', S', q1, q2, q3, q4⟩
        refine dR_nil ?_
        refine awp_ret ?_
        refine aEnd_ret (σ' := τ) (by simp (disch := omega) only [go_sem, wrap_i64, ↓reduceIte, Nat.reduceEqDiff, Nat.reduceAdd, Nat.reduceSub, Nat.reduceMul, Nat.reduceLeDiff, reduceCtorEq, Int.reduceToNat, Int.reduceLE, Int.reduceLT]; rfl) (by first | exact Store.Wk.refl _ | exact Store.Sub.refl _ | ((try dsimp only); (try simp (disch := assumption) only [Store.newTok_set, Store.newTok_step]); (first | refine subx_start ?_ | refine subx_startS ?_); (repeat (first | refine subx_skip (.head _) ?_ | refine subx_skip (.tail _ (.head _)) ?_ | refine subx_skip (.tail _ (.tail _ (.head _))) ?_ | refine subx_skip (.tail _ (.tail _ (.tail _ (.head _)))) ?_ | refine subx_left (by first | (simp (disch := omega) only [go_sem, ↓reduceIte, Nat.reduceEqDiff, Nat.reduceAdd, Nat.reduceSub, Nat.reduceMul, Nat.reduceLeDiff, reduceCtorEq, Int.reduceToNat, Int.reduceLE, Int.reduceLT]; rfl) | simp (disch := omega) only [go_sem, ↓reduceIte, Nat.reduceEqDiff, Nat.reduceAdd, Nat.reduceSub, Nat.reduceMul, Nat.reduceLeDiff, reduceCtorEq, Int.reduceToNat, Int.reduceLE, Int.reduceLT]) ?_)); (repeat (first | exact subx_refl | refine subx_in (.head _) ?_ | refine subx_in (.tail _ (.head _)) ?_ | refine subx_in (.tail _ (.tail _ (.head _))) ?_ | refine subx_in (.tail _ (.tail _ (.tail _ (.head _)))) ?_ | refine subx_new (by first | assumption | (simp only [Store.newTok_heap]; assumption)) ?_ | refine subx_tok ?_ | refine subx_newTok (by assumption) ?_)))) ?_
        exact ⟨rfl, L', S', q1, hfr.trans q2, q3, q4⟩
      · (try simp only [decide_eq_true_eq, decide_eq_false_iff_not, Bool.not_eq_true', Bool.not_eq_false', Bool.and_eq_true, Bool.or_eq_true, Bool.and_eq_false_iff, Bool.or_eq_false_iff, Bool.not_eq_eq_eq_not, Bool.not_true, Bool.not_false, Int.not_le, Int.not_lt, beq_iff_eq] at hc4)
        cases hc4

/-- a call that is not there, put into the map and into the queue -/
theorem tSet_new {σ : Store} {T om : Nat} {L : List Ent} {S : List Nat} {M : List (Int × Nat)} {c a : Int} (h : QAt σ T (.map om) L S) (hH : HeapL L) (hm : σ.heap om = some (.map (kvM M))) (hom : om ∉ S) (hf : ∀ p ∈ M, p.1 ≠ c) (hl : L.length < 1000) :
    ACalls Try.prog 39 [.ref T 0, vInt c, vInt a] σ fun v σ' => v = .tup [] ∧ ∃ e L' S', QAt σ' T (.map om) L' S' ∧ Fr σ (om :: S) σ' (om :: S') ∧ HeapL L' ∧ L'.Perm (L ++ [(e, c, a)]) ∧ om ∉ S' ∧ σ'.heap om = some (.map (kvM (M ++ [(c, e)]))) := by
  obtain ⟨qv, hT, hq⟩ := h.t
  have hTm : T ≠ om := fun hh => hom (by rw [← hh]; exact h.ts)
  have hfn := find_none hf
  refine ACalls_of Try.func39 rfl Try.ntmps39 (congrArg Array.toList Try.results39) (by simp only [List.length_cons, List.length_nil]; decide) ?_; simp only [envOf_cons, envOf_nil, Nat.reduceAdd]
  refine awp_seq ?_
  refine awp_seq ?_
  refine awp_region (by kernel_rfl) ?_
  (refine aL_S rfl rfl (by simp (disch := omega) only [go_sem, wrap_i64, ↓reduceIte, Nat.reduceEqDiff, Nat.reduceAdd, Nat.reduceSub, Nat.reduceMul, Nat.reduceLeDiff, reduceCtorEq, Int.reduceToNat, Int.reduceLE, Int.reduceLT, hT, hm, alookup, amapOf, plainKey, lookupRes, afind_M, hfn, Store.set_ne, hTm, ne_eq, not_false_eq_true]; rfl) ?_)
  (refine aL_S rfl rfl (by simp (disch := omega) only [go_sem, wrap_i64, ↓reduceIte, Nat.reduceEqDiff, Nat.reduceAdd, Nat.reduceSub, Nat.reduceMul, Nat.reduceLeDiff, reduceCtorEq, Int.reduceToNat, Int.reduceLE, Int.reduceLT, hT, hm, alookup, amapOf, plainKey, lookupRes, afind_M, hfn, Store.set_ne, hTm, ne_eq, not_false_eq_true]; rfl) ?_)
  refine aL_nil ?_
  refine awp_cond (by simp (disch := omega) only [go_sem, wrap_i64, ↓reduceIte, Nat.reduceEqDiff, Nat.reduceAdd, Nat.reduceSub, Nat.reduceMul, Nat.reduceLeDiff, reduceCtorEq, Int.reduceToNat, Int.reduceLE, Int.reduceLT]; rfl) (fun hc0 => ?_) (fun hc0 => ?_)
  · (try simp only [decide_eq_true_eq, decide_eq_false_iff_not, Bool.not_eq_true', Bool.not_eq_false', Bool.and_eq_true, Bool.or_eq_true, Bool.and_eq_false_iff, Bool.or_eq_false_iff, Bool.not_eq_eq_eq_not, Bool.not_true, Bool.not_false, Int.not_le, Int.not_lt, beq_iff_eq] at hc0)
    cases hc0
  · (try simp only [decide_eq_true_eq, decide_eq_false_iff_not, Bool.not_eq_true', Bool.not_eq_false', Bool.and_eq_true, Bool.or_eq_true, Bool.and_eq_false_iff, Bool.or_eq_false_iff, Bool.not_eq_eq_eq_not, Bool.not_true, Bool.not_false, Int.not_le, Int.not_lt, beq_iff_eq] at hc0)
    refine awp_skip ?_
    refine awp_seq ?_
    refine awp_seq ?_
    refine awp_region (by kernel_rfl) ?_
    (refine aL_S rfl rfl (by simp (disch := omega) only [go_sem, wrap_i64, ↓reduceIte, Nat.reduceEqDiff, Nat.reduceAdd, Nat.reduceSub, Nat.reduceMul, Nat.reduceLeDiff, reduceCtorEq, Int.reduceToNat, Int.reduceLE, Int.reduceLT, hT, hm, alookup, amapOf, plainKey, lookupRes, afind_M, hfn, Store.set_ne, hTm, ne_eq, not_false_eq_true]; rfl) ?_)
    (refine aL_S rfl rfl (by simp (disch := omega) only [go_sem, wrap_i64, ↓reduceIte, Nat.reduceEqDiff, Nat.reduceAdd, Nat.reduceSub, Nat.reduceMul, Nat.reduceLeDiff, reduceCtorEq, Int.reduceToNat, Int.reduceLE, Int.reduceLT, hT, hm, alookup, amapOf, plainKey, lookupRes, afind_M, hfn, Store.set_ne, hTm, ne_eq, not_false_eq_true]; rfl) ?_)
    (refine aL_S rfl rfl (by simp (disch := omega) only [go_sem, wrap_i64, ↓reduceIte, Nat.reduceEqDiff, Nat.reduceAdd, Nat.reduceSub, Nat.reduceMul, Nat.reduceLeDiff, reduceCtorEq, Int.reduceToNat, Int.reduceLE, Int.reduceLT, hT, hm, alookup, amapOf, plainKey, lookupRes, afind_M, hfn, Store.set_ne, hTm, ne_eq, not_false_eq_true]; rfl) ?_)
    (refine aL_S rfl rfl (by simp (disch := omega) only [go_sem, wrap_i64, ↓reduceIte, Nat.reduceEqDiff, Nat.reduceAdd, Nat.reduceSub, Nat.reduceMul, Nat.reduceLeDiff, reduceCtorEq, Int.reduceToNat, Int.reduceLE, Int.reduceLT, hT, hm, alookup, amapOf, plainKey, lookupRes, afind_M, hfn, Store.set_ne, hTm, ne_eq, not_false_eq_true]; rfl) ?_)
    (refine aL_S rfl rfl (by simp (disch := omega) only [go_sem, wrap_i64, ↓reduceIte, Nat.reduceEqDiff, Nat.reduceAdd, Nat.reduceSub, Nat.reduceMul, Nat.reduceLeDiff, reduceCtorEq, Int.reduceToNat, Int.reduceLE, Int.reduceLT, hT, hm, alookup, amapOf, plainKey, lookupRes, afind_M, hfn, Store.set_ne, hTm, ne_eq, not_false_eq_true]; rfl) ?_)
    refine aL_nil ?_
    refine awp_cond (by simp (disch := omega) only [go_sem, wrap_i64, ↓reduceIte, Nat.reduceEqDiff, Nat.reduceAdd, Nat.reduceSub, Nat.reduceMul, Nat.reduceLeDiff, reduceCtorEq, Int.reduceToNat, Int.reduceLE, Int.reduceLT]; rfl) (fun hc1 => ?_) (fun hc1 => ?_)
    · (try simp only [decide_eq_true_eq, decide_eq_false_iff_not, Bool.not_eq_true', Bool.not_eq_false', Bool.and_eq_true, Bool.or_eq_true, Bool.and_eq_false_iff, Bool.or_eq_false_iff, Bool.not_eq_eq_eq_not, Bool.not_true, Bool.not_false, Int.not_le, Int.not_lt, beq_iff_eq] at hc1)
      cases hc1
    · (try simp only [decide_eq_true_eq, decide_eq_false_iff_not, Bool.not_eq_true', Bool.not_eq_false', Bool.and_eq_true, Bool.or_eq_true, Bool.and_eq_false_iff, Bool.or_eq_false_iff, Bool.not_eq_eq_eq_not, Bool.not_true, Bool.not_false, Int.not_le, Int.not_lt, beq_iff_eq] at hc1)
      refine awp_skip ?_
      refine awp_seq ?_
      refine awp_seq ?_
      refine awp_region (by kernel_rfl) ?_
      (refine aL_S rfl rfl (by simp (disch := omega) only [go_sem, wrap_i64, ↓reduceIte, Nat.reduceEqDiff, Nat.reduceAdd, Nat.reduceSub, Nat.reduceMul, Nat.reduceLeDiff, reduceCtorEq, Int.reduceToNat, Int.reduceLE, Int.reduceLT, hT, hm, alookup, amapOf, plainKey, lookupRes, afind_M, hfn, Store.set_ne, hTm, ne_eq, not_false_eq_true]; rfl) ?_)
      (refine aL_S rfl rfl (by simp (disch := omega) only [go_sem, wrap_i64, ↓reduceIte, Nat.reduceEqDiff, Nat.reduceAdd, Nat.reduceSub, Nat.reduceMul, Nat.reduceLeDiff, reduceCtorEq, Int.reduceToNat, Int.reduceLE, Int.reduceLT, hT, hm, alookup, amapOf, plainKey, lookupRes, afind_M, hfn, Store.set_ne, hTm, ne_eq, not_false_eq_true]; rfl) ?_)
      (refine aL_S rfl rfl (by simp (disch := omega) only [go_sem, wrap_i64, ↓reduceIte, Nat.reduceEqDiff, Nat.reduceAdd, Nat.reduceSub, Nat.reduceMul, Nat.reduceLeDiff, reduceCtorEq, Int.reduceToNat, Int.reduceLE, Int.reduceLT, hT, hm, alookup, amapOf, plainKey, lookupRes, afind_M, hfn, Store.set_ne, hTm, ne_eq, not_false_eq_true]; rfl) ?_)
      (refine aL_S rfl rfl (by simp (disch := omega) only [go_sem, wrap_i64, ↓reduceIte, Nat.reduceEqDiff, Nat.reduceAdd, Nat.reduceSub, Nat.reduceMul, Nat.reduceLeDiff, reduceCtorEq, Int.reduceToNat, Int.reduceLE, Int.reduceLT, hT, hm, alookup, amapOf, plainKey, lookupRes, afind_M, hfn, Store.set_ne, hTm, ne_eq, not_false_eq_true]; rfl) ?_)
      (refine aL_S rfl rfl (by simp (disch := omega) only [go_sem, wrap_i64, ↓reduceIte, Nat.reduceEqDiff, Nat.reduceAdd, Nat.reduceSub, Nat.reduceMul, Nat.reduceLeDiff, reduceCtorEq, Int.reduceToNat, Int.reduceLE, Int.reduceLT, hT, hm, alookup, amapOf, plainKey, lookupRes, afind_M, hfn, Store.set_ne, hTm, ne_eq, not_false_eq_true]; rfl) ?_)
      (refine aL_S rfl rfl (by simp (disch := omega) only [go_sem, wrap_i64, ↓reduceIte, Nat.reduceEqDiff, Nat.reduceAdd, Nat.reduceSub, Nat.reduceMul, Nat.reduceLeDiff, reduceCtorEq, Int.reduceToNat, Int.reduceLE, Int.reduceLT, hT, hm, alookup, amapOf, plainKey, lookupRes, afind_M, hfn, Store.set_ne, hTm, ne_eq, not_false_eq_true]; rfl) ?_)
      (refine aL_S rfl rfl (by simp (disch := omega) only [go_sem, wrap_i64, ↓reduceIte, Nat.reduceEqDiff, Nat.reduceAdd, Nat.reduceSub, Nat.reduceMul, Nat.reduceLeDiff, reduceCtorEq, Int.reduceToNat, Int.reduceLE, Int.reduceLT, hT, hm, alookup, amapOf, plainKey, lookupRes, afind_M, hfn, Store.set_ne, hTm, ne_eq, not_false_eq_true]; rfl) ?_)
      refine aL_nil ?_
      refine awp_seq ?_
      refine awp_region (by kernel_rfl) ?_
      (refine aL_S rfl rfl (by simp (disch := omega) only [go_sem, wrap_i64, ↓reduceIte, Nat.reduceEqDiff, Nat.reduceAdd, Nat.reduceSub, Nat.reduceMul, Nat.reduceLeDiff, reduceCtorEq, Int.reduceToNat, Int.reduceLE, Int.reduceLT, hT, hm, alookup, amapOf, plainKey, lookupRes, afind_M, hfn, Store.set_ne, hTm, ne_eq, not_false_eq_true]; rfl) ?_)
      (refine aL_S rfl rfl (by simp (disch := omega) only [go_sem, wrap_i64, ↓reduceIte, Nat.reduceEqDiff, Nat.reduceAdd, Nat.reduceSub, Nat.reduceMul, Nat.reduceLeDiff, reduceCtorEq, Int.reduceToNat, Int.reduceLE, Int.reduceLT, hT, hm, alookup, amapOf, plainKey, lookupRes, afind_M, hfn, Store.set_ne, hTm, ne_eq, not_false_eq_true]; rfl) ?_)
      refine aL_nil ?_
      refine awp_cond (by simp (disch := omega) only [go_sem, wrap_i64, ↓reduceIte, Nat.reduceEqDiff, Nat.reduceAdd, Nat.reduceSub, Nat.reduceMul, Nat.reduceLeDiff, reduceCtorEq, Int.reduceToNat, Int.reduceLE, Int.reduceLT]; rfl) (fun hc4 => ?_) (fun hc4 => ?_)
      · (try simp only [decide_eq_true_eq, decide_eq_false_iff_not, Bool.not_eq_true', Bool.not_eq_false', Bool.and_eq_true, Bool.or_eq_true, Bool.and_eq_false_iff, Bool.or_eq_false_iff, Bool.not_eq_eq_eq_not, Bool.not_true, Bool.not_false, Int.not_le, Int.not_lt, beq_iff_eq] at hc4)
        cases hc4
      · (try simp only [decide_eq_true_eq, decide_eq_false_iff_not, Bool.not_eq_true', Bool.not_eq_false', Bool.and_eq_true, Bool.or_eq_true, Bool.and_eq_false_iff, Bool.or_eq_false_iff, Bool.not_eq_eq_eq_not, Bool.not_true, Bool.not_false, Int.not_le, Int.not_lt, beq_iff_eq] at hc4)
        refine awp_skip ?_
        refine awp_seq ?_
        refine awp_region (by kernel_rfl) ?_
        (refine aL_S rfl rfl (by simp (disch := omega) only [go_sem, wrap_i64, ↓reduceIte, Nat.reduceEqDiff, Nat.reduceAdd, Nat.reduceSub, Nat.reduceMul, Nat.reduceLeDiff, reduceCtorEq, Int.reduceToNat, Int.reduceLE, Int.reduceLT, hT, hm, alookup, amapOf, plainKey, lookupRes, afind_M, hfn, Store.set_ne, hTm, ne_eq, not_false_eq_true]; rfl) ?_)
        (refine aL_S rfl rfl (by simp (disch := omega) only [go_sem, wrap_i64, ↓reduceIte, Nat.reduceEqDiff, Nat.reduceAdd, Nat.reduceSub, Nat.reduceMul, Nat.reduceLeDiff, reduceCtorEq, Int.reduceToNat, Int.reduceLE, Int.reduceLT, hT, hm, alookup, amapOf, plainKey, lookupRes, afind_M, hfn, Store.set_ne, hTm, ne_eq, not_false_eq_true]; rfl) ?_)
        (refine aL_S rfl rfl (by simp (disch := omega) only [go_sem, wrap_i64, ↓reduceIte, Nat.reduceEqDiff, Nat.reduceAdd, Nat.reduceSub, Nat.reduceMul, Nat.reduceLeDiff, reduceCtorEq, Int.reduceToNat, Int.reduceLE, Int.reduceLT, hT, hm, alookup, amapOf, plainKey, lookupRes, afind_M, hfn, Store.set_ne, hTm, ne_eq, not_false_eq_true]; rfl) ?_)
        refine aL_box rfl rfl rfl (by simp (disch := omega) only [go_sem, wrap_i64, ↓reduceIte, Nat.reduceEqDiff, Nat.reduceAdd, Nat.reduceSub, Nat.reduceMul, Nat.reduceLeDiff, reduceCtorEq, Int.reduceToNat, Int.reduceLE, Int.reduceLT, hT, hm, alookup, amapOf, plainKey, lookupRes, afind_M, hfn, Store.set_ne, hTm, ne_eq, not_false_eq_true]; rfl) rfl (by simp only [go_sem]; rfl) fun o43 ho43 => ?_
        repeat (rw [none_set_iff] at ho43; obtain ⟨_, ho43⟩ := ho43)
        have hTo := ne_of_heap hT ho43
        have hmo := ne_of_heap hm ho43
        (refine aL_S rfl rfl (by simp (disch := omega) only [go_sem, wrap_i64, ↓reduceIte, Nat.reduceEqDiff, Nat.reduceAdd, Nat.reduceSub, Nat.reduceMul, Nat.reduceLeDiff, reduceCtorEq, Int.reduceToNat, Int.reduceLE, Int.reduceLT, hT, hm, alookup, amapOf, plainKey, lookupRes, afind_M, hfn, Store.set_ne, hTm, ne_eq, not_false_eq_true]; rfl) ?_)
        refine aL_nil ?_
        refine awp_seq ?_
        refine awp_region (by kernel_rfl) ?_
        (refine aL_S rfl rfl (by simp (disch := omega) only [go_sem, wrap_i64, ↓reduceIte, Nat.reduceEqDiff, Nat.reduceAdd, Nat.reduceSub, Nat.reduceMul, Nat.reduceLeDiff, reduceCtorEq, Int.reduceToNat, Int.reduceLE, Int.reduceLT, hT, hm, Store.set_ne, hTm, hTo, hmo, Ne.symm hmo, ne_eq, not_false_eq_true]; rfl) ?_)
        (refine aL_S rfl rfl (by simp (disch := omega) only [go_sem, wrap_i64, ↓reduceIte, Nat.reduceEqDiff, Nat.reduceAdd, Nat.reduceSub, Nat.reduceMul, Nat.reduceLeDiff, reduceCtorEq, Int.reduceToNat, Int.reduceLE, Int.reduceLT, hT, hm, Store.set_ne, hTm, hTo, hmo, Ne.symm hmo, ne_eq, not_false_eq_true]; rfl) ?_)
        (refine aL_S rfl rfl (by simp (disch := omega) only [go_sem, wrap_i64, ↓reduceIte, Nat.reduceEqDiff, Nat.reduceAdd, Nat.reduceSub, Nat.reduceMul, Nat.reduceLeDiff, reduceCtorEq, Int.reduceToNat, Int.reduceLE, Int.reduceLT, hT, hm, Store.set_ne, hTm, hTo, hmo, Ne.symm hmo, ne_eq, not_false_eq_true]; rfl) ?_)
        (refine aL_S rfl rfl (by simp (disch := omega) only [go_sem, wrap_i64, ↓reduceIte, Nat.reduceEqDiff, Nat.reduceAdd, Nat.reduceSub, Nat.reduceMul, Nat.reduceLeDiff, reduceCtorEq, Int.reduceToNat, Int.reduceLE, Int.reduceLT, hT, hm, Store.set_ne, hTm, hTo, hmo, Ne.symm hmo, ne_eq, not_false_eq_true]; rfl) ?_)
        (refine aL_S rfl rfl (by simp (disch := omega) only [go_sem, wrap_i64, ↓reduceIte, Nat.reduceEqDiff, Nat.reduceAdd, Nat.reduceSub, Nat.reduceMul, Nat.reduceLeDiff, reduceCtorEq, Int.reduceToNat, Int.reduceLE, Int.reduceLT, hT, hm, Store.set_ne, hTm, hTo, hmo, Ne.symm hmo, ne_eq, not_false_eq_true]; rfl) ?_)
        (refine aL_S rfl rfl (by simp (disch := omega) only [go_sem, wrap_i64, ↓reduceIte, Nat.reduceEqDiff, Nat.reduceAdd, Nat.reduceSub, Nat.reduceMul, Nat.reduceLeDiff, reduceCtorEq, Int.reduceToNat, Int.reduceLE, Int.reduceLT, hT, hm, Store.set_ne, hTm, hTo, hmo, Ne.symm hmo, ne_eq, not_false_eq_true]; rfl) ?_)
        refine aL_X0 rfl rfl (AOp_mapUpdate rfl (by first | (simp only [go_sem]; rfl) | simp only [go_sem]) (by first | (simp only [go_sem]; rfl) | simp only [go_sem]) (by simp (disch := omega) only [go_sem, wrap_i64, ↓reduceIte, Nat.reduceEqDiff, Nat.reduceAdd, Nat.reduceSub, Nat.reduceMul, Nat.reduceLeDiff, reduceCtorEq, Int.reduceToNat, Int.reduceLE, Int.reduceLT, hT, hm, Store.set_ne, hTm, hTo, hmo, Ne.symm hmo, ne_eq, not_false_eq_true]; rfl) (by first | (simp (disch := omega) only [go_sem, ↓reduceIte, Nat.reduceEqDiff, Nat.reduceAdd, Nat.reduceSub, Nat.reduceMul, Nat.reduceLeDiff, reduceCtorEq, Int.reduceToNat, Int.reduceLE, Int.reduceLT, hT, hm, Store.set_ne, hTm, hTo, hmo, Ne.symm hmo, ne_eq, not_false_eq_true]; rfl) | simp (disch := omega) only [go_sem, ↓reduceIte, Nat.reduceEqDiff, Nat.reduceAdd, Nat.reduceSub, Nat.reduceMul, Nat.reduceLeDiff, reduceCtorEq, Int.reduceToNat, Int.reduceLE, Int.reduceLT, hT, hm, Store.set_ne, hTm, hTo, hmo, Ne.symm hmo, ne_eq, not_false_eq_true]) (by simp (disch := omega) only [go_sem, wrap_i64, ↓reduceIte, Nat.reduceEqDiff, Nat.reduceAdd, Nat.reduceSub, Nat.reduceMul, Nat.reduceLeDiff, reduceCtorEq, Int.reduceToNat, Int.reduceLE, Int.reduceLT, hT, hm, Store.set_ne, hTm, hTo, hmo, Ne.symm hmo, ne_eq, not_false_eq_true]; rfl) (by first | rfl | trivial | simp [Go.MapKept.IsKey]) (by exact kvM_keys M) (by simp (disch := omega) only [go_sem, wrap_i64, ↓reduceIte, Nat.reduceEqDiff, Nat.reduceAdd, Nat.reduceSub, Nat.reduceMul, Nat.reduceLeDiff, reduceCtorEq, Int.reduceToNat, Int.reduceLE, Int.reduceLT, hT, hm, Store.set_ne, hTm, hTo, hmo, Ne.symm hmo, ne_eq, not_false_eq_true]; rfl) ?_)
        refine aL_nil ?_
        rw [kvPut_M hf]
        have hQ : QAt ((σ.set o43 (.cells [vInt c, vInt a, vInt 0])).set om (.map (kvM (M ++ [(c, o43)])))) T (.map om) L S := by
          obtain ⟨⟨qv', h1, h2⟩, h3, h4, h5, h6⟩ := h
          have e1 : ∀ i x, σ.heap i = some x → i ∈ S → ((σ.set o43 (.cells [vInt c, vInt a, vInt 0])).set om (.map (kvM (M ++ [(c, o43)])))).heap i = some x := fun i x hx hi => by
            rw [Store.set_ne _ _ (fun hh => hom (by rw [← hh]; exact hi)), Store.set_ne _ _ (ne_of_heap hx ho43)]; exact hx
          exact ⟨⟨qv', e1 _ _ h1 h5, h2.imp id fun ⟨oq, r1, r2, r3⟩ => ⟨oq, r1, r2, e1 _ _ r3 r1⟩⟩, fun k x hx => ⟨(h3 k x hx).1, e1 _ _ (h3 k x hx).2 (h3 k x hx).1⟩, h4, h5, h6⟩
        have hE : ((σ.set o43 (.cells [vInt c, vInt a, vInt 0])).set om (.map (kvM (M ++ [(c, o43)])))).heap o43 = some (.cells [vInt c, vInt a, vInt 0]) := by
          rw [Store.set_ne _ _ (Ne.symm hmo), Store.set_get]
        have hLe : ∀ y ∈ L, y.1 ≠ o43 := fun y hy => by
          obtain ⟨k, hk⟩ := mem_get hy
          exact ne_of_heap (h.e k y hk).2 ho43
        refine awp_region (by kernel_rfl) ?_
        (refine aL_S rfl rfl (by simp (disch := omega) only [go_sem, wrap_i64, ↓reduceIte, Nat.reduceEqDiff, Nat.reduceAdd, Nat.reduceSub, Nat.reduceMul, Nat.reduceLeDiff, reduceCtorEq, Int.reduceToNat, Int.reduceLE, Int.reduceLT, hT, hTm, hTo, Store.set_ne, ne_eq, not_false_eq_true]; rfl) ?_)
        (refine aL_S rfl rfl (by simp (disch := omega) only [go_sem, wrap_i64, ↓reduceIte, Nat.reduceEqDiff, Nat.reduceAdd, Nat.reduceSub, Nat.reduceMul, Nat.reduceLeDiff, reduceCtorEq, Int.reduceToNat, Int.reduceLE, Int.reduceLT, hT, hTm, hTo, Store.set_ne, ne_eq, not_false_eq_true]; rfl) ?_)
        (refine aL_S rfl rfl (by simp (disch := omega) only [go_sem, wrap_i64, ↓reduceIte, Nat.reduceEqDiff, Nat.reduceAdd, Nat.reduceSub, Nat.reduceMul, Nat.reduceLeDiff, reduceCtorEq, Int.reduceToNat, Int.reduceLE, Int.reduceLT, hT, hTm, hTo, Store.set_ne, ne_eq, not_false_eq_true]; rfl) ?_)
        (refine aL_S rfl rfl (by simp (disch := omega) only [go_sem, wrap_i64, ↓reduceIte, Nat.reduceEqDiff, Nat.reduceAdd, Nat.reduceSub, Nat.reduceMul, Nat.reduceLeDiff, reduceCtorEq, Int.reduceToNat, Int.reduceLE, Int.reduceLT, hT, hTm, hTo, Store.set_ne, ne_eq, not_false_eq_true]; rfl) ?_)
        (refine aL_S rfl rfl (by simp (disch := omega) only [go_sem, wrap_i64, ↓reduceIte, Nat.reduceEqDiff, Nat.reduceAdd, Nat.reduceSub, Nat.reduceMul, Nat.reduceLeDiff, reduceCtorEq, Int.reduceToNat, Int.reduceLE, Int.reduceLT, hT, hTm, hTo, Store.set_ne, ne_eq, not_false_eq_true]; rfl) ?_)
        (refine aL_S rfl rfl (by simp (disch := omega) only [go_sem, wrap_i64, ↓reduceIte, Nat.reduceEqDiff, Nat.reduceAdd, Nat.reduceSub, Nat.reduceMul, Nat.reduceLeDiff, reduceCtorEq, Int.reduceToNat, Int.reduceLE, Int.reduceLT, hT, hTm, hTo, Store.set_ne, ne_eq, not_false_eq_true]; rfl) ?_)
        refine aL_X rfl rfl (AOp_use rfl rfl (.inr ⟨rfl, rfl, rfl⟩) (by simp only [go_sem]) (by first | (simp (disch := omega) only [go_sem, wrap_i64, ↓reduceIte, Nat.reduceEqDiff, Nat.reduceAdd, Nat.reduceSub, Nat.reduceMul, Nat.reduceLeDiff, reduceCtorEq, Int.reduceToNat, Int.reduceLE, Int.reduceLT, hT, hTm, hTo, Store.set_ne, ne_eq, not_false_eq_true]; rfl) | (simp (disch := omega) only [go_sem, wrap_i64, ↓reduceIte, Nat.reduceEqDiff, Nat.reduceAdd, Nat.reduceSub, Nat.reduceMul, Nat.reduceLeDiff, reduceCtorEq, Int.reduceToNat, Int.reduceLE, Int.reduceLT, hT, hTm, hTo, Store.set_ne, ne_eq, not_false_eq_true])) (qPushAll_c hQ hH hE hLe hl) ?_); rintro _ τ ⟨rfl, L', S', q1, q2, q3, q4⟩
        refine aL_nil ?_
        refine aEnd_nor (σ' := τ) (by simp (disch := omega) only [go_sem, wrap_i64, ↓reduceIte, Nat.reduceEqDiff, Nat.reduceAdd, Nat.reduceSub, Nat.reduceMul, Nat.reduceLeDiff, reduceCtorEq, Int.reduceToNat, Int.reduceLE, Int.reduceLT]; rfl) (by first | exact Store.Wk.refl _ | exact Store.Sub.refl _ | ((try dsimp only); (try simp (disch := assumption) only [Store.newTok_set, Store.newTok_step]); (first | refine subx_start ?_ | refine subx_startS ?_); (repeat (first | refine subx_skip (.head _) ?_ | refine subx_skip (.tail _ (.head _)) ?_ | refine subx_skip (.tail _ (.tail _ (.head _))) ?_ | refine subx_skip (.tail _ (.tail _ (.tail _ (.head _)))) ?_ | refine subx_left (by first | (simp (disch := omega) only [go_sem, ↓reduceIte, Nat.reduceEqDiff, Nat.reduceAdd, Nat.reduceSub, Nat.reduceMul, Nat.reduceLeDiff, reduceCtorEq, Int.reduceToNat, Int.reduceLE, Int.reduceLT]; rfl) | simp (disch := omega) only [go_sem, ↓reduceIte, Nat.reduceEqDiff, Nat.reduceAdd, Nat.reduceSub, Nat.reduceMul, Nat.reduceLeDiff, reduceCtorEq, Int.reduceToNat, Int.reduceLE, Int.reduceLT]) ?_)); (repeat (first | exact subx_refl | refine subx_in (.head _) ?_ | refine subx_in (.tail _ (.head _)) ?_ | refine subx_in (.tail _ (.tail _ (.head _))) ?_ | refine subx_in (.tail _ (.tail _ (.tail _ (.head _)))) ?_ | refine subx_new (by first | assumption | (simp only [Store.newTok_heap]; assumption)) ?_ | refine subx_tok ?_ | refine subx_newTok (by assumption) ?_)))) ?_
        have hap := q2.apart (o := om) (Store.set_get ..) (by simp [hmo, hom])
        refine ⟨rfl, o43, L', S', q1, ?_, q3, q4, hap.1, hap.2⟩
        have f1 := ((Fr.refl σ (om :: S)).setNew (o := o43) (x := .cells [vInt c, vInt a, vInt 0]) ho43).set (o := om) (x := .map (kvM (M ++ [(c, o43)]))) (by simp)
        have f2 := f1.less (U := [om] ++ (o43 :: S)) (by intro i hi; simp at hi ⊢; rcases hi with h | h | h <;> simp [h])
        exact f2.trans (q2.more [om])

theorem QAt.trim {σ : Store} {T : Nat} {bv : AVal} {L : List Ent} {S : List Nat} (h : QAt σ T bv L S) : ∃ S1, QAt σ T bv L S1 ∧ (∀ o ∈ S1, o ∈ S) ∧ ∀ o ∈ S1, σ.heap o ≠ none := by
  have key : ∀ o x, σ.heap o = some x → o ∈ S → o ∈ S.filter fun o => (σ.heap o).isSome := fun o x hx ho => List.mem_filter.2 ⟨ho, by rw [hx]; rfl⟩
  obtain ⟨⟨qv, h1, h2⟩, h3, h4, h5, h6⟩ := h
  refine ⟨S.filter fun o => (σ.heap o).isSome, ⟨⟨qv, h1, h2.imp id fun ⟨oq, r1, r2, r3⟩ => ⟨oq, key _ _ r3 r1, r2, r3⟩⟩, fun k x hx => ⟨key _ _ (h3 k x hx).2 (h3 k x hx).1, (h3 k x hx).2⟩, h4, key _ _ h1 h5, h6⟩, fun o ho => (List.mem_filter.1 ho).1, fun o ho => ?_⟩
  intro hh
  have := (List.mem_filter.1 ho).2
  rw [hh] at this
  cases this

/-- the first call of all: the map is made -/
theorem tSet_0 {σ : Store} {T : Nat} {S : List Nat} {c a : Int} (h : QAt σ T (.lit (.map none)) [] S) :
    ACalls Try.prog 39 [.ref T 0, vInt c, vInt a] σ fun v σ' => v = .tup [] ∧ ∃ om e L' S', QAt σ' T (.map om) L' S' ∧ Fr σ S σ' (om :: S') ∧ HeapL L' ∧ L'.Perm ([] ++ [(e, c, a)]) ∧ om ∉ S' ∧ σ'.heap om = some (.map (kvM ([] ++ [(c, e)]))) := by
  obtain ⟨S1, h0, hS1, hlive⟩ := h.trim
  clear h
  obtain ⟨qv, hT, hq⟩ := h0.t
  refine ACalls_of Try.func39 rfl Try.ntmps39 (congrArg Array.toList Try.results39) (by simp only [List.length_cons, List.length_nil]; decide) ?_; simp only [envOf_cons, envOf_nil, Nat.reduceAdd]
  refine awp_seq ?_
  refine awp_seq ?_
  refine awp_region (by kernel_rfl) ?_
  (refine aL_S rfl rfl (by simp (disch := omega) only [go_sem, wrap_i64, ↓reduceIte, Nat.reduceEqDiff, Nat.reduceAdd, Nat.reduceSub, Nat.reduceMul, Nat.reduceLeDiff, reduceCtorEq, Int.reduceToNat, Int.reduceLE, Int.reduceLT, hT, alookup, amapOf, plainKey, lookupRes, afindNow, Store.set_ne, ne_eq, not_false_eq_true]; rfl) ?_)
  (refine aL_S rfl rfl (by simp (disch := omega) only [go_sem, wrap_i64, ↓reduceIte, Nat.reduceEqDiff, Nat.reduceAdd, Nat.reduceSub, Nat.reduceMul, Nat.reduceLeDiff, reduceCtorEq, Int.reduceToNat, Int.reduceLE, Int.reduceLT, hT, alookup, amapOf, plainKey, lookupRes, afindNow, Store.set_ne, ne_eq, not_false_eq_true]; rfl) ?_)
  refine aL_nil ?_
  refine awp_cond (by simp (disch := omega) only [go_sem, wrap_i64, ↓reduceIte, Nat.reduceEqDiff, Nat.reduceAdd, Nat.reduceSub, Nat.reduceMul, Nat.reduceLeDiff, reduceCtorEq, Int.reduceToNat, Int.reduceLE, Int.reduceLT]; rfl) (fun hc0 => ?_) (fun hc0 => ?_)
  · (try simp only [decide_eq_true_eq, decide_eq_false_iff_not, Bool.not_eq_true', Bool.not_eq_false', Bool.and_eq_true, Bool.or_eq_true, Bool.and_eq_false_iff, Bool.or_eq_false_iff, Bool.not_eq_eq_eq_not, Bool.not_true, Bool.not_false, Int.not_le, Int.not_lt, beq_iff_eq] at hc0)
    cases hc0
  · (try simp only [decide_eq_true_eq, decide_eq_false_iff_not, Bool.not_eq_true', Bool.not_eq_false', Bool.and_eq_true, Bool.or_eq_true, Bool.and_eq_false_iff, Bool.or_eq_false_iff, Bool.not_eq_eq_eq_not, Bool.not_true, Bool.not_false, Int.not_le, Int.not_lt, beq_iff_eq] at hc0)
    refine awp_skip ?_
    refine awp_seq ?_
    refine awp_seq ?_
    refine awp_region (by kernel_rfl) ?_
    (refine aL_S rfl rfl (by simp (disch := omega) only [go_sem, wrap_i64, ↓reduceIte, Nat.reduceEqDiff, Nat.reduceAdd, Nat.reduceSub, Nat.reduceMul, Nat.reduceLeDiff, reduceCtorEq, Int.reduceToNat, Int.reduceLE, Int.reduceLT, hT, alookup, amapOf, plainKey, lookupRes, afindNow, Store.set_ne, ne_eq, not_false_eq_true]; rfl) ?_)
    (refine aL_S rfl rfl (by simp (disch := omega) only [go_sem, wrap_i64, ↓reduceIte, Nat.reduceEqDiff, Nat.reduceAdd, Nat.reduceSub, Nat.reduceMul, Nat.reduceLeDiff, reduceCtorEq, Int.reduceToNat, Int.reduceLE, Int.reduceLT, hT, alookup, amapOf, plainKey, lookupRes, afindNow, Store.set_ne, ne_eq, not_false_eq_true]; rfl) ?_)
    (refine aL_S rfl rfl (by simp (disch := omega) only [go_sem, wrap_i64, ↓reduceIte, Nat.reduceEqDiff, Nat.reduceAdd, Nat.reduceSub, Nat.reduceMul, Nat.reduceLeDiff, reduceCtorEq, Int.reduceToNat, Int.reduceLE, Int.reduceLT, hT, alookup, amapOf, plainKey, lookupRes, afindNow, Store.set_ne, ne_eq, not_false_eq_true]; rfl) ?_)
    (refine aL_S rfl rfl (by simp (disch := omega) only [go_sem, wrap_i64, ↓reduceIte, Nat.reduceEqDiff, Nat.reduceAdd, Nat.reduceSub, Nat.reduceMul, Nat.reduceLeDiff, reduceCtorEq, Int.reduceToNat, Int.reduceLE, Int.reduceLT, hT, alookup, amapOf, plainKey, lookupRes, afindNow, Store.set_ne, ne_eq, not_false_eq_true]; rfl) ?_)
    (refine aL_S rfl rfl (by simp (disch := omega) only [go_sem, wrap_i64, ↓reduceIte, Nat.reduceEqDiff, Nat.reduceAdd, Nat.reduceSub, Nat.reduceMul, Nat.reduceLeDiff, reduceCtorEq, Int.reduceToNat, Int.reduceLE, Int.reduceLT, hT, alookup, amapOf, plainKey, lookupRes, afindNow, Store.set_ne, ne_eq, not_false_eq_true]; rfl) ?_)
    refine aL_nil ?_
    refine awp_cond (by simp (disch := omega) only [go_sem, wrap_i64, ↓reduceIte, Nat.reduceEqDiff, Nat.reduceAdd, Nat.reduceSub, Nat.reduceMul, Nat.reduceLeDiff, reduceCtorEq, Int.reduceToNat, Int.reduceLE, Int.reduceLT]; rfl) (fun hc1 => ?_) (fun hc1 => ?_)
    · (try simp only [decide_eq_true_eq, decide_eq_false_iff_not, Bool.not_eq_true', Bool.not_eq_false', Bool.and_eq_true, Bool.or_eq_true, Bool.and_eq_false_iff, Bool.or_eq_false_iff, Bool.not_eq_eq_eq_not, Bool.not_true, Bool.not_false, Int.not_le, Int.not_lt, beq_iff_eq] at hc1)
      refine awp_region (by kernel_rfl) ?_
      (refine aL_S rfl rfl (by simp (disch := omega) only [go_sem, wrap_i64, ↓reduceIte, Nat.reduceEqDiff, Nat.reduceAdd, Nat.reduceSub, Nat.reduceMul, Nat.reduceLeDiff, reduceCtorEq, Int.reduceToNat, Int.reduceLE, Int.reduceLT, hT]; rfl) ?_)
      refine aL_X rfl rfl (AOp_makeMap rfl fun o16 ho16 => ?_)
      repeat (rw [none_set_iff] at ho16; obtain ⟨_, ho16⟩ := ho16)
      have hTm := ne_of_heap hT ho16
      (refine aL_S rfl rfl (by simp (disch := omega) only [go_sem, wrap_i64, ↓reduceIte, Nat.reduceEqDiff, Nat.reduceAdd, Nat.reduceSub, Nat.reduceMul, Nat.reduceLeDiff, reduceCtorEq, Int.reduceToNat, Int.reduceLE, Int.reduceLT, hT]; rfl) ?_)
      (refine aL_S rfl rfl (by simp (disch := omega) only [go_sem, wrap_i64, ↓reduceIte, Nat.reduceEqDiff, Nat.reduceAdd, Nat.reduceSub, Nat.reduceMul, Nat.reduceLeDiff, reduceCtorEq, Int.reduceToNat, Int.reduceLE, Int.reduceLT, hT]; rfl) ?_)
      refine aL_store rfl rfl rfl (by simp (disch := omega) only [go_sem, wrap_i64, ↓reduceIte, Nat.reduceEqDiff, Nat.reduceAdd, Nat.reduceSub, Nat.reduceMul, Nat.reduceLeDiff, reduceCtorEq, Int.reduceToNat, Int.reduceLE, Int.reduceLT, hT]; rfl) (by simp (disch := omega) only [go_sem, wrap_i64, ↓reduceIte, Nat.reduceEqDiff, Nat.reduceAdd, Nat.reduceSub, Nat.reduceMul, Nat.reduceLeDiff, reduceCtorEq, Int.reduceToNat, Int.reduceLE, Int.reduceLT, hT]; rfl) (by first | (simp (disch := omega) only [go_sem, ↓reduceIte, Nat.reduceEqDiff, Nat.reduceAdd, Nat.reduceSub, Nat.reduceMul, Nat.reduceLeDiff, reduceCtorEq, Int.reduceToNat, Int.reduceLE, Int.reduceLT, hT]; rfl) | simp (disch := omega) only [go_sem, ↓reduceIte, Nat.reduceEqDiff, Nat.reduceAdd, Nat.reduceSub, Nat.reduceMul, Nat.reduceLeDiff, reduceCtorEq, Int.reduceToNat, Int.reduceLE, Int.reduceLT, hT]) (by simp only [go_sem]; rfl) rfl (by simp only [go_sem]; rfl) (by simp [AVal.one]) (by rfl) (by first | (simp; done) | (simp; omega) | omega) (by simp (disch := omega) only [go_sem, wrap_i64, ↓reduceIte, Nat.reduceEqDiff, Nat.reduceAdd, Nat.reduceSub, Nat.reduceMul, Nat.reduceLeDiff, reduceCtorEq, Int.reduceToNat, Int.reduceLE, Int.reduceLT, hT]; rfl) ?_
      refine aL_nil ?_
      refine awp_seq ?_
      refine awp_seq ?_
      refine awp_region (by kernel_rfl) ?_
      (refine aL_S rfl rfl (by simp (disch := omega) only [go_sem, wrap_i64, ↓reduceIte, Nat.reduceEqDiff, Nat.reduceAdd, Nat.reduceSub, Nat.reduceMul, Nat.reduceLeDiff, reduceCtorEq, Int.reduceToNat, Int.reduceLE, Int.reduceLT, hT, alookup, amapOf, plainKey, lookupRes, afindNow, Store.set_ne, ne_eq, not_false_eq_true]; rfl) ?_)
      (refine aL_S rfl rfl (by simp (disch := omega) only [go_sem, wrap_i64, ↓reduceIte, Nat.reduceEqDiff, Nat.reduceAdd, Nat.reduceSub, Nat.reduceMul, Nat.reduceLeDiff, reduceCtorEq, Int.reduceToNat, Int.reduceLE, Int.reduceLT, hT, alookup, amapOf, plainKey, lookupRes, afindNow, Store.set_ne, ne_eq, not_false_eq_true]; rfl) ?_)
      (refine aL_S rfl rfl (by simp (disch := omega) only [go_sem, wrap_i64, ↓reduceIte, Nat.reduceEqDiff, Nat.reduceAdd, Nat.reduceSub, Nat.reduceMul, Nat.reduceLeDiff, reduceCtorEq, Int.reduceToNat, Int.reduceLE, Int.reduceLT, hT, alookup, amapOf, plainKey, lookupRes, afindNow, Store.set_ne, ne_eq, not_false_eq_true]; rfl) ?_)
      (refine aL_S rfl rfl (by simp (disch := omega) only [go_sem, wrap_i64, ↓reduceIte, Nat.reduceEqDiff, Nat.reduceAdd, Nat.reduceSub, Nat.reduceMul, Nat.reduceLeDiff, reduceCtorEq, Int.reduceToNat, Int.reduceLE, Int.reduceLT, hT, alookup, amapOf, plainKey, lookupRes, afindNow, Store.set_ne, ne_eq, not_false_eq_true]; rfl) ?_)
      (refine aL_S rfl rfl (by simp (disch := omega) only [go_sem, wrap_i64, ↓reduceIte, Nat.reduceEqDiff, Nat.reduceAdd, Nat.reduceSub, Nat.reduceMul, Nat.reduceLeDiff, reduceCtorEq, Int.reduceToNat, Int.reduceLE, Int.reduceLT, hT, alookup, amapOf, plainKey, lookupRes, afindNow, Store.set_ne, ne_eq, not_false_eq_true]; rfl) ?_)
      (refine aL_S rfl rfl (by simp (disch := omega) only [go_sem, wrap_i64, ↓reduceIte, Nat.reduceEqDiff, Nat.reduceAdd, Nat.reduceSub, Nat.reduceMul, Nat.reduceLeDiff, reduceCtorEq, Int.reduceToNat, Int.reduceLE, Int.reduceLT, hT, alookup, amapOf, plainKey, lookupRes, afindNow, Store.set_ne, ne_eq, not_false_eq_true]; rfl) ?_)
      (refine aL_S rfl rfl (by simp (disch := omega) only [go_sem, wrap_i64, ↓reduceIte, Nat.reduceEqDiff, Nat.reduceAdd, Nat.reduceSub, Nat.reduceMul, Nat.reduceLeDiff, reduceCtorEq, Int.reduceToNat, Int.reduceLE, Int.reduceLT, hT, alookup, amapOf, plainKey, lookupRes, afindNow, Store.set_ne, ne_eq, not_false_eq_true]; rfl) ?_)
      refine aL_nil ?_
      refine awp_seq ?_
      refine awp_region (by kernel_rfl) ?_
      (refine aL_S rfl rfl (by simp (disch := omega) only [go_sem, wrap_i64, ↓reduceIte, Nat.reduceEqDiff, Nat.reduceAdd, Nat.reduceSub, Nat.reduceMul, Nat.reduceLeDiff, reduceCtorEq, Int.reduceToNat, Int.reduceLE, Int.reduceLT, hT, alookup, amapOf, plainKey, lookupRes, afindNow, Store.set_ne, ne_eq, not_false_eq_true]; rfl) ?_)
      (refine aL_S rfl rfl (by simp (disch := omega) only [go_sem, wrap_i64, ↓reduceIte, Nat.reduceEqDiff, Nat.reduceAdd, Nat.reduceSub, Nat.reduceMul, Nat.reduceLeDiff, reduceCtorEq, Int.reduceToNat, Int.reduceLE, Int.reduceLT, hT, alookup, amapOf, plainKey, lookupRes, afindNow, Store.set_ne, ne_eq, not_false_eq_true]; rfl) ?_)
      refine aL_nil ?_
      refine awp_cond (by simp (disch := omega) only [go_sem, wrap_i64, ↓reduceIte, Nat.reduceEqDiff, Nat.reduceAdd, Nat.reduceSub, Nat.reduceMul, Nat.reduceLeDiff, reduceCtorEq, Int.reduceToNat, Int.reduceLE, Int.reduceLT]; rfl) (fun hc4 => ?_) (fun hc4 => ?_)
      · (try simp only [decide_eq_true_eq, decide_eq_false_iff_not, Bool.not_eq_true', Bool.not_eq_false', Bool.and_eq_true, Bool.or_eq_true, Bool.and_eq_false_iff, Bool.or_eq_false_iff, Bool.not_eq_eq_eq_not, Bool.not_true, Bool.not_false, Int.not_le, Int.not_lt, beq_iff_eq] at hc4)
        cases hc4
      · (try simp only [decide_eq_true_eq, decide_eq_false_iff_not, Bool.not_eq_true', Bool.not_eq_false', Bool.and_eq_true, Bool.or_eq_true, Bool.and_eq_false_iff, Bool.or_eq_false_iff, Bool.not_eq_eq_eq_not, Bool.not_true, Bool.not_false, Int.not_le, Int.not_lt, beq_iff_eq] at hc4)
        refine awp_skip ?_
        refine awp_seq ?_
        refine awp_region (by kernel_rfl) ?_
        (refine aL_S rfl rfl (by simp (disch := omega) only [go_sem, wrap_i64, ↓reduceIte, Nat.reduceEqDiff, Nat.reduceAdd, Nat.reduceSub, Nat.reduceMul, Nat.reduceLeDiff, reduceCtorEq, Int.reduceToNat, Int.reduceLE, Int.reduceLT, hT, alookup, amapOf, plainKey, lookupRes, afindNow, Store.set_ne, ne_eq, not_false_eq_true]; rfl) ?_)
        (refine aL_S rfl rfl (by simp (disch := omega) only [go_sem, wrap_i64, ↓reduceIte, Nat.reduceEqDiff, Nat.reduceAdd, Nat.reduceSub, Nat.reduceMul, Nat.reduceLeDiff, reduceCtorEq, Int.reduceToNat, Int.reduceLE, Int.reduceLT, hT, alookup, amapOf, plainKey, lookupRes, afindNow, Store.set_ne, ne_eq, not_false_eq_true]; rfl) ?_)
        (refine aL_S rfl rfl (by simp (disch := omega) only [go_sem, wrap_i64, ↓reduceIte, Nat.reduceEqDiff, Nat.reduceAdd, Nat.reduceSub, Nat.reduceMul, Nat.reduceLeDiff, reduceCtorEq, Int.reduceToNat, Int.reduceLE, Int.reduceLT, hT, alookup, amapOf, plainKey, lookupRes, afindNow, Store.set_ne, ne_eq, not_false_eq_true]; rfl) ?_)
        refine aL_box rfl rfl rfl (by simp (disch := omega) only [go_sem, wrap_i64, ↓reduceIte, Nat.reduceEqDiff, Nat.reduceAdd, Nat.reduceSub, Nat.reduceMul, Nat.reduceLeDiff, reduceCtorEq, Int.reduceToNat, Int.reduceLE, Int.reduceLT, hT, alookup, amapOf, plainKey, lookupRes, afindNow, Store.set_ne, ne_eq, not_false_eq_true]; rfl) rfl (by simp only [go_sem]; rfl) fun o43 ho43 => ?_
        repeat (rw [none_set_iff] at ho43; obtain ⟨_, ho43⟩ := ho43)
        have hTo := ne_of_heap hT ho43
        have hmo : o43 ≠ o16 := by assumption
        (refine aL_S rfl rfl (by simp (disch := omega) only [go_sem, wrap_i64, ↓reduceIte, Nat.reduceEqDiff, Nat.reduceAdd, Nat.reduceSub, Nat.reduceMul, Nat.reduceLeDiff, reduceCtorEq, Int.reduceToNat, Int.reduceLE, Int.reduceLT, hT, alookup, amapOf, plainKey, lookupRes, afindNow, Store.set_ne, ne_eq, not_false_eq_true]; rfl) ?_)
        refine aL_nil ?_
        refine awp_seq ?_
        refine awp_region (by kernel_rfl) ?_
        (refine aL_S rfl rfl (by simp (disch := omega) only [go_sem, wrap_i64, ↓reduceIte, Nat.reduceEqDiff, Nat.reduceAdd, Nat.reduceSub, Nat.reduceMul, Nat.reduceLeDiff, reduceCtorEq, Int.reduceToNat, Int.reduceLE, Int.reduceLT, hT, alookup, amapOf, plainKey, lookupRes, afindNow, Store.set_ne, ne_eq, not_false_eq_true]; rfl) ?_)
        (refine aL_S rfl rfl (by simp (disch := omega) only [go_sem, wrap_i64, ↓reduceIte, Nat.reduceEqDiff, Nat.reduceAdd, Nat.reduceSub, Nat.reduceMul, Nat.reduceLeDiff, reduceCtorEq, Int.reduceToNat, Int.reduceLE, Int.reduceLT, hT, alookup, amapOf, plainKey, lookupRes, afindNow, Store.set_ne, ne_eq, not_false_eq_true]; rfl) ?_)
        (refine aL_S rfl rfl (by simp (disch := omega) only [go_sem, wrap_i64, ↓reduceIte, Nat.reduceEqDiff, Nat.reduceAdd, Nat.reduceSub, Nat.reduceMul, Nat.reduceLeDiff, reduceCtorEq, Int.reduceToNat, Int.reduceLE, Int.reduceLT, hT, alookup, amapOf, plainKey, lookupRes, afindNow, Store.set_ne, ne_eq, not_false_eq_true]; rfl) ?_)
        (refine aL_S rfl rfl (by simp (disch := omega) only [go_sem, wrap_i64, ↓reduceIte, Nat.reduceEqDiff, Nat.reduceAdd, Nat.reduceSub, Nat.reduceMul, Nat.reduceLeDiff, reduceCtorEq, Int.reduceToNat, Int.reduceLE, Int.reduceLT, hT, alookup, amapOf, plainKey, lookupRes, afindNow, Store.set_ne, ne_eq, not_false_eq_true]; rfl) ?_)
        (refine aL_S rfl rfl (by simp (disch := omega) only [go_sem, wrap_i64, ↓reduceIte, Nat.reduceEqDiff, Nat.reduceAdd, Nat.reduceSub, Nat.reduceMul, Nat.reduceLeDiff, reduceCtorEq, Int.reduceToNat, Int.reduceLE, Int.reduceLT, hT, alookup, amapOf, plainKey, lookupRes, afindNow, Store.set_ne, ne_eq, not_false_eq_true]; rfl) ?_)
        (refine aL_S rfl rfl (by simp (disch := omega) only [go_sem, wrap_i64, ↓reduceIte, Nat.reduceEqDiff, Nat.reduceAdd, Nat.reduceSub, Nat.reduceMul, Nat.reduceLeDiff, reduceCtorEq, Int.reduceToNat, Int.reduceLE, Int.reduceLT, hT, alookup, amapOf, plainKey, lookupRes, afindNow, Store.set_ne, ne_eq, not_false_eq_true]; rfl) ?_)
        refine aL_X0 rfl rfl (AOp_mapUpdate rfl (by first | (simp only [go_sem]; rfl) | simp only [go_sem]) (by first | (simp only [go_sem]; rfl) | simp only [go_sem]) (by simp (disch := omega) only [go_sem, wrap_i64, ↓reduceIte, Nat.reduceEqDiff, Nat.reduceAdd, Nat.reduceSub, Nat.reduceMul, Nat.reduceLeDiff, reduceCtorEq, Int.reduceToNat, Int.reduceLE, Int.reduceLT, hT, alookup, amapOf, plainKey, lookupRes, afindNow, Store.set_ne, ne_eq, not_false_eq_true]; rfl) (by first | (simp (disch := omega) only [go_sem, ↓reduceIte, Nat.reduceEqDiff, Nat.reduceAdd, Nat.reduceSub, Nat.reduceMul, Nat.reduceLeDiff, reduceCtorEq, Int.reduceToNat, Int.reduceLE, Int.reduceLT, hT, alookup, amapOf, plainKey, lookupRes, afindNow, Store.set_ne, ne_eq, not_false_eq_true]; rfl) | simp (disch := omega) only [go_sem, ↓reduceIte, Nat.reduceEqDiff, Nat.reduceAdd, Nat.reduceSub, Nat.reduceMul, Nat.reduceLeDiff, reduceCtorEq, Int.reduceToNat, Int.reduceLE, Int.reduceLT, hT, alookup, amapOf, plainKey, lookupRes, afindNow, Store.set_ne, ne_eq, not_false_eq_true]) (by simp (disch := omega) only [go_sem, wrap_i64, ↓reduceIte, Nat.reduceEqDiff, Nat.reduceAdd, Nat.reduceSub, Nat.reduceMul, Nat.reduceLeDiff, reduceCtorEq, Int.reduceToNat, Int.reduceLE, Int.reduceLT, hT, alookup, amapOf, plainKey, lookupRes, afindNow, Store.set_ne, ne_eq, not_false_eq_true]; rfl) (by first | rfl | trivial | simp [Go.MapKept.IsKey]) (by exact kvM_keys []) (by simp (disch := omega) only [go_sem, wrap_i64, ↓reduceIte, Nat.reduceEqDiff, Nat.reduceAdd, Nat.reduceSub, Nat.reduceMul, Nat.reduceLeDiff, reduceCtorEq, Int.reduceToNat, Int.reduceLE, Int.reduceLT, hT, alookup, amapOf, plainKey, lookupRes, afindNow, Store.set_ne, ne_eq, not_false_eq_true]; rfl) ?_)
        refine aL_nil ?_
        rw [show ([] : List (Value × AVal)) = kvM [] from rfl, kvPut_M (M := []) (fun p hp => by cases hp)]
        have hQ : QAt ((((σ.set o16 (.map (kvM []))).set T (.cells [qv, .map o16])).set o43 (.cells [vInt c, vInt a, vInt 0])).set o16 (.map (kvM ([] ++ [(c, o43)])))) T (.map o16) [] S1 := by
          refine ⟨⟨qv, by rw [Store.set_ne _ _ hTm, Store.set_ne _ _ hTo, Store.set_get], ?_⟩, fun k x hx => by simp at hx, by simp, h0.ts, by simp⟩
          refine hq.imp id fun ⟨oq, r1, r2, r3⟩ => ⟨oq, r1, r2, ?_⟩
          have hTq : oq ≠ T := fun hh => by rw [hh, hT] at r3; simp [qC] at r3
          rw [Store.set_ne _ _ (ne_of_heap r3 ho16), Store.set_ne _ _ (ne_of_heap r3 ho43), Store.set_ne _ _ hTq, Store.set_ne _ _ (ne_of_heap r3 ho16)]
          exact r3
        have hE : ((((σ.set o16 (.map (kvM []))).set T (.cells [qv, .map o16])).set o43 (.cells [vInt c, vInt a, vInt 0])).set o16 (.map (kvM ([] ++ [(c, o43)])))).heap o43 = some (.cells [vInt c, vInt a, vInt 0]) := by
          rw [Store.set_ne _ _ hmo, Store.set_get]
        refine awp_region (by kernel_rfl) ?_
        (refine aL_S rfl rfl (by simp (disch := omega) only [go_sem, wrap_i64, ↓reduceIte, Nat.reduceEqDiff, Nat.reduceAdd, Nat.reduceSub, Nat.reduceMul, Nat.reduceLeDiff, reduceCtorEq, Int.reduceToNat, Int.reduceLE, Int.reduceLT, hT, alookup, amapOf, plainKey, lookupRes, afindNow, Store.set_ne, ne_eq, not_false_eq_true]; rfl) ?_)
        (refine aL_S rfl rfl (by simp (disch := omega) only [go_sem, wrap_i64, ↓reduceIte, Nat.reduceEqDiff, Nat.reduceAdd, Nat.reduceSub, Nat.reduceMul, Nat.reduceLeDiff, reduceCtorEq, Int.reduceToNat, Int.reduceLE, Int.reduceLT, hT, alookup, amapOf, plainKey, lookupRes, afindNow, Store.set_ne, ne_eq, not_false_eq_true]; rfl) ?_)
        (refine aL_S rfl rfl (by simp (disch := omega) only [go_sem, wrap_i64, ↓reduceIte, Nat.reduceEqDiff, Nat.reduceAdd, Nat.reduceSub, Nat.reduceMul, Nat.reduceLeDiff, reduceCtorEq, Int.reduceToNat, Int.reduceLE, Int.reduceLT, hT, alookup, amapOf, plainKey, lookupRes, afindNow, Store.set_ne, ne_eq, not_false_eq_true]; rfl) ?_)
        (refine aL_S rfl rfl (by simp (disch := omega) only [go_sem, wrap_i64, ↓reduceIte, Nat.reduceEqDiff, Nat.reduceAdd, Nat.reduceSub, Nat.reduceMul, Nat.reduceLeDiff, reduceCtorEq, Int.reduceToNat, Int.reduceLE, Int.reduceLT, hT, alookup, amapOf, plainKey, lookupRes, afindNow, Store.set_ne, ne_eq, not_false_eq_true]; rfl) ?_)
        (refine aL_S rfl rfl (by simp (disch := omega) only [go_sem, wrap_i64, ↓reduceIte, Nat.reduceEqDiff, Nat.reduceAdd, Nat.reduceSub, Nat.reduceMul, Nat.reduceLeDiff, reduceCtorEq, Int.reduceToNat, Int.reduceLE, Int.reduceLT, hT, alookup, amapOf, plainKey, lookupRes, afindNow, Store.set_ne, ne_eq, not_false_eq_true]; rfl) ?_)
        (refine aL_S rfl rfl (by simp (disch := omega) only [go_sem, wrap_i64, ↓reduceIte, Nat.reduceEqDiff, Nat.reduceAdd, Nat.reduceSub, Nat.reduceMul, Nat.reduceLeDiff, reduceCtorEq, Int.reduceToNat, Int.reduceLE, Int.reduceLT, hT, alookup, amapOf, plainKey, lookupRes, afindNow, Store.set_ne, ne_eq, not_false_eq_true]; rfl) ?_)
        refine aL_X rfl rfl (AOp_use rfl rfl (.inr ⟨rfl, rfl, rfl⟩) (by simp only [go_sem]) (by first | (simp (disch := omega) only [go_sem, wrap_i64, ↓reduceIte, Nat.reduceEqDiff, Nat.reduceAdd, Nat.reduceSub, Nat.reduceMul, Nat.reduceLeDiff, reduceCtorEq, Int.reduceToNat, Int.reduceLE, Int.reduceLT, hT, alookup, amapOf, plainKey, lookupRes, afindNow, Store.set_ne, ne_eq, not_false_eq_true]; rfl) | (simp (disch := omega) only [go_sem, wrap_i64, ↓reduceIte, Nat.reduceEqDiff, Nat.reduceAdd, Nat.reduceSub, Nat.reduceMul, Nat.reduceLeDiff, reduceCtorEq, Int.reduceToNat, Int.reduceLE, Int.reduceLT, hT, alookup, amapOf, plainKey, lookupRes, afindNow, Store.set_ne, ne_eq, not_false_eq_true])) (qPushAll_c hQ (fun k h1 h2 => by simp at h2) hE (by simp) (by simp)) ?_); rintro _ τ ⟨rfl, L', S', q1, q2, q3, q4⟩
        refine aL_nil ?_
        refine aEnd_nor (σ' := τ) (by simp (disch := omega) only [go_sem, wrap_i64, ↓reduceIte, Nat.reduceEqDiff, Nat.reduceAdd, Nat.reduceSub, Nat.reduceMul, Nat.reduceLeDiff, reduceCtorEq, Int.reduceToNat, Int.reduceLE, Int.reduceLT]; rfl) (by first | exact Store.Wk.refl _ | exact Store.Sub.refl _ | ((try dsimp only); (try simp (disch := assumption) only [Store.newTok_set, Store.newTok_step]); (first | refine subx_start ?_ | refine subx_startS ?_); (repeat (first | refine subx_skip (.head _) ?_ | refine subx_skip (.tail _ (.head _)) ?_ | refine subx_skip (.tail _ (.tail _ (.head _))) ?_ | refine subx_skip (.tail _ (.tail _ (.tail _ (.head _)))) ?_ | refine subx_left (by first | (simp (disch := omega) only [go_sem, ↓reduceIte, Nat.reduceEqDiff, Nat.reduceAdd, Nat.reduceSub, Nat.reduceMul, Nat.reduceLeDiff, reduceCtorEq, Int.reduceToNat, Int.reduceLE, Int.reduceLT]; rfl) | simp (disch := omega) only [go_sem, ↓reduceIte, Nat.reduceEqDiff, Nat.reduceAdd, Nat.reduceSub, Nat.reduceMul, Nat.reduceLeDiff, reduceCtorEq, Int.reduceToNat, Int.reduceLE, Int.reduceLT]) ?_)); (repeat (first | exact subx_refl | refine subx_in (.head _) ?_ | refine subx_in (.tail _ (.head _)) ?_ | refine subx_in (.tail _ (.tail _ (.head _))) ?_ | refine subx_in (.tail _ (.tail _ (.tail _ (.head _)))) ?_ | refine subx_new (by first | assumption | (simp only [Store.newTok_heap]; assumption)) ?_ | refine subx_tok ?_ | refine subx_newTok (by assumption) ?_)))) ?_
        have hmS : o16 ∉ o43 :: S1 := by
          intro hh
          rcases List.mem_cons.1 hh with hh | hh
          · exact hmo hh.symm
          · exact hlive _ hh ho16
        have hap := q2.apart (o := o16) (Store.set_get ..) hmS
        refine ⟨rfl, o16, o43, L', S', q1, ?_, q3, q4, hap.1, hap.2⟩
        have f1 := (((Fr.refl σ S1).setNew (o := o16) (x := .map (kvM [])) ho16).set (o := T) (x := .cells [qv, .map o16]) (by simp [h0.ts])).setNew (o := o43) (x := .cells [vInt c, vInt a, vInt 0]) (by rw [Store.set_ne _ _ (Ne.symm hTo), Store.set_ne _ _ hmo]; exact ho43)
        have f2 := (f1.set (o := o16) (x := .map (kvM ([] ++ [(c, o43)]))) (by simp)).less (U := [o16] ++ (o43 :: S1)) (by intro i hi; simp at hi ⊢; rcases hi with h | h | h <;> simp [h])
        exact (f2.trans (q2.more [o16])).from_ hS1
    · (try simp only [decide_eq_true_eq, decide_eq_false_iff_not, Bool.not_eq_true', Bool.not_eq_false', Bool.and_eq_true, Bool.or_eq_true, Bool.and_eq_false_iff, Bool.or_eq_false_iff, Bool.not_eq_eq_eq_not, Bool.not_true, Bool.not_false, Int.not_le, Int.not_lt, beq_iff_eq] at hc1)
      cases hc1

end Go.Proofs.Ytdedpamcpgbgmaa
