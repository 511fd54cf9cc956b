/-
  The timer's statements. Own work (an AI agent).
-/
import Derived.Test.YtdedpamcpgbgmaaTimerR2
set_option linter.all false
set_option maxRecDepth 100000
namespace Go.Proofs.Ytdedpamcpgbgmaa
open Go.Ab

def eqL (a b : List Int) : Bool := decide (a = b)
theorem sameInts_c {a b : List Int} {σ : Store} {ta tb : Bool} (hl : a.length ≤ 100000) : ACalls Try.prog 37 [.sl 1 (a.map vInt) ta, .sl 1 (b.map vInt) tb] σ fun v σ' => v = vBool (decide (a = b)) ∧ σ = σ' := by
  refine ACalls_of Try.func37 rfl Try.ntmps37 (congrArg Array.toList Try.results37) (by simp only [List.length_cons, List.length_nil]; decide) ?_; simp only [envOf_cons, envOf_nil, Nat.reduceAdd]
  refine awp_seq ?_
  refine awp_region (by kernel_rfl) ?_
  (refine aL_S rfl rfl (by simp (disch := omega) only [go_sem, wrap_i64, ↓reduceIte, Nat.reduceEqDiff, Nat.reduceAdd, Nat.reduceSub, Nat.reduceMul, Nat.reduceLeDiff, reduceCtorEq, Int.reduceToNat, Int.reduceLE, Int.reduceLT]; rfl) ?_)
  refine aL_nil ?_
  refine awp_seq ?_
  refine awp_seq ?_
  refine awp_region (by kernel_rfl) ?_
  iterate 5 (refine aL_S rfl rfl (by simp (disch := omega) only [go_sem, wrap_i64, ↓reduceIte, Nat.reduceEqDiff, Nat.reduceAdd, Nat.reduceSub, Nat.reduceMul, Nat.reduceLeDiff, reduceCtorEq, Int.reduceToNat, Int.reduceLE, Int.reduceLT]; rfl) ?_)
  refine aL_nil ?_
  refine awp_cond (by simp (disch := omega) only [go_sem, wrap_i64, ↓reduceIte, Nat.reduceEqDiff, Nat.reduceAdd, Nat.reduceSub, Nat.reduceMul, Nat.reduceLeDiff, reduceCtorEq, Int.reduceToNat, Int.reduceLE, Int.reduceLT]; rfl) (fun hc1 => ?_) (fun hc1 => ?_)
  · (try simp only [decide_eq_true_eq, decide_eq_false_iff_not, Bool.not_eq_true', Bool.not_eq_false', Bool.and_eq_true, Bool.or_eq_true, Bool.and_eq_false_iff, Bool.or_eq_false_iff, Bool.not_eq_eq_eq_not, Bool.not_true, Bool.not_false, Int.not_le, Int.not_lt, beq_iff_eq] at hc1)
    refine awp_seq ?_
    refine awp_region (by kernel_rfl) ?_
    (refine aL_S rfl rfl (by simp (disch := omega) only [go_sem, wrap_i64, ↓reduceIte, Nat.reduceEqDiff, Nat.reduceAdd, Nat.reduceSub, Nat.reduceMul, Nat.reduceLeDiff, reduceCtorEq, Int.reduceToNat, Int.reduceLE, Int.reduceLT]; rfl) ?_)
    refine aL_nil ?_
    refine awp_ret ?_
    refine aEnd_ret (σ' := σ) (by simp (disch := omega) only [go_sem, wrap_i64, ↓reduceIte, Nat.reduceEqDiff, Nat.reduceAdd, Nat.reduceSub, Nat.reduceMul, Nat.reduceLeDiff, reduceCtorEq, Int.reduceToNat, Int.reduceLE, Int.reduceLT]; rfl) (by first | exact Store.Wk.refl _ | exact Store.Sub.refl _ | ((try dsimp only); (try simp (disch := assumption) only [Store.newTok_set, Store.newTok_step]); (first | refine subx_start ?_ | refine subx_startS ?_); (repeat (first | refine subx_skip (.head _) ?_ | refine subx_skip (.tail _ (.head _)) ?_ | refine subx_skip (.tail _ (.tail _ (.head _))) ?_ | refine subx_skip (.tail _ (.tail _ (.tail _ (.head _)))) ?_ | refine subx_left (by first | (simp (disch := omega) only [go_sem, ↓reduceIte, Nat.reduceEqDiff, Nat.reduceAdd, Nat.reduceSub, Nat.reduceMul, Nat.reduceLeDiff, reduceCtorEq, Int.reduceToNat, Int.reduceLE, Int.reduceLT]; rfl) | simp (disch := omega) only [go_sem, ↓reduceIte, Nat.reduceEqDiff, Nat.reduceAdd, Nat.reduceSub, Nat.reduceMul, Nat.reduceLeDiff, reduceCtorEq, Int.reduceToNat, Int.reduceLE, Int.reduceLT]) ?_)); (repeat (first | exact subx_refl | refine subx_in (.head _) ?_ | refine subx_in (.tail _ (.head _)) ?_ | refine subx_in (.tail _ (.tail _ (.head _))) ?_ | refine subx_in (.tail _ (.tail _ (.tail _ (.head _)))) ?_ | refine subx_new (by first | assumption | (simp only [Store.newTok_heap]; assumption)) ?_ | refine subx_tok ?_ | refine subx_newTok (by assumption) ?_)))) ?_
    exact ⟨by rw [decide_eq_false (fun hh => hc1 (by rw [hh]))], rfl⟩
  · (try simp only [decide_eq_true_eq, decide_eq_false_iff_not, Bool.not_eq_true', Bool.not_eq_false', Bool.and_eq_true, Bool.or_eq_true, Bool.and_eq_false_iff, Bool.or_eq_false_iff, Bool.not_eq_eq_eq_not, Bool.not_true, Bool.not_false, Int.not_le, Int.not_lt, beq_iff_eq] at hc1)
    refine awp_skip ?_
    refine awp_seq ?_
    refine awp_seq ?_
    refine awp_region (by kernel_rfl) ?_
    (refine aL_S rfl rfl (by simp (disch := omega) only [go_sem, wrap_i64, ↓reduceIte, Nat.reduceEqDiff, Nat.reduceAdd, Nat.reduceSub, Nat.reduceMul, Nat.reduceLeDiff, reduceCtorEq, Int.reduceToNat, Int.reduceLE, Int.reduceLT]; rfl) ?_)
    refine aL_nil ?_
    refine awp_block ?_
    refine awp_loop_env (ι := Nat) (fun i => a.length - i) (fun i => i ≤ a.length ∧ ∀ k, k < i → a[k]? = b[k]?) (fun i => [(0, .sl 1 (a.map vInt) ta), (1, .sl 1 (b.map vInt) tb), (5, vInt i)]) (fun i => σ) 0 ?_ ?_ ?_ ?_
    · exact ⟨Nat.zero_le _, fun k hk => absurd hk (Nat.not_lt_zero k)⟩
    · ((repeat (refine covers.eq (by first | rfl | (simp (disch := omega) only [go_sem, wrap_i64, ↓reduceIte, Nat.reduceEqDiff, Nat.reduceAdd, Nat.reduceSub, Nat.reduceMul, Nat.reduceLeDiff, reduceCtorEq, Int.reduceToNat, Int.reduceLE, Int.reduceLT]; rfl) | (simp (disch := omega) only [go_sem, wrap_i64, ↓reduceIte, Nat.reduceEqDiff, Nat.reduceAdd, Nat.reduceSub, Nat.reduceMul, Nat.reduceLeDiff, reduceCtorEq, Int.reduceToNat, Int.reduceLE, Int.reduceLT])) ?_)); exact covers.nil)
    · first | exact Store.Wk.refl _ | exact Store.Sub.refl _ | ((try dsimp only); (try simp (disch := assumption) only [Store.newTok_set, Store.newTok_step]); (first | refine subx_start ?_ | refine subx_startS ?_); (repeat (first | refine subx_skip (.head _) ?_ | refine subx_skip (.tail _ (.head _)) ?_ | refine subx_skip (.tail _ (.tail _ (.head _))) ?_ | refine subx_skip (.tail _ (.tail _ (.tail _ (.head _)))) ?_ | refine subx_left (by first | (simp (disch := omega) only [go_sem, ↓reduceIte, Nat.reduceEqDiff, Nat.reduceAdd, Nat.reduceSub, Nat.reduceMul, Nat.reduceLeDiff, reduceCtorEq, Int.reduceToNat, Int.reduceLE, Int.reduceLT]; rfl) | simp (disch := omega) only [go_sem, ↓reduceIte, Nat.reduceEqDiff, Nat.reduceAdd, Nat.reduceSub, Nat.reduceMul, Nat.reduceLeDiff, reduceCtorEq, Int.reduceToNat, Int.reduceLE, Int.reduceLT]) ?_)); (repeat (first | exact subx_refl | refine subx_in (.head _) ?_ | refine subx_in (.tail _ (.head _)) ?_ | refine subx_in (.tail _ (.tail _ (.head _))) ?_ | refine subx_in (.tail _ (.tail _ (.tail _ (.head _)))) ?_ | refine subx_new (by first | assumption | (simp only [Store.newTok_heap]; assumption)) ?_ | refine subx_tok ?_ | refine subx_newTok (by assumption) ?_)))
    rintro i ⟨h1, h2⟩
    simp only [envL_cons, envL_nil]
    refine awp_seq ?_
    refine awp_seq ?_
    refine awp_region (by kernel_rfl) ?_
    iterate 5 (refine aL_S rfl rfl (by simp (disch := omega) only [go_sem, wrap_i64, ↓reduceIte, Nat.reduceEqDiff, Nat.reduceAdd, Nat.reduceSub, Nat.reduceMul, Nat.reduceLeDiff, reduceCtorEq, Int.reduceToNat, Int.reduceLE, Int.reduceLT]; rfl) ?_)
    refine aL_GT rfl rfl (by simp (disch := omega) only [go_sem, wrap_i64, ↓reduceIte, Nat.reduceEqDiff, Nat.reduceAdd, Nat.reduceSub, Nat.reduceMul, Nat.reduceLeDiff, reduceCtorEq, Int.reduceToNat, Int.reduceLE, Int.reduceLT]; rfl) rfl (by intro hb; have hb' := hb; (try simp only [decide_eq_true_eq, decide_eq_false_iff_not, Bool.not_eq_true', Bool.not_eq_false', Bool.and_eq_true, Bool.or_eq_true, Bool.and_eq_false_iff, Bool.or_eq_false_iff, Bool.not_eq_eq_eq_not, Bool.not_true, Bool.not_false, Int.not_le, Int.not_lt, beq_iff_eq] at hb'); (try simp only [Bool.and_eq_true] at hb); first | (simp (disch := omega) only [go_sem, wrap_i64, ↓reduceIte, Nat.reduceEqDiff, Nat.reduceAdd, Nat.reduceSub, Nat.reduceMul, Nat.reduceLeDiff, reduceCtorEq, Int.reduceToNat, Int.reduceLE, Int.reduceLT]; rfl) | (simp (disch := omega) only [go_sem, wrap_i64, ↓reduceIte, Nat.reduceEqDiff, Nat.reduceAdd, Nat.reduceSub, Nat.reduceMul, Nat.reduceLeDiff, reduceCtorEq, Int.reduceToNat, Int.reduceLE, Int.reduceLT, hb]; rfl)) ?_
    refine aL_GT rfl rfl (by simp (disch := omega) only [go_sem, wrap_i64, ↓reduceIte, Nat.reduceEqDiff, Nat.reduceAdd, Nat.reduceSub, Nat.reduceMul, Nat.reduceLeDiff, reduceCtorEq, Int.reduceToNat, Int.reduceLE, Int.reduceLT]; rfl) rfl (by intro hb; have hb' := hb; (try simp only [decide_eq_true_eq, decide_eq_false_iff_not, Bool.not_eq_true', Bool.not_eq_false', Bool.and_eq_true, Bool.or_eq_true, Bool.and_eq_false_iff, Bool.or_eq_false_iff, Bool.not_eq_eq_eq_not, Bool.not_true, Bool.not_false, Int.not_le, Int.not_lt, beq_iff_eq] at hb'); (try simp only [Bool.and_eq_true] at hb); first | (simp (disch := omega) only [go_sem, wrap_i64, ↓reduceIte, Nat.reduceEqDiff, Nat.reduceAdd, Nat.reduceSub, Nat.reduceMul, Nat.reduceLeDiff, reduceCtorEq, Int.reduceToNat, Int.reduceLE, Int.reduceLT]; rfl) | (simp (disch := omega) only [go_sem, wrap_i64, ↓reduceIte, Nat.reduceEqDiff, Nat.reduceAdd, Nat.reduceSub, Nat.reduceMul, Nat.reduceLeDiff, reduceCtorEq, Int.reduceToNat, Int.reduceLE, Int.reduceLT, hb]; rfl)) ?_
    refine aL_GT rfl rfl (by simp (disch := omega) only [go_sem, wrap_i64, ↓reduceIte, Nat.reduceEqDiff, Nat.reduceAdd, Nat.reduceSub, Nat.reduceMul, Nat.reduceLeDiff, reduceCtorEq, Int.reduceToNat, Int.reduceLE, Int.reduceLT]; rfl) rfl (by intro hb; have hb' := hb; (try simp only [decide_eq_true_eq, decide_eq_false_iff_not, Bool.not_eq_true', Bool.not_eq_false', Bool.and_eq_true, Bool.or_eq_true, Bool.and_eq_false_iff, Bool.or_eq_false_iff, Bool.not_eq_eq_eq_not, Bool.not_true, Bool.not_false, Int.not_le, Int.not_lt, beq_iff_eq] at hb'); (try simp only [Bool.and_eq_true] at hb); first | (simp (disch := omega) only [go_sem, wrap_i64, ↓reduceIte, Nat.reduceEqDiff, Nat.reduceAdd, Nat.reduceSub, Nat.reduceMul, Nat.reduceLeDiff, reduceCtorEq, Int.reduceToNat, Int.reduceLE, Int.reduceLT]; rfl) | (simp (disch := omega) only [go_sem, wrap_i64, ↓reduceIte, Nat.reduceEqDiff, Nat.reduceAdd, Nat.reduceSub, Nat.reduceMul, Nat.reduceLeDiff, reduceCtorEq, Int.reduceToNat, Int.reduceLE, Int.reduceLT, hb]; rfl)) ?_
    refine aL_GT rfl rfl (by simp (disch := omega) only [go_sem, wrap_i64, ↓reduceIte, Nat.reduceEqDiff, Nat.reduceAdd, Nat.reduceSub, Nat.reduceMul, Nat.reduceLeDiff, reduceCtorEq, Int.reduceToNat, Int.reduceLE, Int.reduceLT]; rfl) rfl (by intro hb; have hb' := hb; (try simp only [decide_eq_true_eq, decide_eq_false_iff_not, Bool.not_eq_true', Bool.not_eq_false', Bool.and_eq_true, Bool.or_eq_true, Bool.and_eq_false_iff, Bool.or_eq_false_iff, Bool.not_eq_eq_eq_not, Bool.not_true, Bool.not_false, Int.not_le, Int.not_lt, beq_iff_eq] at hb'); (try simp only [Bool.and_eq_true] at hb); first | (simp (disch := omega) only [go_sem, wrap_i64, ↓reduceIte, Nat.reduceEqDiff, Nat.reduceAdd, Nat.reduceSub, Nat.reduceMul, Nat.reduceLeDiff, reduceCtorEq, Int.reduceToNat, Int.reduceLE, Int.reduceLT]; rfl) | (simp (disch := omega) only [go_sem, wrap_i64, ↓reduceIte, Nat.reduceEqDiff, Nat.reduceAdd, Nat.reduceSub, Nat.reduceMul, Nat.reduceLeDiff, reduceCtorEq, Int.reduceToNat, Int.reduceLE, Int.reduceLT, hb]; rfl)) ?_
    (refine aL_S rfl rfl (by simp (disch := omega) only [go_sem, wrap_i64, ↓reduceIte, Nat.reduceEqDiff, Nat.reduceAdd, Nat.reduceSub, Nat.reduceMul, Nat.reduceLeDiff, reduceCtorEq, Int.reduceToNat, Int.reduceLE, Int.reduceLT]; rfl) ?_)
    refine aL_nil ?_
    refine awp_cond (by simp (disch := omega) only [go_sem, wrap_i64, ↓reduceIte, Nat.reduceEqDiff, Nat.reduceAdd, Nat.reduceSub, Nat.reduceMul, Nat.reduceLeDiff, reduceCtorEq, Int.reduceToNat, Int.reduceLE, Int.reduceLT]; rfl) (fun hc4 => ?_) (fun hc4 => ?_)
    · (try simp only [decide_eq_true_eq, decide_eq_false_iff_not, Bool.not_eq_true', Bool.not_eq_false', Bool.and_eq_true, Bool.or_eq_true, Bool.and_eq_false_iff, Bool.or_eq_false_iff, Bool.not_eq_eq_eq_not, Bool.not_true, Bool.not_false, Int.not_le, Int.not_lt, beq_iff_eq] at hc4)
      refine awp_skip ?_
      refine awp_seq ?_
      refine awp_block ?_
      refine awp_seq ?_
      obtain ⟨x, hx⟩ : ∃ x, a[i]? = some x := ⟨a[i]'(by omega), by simp [show i < a.length by omega]⟩
      obtain ⟨y, hy⟩ : ∃ y, b[i]? = some y := ⟨b[i]'(by omega), by simp [show i < b.length by omega]⟩
      refine awp_draw (.op 0 0 (.op 1 0 (.op 2 0 (.op 3 0 (.op 4 0 (.op 5 0 (.op 6 0 (.op 7 0 (.op 8 0 .nil))))))))) Try.mixed (by kernel_rfl) ?_
      (refine dR_S (by simp only [List.getElem?_toArray, List.getElem?_cons_zero, List.getElem?_cons_succ]; rfl) (by rfl) (by rfl) (by simp (disch := omega) only [go_sem, wrap_i64, ↓reduceIte, Nat.reduceEqDiff, Nat.reduceAdd, Nat.reduceSub, Nat.reduceMul, Nat.reduceLeDiff, reduceCtorEq, Int.reduceToNat, Int.reduceLE, Int.reduceLT, List.getElem?_map, hx, hy]; rfl) ?_)
      (refine dR_S (by simp only [List.getElem?_toArray, List.getElem?_cons_zero, List.getElem?_cons_succ]; rfl) (by rfl) (by rfl) (by simp (disch := omega) only [go_sem, wrap_i64, ↓reduceIte, Nat.reduceEqDiff, Nat.reduceAdd, Nat.reduceSub, Nat.reduceMul, Nat.reduceLeDiff, reduceCtorEq, Int.reduceToNat, Int.reduceLE, Int.reduceLT, List.getElem?_map, hx, hy]; rfl) ?_)
      (refine dR_S (by simp only [List.getElem?_toArray, List.getElem?_cons_zero, List.getElem?_cons_succ]; rfl) (by rfl) (by rfl) (by simp (disch := omega) only [go_sem, wrap_i64, ↓reduceIte, Nat.reduceEqDiff, Nat.reduceAdd, Nat.reduceSub, Nat.reduceMul, Nat.reduceLeDiff, reduceCtorEq, Int.reduceToNat, Int.reduceLE, Int.reduceLT, List.getElem?_map, hx, hy]; rfl) ?_)
      (refine dR_S (by simp only [List.getElem?_toArray, List.getElem?_cons_zero, List.getElem?_cons_succ]; rfl) (by rfl) (by rfl) (by simp (disch := omega) only [go_sem, wrap_i64, ↓reduceIte, Nat.reduceEqDiff, Nat.reduceAdd, Nat.reduceSub, Nat.reduceMul, Nat.reduceLeDiff, reduceCtorEq, Int.reduceToNat, Int.reduceLE, Int.reduceLT, List.getElem?_map, hx, hy]; rfl) ?_)
      (refine dR_S (by simp only [List.getElem?_toArray, List.getElem?_cons_zero, List.getElem?_cons_succ]; rfl) (by rfl) (by rfl) (by simp (disch := omega) only [go_sem, wrap_i64, ↓reduceIte, Nat.reduceEqDiff, Nat.reduceAdd, Nat.reduceSub, Nat.reduceMul, Nat.reduceLeDiff, reduceCtorEq, Int.reduceToNat, Int.reduceLE, Int.reduceLT, List.getElem?_map, hx, hy]; rfl) ?_)
      (refine dR_S (by simp only [List.getElem?_toArray, List.getElem?_cons_zero, List.getElem?_cons_succ]; rfl) (by rfl) (by rfl) (by simp (disch := omega) only [go_sem, wrap_i64, ↓reduceIte, Nat.reduceEqDiff, Nat.reduceAdd, Nat.reduceSub, Nat.reduceMul, Nat.reduceLeDiff, reduceCtorEq, Int.reduceToNat, Int.reduceLE, Int.reduceLT, List.getElem?_map, hx, hy]; rfl) ?_)
      (refine dR_S (by simp only [List.getElem?_toArray, List.getElem?_cons_zero, List.getElem?_cons_succ]; rfl) (by rfl) (by rfl) (by simp (disch := omega) only [go_sem, wrap_i64, ↓reduceIte, Nat.reduceEqDiff, Nat.reduceAdd, Nat.reduceSub, Nat.reduceMul, Nat.reduceLeDiff, reduceCtorEq, Int.reduceToNat, Int.reduceLE, Int.reduceLT, List.getElem?_map, hx, hy]; rfl) ?_)
      (refine dR_S (by simp only [List.getElem?_toArray, List.getElem?_cons_zero, List.getElem?_cons_succ]; rfl) (by rfl) (by rfl) (by simp (disch := omega) only [go_sem, wrap_i64, ↓reduceIte, Nat.reduceEqDiff, Nat.reduceAdd, Nat.reduceSub, Nat.reduceMul, Nat.reduceLeDiff, reduceCtorEq, Int.reduceToNat, Int.reduceLE, Int.reduceLT, List.getElem?_map, hx, hy]; rfl) ?_)
      (refine dR_S (by simp only [List.getElem?_toArray, List.getElem?_cons_zero, List.getElem?_cons_succ]; rfl) (by rfl) (by rfl) (by simp (disch := omega) only [go_sem, wrap_i64, ↓reduceIte, Nat.reduceEqDiff, Nat.reduceAdd, Nat.reduceSub, Nat.reduceMul, Nat.reduceLeDiff, reduceCtorEq, Int.reduceToNat, Int.reduceLE, Int.reduceLT, List.getElem?_map, hx, hy]; rfl) ?_)
      refine dR_nil ?_
      refine awp_cond (by simp (disch := omega) only [go_sem, wrap_i64, ↓reduceIte, Nat.reduceEqDiff, Nat.reduceAdd, Nat.reduceSub, Nat.reduceMul, Nat.reduceLeDiff, reduceCtorEq, Int.reduceToNat, Int.reduceLE, Int.reduceLT]; rfl) (fun hc6 => ?_) (fun hc6 => ?_)
      · (try simp only [decide_eq_true_eq, decide_eq_false_iff_not, Bool.not_eq_true', Bool.not_eq_false', Bool.and_eq_true, Bool.or_eq_true, Bool.and_eq_false_iff, Bool.or_eq_false_iff, Bool.not_eq_eq_eq_not, Bool.not_true, Bool.not_false, Int.not_le, Int.not_lt, beq_iff_eq] at hc6)
        refine awp_seq ?_
        refine awp_region (by kernel_rfl) ?_
        (refine aL_S rfl rfl (by simp (disch := omega) only [go_sem, wrap_i64, ↓reduceIte, Nat.reduceEqDiff, Nat.reduceAdd, Nat.reduceSub, Nat.reduceMul, Nat.reduceLeDiff, reduceCtorEq, Int.reduceToNat, Int.reduceLE, Int.reduceLT]; rfl) ?_)
        refine aL_nil ?_
        refine awp_ret ?_
        refine aEnd_ret (σ' := σ) (by simp (disch := omega) only [go_sem, wrap_i64, ↓reduceIte, Nat.reduceEqDiff, Nat.reduceAdd, Nat.reduceSub, Nat.reduceMul, Nat.reduceLeDiff, reduceCtorEq, Int.reduceToNat, Int.reduceLE, Int.reduceLT]; rfl) (by first | exact Store.Wk.refl _ | exact Store.Sub.refl _ | ((try dsimp only); (try simp (disch := assumption) only [Store.newTok_set, Store.newTok_step]); (first | refine subx_start ?_ | refine subx_startS ?_); (repeat (first | refine subx_skip (.head _) ?_ | refine subx_skip (.tail _ (.head _)) ?_ | refine subx_skip (.tail _ (.tail _ (.head _))) ?_ | refine subx_skip (.tail _ (.tail _ (.tail _ (.head _)))) ?_ | refine subx_left (by first | (simp (disch := omega) only [go_sem, ↓reduceIte, Nat.reduceEqDiff, Nat.reduceAdd, Nat.reduceSub, Nat.reduceMul, Nat.reduceLeDiff, reduceCtorEq, Int.reduceToNat, Int.reduceLE, Int.reduceLT]; rfl) | simp (disch := omega) only [go_sem, ↓reduceIte, Nat.reduceEqDiff, Nat.reduceAdd, Nat.reduceSub, Nat.reduceMul, Nat.reduceLeDiff, reduceCtorEq, Int.reduceToNat, Int.reduceLE, Int.reduceLT]) ?_)); (repeat (first | exact subx_refl | refine subx_in (.head _) ?_ | refine subx_in (.tail _ (.head _)) ?_ | refine subx_in (.tail _ (.tail _ (.head _))) ?_ | refine subx_in (.tail _ (.tail _ (.tail _ (.head _)))) ?_ | refine subx_new (by first | assumption | (simp only [Store.newTok_heap]; assumption)) ?_ | refine subx_tok ?_ | refine subx_newTok (by assumption) ?_)))) ?_
        exact ⟨by rw [decide_eq_false (fun hh => hc6 (by rw [hh, hy] at hx; exact (Option.some.inj hx).symm))], rfl⟩
      · (try simp only [decide_eq_true_eq, decide_eq_false_iff_not, Bool.not_eq_true', Bool.not_eq_false', Bool.and_eq_true, Bool.or_eq_true, Bool.and_eq_false_iff, Bool.or_eq_false_iff, Bool.not_eq_eq_eq_not, Bool.not_true, Bool.not_false, Int.not_le, Int.not_lt, beq_iff_eq] at hc6)
        refine awp_skip ?_
        refine awp_region (by kernel_rfl) ?_
        iterate 3 (refine aL_S rfl rfl (by simp (disch := omega) only [go_sem, wrap_i64, ↓reduceIte, Nat.reduceEqDiff, Nat.reduceAdd, Nat.reduceSub, Nat.reduceMul, Nat.reduceLeDiff, reduceCtorEq, Int.reduceToNat, Int.reduceLE, Int.reduceLT]; rfl) ?_)
        refine aL_nil ?_
        refine aNext (ι := Nat) (i := i) (i + 1) ?_ ?_ ?_ ?_
        · omega
        · exact ⟨by omega, fun k hk => (Nat.lt_succ_iff_lt_or_eq.1 hk).elim (h2 k) fun hh => by rw [hh, hx, hy, hc6]⟩
        · ((repeat (refine covers.eq (by first | rfl | (simp (disch := omega) only [go_sem, wrap_i64, ↓reduceIte, Nat.reduceEqDiff, Nat.reduceAdd, Nat.reduceSub, Nat.reduceMul, Nat.reduceLeDiff, reduceCtorEq, Int.reduceToNat, Int.reduceLE, Int.reduceLT]; rfl) | (simp (disch := omega) only [go_sem, wrap_i64, ↓reduceIte, Nat.reduceEqDiff, Nat.reduceAdd, Nat.reduceSub, Nat.reduceMul, Nat.reduceLeDiff, reduceCtorEq, Int.reduceToNat, Int.reduceLE, Int.reduceLT])) ?_)); exact covers.nil)
        · first | exact Store.Wk.refl _ | exact Store.Sub.refl _ | ((try dsimp only); (try simp (disch := assumption) only [Store.newTok_set, Store.newTok_step]); (first | refine subx_start ?_ | refine subx_startS ?_); (repeat (first | refine subx_skip (.head _) ?_ | refine subx_skip (.tail _ (.head _)) ?_ | refine subx_skip (.tail _ (.tail _ (.head _))) ?_ | refine subx_skip (.tail _ (.tail _ (.tail _ (.head _)))) ?_ | refine subx_left (by first | (simp (disch := omega) only [go_sem, ↓reduceIte, Nat.reduceEqDiff, Nat.reduceAdd, Nat.reduceSub, Nat.reduceMul, Nat.reduceLeDiff, reduceCtorEq, Int.reduceToNat, Int.reduceLE, Int.reduceLT]; rfl) | simp (disch := omega) only [go_sem, ↓reduceIte, Nat.reduceEqDiff, Nat.reduceAdd, Nat.reduceSub, Nat.reduceMul, Nat.reduceLeDiff, reduceCtorEq, Int.reduceToNat, Int.reduceLE, Int.reduceLT]) ?_)); (repeat (first | exact subx_refl | refine subx_in (.head _) ?_ | refine subx_in (.tail _ (.head _)) ?_ | refine subx_in (.tail _ (.tail _ (.head _))) ?_ | refine subx_in (.tail _ (.tail _ (.tail _ (.head _)))) ?_ | refine subx_new (by first | assumption | (simp only [Store.newTok_heap]; assumption)) ?_ | refine subx_tok ?_ | refine subx_newTok (by assumption) ?_)))
    · (try simp only [decide_eq_true_eq, decide_eq_false_iff_not, Bool.not_eq_true', Bool.not_eq_false', Bool.and_eq_true, Bool.or_eq_true, Bool.and_eq_false_iff, Bool.or_eq_false_iff, Bool.not_eq_eq_eq_not, Bool.not_true, Bool.not_false, Int.not_le, Int.not_lt, beq_iff_eq] at hc4)
      refine awp_exit ?_
      refine aThen_exit ?_
      refine aThen_exit ?_
      refine aBlock_hit ?_
      refine awp_seq ?_
      refine awp_region (by kernel_rfl) ?_
      (refine aL_S rfl rfl (by simp (disch := omega) only [go_sem, wrap_i64, ↓reduceIte, Nat.reduceEqDiff, Nat.reduceAdd, Nat.reduceSub, Nat.reduceMul, Nat.reduceLeDiff, reduceCtorEq, Int.reduceToNat, Int.reduceLE, Int.reduceLT]; rfl) ?_)
      refine aL_nil ?_
      refine awp_ret ?_
      refine aEnd_ret (σ' := σ) (by simp (disch := omega) only [go_sem, wrap_i64, ↓reduceIte, Nat.reduceEqDiff, Nat.reduceAdd, Nat.reduceSub, Nat.reduceMul, Nat.reduceLeDiff, reduceCtorEq, Int.reduceToNat, Int.reduceLE, Int.reduceLT]; rfl) (by first | exact Store.Wk.refl _ | exact Store.Sub.refl _ | ((try dsimp only); (try simp (disch := assumption) only [Store.newTok_set, Store.newTok_step]); (first | refine subx_start ?_ | refine subx_startS ?_); (repeat (first | refine subx_skip (.head _) ?_ | refine subx_skip (.tail _ (.head _)) ?_ | refine subx_skip (.tail _ (.tail _ (.head _))) ?_ | refine subx_skip (.tail _ (.tail _ (.tail _ (.head _)))) ?_ | refine subx_left (by first | (simp (disch := omega) only [go_sem, ↓reduceIte, Nat.reduceEqDiff, Nat.reduceAdd, Nat.reduceSub, Nat.reduceMul, Nat.reduceLeDiff, reduceCtorEq, Int.reduceToNat, Int.reduceLE, Int.reduceLT]; rfl) | simp (disch := omega) only [go_sem, ↓reduceIte, Nat.reduceEqDiff, Nat.reduceAdd, Nat.reduceSub, Nat.reduceMul, Nat.reduceLeDiff, reduceCtorEq, Int.reduceToNat, Int.reduceLE, Int.reduceLT]) ?_)); (repeat (first | exact subx_refl | refine subx_in (.head _) ?_ | refine subx_in (.tail _ (.head _)) ?_ | refine subx_in (.tail _ (.tail _ (.head _))) ?_ | refine subx_in (.tail _ (.tail _ (.tail _ (.head _)))) ?_ | refine subx_new (by first | assumption | (simp only [Store.newTok_heap]; assumption)) ?_ | refine subx_tok ?_ | refine subx_newTok (by assumption) ?_)))) ?_
      refine ⟨by rw [decide_eq_true]; apply List.ext_getElem?; intro k; exact (Nat.lt_or_ge k i).elim (h2 k) fun hk => by rw [List.getElem?_eq_none (by omega), List.getElem?_eq_none (by omega)], rfl⟩

theorem TAt.trim {σ : Store} {T : Nat} {L : List Ent} {S : List Nat} (h : TAt σ T L S) : ∃ S1, TAt σ T L S1 ∧ (∀ o ∈ S1, o ∈ S) ∧ ∀ o ∈ S1, σ.heap o ≠ none := by
  obtain ⟨⟨bv, Sq, h1, h2⟩, h3, h4⟩ := h
  obtain ⟨S1, q1, q2, q3⟩ := h1.trim
  rcases h2 with ⟨rfl, rfl, rfl⟩ | ⟨om, M, rfl, hom, rfl, hm, hM⟩
  · exact ⟨S1, ⟨⟨_, S1, q1, .inl ⟨rfl, rfl, rfl⟩⟩, h3, h4⟩, q2, q3⟩
  · refine ⟨om :: S1, ⟨⟨_, S1, q1, .inr ⟨om, M, rfl, fun hh => hom (q2 om hh), rfl, hm, hM⟩⟩, h3, h4⟩, fun o ho => ?_, fun o ho => ?_⟩
    · rcases List.mem_cons.1 ho with rfl | ho
      · exact List.mem_cons_self ..
      · exact List.mem_cons_of_mem _ (q2 o ho)
    · rcases List.mem_cons.1 ho with rfl | ho
      · rw [hm]; exact fun h => nomatch h
      · exact q3 o ho

/-- a timer of which is said what it holds -/
structure TL (σ : Store) (T : Nat) (l : List (Int × Int)) (S : List Nat) : Prop where
  ex : ∃ L, TAt σ T L S ∧ (calls L).Perm l
  live : ∀ o ∈ S, σ.heap o ≠ none

theorem TL.of {σ : Store} {T : Nat} {L : List Ent} {l : List (Int × Int)} {S : List Nat} (h : TAt σ T L S) (hp : (calls L).Perm l) {σ0 : Store} {S0 : List Nat} (hf : Fr σ0 S0 σ S) : ∃ S1, TL σ T l S1 ∧ Fr σ0 S0 σ S1 := by
  obtain ⟨S1, h1, h2, h3⟩ := h.trim
  exact ⟨S1, ⟨⟨L, h1, hp⟩, h3⟩, hf.less h2⟩
theorem TL.len {σ : Store} {T : Nat} {l : List (Int × Int)} {S : List Nat} (h : TL σ T l S) : l.length ≤ 1000 := by
  obtain ⟨⟨L, h1, h2⟩, _⟩ := h
  have := h1.len
  have e := h2.length_eq
  simp only [calls, List.length_map] at e
  omega
theorem TL.alloc {σ : Store} {T o : Nat} {x : AObj} {l : List (Int × Int)} {S : List Nat} (h : TL σ T l S) (ho : σ.heap o = none) : TL (σ.set o x) T l S := by
  obtain ⟨⟨L, h1, h2⟩, h3⟩ := h
  refine ⟨⟨L, h1.alloc ho, h2⟩, fun i hi hh => ?_⟩
  by_cases hio : i = o
  · rw [hio, Store.set_get] at hh; cases hh
  · rw [Store.set_ne _ _ hio] at hh; exact h3 i hi hh
theorem TL.set_ne {σ : Store} {T o : Nat} {x : AObj} {l : List (Int × Int)} {S : List Nat} (h : TL σ T l S) (ho : o ∉ S) : TL (σ.set o x) T l S := by
  obtain ⟨⟨L, h1, h2⟩, h3⟩ := h
  have hne : ∀ i ∈ S, i ≠ o := fun i hi hh => ho (hh ▸ hi)
  exact ⟨⟨L, h1.congr fun i hi => Store.set_ne _ _ (hne i hi), h2⟩, fun i hi => by rw [Store.set_ne _ _ (hne i hi)]; exact h3 i hi⟩
theorem TL.frame {σ σ' : Store} {T : Nat} {l : List (Int × Int)} {S S1 S2 : List Nat} (h : TL σ T l S) (hf : Fr σ S1 σ' S2) (hd : ∀ o ∈ S, o ∉ S1) : TL σ' T l S ∧ ∀ o ∈ S, o ∉ S2 := by
  obtain ⟨⟨L, h1, h2⟩, h3⟩ := h
  have key : ∀ o ∈ S, o ∉ S2 ∧ σ'.heap o ≠ none := fun o ho => by
    cases hx : σ.heap o with
    | none => exact absurd hx (h3 o ho)
    | some x =>
      obtain ⟨q1, q2⟩ := hf.apart hx (hd o ho)
      exact ⟨q1, by rw [q2]; exact fun h => nomatch h⟩
  exact ⟨⟨⟨L, h1.frame hf hd, h2⟩, fun o ho => (key o ho).2⟩, fun o ho => (key o ho).1⟩

theorem lSet_c {σ : Store} {T : Nat} {l : List (Int × Int)} {S : List Nat} {c a : Int} (h : TL σ T l S) (hl : l.length < 1000) :
    ACalls Try.prog 39 [.ref T 0, vInt c, vInt a] σ fun v σ' => v = .tup [] ∧ ∃ S', TL σ' T (setS l c a) S' ∧ Fr σ S σ' S' := by
  obtain ⟨⟨L, h1, h2⟩, _⟩ := h
  have e := h2.length_eq
  simp only [calls, List.length_map] at e
  refine (tSet_c h1 (by omega)).mono fun v σ' hh => ⟨hh.1, ?_⟩
  obtain ⟨L', S', q1, q2, q3⟩ := hh.2
  exact TL.of q1 (q3.trans (setS_perm h2 c a)) q2
theorem lLen_c {σ : Store} {T : Nat} {l : List (Int × Int)} {S : List Nat} (h : TL σ T l S) : ACalls Try.prog 38 [.ref T 0] σ fun v σ' => v = vInt l.length ∧ σ = σ' := by
  obtain ⟨⟨L, h1, h2⟩, _⟩ := h
  have e := h2.length_eq
  simp only [calls, List.length_map] at e
  rw [← e]; exact tLen_c h1
theorem lNext_c {σ : Store} {T : Nat} {l : List (Int × Int)} {S : List Nat} (h : TL σ T l S) : ACalls Try.prog 35 [.ref T 0] σ fun v σ' => v = (if l.length = 0 then .tup [vInt 0, vBool false] else .tup [vInt (firstE l).2, vBool true]) ∧ σ = σ' := by
  obtain ⟨⟨L, h1, h2⟩, _⟩ := h
  have e := h2.length_eq
  simp only [calls, List.length_map] at e
  refine (tNext_c h1).mono fun v σ' hh => ⟨hh.1.trans ?_, hh.2⟩
  rw [e]
  split
  · rfl
  · rw [first_heap h1.heap h2 (by omega)]
theorem lDue_c {σ : Store} {T : Nat} {l : List (Int × Int)} {S : List Nat} {now : Int} (h : TL σ T l S) :
    ACalls Try.prog 40 [.ref T 0, vInt now] σ fun v σ' => v = .sl 1 ((dueS now l).1.map vInt) false ∧ ∃ S', TL σ' T (dueS now l).2 S' ∧ Fr σ S σ' S' := by
  obtain ⟨⟨L, h1, h2⟩, _⟩ := h
  refine (tDue_c h1 h2).mono fun v σ' hh => ?_
  obtain ⟨L', S', q0, q1, q2, q3⟩ := hh
  exact ⟨q0, TL.of q1 q3 q2⟩
theorem ldo_c {σ : Store} {T : Nat} {S : List Nat} {a : TAct} {l : List (Int × Int)} (h : TL σ T l S) (hl : l.length < 1000) :
    ACalls Try.prog 31 [.ref T 0, .agg [vInt a.1, vInt a.2.1, vInt a.2.2]] σ fun v σ' => v = .sl 1 ((actR a l).map vInt) false ∧ ∃ S', TL σ' T (actS a l) S' ∧ Fr σ S σ' S' := by
  obtain ⟨⟨L, h1, h2⟩, _⟩ := h
  have e := h2.length_eq
  simp only [calls, List.length_map] at e
  refine (tdo_c h1 h2 (by omega)).mono fun v σ' hh => ?_
  obtain ⟨L', S', q0, q1, q2, q3⟩ := hh
  exact ⟨q0, TL.of q1 q3 q2⟩
theorem TL.new {σ : Store} {T : Nat} : TL (σ.set T (.cells [.lit (.slice none 0 0), .lit (.map none)])) T [] [T] :=
  ⟨⟨[], TAt.new, .refl _⟩, fun o ho => by obtain rfl := List.mem_singleton.1 ho; rw [Store.set_get]; exact fun h => nomatch h⟩

theorem awake35_c {σ : Store} : ACalls Try.prog 29 [] σ fun v _ => v = vBool true := by
  have e1 : setS (setS (setS [] 1 5) 2 3) 1 3 = [(2, 3), (1, 3)] := by decide
  have e2 : dueS 2 [(2, 3), (1, 3)] = ([], [(2, 3), (1, 3)]) := by decide
  have e3 : dueS 3 [(2, 3), (1, 3)] = ([1, 2], []) := by decide
  have e4 : (firstE [(2, 3), (1, 3)]).2 = 3 := by decide
  refine ACalls_of Try.func29 rfl Try.ntmps29 (congrArg Array.toList Try.results29) (by simp only [List.length_cons, List.length_nil]; decide) ?_; simp only [envOf_cons, envOf_nil, Nat.reduceAdd]
  refine awp_seq ?_
  refine awp_region (by kernel_rfl) ?_
  (refine aL_S rfl rfl (by simp (disch := omega) only [go_sem, wrap_i64, ↓reduceIte, Nat.reduceEqDiff, Nat.reduceAdd, Nat.reduceSub, Nat.reduceMul, Nat.reduceLeDiff, reduceCtorEq, Int.reduceToNat, Int.reduceLE, Int.reduceLT]; rfl) ?_)
  refine aL_nil ?_
  refine awp_seq ?_
  refine awp_region (by kernel_rfl) ?_
  refine aL_X rfl rfl (AOp_use rfl rfl (.inr ⟨rfl, rfl, rfl⟩) (by simp only [go_sem]) (by first | (simp (disch := omega) only [go_sem, wrap_i64, ↓reduceIte, Nat.reduceEqDiff, Nat.reduceAdd, Nat.reduceSub, Nat.reduceMul, Nat.reduceLeDiff, reduceCtorEq, Int.reduceToNat, Int.reduceLE, Int.reduceLT]; rfl) | (simp (disch := omega) only [go_sem, wrap_i64, ↓reduceIte, Nat.reduceEqDiff, Nat.reduceAdd, Nat.reduceSub, Nat.reduceMul, Nat.reduceLeDiff, reduceCtorEq, Int.reduceToNat, Int.reduceLE, Int.reduceLT])) (tNew_c) ?_); rintro _ _ ⟨T, hT, rfl, rfl⟩
  (refine aL_S rfl rfl (by simp (disch := omega) only [go_sem, wrap_i64, ↓reduceIte, Nat.reduceEqDiff, Nat.reduceAdd, Nat.reduceSub, Nat.reduceMul, Nat.reduceLeDiff, reduceCtorEq, Int.reduceToNat, Int.reduceLE, Int.reduceLT]; rfl) ?_)
  refine aL_nil ?_
  refine awp_seq ?_
  refine awp_region (by kernel_rfl) ?_
  (refine aL_S rfl rfl (by simp (disch := omega) only [go_sem, wrap_i64, ↓reduceIte, Nat.reduceEqDiff, Nat.reduceAdd, Nat.reduceSub, Nat.reduceMul, Nat.reduceLeDiff, reduceCtorEq, Int.reduceToNat, Int.reduceLE, Int.reduceLT]; rfl) ?_)
  refine aL_X rfl rfl (AOp_use rfl rfl (.inr ⟨rfl, rfl, rfl⟩) (by simp only [go_sem]) (by first | (simp (disch := omega) only [go_sem, wrap_i64, ↓reduceIte, Nat.reduceEqDiff, Nat.reduceAdd, Nat.reduceSub, Nat.reduceMul, Nat.reduceLeDiff, reduceCtorEq, Int.reduceToNat, Int.reduceLE, Int.reduceLT]; rfl) | (simp (disch := omega) only [go_sem, wrap_i64, ↓reduceIte, Nat.reduceEqDiff, Nat.reduceAdd, Nat.reduceSub, Nat.reduceMul, Nat.reduceLeDiff, reduceCtorEq, Int.reduceToNat, Int.reduceLE, Int.reduceLT])) (lSet_c TL.new (by decide)) ?_); rintro _ τ1 ⟨rfl, S1, h1, f1⟩
  refine aL_nil ?_
  refine awp_seq ?_
  refine awp_region (by kernel_rfl) ?_
  (refine aL_S rfl rfl (by simp (disch := omega) only [go_sem, wrap_i64, ↓reduceIte, Nat.reduceEqDiff, Nat.reduceAdd, Nat.reduceSub, Nat.reduceMul, Nat.reduceLeDiff, reduceCtorEq, Int.reduceToNat, Int.reduceLE, Int.reduceLT]; rfl) ?_)
  refine aL_X rfl rfl (AOp_use rfl rfl (.inr ⟨rfl, rfl, rfl⟩) (by simp only [go_sem]) (by first | (simp (disch := omega) only [go_sem, wrap_i64, ↓reduceIte, Nat.reduceEqDiff, Nat.reduceAdd, Nat.reduceSub, Nat.reduceMul, Nat.reduceLeDiff, reduceCtorEq, Int.reduceToNat, Int.reduceLE, Int.reduceLT]; rfl) | (simp (disch := omega) only [go_sem, wrap_i64, ↓reduceIte, Nat.reduceEqDiff, Nat.reduceAdd, Nat.reduceSub, Nat.reduceMul, Nat.reduceLeDiff, reduceCtorEq, Int.reduceToNat, Int.reduceLE, Int.reduceLT])) (lSet_c h1 (by decide)) ?_); rintro _ τ2 ⟨rfl, S2, h2, f2⟩
  refine aL_nil ?_
  refine awp_seq ?_
  refine awp_region (by kernel_rfl) ?_
  (refine aL_S rfl rfl (by simp (disch := omega) only [go_sem, wrap_i64, ↓reduceIte, Nat.reduceEqDiff, Nat.reduceAdd, Nat.reduceSub, Nat.reduceMul, Nat.reduceLeDiff, reduceCtorEq, Int.reduceToNat, Int.reduceLE, Int.reduceLT]; rfl) ?_)
  refine aL_X rfl rfl (AOp_use rfl rfl (.inr ⟨rfl, rfl, rfl⟩) (by simp only [go_sem]) (by first | (simp (disch := omega) only [go_sem, wrap_i64, ↓reduceIte, Nat.reduceEqDiff, Nat.reduceAdd, Nat.reduceSub, Nat.reduceMul, Nat.reduceLeDiff, reduceCtorEq, Int.reduceToNat, Int.reduceLE, Int.reduceLT]; rfl) | (simp (disch := omega) only [go_sem, wrap_i64, ↓reduceIte, Nat.reduceEqDiff, Nat.reduceAdd, Nat.reduceSub, Nat.reduceMul, Nat.reduceLeDiff, reduceCtorEq, Int.reduceToNat, Int.reduceLE, Int.reduceLT])) (lSet_c h2 (by decide)) ?_); rintro _ τ3 ⟨rfl, S3, h3, f3⟩
  refine aL_nil ?_
  refine awp_seq ?_
  rw [e1] at h3
  refine awp_region (by kernel_rfl) ?_
  (refine aL_S rfl rfl (by simp (disch := omega) only [go_sem, wrap_i64, ↓reduceIte, Nat.reduceEqDiff, Nat.reduceAdd, Nat.reduceSub, Nat.reduceMul, Nat.reduceLeDiff, reduceCtorEq, Int.reduceToNat, Int.reduceLE, Int.reduceLT]; rfl) ?_)
  refine aL_X rfl rfl (AOp_use rfl rfl (.inr ⟨rfl, rfl, rfl⟩) (by simp only [go_sem]) (by first | (simp (disch := omega) only [go_sem, wrap_i64, ↓reduceIte, Nat.reduceEqDiff, Nat.reduceAdd, Nat.reduceSub, Nat.reduceMul, Nat.reduceLeDiff, reduceCtorEq, Int.reduceToNat, Int.reduceLE, Int.reduceLT]; rfl) | (simp (disch := omega) only [go_sem, wrap_i64, ↓reduceIte, Nat.reduceEqDiff, Nat.reduceAdd, Nat.reduceSub, Nat.reduceMul, Nat.reduceLeDiff, reduceCtorEq, Int.reduceToNat, Int.reduceLE, Int.reduceLT])) ((lNext_c h3).mono (fun v σ' hh => (⟨hh.1.trans (by rw [if_neg (by decide), e4]), hh.2⟩ : v = .tup [vInt 3, vBool true] ∧ τ3 = σ'))) ?_); rintro _ _ ⟨rfl, rfl⟩
  iterate 5 (refine aL_S rfl rfl (by simp (disch := omega) only [go_sem, wrap_i64, ↓reduceIte, Nat.reduceEqDiff, Nat.reduceAdd, Nat.reduceSub, Nat.reduceMul, Nat.reduceLeDiff, reduceCtorEq, Int.reduceToNat, Int.reduceLE, Int.reduceLT]; rfl) ?_)
  refine aL_nil ?_
  refine awp_seq ?_
  refine awp_region (by kernel_rfl) ?_
  iterate 3 (refine aL_S rfl rfl (by simp (disch := omega) only [go_sem, wrap_i64, ↓reduceIte, Nat.reduceEqDiff, Nat.reduceAdd, Nat.reduceSub, Nat.reduceMul, Nat.reduceLeDiff, reduceCtorEq, Int.reduceToNat, Int.reduceLE, Int.reduceLT]; rfl) ?_)
  refine aL_SY (wantedA_yes rfl rfl (by simp (disch := omega) only [go_sem, wrap_i64, ↓reduceIte, Nat.reduceEqDiff, Nat.reduceAdd, Nat.reduceSub, Nat.reduceMul, Nat.reduceLeDiff, reduceCtorEq, Int.reduceToNat, Int.reduceLE, Int.reduceLT]; rfl) (by rfl)) rfl (by simp (disch := omega) only [go_sem, wrap_i64, ↓reduceIte, Nat.reduceEqDiff, Nat.reduceAdd, Nat.reduceSub, Nat.reduceMul, Nat.reduceLeDiff, reduceCtorEq, Int.reduceToNat, Int.reduceLE, Int.reduceLT]; rfl) ?_
  iterate 2 (refine aL_S rfl rfl (by simp (disch := omega) only [go_sem, wrap_i64, ↓reduceIte, Nat.reduceEqDiff, Nat.reduceAdd, Nat.reduceSub, Nat.reduceMul, Nat.reduceLeDiff, reduceCtorEq, Int.reduceToNat, Int.reduceLE, Int.reduceLT]; rfl) ?_)
  refine aL_SY (wantedA_yes rfl rfl (by simp (disch := omega) only [go_sem, wrap_i64, ↓reduceIte, Nat.reduceEqDiff, Nat.reduceAdd, Nat.reduceSub, Nat.reduceMul, Nat.reduceLeDiff, reduceCtorEq, Int.reduceToNat, Int.reduceLE, Int.reduceLT]; rfl) (by rfl)) rfl (by simp (disch := omega) only [go_sem, wrap_i64, ↓reduceIte, Nat.reduceEqDiff, Nat.reduceAdd, Nat.reduceSub, Nat.reduceMul, Nat.reduceLeDiff, reduceCtorEq, Int.reduceToNat, Int.reduceLE, Int.reduceLT]; rfl) ?_
  refine aL_XY (wantedA_yes rfl rfl (by simp (disch := omega) only [go_sem, wrap_i64, ↓reduceIte, Nat.reduceEqDiff, Nat.reduceAdd, Nat.reduceSub, Nat.reduceMul, Nat.reduceLeDiff, reduceCtorEq, Int.reduceToNat, Int.reduceLE, Int.reduceLT]; rfl) (by rfl)) rfl (AOp_use rfl rfl (.inr ⟨rfl, rfl, rfl⟩) (by simp only [go_sem]) (by first | (simp (disch := omega) only [go_sem, wrap_i64, ↓reduceIte, Nat.reduceEqDiff, Nat.reduceAdd, Nat.reduceSub, Nat.reduceMul, Nat.reduceLeDiff, reduceCtorEq, Int.reduceToNat, Int.reduceLE, Int.reduceLT]; rfl) | (simp (disch := omega) only [go_sem, wrap_i64, ↓reduceIte, Nat.reduceEqDiff, Nat.reduceAdd, Nat.reduceSub, Nat.reduceMul, Nat.reduceLeDiff, reduceCtorEq, Int.reduceToNat, Int.reduceLE, Int.reduceLT])) (lLen_c h3) ?_); rintro _ _ ⟨rfl, rfl⟩
  refine aL_SY (wantedA_yes rfl rfl (by simp (disch := omega) only [go_sem, wrap_i64, ↓reduceIte, Nat.reduceEqDiff, Nat.reduceAdd, Nat.reduceSub, Nat.reduceMul, Nat.reduceLeDiff, reduceCtorEq, Int.reduceToNat, Int.reduceLE, Int.reduceLT]; rfl) (by rfl)) rfl (by simp (disch := omega) only [go_sem, wrap_i64, ↓reduceIte, Nat.reduceEqDiff, Nat.reduceAdd, Nat.reduceSub, Nat.reduceMul, Nat.reduceLeDiff, reduceCtorEq, Int.reduceToNat, Int.reduceLE, Int.reduceLT]; rfl) ?_
  iterate 2 (refine aL_S rfl rfl (by simp (disch := omega) only [go_sem, wrap_i64, ↓reduceIte, Nat.reduceEqDiff, Nat.reduceAdd, Nat.reduceSub, Nat.reduceMul, Nat.reduceLeDiff, reduceCtorEq, Int.reduceToNat, Int.reduceLE, Int.reduceLT]; rfl) ?_)
  refine aL_SY (wantedA_yes rfl rfl (by simp (disch := omega) only [go_sem, wrap_i64, ↓reduceIte, Nat.reduceEqDiff, Nat.reduceAdd, Nat.reduceSub, Nat.reduceMul, Nat.reduceLeDiff, reduceCtorEq, Int.reduceToNat, Int.reduceLE, Int.reduceLT]; rfl) (by rfl)) rfl (by simp (disch := omega) only [go_sem, wrap_i64, ↓reduceIte, Nat.reduceEqDiff, Nat.reduceAdd, Nat.reduceSub, Nat.reduceMul, Nat.reduceLeDiff, reduceCtorEq, Int.reduceToNat, Int.reduceLE, Int.reduceLT]; rfl) ?_
  refine aL_XY (wantedA_yes rfl rfl (by simp (disch := omega) only [go_sem, wrap_i64, ↓reduceIte, Nat.reduceEqDiff, Nat.reduceAdd, Nat.reduceSub, Nat.reduceMul, Nat.reduceLeDiff, reduceCtorEq, Int.reduceToNat, Int.reduceLE, Int.reduceLT]; rfl) (by rfl)) rfl (AOp_use rfl rfl (.inr ⟨rfl, rfl, rfl⟩) (by simp only [go_sem]) (by first | (simp (disch := omega) only [go_sem, wrap_i64, ↓reduceIte, Nat.reduceEqDiff, Nat.reduceAdd, Nat.reduceSub, Nat.reduceMul, Nat.reduceLeDiff, reduceCtorEq, Int.reduceToNat, Int.reduceLE, Int.reduceLT]; rfl) | (simp (disch := omega) only [go_sem, wrap_i64, ↓reduceIte, Nat.reduceEqDiff, Nat.reduceAdd, Nat.reduceSub, Nat.reduceMul, Nat.reduceLeDiff, reduceCtorEq, Int.reduceToNat, Int.reduceLE, Int.reduceLT])) (lDue_c (now := 2) h3) ?_); rintro _ τ4 ⟨rfl, S4, h4, f4⟩
  rw [e2] at h4 ⊢
  refine aL_SY (wantedA_yes rfl rfl (by simp (disch := omega) only [go_sem, wrap_i64, ↓reduceIte, Nat.reduceEqDiff, Nat.reduceAdd, Nat.reduceSub, Nat.reduceMul, Nat.reduceLeDiff, reduceCtorEq, Int.reduceToNat, Int.reduceLE, Int.reduceLT]; rfl) (by rfl)) rfl (by simp (disch := omega) only [go_sem, wrap_i64, ↓reduceIte, Nat.reduceEqDiff, Nat.reduceAdd, Nat.reduceSub, Nat.reduceMul, Nat.reduceLeDiff, reduceCtorEq, Int.reduceToNat, Int.reduceLE, Int.reduceLT]; rfl) ?_
  refine aL_SY (wantedA_yes rfl rfl (by simp (disch := omega) only [go_sem, wrap_i64, ↓reduceIte, Nat.reduceEqDiff, Nat.reduceAdd, Nat.reduceSub, Nat.reduceMul, Nat.reduceLeDiff, reduceCtorEq, Int.reduceToNat, Int.reduceLE, Int.reduceLT]; rfl) (by rfl)) rfl (by simp (disch := omega) only [go_sem, wrap_i64, ↓reduceIte, Nat.reduceEqDiff, Nat.reduceAdd, Nat.reduceSub, Nat.reduceMul, Nat.reduceLeDiff, reduceCtorEq, Int.reduceToNat, Int.reduceLE, Int.reduceLT]; rfl) ?_
  iterate 2 (refine aL_S rfl rfl (by simp (disch := omega) only [go_sem, wrap_i64, ↓reduceIte, Nat.reduceEqDiff, Nat.reduceAdd, Nat.reduceSub, Nat.reduceMul, Nat.reduceLeDiff, reduceCtorEq, Int.reduceToNat, Int.reduceLE, Int.reduceLT]; rfl) ?_)
  refine aL_SY (wantedA_yes rfl rfl (by simp (disch := omega) only [go_sem, wrap_i64, ↓reduceIte, Nat.reduceEqDiff, Nat.reduceAdd, Nat.reduceSub, Nat.reduceMul, Nat.reduceLeDiff, reduceCtorEq, Int.reduceToNat, Int.reduceLE, Int.reduceLT]; rfl) (by rfl)) rfl (by simp (disch := omega) only [go_sem, wrap_i64, ↓reduceIte, Nat.reduceEqDiff, Nat.reduceAdd, Nat.reduceSub, Nat.reduceMul, Nat.reduceLeDiff, reduceCtorEq, Int.reduceToNat, Int.reduceLE, Int.reduceLT]; rfl) ?_
  refine aL_XY (wantedA_yes rfl rfl (by simp (disch := omega) only [go_sem, wrap_i64, ↓reduceIte, Nat.reduceEqDiff, Nat.reduceAdd, Nat.reduceSub, Nat.reduceMul, Nat.reduceLeDiff, reduceCtorEq, Int.reduceToNat, Int.reduceLE, Int.reduceLT]; rfl) (by rfl)) rfl (AOp_use rfl rfl (.inr ⟨rfl, rfl, rfl⟩) (by simp only [go_sem]) (by first | (simp (disch := omega) only [go_sem, wrap_i64, ↓reduceIte, Nat.reduceEqDiff, Nat.reduceAdd, Nat.reduceSub, Nat.reduceMul, Nat.reduceLeDiff, reduceCtorEq, Int.reduceToNat, Int.reduceLE, Int.reduceLT]; rfl) | (simp (disch := omega) only [go_sem, wrap_i64, ↓reduceIte, Nat.reduceEqDiff, Nat.reduceAdd, Nat.reduceSub, Nat.reduceMul, Nat.reduceLeDiff, reduceCtorEq, Int.reduceToNat, Int.reduceLE, Int.reduceLT])) (lDue_c (now := 3) h4) ?_); rintro _ τ5 ⟨rfl, S5, h5, f5⟩
  rw [e3] at h5 ⊢
  refine aL_XY (wantedA_yes rfl rfl (by simp (disch := omega) only [go_sem, wrap_i64, ↓reduceIte, Nat.reduceEqDiff, Nat.reduceAdd, Nat.reduceSub, Nat.reduceMul, Nat.reduceLeDiff, reduceCtorEq, Int.reduceToNat, Int.reduceLE, Int.reduceLT]; rfl) (by rfl)) rfl (AOp_buildSlice' rfl (by simp only [go_sem]; rfl) (by simp only [go_sem]; rfl) rfl rfl (by simp (disch := omega) only [go_sem, ↓reduceIte, Nat.reduceEqDiff, Nat.reduceAdd, Nat.reduceSub, Nat.reduceMul, Nat.reduceLeDiff, reduceCtorEq, Int.reduceToNat, Int.reduceLE, Int.reduceLT]; rfl) (by simp [go_sem, AVal.one, AVal.cells, AVal.solid]) (by decide) ?_)
  refine aL_XY (wantedA_yes rfl rfl (by simp (disch := omega) only [go_sem, wrap_i64, ↓reduceIte, Nat.reduceEqDiff, Nat.reduceAdd, Nat.reduceSub, Nat.reduceMul, Nat.reduceLeDiff, reduceCtorEq, Int.reduceToNat, Int.reduceLE, Int.reduceLT]; rfl) (by rfl)) rfl (AOp_use rfl rfl (.inr ⟨rfl, rfl, rfl⟩) (by simp only [go_sem]) (by first | (simp (disch := omega) only [go_sem, wrap_i64, ↓reduceIte, Nat.reduceEqDiff, Nat.reduceAdd, Nat.reduceSub, Nat.reduceMul, Nat.reduceLeDiff, reduceCtorEq, Int.reduceToNat, Int.reduceLE, Int.reduceLT]; rfl) | (simp (disch := omega) only [go_sem, wrap_i64, ↓reduceIte, Nat.reduceEqDiff, Nat.reduceAdd, Nat.reduceSub, Nat.reduceMul, Nat.reduceLeDiff, reduceCtorEq, Int.reduceToNat, Int.reduceLE, Int.reduceLT])) (sameInts_c (a := [1, 2]) (b := [1, 2]) (by decide)) ?_); rintro _ _ ⟨rfl, rfl⟩
  iterate 2 (refine aL_S rfl rfl (by simp (disch := omega) only [go_sem, wrap_i64, ↓reduceIte, Nat.reduceEqDiff, Nat.reduceAdd, Nat.reduceSub, Nat.reduceMul, Nat.reduceLeDiff, reduceCtorEq, Int.reduceToNat, Int.reduceLE, Int.reduceLT]; rfl) ?_)
  refine aL_SY (wantedA_yes rfl rfl (by simp (disch := omega) only [go_sem, wrap_i64, ↓reduceIte, Nat.reduceEqDiff, Nat.reduceAdd, Nat.reduceSub, Nat.reduceMul, Nat.reduceLeDiff, reduceCtorEq, Int.reduceToNat, Int.reduceLE, Int.reduceLT]; rfl) (by rfl)) rfl (by simp (disch := omega) only [go_sem, wrap_i64, ↓reduceIte, Nat.reduceEqDiff, Nat.reduceAdd, Nat.reduceSub, Nat.reduceMul, Nat.reduceLeDiff, reduceCtorEq, Int.reduceToNat, Int.reduceLE, Int.reduceLT]; rfl) ?_
  refine aL_XY (wantedA_yes rfl rfl (by simp (disch := omega) only [go_sem, wrap_i64, ↓reduceIte, Nat.reduceEqDiff, Nat.reduceAdd, Nat.reduceSub, Nat.reduceMul, Nat.reduceLeDiff, reduceCtorEq, Int.reduceToNat, Int.reduceLE, Int.reduceLT]; rfl) (by rfl)) rfl (AOp_use rfl rfl (.inr ⟨rfl, rfl, rfl⟩) (by simp only [go_sem]) (by first | (simp (disch := omega) only [go_sem, wrap_i64, ↓reduceIte, Nat.reduceEqDiff, Nat.reduceAdd, Nat.reduceSub, Nat.reduceMul, Nat.reduceLeDiff, reduceCtorEq, Int.reduceToNat, Int.reduceLE, Int.reduceLT]; rfl) | (simp (disch := omega) only [go_sem, wrap_i64, ↓reduceIte, Nat.reduceEqDiff, Nat.reduceAdd, Nat.reduceSub, Nat.reduceMul, Nat.reduceLeDiff, reduceCtorEq, Int.reduceToNat, Int.reduceLE, Int.reduceLT])) (lLen_c h5) ?_); rintro _ _ ⟨rfl, rfl⟩
  refine aL_SY (wantedA_yes rfl rfl (by simp (disch := omega) only [go_sem, wrap_i64, ↓reduceIte, Nat.reduceEqDiff, Nat.reduceAdd, Nat.reduceSub, Nat.reduceMul, Nat.reduceLeDiff, reduceCtorEq, Int.reduceToNat, Int.reduceLE, Int.reduceLT]; rfl) (by rfl)) rfl (by simp (disch := omega) only [go_sem, wrap_i64, ↓reduceIte, Nat.reduceEqDiff, Nat.reduceAdd, Nat.reduceSub, Nat.reduceMul, Nat.reduceLeDiff, reduceCtorEq, Int.reduceToNat, Int.reduceLE, Int.reduceLT]; rfl) ?_
  iterate 2 (refine aL_S rfl rfl (by simp (disch := omega) only [go_sem, wrap_i64, ↓reduceIte, Nat.reduceEqDiff, Nat.reduceAdd, Nat.reduceSub, Nat.reduceMul, Nat.reduceLeDiff, reduceCtorEq, Int.reduceToNat, Int.reduceLE, Int.reduceLT]; rfl) ?_)
  refine aL_nil ?_
  refine awp_ret ?_
  refine aEnd_ret (σ' := τ5) (by simp (disch := omega) only [go_sem, wrap_i64, ↓reduceIte, Nat.reduceEqDiff, Nat.reduceAdd, Nat.reduceSub, Nat.reduceMul, Nat.reduceLeDiff, reduceCtorEq, Int.reduceToNat, Int.reduceLE, Int.reduceLT]; rfl) (by first | exact Store.Wk.refl _ | exact Store.Sub.refl _ | ((try dsimp only); (try simp (disch := assumption) only [Store.newTok_set, Store.newTok_step]); (first | refine subx_start ?_ | refine subx_startS ?_); (repeat (first | refine subx_skip (.head _) ?_ | refine subx_skip (.tail _ (.head _)) ?_ | refine subx_skip (.tail _ (.tail _ (.head _))) ?_ | refine subx_skip (.tail _ (.tail _ (.tail _ (.head _)))) ?_ | refine subx_left (by first | (simp (disch := omega) only [go_sem, ↓reduceIte, Nat.reduceEqDiff, Nat.reduceAdd, Nat.reduceSub, Nat.reduceMul, Nat.reduceLeDiff, reduceCtorEq, Int.reduceToNat, Int.reduceLE, Int.reduceLT]; rfl) | simp (disch := omega) only [go_sem, ↓reduceIte, Nat.reduceEqDiff, Nat.reduceAdd, Nat.reduceSub, Nat.reduceMul, Nat.reduceLeDiff, reduceCtorEq, Int.reduceToNat, Int.reduceLE, Int.reduceLT]) ?_)); (repeat (first | exact subx_refl | refine subx_in (.head _) ?_ | refine subx_in (.tail _ (.head _)) ?_ | refine subx_in (.tail _ (.tail _ (.head _))) ?_ | refine subx_in (.tail _ (.tail _ (.tail _ (.head _)))) ?_ | refine subx_new (by first | assumption | (simp only [Store.newTok_heap]; assumption)) ?_ | refine subx_tok ?_ | refine subx_newTok (by assumption) ?_)))) ?_
  exact congrArg vBool (by decide)
end Go.Proofs.Ytdedpamcpgbgmaa
