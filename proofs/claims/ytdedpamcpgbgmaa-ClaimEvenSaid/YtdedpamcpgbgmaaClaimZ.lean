/-
  Claims: ClaimEven. Own work (an AI agent).
-/
import Derived.Test.YtdedpamcpgbgmaaClaimP
set_option linter.all false
set_option maxRecDepth 100000
namespace Go.Proofs.Ytdedpamcpgbgmaa
open Go.Ab

theorem take_sum {l : List Int} {i : Nat} {x : Int} (hx : l[i]? = some x) : (l.take (i + 1)).sum = (l.take i).sum + x := by
  rw [List.take_succ, hx, List.sum_append]
  simp
theorem take_sum_le (l : List Int) (h : ∀ x ∈ l, 0 ≤ x) (i : Nat) : 0 ≤ (l.take i).sum ∧ (l.take i).sum ≤ l.sum := by
  have e : ∀ l : List Int, (∀ x ∈ l, 0 ≤ x) → 0 ≤ l.sum := by
    intro l
    induction l with
    | nil => intro _; simp
    | cons x l ih =>
      intro h
      have h1 := h x (List.mem_cons_self ..)
      have h2 := ih fun y hy => h y (List.mem_cons_of_mem _ hy)
      rw [List.sum_cons]; omega
  have h1 := e (l.take i) fun x hx => h x (List.mem_of_mem_take hx)
  have h2 := e (l.drop i) fun x hx => h x (List.mem_of_mem_drop hx)
  have h3 : l.sum = (l.take i).sum + (l.drop i).sum := by rw [← List.sum_append, List.take_append_drop]
  omega
theorem loads_mem {ow nm : List ByteArray} {a : Int} (h : a ∈ loadsS ow nm) : 0 ≤ a ∧ a ≤ ow.length := by
  unfold loadsS at h
  obtain ⟨s, _, rfl⟩ := List.mem_map.1 h
  have := cnt_le ow s
  omega
theorem claimEven_c {ow nm : List ByteArray} {σ : Store} {to tn : Bool} : ACalls Try.prog 10 [.sl 1 (ow.map sS) to, .sl 1 (nm.map sS) tn] σ fun v _ => v = vBool true := by
  refine ACalls_of Try.func10 rfl Try.ntmps10 (congrArg Array.toList Try.results10) (by simp only [List.length_cons, List.length_nil]; decide) ?_; simp only [envOf_cons, envOf_nil, Nat.reduceAdd]
  refine awp_seq ?_
  refine awp_region (by kernel_rfl) ?_
  (refine aL_S rfl rfl (by simp (disch := omega) only [go_sem, wrap_i64, ↓reduceIte, Nat.reduceEqDiff, Nat.reduceAdd, Nat.reduceSub, Nat.reduceMul, Nat.reduceLeDiff, reduceCtorEq, Int.reduceToNat, Int.reduceLE, Int.reduceLT]; rfl) ?_)
  refine aL_nil ?_
  refine awp_seq ?_
  refine awp_seq ?_
  refine awp_region (by kernel_rfl) ?_
  (refine aL_S rfl rfl (by simp (disch := omega) only [go_sem, wrap_i64, ↓reduceIte, Nat.reduceEqDiff, Nat.reduceAdd, Nat.reduceSub, Nat.reduceMul, Nat.reduceLeDiff, reduceCtorEq, Int.reduceToNat, Int.reduceLE, Int.reduceLT]; rfl) ?_)
  refine aL_X rfl rfl (AOp_use rfl rfl (.inr ⟨rfl, rfl, rfl⟩) (by simp only [go_sem]) (by first | (simp (disch := omega) only [go_sem, wrap_i64, ↓reduceIte, Nat.reduceEqDiff, Nat.reduceAdd, Nat.reduceSub, Nat.reduceMul, Nat.reduceLeDiff, reduceCtorEq, Int.reduceToNat, Int.reduceLE, Int.reduceLT]; rfl) | (simp (disch := omega) only [go_sem, wrap_i64, ↓reduceIte, Nat.reduceEqDiff, Nat.reduceAdd, Nat.reduceSub, Nat.reduceMul, Nat.reduceLeDiff, reduceCtorEq, Int.reduceToNat, Int.reduceLE, Int.reduceLT])) (few19_c (l := ow) (m := 40) (by decide)) ?_); rintro _ _ ⟨rfl, rfl⟩
  iterate 2 (refine aL_S rfl rfl (by simp (disch := omega) only [go_sem, wrap_i64, ↓reduceIte, Nat.reduceEqDiff, Nat.reduceAdd, Nat.reduceSub, Nat.reduceMul, Nat.reduceLeDiff, reduceCtorEq, Int.reduceToNat, Int.reduceLE, Int.reduceLT]; rfl) ?_)
  refine aL_GF rfl rfl (by simp (disch := omega) only [go_sem, wrap_i64, ↓reduceIte, Nat.reduceEqDiff, Nat.reduceAdd, Nat.reduceSub, Nat.reduceMul, Nat.reduceLeDiff, reduceCtorEq, Int.reduceToNat, Int.reduceLE, Int.reduceLT]; rfl) rfl (by intro hb; have hb' := hb; (try simp only [decide_eq_true_eq, decide_eq_false_iff_not, Bool.not_eq_true', Bool.not_eq_false', Bool.and_eq_true, Bool.or_eq_true, Bool.and_eq_false_iff, Bool.or_eq_false_iff, Bool.not_eq_eq_eq_not, Bool.not_true, Bool.not_false, Int.not_le, Int.not_lt, beq_iff_eq] at hb'); (try simp only [Bool.and_eq_true] at hb); first | (simp (disch := omega) only [go_sem, wrap_i64, ↓reduceIte, Nat.reduceEqDiff, Nat.reduceAdd, Nat.reduceSub, Nat.reduceMul, Nat.reduceLeDiff, reduceCtorEq, Int.reduceToNat, Int.reduceLE, Int.reduceLT]; rfl) | (simp (disch := omega) only [go_sem, wrap_i64, ↓reduceIte, Nat.reduceEqDiff, Nat.reduceAdd, Nat.reduceSub, Nat.reduceMul, Nat.reduceLeDiff, reduceCtorEq, Int.reduceToNat, Int.reduceLE, Int.reduceLT, hb]; rfl)) ?_
  refine aL_GFX rfl rfl (by simp (disch := omega) only [go_sem, wrap_i64, ↓reduceIte, Nat.reduceEqDiff, Nat.reduceAdd, Nat.reduceSub, Nat.reduceMul, Nat.reduceLeDiff, reduceCtorEq, Int.reduceToNat, Int.reduceLE, Int.reduceLT]; rfl) rfl (fun hb => AOp_useV (by rfl) (by rfl) (.inr ⟨by rfl, by rfl, by rfl⟩) (by simp only [go_sem]) (by have hb' := hb; (try simp only [decide_eq_true_eq, decide_eq_false_iff_not, Bool.not_eq_true', Bool.not_eq_false', Bool.and_eq_true, Bool.or_eq_true, Bool.and_eq_false_iff, Bool.or_eq_false_iff, Bool.not_eq_eq_eq_not, Bool.not_true, Bool.not_false, Int.not_le, Int.not_lt, beq_iff_eq] at hb'); (try simp only [Bool.and_eq_true] at hb); first | (simp (disch := omega) only [go_sem, wrap_i64, ↓reduceIte, Nat.reduceEqDiff, Nat.reduceAdd, Nat.reduceSub, Nat.reduceMul, Nat.reduceLeDiff, reduceCtorEq, Int.reduceToNat, Int.reduceLE, Int.reduceLT]; rfl) | (simp (disch := omega) only [go_sem, wrap_i64, ↓reduceIte, Nat.reduceEqDiff, Nat.reduceAdd, Nat.reduceSub, Nat.reduceMul, Nat.reduceLeDiff, reduceCtorEq, Int.reduceToNat, Int.reduceLE, Int.reduceLT]; done) | (simp (disch := omega) only [go_sem, wrap_i64, ↓reduceIte, Nat.reduceEqDiff, Nat.reduceAdd, Nat.reduceSub, Nat.reduceMul, Nat.reduceLeDiff, reduceCtorEq, Int.reduceToNat, Int.reduceLE, Int.reduceLT, hb]; rfl) | (simp (disch := omega) only [go_sem, wrap_i64, ↓reduceIte, Nat.reduceEqDiff, Nat.reduceAdd, Nat.reduceSub, Nat.reduceMul, Nat.reduceLeDiff, reduceCtorEq, Int.reduceToNat, Int.reduceLE, Int.reduceLT, hb]; done)) (few19_c (l := nm) (m := 10) (by decide))) ?_
  refine aL_GF rfl rfl (by simp (disch := omega) only [go_sem, wrap_i64, ↓reduceIte, Nat.reduceEqDiff, Nat.reduceAdd, Nat.reduceSub, Nat.reduceMul, Nat.reduceLeDiff, reduceCtorEq, Int.reduceToNat, Int.reduceLE, Int.reduceLT]; rfl) rfl (by intro hb; have hb' := hb; (try simp only [decide_eq_true_eq, decide_eq_false_iff_not, Bool.not_eq_true', Bool.not_eq_false', Bool.and_eq_true, Bool.or_eq_true, Bool.and_eq_false_iff, Bool.or_eq_false_iff, Bool.not_eq_eq_eq_not, Bool.not_true, Bool.not_false, Int.not_le, Int.not_lt, beq_iff_eq] at hb'); (try simp only [Bool.and_eq_true] at hb); first | (simp (disch := omega) only [go_sem, wrap_i64, ↓reduceIte, Nat.reduceEqDiff, Nat.reduceAdd, Nat.reduceSub, Nat.reduceMul, Nat.reduceLeDiff, reduceCtorEq, Int.reduceToNat, Int.reduceLE, Int.reduceLT]; rfl) | (simp (disch := omega) only [go_sem, wrap_i64, ↓reduceIte, Nat.reduceEqDiff, Nat.reduceAdd, Nat.reduceSub, Nat.reduceMul, Nat.reduceLeDiff, reduceCtorEq, Int.reduceToNat, Int.reduceLE, Int.reduceLT, hb]; rfl)) ?_
  iterate 2 (refine aL_S rfl rfl (by simp (disch := omega) only [go_sem, wrap_i64, ↓reduceIte, Nat.reduceEqDiff, Nat.reduceAdd, Nat.reduceSub, Nat.reduceMul, Nat.reduceLeDiff, reduceCtorEq, Int.reduceToNat, Int.reduceLE, Int.reduceLT]; rfl) ?_)
  refine aL_GF rfl rfl (by simp (disch := omega) only [go_sem, wrap_i64, ↓reduceIte, Nat.reduceEqDiff, Nat.reduceAdd, Nat.reduceSub, Nat.reduceMul, Nat.reduceLeDiff, reduceCtorEq, Int.reduceToNat, Int.reduceLE, Int.reduceLT]; rfl) rfl (by intro hb; have hb' := hb; (try simp only [decide_eq_true_eq, decide_eq_false_iff_not, Bool.not_eq_true', Bool.not_eq_false', Bool.and_eq_true, Bool.or_eq_true, Bool.and_eq_false_iff, Bool.or_eq_false_iff, Bool.not_eq_eq_eq_not, Bool.not_true, Bool.not_false, Int.not_le, Int.not_lt, beq_iff_eq] at hb'); (try simp only [Bool.and_eq_true] at hb); first | (simp (disch := omega) only [go_sem, wrap_i64, ↓reduceIte, Nat.reduceEqDiff, Nat.reduceAdd, Nat.reduceSub, Nat.reduceMul, Nat.reduceLeDiff, reduceCtorEq, Int.reduceToNat, Int.reduceLE, Int.reduceLT]; rfl) | (simp (disch := omega) only [go_sem, wrap_i64, ↓reduceIte, Nat.reduceEqDiff, Nat.reduceAdd, Nat.reduceSub, Nat.reduceMul, Nat.reduceLeDiff, reduceCtorEq, Int.reduceToNat, Int.reduceLE, Int.reduceLT, hb]; rfl)) ?_
  refine aL_GF rfl rfl (by simp (disch := omega) only [go_sem, wrap_i64, ↓reduceIte, Nat.reduceEqDiff, Nat.reduceAdd, Nat.reduceSub, Nat.reduceMul, Nat.reduceLeDiff, reduceCtorEq, Int.reduceToNat, Int.reduceLE, Int.reduceLT]; rfl) rfl (by intro hb; have hb' := hb; (try simp only [decide_eq_true_eq, decide_eq_false_iff_not, Bool.not_eq_true', Bool.not_eq_false', Bool.and_eq_true, Bool.or_eq_true, Bool.and_eq_false_iff, Bool.or_eq_false_iff, Bool.not_eq_eq_eq_not, Bool.not_true, Bool.not_false, Int.not_le, Int.not_lt, beq_iff_eq] at hb'); (try simp only [Bool.and_eq_true] at hb); first | (simp (disch := omega) only [go_sem, wrap_i64, ↓reduceIte, Nat.reduceEqDiff, Nat.reduceAdd, Nat.reduceSub, Nat.reduceMul, Nat.reduceLeDiff, reduceCtorEq, Int.reduceToNat, Int.reduceLE, Int.reduceLT]; rfl) | (simp (disch := omega) only [go_sem, wrap_i64, ↓reduceIte, Nat.reduceEqDiff, Nat.reduceAdd, Nat.reduceSub, Nat.reduceMul, Nat.reduceLeDiff, reduceCtorEq, Int.reduceToNat, Int.reduceLE, Int.reduceLT, hb]; rfl)) ?_
  refine aL_GF rfl rfl (by simp (disch := omega) only [go_sem, wrap_i64, ↓reduceIte, Nat.reduceEqDiff, Nat.reduceAdd, Nat.reduceSub, Nat.reduceMul, Nat.reduceLeDiff, reduceCtorEq, Int.reduceToNat, Int.reduceLE, Int.reduceLT]; rfl) rfl (by intro hb; have hb' := hb; (try simp only [decide_eq_true_eq, decide_eq_false_iff_not, Bool.not_eq_true', Bool.not_eq_false', Bool.and_eq_true, Bool.or_eq_true, Bool.and_eq_false_iff, Bool.or_eq_false_iff, Bool.not_eq_eq_eq_not, Bool.not_true, Bool.not_false, Int.not_le, Int.not_lt, beq_iff_eq] at hb'); (try simp only [Bool.and_eq_true] at hb); first | (simp (disch := omega) only [go_sem, wrap_i64, ↓reduceIte, Nat.reduceEqDiff, Nat.reduceAdd, Nat.reduceSub, Nat.reduceMul, Nat.reduceLeDiff, reduceCtorEq, Int.reduceToNat, Int.reduceLE, Int.reduceLT]; rfl) | (simp (disch := omega) only [go_sem, wrap_i64, ↓reduceIte, Nat.reduceEqDiff, Nat.reduceAdd, Nat.reduceSub, Nat.reduceMul, Nat.reduceLeDiff, reduceCtorEq, Int.reduceToNat, Int.reduceLE, Int.reduceLT, hb]; rfl)) ?_
  (refine aL_S rfl rfl (by simp (disch := omega) only [go_sem, wrap_i64, ↓reduceIte, Nat.reduceEqDiff, Nat.reduceAdd, Nat.reduceSub, Nat.reduceMul, Nat.reduceLeDiff, reduceCtorEq, Int.reduceToNat, Int.reduceLE, Int.reduceLT]; rfl) ?_)
  refine aL_nil ?_
  refine awp_cond (by simp (disch := omega) only [go_sem, wrap_i64, ↓reduceIte, Nat.reduceEqDiff, Nat.reduceAdd, Nat.reduceSub, Nat.reduceMul, Nat.reduceLeDiff, reduceCtorEq, Int.reduceToNat, Int.reduceLE, Int.reduceLT]; rfl) (fun hc1 => ?_) (fun hc1 => ?_)
  · (try simp only [decide_eq_true_eq, decide_eq_false_iff_not, Bool.not_eq_true', Bool.not_eq_false', Bool.and_eq_true, Bool.or_eq_true, Bool.and_eq_false_iff, Bool.or_eq_false_iff, Bool.not_eq_eq_eq_not, Bool.not_true, Bool.not_false, Int.not_le, Int.not_lt, beq_iff_eq] at hc1)
    refine awp_seq ?_
    refine awp_region (by kernel_rfl) ?_
    refine aL_X rfl rfl (AOp_use rfl rfl (.inr ⟨rfl, rfl, rfl⟩) (by simp only [go_sem]) (by first | (simp (disch := omega) only [go_sem, wrap_i64, ↓reduceIte, Nat.reduceEqDiff, Nat.reduceAdd, Nat.reduceSub, Nat.reduceMul, Nat.reduceLeDiff, reduceCtorEq, Int.reduceToNat, Int.reduceLE, Int.reduceLT]; rfl) | (simp (disch := omega) only [go_sem, wrap_i64, ↓reduceIte, Nat.reduceEqDiff, Nat.reduceAdd, Nat.reduceSub, Nat.reduceMul, Nat.reduceLeDiff, reduceCtorEq, Int.reduceToNat, Int.reduceLE, Int.reduceLT])) (awake19_c) ?_); rintro _ τ1 ⟨rfl, f1⟩
    (refine aL_S rfl rfl (by simp (disch := omega) only [go_sem, wrap_i64, ↓reduceIte, Nat.reduceEqDiff, Nat.reduceAdd, Nat.reduceSub, Nat.reduceMul, Nat.reduceLeDiff, reduceCtorEq, Int.reduceToNat, Int.reduceLE, Int.reduceLT]; rfl) ?_)
    refine aL_nil ?_
    refine awp_ret ?_
    refine aEnd_ret (σ' := τ1) (by simp (disch := omega) only [go_sem, wrap_i64, ↓reduceIte, Nat.reduceEqDiff, Nat.reduceAdd, Nat.reduceSub, Nat.reduceMul, Nat.reduceLeDiff, reduceCtorEq, Int.reduceToNat, Int.reduceLE, Int.reduceLT]; rfl) (by first | exact Store.Wk.refl _ | exact Store.Sub.refl _ | ((try dsimp only); (try simp (disch := assumption) only [Store.newTok_set, Store.newTok_step]); (first | refine subx_start ?_ | refine subx_startS ?_); (repeat (first | refine subx_skip (.head _) ?_ | refine subx_skip (.tail _ (.head _)) ?_ | refine subx_skip (.tail _ (.tail _ (.head _))) ?_ | refine subx_skip (.tail _ (.tail _ (.tail _ (.head _)))) ?_ | refine subx_left (by first | (simp (disch := omega) only [go_sem, ↓reduceIte, Nat.reduceEqDiff, Nat.reduceAdd, Nat.reduceSub, Nat.reduceMul, Nat.reduceLeDiff, reduceCtorEq, Int.reduceToNat, Int.reduceLE, Int.reduceLT]; rfl) | simp (disch := omega) only [go_sem, ↓reduceIte, Nat.reduceEqDiff, Nat.reduceAdd, Nat.reduceSub, Nat.reduceMul, Nat.reduceLeDiff, reduceCtorEq, Int.reduceToNat, Int.reduceLE, Int.reduceLT]) ?_)); (repeat (first | exact subx_refl | refine subx_in (.head _) ?_ | refine subx_in (.tail _ (.head _)) ?_ | refine subx_in (.tail _ (.tail _ (.head _))) ?_ | refine subx_in (.tail _ (.tail _ (.tail _ (.head _)))) ?_ | refine subx_new (by first | assumption | (simp only [Store.newTok_heap]; assumption)) ?_ | refine subx_tok ?_ | refine subx_newTok (by assumption) ?_)))) ?_
    rfl
  · (try simp only [decide_eq_true_eq, decide_eq_false_iff_not, Bool.not_eq_true', Bool.not_eq_false', Bool.and_eq_true, Bool.or_eq_true, Bool.and_eq_false_iff, Bool.or_eq_false_iff, Bool.not_eq_eq_eq_not, Bool.not_true, Bool.not_false, Int.not_le, Int.not_lt, beq_iff_eq] at hc1)
    refine awp_skip ?_
    refine awp_seq ?_
    have ho := (few19S_spec hc1.1.1).1
    have hn := (few19S_spec hc1.1.2).1
    have hel := even_len ow nm
    have hpos : 0 < nm.length := by have := hc1.2; omega
    have hll := loadsS_len (evenS ow nm) nm
    have hlo := loadsS_len (evenS ow nm) (onceS nm)
    have hol := once_le nm
    refine awp_region (by kernel_rfl) ?_
    iterate 2 (refine aL_S rfl rfl (by simp (disch := omega) only [go_sem, wrap_i64, ↓reduceIte, Nat.reduceEqDiff, Nat.reduceAdd, Nat.reduceSub, Nat.reduceMul, Nat.reduceLeDiff, reduceCtorEq, Int.reduceToNat, Int.reduceLE, Int.reduceLT]; rfl) ?_)
    refine aL_X rfl rfl (AOp_use rfl rfl (.inr ⟨rfl, rfl, rfl⟩) (by simp only [go_sem]) (by first | (simp (disch := omega) only [go_sem, wrap_i64, ↓reduceIte, Nat.reduceEqDiff, Nat.reduceAdd, Nat.reduceSub, Nat.reduceMul, Nat.reduceLeDiff, reduceCtorEq, Int.reduceToNat, Int.reduceLE, Int.reduceLT]; rfl) | (simp (disch := omega) only [go_sem, wrap_i64, ↓reduceIte, Nat.reduceEqDiff, Nat.reduceAdd, Nat.reduceSub, Nat.reduceMul, Nat.reduceLeDiff, reduceCtorEq, Int.reduceToNat, Int.reduceLE, Int.reduceLT])) (even_c (by omega) (by omega)) ?_); rintro _ τ1 ⟨rfl, f1⟩
    (refine aL_S rfl rfl (by simp (disch := omega) only [go_sem, wrap_i64, ↓reduceIte, Nat.reduceEqDiff, Nat.reduceAdd, Nat.reduceSub, Nat.reduceMul, Nat.reduceLeDiff, reduceCtorEq, Int.reduceToNat, Int.reduceLE, Int.reduceLT]; rfl) ?_)
    refine aL_nil ?_
    refine awp_seq ?_
    refine awp_region (by kernel_rfl) ?_
    iterate 2 (refine aL_S rfl rfl (by simp (disch := omega) only [go_sem, wrap_i64, ↓reduceIte, Nat.reduceEqDiff, Nat.reduceAdd, Nat.reduceSub, Nat.reduceMul, Nat.reduceLeDiff, reduceCtorEq, Int.reduceToNat, Int.reduceLE, Int.reduceLT]; rfl) ?_)
    refine aL_X rfl rfl (AOp_use rfl rfl (.inr ⟨rfl, rfl, rfl⟩) (by simp only [go_sem]) (by first | (simp (disch := omega) only [go_sem, wrap_i64, ↓reduceIte, Nat.reduceEqDiff, Nat.reduceAdd, Nat.reduceSub, Nat.reduceMul, Nat.reduceLeDiff, reduceCtorEq, Int.reduceToNat, Int.reduceLE, Int.reduceLT]; rfl) | (simp (disch := omega) only [go_sem, wrap_i64, ↓reduceIte, Nat.reduceEqDiff, Nat.reduceAdd, Nat.reduceSub, Nat.reduceMul, Nat.reduceLeDiff, reduceCtorEq, Int.reduceToNat, Int.reduceLE, Int.reduceLT])) (rLoads_c (ow := evenS ow nm) (nm := nm) (by omega) (by omega)) ?_); rintro _ τ2 ⟨rfl, f2⟩
    (refine aL_S rfl rfl (by simp (disch := omega) only [go_sem, wrap_i64, ↓reduceIte, Nat.reduceEqDiff, Nat.reduceAdd, Nat.reduceSub, Nat.reduceMul, Nat.reduceLeDiff, reduceCtorEq, Int.reduceToNat, Int.reduceLE, Int.reduceLT]; rfl) ?_)
    refine aL_nil ?_
    refine awp_seq ?_
    refine awp_region (by kernel_rfl) ?_
    (refine aL_S rfl rfl (by simp (disch := omega) only [go_sem, wrap_i64, ↓reduceIte, Nat.reduceEqDiff, Nat.reduceAdd, Nat.reduceSub, Nat.reduceMul, Nat.reduceLeDiff, reduceCtorEq, Int.reduceToNat, Int.reduceLE, Int.reduceLT]; rfl) ?_)
    refine aL_nil ?_
    refine awp_seq ?_
    refine awp_region (by kernel_rfl) ?_
    (refine aL_S rfl rfl (by simp (disch := omega) only [go_sem, wrap_i64, ↓reduceIte, Nat.reduceEqDiff, Nat.reduceAdd, Nat.reduceSub, Nat.reduceMul, Nat.reduceLeDiff, reduceCtorEq, Int.reduceToNat, Int.reduceLE, Int.reduceLT]; rfl) ?_)
    refine aL_X rfl rfl (AOp_use rfl rfl (.inr ⟨rfl, rfl, rfl⟩) (by simp only [go_sem]) (by first | (simp (disch := omega) only [go_sem, wrap_i64, ↓reduceIte, Nat.reduceEqDiff, Nat.reduceAdd, Nat.reduceSub, Nat.reduceMul, Nat.reduceLeDiff, reduceCtorEq, Int.reduceToNat, Int.reduceLE, Int.reduceLT]; rfl) | (simp (disch := omega) only [go_sem, wrap_i64, ↓reduceIte, Nat.reduceEqDiff, Nat.reduceAdd, Nat.reduceSub, Nat.reduceMul, Nat.reduceLeDiff, reduceCtorEq, Int.reduceToNat, Int.reduceLE, Int.reduceLT])) (once_c (by omega)) ?_); rintro _ τ3 ⟨rfl, f3⟩
    (refine aL_S rfl rfl (by simp (disch := omega) only [go_sem, wrap_i64, ↓reduceIte, Nat.reduceEqDiff, Nat.reduceAdd, Nat.reduceSub, Nat.reduceMul, Nat.reduceLeDiff, reduceCtorEq, Int.reduceToNat, Int.reduceLE, Int.reduceLT]; rfl) ?_)
    refine aL_nil ?_
    refine awp_seq ?_
    refine awp_seq ?_
    refine awp_region (by kernel_rfl) ?_
    (refine aL_S rfl rfl (by simp (disch := omega) only [go_sem, wrap_i64, ↓reduceIte, Nat.reduceEqDiff, Nat.reduceAdd, Nat.reduceSub, Nat.reduceMul, Nat.reduceLeDiff, reduceCtorEq, Int.reduceToNat, Int.reduceLE, Int.reduceLT]; rfl) ?_)
    refine aL_nil ?_
    refine awp_block ?_
    refine awp_loop_env (ι := Nat) (fun i => nm.length - i) (fun i => i ≤ nm.length) (fun i => [(0, .sl 1 (ow.map sS) to), (1, .sl 1 (nm.map sS) tn), (5, .sl 1 ((evenS ow nm).map sS) false), (6, .sl 1 ((loadsS (evenS ow nm) nm).map vInt) false), (7, vInt 0), (8, .sl 1 ((onceS nm).map sS) false), (9, vInt i)]) (fun i => τ3) 0 ?_ ?_ ?_ ?_
    · exact Nat.zero_le _
    · ((repeat (refine covers.eq (by first | rfl | (simp (disch := omega) only [go_sem, wrap_i64, ↓reduceIte, Nat.reduceEqDiff, Nat.reduceAdd, Nat.reduceSub, Nat.reduceMul, Nat.reduceLeDiff, reduceCtorEq, Int.reduceToNat, Int.reduceLE, Int.reduceLT]; rfl) | (simp (disch := omega) only [go_sem, wrap_i64, ↓reduceIte, Nat.reduceEqDiff, Nat.reduceAdd, Nat.reduceSub, Nat.reduceMul, Nat.reduceLeDiff, reduceCtorEq, Int.reduceToNat, Int.reduceLE, Int.reduceLT])) ?_)); exact covers.nil)
    · exact Store.Wk.refl _
    rintro i hi
    simp only [envL_cons, envL_nil]
    refine awp_seq ?_
    refine awp_seq ?_
    refine awp_region (by kernel_rfl) ?_
    iterate 4 (refine aL_S rfl rfl (by simp (disch := omega) only [go_sem, wrap_i64, ↓reduceIte, Nat.reduceEqDiff, Nat.reduceAdd, Nat.reduceSub, Nat.reduceMul, Nat.reduceLeDiff, reduceCtorEq, Int.reduceToNat, Int.reduceLE, Int.reduceLT]; rfl) ?_)
    refine aL_nil ?_
    refine awp_cond (by simp (disch := omega) only [go_sem, wrap_i64, ↓reduceIte, Nat.reduceEqDiff, Nat.reduceAdd, Nat.reduceSub, Nat.reduceMul, Nat.reduceLeDiff, reduceCtorEq, Int.reduceToNat, Int.reduceLE, Int.reduceLT]; rfl) (fun hc8 => ?_) (fun hc8 => ?_)
    · (try simp only [decide_eq_true_eq, decide_eq_false_iff_not, Bool.not_eq_true', Bool.not_eq_false', Bool.and_eq_true, Bool.or_eq_true, Bool.and_eq_false_iff, Bool.or_eq_false_iff, Bool.not_eq_eq_eq_not, Bool.not_true, Bool.not_false, Int.not_le, Int.not_lt, beq_iff_eq] at hc8)
      refine awp_skip ?_
      refine awp_seq ?_
      refine awp_block ?_
      refine awp_seq ?_
      refine awp_region (by kernel_rfl) ?_
      (refine aL_S rfl rfl (by simp (disch := omega) only [go_sem, wrap_i64, ↓reduceIte, Nat.reduceEqDiff, Nat.reduceAdd, Nat.reduceSub, Nat.reduceMul, Nat.reduceLeDiff, reduceCtorEq, Int.reduceToNat, Int.reduceLE, Int.reduceLT]; rfl) ?_)
      refine aL_nil ?_
      refine awp_block ?_
      refine awp_loop_env (ι := Nat) (fun k => nm.length - k) (fun k => k ≤ nm.length) (fun k => [(0, .sl 1 (ow.map sS) to), (1, .sl 1 (nm.map sS) tn), (5, .sl 1 ((evenS ow nm).map sS) false), (6, .sl 1 ((loadsS (evenS ow nm) nm).map vInt) false), (7, vInt 0), (8, .sl 1 ((onceS nm).map sS) false), (9, vInt i), (10, vInt k)]) (fun k => τ3) 0 ?_ ?_ ?_ ?_
      · exact Nat.zero_le _
      · ((repeat (refine covers.eq (by first | rfl | (simp (disch := omega) only [go_sem, wrap_i64, ↓reduceIte, Nat.reduceEqDiff, Nat.reduceAdd, Nat.reduceSub, Nat.reduceMul, Nat.reduceLeDiff, reduceCtorEq, Int.reduceToNat, Int.reduceLE, Int.reduceLT]; rfl) | (simp (disch := omega) only [go_sem, wrap_i64, ↓reduceIte, Nat.reduceEqDiff, Nat.reduceAdd, Nat.reduceSub, Nat.reduceMul, Nat.reduceLeDiff, reduceCtorEq, Int.reduceToNat, Int.reduceLE, Int.reduceLT])) ?_)); exact covers.nil)
      · exact Store.Wk.refl _
      rintro k hk
      simp only [envL_cons, envL_nil]
      refine awp_seq ?_
      refine awp_seq ?_
      refine awp_region (by kernel_rfl) ?_
      iterate 4 (refine aL_S rfl rfl (by simp (disch := omega) only [go_sem, wrap_i64, ↓reduceIte, Nat.reduceEqDiff, Nat.reduceAdd, Nat.reduceSub, Nat.reduceMul, Nat.reduceLeDiff, reduceCtorEq, Int.reduceToNat, Int.reduceLE, Int.reduceLT]; rfl) ?_)
      refine aL_nil ?_
      refine awp_cond (by simp (disch := omega) only [go_sem, wrap_i64, ↓reduceIte, Nat.reduceEqDiff, Nat.reduceAdd, Nat.reduceSub, Nat.reduceMul, Nat.reduceLeDiff, reduceCtorEq, Int.reduceToNat, Int.reduceLE, Int.reduceLT]; rfl) (fun hc11 => ?_) (fun hc11 => ?_)
      · (try simp only [decide_eq_true_eq, decide_eq_false_iff_not, Bool.not_eq_true', Bool.not_eq_false', Bool.and_eq_true, Bool.or_eq_true, Bool.and_eq_false_iff, Bool.or_eq_false_iff, Bool.not_eq_eq_eq_not, Bool.not_true, Bool.not_false, Int.not_le, Int.not_lt, beq_iff_eq] at hc11)
        refine awp_skip ?_
        refine awp_seq ?_
        refine awp_block ?_
        refine awp_seq ?_
        obtain ⟨a, ha⟩ : ∃ a, (loadsS (evenS ow nm) nm)[i]? = some a := ⟨_, gI_get (by omega)⟩
        obtain ⟨b, hb⟩ : ∃ b, (loadsS (evenS ow nm) nm)[k]? = some b := ⟨_, gI_get (by omega)⟩
        have ha' := loads_mem (List.mem_of_getElem? ha)
        have hb' := loads_mem (List.mem_of_getElem? hb)
        have hab := even_near hpos ha hb
        refine awp_draw (.op 0 0 (.op 1 0 (.op 2 0 (.op 3 0 (.op 4 0 (.op 5 0 (.op 6 0 (.op 7 0 (.op 8 0 (.op 9 0 .nil)))))))))) Try.mixed (by kernel_rfl) ?_
        (refine dR_S (by simp only [List.getElem?_toArray, List.getElem?_cons_zero, List.getElem?_cons_succ]; rfl) (by rfl) (by rfl) (by simp (disch := omega) only [go_sem, wrap_i64, ↓reduceIte, Nat.reduceEqDiff, Nat.reduceAdd, Nat.reduceSub, Nat.reduceMul, Nat.reduceLeDiff, reduceCtorEq, Int.reduceToNat, Int.reduceLE, Int.reduceLT, List.getElem?_map, ha, hb]; rfl) ?_)
        (refine dR_S (by simp only [List.getElem?_toArray, List.getElem?_cons_zero, List.getElem?_cons_succ]; rfl) (by rfl) (by rfl) (by simp (disch := omega) only [go_sem, wrap_i64, ↓reduceIte, Nat.reduceEqDiff, Nat.reduceAdd, Nat.reduceSub, Nat.reduceMul, Nat.reduceLeDiff, reduceCtorEq, Int.reduceToNat, Int.reduceLE, Int.reduceLT, List.getElem?_map, ha, hb]; rfl) ?_)
        (refine dR_S (by simp only [List.getElem?_toArray, List.getElem?_cons_zero, List.getElem?_cons_succ]; rfl) (by rfl) (by rfl) (by simp (disch := omega) only [go_sem, wrap_i64, ↓reduceIte, Nat.reduceEqDiff, Nat.reduceAdd, Nat.reduceSub, Nat.reduceMul, Nat.reduceLeDiff, reduceCtorEq, Int.reduceToNat, Int.reduceLE, Int.reduceLT, List.getElem?_map, ha, hb]; rfl) ?_)
        (refine dR_S (by simp only [List.getElem?_toArray, List.getElem?_cons_zero, List.getElem?_cons_succ]; rfl) (by rfl) (by rfl) (by simp (disch := omega) only [go_sem, wrap_i64, ↓reduceIte, Nat.reduceEqDiff, Nat.reduceAdd, Nat.reduceSub, Nat.reduceMul, Nat.reduceLeDiff, reduceCtorEq, Int.reduceToNat, Int.reduceLE, Int.reduceLT, List.getElem?_map, ha, hb]; rfl) ?_)
        (refine dR_S (by simp only [List.getElem?_toArray, List.getElem?_cons_zero, List.getElem?_cons_succ]; rfl) (by rfl) (by rfl) (by simp (disch := omega) only [go_sem, wrap_i64, ↓reduceIte, Nat.reduceEqDiff, Nat.reduceAdd, Nat.reduceSub, Nat.reduceMul, Nat.reduceLeDiff, reduceCtorEq, Int.reduceToNat, Int.reduceLE, Int.reduceLT, List.getElem?_map, ha, hb]; rfl) ?_)
        (refine dR_S (by simp only [List.getElem?_toArray, List.getElem?_cons_zero, List.getElem?_cons_succ]; rfl) (by rfl) (by rfl) (by simp (disch := omega) only [go_sem, wrap_i64, ↓reduceIte, Nat.reduceEqDiff, Nat.reduceAdd, Nat.reduceSub, Nat.reduceMul, Nat.reduceLeDiff, reduceCtorEq, Int.reduceToNat, Int.reduceLE, Int.reduceLT, List.getElem?_map, ha, hb]; rfl) ?_)
        (refine dR_S (by simp only [List.getElem?_toArray, List.getElem?_cons_zero, List.getElem?_cons_succ]; rfl) (by rfl) (by rfl) (by simp (disch := omega) only [go_sem, wrap_i64, ↓reduceIte, Nat.reduceEqDiff, Nat.reduceAdd, Nat.reduceSub, Nat.reduceMul, Nat.reduceLeDiff, reduceCtorEq, Int.reduceToNat, Int.reduceLE, Int.reduceLT, List.getElem?_map, ha, hb]; rfl) ?_)
        (refine dR_S (by simp only [List.getElem?_toArray, List.getElem?_cons_zero, List.getElem?_cons_succ]; rfl) (by rfl) (by rfl) (by simp (disch := omega) only [go_sem, wrap_i64, ↓reduceIte, Nat.reduceEqDiff, Nat.reduceAdd, Nat.reduceSub, Nat.reduceMul, Nat.reduceLeDiff, reduceCtorEq, Int.reduceToNat, Int.reduceLE, Int.reduceLT, List.getElem?_map, ha, hb]; rfl) ?_)
        (refine dR_S (by simp only [List.getElem?_toArray, List.getElem?_cons_zero, List.getElem?_cons_succ]; rfl) (by rfl) (by rfl) (by simp (disch := omega) only [go_sem, wrap_i64, ↓reduceIte, Nat.reduceEqDiff, Nat.reduceAdd, Nat.reduceSub, Nat.reduceMul, Nat.reduceLeDiff, reduceCtorEq, Int.reduceToNat, Int.reduceLE, Int.reduceLT, List.getElem?_map, ha, hb]; rfl) ?_)
        (refine dR_S (by simp only [List.getElem?_toArray, List.getElem?_cons_zero, List.getElem?_cons_succ]; rfl) (by rfl) (by rfl) (by simp (disch := omega) only [go_sem, wrap_i64, ↓reduceIte, Nat.reduceEqDiff, Nat.reduceAdd, Nat.reduceSub, Nat.reduceMul, Nat.reduceLeDiff, reduceCtorEq, Int.reduceToNat, Int.reduceLE, Int.reduceLT, List.getElem?_map, ha, hb]; rfl) ?_)
        refine dR_nil ?_
        refine awp_cond (by simp (disch := omega) only [go_sem, wrap_i64, ↓reduceIte, Nat.reduceEqDiff, Nat.reduceAdd, Nat.reduceSub, Nat.reduceMul, Nat.reduceLeDiff, reduceCtorEq, Int.reduceToNat, Int.reduceLE, Int.reduceLT]; rfl) (fun hc13 => ?_) (fun hc13 => ?_)
        · (try simp only [decide_eq_true_eq, decide_eq_false_iff_not, Bool.not_eq_true', Bool.not_eq_false', Bool.and_eq_true, Bool.or_eq_true, Bool.and_eq_false_iff, Bool.or_eq_false_iff, Bool.not_eq_eq_eq_not, Bool.not_true, Bool.not_false, Int.not_le, Int.not_lt, beq_iff_eq] at hc13)
          omega
        · (try simp only [decide_eq_true_eq, decide_eq_false_iff_not, Bool.not_eq_true', Bool.not_eq_false', Bool.and_eq_true, Bool.or_eq_true, Bool.and_eq_false_iff, Bool.or_eq_false_iff, Bool.not_eq_eq_eq_not, Bool.not_true, Bool.not_false, Int.not_le, Int.not_lt, beq_iff_eq] at hc13)
          refine awp_skip ?_
          refine awp_region (by kernel_rfl) ?_
          iterate 3 (refine aL_S rfl rfl (by simp (disch := omega) only [go_sem, wrap_i64, ↓reduceIte, Nat.reduceEqDiff, Nat.reduceAdd, Nat.reduceSub, Nat.reduceMul, Nat.reduceLeDiff, reduceCtorEq, Int.reduceToNat, Int.reduceLE, Int.reduceLT]; rfl) ?_)
          refine aL_nil ?_
          refine aNext (ι := Nat) (i := k) (k + 1) ?_ ?_ ?_ ?_
          · omega
          · omega
          · ((repeat (refine covers.eq (by first | rfl | (simp (disch := omega) only [go_sem, wrap_i64, ↓reduceIte, Nat.reduceEqDiff, Nat.reduceAdd, Nat.reduceSub, Nat.reduceMul, Nat.reduceLeDiff, reduceCtorEq, Int.reduceToNat, Int.reduceLE, Int.reduceLT]; rfl) | (simp (disch := omega) only [go_sem, wrap_i64, ↓reduceIte, Nat.reduceEqDiff, Nat.reduceAdd, Nat.reduceSub, Nat.reduceMul, Nat.reduceLeDiff, reduceCtorEq, Int.reduceToNat, Int.reduceLE, Int.reduceLT])) ?_)); exact covers.nil)
          · exact Store.Wk.refl _
      · (try simp only [decide_eq_true_eq, decide_eq_false_iff_not, Bool.not_eq_true', Bool.not_eq_false', Bool.and_eq_true, Bool.or_eq_true, Bool.and_eq_false_iff, Bool.or_eq_false_iff, Bool.not_eq_eq_eq_not, Bool.not_true, Bool.not_false, Int.not_le, Int.not_lt, beq_iff_eq] at hc11)
        refine awp_exit ?_
        refine aThen_exit ?_
        refine aThen_exit ?_
        refine aBlock_hit ?_
        refine awp_region (by kernel_rfl) ?_
        iterate 3 (refine aL_S rfl rfl (by simp (disch := omega) only [go_sem, wrap_i64, ↓reduceIte, Nat.reduceEqDiff, Nat.reduceAdd, Nat.reduceSub, Nat.reduceMul, Nat.reduceLeDiff, reduceCtorEq, Int.reduceToNat, Int.reduceLE, Int.reduceLT]; rfl) ?_)
        refine aL_nil ?_
        refine aNext (ι := Nat) (i := i) (i + 1) ?_ ?_ ?_ ?_
        · omega
        · omega
        · ((repeat (refine covers.eq (by first | rfl | (simp (disch := omega) only [go_sem, wrap_i64, ↓reduceIte, Nat.reduceEqDiff, Nat.reduceAdd, Nat.reduceSub, Nat.reduceMul, Nat.reduceLeDiff, reduceCtorEq, Int.reduceToNat, Int.reduceLE, Int.reduceLT]; rfl) | (simp (disch := omega) only [go_sem, wrap_i64, ↓reduceIte, Nat.reduceEqDiff, Nat.reduceAdd, Nat.reduceSub, Nat.reduceMul, Nat.reduceLeDiff, reduceCtorEq, Int.reduceToNat, Int.reduceLE, Int.reduceLT])) ?_)); exact covers.nil)
        · exact Store.Wk.refl _
    · (try simp only [decide_eq_true_eq, decide_eq_false_iff_not, Bool.not_eq_true', Bool.not_eq_false', Bool.and_eq_true, Bool.or_eq_true, Bool.and_eq_false_iff, Bool.or_eq_false_iff, Bool.not_eq_eq_eq_not, Bool.not_true, Bool.not_false, Int.not_le, Int.not_lt, beq_iff_eq] at hc8)
      refine awp_exit ?_
      refine aThen_exit ?_
      refine aThen_exit ?_
      refine aBlock_hit ?_
      refine awp_seq ?_
      refine awp_region (by kernel_rfl) ?_
      iterate 2 (refine aL_S rfl rfl (by simp (disch := omega) only [go_sem, wrap_i64, ↓reduceIte, Nat.reduceEqDiff, Nat.reduceAdd, Nat.reduceSub, Nat.reduceMul, Nat.reduceLeDiff, reduceCtorEq, Int.reduceToNat, Int.reduceLE, Int.reduceLT]; rfl) ?_)
      refine aL_X rfl rfl (AOp_use rfl rfl (.inr ⟨rfl, rfl, rfl⟩) (by simp only [go_sem]) (by first | (simp (disch := omega) only [go_sem, wrap_i64, ↓reduceIte, Nat.reduceEqDiff, Nat.reduceAdd, Nat.reduceSub, Nat.reduceMul, Nat.reduceLeDiff, reduceCtorEq, Int.reduceToNat, Int.reduceLE, Int.reduceLT]; rfl) | (simp (disch := omega) only [go_sem, wrap_i64, ↓reduceIte, Nat.reduceEqDiff, Nat.reduceAdd, Nat.reduceSub, Nat.reduceMul, Nat.reduceLeDiff, reduceCtorEq, Int.reduceToNat, Int.reduceLE, Int.reduceLT])) (rLoads_c (ow := evenS ow nm) (nm := onceS nm) (by omega) (by omega)) ?_); rintro _ τ4 ⟨rfl, f4⟩
      (refine aL_S rfl rfl (by simp (disch := omega) only [go_sem, wrap_i64, ↓reduceIte, Nat.reduceEqDiff, Nat.reduceAdd, Nat.reduceSub, Nat.reduceMul, Nat.reduceLeDiff, reduceCtorEq, Int.reduceToNat, Int.reduceLE, Int.reduceLT]; rfl) ?_)
      refine aL_nil ?_
      refine awp_seq ?_
      refine awp_seq ?_
      refine awp_region (by kernel_rfl) ?_
      (refine aL_S rfl rfl (by simp (disch := omega) only [go_sem, wrap_i64, ↓reduceIte, Nat.reduceEqDiff, Nat.reduceAdd, Nat.reduceSub, Nat.reduceMul, Nat.reduceLeDiff, reduceCtorEq, Int.reduceToNat, Int.reduceLE, Int.reduceLT]; rfl) ?_)
      refine aL_nil ?_
      refine awp_block ?_
      refine awp_loop_env (ι := Nat) (fun i => (onceS nm).length - i) (fun i => i ≤ (onceS nm).length) (fun i => [(0, .sl 1 (ow.map sS) to), (1, .sl 1 (nm.map sS) tn), (5, .sl 1 ((evenS ow nm).map sS) false), (7, vInt ((loadsS (evenS ow nm) (onceS nm)).take i).sum), (11, .sl 1 ((loadsS (evenS ow nm) (onceS nm)).map vInt) false), (12, vInt i)]) (fun i => τ4) 0 ?_ ?_ ?_ ?_
      · exact Nat.zero_le _
      · ((repeat (refine covers.eq (by first | rfl | (simp (disch := omega) only [go_sem, wrap_i64, ↓reduceIte, Nat.reduceEqDiff, Nat.reduceAdd, Nat.reduceSub, Nat.reduceMul, Nat.reduceLeDiff, reduceCtorEq, Int.reduceToNat, Int.reduceLE, Int.reduceLT]; rfl) | (simp (disch := omega) only [go_sem, wrap_i64, ↓reduceIte, Nat.reduceEqDiff, Nat.reduceAdd, Nat.reduceSub, Nat.reduceMul, Nat.reduceLeDiff, reduceCtorEq, Int.reduceToNat, Int.reduceLE, Int.reduceLT])) ?_)); exact covers.nil)
      · exact Store.Wk.refl _
      rintro i hi
      simp only [envL_cons, envL_nil]
      refine awp_seq ?_
      refine awp_seq ?_
      refine awp_region (by kernel_rfl) ?_
      iterate 4 (refine aL_S rfl rfl (by simp (disch := omega) only [go_sem, wrap_i64, ↓reduceIte, Nat.reduceEqDiff, Nat.reduceAdd, Nat.reduceSub, Nat.reduceMul, Nat.reduceLeDiff, reduceCtorEq, Int.reduceToNat, Int.reduceLE, Int.reduceLT]; rfl) ?_)
      refine aL_nil ?_
      refine awp_cond (by simp (disch := omega) only [go_sem, wrap_i64, ↓reduceIte, Nat.reduceEqDiff, Nat.reduceAdd, Nat.reduceSub, Nat.reduceMul, Nat.reduceLeDiff, reduceCtorEq, Int.reduceToNat, Int.reduceLE, Int.reduceLT]; rfl) (fun hc17 => ?_) (fun hc17 => ?_)
      · (try simp only [decide_eq_true_eq, decide_eq_false_iff_not, Bool.not_eq_true', Bool.not_eq_false', Bool.and_eq_true, Bool.or_eq_true, Bool.and_eq_false_iff, Bool.or_eq_false_iff, Bool.not_eq_eq_eq_not, Bool.not_true, Bool.not_false, Int.not_le, Int.not_lt, beq_iff_eq] at hc17)
        refine awp_skip ?_
        refine awp_seq ?_
        refine awp_block ?_
        obtain ⟨a, ha⟩ : ∃ a, (loadsS (evenS ow nm) (onceS nm))[i]? = some a := ⟨_, gI_get (by omega)⟩
        have ha' := loads_mem (List.mem_of_getElem? ha)
        have hts := take_sum ha
        have hsl := take_sum_le (loadsS (evenS ow nm) (onceS nm)) (fun x hx => (loads_mem hx).1) i
        have hes := even_sum (ow := ow) hpos
        refine awp_region (by kernel_rfl) ?_
        (refine aL_S rfl rfl (by simp (disch := omega) only [go_sem, wrap_i64, ↓reduceIte, Nat.reduceEqDiff, Nat.reduceAdd, Nat.reduceSub, Nat.reduceMul, Nat.reduceLeDiff, reduceCtorEq, Int.reduceToNat, Int.reduceLE, Int.reduceLT, List.getElem?_map, ha]; rfl) ?_)
        (refine aL_S rfl rfl (by simp (disch := omega) only [go_sem, wrap_i64, ↓reduceIte, Nat.reduceEqDiff, Nat.reduceAdd, Nat.reduceSub, Nat.reduceMul, Nat.reduceLeDiff, reduceCtorEq, Int.reduceToNat, Int.reduceLE, Int.reduceLT, List.getElem?_map, ha]; rfl) ?_)
        (refine aL_S rfl rfl (by simp (disch := omega) only [go_sem, wrap_i64, ↓reduceIte, Nat.reduceEqDiff, Nat.reduceAdd, Nat.reduceSub, Nat.reduceMul, Nat.reduceLeDiff, reduceCtorEq, Int.reduceToNat, Int.reduceLE, Int.reduceLT, List.getElem?_map, ha]; rfl) ?_)
        (refine aL_S rfl rfl (by simp (disch := omega) only [go_sem, wrap_i64, ↓reduceIte, Nat.reduceEqDiff, Nat.reduceAdd, Nat.reduceSub, Nat.reduceMul, Nat.reduceLeDiff, reduceCtorEq, Int.reduceToNat, Int.reduceLE, Int.reduceLT, List.getElem?_map, ha]; rfl) ?_)
        (refine aL_S rfl rfl (by simp (disch := omega) only [go_sem, wrap_i64, ↓reduceIte, Nat.reduceEqDiff, Nat.reduceAdd, Nat.reduceSub, Nat.reduceMul, Nat.reduceLeDiff, reduceCtorEq, Int.reduceToNat, Int.reduceLE, Int.reduceLT, List.getElem?_map, ha]; rfl) ?_)
        (refine aL_S rfl rfl (by simp (disch := omega) only [go_sem, wrap_i64, ↓reduceIte, Nat.reduceEqDiff, Nat.reduceAdd, Nat.reduceSub, Nat.reduceMul, Nat.reduceLeDiff, reduceCtorEq, Int.reduceToNat, Int.reduceLE, Int.reduceLT, List.getElem?_map, ha]; rfl) ?_)
        (refine aL_S rfl rfl (by simp (disch := omega) only [go_sem, wrap_i64, ↓reduceIte, Nat.reduceEqDiff, Nat.reduceAdd, Nat.reduceSub, Nat.reduceMul, Nat.reduceLeDiff, reduceCtorEq, Int.reduceToNat, Int.reduceLE, Int.reduceLT, List.getElem?_map, ha]; rfl) ?_)
        refine aL_nil ?_
        refine awp_region (by kernel_rfl) ?_
        iterate 3 (refine aL_S rfl rfl (by simp (disch := omega) only [go_sem, wrap_i64, ↓reduceIte, Nat.reduceEqDiff, Nat.reduceAdd, Nat.reduceSub, Nat.reduceMul, Nat.reduceLeDiff, reduceCtorEq, Int.reduceToNat, Int.reduceLE, Int.reduceLT]; rfl) ?_)
        refine aL_nil ?_
        refine aNext (ι := Nat) (i := i) (i + 1) ?_ ?_ ?_ ?_
        · omega
        · omega
        · ((repeat (refine covers.eq (by first | rfl | (simp (disch := omega) only [go_sem, wrap_i64, ↓reduceIte, Nat.reduceEqDiff, Nat.reduceAdd, Nat.reduceSub, Nat.reduceMul, Nat.reduceLeDiff, reduceCtorEq, Int.reduceToNat, Int.reduceLE, Int.reduceLT, hts]; rfl) | (simp (disch := omega) only [go_sem, wrap_i64, ↓reduceIte, Nat.reduceEqDiff, Nat.reduceAdd, Nat.reduceSub, Nat.reduceMul, Nat.reduceLeDiff, reduceCtorEq, Int.reduceToNat, Int.reduceLE, Int.reduceLT, hts])) ?_)); exact covers.nil)
        · exact Store.Wk.refl _
      · (try simp only [decide_eq_true_eq, decide_eq_false_iff_not, Bool.not_eq_true', Bool.not_eq_false', Bool.and_eq_true, Bool.or_eq_true, Bool.and_eq_false_iff, Bool.or_eq_false_iff, Bool.not_eq_eq_eq_not, Bool.not_true, Bool.not_false, Int.not_le, Int.not_lt, beq_iff_eq] at hc17)
        refine awp_exit ?_
        refine aThen_exit ?_
        refine aThen_exit ?_
        refine aBlock_hit ?_
        refine awp_seq ?_
        have hes := even_sum (ow := ow) hpos
        rw [List.take_of_length_le (by omega), hes]
        refine awp_region (by kernel_rfl) ?_
        (refine aL_S rfl rfl (by simp (disch := omega) only [go_sem, wrap_i64, ↓reduceIte, Nat.reduceEqDiff, Nat.reduceAdd, Nat.reduceSub, Nat.reduceMul, Nat.reduceLeDiff, reduceCtorEq, Int.reduceToNat, Int.reduceLE, Int.reduceLT, hel]; rfl) ?_)
        (refine aL_S rfl rfl (by simp (disch := omega) only [go_sem, wrap_i64, ↓reduceIte, Nat.reduceEqDiff, Nat.reduceAdd, Nat.reduceSub, Nat.reduceMul, Nat.reduceLeDiff, reduceCtorEq, Int.reduceToNat, Int.reduceLE, Int.reduceLT, hel]; rfl) ?_)
        (refine aL_S rfl rfl (by simp (disch := omega) only [go_sem, wrap_i64, ↓reduceIte, Nat.reduceEqDiff, Nat.reduceAdd, Nat.reduceSub, Nat.reduceMul, Nat.reduceLeDiff, reduceCtorEq, Int.reduceToNat, Int.reduceLE, Int.reduceLT, hel]; rfl) ?_)
        (refine aL_S rfl rfl (by simp (disch := omega) only [go_sem, wrap_i64, ↓reduceIte, Nat.reduceEqDiff, Nat.reduceAdd, Nat.reduceSub, Nat.reduceMul, Nat.reduceLeDiff, reduceCtorEq, Int.reduceToNat, Int.reduceLE, Int.reduceLT, hel]; rfl) ?_)
        (refine aL_S rfl rfl (by simp (disch := omega) only [go_sem, wrap_i64, ↓reduceIte, Nat.reduceEqDiff, Nat.reduceAdd, Nat.reduceSub, Nat.reduceMul, Nat.reduceLeDiff, reduceCtorEq, Int.reduceToNat, Int.reduceLE, Int.reduceLT, hel]; rfl) ?_)
        (refine aL_S rfl rfl (by simp (disch := omega) only [go_sem, wrap_i64, ↓reduceIte, Nat.reduceEqDiff, Nat.reduceAdd, Nat.reduceSub, Nat.reduceMul, Nat.reduceLeDiff, reduceCtorEq, Int.reduceToNat, Int.reduceLE, Int.reduceLT, hel]; rfl) ?_)
        refine aL_SY (wantedA_yes rfl rfl (by simp (disch := omega) only [go_sem, wrap_i64, ↓reduceIte, Nat.reduceEqDiff, Nat.reduceAdd, Nat.reduceSub, Nat.reduceMul, Nat.reduceLeDiff, reduceCtorEq, Int.reduceToNat, Int.reduceLE, Int.reduceLT, hel]; rfl) (by rfl)) rfl (by simp (disch := omega) only [go_sem, wrap_i64, ↓reduceIte, Nat.reduceEqDiff, Nat.reduceAdd, Nat.reduceSub, Nat.reduceMul, Nat.reduceLeDiff, reduceCtorEq, Int.reduceToNat, Int.reduceLE, Int.reduceLT, hel]; rfl) ?_
        refine aL_SY (wantedA_yes rfl rfl (by simp (disch := omega) only [go_sem, wrap_i64, ↓reduceIte, Nat.reduceEqDiff, Nat.reduceAdd, Nat.reduceSub, Nat.reduceMul, Nat.reduceLeDiff, reduceCtorEq, Int.reduceToNat, Int.reduceLE, Int.reduceLT, hel]; rfl) (by rfl)) rfl (by simp (disch := omega) only [go_sem, wrap_i64, ↓reduceIte, Nat.reduceEqDiff, Nat.reduceAdd, Nat.reduceSub, Nat.reduceMul, Nat.reduceLeDiff, reduceCtorEq, Int.reduceToNat, Int.reduceLE, Int.reduceLT, hel]; rfl) ?_
        refine aL_SY (wantedA_yes rfl rfl (by simp (disch := omega) only [go_sem, wrap_i64, ↓reduceIte, Nat.reduceEqDiff, Nat.reduceAdd, Nat.reduceSub, Nat.reduceMul, Nat.reduceLeDiff, reduceCtorEq, Int.reduceToNat, Int.reduceLE, Int.reduceLT, hel]; rfl) (by rfl)) rfl (by simp (disch := omega) only [go_sem, wrap_i64, ↓reduceIte, Nat.reduceEqDiff, Nat.reduceAdd, Nat.reduceSub, Nat.reduceMul, Nat.reduceLeDiff, reduceCtorEq, Int.reduceToNat, Int.reduceLE, Int.reduceLT, hel]; rfl) ?_
        refine aL_SY (wantedA_yes rfl rfl (by simp (disch := omega) only [go_sem, wrap_i64, ↓reduceIte, Nat.reduceEqDiff, Nat.reduceAdd, Nat.reduceSub, Nat.reduceMul, Nat.reduceLeDiff, reduceCtorEq, Int.reduceToNat, Int.reduceLE, Int.reduceLT, hel]; rfl) (by rfl)) rfl (by simp (disch := omega) only [go_sem, wrap_i64, ↓reduceIte, Nat.reduceEqDiff, Nat.reduceAdd, Nat.reduceSub, Nat.reduceMul, Nat.reduceLeDiff, reduceCtorEq, Int.reduceToNat, Int.reduceLE, Int.reduceLT, hel]; rfl) ?_
        (refine aL_S rfl rfl (by simp (disch := omega) only [go_sem, wrap_i64, ↓reduceIte, Nat.reduceEqDiff, Nat.reduceAdd, Nat.reduceSub, Nat.reduceMul, Nat.reduceLeDiff, reduceCtorEq, Int.reduceToNat, Int.reduceLE, Int.reduceLT, hel]; rfl) ?_)
        (refine aL_S rfl rfl (by simp (disch := omega) only [go_sem, wrap_i64, ↓reduceIte, Nat.reduceEqDiff, Nat.reduceAdd, Nat.reduceSub, Nat.reduceMul, Nat.reduceLeDiff, reduceCtorEq, Int.reduceToNat, Int.reduceLE, Int.reduceLT, hel]; rfl) ?_)
        refine aL_SY (wantedA_yes rfl rfl (by simp (disch := omega) only [go_sem, wrap_i64, ↓reduceIte, Nat.reduceEqDiff, Nat.reduceAdd, Nat.reduceSub, Nat.reduceMul, Nat.reduceLeDiff, reduceCtorEq, Int.reduceToNat, Int.reduceLE, Int.reduceLT, hel]; rfl) (by rfl)) rfl (by simp (disch := omega) only [go_sem, wrap_i64, ↓reduceIte, Nat.reduceEqDiff, Nat.reduceAdd, Nat.reduceSub, Nat.reduceMul, Nat.reduceLeDiff, reduceCtorEq, Int.reduceToNat, Int.reduceLE, Int.reduceLT, hel]; rfl) ?_
        refine aL_SY (wantedA_yes rfl rfl (by simp (disch := omega) only [go_sem, wrap_i64, ↓reduceIte, Nat.reduceEqDiff, Nat.reduceAdd, Nat.reduceSub, Nat.reduceMul, Nat.reduceLeDiff, reduceCtorEq, Int.reduceToNat, Int.reduceLE, Int.reduceLT, hel]; rfl) (by rfl)) rfl (by simp (disch := omega) only [go_sem, wrap_i64, ↓reduceIte, Nat.reduceEqDiff, Nat.reduceAdd, Nat.reduceSub, Nat.reduceMul, Nat.reduceLeDiff, reduceCtorEq, Int.reduceToNat, Int.reduceLE, Int.reduceLT, hel]; rfl) ?_
        refine aL_XY (wantedA_yes rfl rfl (by simp (disch := omega) only [go_sem, wrap_i64, ↓reduceIte, Nat.reduceEqDiff, Nat.reduceAdd, Nat.reduceSub, Nat.reduceMul, Nat.reduceLeDiff, reduceCtorEq, Int.reduceToNat, Int.reduceLE, Int.reduceLT, hel]; rfl) (by rfl)) rfl (AOp_use rfl rfl (.inr ⟨rfl, rfl, rfl⟩) (by simp only [go_sem]) (by first | (simp (disch := omega) only [go_sem, wrap_i64, ↓reduceIte, Nat.reduceEqDiff, Nat.reduceAdd, Nat.reduceSub, Nat.reduceMul, Nat.reduceLeDiff, reduceCtorEq, Int.reduceToNat, Int.reduceLE, Int.reduceLT, hel]; rfl) | (simp (disch := omega) only [go_sem, wrap_i64, ↓reduceIte, Nat.reduceEqDiff, Nat.reduceAdd, Nat.reduceSub, Nat.reduceMul, Nat.reduceLeDiff, reduceCtorEq, Int.reduceToNat, Int.reduceLE, Int.reduceLT, hel])) (even_c (ow := evenS ow nm) (nm := nm) (by omega) (by omega)) ?_); rintro _ τ5 ⟨rfl, f5⟩
        rw [even_again hpos]
        refine aL_SY (wantedA_yes rfl rfl (by simp (disch := omega) only [go_sem, wrap_i64, ↓reduceIte, Nat.reduceEqDiff, Nat.reduceAdd, Nat.reduceSub, Nat.reduceMul, Nat.reduceLeDiff, reduceCtorEq, Int.reduceToNat, Int.reduceLE, Int.reduceLT, hel]; rfl) (by rfl)) rfl (by simp (disch := omega) only [go_sem, wrap_i64, ↓reduceIte, Nat.reduceEqDiff, Nat.reduceAdd, Nat.reduceSub, Nat.reduceMul, Nat.reduceLeDiff, reduceCtorEq, Int.reduceToNat, Int.reduceLE, Int.reduceLT, hel]; rfl) ?_
        refine aL_XY (wantedA_yes rfl rfl (by simp (disch := omega) only [go_sem, wrap_i64, ↓reduceIte, Nat.reduceEqDiff, Nat.reduceAdd, Nat.reduceSub, Nat.reduceMul, Nat.reduceLeDiff, reduceCtorEq, Int.reduceToNat, Int.reduceLE, Int.reduceLT, hel]; rfl) (by rfl)) rfl (AOp_use rfl rfl (.inr ⟨rfl, rfl, rfl⟩) (by simp only [go_sem]) (by first | (simp (disch := omega) only [go_sem, wrap_i64, ↓reduceIte, Nat.reduceEqDiff, Nat.reduceAdd, Nat.reduceSub, Nat.reduceMul, Nat.reduceLeDiff, reduceCtorEq, Int.reduceToNat, Int.reduceLE, Int.reduceLT, hel]; rfl) | (simp (disch := omega) only [go_sem, wrap_i64, ↓reduceIte, Nat.reduceEqDiff, Nat.reduceAdd, Nat.reduceSub, Nat.reduceMul, Nat.reduceLeDiff, reduceCtorEq, Int.reduceToNat, Int.reduceLE, Int.reduceLT, hel])) (sameTexts_c (a := evenS ow nm) (b := evenS ow nm) (by omega)) ?_); rintro _ _ ⟨rfl, rfl⟩
        (refine aL_S rfl rfl (by simp (disch := omega) only [go_sem, wrap_i64, ↓reduceIte, Nat.reduceEqDiff, Nat.reduceAdd, Nat.reduceSub, Nat.reduceMul, Nat.reduceLeDiff, reduceCtorEq, Int.reduceToNat, Int.reduceLE, Int.reduceLT, hel]; rfl) ?_)
        (refine aL_S rfl rfl (by simp (disch := omega) only [go_sem, wrap_i64, ↓reduceIte, Nat.reduceEqDiff, Nat.reduceAdd, Nat.reduceSub, Nat.reduceMul, Nat.reduceLeDiff, reduceCtorEq, Int.reduceToNat, Int.reduceLE, Int.reduceLT, hel]; rfl) ?_)
        refine aL_XY (wantedA_yes rfl rfl (by simp (disch := omega) only [go_sem, wrap_i64, ↓reduceIte, Nat.reduceEqDiff, Nat.reduceAdd, Nat.reduceSub, Nat.reduceMul, Nat.reduceLeDiff, reduceCtorEq, Int.reduceToNat, Int.reduceLE, Int.reduceLT, hel]; rfl) (by rfl)) rfl (AOp_use rfl rfl (.inr ⟨rfl, rfl, rfl⟩) (by simp only [go_sem]) (by first | (simp (disch := omega) only [go_sem, wrap_i64, ↓reduceIte, Nat.reduceEqDiff, Nat.reduceAdd, Nat.reduceSub, Nat.reduceMul, Nat.reduceLeDiff, reduceCtorEq, Int.reduceToNat, Int.reduceLE, Int.reduceLT, hel]; rfl) | (simp (disch := omega) only [go_sem, wrap_i64, ↓reduceIte, Nat.reduceEqDiff, Nat.reduceAdd, Nat.reduceSub, Nat.reduceMul, Nat.reduceLeDiff, reduceCtorEq, Int.reduceToNat, Int.reduceLE, Int.reduceLT, hel])) (awake19_c) ?_); rintro _ τ6 ⟨rfl, f6⟩
        (refine aL_S rfl rfl (by simp (disch := omega) only [go_sem, wrap_i64, ↓reduceIte, Nat.reduceEqDiff, Nat.reduceAdd, Nat.reduceSub, Nat.reduceMul, Nat.reduceLeDiff, reduceCtorEq, Int.reduceToNat, Int.reduceLE, Int.reduceLT, hel]; rfl) ?_)
        (refine aL_S rfl rfl (by simp (disch := omega) only [go_sem, wrap_i64, ↓reduceIte, Nat.reduceEqDiff, Nat.reduceAdd, Nat.reduceSub, Nat.reduceMul, Nat.reduceLeDiff, reduceCtorEq, Int.reduceToNat, Int.reduceLE, Int.reduceLT, hel]; rfl) ?_)
        refine aL_nil ?_
        refine awp_ret ?_
        refine aEnd_ret (σ' := τ6) (by simp (disch := omega) only [go_sem, wrap_i64, ↓reduceIte, Nat.reduceEqDiff, Nat.reduceAdd, Nat.reduceSub, Nat.reduceMul, Nat.reduceLeDiff, reduceCtorEq, Int.reduceToNat, Int.reduceLE, Int.reduceLT]; rfl) (by first | exact Store.Wk.refl _ | exact Store.Sub.refl _ | ((try dsimp only); (try simp (disch := assumption) only [Store.newTok_set, Store.newTok_step]); (first | refine subx_start ?_ | refine subx_startS ?_); (repeat (first | refine subx_skip (.head _) ?_ | refine subx_skip (.tail _ (.head _)) ?_ | refine subx_skip (.tail _ (.tail _ (.head _))) ?_ | refine subx_skip (.tail _ (.tail _ (.tail _ (.head _)))) ?_ | refine subx_left (by first | (simp (disch := omega) only [go_sem, ↓reduceIte, Nat.reduceEqDiff, Nat.reduceAdd, Nat.reduceSub, Nat.reduceMul, Nat.reduceLeDiff, reduceCtorEq, Int.reduceToNat, Int.reduceLE, Int.reduceLT]; rfl) | simp (disch := omega) only [go_sem, ↓reduceIte, Nat.reduceEqDiff, Nat.reduceAdd, Nat.reduceSub, Nat.reduceMul, Nat.reduceLeDiff, reduceCtorEq, Int.reduceToNat, Int.reduceLE, Int.reduceLT]) ?_)); (repeat (first | exact subx_refl | refine subx_in (.head _) ?_ | refine subx_in (.tail _ (.head _)) ?_ | refine subx_in (.tail _ (.tail _ (.head _))) ?_ | refine subx_in (.tail _ (.tail _ (.tail _ (.head _)))) ?_ | refine subx_new (by first | assumption | (simp only [Store.newTok_heap]; assumption)) ?_ | refine subx_tok ?_ | refine subx_newTok (by assumption) ?_)))) ?_
        simp
end Go.Proofs.Ytdedpamcpgbgmaa
