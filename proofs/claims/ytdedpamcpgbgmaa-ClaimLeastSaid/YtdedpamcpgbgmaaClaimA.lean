/-
  Claims: the small functions of the program and of the reference. Own work (an AI agent).
-/
import Derived.Test.YtdedpamcpgbgmaaHeapLaw
import Derived.Test.YtdedpamcpgbgmaaCmp
set_option linter.all false
set_option maxRecDepth 100000
namespace Go.Proofs.Ytdedpamcpgbgmaa
open Go.Ab
open Go.MapKept (IsKey)

def sS (s : ByteArray) : AVal := vStr s
attribute [go_sem] sS
theorem getS {l : List ByteArray} {i : Nat} (h : i < l.length) : ∃ x, l[i]? = some x := ⟨l[i], by simp [h]⟩
def cnt (l : List ByteArray) (s : ByteArray) : Nat := l.countP fun x => decide (x = s)
theorem cnt_take {l : List ByteArray} {i : Nat} {x s : ByteArray} (hx : l[i]? = some x) : cnt (l.take (i + 1)) s = cnt (l.take i) s + if x = s then 1 else 0 := by
  unfold cnt
  rw [List.take_succ, hx, List.countP_append]
  by_cases h : x = s <;> simp [h]
theorem cnt_le (l : List ByteArray) (s : ByteArray) : cnt l s ≤ l.length := List.countP_le_length
def loadsS (o n : List ByteArray) : List Int := n.map fun s => (cnt o s : Int)

/-! ### counts by name -/
def kvC (M : List (ByteArray × Int)) : List (Value × AVal) := M.map fun p => (.string p.1, vInt p.2)
def getC (M : List (ByteArray × Int)) (s : ByteArray) : Int := match M.find? (fun p => decide (p.1 = s)) with | some p => p.2 | none => 0
def putC (M : List (ByteArray × Int)) (s : ByteArray) (n : Int) : List (ByteArray × Int) := match M with
  | [] => [(s, n)]
  | p :: M => if p.1 = s then (s, n) :: M else p :: putC M s n
theorem kvC_keys (M : List (ByteArray × Int)) : ∀ x ∈ kvC M, IsKey .string x.1 := by
  intro x hx
  obtain ⟨p, _, rfl⟩ := List.mem_map.1 hx
  trivial
theorem kvPut_C (s : ByteArray) (n : Int) : ∀ M, kvPut (.string s) (vInt n) (kvC M) = kvC (putC M s n)
  | [] => rfl
  | p :: M => by
    have ih := kvPut_C s n M
    unfold kvC at ih ⊢
    unfold putC
    by_cases h : p.1 = s
    · simp [kvPut, keyEq, h]
    · simp only [List.map_cons, kvPut, keyEq, h, decide_false, Bool.false_eq_true, if_false]
      rw [ih]
theorem getC_put (s t : ByteArray) (n : Int) : ∀ M, getC (putC M s n) t = if s = t then n else getC M t
  | [] => by by_cases h : s = t <;> simp [getC, putC, h]
  | p :: M => by
    have ih := getC_put s t n M
    unfold getC at ih ⊢
    unfold putC
    by_cases h : p.1 = s
    · rw [if_pos h]
      simp only [List.find?_cons]
      by_cases h2 : s = t
      · simp [h2]
      · simp [h2, h]
    · rw [if_neg h]
      simp only [List.find?_cons]
      by_cases h2 : p.1 = t
      · have : ¬ s = t := fun hh => h (h2.trans hh.symm)
        simp [h2, this]
      · simp only [h2, decide_false]
        exact ih
theorem afind_C (s : ByteArray) : ∀ M, afindNow .string (.string s) (kvC M) = some ((M.find? fun p => decide (p.1 = s)).map fun p => vInt p.2)
  | [] => rfl
  | p :: M => by
    have ih := afind_C s M
    unfold kvC at ih ⊢
    rw [List.map_cons, afindNow, List.find?_cons]
    simp only [Instr.sameNow]
    by_cases h : p.1 = s
    · have h' : (s == s) = true := (Go.MapKept.bytes_beq s s).2 rfl
      rw [h, h']
      simp
    · have h' : (s == p.1) = false := by
        cases hh : (s == p.1) with
        | false => rfl
        | true => exact absurd (((Go.MapKept.bytes_beq _ _).1 hh).symm) h
      rw [h']
      simp only [h, decide_false]
      exact ih
theorem look_C {σ : Store} {o : Nat} {M : List (ByteArray × Int)} (h : σ.heap o = some (.map (kvC M))) (s : ByteArray) : alookup Try.prog σ 106 (.map o) (.lit (.string s)) false = some (vInt (getC M s)) := by
  have h1 : amapOf σ (.map o) = some (kvC M) := by simp [amapOf, h]
  unfold alookup
  simp only [go_sem, h1, plainKey, afind_C, if_true]
  unfold getC
  cases M.find? (fun p => decide (p.1 = s)) <;> rfl

theorem cnt_step {ow : List ByteArray} {i : Nat} {M : List (ByteArray × Int)} {x : ByteArray} (h : ∀ s, getC M s = (cnt (ow.take i) s : Int)) (hx : ow[i]? = some x) : ∀ s, getC (putC M x (getC M x + 1)) s = (cnt (ow.take (i + 1)) s : Int) := by
  intro s
  rw [getC_put, cnt_take hx]
  by_cases hs : x = s
  · subst hs
    rw [if_pos rfl, if_pos rfl, h]
    omega
  · rw [if_neg hs, if_neg hs, h]
    rfl
theorem loads_c {ow nm : List ByteArray} {σ : Store} {to tn : Bool} (ho : ow.length ≤ 1000) (hn : nm.length ≤ 1000) : ACalls Try.prog 46 [.sl 1 (ow.map sS) to, .sl 1 (nm.map sS) tn] σ fun v σ' => v = .sl 1 ((loadsS ow nm).map vInt) false ∧ Fr σ [] σ' [] := by
  refine ACalls_of Try.func46 rfl Try.ntmps46 (congrArg Array.toList Try.results46) (by simp only [List.length_cons, List.length_nil]; decide) ?_; simp only [envOf_cons, envOf_nil, Nat.reduceAdd]
  refine awp_seq ?_
  refine awp_region (by kernel_rfl) ?_
  (refine aL_S rfl rfl (by simp (disch := omega) only [go_sem, wrap_i64, ↓reduceIte, Nat.reduceEqDiff, Nat.reduceAdd, Nat.reduceSub, Nat.reduceMul, Nat.reduceLeDiff, reduceCtorEq, Int.reduceToNat, Int.reduceLE, Int.reduceLT]; rfl) ?_)
  refine aL_nil ?_
  refine awp_seq ?_
  refine awp_region (by kernel_rfl) ?_
  refine aL_X rfl rfl (AOp_makeMap rfl fun o11 ho11 => ?_)
  repeat (rw [none_set_iff] at ho11; obtain ⟨_, ho11⟩ := ho11)
  (refine aL_S rfl rfl (by simp (disch := omega) only [go_sem, wrap_i64, ↓reduceIte, Nat.reduceEqDiff, Nat.reduceAdd, Nat.reduceSub, Nat.reduceMul, Nat.reduceLeDiff, reduceCtorEq, Int.reduceToNat, Int.reduceLE, Int.reduceLT]; rfl) ?_)
  refine aL_nil ?_
  refine awp_seq ?_
  refine awp_seq ?_
  refine awp_region (by kernel_rfl) ?_
  iterate 3 (refine aL_S rfl rfl (by simp (disch := omega) only [go_sem, wrap_i64, ↓reduceIte, Nat.reduceEqDiff, Nat.reduceAdd, Nat.reduceSub, Nat.reduceMul, Nat.reduceLeDiff, reduceCtorEq, Int.reduceToNat, Int.reduceLE, Int.reduceLT]; rfl) ?_)
  refine aL_nil ?_
  refine awp_block ?_
  refine awp_loop_env (ι := Nat × List (ByteArray × Int)) (fun ⟨i, M⟩ => ow.length - i) (fun ⟨i, M⟩ => i ≤ ow.length ∧ ∀ s, getC M s = (cnt (ow.take i) s : Int)) (fun ⟨i, M⟩ => [(1, .sl 1 (nm.map sS) tn), (5, .map o11), (12, .sl 1 (ow.map sS) to), (13, vInt ow.length), (14, vInt i)]) (fun ⟨i, M⟩ => σ.set o11 (.map (kvC M))) (0, []) ?_ ?_ ?_ ?_
  · exact ⟨Nat.zero_le _, fun s => rfl⟩
  · ((repeat (refine covers.eq (by first | rfl | (simp (disch := omega) only [go_sem, wrap_i64, ↓reduceIte, Nat.reduceEqDiff, Nat.reduceAdd, Nat.reduceSub, Nat.reduceMul, Nat.reduceLeDiff, reduceCtorEq, Int.reduceToNat, Int.reduceLE, Int.reduceLT]; rfl) | (simp (disch := omega) only [go_sem, wrap_i64, ↓reduceIte, Nat.reduceEqDiff, Nat.reduceAdd, Nat.reduceSub, Nat.reduceMul, Nat.reduceLeDiff, reduceCtorEq, Int.reduceToNat, Int.reduceLE, Int.reduceLT])) ?_)); exact covers.nil)
  · first | exact Store.Wk.refl _ | exact Store.Sub.refl _ | ((try dsimp only); (try simp (disch := assumption) only [Store.newTok_set, Store.newTok_step]); (first | refine subx_start ?_ | refine subx_startS ?_); (repeat (first | refine subx_skip (.head _) ?_ | refine subx_skip (.tail _ (.head _)) ?_ | refine subx_skip (.tail _ (.tail _ (.head _))) ?_ | refine subx_skip (.tail _ (.tail _ (.tail _ (.head _)))) ?_ | refine subx_left (by first | (simp (disch := omega) only [go_sem, ↓reduceIte, Nat.reduceEqDiff, Nat.reduceAdd, Nat.reduceSub, Nat.reduceMul, Nat.reduceLeDiff, reduceCtorEq, Int.reduceToNat, Int.reduceLE, Int.reduceLT]; rfl) | simp (disch := omega) only [go_sem, ↓reduceIte, Nat.reduceEqDiff, Nat.reduceAdd, Nat.reduceSub, Nat.reduceMul, Nat.reduceLeDiff, reduceCtorEq, Int.reduceToNat, Int.reduceLE, Int.reduceLT]) ?_)); (repeat (first | exact subx_refl | refine subx_in (.head _) ?_ | refine subx_in (.tail _ (.head _)) ?_ | refine subx_in (.tail _ (.tail _ (.head _))) ?_ | refine subx_in (.tail _ (.tail _ (.tail _ (.head _)))) ?_ | refine subx_new (by first | assumption | (simp only [Store.newTok_heap]; assumption)) ?_ | refine subx_tok ?_ | refine subx_newTok (by assumption) ?_)))
  rintro ⟨i, M⟩ ⟨h1, h2⟩
  simp only [envL_cons, envL_nil]
  refine awp_seq ?_
  refine awp_region (by kernel_rfl) ?_
  (refine aL_S rfl rfl (by simp (disch := omega) only [go_sem, wrap_i64, ↓reduceIte, Nat.reduceEqDiff, Nat.reduceAdd, Nat.reduceSub, Nat.reduceMul, Nat.reduceLeDiff, reduceCtorEq, Int.reduceToNat, Int.reduceLE, Int.reduceLT]; rfl) ?_)
  refine aL_nil ?_
  refine awp_seq ?_
  refine awp_cond (by simp (disch := omega) only [go_sem, wrap_i64, ↓reduceIte, Nat.reduceEqDiff, Nat.reduceAdd, Nat.reduceSub, Nat.reduceMul, Nat.reduceLeDiff, reduceCtorEq, Int.reduceToNat, Int.reduceLE, Int.reduceLT]; rfl) (fun hc3 => ?_) (fun hc3 => ?_)
  · (try simp only [decide_eq_true_eq, decide_eq_false_iff_not, Bool.not_eq_true', Bool.not_eq_false', Bool.and_eq_true, Bool.or_eq_true, Bool.and_eq_false_iff, Bool.or_eq_false_iff, Bool.not_eq_eq_eq_not, Bool.not_true, Bool.not_false, Int.not_le, Int.not_lt, beq_iff_eq] at hc3)
    refine awp_skip ?_
    refine awp_seq ?_
    refine awp_block ?_
    refine awp_seq ?_
    have hi : i < ow.length := by omega
    obtain ⟨x, hx⟩ := getS hi
    have hl := look_C (σ := σ.set o11 (.map (kvC M))) (Store.set_get ..) x
    have hb : getC M x ≤ 1000 := by rw [h2]; have := cnt_le (ow.take i) x; simp at this; omega
    have hb0 : 0 ≤ getC M x := by rw [h2]; omega
    refine awp_region (by kernel_rfl) ?_
    (refine aL_S rfl rfl (by simp (disch := omega) only [go_sem, wrap_i64, ↓reduceIte, Nat.reduceEqDiff, Nat.reduceAdd, Nat.reduceSub, Nat.reduceMul, Nat.reduceLeDiff, reduceCtorEq, Int.reduceToNat, Int.reduceLE, Int.reduceLT, List.getElem?_map, hx]; rfl) ?_)
    (refine aL_S rfl rfl (by simp (disch := omega) only [go_sem, wrap_i64, ↓reduceIte, Nat.reduceEqDiff, Nat.reduceAdd, Nat.reduceSub, Nat.reduceMul, Nat.reduceLeDiff, reduceCtorEq, Int.reduceToNat, Int.reduceLE, Int.reduceLT, List.getElem?_map, hx]; rfl) ?_)
    (refine aL_S rfl rfl (by simp (disch := omega) only [go_sem, wrap_i64, ↓reduceIte, Nat.reduceEqDiff, Nat.reduceAdd, Nat.reduceSub, Nat.reduceMul, Nat.reduceLeDiff, reduceCtorEq, Int.reduceToNat, Int.reduceLE, Int.reduceLT, List.getElem?_map, hx]; rfl) ?_)
    refine aL_nil ?_
    refine awp_region (by kernel_rfl) ?_
    (refine aL_S rfl rfl (by simp (disch := omega) only [go_sem, wrap_i64, ↓reduceIte, Nat.reduceEqDiff, Nat.reduceAdd, Nat.reduceSub, Nat.reduceMul, Nat.reduceLeDiff, reduceCtorEq, Int.reduceToNat, Int.reduceLE, Int.reduceLT, hl]; rfl) ?_)
    (refine aL_S rfl rfl (by simp (disch := omega) only [go_sem, wrap_i64, ↓reduceIte, Nat.reduceEqDiff, Nat.reduceAdd, Nat.reduceSub, Nat.reduceMul, Nat.reduceLeDiff, reduceCtorEq, Int.reduceToNat, Int.reduceLE, Int.reduceLT, hl]; rfl) ?_)
    (refine aL_S rfl rfl (by simp (disch := omega) only [go_sem, wrap_i64, ↓reduceIte, Nat.reduceEqDiff, Nat.reduceAdd, Nat.reduceSub, Nat.reduceMul, Nat.reduceLeDiff, reduceCtorEq, Int.reduceToNat, Int.reduceLE, Int.reduceLT, hl]; rfl) ?_)
    (refine aL_S rfl rfl (by simp (disch := omega) only [go_sem, wrap_i64, ↓reduceIte, Nat.reduceEqDiff, Nat.reduceAdd, Nat.reduceSub, Nat.reduceMul, Nat.reduceLeDiff, reduceCtorEq, Int.reduceToNat, Int.reduceLE, Int.reduceLT, hl]; rfl) ?_)
    refine aL_X0 rfl rfl (AOp_mapUpdate rfl (by first | (simp only [go_sem]; rfl) | simp only [go_sem]) (by first | (simp only [go_sem]; rfl) | simp only [go_sem]) (by simp (disch := omega) only [go_sem, wrap_i64, ↓reduceIte, Nat.reduceEqDiff, Nat.reduceAdd, Nat.reduceSub, Nat.reduceMul, Nat.reduceLeDiff, reduceCtorEq, Int.reduceToNat, Int.reduceLE, Int.reduceLT, hl]; rfl) (by first | (simp (disch := omega) only [go_sem, ↓reduceIte, Nat.reduceEqDiff, Nat.reduceAdd, Nat.reduceSub, Nat.reduceMul, Nat.reduceLeDiff, reduceCtorEq, Int.reduceToNat, Int.reduceLE, Int.reduceLT, hl]; rfl) | simp (disch := omega) only [go_sem, ↓reduceIte, Nat.reduceEqDiff, Nat.reduceAdd, Nat.reduceSub, Nat.reduceMul, Nat.reduceLeDiff, reduceCtorEq, Int.reduceToNat, Int.reduceLE, Int.reduceLT, hl]) (by simp (disch := omega) only [go_sem, wrap_i64, ↓reduceIte, Nat.reduceEqDiff, Nat.reduceAdd, Nat.reduceSub, Nat.reduceMul, Nat.reduceLeDiff, reduceCtorEq, Int.reduceToNat, Int.reduceLE, Int.reduceLT, hl]; rfl) (by first | rfl | trivial | simp [Go.MapKept.IsKey]) (by exact kvC_keys M) (by simp (disch := omega) only [go_sem, wrap_i64, ↓reduceIte, Nat.reduceEqDiff, Nat.reduceAdd, Nat.reduceSub, Nat.reduceMul, Nat.reduceLeDiff, reduceCtorEq, Int.reduceToNat, Int.reduceLE, Int.reduceLT, hl]; rfl) ?_)
    refine aL_nil ?_
    rw [kvPut_C, Store.set_set]
    refine awp_region (by kernel_rfl) ?_
    iterate 2 (refine aL_S rfl rfl (by simp (disch := omega) only [go_sem, wrap_i64, ↓reduceIte, Nat.reduceEqDiff, Nat.reduceAdd, Nat.reduceSub, Nat.reduceMul, Nat.reduceLeDiff, reduceCtorEq, Int.reduceToNat, Int.reduceLE, Int.reduceLT]; rfl) ?_)
    refine aL_nil ?_
    refine aNext (ι := Nat × List (ByteArray × Int)) (i := ⟨i, M⟩) (i + 1, putC M x (getC M x + 1)) ?_ ?_ ?_ ?_
    · show ow.length - (i + 1) < ow.length - i; omega
    · exact ⟨hi, cnt_step h2 hx⟩
    · ((repeat (refine covers.eq (by first | rfl | (simp (disch := omega) only [go_sem, wrap_i64, ↓reduceIte, Nat.reduceEqDiff, Nat.reduceAdd, Nat.reduceSub, Nat.reduceMul, Nat.reduceLeDiff, reduceCtorEq, Int.reduceToNat, Int.reduceLE, Int.reduceLT]; rfl) | (simp (disch := omega) only [go_sem, wrap_i64, ↓reduceIte, Nat.reduceEqDiff, Nat.reduceAdd, Nat.reduceSub, Nat.reduceMul, Nat.reduceLeDiff, reduceCtorEq, Int.reduceToNat, Int.reduceLE, Int.reduceLT])) ?_)); exact covers.nil)
    · first | exact Store.Wk.refl _ | exact Store.Sub.refl _ | ((try dsimp only); (try simp (disch := assumption) only [Store.newTok_set, Store.newTok_step]); (first | refine subx_start ?_ | refine subx_startS ?_); (repeat (first | refine subx_skip (.head _) ?_ | refine subx_skip (.tail _ (.head _)) ?_ | refine subx_skip (.tail _ (.tail _ (.head _))) ?_ | refine subx_skip (.tail _ (.tail _ (.tail _ (.head _)))) ?_ | refine subx_left (by first | (simp (disch := omega) only [go_sem, ↓reduceIte, Nat.reduceEqDiff, Nat.reduceAdd, Nat.reduceSub, Nat.reduceMul, Nat.reduceLeDiff, reduceCtorEq, Int.reduceToNat, Int.reduceLE, Int.reduceLT]; rfl) | simp (disch := omega) only [go_sem, ↓reduceIte, Nat.reduceEqDiff, Nat.reduceAdd, Nat.reduceSub, Nat.reduceMul, Nat.reduceLeDiff, reduceCtorEq, Int.reduceToNat, Int.reduceLE, Int.reduceLT]) ?_)); (repeat (first | exact subx_refl | refine subx_in (.head _) ?_ | refine subx_in (.tail _ (.head _)) ?_ | refine subx_in (.tail _ (.tail _ (.head _))) ?_ | refine subx_in (.tail _ (.tail _ (.tail _ (.head _)))) ?_ | refine subx_new (by first | assumption | (simp only [Store.newTok_heap]; assumption)) ?_ | refine subx_tok ?_ | refine subx_newTok (by assumption) ?_)))
  · (try simp only [decide_eq_true_eq, decide_eq_false_iff_not, Bool.not_eq_true', Bool.not_eq_false', Bool.and_eq_true, Bool.or_eq_true, Bool.and_eq_false_iff, Bool.or_eq_false_iff, Bool.not_eq_eq_eq_not, Bool.not_true, Bool.not_false, Int.not_le, Int.not_lt, beq_iff_eq] at hc3)
    refine awp_exit ?_
    refine aThen_exit ?_
    refine aThen_exit ?_
    refine aBlock_hit ?_
    refine awp_seq ?_
    refine awp_region (by kernel_rfl) ?_
    refine aL_nilOwn 3 1 rfl rfl rfl (by rfl) fun k8 hk8 => ?_
    refine aL_nil ?_
    refine awp_seq ?_
    refine awp_seq ?_
    refine awp_region (by kernel_rfl) ?_
    iterate 3 (refine aL_S rfl rfl (by simp (disch := omega) only [go_sem, wrap_i64, ↓reduceIte, Nat.reduceEqDiff, Nat.reduceAdd, Nat.reduceSub, Nat.reduceMul, Nat.reduceLeDiff, reduceCtorEq, Int.reduceToNat, Int.reduceLE, Int.reduceLT]; rfl) ?_)
    refine aL_nil ?_
    refine awp_block ?_
    refine awp_loop_env (ι := Nat × Nat) (fun ⟨j, k⟩ => nm.length - j) (fun ⟨j, k⟩ => j ≤ nm.length ∧ σ.tok k = none) (fun ⟨j, k⟩ => [(5, .map o11), (8, .own k 1 ((loadsS ow (nm.take j)).map vInt)), (23, .sl 1 (nm.map sS) tn), (24, vInt nm.length), (25, vInt j)]) (fun ⟨j, k⟩ => (σ.newTok none k (3, 1)).set o11 (.map (kvC M))) (0, k8) ?_ ?_ ?_ ?_
    · exact ⟨Nat.zero_le _, hk8⟩
    · ((repeat (refine covers.eq (by first | rfl | (simp (disch := omega) only [go_sem, wrap_i64, ↓reduceIte, Nat.reduceEqDiff, Nat.reduceAdd, Nat.reduceSub, Nat.reduceMul, Nat.reduceLeDiff, reduceCtorEq, Int.reduceToNat, Int.reduceLE, Int.reduceLT]; rfl) | (simp (disch := omega) only [go_sem, wrap_i64, ↓reduceIte, Nat.reduceEqDiff, Nat.reduceAdd, Nat.reduceSub, Nat.reduceMul, Nat.reduceLeDiff, reduceCtorEq, Int.reduceToNat, Int.reduceLE, Int.reduceLT])) ?_)); exact covers.nil)
    · first | exact Store.Wk.refl _ | exact Store.Sub.refl _ | ((try dsimp only); (try simp (disch := assumption) only [Store.newTok_set, Store.newTok_step]); (first | refine subx_start ?_ | refine subx_startS ?_); (repeat (first | refine subx_skip (.head _) ?_ | refine subx_skip (.tail _ (.head _)) ?_ | refine subx_skip (.tail _ (.tail _ (.head _))) ?_ | refine subx_skip (.tail _ (.tail _ (.tail _ (.head _)))) ?_ | refine subx_left (by first | (simp (disch := omega) only [go_sem, ↓reduceIte, Nat.reduceEqDiff, Nat.reduceAdd, Nat.reduceSub, Nat.reduceMul, Nat.reduceLeDiff, reduceCtorEq, Int.reduceToNat, Int.reduceLE, Int.reduceLT]; rfl) | simp (disch := omega) only [go_sem, ↓reduceIte, Nat.reduceEqDiff, Nat.reduceAdd, Nat.reduceSub, Nat.reduceMul, Nat.reduceLeDiff, reduceCtorEq, Int.reduceToNat, Int.reduceLE, Int.reduceLT]) ?_)); (repeat (first | exact subx_refl | refine subx_in (.head _) ?_ | refine subx_in (.tail _ (.head _)) ?_ | refine subx_in (.tail _ (.tail _ (.head _))) ?_ | refine subx_in (.tail _ (.tail _ (.tail _ (.head _)))) ?_ | refine subx_new (by first | assumption | (simp only [Store.newTok_heap]; assumption)) ?_ | refine subx_tok ?_ | refine subx_newTok (by assumption) ?_)))
    rintro ⟨j, k⟩ ⟨h3, h4⟩
    simp only [envL_cons, envL_nil]
    refine awp_seq ?_
    refine awp_region (by kernel_rfl) ?_
    (refine aL_S rfl rfl (by simp (disch := omega) only [go_sem, wrap_i64, ↓reduceIte, Nat.reduceEqDiff, Nat.reduceAdd, Nat.reduceSub, Nat.reduceMul, Nat.reduceLeDiff, reduceCtorEq, Int.reduceToNat, Int.reduceLE, Int.reduceLT]; rfl) ?_)
    refine aL_nil ?_
    refine awp_seq ?_
    refine awp_cond (by simp (disch := omega) only [go_sem, wrap_i64, ↓reduceIte, Nat.reduceEqDiff, Nat.reduceAdd, Nat.reduceSub, Nat.reduceMul, Nat.reduceLeDiff, reduceCtorEq, Int.reduceToNat, Int.reduceLE, Int.reduceLT]; rfl) (fun hc9 => ?_) (fun hc9 => ?_)
    · (try simp only [decide_eq_true_eq, decide_eq_false_iff_not, Bool.not_eq_true', Bool.not_eq_false', Bool.and_eq_true, Bool.or_eq_true, Bool.and_eq_false_iff, Bool.or_eq_false_iff, Bool.not_eq_eq_eq_not, Bool.not_true, Bool.not_false, Int.not_le, Int.not_lt, beq_iff_eq] at hc9)
      refine awp_skip ?_
      refine awp_seq ?_
      refine awp_block ?_
      refine awp_seq ?_
      have hj : j < nm.length := by omega
      obtain ⟨y, hy⟩ := getS hj
      have hl := look_C (σ := (σ.newTok none k (3, 1)).set o11 (.map (kvC M))) (Store.set_get ..) y
      have hM : getC M y = (cnt ow y : Int) := by rw [h2, List.take_of_length_le (by omega)]
      have hld : loadsS ow (nm.take (j + 1)) = loadsS ow (nm.take j) ++ [(cnt ow y : Int)] := by unfold loadsS; rw [List.take_succ, hy, List.map_append]; rfl
      refine awp_region (by kernel_rfl) ?_
      (refine aL_S rfl rfl (by simp (disch := omega) only [go_sem, wrap_i64, ↓reduceIte, Nat.reduceEqDiff, Nat.reduceAdd, Nat.reduceSub, Nat.reduceMul, Nat.reduceLeDiff, reduceCtorEq, Int.reduceToNat, Int.reduceLE, Int.reduceLT, List.getElem?_map, hy]; rfl) ?_)
      (refine aL_S rfl rfl (by simp (disch := omega) only [go_sem, wrap_i64, ↓reduceIte, Nat.reduceEqDiff, Nat.reduceAdd, Nat.reduceSub, Nat.reduceMul, Nat.reduceLeDiff, reduceCtorEq, Int.reduceToNat, Int.reduceLE, Int.reduceLT, List.getElem?_map, hy]; rfl) ?_)
      (refine aL_S rfl rfl (by simp (disch := omega) only [go_sem, wrap_i64, ↓reduceIte, Nat.reduceEqDiff, Nat.reduceAdd, Nat.reduceSub, Nat.reduceMul, Nat.reduceLeDiff, reduceCtorEq, Int.reduceToNat, Int.reduceLE, Int.reduceLT, List.getElem?_map, hy]; rfl) ?_)
      refine aL_nil ?_
      refine awp_region (by kernel_rfl) ?_
      (refine aL_S rfl rfl (by simp (disch := omega) only [go_sem, wrap_i64, ↓reduceIte, Nat.reduceEqDiff, Nat.reduceAdd, Nat.reduceSub, Nat.reduceMul, Nat.reduceLeDiff, reduceCtorEq, Int.reduceToNat, Int.reduceLE, Int.reduceLT, hl, hM]; rfl) ?_)
      (refine aL_S rfl rfl (by simp (disch := omega) only [go_sem, wrap_i64, ↓reduceIte, Nat.reduceEqDiff, Nat.reduceAdd, Nat.reduceSub, Nat.reduceMul, Nat.reduceLeDiff, reduceCtorEq, Int.reduceToNat, Int.reduceLE, Int.reduceLT, hl, hM]; rfl) ?_)
      (refine aL_S rfl rfl (by simp (disch := omega) only [go_sem, wrap_i64, ↓reduceIte, Nat.reduceEqDiff, Nat.reduceAdd, Nat.reduceSub, Nat.reduceMul, Nat.reduceLeDiff, reduceCtorEq, Int.reduceToNat, Int.reduceLE, Int.reduceLT, hl, hM]; rfl) ?_)
      (refine aL_S rfl rfl (by simp (disch := omega) only [go_sem, wrap_i64, ↓reduceIte, Nat.reduceEqDiff, Nat.reduceAdd, Nat.reduceSub, Nat.reduceMul, Nat.reduceLeDiff, reduceCtorEq, Int.reduceToNat, Int.reduceLE, Int.reduceLT, hl, hM]; rfl) ?_)
      refine aL_buildSlice rfl rfl rfl (by simp only [go_sem]; rfl) (by simp only [go_sem]; rfl) rfl rfl (by simp (disch := omega) only [go_sem, ↓reduceIte, Nat.reduceEqDiff, Nat.reduceAdd, Nat.reduceSub, Nat.reduceMul, Nat.reduceLeDiff, reduceCtorEq, Int.reduceToNat, Int.reduceLE, Int.reduceLT, hl, hM]; rfl) (by simp [go_sem, AVal.one, AVal.cells, AVal.solid]) (by decide) ?_
      refine aL_append rfl rfl rfl (by simp only [go_sem]; rfl) (by simp only [go_sem]; rfl) (by simp (disch := omega) only [go_sem, wrap_i64, ↓reduceIte, Nat.reduceEqDiff, Nat.reduceAdd, Nat.reduceSub, Nat.reduceMul, Nat.reduceLeDiff, reduceCtorEq, Int.reduceToNat, Int.reduceLE, Int.reduceLT, hl, hM]; rfl) (by simp (disch := omega) only [go_sem, ↓reduceIte, Nat.reduceEqDiff, Nat.reduceAdd, Nat.reduceSub, Nat.reduceMul, Nat.reduceLeDiff, reduceCtorEq, Int.reduceToNat, Int.reduceLE, Int.reduceLT, hl, hM]) (by simp (disch := omega) only [go_sem, wrap_i64, ↓reduceIte, Nat.reduceEqDiff, Nat.reduceAdd, Nat.reduceSub, Nat.reduceMul, Nat.reduceLeDiff, reduceCtorEq, Int.reduceToNat, Int.reduceLE, Int.reduceLT, hl, hM]; rfl) (by simp [AVal.one, AVal.cells]) (by unfold loadsS; simp; omega) fun k34 hk34 => ?_
      (refine aL_S rfl rfl (by simp (disch := omega) only [go_sem, wrap_i64, ↓reduceIte, Nat.reduceEqDiff, Nat.reduceAdd, Nat.reduceSub, Nat.reduceMul, Nat.reduceLeDiff, reduceCtorEq, Int.reduceToNat, Int.reduceLE, Int.reduceLT, hl, hM]; rfl) ?_)
      refine aL_nil ?_
      refine awp_region (by kernel_rfl) ?_
      iterate 2 (refine aL_S rfl rfl (by simp (disch := omega) only [go_sem, wrap_i64, ↓reduceIte, Nat.reduceEqDiff, Nat.reduceAdd, Nat.reduceSub, Nat.reduceMul, Nat.reduceLeDiff, reduceCtorEq, Int.reduceToNat, Int.reduceLE, Int.reduceLT]; rfl) ?_)
      refine aL_nil ?_
      refine aNext (ι := Nat × Nat) (i := ⟨j, k⟩) (j + 1, k34) ?_ ?_ ?_ ?_
      · show nm.length - (j + 1) < nm.length - j; omega
      · exact ⟨hj, (newTok_none hk34).2⟩
      · ((repeat (refine covers.eq (by first | rfl | (simp (disch := omega) only [go_sem, wrap_i64, ↓reduceIte, Nat.reduceEqDiff, Nat.reduceAdd, Nat.reduceSub, Nat.reduceMul, Nat.reduceLeDiff, reduceCtorEq, Int.reduceToNat, Int.reduceLE, Int.reduceLT, hld]; rfl) | (simp (disch := omega) only [go_sem, wrap_i64, ↓reduceIte, Nat.reduceEqDiff, Nat.reduceAdd, Nat.reduceSub, Nat.reduceMul, Nat.reduceLeDiff, reduceCtorEq, Int.reduceToNat, Int.reduceLE, Int.reduceLT, hld])) ?_)); exact covers.nil)
      · first | exact Store.Wk.refl _ | exact Store.Sub.refl _ | ((try dsimp only); (try simp (disch := assumption) only [Store.newTok_set, Store.newTok_step]); (first | refine subx_start ?_ | refine subx_startS ?_); (repeat (first | refine subx_skip (.head _) ?_ | refine subx_skip (.tail _ (.head _)) ?_ | refine subx_skip (.tail _ (.tail _ (.head _))) ?_ | refine subx_skip (.tail _ (.tail _ (.tail _ (.head _)))) ?_ | refine subx_left (by first | (simp (disch := omega) only [go_sem, ↓reduceIte, Nat.reduceEqDiff, Nat.reduceAdd, Nat.reduceSub, Nat.reduceMul, Nat.reduceLeDiff, reduceCtorEq, Int.reduceToNat, Int.reduceLE, Int.reduceLT]; rfl) | simp (disch := omega) only [go_sem, ↓reduceIte, Nat.reduceEqDiff, Nat.reduceAdd, Nat.reduceSub, Nat.reduceMul, Nat.reduceLeDiff, reduceCtorEq, Int.reduceToNat, Int.reduceLE, Int.reduceLT]) ?_)); (repeat (first | exact subx_refl | refine subx_in (.head _) ?_ | refine subx_in (.tail _ (.head _)) ?_ | refine subx_in (.tail _ (.tail _ (.head _))) ?_ | refine subx_in (.tail _ (.tail _ (.tail _ (.head _)))) ?_ | refine subx_new (by first | assumption | (simp only [Store.newTok_heap]; assumption)) ?_ | refine subx_tok ?_ | refine subx_newTok (by assumption) ?_)))
    · (try simp only [decide_eq_true_eq, decide_eq_false_iff_not, Bool.not_eq_true', Bool.not_eq_false', Bool.and_eq_true, Bool.or_eq_true, Bool.and_eq_false_iff, Bool.or_eq_false_iff, Bool.not_eq_eq_eq_not, Bool.not_true, Bool.not_false, Int.not_le, Int.not_lt, beq_iff_eq] at hc9)
      refine awp_exit ?_
      refine aThen_exit ?_
      refine aThen_exit ?_
      refine aBlock_hit ?_
      refine awp_seq ?_
      refine awp_region (by kernel_rfl) ?_
      iterate 2 (refine aL_S rfl rfl (by simp (disch := omega) only [go_sem, wrap_i64, ↓reduceIte, Nat.reduceEqDiff, Nat.reduceAdd, Nat.reduceSub, Nat.reduceMul, Nat.reduceLeDiff, reduceCtorEq, Int.reduceToNat, Int.reduceLE, Int.reduceLT]; rfl) ?_)
      refine aL_nil ?_
      refine awp_ret ?_
      refine aEnd_retW (v := .sl 1 ((loadsS ow nm).map vInt) false) (σ' := (σ.newTok none k (3, 1)).set o11 (.map (kvC M))) (by first | (simp (disch := omega) only [go_sem, wrap_i64, ↓reduceIte, Nat.reduceEqDiff, Nat.reduceAdd, Nat.reduceSub, Nat.reduceMul, Nat.reduceLeDiff, reduceCtorEq, Int.reduceToNat, Int.reduceLE, Int.reduceLT]; rfl) | (simp (disch := omega) only [go_sem, wrap_i64, ↓reduceIte, Nat.reduceEqDiff, Nat.reduceAdd, Nat.reduceSub, Nat.reduceMul, Nat.reduceLeDiff, reduceCtorEq, Int.reduceToNat, Int.reduceLE, Int.reduceLT])) (by rw [show nm.take j = nm from List.take_of_length_le (by omega)]; exact Wk.own1 ..) (Store.Wk.refl _) ⟨rfl, ?_⟩
      exact ((Fr.refl σ []).newTok (fun j hj => by cases hj) h4).alloc ho11

/-- the reference's -/
theorem rLoads_c {ow nm : List ByteArray} {σ : Store} {to tn : Bool} (ho : ow.length ≤ 1000) (hn : nm.length ≤ 1000) : ACalls Try.prog 47 [.sl 1 (ow.map sS) to, .sl 1 (nm.map sS) tn] σ fun v σ' => v = .sl 1 ((loadsS ow nm).map vInt) false ∧ Fr σ [] σ' [] := by
  refine ACalls_of Try.func47 rfl Try.ntmps47 (congrArg Array.toList Try.results47) (by simp only [List.length_cons, List.length_nil]; decide) ?_; simp only [envOf_cons, envOf_nil, Nat.reduceAdd]
  refine awp_seq ?_
  refine awp_region (by kernel_rfl) ?_
  (refine aL_S rfl rfl (by simp (disch := omega) only [go_sem, wrap_i64, ↓reduceIte, Nat.reduceEqDiff, Nat.reduceAdd, Nat.reduceSub, Nat.reduceMul, Nat.reduceLeDiff, reduceCtorEq, Int.reduceToNat, Int.reduceLE, Int.reduceLT]; rfl) ?_)
  refine aL_nil ?_
  refine awp_seq ?_
  refine awp_region (by kernel_rfl) ?_
  refine aL_nilOwn 3 1 rfl rfl rfl (by rfl) fun k5 hk5 => ?_
  refine aL_nil ?_
  refine awp_seq ?_
  refine awp_seq ?_
  refine awp_region (by kernel_rfl) ?_
  (refine aL_S rfl rfl (by simp (disch := omega) only [go_sem, wrap_i64, ↓reduceIte, Nat.reduceEqDiff, Nat.reduceAdd, Nat.reduceSub, Nat.reduceMul, Nat.reduceLeDiff, reduceCtorEq, Int.reduceToNat, Int.reduceLE, Int.reduceLT]; rfl) ?_)
  refine aL_nil ?_
  refine awp_block ?_
  refine awp_loop_env (ι := Nat × Nat) (fun ⟨j, k⟩ => nm.length - j) (fun ⟨j, k⟩ => j ≤ nm.length ∧ σ.tok k = none) (fun ⟨j, k⟩ => [(0, .sl 1 (ow.map sS) to), (1, .sl 1 (nm.map sS) tn), (5, .own k 1 ((loadsS ow (nm.take j)).map vInt)), (6, vInt j)]) (fun ⟨j, k⟩ => σ.newTok none k (3, 1)) (0, k5) ?_ ?_ ?_ ?_
  · exact ⟨Nat.zero_le _, hk5⟩
  · ((repeat (refine covers.eq (by first | rfl | (simp (disch := omega) only [go_sem, wrap_i64, ↓reduceIte, Nat.reduceEqDiff, Nat.reduceAdd, Nat.reduceSub, Nat.reduceMul, Nat.reduceLeDiff, reduceCtorEq, Int.reduceToNat, Int.reduceLE, Int.reduceLT]; rfl) | (simp (disch := omega) only [go_sem, wrap_i64, ↓reduceIte, Nat.reduceEqDiff, Nat.reduceAdd, Nat.reduceSub, Nat.reduceMul, Nat.reduceLeDiff, reduceCtorEq, Int.reduceToNat, Int.reduceLE, Int.reduceLT])) ?_)); exact covers.nil)
  · first | exact Store.Wk.refl _ | exact Store.Sub.refl _ | ((try dsimp only); (try simp (disch := assumption) only [Store.newTok_set, Store.newTok_step]); (first | refine subx_start ?_ | refine subx_startS ?_); (repeat (first | refine subx_skip (.head _) ?_ | refine subx_skip (.tail _ (.head _)) ?_ | refine subx_skip (.tail _ (.tail _ (.head _))) ?_ | refine subx_skip (.tail _ (.tail _ (.tail _ (.head _)))) ?_ | refine subx_left (by first | (simp (disch := omega) only [go_sem, ↓reduceIte, Nat.reduceEqDiff, Nat.reduceAdd, Nat.reduceSub, Nat.reduceMul, Nat.reduceLeDiff, reduceCtorEq, Int.reduceToNat, Int.reduceLE, Int.reduceLT]; rfl) | simp (disch := omega) only [go_sem, ↓reduceIte, Nat.reduceEqDiff, Nat.reduceAdd, Nat.reduceSub, Nat.reduceMul, Nat.reduceLeDiff, reduceCtorEq, Int.reduceToNat, Int.reduceLE, Int.reduceLT]) ?_)); (repeat (first | exact subx_refl | refine subx_in (.head _) ?_ | refine subx_in (.tail _ (.head _)) ?_ | refine subx_in (.tail _ (.tail _ (.head _))) ?_ | refine subx_in (.tail _ (.tail _ (.tail _ (.head _)))) ?_ | refine subx_new (by first | assumption | (simp only [Store.newTok_heap]; assumption)) ?_ | refine subx_tok ?_ | refine subx_newTok (by assumption) ?_)))
  rintro ⟨j, k⟩ ⟨h3, h4⟩
  simp only [envL_cons, envL_nil]
  refine awp_seq ?_
  refine awp_seq ?_
  refine awp_region (by kernel_rfl) ?_
  iterate 4 (refine aL_S rfl rfl (by simp (disch := omega) only [go_sem, wrap_i64, ↓reduceIte, Nat.reduceEqDiff, Nat.reduceAdd, Nat.reduceSub, Nat.reduceMul, Nat.reduceLeDiff, reduceCtorEq, Int.reduceToNat, Int.reduceLE, Int.reduceLT]; rfl) ?_)
  refine aL_nil ?_
  refine awp_cond (by simp (disch := omega) only [go_sem, wrap_i64, ↓reduceIte, Nat.reduceEqDiff, Nat.reduceAdd, Nat.reduceSub, Nat.reduceMul, Nat.reduceLeDiff, reduceCtorEq, Int.reduceToNat, Int.reduceLE, Int.reduceLT]; rfl) (fun hc3 => ?_) (fun hc3 => ?_)
  · (try simp only [decide_eq_true_eq, decide_eq_false_iff_not, Bool.not_eq_true', Bool.not_eq_false', Bool.and_eq_true, Bool.or_eq_true, Bool.and_eq_false_iff, Bool.or_eq_false_iff, Bool.not_eq_eq_eq_not, Bool.not_true, Bool.not_false, Int.not_le, Int.not_lt, beq_iff_eq] at hc3)
    refine awp_skip ?_
    refine awp_seq ?_
    refine awp_block ?_
    refine awp_seq ?_
    have hj : j < nm.length := by omega
    obtain ⟨y, hy⟩ := getS hj
    refine awp_region (by kernel_rfl) ?_
    (refine aL_S rfl rfl (by simp (disch := omega) only [go_sem, wrap_i64, ↓reduceIte, Nat.reduceEqDiff, Nat.reduceAdd, Nat.reduceSub, Nat.reduceMul, Nat.reduceLeDiff, reduceCtorEq, Int.reduceToNat, Int.reduceLE, Int.reduceLT]; rfl) ?_)
    refine aL_nil ?_
    refine awp_seq ?_
    refine awp_seq ?_
    refine awp_region (by kernel_rfl) ?_
    (refine aL_S rfl rfl (by simp (disch := omega) only [go_sem, wrap_i64, ↓reduceIte, Nat.reduceEqDiff, Nat.reduceAdd, Nat.reduceSub, Nat.reduceMul, Nat.reduceLeDiff, reduceCtorEq, Int.reduceToNat, Int.reduceLE, Int.reduceLT]; rfl) ?_)
    refine aL_nil ?_
    refine awp_block ?_
    refine awp_loop_env (ι := Nat) (fun i => ow.length - i) (fun i => i ≤ ow.length) (fun i => [(0, .sl 1 (ow.map sS) to), (1, .sl 1 (nm.map sS) tn), (5, .own k 1 ((loadsS ow (nm.take j)).map vInt)), (6, vInt j), (7, vInt (cnt (ow.take i) y)), (8, vInt i)]) (fun i => σ.newTok none k (3, 1)) 0 ?_ ?_ ?_ ?_
    · exact Nat.zero_le _
    · ((repeat (refine covers.eq (by first | rfl | (simp (disch := omega) only [go_sem, wrap_i64, ↓reduceIte, Nat.reduceEqDiff, Nat.reduceAdd, Nat.reduceSub, Nat.reduceMul, Nat.reduceLeDiff, reduceCtorEq, Int.reduceToNat, Int.reduceLE, Int.reduceLT]; rfl) | (simp (disch := omega) only [go_sem, wrap_i64, ↓reduceIte, Nat.reduceEqDiff, Nat.reduceAdd, Nat.reduceSub, Nat.reduceMul, Nat.reduceLeDiff, reduceCtorEq, Int.reduceToNat, Int.reduceLE, Int.reduceLT])) ?_)); exact covers.nil)
    · first | exact Store.Wk.refl _ | exact Store.Sub.refl _ | ((try dsimp only); (try simp (disch := assumption) only [Store.newTok_set, Store.newTok_step]); (first | refine subx_start ?_ | refine subx_startS ?_); (repeat (first | refine subx_skip (.head _) ?_ | refine subx_skip (.tail _ (.head _)) ?_ | refine subx_skip (.tail _ (.tail _ (.head _))) ?_ | refine subx_skip (.tail _ (.tail _ (.tail _ (.head _)))) ?_ | refine subx_left (by first | (simp (disch := omega) only [go_sem, ↓reduceIte, Nat.reduceEqDiff, Nat.reduceAdd, Nat.reduceSub, Nat.reduceMul, Nat.reduceLeDiff, reduceCtorEq, Int.reduceToNat, Int.reduceLE, Int.reduceLT]; rfl) | simp (disch := omega) only [go_sem, ↓reduceIte, Nat.reduceEqDiff, Nat.reduceAdd, Nat.reduceSub, Nat.reduceMul, Nat.reduceLeDiff, reduceCtorEq, Int.reduceToNat, Int.reduceLE, Int.reduceLT]) ?_)); (repeat (first | exact subx_refl | refine subx_in (.head _) ?_ | refine subx_in (.tail _ (.head _)) ?_ | refine subx_in (.tail _ (.tail _ (.head _))) ?_ | refine subx_in (.tail _ (.tail _ (.tail _ (.head _)))) ?_ | refine subx_new (by first | assumption | (simp only [Store.newTok_heap]; assumption)) ?_ | refine subx_tok ?_ | refine subx_newTok (by assumption) ?_)))
    rintro i h1
    simp only [envL_cons, envL_nil]
    refine awp_seq ?_
    refine awp_seq ?_
    refine awp_region (by kernel_rfl) ?_
    iterate 4 (refine aL_S rfl rfl (by simp (disch := omega) only [go_sem, wrap_i64, ↓reduceIte, Nat.reduceEqDiff, Nat.reduceAdd, Nat.reduceSub, Nat.reduceMul, Nat.reduceLeDiff, reduceCtorEq, Int.reduceToNat, Int.reduceLE, Int.reduceLT]; rfl) ?_)
    refine aL_nil ?_
    refine awp_cond (by simp (disch := omega) only [go_sem, wrap_i64, ↓reduceIte, Nat.reduceEqDiff, Nat.reduceAdd, Nat.reduceSub, Nat.reduceMul, Nat.reduceLeDiff, reduceCtorEq, Int.reduceToNat, Int.reduceLE, Int.reduceLT]; rfl) (fun hc7 => ?_) (fun hc7 => ?_)
    · (try simp only [decide_eq_true_eq, decide_eq_false_iff_not, Bool.not_eq_true', Bool.not_eq_false', Bool.and_eq_true, Bool.or_eq_true, Bool.and_eq_false_iff, Bool.or_eq_false_iff, Bool.not_eq_eq_eq_not, Bool.not_true, Bool.not_false, Int.not_le, Int.not_lt, beq_iff_eq] at hc7)
      refine awp_skip ?_
      refine awp_seq ?_
      refine awp_block ?_
      refine awp_seq ?_
      have hi : i < ow.length := by omega
      obtain ⟨x, hx⟩ := getS hi
      have hb := cnt_le (ow.take i) y
      have hlt : (ow.take i).length ≤ 1000 := by simp; omega
      refine awp_draw (.op 0 0 (.op 1 0 (.op 2 0 (.op 3 0 (.op 4 0 (.op 5 0 (.op 6 0 (.op 7 0 (.op 8 0 .nil))))))))) Try.mixed (by kernel_rfl) ?_
      (refine dR_S (by simp only [List.getElem?_toArray, List.getElem?_cons_zero, List.getElem?_cons_succ]; rfl) (by rfl) (by rfl) (by simp (disch := omega) only [go_sem, wrap_i64, ↓reduceIte, Nat.reduceEqDiff, Nat.reduceAdd, Nat.reduceSub, Nat.reduceMul, Nat.reduceLeDiff, reduceCtorEq, Int.reduceToNat, Int.reduceLE, Int.reduceLT, List.getElem?_map, hx, hy]; rfl) ?_)
      (refine dR_S (by simp only [List.getElem?_toArray, List.getElem?_cons_zero, List.getElem?_cons_succ]; rfl) (by rfl) (by rfl) (by simp (disch := omega) only [go_sem, wrap_i64, ↓reduceIte, Nat.reduceEqDiff, Nat.reduceAdd, Nat.reduceSub, Nat.reduceMul, Nat.reduceLeDiff, reduceCtorEq, Int.reduceToNat, Int.reduceLE, Int.reduceLT, List.getElem?_map, hx, hy]; rfl) ?_)
      (refine dR_S (by simp only [List.getElem?_toArray, List.getElem?_cons_zero, List.getElem?_cons_succ]; rfl) (by rfl) (by rfl) (by simp (disch := omega) only [go_sem, wrap_i64, ↓reduceIte, Nat.reduceEqDiff, Nat.reduceAdd, Nat.reduceSub, Nat.reduceMul, Nat.reduceLeDiff, reduceCtorEq, Int.reduceToNat, Int.reduceLE, Int.reduceLT, List.getElem?_map, hx, hy]; rfl) ?_)
      (refine dR_S (by simp only [List.getElem?_toArray, List.getElem?_cons_zero, List.getElem?_cons_succ]; rfl) (by rfl) (by rfl) (by simp (disch := omega) only [go_sem, wrap_i64, ↓reduceIte, Nat.reduceEqDiff, Nat.reduceAdd, Nat.reduceSub, Nat.reduceMul, Nat.reduceLeDiff, reduceCtorEq, Int.reduceToNat, Int.reduceLE, Int.reduceLT, List.getElem?_map, hx, hy]; rfl) ?_)
      (refine dR_S (by simp only [List.getElem?_toArray, List.getElem?_cons_zero, List.getElem?_cons_succ]; rfl) (by rfl) (by rfl) (by simp (disch := omega) only [go_sem, wrap_i64, ↓reduceIte, Nat.reduceEqDiff, Nat.reduceAdd, Nat.reduceSub, Nat.reduceMul, Nat.reduceLeDiff, reduceCtorEq, Int.reduceToNat, Int.reduceLE, Int.reduceLT, List.getElem?_map, hx, hy]; rfl) ?_)
      (refine dR_S (by simp only [List.getElem?_toArray, List.getElem?_cons_zero, List.getElem?_cons_succ]; rfl) (by rfl) (by rfl) (by simp (disch := omega) only [go_sem, wrap_i64, ↓reduceIte, Nat.reduceEqDiff, Nat.reduceAdd, Nat.reduceSub, Nat.reduceMul, Nat.reduceLeDiff, reduceCtorEq, Int.reduceToNat, Int.reduceLE, Int.reduceLT, List.getElem?_map, hx, hy]; rfl) ?_)
      (refine dR_S (by simp only [List.getElem?_toArray, List.getElem?_cons_zero, List.getElem?_cons_succ]; rfl) (by rfl) (by rfl) (by simp (disch := omega) only [go_sem, wrap_i64, ↓reduceIte, Nat.reduceEqDiff, Nat.reduceAdd, Nat.reduceSub, Nat.reduceMul, Nat.reduceLeDiff, reduceCtorEq, Int.reduceToNat, Int.reduceLE, Int.reduceLT, List.getElem?_map, hx, hy]; rfl) ?_)
      (refine dR_S (by simp only [List.getElem?_toArray, List.getElem?_cons_zero, List.getElem?_cons_succ]; rfl) (by rfl) (by rfl) (by simp (disch := omega) only [go_sem, wrap_i64, ↓reduceIte, Nat.reduceEqDiff, Nat.reduceAdd, Nat.reduceSub, Nat.reduceMul, Nat.reduceLeDiff, reduceCtorEq, Int.reduceToNat, Int.reduceLE, Int.reduceLT, List.getElem?_map, hx, hy]; rfl) ?_)
      (refine dR_S (by simp only [List.getElem?_toArray, List.getElem?_cons_zero, List.getElem?_cons_succ]; rfl) (by rfl) (by rfl) (by simp (disch := omega) only [go_sem, wrap_i64, ↓reduceIte, Nat.reduceEqDiff, Nat.reduceAdd, Nat.reduceSub, Nat.reduceMul, Nat.reduceLeDiff, reduceCtorEq, Int.reduceToNat, Int.reduceLE, Int.reduceLT, List.getElem?_map, hx, hy]; rfl) ?_)
      refine dR_nil ?_
      refine awp_cond (by simp (disch := omega) only [go_sem, wrap_i64, ↓reduceIte, Nat.reduceEqDiff, Nat.reduceAdd, Nat.reduceSub, Nat.reduceMul, Nat.reduceLeDiff, reduceCtorEq, Int.reduceToNat, Int.reduceLE, Int.reduceLT]; rfl) (fun hc9 => ?_) (fun hc9 => ?_)
      · (try simp only [decide_eq_true_eq, decide_eq_false_iff_not, Bool.not_eq_true', Bool.not_eq_false', Bool.and_eq_true, Bool.or_eq_true, Bool.and_eq_false_iff, Bool.or_eq_false_iff, Bool.not_eq_eq_eq_not, Bool.not_true, Bool.not_false, Int.not_le, Int.not_lt, beq_iff_eq] at hc9)
        have hct : ((cnt (ow.take (i + 1)) y : Nat) : Int) = (cnt (ow.take i) y : Int) + 1 := by rw [cnt_take hx, if_pos hc9]; omega
        refine awp_region (by kernel_rfl) ?_
        iterate 3 (refine aL_S rfl rfl (by simp (disch := omega) only [go_sem, wrap_i64, ↓reduceIte, Nat.reduceEqDiff, Nat.reduceAdd, Nat.reduceSub, Nat.reduceMul, Nat.reduceLeDiff, reduceCtorEq, Int.reduceToNat, Int.reduceLE, Int.reduceLT]; rfl) ?_)
        refine aL_nil ?_
        refine awp_region (by kernel_rfl) ?_
        iterate 3 (refine aL_S rfl rfl (by simp (disch := omega) only [go_sem, wrap_i64, ↓reduceIte, Nat.reduceEqDiff, Nat.reduceAdd, Nat.reduceSub, Nat.reduceMul, Nat.reduceLeDiff, reduceCtorEq, Int.reduceToNat, Int.reduceLE, Int.reduceLT]; rfl) ?_)
        refine aL_nil ?_
        refine aNext (ι := Nat) (i := i) (i + 1) ?_ ?_ ?_ ?_
        · omega
        · omega
        · ((repeat (refine covers.eq (by first | rfl | (simp (disch := omega) only [go_sem, wrap_i64, ↓reduceIte, Nat.reduceEqDiff, Nat.reduceAdd, Nat.reduceSub, Nat.reduceMul, Nat.reduceLeDiff, reduceCtorEq, Int.reduceToNat, Int.reduceLE, Int.reduceLT, hct]; rfl) | (simp (disch := omega) only [go_sem, wrap_i64, ↓reduceIte, Nat.reduceEqDiff, Nat.reduceAdd, Nat.reduceSub, Nat.reduceMul, Nat.reduceLeDiff, reduceCtorEq, Int.reduceToNat, Int.reduceLE, Int.reduceLT, hct])) ?_)); exact covers.nil)
        · first | exact Store.Wk.refl _ | exact Store.Sub.refl _ | ((try dsimp only); (try simp (disch := assumption) only [Store.newTok_set, Store.newTok_step]); (first | refine subx_start ?_ | refine subx_startS ?_); (repeat (first | refine subx_skip (.head _) ?_ | refine subx_skip (.tail _ (.head _)) ?_ | refine subx_skip (.tail _ (.tail _ (.head _))) ?_ | refine subx_skip (.tail _ (.tail _ (.tail _ (.head _)))) ?_ | refine subx_left (by first | (simp (disch := omega) only [go_sem, ↓reduceIte, Nat.reduceEqDiff, Nat.reduceAdd, Nat.reduceSub, Nat.reduceMul, Nat.reduceLeDiff, reduceCtorEq, Int.reduceToNat, Int.reduceLE, Int.reduceLT]; rfl) | simp (disch := omega) only [go_sem, ↓reduceIte, Nat.reduceEqDiff, Nat.reduceAdd, Nat.reduceSub, Nat.reduceMul, Nat.reduceLeDiff, reduceCtorEq, Int.reduceToNat, Int.reduceLE, Int.reduceLT]) ?_)); (repeat (first | exact subx_refl | refine subx_in (.head _) ?_ | refine subx_in (.tail _ (.head _)) ?_ | refine subx_in (.tail _ (.tail _ (.head _))) ?_ | refine subx_in (.tail _ (.tail _ (.tail _ (.head _)))) ?_ | refine subx_new (by first | assumption | (simp only [Store.newTok_heap]; assumption)) ?_ | refine subx_tok ?_ | refine subx_newTok (by assumption) ?_)))
      · (try simp only [decide_eq_true_eq, decide_eq_false_iff_not, Bool.not_eq_true', Bool.not_eq_false', Bool.and_eq_true, Bool.or_eq_true, Bool.and_eq_false_iff, Bool.or_eq_false_iff, Bool.not_eq_eq_eq_not, Bool.not_true, Bool.not_false, Int.not_le, Int.not_lt, beq_iff_eq] at hc9)
        have hct : cnt (ow.take (i + 1)) y = cnt (ow.take i) y := by rw [cnt_take hx, if_neg hc9]; rfl
        refine awp_skip ?_
        refine awp_region (by kernel_rfl) ?_
        iterate 3 (refine aL_S rfl rfl (by simp (disch := omega) only [go_sem, wrap_i64, ↓reduceIte, Nat.reduceEqDiff, Nat.reduceAdd, Nat.reduceSub, Nat.reduceMul, Nat.reduceLeDiff, reduceCtorEq, Int.reduceToNat, Int.reduceLE, Int.reduceLT]; rfl) ?_)
        refine aL_nil ?_
        refine aNext (ι := Nat) (i := i) (i + 1) ?_ ?_ ?_ ?_
        · omega
        · omega
        · ((repeat (refine covers.eq (by first | rfl | (simp (disch := omega) only [go_sem, wrap_i64, ↓reduceIte, Nat.reduceEqDiff, Nat.reduceAdd, Nat.reduceSub, Nat.reduceMul, Nat.reduceLeDiff, reduceCtorEq, Int.reduceToNat, Int.reduceLE, Int.reduceLT, hct]; rfl) | (simp (disch := omega) only [go_sem, wrap_i64, ↓reduceIte, Nat.reduceEqDiff, Nat.reduceAdd, Nat.reduceSub, Nat.reduceMul, Nat.reduceLeDiff, reduceCtorEq, Int.reduceToNat, Int.reduceLE, Int.reduceLT, hct])) ?_)); exact covers.nil)
        · first | exact Store.Wk.refl _ | exact Store.Sub.refl _ | ((try dsimp only); (try simp (disch := assumption) only [Store.newTok_set, Store.newTok_step]); (first | refine subx_start ?_ | refine subx_startS ?_); (repeat (first | refine subx_skip (.head _) ?_ | refine subx_skip (.tail _ (.head _)) ?_ | refine subx_skip (.tail _ (.tail _ (.head _))) ?_ | refine subx_skip (.tail _ (.tail _ (.tail _ (.head _)))) ?_ | refine subx_left (by first | (simp (disch := omega) only [go_sem, ↓reduceIte, Nat.reduceEqDiff, Nat.reduceAdd, Nat.reduceSub, Nat.reduceMul, Nat.reduceLeDiff, reduceCtorEq, Int.reduceToNat, Int.reduceLE, Int.reduceLT]; rfl) | simp (disch := omega) only [go_sem, ↓reduceIte, Nat.reduceEqDiff, Nat.reduceAdd, Nat.reduceSub, Nat.reduceMul, Nat.reduceLeDiff, reduceCtorEq, Int.reduceToNat, Int.reduceLE, Int.reduceLT]) ?_)); (repeat (first | exact subx_refl | refine subx_in (.head _) ?_ | refine subx_in (.tail _ (.head _)) ?_ | refine subx_in (.tail _ (.tail _ (.head _))) ?_ | refine subx_in (.tail _ (.tail _ (.tail _ (.head _)))) ?_ | refine subx_new (by first | assumption | (simp only [Store.newTok_heap]; assumption)) ?_ | refine subx_tok ?_ | refine subx_newTok (by assumption) ?_)))
    · (try simp only [decide_eq_true_eq, decide_eq_false_iff_not, Bool.not_eq_true', Bool.not_eq_false', Bool.and_eq_true, Bool.or_eq_true, Bool.and_eq_false_iff, Bool.or_eq_false_iff, Bool.not_eq_eq_eq_not, Bool.not_true, Bool.not_false, Int.not_le, Int.not_lt, beq_iff_eq] at hc7)
      refine awp_exit ?_
      refine aThen_exit ?_
      refine aThen_exit ?_
      refine aBlock_hit ?_
      have hld : loadsS ow (nm.take (j + 1)) = loadsS ow (nm.take j) ++ [(cnt ow y : Int)] := by unfold loadsS; rw [List.take_succ, hy, List.map_append]; rfl
      rw [show ow.take i = ow from List.take_of_length_le (by omega)]
      refine awp_region (by kernel_rfl) ?_
      iterate 2 (refine aL_S rfl rfl (by simp (disch := omega) only [go_sem, wrap_i64, ↓reduceIte, Nat.reduceEqDiff, Nat.reduceAdd, Nat.reduceSub, Nat.reduceMul, Nat.reduceLeDiff, reduceCtorEq, Int.reduceToNat, Int.reduceLE, Int.reduceLT]; rfl) ?_)
      refine aL_buildSlice rfl rfl rfl (by simp only [go_sem]; rfl) (by simp only [go_sem]; rfl) rfl rfl (by simp (disch := omega) only [go_sem, ↓reduceIte, Nat.reduceEqDiff, Nat.reduceAdd, Nat.reduceSub, Nat.reduceMul, Nat.reduceLeDiff, reduceCtorEq, Int.reduceToNat, Int.reduceLE, Int.reduceLT]; rfl) (by simp [go_sem, AVal.one, AVal.cells, AVal.solid]) (by decide) ?_
      refine aL_append rfl rfl rfl (by simp only [go_sem]; rfl) (by simp only [go_sem]; rfl) (by simp (disch := omega) only [go_sem, wrap_i64, ↓reduceIte, Nat.reduceEqDiff, Nat.reduceAdd, Nat.reduceSub, Nat.reduceMul, Nat.reduceLeDiff, reduceCtorEq, Int.reduceToNat, Int.reduceLE, Int.reduceLT]; rfl) (by simp (disch := omega) only [go_sem, ↓reduceIte, Nat.reduceEqDiff, Nat.reduceAdd, Nat.reduceSub, Nat.reduceMul, Nat.reduceLeDiff, reduceCtorEq, Int.reduceToNat, Int.reduceLE, Int.reduceLT]) (by simp (disch := omega) only [go_sem, wrap_i64, ↓reduceIte, Nat.reduceEqDiff, Nat.reduceAdd, Nat.reduceSub, Nat.reduceMul, Nat.reduceLeDiff, reduceCtorEq, Int.reduceToNat, Int.reduceLE, Int.reduceLT]; rfl) (by simp [AVal.one, AVal.cells]) (by unfold loadsS; simp; omega) fun k35 hk35 => ?_
      (refine aL_S rfl rfl (by simp (disch := omega) only [go_sem, wrap_i64, ↓reduceIte, Nat.reduceEqDiff, Nat.reduceAdd, Nat.reduceSub, Nat.reduceMul, Nat.reduceLeDiff, reduceCtorEq, Int.reduceToNat, Int.reduceLE, Int.reduceLT]; rfl) ?_)
      refine aL_nil ?_
      refine awp_region (by kernel_rfl) ?_
      iterate 3 (refine aL_S rfl rfl (by simp (disch := omega) only [go_sem, wrap_i64, ↓reduceIte, Nat.reduceEqDiff, Nat.reduceAdd, Nat.reduceSub, Nat.reduceMul, Nat.reduceLeDiff, reduceCtorEq, Int.reduceToNat, Int.reduceLE, Int.reduceLT]; rfl) ?_)
      refine aL_nil ?_
      refine aNext (ι := Nat × Nat) (i := ⟨j, k⟩) (j + 1, k35) ?_ ?_ ?_ ?_
      · show nm.length - (j + 1) < nm.length - j; omega
      · exact ⟨hj, (newTok_none hk35).2⟩
      · ((repeat (refine covers.eq (by first | rfl | (simp (disch := omega) only [go_sem, wrap_i64, ↓reduceIte, Nat.reduceEqDiff, Nat.reduceAdd, Nat.reduceSub, Nat.reduceMul, Nat.reduceLeDiff, reduceCtorEq, Int.reduceToNat, Int.reduceLE, Int.reduceLT, hld]; rfl) | (simp (disch := omega) only [go_sem, wrap_i64, ↓reduceIte, Nat.reduceEqDiff, Nat.reduceAdd, Nat.reduceSub, Nat.reduceMul, Nat.reduceLeDiff, reduceCtorEq, Int.reduceToNat, Int.reduceLE, Int.reduceLT, hld])) ?_)); exact covers.nil)
      · first | exact Store.Wk.refl _ | exact Store.Sub.refl _ | ((try dsimp only); (try simp (disch := assumption) only [Store.newTok_set, Store.newTok_step]); (first | refine subx_start ?_ | refine subx_startS ?_); (repeat (first | refine subx_skip (.head _) ?_ | refine subx_skip (.tail _ (.head _)) ?_ | refine subx_skip (.tail _ (.tail _ (.head _))) ?_ | refine subx_skip (.tail _ (.tail _ (.tail _ (.head _)))) ?_ | refine subx_left (by first | (simp (disch := omega) only [go_sem, ↓reduceIte, Nat.reduceEqDiff, Nat.reduceAdd, Nat.reduceSub, Nat.reduceMul, Nat.reduceLeDiff, reduceCtorEq, Int.reduceToNat, Int.reduceLE, Int.reduceLT]; rfl) | simp (disch := omega) only [go_sem, ↓reduceIte, Nat.reduceEqDiff, Nat.reduceAdd, Nat.reduceSub, Nat.reduceMul, Nat.reduceLeDiff, reduceCtorEq, Int.reduceToNat, Int.reduceLE, Int.reduceLT]) ?_)); (repeat (first | exact subx_refl | refine subx_in (.head _) ?_ | refine subx_in (.tail _ (.head _)) ?_ | refine subx_in (.tail _ (.tail _ (.head _))) ?_ | refine subx_in (.tail _ (.tail _ (.tail _ (.head _)))) ?_ | refine subx_new (by first | assumption | (simp only [Store.newTok_heap]; assumption)) ?_ | refine subx_tok ?_ | refine subx_newTok (by assumption) ?_)))
  · (try simp only [decide_eq_true_eq, decide_eq_false_iff_not, Bool.not_eq_true', Bool.not_eq_false', Bool.and_eq_true, Bool.or_eq_true, Bool.and_eq_false_iff, Bool.or_eq_false_iff, Bool.not_eq_eq_eq_not, Bool.not_true, Bool.not_false, Int.not_le, Int.not_lt, beq_iff_eq] at hc3)
    refine awp_exit ?_
    refine aThen_exit ?_
    refine aThen_exit ?_
    refine aBlock_hit ?_
    refine awp_seq ?_
    refine awp_region (by kernel_rfl) ?_
    iterate 2 (refine aL_S rfl rfl (by simp (disch := omega) only [go_sem, wrap_i64, ↓reduceIte, Nat.reduceEqDiff, Nat.reduceAdd, Nat.reduceSub, Nat.reduceMul, Nat.reduceLeDiff, reduceCtorEq, Int.reduceToNat, Int.reduceLE, Int.reduceLT]; rfl) ?_)
    refine aL_nil ?_
    refine awp_ret ?_
    refine aEnd_retW (v := .sl 1 ((loadsS ow nm).map vInt) false) (σ' := σ.newTok none k (3, 1)) (by first | (simp (disch := omega) only [go_sem, wrap_i64, ↓reduceIte, Nat.reduceEqDiff, Nat.reduceAdd, Nat.reduceSub, Nat.reduceMul, Nat.reduceLeDiff, reduceCtorEq, Int.reduceToNat, Int.reduceLE, Int.reduceLT]; rfl) | (simp (disch := omega) only [go_sem, wrap_i64, ↓reduceIte, Nat.reduceEqDiff, Nat.reduceAdd, Nat.reduceSub, Nat.reduceMul, Nat.reduceLeDiff, reduceCtorEq, Int.reduceToNat, Int.reduceLE, Int.reduceLT])) (by rw [show nm.take j = nm from List.take_of_length_le (by omega)]; exact Wk.own1 ..) (Store.Wk.refl _) ⟨rfl, ?_⟩
    exact (Fr.refl σ []).newTok (fun j hj => by cases hj) h4

/-- how many stand elsewhere -/
def diffs (a b : List ByteArray) (n : Nat) : Nat := (List.range n).countP fun i => !decide (a[i]? = b[i]?)
theorem diffs_step (a b : List ByteArray) (n : Nat) : diffs a b (n + 1) = diffs a b n + if a[n]? = b[n]? then 0 else 1 := by
  unfold diffs
  rw [List.range_succ, List.countP_append]
  by_cases h : a[n]? = b[n]? <;> simp [h]
theorem diffs_le (a b : List ByteArray) (n : Nat) : diffs a b n ≤ n := by
  unfold diffs
  exact Nat.le_trans List.countP_le_length (by simp)
def movedS (a b : List ByteArray) : Nat := (max a.length b.length - min a.length b.length) + diffs a b (min a.length b.length)

theorem moved_c {a b : List ByteArray} {σ : Store} {ta tb : Bool} (ha : a.length ≤ 1000) (hb : b.length ≤ 1000) : ACalls Try.prog 48 [.sl 1 (a.map sS) ta, .sl 1 (b.map sS) tb] σ fun v σ' => v = vInt (movedS a b) ∧ σ = σ' := by
  refine ACalls_of Try.func48 rfl Try.ntmps48 (congrArg Array.toList Try.results48) (by simp only [List.length_cons, List.length_nil]; decide) ?_; simp only [envOf_cons, envOf_nil, Nat.reduceAdd]
  refine awp_seq ?_
  refine awp_region (by kernel_rfl) ?_
  (refine aL_S rfl rfl (by simp (disch := omega) only [go_sem, wrap_i64, ↓reduceIte, Nat.reduceEqDiff, Nat.reduceAdd, Nat.reduceSub, Nat.reduceMul, Nat.reduceLeDiff, reduceCtorEq, Int.reduceToNat, Int.reduceLE, Int.reduceLT]; rfl) ?_)
  refine aL_nil ?_
  refine awp_seq ?_
  refine awp_region (by kernel_rfl) ?_
  iterate 12 (refine aL_S rfl rfl (by simp (disch := omega) only [go_sem, wrap_i64, ↓reduceIte, Nat.reduceEqDiff, Nat.reduceAdd, Nat.reduceSub, Nat.reduceMul, Nat.reduceLeDiff, reduceCtorEq, Int.reduceToNat, Int.reduceLE, Int.reduceLT]; rfl) ?_)
  refine aL_nil ?_
  refine awp_seq ?_
  refine awp_seq ?_
  refine awp_region (by kernel_rfl) ?_
  iterate 6 (refine aL_S rfl rfl (by simp (disch := omega) only [go_sem, wrap_i64, ↓reduceIte, Nat.reduceEqDiff, Nat.reduceAdd, Nat.reduceSub, Nat.reduceMul, Nat.reduceLeDiff, reduceCtorEq, Int.reduceToNat, Int.reduceLE, Int.reduceLT]; rfl) ?_)
  refine aL_nil ?_
  refine awp_block ?_
  refine awp_loop_env (ι := Nat) (fun i => min a.length b.length - i) (fun i => i ≤ min a.length b.length) (fun i => [(0, .sl 1 (a.map sS) ta), (1, .sl 1 (b.map sS) tb), (5, vInt (max (a.length : Int) b.length - min (a.length : Int) b.length + diffs a b i)), (22, vInt (min (a.length : Int) b.length)), (23, vInt i)]) (fun i => σ) 0 ?_ ?_ ?_ ?_
  · exact Nat.zero_le _
  · ((repeat (refine covers.eq (by first | rfl | (simp (disch := omega) only [go_sem, wrap_i64, ↓reduceIte, Nat.reduceEqDiff, Nat.reduceAdd, Nat.reduceSub, Nat.reduceMul, Nat.reduceLeDiff, reduceCtorEq, Int.reduceToNat, Int.reduceLE, Int.reduceLT, show diffs a b 0 = 0 from rfl, Int.add_zero, Int.natCast_zero]; rfl) | (simp (disch := omega) only [go_sem, wrap_i64, ↓reduceIte, Nat.reduceEqDiff, Nat.reduceAdd, Nat.reduceSub, Nat.reduceMul, Nat.reduceLeDiff, reduceCtorEq, Int.reduceToNat, Int.reduceLE, Int.reduceLT, show diffs a b 0 = 0 from rfl, Int.add_zero, Int.natCast_zero])) ?_)); exact covers.nil)
  · first | exact Store.Wk.refl _ | exact Store.Sub.refl _ | ((try dsimp only); (try simp (disch := assumption) only [Store.newTok_set, Store.newTok_step]); (first | refine subx_start ?_ | refine subx_startS ?_); (repeat (first | refine subx_skip (.head _) ?_ | refine subx_skip (.tail _ (.head _)) ?_ | refine subx_skip (.tail _ (.tail _ (.head _))) ?_ | refine subx_skip (.tail _ (.tail _ (.tail _ (.head _)))) ?_ | refine subx_left (by first | (simp (disch := omega) only [go_sem, ↓reduceIte, Nat.reduceEqDiff, Nat.reduceAdd, Nat.reduceSub, Nat.reduceMul, Nat.reduceLeDiff, reduceCtorEq, Int.reduceToNat, Int.reduceLE, Int.reduceLT]; rfl) | simp (disch := omega) only [go_sem, ↓reduceIte, Nat.reduceEqDiff, Nat.reduceAdd, Nat.reduceSub, Nat.reduceMul, Nat.reduceLeDiff, reduceCtorEq, Int.reduceToNat, Int.reduceLE, Int.reduceLT]) ?_)); (repeat (first | exact subx_refl | refine subx_in (.head _) ?_ | refine subx_in (.tail _ (.head _)) ?_ | refine subx_in (.tail _ (.tail _ (.head _))) ?_ | refine subx_in (.tail _ (.tail _ (.tail _ (.head _)))) ?_ | refine subx_new (by first | assumption | (simp only [Store.newTok_heap]; assumption)) ?_ | refine subx_tok ?_ | refine subx_newTok (by assumption) ?_)))
  rintro i h1
  simp only [envL_cons, envL_nil]
  refine awp_seq ?_
  refine awp_region (by kernel_rfl) ?_
  (refine aL_S rfl rfl (by simp (disch := omega) only [go_sem, wrap_i64, ↓reduceIte, Nat.reduceEqDiff, Nat.reduceAdd, Nat.reduceSub, Nat.reduceMul, Nat.reduceLeDiff, reduceCtorEq, Int.reduceToNat, Int.reduceLE, Int.reduceLT]; rfl) ?_)
  refine aL_nil ?_
  refine awp_seq ?_
  refine awp_cond (by simp (disch := omega) only [go_sem, wrap_i64, ↓reduceIte, Nat.reduceEqDiff, Nat.reduceAdd, Nat.reduceSub, Nat.reduceMul, Nat.reduceLeDiff, reduceCtorEq, Int.reduceToNat, Int.reduceLE, Int.reduceLT]; rfl) (fun hc3 => ?_) (fun hc3 => ?_)
  · (try simp only [decide_eq_true_eq, decide_eq_false_iff_not, Bool.not_eq_true', Bool.not_eq_false', Bool.and_eq_true, Bool.or_eq_true, Bool.and_eq_false_iff, Bool.or_eq_false_iff, Bool.not_eq_eq_eq_not, Bool.not_true, Bool.not_false, Int.not_le, Int.not_lt, beq_iff_eq] at hc3)
    refine awp_skip ?_
    refine awp_seq ?_
    refine awp_block ?_
    refine awp_seq ?_
    refine awp_region (by kernel_rfl) ?_
    iterate 2 (refine aL_S rfl rfl (by simp (disch := omega) only [go_sem, wrap_i64, ↓reduceIte, Nat.reduceEqDiff, Nat.reduceAdd, Nat.reduceSub, Nat.reduceMul, Nat.reduceLeDiff, reduceCtorEq, Int.reduceToNat, Int.reduceLE, Int.reduceLT]; rfl) ?_)
    refine aL_nil ?_
    refine awp_seq ?_
    have hi : i < min a.length b.length := by omega
    obtain ⟨x, hx⟩ := getS (l := a) (i := i) (by omega)
    obtain ⟨y, hy⟩ := getS (l := b) (i := i) (by omega)
    have hs := diffs_step a b i
    rw [hx, hy] at hs
    have hle := diffs_le a b i
    refine awp_draw (.op 0 0 (.op 1 0 (.op 2 0 (.op 3 0 (.op 4 0 (.op 5 0 (.op 6 0 (.op 7 0 (.op 8 0 .nil))))))))) Try.mixed (by kernel_rfl) ?_
    (refine dR_S (by simp only [List.getElem?_toArray, List.getElem?_cons_zero, List.getElem?_cons_succ]; rfl) (by rfl) (by rfl) (by simp (disch := omega) only [go_sem, wrap_i64, ↓reduceIte, Nat.reduceEqDiff, Nat.reduceAdd, Nat.reduceSub, Nat.reduceMul, Nat.reduceLeDiff, reduceCtorEq, Int.reduceToNat, Int.reduceLE, Int.reduceLT, List.getElem?_map, hx, hy]; rfl) ?_)
    (refine dR_S (by simp only [List.getElem?_toArray, List.getElem?_cons_zero, List.getElem?_cons_succ]; rfl) (by rfl) (by rfl) (by simp (disch := omega) only [go_sem, wrap_i64, ↓reduceIte, Nat.reduceEqDiff, Nat.reduceAdd, Nat.reduceSub, Nat.reduceMul, Nat.reduceLeDiff, reduceCtorEq, Int.reduceToNat, Int.reduceLE, Int.reduceLT, List.getElem?_map, hx, hy]; rfl) ?_)
    (refine dR_S (by simp only [List.getElem?_toArray, List.getElem?_cons_zero, List.getElem?_cons_succ]; rfl) (by rfl) (by rfl) (by simp (disch := omega) only [go_sem, wrap_i64, ↓reduceIte, Nat.reduceEqDiff, Nat.reduceAdd, Nat.reduceSub, Nat.reduceMul, Nat.reduceLeDiff, reduceCtorEq, Int.reduceToNat, Int.reduceLE, Int.reduceLT, List.getElem?_map, hx, hy]; rfl) ?_)
    (refine dR_S (by simp only [List.getElem?_toArray, List.getElem?_cons_zero, List.getElem?_cons_succ]; rfl) (by rfl) (by rfl) (by simp (disch := omega) only [go_sem, wrap_i64, ↓reduceIte, Nat.reduceEqDiff, Nat.reduceAdd, Nat.reduceSub, Nat.reduceMul, Nat.reduceLeDiff, reduceCtorEq, Int.reduceToNat, Int.reduceLE, Int.reduceLT, List.getElem?_map, hx, hy]; rfl) ?_)
    (refine dR_S (by simp only [List.getElem?_toArray, List.getElem?_cons_zero, List.getElem?_cons_succ]; rfl) (by rfl) (by rfl) (by simp (disch := omega) only [go_sem, wrap_i64, ↓reduceIte, Nat.reduceEqDiff, Nat.reduceAdd, Nat.reduceSub, Nat.reduceMul, Nat.reduceLeDiff, reduceCtorEq, Int.reduceToNat, Int.reduceLE, Int.reduceLT, List.getElem?_map, hx, hy]; rfl) ?_)
    (refine dR_S (by simp only [List.getElem?_toArray, List.getElem?_cons_zero, List.getElem?_cons_succ]; rfl) (by rfl) (by rfl) (by simp (disch := omega) only [go_sem, wrap_i64, ↓reduceIte, Nat.reduceEqDiff, Nat.reduceAdd, Nat.reduceSub, Nat.reduceMul, Nat.reduceLeDiff, reduceCtorEq, Int.reduceToNat, Int.reduceLE, Int.reduceLT, List.getElem?_map, hx, hy]; rfl) ?_)
    (refine dR_S (by simp only [List.getElem?_toArray, List.getElem?_cons_zero, List.getElem?_cons_succ]; rfl) (by rfl) (by rfl) (by simp (disch := omega) only [go_sem, wrap_i64, ↓reduceIte, Nat.reduceEqDiff, Nat.reduceAdd, Nat.reduceSub, Nat.reduceMul, Nat.reduceLeDiff, reduceCtorEq, Int.reduceToNat, Int.reduceLE, Int.reduceLT, List.getElem?_map, hx, hy]; rfl) ?_)
    (refine dR_S (by simp only [List.getElem?_toArray, List.getElem?_cons_zero, List.getElem?_cons_succ]; rfl) (by rfl) (by rfl) (by simp (disch := omega) only [go_sem, wrap_i64, ↓reduceIte, Nat.reduceEqDiff, Nat.reduceAdd, Nat.reduceSub, Nat.reduceMul, Nat.reduceLeDiff, reduceCtorEq, Int.reduceToNat, Int.reduceLE, Int.reduceLT, List.getElem?_map, hx, hy]; rfl) ?_)
    (refine dR_S (by simp only [List.getElem?_toArray, List.getElem?_cons_zero, List.getElem?_cons_succ]; rfl) (by rfl) (by rfl) (by simp (disch := omega) only [go_sem, wrap_i64, ↓reduceIte, Nat.reduceEqDiff, Nat.reduceAdd, Nat.reduceSub, Nat.reduceMul, Nat.reduceLeDiff, reduceCtorEq, Int.reduceToNat, Int.reduceLE, Int.reduceLT, List.getElem?_map, hx, hy]; rfl) ?_)
    refine dR_nil ?_
    refine awp_cond (by simp (disch := omega) only [go_sem, wrap_i64, ↓reduceIte, Nat.reduceEqDiff, Nat.reduceAdd, Nat.reduceSub, Nat.reduceMul, Nat.reduceLeDiff, reduceCtorEq, Int.reduceToNat, Int.reduceLE, Int.reduceLT]; rfl) (fun hc5 => ?_) (fun hc5 => ?_)
    · (try simp only [decide_eq_true_eq, decide_eq_false_iff_not, Bool.not_eq_true', Bool.not_eq_false', Bool.and_eq_true, Bool.or_eq_true, Bool.and_eq_false_iff, Bool.or_eq_false_iff, Bool.not_eq_eq_eq_not, Bool.not_true, Bool.not_false, Int.not_le, Int.not_lt, beq_iff_eq] at hc5)
      have hd : max (a.length : Int) b.length - min (a.length : Int) b.length + (diffs a b (i + 1) : Int) = max (a.length : Int) b.length - min (a.length : Int) b.length + (diffs a b i : Int) + 1 := by rw [hs, if_neg (by simpa using hc5)]; omega
      refine awp_region (by kernel_rfl) ?_
      iterate 3 (refine aL_S rfl rfl (by simp (disch := omega) only [go_sem, wrap_i64, ↓reduceIte, Nat.reduceEqDiff, Nat.reduceAdd, Nat.reduceSub, Nat.reduceMul, Nat.reduceLeDiff, reduceCtorEq, Int.reduceToNat, Int.reduceLE, Int.reduceLT]; rfl) ?_)
      refine aL_nil ?_
      refine awp_region (by kernel_rfl) ?_
      iterate 2 (refine aL_S rfl rfl (by simp (disch := omega) only [go_sem, wrap_i64, ↓reduceIte, Nat.reduceEqDiff, Nat.reduceAdd, Nat.reduceSub, Nat.reduceMul, Nat.reduceLeDiff, reduceCtorEq, Int.reduceToNat, Int.reduceLE, Int.reduceLT]; rfl) ?_)
      refine aL_nil ?_
      refine aNext (ι := Nat) (i := i) (i + 1) ?_ ?_ ?_ ?_
      · omega
      · omega
      · ((repeat (refine covers.eq (by first | rfl | (simp (disch := omega) only [go_sem, wrap_i64, ↓reduceIte, Nat.reduceEqDiff, Nat.reduceAdd, Nat.reduceSub, Nat.reduceMul, Nat.reduceLeDiff, reduceCtorEq, Int.reduceToNat, Int.reduceLE, Int.reduceLT, hd]; rfl) | (simp (disch := omega) only [go_sem, wrap_i64, ↓reduceIte, Nat.reduceEqDiff, Nat.reduceAdd, Nat.reduceSub, Nat.reduceMul, Nat.reduceLeDiff, reduceCtorEq, Int.reduceToNat, Int.reduceLE, Int.reduceLT, hd])) ?_)); exact covers.nil)
      · first | exact Store.Wk.refl _ | exact Store.Sub.refl _ | ((try dsimp only); (try simp (disch := assumption) only [Store.newTok_set, Store.newTok_step]); (first | refine subx_start ?_ | refine subx_startS ?_); (repeat (first | refine subx_skip (.head _) ?_ | refine subx_skip (.tail _ (.head _)) ?_ | refine subx_skip (.tail _ (.tail _ (.head _))) ?_ | refine subx_skip (.tail _ (.tail _ (.tail _ (.head _)))) ?_ | refine subx_left (by first | (simp (disch := omega) only [go_sem, ↓reduceIte, Nat.reduceEqDiff, Nat.reduceAdd, Nat.reduceSub, Nat.reduceMul, Nat.reduceLeDiff, reduceCtorEq, Int.reduceToNat, Int.reduceLE, Int.reduceLT]; rfl) | simp (disch := omega) only [go_sem, ↓reduceIte, Nat.reduceEqDiff, Nat.reduceAdd, Nat.reduceSub, Nat.reduceMul, Nat.reduceLeDiff, reduceCtorEq, Int.reduceToNat, Int.reduceLE, Int.reduceLT]) ?_)); (repeat (first | exact subx_refl | refine subx_in (.head _) ?_ | refine subx_in (.tail _ (.head _)) ?_ | refine subx_in (.tail _ (.tail _ (.head _))) ?_ | refine subx_in (.tail _ (.tail _ (.tail _ (.head _)))) ?_ | refine subx_new (by first | assumption | (simp only [Store.newTok_heap]; assumption)) ?_ | refine subx_tok ?_ | refine subx_newTok (by assumption) ?_)))
    · (try simp only [decide_eq_true_eq, decide_eq_false_iff_not, Bool.not_eq_true', Bool.not_eq_false', Bool.and_eq_true, Bool.or_eq_true, Bool.and_eq_false_iff, Bool.or_eq_false_iff, Bool.not_eq_eq_eq_not, Bool.not_true, Bool.not_false, Int.not_le, Int.not_lt, beq_iff_eq] at hc5)
      have hd : diffs a b (i + 1) = diffs a b i := by rw [hs, if_pos (by simpa using hc5)]; rfl
      refine awp_skip ?_
      refine awp_region (by kernel_rfl) ?_
      iterate 2 (refine aL_S rfl rfl (by simp (disch := omega) only [go_sem, wrap_i64, ↓reduceIte, Nat.reduceEqDiff, Nat.reduceAdd, Nat.reduceSub, Nat.reduceMul, Nat.reduceLeDiff, reduceCtorEq, Int.reduceToNat, Int.reduceLE, Int.reduceLT]; rfl) ?_)
      refine aL_nil ?_
      refine aNext (ι := Nat) (i := i) (i + 1) ?_ ?_ ?_ ?_
      · omega
      · omega
      · ((repeat (refine covers.eq (by first | rfl | (simp (disch := omega) only [go_sem, wrap_i64, ↓reduceIte, Nat.reduceEqDiff, Nat.reduceAdd, Nat.reduceSub, Nat.reduceMul, Nat.reduceLeDiff, reduceCtorEq, Int.reduceToNat, Int.reduceLE, Int.reduceLT, hd]; rfl) | (simp (disch := omega) only [go_sem, wrap_i64, ↓reduceIte, Nat.reduceEqDiff, Nat.reduceAdd, Nat.reduceSub, Nat.reduceMul, Nat.reduceLeDiff, reduceCtorEq, Int.reduceToNat, Int.reduceLE, Int.reduceLT, hd])) ?_)); exact covers.nil)
      · first | exact Store.Wk.refl _ | exact Store.Sub.refl _ | ((try dsimp only); (try simp (disch := assumption) only [Store.newTok_set, Store.newTok_step]); (first | refine subx_start ?_ | refine subx_startS ?_); (repeat (first | refine subx_skip (.head _) ?_ | refine subx_skip (.tail _ (.head _)) ?_ | refine subx_skip (.tail _ (.tail _ (.head _))) ?_ | refine subx_skip (.tail _ (.tail _ (.tail _ (.head _)))) ?_ | refine subx_left (by first | (simp (disch := omega) only [go_sem, ↓reduceIte, Nat.reduceEqDiff, Nat.reduceAdd, Nat.reduceSub, Nat.reduceMul, Nat.reduceLeDiff, reduceCtorEq, Int.reduceToNat, Int.reduceLE, Int.reduceLT]; rfl) | simp (disch := omega) only [go_sem, ↓reduceIte, Nat.reduceEqDiff, Nat.reduceAdd, Nat.reduceSub, Nat.reduceMul, Nat.reduceLeDiff, reduceCtorEq, Int.reduceToNat, Int.reduceLE, Int.reduceLT]) ?_)); (repeat (first | exact subx_refl | refine subx_in (.head _) ?_ | refine subx_in (.tail _ (.head _)) ?_ | refine subx_in (.tail _ (.tail _ (.head _))) ?_ | refine subx_in (.tail _ (.tail _ (.tail _ (.head _)))) ?_ | refine subx_new (by first | assumption | (simp only [Store.newTok_heap]; assumption)) ?_ | refine subx_tok ?_ | refine subx_newTok (by assumption) ?_)))
  · (try simp only [decide_eq_true_eq, decide_eq_false_iff_not, Bool.not_eq_true', Bool.not_eq_false', Bool.and_eq_true, Bool.or_eq_true, Bool.and_eq_false_iff, Bool.or_eq_false_iff, Bool.not_eq_eq_eq_not, Bool.not_true, Bool.not_false, Int.not_le, Int.not_lt, beq_iff_eq] at hc3)
    refine awp_exit ?_
    refine aThen_exit ?_
    refine aThen_exit ?_
    refine aBlock_hit ?_
    refine awp_seq ?_
    refine awp_region (by kernel_rfl) ?_
    iterate 2 (refine aL_S rfl rfl (by simp (disch := omega) only [go_sem, wrap_i64, ↓reduceIte, Nat.reduceEqDiff, Nat.reduceAdd, Nat.reduceSub, Nat.reduceMul, Nat.reduceLeDiff, reduceCtorEq, Int.reduceToNat, Int.reduceLE, Int.reduceLT]; rfl) ?_)
    refine aL_nil ?_
    refine awp_ret ?_
    refine aEnd_ret (σ' := σ) (by simp (disch := omega) only [go_sem, wrap_i64, ↓reduceIte, Nat.reduceEqDiff, Nat.reduceAdd, Nat.reduceSub, Nat.reduceMul, Nat.reduceLeDiff, reduceCtorEq, Int.reduceToNat, Int.reduceLE, Int.reduceLT]; rfl) (by first | exact Store.Wk.refl _ | exact Store.Sub.refl _ | ((try dsimp only); (try simp (disch := assumption) only [Store.newTok_set, Store.newTok_step]); (first | refine subx_start ?_ | refine subx_startS ?_); (repeat (first | refine subx_skip (.head _) ?_ | refine subx_skip (.tail _ (.head _)) ?_ | refine subx_skip (.tail _ (.tail _ (.head _))) ?_ | refine subx_skip (.tail _ (.tail _ (.tail _ (.head _)))) ?_ | refine subx_left (by first | (simp (disch := omega) only [go_sem, ↓reduceIte, Nat.reduceEqDiff, Nat.reduceAdd, Nat.reduceSub, Nat.reduceMul, Nat.reduceLeDiff, reduceCtorEq, Int.reduceToNat, Int.reduceLE, Int.reduceLT]; rfl) | simp (disch := omega) only [go_sem, ↓reduceIte, Nat.reduceEqDiff, Nat.reduceAdd, Nat.reduceSub, Nat.reduceMul, Nat.reduceLeDiff, reduceCtorEq, Int.reduceToNat, Int.reduceLE, Int.reduceLT]) ?_)); (repeat (first | exact subx_refl | refine subx_in (.head _) ?_ | refine subx_in (.tail _ (.head _)) ?_ | refine subx_in (.tail _ (.tail _ (.head _))) ?_ | refine subx_in (.tail _ (.tail _ (.tail _ (.head _)))) ?_ | refine subx_new (by first | assumption | (simp only [Store.newTok_heap]; assumption)) ?_ | refine subx_tok ?_ | refine subx_newTok (by assumption) ?_)))) ?_
    refine ⟨?_, rfl⟩
    congr 2
    have : i = min a.length b.length := by omega
    unfold movedS
    rw [← this]
    omega

theorem rMoved_c {a b : List ByteArray} {σ : Store} {ta tb : Bool} (ha : a.length ≤ 1000) (hb : b.length ≤ 1000) : ACalls Try.prog 49 [.sl 1 (a.map sS) ta, .sl 1 (b.map sS) tb] σ fun v σ' => v = vInt (movedS a b) ∧ σ = σ' := by
  refine ACalls_of Try.func49 rfl Try.ntmps49 (congrArg Array.toList Try.results49) (by simp only [List.length_cons, List.length_nil]; decide) ?_; simp only [envOf_cons, envOf_nil, Nat.reduceAdd]
  refine awp_seq ?_
  refine awp_region (by kernel_rfl) ?_
  (refine aL_S rfl rfl (by simp (disch := omega) only [go_sem, wrap_i64, ↓reduceIte, Nat.reduceEqDiff, Nat.reduceAdd, Nat.reduceSub, Nat.reduceMul, Nat.reduceLeDiff, reduceCtorEq, Int.reduceToNat, Int.reduceLE, Int.reduceLT]; rfl) ?_)
  refine aL_nil ?_
  refine awp_seq ?_
  refine awp_region (by kernel_rfl) ?_
  iterate 12 (refine aL_S rfl rfl (by simp (disch := omega) only [go_sem, wrap_i64, ↓reduceIte, Nat.reduceEqDiff, Nat.reduceAdd, Nat.reduceSub, Nat.reduceMul, Nat.reduceLeDiff, reduceCtorEq, Int.reduceToNat, Int.reduceLE, Int.reduceLT]; rfl) ?_)
  refine aL_nil ?_
  refine awp_seq ?_
  refine awp_seq ?_
  refine awp_region (by kernel_rfl) ?_
  (refine aL_S rfl rfl (by simp (disch := omega) only [go_sem, wrap_i64, ↓reduceIte, Nat.reduceEqDiff, Nat.reduceAdd, Nat.reduceSub, Nat.reduceMul, Nat.reduceLeDiff, reduceCtorEq, Int.reduceToNat, Int.reduceLE, Int.reduceLT]; rfl) ?_)
  refine aL_nil ?_
  refine awp_block ?_
  refine awp_loop_env (ι := Nat) (fun i => min a.length b.length - i) (fun i => i ≤ min a.length b.length) (fun i => [(0, .sl 1 (a.map sS) ta), (1, .sl 1 (b.map sS) tb), (5, vInt (max (a.length : Int) b.length - min (a.length : Int) b.length + diffs a b i)), (6, vInt i)]) (fun i => σ) 0 ?_ ?_ ?_ ?_
  · exact Nat.zero_le _
  · ((repeat (refine covers.eq (by first | rfl | (simp (disch := omega) only [go_sem, wrap_i64, ↓reduceIte, Nat.reduceEqDiff, Nat.reduceAdd, Nat.reduceSub, Nat.reduceMul, Nat.reduceLeDiff, reduceCtorEq, Int.reduceToNat, Int.reduceLE, Int.reduceLT, show diffs a b 0 = 0 from rfl, Int.add_zero, Int.natCast_zero]; rfl) | (simp (disch := omega) only [go_sem, wrap_i64, ↓reduceIte, Nat.reduceEqDiff, Nat.reduceAdd, Nat.reduceSub, Nat.reduceMul, Nat.reduceLeDiff, reduceCtorEq, Int.reduceToNat, Int.reduceLE, Int.reduceLT, show diffs a b 0 = 0 from rfl, Int.add_zero, Int.natCast_zero])) ?_)); exact covers.nil)
  · first | exact Store.Wk.refl _ | exact Store.Sub.refl _ | ((try dsimp only); (try simp (disch := assumption) only [Store.newTok_set, Store.newTok_step]); (first | refine subx_start ?_ | refine subx_startS ?_); (repeat (first | refine subx_skip (.head _) ?_ | refine subx_skip (.tail _ (.head _)) ?_ | refine subx_skip (.tail _ (.tail _ (.head _))) ?_ | refine subx_skip (.tail _ (.tail _ (.tail _ (.head _)))) ?_ | refine subx_left (by first | (simp (disch := omega) only [go_sem, ↓reduceIte, Nat.reduceEqDiff, Nat.reduceAdd, Nat.reduceSub, Nat.reduceMul, Nat.reduceLeDiff, reduceCtorEq, Int.reduceToNat, Int.reduceLE, Int.reduceLT]; rfl) | simp (disch := omega) only [go_sem, ↓reduceIte, Nat.reduceEqDiff, Nat.reduceAdd, Nat.reduceSub, Nat.reduceMul, Nat.reduceLeDiff, reduceCtorEq, Int.reduceToNat, Int.reduceLE, Int.reduceLT]) ?_)); (repeat (first | exact subx_refl | refine subx_in (.head _) ?_ | refine subx_in (.tail _ (.head _)) ?_ | refine subx_in (.tail _ (.tail _ (.head _))) ?_ | refine subx_in (.tail _ (.tail _ (.tail _ (.head _)))) ?_ | refine subx_new (by first | assumption | (simp only [Store.newTok_heap]; assumption)) ?_ | refine subx_tok ?_ | refine subx_newTok (by assumption) ?_)))
  rintro i h1
  simp only [envL_cons, envL_nil]
  refine awp_seq ?_
  refine awp_seq ?_
  refine awp_region (by kernel_rfl) ?_
  iterate 5 (refine aL_S rfl rfl (by simp (disch := omega) only [go_sem, wrap_i64, ↓reduceIte, Nat.reduceEqDiff, Nat.reduceAdd, Nat.reduceSub, Nat.reduceMul, Nat.reduceLeDiff, reduceCtorEq, Int.reduceToNat, Int.reduceLE, Int.reduceLT]; rfl) ?_)
  refine aL_GT rfl rfl (by simp (disch := omega) only [go_sem, wrap_i64, ↓reduceIte, Nat.reduceEqDiff, Nat.reduceAdd, Nat.reduceSub, Nat.reduceMul, Nat.reduceLeDiff, reduceCtorEq, Int.reduceToNat, Int.reduceLE, Int.reduceLT]; rfl) rfl (by intro hb; have hb' := hb; (try simp only [decide_eq_true_eq, decide_eq_false_iff_not, Bool.not_eq_true', Bool.not_eq_false', Bool.and_eq_true, Bool.or_eq_true, Bool.and_eq_false_iff, Bool.or_eq_false_iff, Bool.not_eq_eq_eq_not, Bool.not_true, Bool.not_false, Int.not_le, Int.not_lt, beq_iff_eq] at hb'); (try simp only [Bool.and_eq_true] at hb); first | (simp (disch := omega) only [go_sem, wrap_i64, ↓reduceIte, Nat.reduceEqDiff, Nat.reduceAdd, Nat.reduceSub, Nat.reduceMul, Nat.reduceLeDiff, reduceCtorEq, Int.reduceToNat, Int.reduceLE, Int.reduceLT]; rfl) | (simp (disch := omega) only [go_sem, wrap_i64, ↓reduceIte, Nat.reduceEqDiff, Nat.reduceAdd, Nat.reduceSub, Nat.reduceMul, Nat.reduceLeDiff, reduceCtorEq, Int.reduceToNat, Int.reduceLE, Int.reduceLT, hb]; rfl)) ?_
  refine aL_GT rfl rfl (by simp (disch := omega) only [go_sem, wrap_i64, ↓reduceIte, Nat.reduceEqDiff, Nat.reduceAdd, Nat.reduceSub, Nat.reduceMul, Nat.reduceLeDiff, reduceCtorEq, Int.reduceToNat, Int.reduceLE, Int.reduceLT]; rfl) rfl (by intro hb; have hb' := hb; (try simp only [decide_eq_true_eq, decide_eq_false_iff_not, Bool.not_eq_true', Bool.not_eq_false', Bool.and_eq_true, Bool.or_eq_true, Bool.and_eq_false_iff, Bool.or_eq_false_iff, Bool.not_eq_eq_eq_not, Bool.not_true, Bool.not_false, Int.not_le, Int.not_lt, beq_iff_eq] at hb'); (try simp only [Bool.and_eq_true] at hb); first | (simp (disch := omega) only [go_sem, wrap_i64, ↓reduceIte, Nat.reduceEqDiff, Nat.reduceAdd, Nat.reduceSub, Nat.reduceMul, Nat.reduceLeDiff, reduceCtorEq, Int.reduceToNat, Int.reduceLE, Int.reduceLT]; rfl) | (simp (disch := omega) only [go_sem, wrap_i64, ↓reduceIte, Nat.reduceEqDiff, Nat.reduceAdd, Nat.reduceSub, Nat.reduceMul, Nat.reduceLeDiff, reduceCtorEq, Int.reduceToNat, Int.reduceLE, Int.reduceLT, hb]; rfl)) ?_
  refine aL_GT rfl rfl (by simp (disch := omega) only [go_sem, wrap_i64, ↓reduceIte, Nat.reduceEqDiff, Nat.reduceAdd, Nat.reduceSub, Nat.reduceMul, Nat.reduceLeDiff, reduceCtorEq, Int.reduceToNat, Int.reduceLE, Int.reduceLT]; rfl) rfl (by intro hb; have hb' := hb; (try simp only [decide_eq_true_eq, decide_eq_false_iff_not, Bool.not_eq_true', Bool.not_eq_false', Bool.and_eq_true, Bool.or_eq_true, Bool.and_eq_false_iff, Bool.or_eq_false_iff, Bool.not_eq_eq_eq_not, Bool.not_true, Bool.not_false, Int.not_le, Int.not_lt, beq_iff_eq] at hb'); (try simp only [Bool.and_eq_true] at hb); first | (simp (disch := omega) only [go_sem, wrap_i64, ↓reduceIte, Nat.reduceEqDiff, Nat.reduceAdd, Nat.reduceSub, Nat.reduceMul, Nat.reduceLeDiff, reduceCtorEq, Int.reduceToNat, Int.reduceLE, Int.reduceLT]; rfl) | (simp (disch := omega) only [go_sem, wrap_i64, ↓reduceIte, Nat.reduceEqDiff, Nat.reduceAdd, Nat.reduceSub, Nat.reduceMul, Nat.reduceLeDiff, reduceCtorEq, Int.reduceToNat, Int.reduceLE, Int.reduceLT, hb]; rfl)) ?_
  refine aL_GT rfl rfl (by simp (disch := omega) only [go_sem, wrap_i64, ↓reduceIte, Nat.reduceEqDiff, Nat.reduceAdd, Nat.reduceSub, Nat.reduceMul, Nat.reduceLeDiff, reduceCtorEq, Int.reduceToNat, Int.reduceLE, Int.reduceLT]; rfl) rfl (by intro hb; have hb' := hb; (try simp only [decide_eq_true_eq, decide_eq_false_iff_not, Bool.not_eq_true', Bool.not_eq_false', Bool.and_eq_true, Bool.or_eq_true, Bool.and_eq_false_iff, Bool.or_eq_false_iff, Bool.not_eq_eq_eq_not, Bool.not_true, Bool.not_false, Int.not_le, Int.not_lt, beq_iff_eq] at hb'); (try simp only [Bool.and_eq_true] at hb); first | (simp (disch := omega) only [go_sem, wrap_i64, ↓reduceIte, Nat.reduceEqDiff, Nat.reduceAdd, Nat.reduceSub, Nat.reduceMul, Nat.reduceLeDiff, reduceCtorEq, Int.reduceToNat, Int.reduceLE, Int.reduceLT]; rfl) | (simp (disch := omega) only [go_sem, wrap_i64, ↓reduceIte, Nat.reduceEqDiff, Nat.reduceAdd, Nat.reduceSub, Nat.reduceMul, Nat.reduceLeDiff, reduceCtorEq, Int.reduceToNat, Int.reduceLE, Int.reduceLT, hb]; rfl)) ?_
  (refine aL_S rfl rfl (by simp (disch := omega) only [go_sem, wrap_i64, ↓reduceIte, Nat.reduceEqDiff, Nat.reduceAdd, Nat.reduceSub, Nat.reduceMul, Nat.reduceLeDiff, reduceCtorEq, Int.reduceToNat, Int.reduceLE, Int.reduceLT]; rfl) ?_)
  refine aL_nil ?_
  refine awp_cond (by simp (disch := omega) only [go_sem, wrap_i64, ↓reduceIte, Nat.reduceEqDiff, Nat.reduceAdd, Nat.reduceSub, Nat.reduceMul, Nat.reduceLeDiff, reduceCtorEq, Int.reduceToNat, Int.reduceLE, Int.reduceLT]; rfl) (fun hc3 => ?_) (fun hc3 => ?_)
  · (try simp only [decide_eq_true_eq, decide_eq_false_iff_not, Bool.not_eq_true', Bool.not_eq_false', Bool.and_eq_true, Bool.or_eq_true, Bool.and_eq_false_iff, Bool.or_eq_false_iff, Bool.not_eq_eq_eq_not, Bool.not_true, Bool.not_false, Int.not_le, Int.not_lt, beq_iff_eq] at hc3)
    refine awp_skip ?_
    refine awp_seq ?_
    refine awp_block ?_
    refine awp_seq ?_
    have hi : i < min a.length b.length := by omega
    obtain ⟨x, hx⟩ := getS (l := a) (i := i) (by omega)
    obtain ⟨y, hy⟩ := getS (l := b) (i := i) (by omega)
    have hs := diffs_step a b i
    rw [hx, hy] at hs
    have hle := diffs_le a b i
    refine awp_draw (.op 0 0 (.op 1 0 (.op 2 0 (.op 3 0 (.op 4 0 (.op 5 0 (.op 6 0 (.op 7 0 (.op 8 0 .nil))))))))) Try.mixed (by kernel_rfl) ?_
    (refine dR_S (by simp only [List.getElem?_toArray, List.getElem?_cons_zero, List.getElem?_cons_succ]; rfl) (by rfl) (by rfl) (by simp (disch := omega) only [go_sem, wrap_i64, ↓reduceIte, Nat.reduceEqDiff, Nat.reduceAdd, Nat.reduceSub, Nat.reduceMul, Nat.reduceLeDiff, reduceCtorEq, Int.reduceToNat, Int.reduceLE, Int.reduceLT, List.getElem?_map, hx, hy]; rfl) ?_)
    (refine dR_S (by simp only [List.getElem?_toArray, List.getElem?_cons_zero, List.getElem?_cons_succ]; rfl) (by rfl) (by rfl) (by simp (disch := omega) only [go_sem, wrap_i64, ↓reduceIte, Nat.reduceEqDiff, Nat.reduceAdd, Nat.reduceSub, Nat.reduceMul, Nat.reduceLeDiff, reduceCtorEq, Int.reduceToNat, Int.reduceLE, Int.reduceLT, List.getElem?_map, hx, hy]; rfl) ?_)
    (refine dR_S (by simp only [List.getElem?_toArray, List.getElem?_cons_zero, List.getElem?_cons_succ]; rfl) (by rfl) (by rfl) (by simp (disch := omega) only [go_sem, wrap_i64, ↓reduceIte, Nat.reduceEqDiff, Nat.reduceAdd, Nat.reduceSub, Nat.reduceMul, Nat.reduceLeDiff, reduceCtorEq, Int.reduceToNat, Int.reduceLE, Int.reduceLT, List.getElem?_map, hx, hy]; rfl) ?_)
    (refine dR_S (by simp only [List.getElem?_toArray, List.getElem?_cons_zero, List.getElem?_cons_succ]; rfl) (by rfl) (by rfl) (by simp (disch := omega) only [go_sem, wrap_i64, ↓reduceIte, Nat.reduceEqDiff, Nat.reduceAdd, Nat.reduceSub, Nat.reduceMul, Nat.reduceLeDiff, reduceCtorEq, Int.reduceToNat, Int.reduceLE, Int.reduceLT, List.getElem?_map, hx, hy]; rfl) ?_)
    (refine dR_S (by simp only [List.getElem?_toArray, List.getElem?_cons_zero, List.getElem?_cons_succ]; rfl) (by rfl) (by rfl) (by simp (disch := omega) only [go_sem, wrap_i64, ↓reduceIte, Nat.reduceEqDiff, Nat.reduceAdd, Nat.reduceSub, Nat.reduceMul, Nat.reduceLeDiff, reduceCtorEq, Int.reduceToNat, Int.reduceLE, Int.reduceLT, List.getElem?_map, hx, hy]; rfl) ?_)
    (refine dR_S (by simp only [List.getElem?_toArray, List.getElem?_cons_zero, List.getElem?_cons_succ]; rfl) (by rfl) (by rfl) (by simp (disch := omega) only [go_sem, wrap_i64, ↓reduceIte, Nat.reduceEqDiff, Nat.reduceAdd, Nat.reduceSub, Nat.reduceMul, Nat.reduceLeDiff, reduceCtorEq, Int.reduceToNat, Int.reduceLE, Int.reduceLT, List.getElem?_map, hx, hy]; rfl) ?_)
    (refine dR_S (by simp only [List.getElem?_toArray, List.getElem?_cons_zero, List.getElem?_cons_succ]; rfl) (by rfl) (by rfl) (by simp (disch := omega) only [go_sem, wrap_i64, ↓reduceIte, Nat.reduceEqDiff, Nat.reduceAdd, Nat.reduceSub, Nat.reduceMul, Nat.reduceLeDiff, reduceCtorEq, Int.reduceToNat, Int.reduceLE, Int.reduceLT, List.getElem?_map, hx, hy]; rfl) ?_)
    (refine dR_S (by simp only [List.getElem?_toArray, List.getElem?_cons_zero, List.getElem?_cons_succ]; rfl) (by rfl) (by rfl) (by simp (disch := omega) only [go_sem, wrap_i64, ↓reduceIte, Nat.reduceEqDiff, Nat.reduceAdd, Nat.reduceSub, Nat.reduceMul, Nat.reduceLeDiff, reduceCtorEq, Int.reduceToNat, Int.reduceLE, Int.reduceLT, List.getElem?_map, hx, hy]; rfl) ?_)
    (refine dR_S (by simp only [List.getElem?_toArray, List.getElem?_cons_zero, List.getElem?_cons_succ]; rfl) (by rfl) (by rfl) (by simp (disch := omega) only [go_sem, wrap_i64, ↓reduceIte, Nat.reduceEqDiff, Nat.reduceAdd, Nat.reduceSub, Nat.reduceMul, Nat.reduceLeDiff, reduceCtorEq, Int.reduceToNat, Int.reduceLE, Int.reduceLT, List.getElem?_map, hx, hy]; rfl) ?_)
    refine dR_nil ?_
    refine awp_cond (by simp (disch := omega) only [go_sem, wrap_i64, ↓reduceIte, Nat.reduceEqDiff, Nat.reduceAdd, Nat.reduceSub, Nat.reduceMul, Nat.reduceLeDiff, reduceCtorEq, Int.reduceToNat, Int.reduceLE, Int.reduceLT]; rfl) (fun hc5 => ?_) (fun hc5 => ?_)
    · (try simp only [decide_eq_true_eq, decide_eq_false_iff_not, Bool.not_eq_true', Bool.not_eq_false', Bool.and_eq_true, Bool.or_eq_true, Bool.and_eq_false_iff, Bool.or_eq_false_iff, Bool.not_eq_eq_eq_not, Bool.not_true, Bool.not_false, Int.not_le, Int.not_lt, beq_iff_eq] at hc5)
      have hd : max (a.length : Int) b.length - min (a.length : Int) b.length + (diffs a b (i + 1) : Int) = max (a.length : Int) b.length - min (a.length : Int) b.length + (diffs a b i : Int) + 1 := by rw [hs, if_neg (by simpa using hc5)]; omega
      refine awp_region (by kernel_rfl) ?_
      iterate 3 (refine aL_S rfl rfl (by simp (disch := omega) only [go_sem, wrap_i64, ↓reduceIte, Nat.reduceEqDiff, Nat.reduceAdd, Nat.reduceSub, Nat.reduceMul, Nat.reduceLeDiff, reduceCtorEq, Int.reduceToNat, Int.reduceLE, Int.reduceLT]; rfl) ?_)
      refine aL_nil ?_
      refine awp_region (by kernel_rfl) ?_
      iterate 3 (refine aL_S rfl rfl (by simp (disch := omega) only [go_sem, wrap_i64, ↓reduceIte, Nat.reduceEqDiff, Nat.reduceAdd, Nat.reduceSub, Nat.reduceMul, Nat.reduceLeDiff, reduceCtorEq, Int.reduceToNat, Int.reduceLE, Int.reduceLT]; rfl) ?_)
      refine aL_nil ?_
      refine aNext (ι := Nat) (i := i) (i + 1) ?_ ?_ ?_ ?_
      · omega
      · omega
      · ((repeat (refine covers.eq (by first | rfl | (simp (disch := omega) only [go_sem, wrap_i64, ↓reduceIte, Nat.reduceEqDiff, Nat.reduceAdd, Nat.reduceSub, Nat.reduceMul, Nat.reduceLeDiff, reduceCtorEq, Int.reduceToNat, Int.reduceLE, Int.reduceLT, hd]; rfl) | (simp (disch := omega) only [go_sem, wrap_i64, ↓reduceIte, Nat.reduceEqDiff, Nat.reduceAdd, Nat.reduceSub, Nat.reduceMul, Nat.reduceLeDiff, reduceCtorEq, Int.reduceToNat, Int.reduceLE, Int.reduceLT, hd])) ?_)); exact covers.nil)
      · first | exact Store.Wk.refl _ | exact Store.Sub.refl _ | ((try dsimp only); (try simp (disch := assumption) only [Store.newTok_set, Store.newTok_step]); (first | refine subx_start ?_ | refine subx_startS ?_); (repeat (first | refine subx_skip (.head _) ?_ | refine subx_skip (.tail _ (.head _)) ?_ | refine subx_skip (.tail _ (.tail _ (.head _))) ?_ | refine subx_skip (.tail _ (.tail _ (.tail _ (.head _)))) ?_ | refine subx_left (by first | (simp (disch := omega) only [go_sem, ↓reduceIte, Nat.reduceEqDiff, Nat.reduceAdd, Nat.reduceSub, Nat.reduceMul, Nat.reduceLeDiff, reduceCtorEq, Int.reduceToNat, Int.reduceLE, Int.reduceLT]; rfl) | simp (disch := omega) only [go_sem, ↓reduceIte, Nat.reduceEqDiff, Nat.reduceAdd, Nat.reduceSub, Nat.reduceMul, Nat.reduceLeDiff, reduceCtorEq, Int.reduceToNat, Int.reduceLE, Int.reduceLT]) ?_)); (repeat (first | exact subx_refl | refine subx_in (.head _) ?_ | refine subx_in (.tail _ (.head _)) ?_ | refine subx_in (.tail _ (.tail _ (.head _))) ?_ | refine subx_in (.tail _ (.tail _ (.tail _ (.head _)))) ?_ | refine subx_new (by first | assumption | (simp only [Store.newTok_heap]; assumption)) ?_ | refine subx_tok ?_ | refine subx_newTok (by assumption) ?_)))
    · (try simp only [decide_eq_true_eq, decide_eq_false_iff_not, Bool.not_eq_true', Bool.not_eq_false', Bool.and_eq_true, Bool.or_eq_true, Bool.and_eq_false_iff, Bool.or_eq_false_iff, Bool.not_eq_eq_eq_not, Bool.not_true, Bool.not_false, Int.not_le, Int.not_lt, beq_iff_eq] at hc5)
      have hd : diffs a b (i + 1) = diffs a b i := by rw [hs, if_pos (by simpa using hc5)]; rfl
      refine awp_skip ?_
      refine awp_region (by kernel_rfl) ?_
      iterate 3 (refine aL_S rfl rfl (by simp (disch := omega) only [go_sem, wrap_i64, ↓reduceIte, Nat.reduceEqDiff, Nat.reduceAdd, Nat.reduceSub, Nat.reduceMul, Nat.reduceLeDiff, reduceCtorEq, Int.reduceToNat, Int.reduceLE, Int.reduceLT]; rfl) ?_)
      refine aL_nil ?_
      refine aNext (ι := Nat) (i := i) (i + 1) ?_ ?_ ?_ ?_
      · omega
      · omega
      · ((repeat (refine covers.eq (by first | rfl | (simp (disch := omega) only [go_sem, wrap_i64, ↓reduceIte, Nat.reduceEqDiff, Nat.reduceAdd, Nat.reduceSub, Nat.reduceMul, Nat.reduceLeDiff, reduceCtorEq, Int.reduceToNat, Int.reduceLE, Int.reduceLT, hd]; rfl) | (simp (disch := omega) only [go_sem, wrap_i64, ↓reduceIte, Nat.reduceEqDiff, Nat.reduceAdd, Nat.reduceSub, Nat.reduceMul, Nat.reduceLeDiff, reduceCtorEq, Int.reduceToNat, Int.reduceLE, Int.reduceLT, hd])) ?_)); exact covers.nil)
      · first | exact Store.Wk.refl _ | exact Store.Sub.refl _ | ((try dsimp only); (try simp (disch := assumption) only [Store.newTok_set, Store.newTok_step]); (first | refine subx_start ?_ | refine subx_startS ?_); (repeat (first | refine subx_skip (.head _) ?_ | refine subx_skip (.tail _ (.head _)) ?_ | refine subx_skip (.tail _ (.tail _ (.head _))) ?_ | refine subx_skip (.tail _ (.tail _ (.tail _ (.head _)))) ?_ | refine subx_left (by first | (simp (disch := omega) only [go_sem, ↓reduceIte, Nat.reduceEqDiff, Nat.reduceAdd, Nat.reduceSub, Nat.reduceMul, Nat.reduceLeDiff, reduceCtorEq, Int.reduceToNat, Int.reduceLE, Int.reduceLT]; rfl) | simp (disch := omega) only [go_sem, ↓reduceIte, Nat.reduceEqDiff, Nat.reduceAdd, Nat.reduceSub, Nat.reduceMul, Nat.reduceLeDiff, reduceCtorEq, Int.reduceToNat, Int.reduceLE, Int.reduceLT]) ?_)); (repeat (first | exact subx_refl | refine subx_in (.head _) ?_ | refine subx_in (.tail _ (.head _)) ?_ | refine subx_in (.tail _ (.tail _ (.head _))) ?_ | refine subx_in (.tail _ (.tail _ (.tail _ (.head _)))) ?_ | refine subx_new (by first | assumption | (simp only [Store.newTok_heap]; assumption)) ?_ | refine subx_tok ?_ | refine subx_newTok (by assumption) ?_)))
  · (try simp only [decide_eq_true_eq, decide_eq_false_iff_not, Bool.not_eq_true', Bool.not_eq_false', Bool.and_eq_true, Bool.or_eq_true, Bool.and_eq_false_iff, Bool.or_eq_false_iff, Bool.not_eq_eq_eq_not, Bool.not_true, Bool.not_false, Int.not_le, Int.not_lt, beq_iff_eq] at hc3)
    refine awp_exit ?_
    refine aThen_exit ?_
    refine aThen_exit ?_
    refine aBlock_hit ?_
    refine awp_seq ?_
    refine awp_region (by kernel_rfl) ?_
    iterate 2 (refine aL_S rfl rfl (by simp (disch := omega) only [go_sem, wrap_i64, ↓reduceIte, Nat.reduceEqDiff, Nat.reduceAdd, Nat.reduceSub, Nat.reduceMul, Nat.reduceLeDiff, reduceCtorEq, Int.reduceToNat, Int.reduceLE, Int.reduceLT]; rfl) ?_)
    refine aL_nil ?_
    refine awp_ret ?_
    refine aEnd_ret (σ' := σ) (by simp (disch := omega) only [go_sem, wrap_i64, ↓reduceIte, Nat.reduceEqDiff, Nat.reduceAdd, Nat.reduceSub, Nat.reduceMul, Nat.reduceLeDiff, reduceCtorEq, Int.reduceToNat, Int.reduceLE, Int.reduceLT]; rfl) (by first | exact Store.Wk.refl _ | exact Store.Sub.refl _ | ((try dsimp only); (try simp (disch := assumption) only [Store.newTok_set, Store.newTok_step]); (first | refine subx_start ?_ | refine subx_startS ?_); (repeat (first | refine subx_skip (.head _) ?_ | refine subx_skip (.tail _ (.head _)) ?_ | refine subx_skip (.tail _ (.tail _ (.head _))) ?_ | refine subx_skip (.tail _ (.tail _ (.tail _ (.head _)))) ?_ | refine subx_left (by first | (simp (disch := omega) only [go_sem, ↓reduceIte, Nat.reduceEqDiff, Nat.reduceAdd, Nat.reduceSub, Nat.reduceMul, Nat.reduceLeDiff, reduceCtorEq, Int.reduceToNat, Int.reduceLE, Int.reduceLT]; rfl) | simp (disch := omega) only [go_sem, ↓reduceIte, Nat.reduceEqDiff, Nat.reduceAdd, Nat.reduceSub, Nat.reduceMul, Nat.reduceLeDiff, reduceCtorEq, Int.reduceToNat, Int.reduceLE, Int.reduceLT]) ?_)); (repeat (first | exact subx_refl | refine subx_in (.head _) ?_ | refine subx_in (.tail _ (.head _)) ?_ | refine subx_in (.tail _ (.tail _ (.head _))) ?_ | refine subx_in (.tail _ (.tail _ (.tail _ (.head _)))) ?_ | refine subx_new (by first | assumption | (simp only [Store.newTok_heap]; assumption)) ?_ | refine subx_tok ?_ | refine subx_newTok (by assumption) ?_)))) ?_
    refine ⟨?_, rfl⟩
    congr 2
    have : i = min a.length b.length := by omega
    unfold movedS
    rw [← this]
    omega

theorem sameTexts_c {a b : List ByteArray} {σ : Store} {ta tb : Bool} (hl : a.length ≤ 100000) : ACalls Try.prog 44 [.sl 1 (a.map sS) ta, .sl 1 (b.map sS) tb] σ fun v σ' => v = vBool (decide (a = b)) ∧ σ = σ' := by
  refine ACalls_of Try.func44 rfl Try.ntmps44 (congrArg Array.toList Try.results44) (by simp only [List.length_cons, List.length_nil]; decide) ?_; simp only [envOf_cons, envOf_nil, Nat.reduceAdd]
  refine awp_seq ?_
  refine awp_region (by kernel_rfl) ?_
  (refine aL_S rfl rfl (by simp (disch := omega) only [go_sem, wrap_i64, ↓reduceIte, Nat.reduceEqDiff, Nat.reduceAdd, Nat.reduceSub, Nat.reduceMul, Nat.reduceLeDiff, reduceCtorEq, Int.reduceToNat, Int.reduceLE, Int.reduceLT]; rfl) ?_)
  refine aL_nil ?_
  refine awp_seq ?_
  refine awp_seq ?_
  refine awp_region (by kernel_rfl) ?_
  iterate 5 (refine aL_S rfl rfl (by simp (disch := omega) only [go_sem, wrap_i64, ↓reduceIte, Nat.reduceEqDiff, Nat.reduceAdd, Nat.reduceSub, Nat.reduceMul, Nat.reduceLeDiff, reduceCtorEq, Int.reduceToNat, Int.reduceLE, Int.reduceLT]; rfl) ?_)
  refine aL_nil ?_
  refine awp_cond (by simp (disch := omega) only [go_sem, wrap_i64, ↓reduceIte, Nat.reduceEqDiff, Nat.reduceAdd, Nat.reduceSub, Nat.reduceMul, Nat.reduceLeDiff, reduceCtorEq, Int.reduceToNat, Int.reduceLE, Int.reduceLT]; rfl) (fun hc1 => ?_) (fun hc1 => ?_)
  · (try simp only [decide_eq_true_eq, decide_eq_false_iff_not, Bool.not_eq_true', Bool.not_eq_false', Bool.and_eq_true, Bool.or_eq_true, Bool.and_eq_false_iff, Bool.or_eq_false_iff, Bool.not_eq_eq_eq_not, Bool.not_true, Bool.not_false, Int.not_le, Int.not_lt, beq_iff_eq] at hc1)
    refine awp_seq ?_
    refine awp_region (by kernel_rfl) ?_
    (refine aL_S rfl rfl (by simp (disch := omega) only [go_sem, wrap_i64, ↓reduceIte, Nat.reduceEqDiff, Nat.reduceAdd, Nat.reduceSub, Nat.reduceMul, Nat.reduceLeDiff, reduceCtorEq, Int.reduceToNat, Int.reduceLE, Int.reduceLT]; rfl) ?_)
    refine aL_nil ?_
    refine awp_ret ?_
    refine aEnd_ret (σ' := σ) (by simp (disch := omega) only [go_sem, wrap_i64, ↓reduceIte, Nat.reduceEqDiff, Nat.reduceAdd, Nat.reduceSub, Nat.reduceMul, Nat.reduceLeDiff, reduceCtorEq, Int.reduceToNat, Int.reduceLE, Int.reduceLT]; rfl) (by first | exact Store.Wk.refl _ | exact Store.Sub.refl _ | ((try dsimp only); (try simp (disch := assumption) only [Store.newTok_set, Store.newTok_step]); (first | refine subx_start ?_ | refine subx_startS ?_); (repeat (first | refine subx_skip (.head _) ?_ | refine subx_skip (.tail _ (.head _)) ?_ | refine subx_skip (.tail _ (.tail _ (.head _))) ?_ | refine subx_skip (.tail _ (.tail _ (.tail _ (.head _)))) ?_ | refine subx_left (by first | (simp (disch := omega) only [go_sem, ↓reduceIte, Nat.reduceEqDiff, Nat.reduceAdd, Nat.reduceSub, Nat.reduceMul, Nat.reduceLeDiff, reduceCtorEq, Int.reduceToNat, Int.reduceLE, Int.reduceLT]; rfl) | simp (disch := omega) only [go_sem, ↓reduceIte, Nat.reduceEqDiff, Nat.reduceAdd, Nat.reduceSub, Nat.reduceMul, Nat.reduceLeDiff, reduceCtorEq, Int.reduceToNat, Int.reduceLE, Int.reduceLT]) ?_)); (repeat (first | exact subx_refl | refine subx_in (.head _) ?_ | refine subx_in (.tail _ (.head _)) ?_ | refine subx_in (.tail _ (.tail _ (.head _))) ?_ | refine subx_in (.tail _ (.tail _ (.tail _ (.head _)))) ?_ | refine subx_new (by first | assumption | (simp only [Store.newTok_heap]; assumption)) ?_ | refine subx_tok ?_ | refine subx_newTok (by assumption) ?_)))) ?_
    exact ⟨by rw [decide_eq_false (fun hh => hc1 (by rw [hh]))], rfl⟩
  · (try simp only [decide_eq_true_eq, decide_eq_false_iff_not, Bool.not_eq_true', Bool.not_eq_false', Bool.and_eq_true, Bool.or_eq_true, Bool.and_eq_false_iff, Bool.or_eq_false_iff, Bool.not_eq_eq_eq_not, Bool.not_true, Bool.not_false, Int.not_le, Int.not_lt, beq_iff_eq] at hc1)
    refine awp_skip ?_
    refine awp_seq ?_
    refine awp_seq ?_
    refine awp_region (by kernel_rfl) ?_
    (refine aL_S rfl rfl (by simp (disch := omega) only [go_sem, wrap_i64, ↓reduceIte, Nat.reduceEqDiff, Nat.reduceAdd, Nat.reduceSub, Nat.reduceMul, Nat.reduceLeDiff, reduceCtorEq, Int.reduceToNat, Int.reduceLE, Int.reduceLT]; rfl) ?_)
    refine aL_nil ?_
    refine awp_block ?_
    refine awp_loop_env (ι := Nat) (fun i => a.length - i) (fun i => i ≤ a.length ∧ ∀ k, k < i → a[k]? = b[k]?) (fun i => [(0, .sl 1 (a.map sS) ta), (1, .sl 1 (b.map sS) tb), (5, vInt i)]) (fun i => σ) 0 ?_ ?_ ?_ ?_
    · exact ⟨Nat.zero_le _, fun k hk => absurd hk (Nat.not_lt_zero k)⟩
    · ((repeat (refine covers.eq (by first | rfl | (simp (disch := omega) only [go_sem, wrap_i64, ↓reduceIte, Nat.reduceEqDiff, Nat.reduceAdd, Nat.reduceSub, Nat.reduceMul, Nat.reduceLeDiff, reduceCtorEq, Int.reduceToNat, Int.reduceLE, Int.reduceLT]; rfl) | (simp (disch := omega) only [go_sem, wrap_i64, ↓reduceIte, Nat.reduceEqDiff, Nat.reduceAdd, Nat.reduceSub, Nat.reduceMul, Nat.reduceLeDiff, reduceCtorEq, Int.reduceToNat, Int.reduceLE, Int.reduceLT])) ?_)); exact covers.nil)
    · first | exact Store.Wk.refl _ | exact Store.Sub.refl _ | ((try dsimp only); (try simp (disch := assumption) only [Store.newTok_set, Store.newTok_step]); (first | refine subx_start ?_ | refine subx_startS ?_); (repeat (first | refine subx_skip (.head _) ?_ | refine subx_skip (.tail _ (.head _)) ?_ | refine subx_skip (.tail _ (.tail _ (.head _))) ?_ | refine subx_skip (.tail _ (.tail _ (.tail _ (.head _)))) ?_ | refine subx_left (by first | (simp (disch := omega) only [go_sem, ↓reduceIte, Nat.reduceEqDiff, Nat.reduceAdd, Nat.reduceSub, Nat.reduceMul, Nat.reduceLeDiff, reduceCtorEq, Int.reduceToNat, Int.reduceLE, Int.reduceLT]; rfl) | simp (disch := omega) only [go_sem, ↓reduceIte, Nat.reduceEqDiff, Nat.reduceAdd, Nat.reduceSub, Nat.reduceMul, Nat.reduceLeDiff, reduceCtorEq, Int.reduceToNat, Int.reduceLE, Int.reduceLT]) ?_)); (repeat (first | exact subx_refl | refine subx_in (.head _) ?_ | refine subx_in (.tail _ (.head _)) ?_ | refine subx_in (.tail _ (.tail _ (.head _))) ?_ | refine subx_in (.tail _ (.tail _ (.tail _ (.head _)))) ?_ | refine subx_new (by first | assumption | (simp only [Store.newTok_heap]; assumption)) ?_ | refine subx_tok ?_ | refine subx_newTok (by assumption) ?_)))
    rintro i ⟨h1, h2⟩
    simp only [envL_cons, envL_nil]
    refine awp_seq ?_
    refine awp_seq ?_
    refine awp_region (by kernel_rfl) ?_
    iterate 5 (refine aL_S rfl rfl (by simp (disch := omega) only [go_sem, wrap_i64, ↓reduceIte, Nat.reduceEqDiff, Nat.reduceAdd, Nat.reduceSub, Nat.reduceMul, Nat.reduceLeDiff, reduceCtorEq, Int.reduceToNat, Int.reduceLE, Int.reduceLT]; rfl) ?_)
    refine aL_GT rfl rfl (by simp (disch := omega) only [go_sem, wrap_i64, ↓reduceIte, Nat.reduceEqDiff, Nat.reduceAdd, Nat.reduceSub, Nat.reduceMul, Nat.reduceLeDiff, reduceCtorEq, Int.reduceToNat, Int.reduceLE, Int.reduceLT]; rfl) rfl (by intro hb; have hb' := hb; (try simp only [decide_eq_true_eq, decide_eq_false_iff_not, Bool.not_eq_true', Bool.not_eq_false', Bool.and_eq_true, Bool.or_eq_true, Bool.and_eq_false_iff, Bool.or_eq_false_iff, Bool.not_eq_eq_eq_not, Bool.not_true, Bool.not_false, Int.not_le, Int.not_lt, beq_iff_eq] at hb'); (try simp only [Bool.and_eq_true] at hb); first | (simp (disch := omega) only [go_sem, wrap_i64, ↓reduceIte, Nat.reduceEqDiff, Nat.reduceAdd, Nat.reduceSub, Nat.reduceMul, Nat.reduceLeDiff, reduceCtorEq, Int.reduceToNat, Int.reduceLE, Int.reduceLT]; rfl) | (simp (disch := omega) only [go_sem, wrap_i64, ↓reduceIte, Nat.reduceEqDiff, Nat.reduceAdd, Nat.reduceSub, Nat.reduceMul, Nat.reduceLeDiff, reduceCtorEq, Int.reduceToNat, Int.reduceLE, Int.reduceLT, hb]; rfl)) ?_
    refine aL_GT rfl rfl (by simp (disch := omega) only [go_sem, wrap_i64, ↓reduceIte, Nat.reduceEqDiff, Nat.reduceAdd, Nat.reduceSub, Nat.reduceMul, Nat.reduceLeDiff, reduceCtorEq, Int.reduceToNat, Int.reduceLE, Int.reduceLT]; rfl) rfl (by intro hb; have hb' := hb; (try simp only [decide_eq_true_eq, decide_eq_false_iff_not, Bool.not_eq_true', Bool.not_eq_false', Bool.and_eq_true, Bool.or_eq_true, Bool.and_eq_false_iff, Bool.or_eq_false_iff, Bool.not_eq_eq_eq_not, Bool.not_true, Bool.not_false, Int.not_le, Int.not_lt, beq_iff_eq] at hb'); (try simp only [Bool.and_eq_true] at hb); first | (simp (disch := omega) only [go_sem, wrap_i64, ↓reduceIte, Nat.reduceEqDiff, Nat.reduceAdd, Nat.reduceSub, Nat.reduceMul, Nat.reduceLeDiff, reduceCtorEq, Int.reduceToNat, Int.reduceLE, Int.reduceLT]; rfl) | (simp (disch := omega) only [go_sem, wrap_i64, ↓reduceIte, Nat.reduceEqDiff, Nat.reduceAdd, Nat.reduceSub, Nat.reduceMul, Nat.reduceLeDiff, reduceCtorEq, Int.reduceToNat, Int.reduceLE, Int.reduceLT, hb]; rfl)) ?_
    refine aL_GT rfl rfl (by simp (disch := omega) only [go_sem, wrap_i64, ↓reduceIte, Nat.reduceEqDiff, Nat.reduceAdd, Nat.reduceSub, Nat.reduceMul, Nat.reduceLeDiff, reduceCtorEq, Int.reduceToNat, Int.reduceLE, Int.reduceLT]; rfl) rfl (by intro hb; have hb' := hb; (try simp only [decide_eq_true_eq, decide_eq_false_iff_not, Bool.not_eq_true', Bool.not_eq_false', Bool.and_eq_true, Bool.or_eq_true, Bool.and_eq_false_iff, Bool.or_eq_false_iff, Bool.not_eq_eq_eq_not, Bool.not_true, Bool.not_false, Int.not_le, Int.not_lt, beq_iff_eq] at hb'); (try simp only [Bool.and_eq_true] at hb); first | (simp (disch := omega) only [go_sem, wrap_i64, ↓reduceIte, Nat.reduceEqDiff, Nat.reduceAdd, Nat.reduceSub, Nat.reduceMul, Nat.reduceLeDiff, reduceCtorEq, Int.reduceToNat, Int.reduceLE, Int.reduceLT]; rfl) | (simp (disch := omega) only [go_sem, wrap_i64, ↓reduceIte, Nat.reduceEqDiff, Nat.reduceAdd, Nat.reduceSub, Nat.reduceMul, Nat.reduceLeDiff, reduceCtorEq, Int.reduceToNat, Int.reduceLE, Int.reduceLT, hb]; rfl)) ?_
    refine aL_GT rfl rfl (by simp (disch := omega) only [go_sem, wrap_i64, ↓reduceIte, Nat.reduceEqDiff, Nat.reduceAdd, Nat.reduceSub, Nat.reduceMul, Nat.reduceLeDiff, reduceCtorEq, Int.reduceToNat, Int.reduceLE, Int.reduceLT]; rfl) rfl (by intro hb; have hb' := hb; (try simp only [decide_eq_true_eq, decide_eq_false_iff_not, Bool.not_eq_true', Bool.not_eq_false', Bool.and_eq_true, Bool.or_eq_true, Bool.and_eq_false_iff, Bool.or_eq_false_iff, Bool.not_eq_eq_eq_not, Bool.not_true, Bool.not_false, Int.not_le, Int.not_lt, beq_iff_eq] at hb'); (try simp only [Bool.and_eq_true] at hb); first | (simp (disch := omega) only [go_sem, wrap_i64, ↓reduceIte, Nat.reduceEqDiff, Nat.reduceAdd, Nat.reduceSub, Nat.reduceMul, Nat.reduceLeDiff, reduceCtorEq, Int.reduceToNat, Int.reduceLE, Int.reduceLT]; rfl) | (simp (disch := omega) only [go_sem, wrap_i64, ↓reduceIte, Nat.reduceEqDiff, Nat.reduceAdd, Nat.reduceSub, Nat.reduceMul, Nat.reduceLeDiff, reduceCtorEq, Int.reduceToNat, Int.reduceLE, Int.reduceLT, hb]; rfl)) ?_
    (refine aL_S rfl rfl (by simp (disch := omega) only [go_sem, wrap_i64, ↓reduceIte, Nat.reduceEqDiff, Nat.reduceAdd, Nat.reduceSub, Nat.reduceMul, Nat.reduceLeDiff, reduceCtorEq, Int.reduceToNat, Int.reduceLE, Int.reduceLT]; rfl) ?_)
    refine aL_nil ?_
    refine awp_cond (by simp (disch := omega) only [go_sem, wrap_i64, ↓reduceIte, Nat.reduceEqDiff, Nat.reduceAdd, Nat.reduceSub, Nat.reduceMul, Nat.reduceLeDiff, reduceCtorEq, Int.reduceToNat, Int.reduceLE, Int.reduceLT]; rfl) (fun hc4 => ?_) (fun hc4 => ?_)
    · (try simp only [decide_eq_true_eq, decide_eq_false_iff_not, Bool.not_eq_true', Bool.not_eq_false', Bool.and_eq_true, Bool.or_eq_true, Bool.and_eq_false_iff, Bool.or_eq_false_iff, Bool.not_eq_eq_eq_not, Bool.not_true, Bool.not_false, Int.not_le, Int.not_lt, beq_iff_eq] at hc4)
      refine awp_skip ?_
      refine awp_seq ?_
      refine awp_block ?_
      refine awp_seq ?_
      obtain ⟨x, hx⟩ : ∃ x, a[i]? = some x := ⟨a[i]'(by omega), by simp [show i < a.length by omega]⟩
      obtain ⟨y, hy⟩ : ∃ y, b[i]? = some y := ⟨b[i]'(by omega), by simp [show i < b.length by omega]⟩
      refine awp_draw (.op 0 0 (.op 1 0 (.op 2 0 (.op 3 0 (.op 4 0 (.op 5 0 (.op 6 0 (.op 7 0 (.op 8 0 .nil))))))))) Try.mixed (by kernel_rfl) ?_
      (refine dR_S (by simp only [List.getElem?_toArray, List.getElem?_cons_zero, List.getElem?_cons_succ]; rfl) (by rfl) (by rfl) (by simp (disch := omega) only [go_sem, wrap_i64, ↓reduceIte, Nat.reduceEqDiff, Nat.reduceAdd, Nat.reduceSub, Nat.reduceMul, Nat.reduceLeDiff, reduceCtorEq, Int.reduceToNat, Int.reduceLE, Int.reduceLT, List.getElem?_map, hx, hy]; rfl) ?_)
      (refine dR_S (by simp only [List.getElem?_toArray, List.getElem?_cons_zero, List.getElem?_cons_succ]; rfl) (by rfl) (by rfl) (by simp (disch := omega) only [go_sem, wrap_i64, ↓reduceIte, Nat.reduceEqDiff, Nat.reduceAdd, Nat.reduceSub, Nat.reduceMul, Nat.reduceLeDiff, reduceCtorEq, Int.reduceToNat, Int.reduceLE, Int.reduceLT, List.getElem?_map, hx, hy]; rfl) ?_)
      (refine dR_S (by simp only [List.getElem?_toArray, List.getElem?_cons_zero, List.getElem?_cons_succ]; rfl) (by rfl) (by rfl) (by simp (disch := omega) only [go_sem, wrap_i64, ↓reduceIte, Nat.reduceEqDiff, Nat.reduceAdd, Nat.reduceSub, Nat.reduceMul, Nat.reduceLeDiff, reduceCtorEq, Int.reduceToNat, Int.reduceLE, Int.reduceLT, List.getElem?_map, hx, hy]; rfl) ?_)
      (refine dR_S (by simp only [List.getElem?_toArray, List.getElem?_cons_zero, List.getElem?_cons_succ]; rfl) (by rfl) (by rfl) (by simp (disch := omega) only [go_sem, wrap_i64, ↓reduceIte, Nat.reduceEqDiff, Nat.reduceAdd, Nat.reduceSub, Nat.reduceMul, Nat.reduceLeDiff, reduceCtorEq, Int.reduceToNat, Int.reduceLE, Int.reduceLT, List.getElem?_map, hx, hy]; rfl) ?_)
      (refine dR_S (by simp only [List.getElem?_toArray, List.getElem?_cons_zero, List.getElem?_cons_succ]; rfl) (by rfl) (by rfl) (by simp (disch := omega) only [go_sem, wrap_i64, ↓reduceIte, Nat.reduceEqDiff, Nat.reduceAdd, Nat.reduceSub, Nat.reduceMul, Nat.reduceLeDiff, reduceCtorEq, Int.reduceToNat, Int.reduceLE, Int.reduceLT, List.getElem?_map, hx, hy]; rfl) ?_)
      (refine dR_S (by simp only [List.getElem?_toArray, List.getElem?_cons_zero, List.getElem?_cons_succ]; rfl) (by rfl) (by rfl) (by simp (disch := omega) only [go_sem, wrap_i64, ↓reduceIte, Nat.reduceEqDiff, Nat.reduceAdd, Nat.reduceSub, Nat.reduceMul, Nat.reduceLeDiff, reduceCtorEq, Int.reduceToNat, Int.reduceLE, Int.reduceLT, List.getElem?_map, hx, hy]; rfl) ?_)
      (refine dR_S (by simp only [List.getElem?_toArray, List.getElem?_cons_zero, List.getElem?_cons_succ]; rfl) (by rfl) (by rfl) (by simp (disch := omega) only [go_sem, wrap_i64, ↓reduceIte, Nat.reduceEqDiff, Nat.reduceAdd, Nat.reduceSub, Nat.reduceMul, Nat.reduceLeDiff, reduceCtorEq, Int.reduceToNat, Int.reduceLE, Int.reduceLT, List.getElem?_map, hx, hy]; rfl) ?_)
      (refine dR_S (by simp only [List.getElem?_toArray, List.getElem?_cons_zero, List.getElem?_cons_succ]; rfl) (by rfl) (by rfl) (by simp (disch := omega) only [go_sem, wrap_i64, ↓reduceIte, Nat.reduceEqDiff, Nat.reduceAdd, Nat.reduceSub, Nat.reduceMul, Nat.reduceLeDiff, reduceCtorEq, Int.reduceToNat, Int.reduceLE, Int.reduceLT, List.getElem?_map, hx, hy]; rfl) ?_)
      (refine dR_S (by simp only [List.getElem?_toArray, List.getElem?_cons_zero, List.getElem?_cons_succ]; rfl) (by rfl) (by rfl) (by simp (disch := omega) only [go_sem, wrap_i64, ↓reduceIte, Nat.reduceEqDiff, Nat.reduceAdd, Nat.reduceSub, Nat.reduceMul, Nat.reduceLeDiff, reduceCtorEq, Int.reduceToNat, Int.reduceLE, Int.reduceLT, List.getElem?_map, hx, hy]; rfl) ?_)
      refine dR_nil ?_
      refine awp_cond (by simp (disch := omega) only [go_sem, wrap_i64, ↓reduceIte, Nat.reduceEqDiff, Nat.reduceAdd, Nat.reduceSub, Nat.reduceMul, Nat.reduceLeDiff, reduceCtorEq, Int.reduceToNat, Int.reduceLE, Int.reduceLT]; rfl) (fun hc6 => ?_) (fun hc6 => ?_)
      · (try simp only [decide_eq_true_eq, decide_eq_false_iff_not, Bool.not_eq_true', Bool.not_eq_false', Bool.and_eq_true, Bool.or_eq_true, Bool.and_eq_false_iff, Bool.or_eq_false_iff, Bool.not_eq_eq_eq_not, Bool.not_true, Bool.not_false, Int.not_le, Int.not_lt, beq_iff_eq] at hc6)
        refine awp_seq ?_
        refine awp_region (by kernel_rfl) ?_
        (refine aL_S rfl rfl (by simp (disch := omega) only [go_sem, wrap_i64, ↓reduceIte, Nat.reduceEqDiff, Nat.reduceAdd, Nat.reduceSub, Nat.reduceMul, Nat.reduceLeDiff, reduceCtorEq, Int.reduceToNat, Int.reduceLE, Int.reduceLT]; rfl) ?_)
        refine aL_nil ?_
        refine awp_ret ?_
        refine aEnd_ret (σ' := σ) (by simp (disch := omega) only [go_sem, wrap_i64, ↓reduceIte, Nat.reduceEqDiff, Nat.reduceAdd, Nat.reduceSub, Nat.reduceMul, Nat.reduceLeDiff, reduceCtorEq, Int.reduceToNat, Int.reduceLE, Int.reduceLT]; rfl) (by first | exact Store.Wk.refl _ | exact Store.Sub.refl _ | ((try dsimp only); (try simp (disch := assumption) only [Store.newTok_set, Store.newTok_step]); (first | refine subx_start ?_ | refine subx_startS ?_); (repeat (first | refine subx_skip (.head _) ?_ | refine subx_skip (.tail _ (.head _)) ?_ | refine subx_skip (.tail _ (.tail _ (.head _))) ?_ | refine subx_skip (.tail _ (.tail _ (.tail _ (.head _)))) ?_ | refine subx_left (by first | (simp (disch := omega) only [go_sem, ↓reduceIte, Nat.reduceEqDiff, Nat.reduceAdd, Nat.reduceSub, Nat.reduceMul, Nat.reduceLeDiff, reduceCtorEq, Int.reduceToNat, Int.reduceLE, Int.reduceLT]; rfl) | simp (disch := omega) only [go_sem, ↓reduceIte, Nat.reduceEqDiff, Nat.reduceAdd, Nat.reduceSub, Nat.reduceMul, Nat.reduceLeDiff, reduceCtorEq, Int.reduceToNat, Int.reduceLE, Int.reduceLT]) ?_)); (repeat (first | exact subx_refl | refine subx_in (.head _) ?_ | refine subx_in (.tail _ (.head _)) ?_ | refine subx_in (.tail _ (.tail _ (.head _))) ?_ | refine subx_in (.tail _ (.tail _ (.tail _ (.head _)))) ?_ | refine subx_new (by first | assumption | (simp only [Store.newTok_heap]; assumption)) ?_ | refine subx_tok ?_ | refine subx_newTok (by assumption) ?_)))) ?_
        exact ⟨by rw [decide_eq_false (fun hh => hc6 (by rw [hh, hy] at hx; exact (Option.some.inj hx).symm))], rfl⟩
      · (try simp only [decide_eq_true_eq, decide_eq_false_iff_not, Bool.not_eq_true', Bool.not_eq_false', Bool.and_eq_true, Bool.or_eq_true, Bool.and_eq_false_iff, Bool.or_eq_false_iff, Bool.not_eq_eq_eq_not, Bool.not_true, Bool.not_false, Int.not_le, Int.not_lt, beq_iff_eq] at hc6)
        refine awp_skip ?_
        refine awp_region (by kernel_rfl) ?_
        iterate 3 (refine aL_S rfl rfl (by simp (disch := omega) only [go_sem, wrap_i64, ↓reduceIte, Nat.reduceEqDiff, Nat.reduceAdd, Nat.reduceSub, Nat.reduceMul, Nat.reduceLeDiff, reduceCtorEq, Int.reduceToNat, Int.reduceLE, Int.reduceLT]; rfl) ?_)
        refine aL_nil ?_
        refine aNext (ι := Nat) (i := i) (i + 1) ?_ ?_ ?_ ?_
        · omega
        · exact ⟨by omega, fun k hk => (Nat.lt_succ_iff_lt_or_eq.1 hk).elim (h2 k) fun hh => by rw [hh, hx, hy, hc6]⟩
        · ((repeat (refine covers.eq (by first | rfl | (simp (disch := omega) only [go_sem, wrap_i64, ↓reduceIte, Nat.reduceEqDiff, Nat.reduceAdd, Nat.reduceSub, Nat.reduceMul, Nat.reduceLeDiff, reduceCtorEq, Int.reduceToNat, Int.reduceLE, Int.reduceLT]; rfl) | (simp (disch := omega) only [go_sem, wrap_i64, ↓reduceIte, Nat.reduceEqDiff, Nat.reduceAdd, Nat.reduceSub, Nat.reduceMul, Nat.reduceLeDiff, reduceCtorEq, Int.reduceToNat, Int.reduceLE, Int.reduceLT])) ?_)); exact covers.nil)
        · first | exact Store.Wk.refl _ | exact Store.Sub.refl _ | ((try dsimp only); (try simp (disch := assumption) only [Store.newTok_set, Store.newTok_step]); (first | refine subx_start ?_ | refine subx_startS ?_); (repeat (first | refine subx_skip (.head _) ?_ | refine subx_skip (.tail _ (.head _)) ?_ | refine subx_skip (.tail _ (.tail _ (.head _))) ?_ | refine subx_skip (.tail _ (.tail _ (.tail _ (.head _)))) ?_ | refine subx_left (by first | (simp (disch := omega) only [go_sem, ↓reduceIte, Nat.reduceEqDiff, Nat.reduceAdd, Nat.reduceSub, Nat.reduceMul, Nat.reduceLeDiff, reduceCtorEq, Int.reduceToNat, Int.reduceLE, Int.reduceLT]; rfl) | simp (disch := omega) only [go_sem, ↓reduceIte, Nat.reduceEqDiff, Nat.reduceAdd, Nat.reduceSub, Nat.reduceMul, Nat.reduceLeDiff, reduceCtorEq, Int.reduceToNat, Int.reduceLE, Int.reduceLT]) ?_)); (repeat (first | exact subx_refl | refine subx_in (.head _) ?_ | refine subx_in (.tail _ (.head _)) ?_ | refine subx_in (.tail _ (.tail _ (.head _))) ?_ | refine subx_in (.tail _ (.tail _ (.tail _ (.head _)))) ?_ | refine subx_new (by first | assumption | (simp only [Store.newTok_heap]; assumption)) ?_ | refine subx_tok ?_ | refine subx_newTok (by assumption) ?_)))
    · (try simp only [decide_eq_true_eq, decide_eq_false_iff_not, Bool.not_eq_true', Bool.not_eq_false', Bool.and_eq_true, Bool.or_eq_true, Bool.and_eq_false_iff, Bool.or_eq_false_iff, Bool.not_eq_eq_eq_not, Bool.not_true, Bool.not_false, Int.not_le, Int.not_lt, beq_iff_eq] at hc4)
      refine awp_exit ?_
      refine aThen_exit ?_
      refine aThen_exit ?_
      refine aBlock_hit ?_
      refine awp_seq ?_
      refine awp_region (by kernel_rfl) ?_
      (refine aL_S rfl rfl (by simp (disch := omega) only [go_sem, wrap_i64, ↓reduceIte, Nat.reduceEqDiff, Nat.reduceAdd, Nat.reduceSub, Nat.reduceMul, Nat.reduceLeDiff, reduceCtorEq, Int.reduceToNat, Int.reduceLE, Int.reduceLT]; rfl) ?_)
      refine aL_nil ?_
      refine awp_ret ?_
      refine aEnd_ret (σ' := σ) (by simp (disch := omega) only [go_sem, wrap_i64, ↓reduceIte, Nat.reduceEqDiff, Nat.reduceAdd, Nat.reduceSub, Nat.reduceMul, Nat.reduceLeDiff, reduceCtorEq, Int.reduceToNat, Int.reduceLE, Int.reduceLT]; rfl) (by first | exact Store.Wk.refl _ | exact Store.Sub.refl _ | ((try dsimp only); (try simp (disch := assumption) only [Store.newTok_set, Store.newTok_step]); (first | refine subx_start ?_ | refine subx_startS ?_); (repeat (first | refine subx_skip (.head _) ?_ | refine subx_skip (.tail _ (.head _)) ?_ | refine subx_skip (.tail _ (.tail _ (.head _))) ?_ | refine subx_skip (.tail _ (.tail _ (.tail _ (.head _)))) ?_ | refine subx_left (by first | (simp (disch := omega) only [go_sem, ↓reduceIte, Nat.reduceEqDiff, Nat.reduceAdd, Nat.reduceSub, Nat.reduceMul, Nat.reduceLeDiff, reduceCtorEq, Int.reduceToNat, Int.reduceLE, Int.reduceLT]; rfl) | simp (disch := omega) only [go_sem, ↓reduceIte, Nat.reduceEqDiff, Nat.reduceAdd, Nat.reduceSub, Nat.reduceMul, Nat.reduceLeDiff, reduceCtorEq, Int.reduceToNat, Int.reduceLE, Int.reduceLT]) ?_)); (repeat (first | exact subx_refl | refine subx_in (.head _) ?_ | refine subx_in (.tail _ (.head _)) ?_ | refine subx_in (.tail _ (.tail _ (.head _))) ?_ | refine subx_in (.tail _ (.tail _ (.tail _ (.head _)))) ?_ | refine subx_new (by first | assumption | (simp only [Store.newTok_heap]; assumption)) ?_ | refine subx_tok ?_ | refine subx_newTok (by assumption) ?_)))) ?_
      refine ⟨by rw [decide_eq_true]; apply List.ext_getElem?; intro k; exact (Nat.lt_or_ge k i).elim (h2 k) fun hk => by rw [List.getElem?_eq_none (by omega), List.getElem?_eq_none (by omega)], rfl⟩

/-- where a name stands -/
def idxI (l : List ByteArray) (s : ByteArray) : Int := match l.findIdx? (fun x => decide (x = s)) with | some k => (k : Int) | none => -1
theorem idx_none {l : List ByteArray} {s : ByteArray} (h : ∀ (k : Nat) x, l[k]? = some x → x ≠ s) : idxI l s = -1 := by
  unfold idxI
  rw [List.findIdx?_eq_none_iff.2 fun x hx => by
    obtain ⟨k, hk, rfl⟩ := List.getElem_of_mem hx
    simpa using h k _ (List.getElem?_eq_getElem hk)]
theorem idx_some {l : List ByteArray} {s : ByteArray} {i : Nat} (hi : l[i]? = some s) (h : ∀ (k : Nat) x, k < i → l[k]? = some x → x ≠ s) : idxI l s = i := by
  unfold idxI
  obtain ⟨hlt, he⟩ := List.getElem?_eq_some_iff.1 hi
  rw [List.findIdx?_eq_some_iff_getElem.2 ⟨hlt, by simp [he], fun j hj => by simpa using h j _ hj (List.getElem?_eq_getElem (by omega))⟩]
theorem index_c {l : List ByteArray} {s : ByteArray} {σ : Store} {x : AVal} (hx : slOf x = some (1, l.map sS)) (hw : Wk x (.sl 1 (l.map sS) false)) (hl : l.length ≤ 100000) : ACalls Try.prog 67 [x, vStr s] σ fun v σ' => v = vInt (idxI l s) ∧ σ = σ' := by
  refine ACalls.wk (args' := [.sl 1 (l.map sS) false, vStr s]) ?_ rfl (fun i hi hj => by match i, hi with | 0, _ => exact hw | 1, _ => exact .refl _)
  refine ACalls_of Try.func67 rfl Try.ntmps67 (congrArg Array.toList Try.results67) (by simp only [List.length_cons, List.length_nil]; decide) ?_; simp only [envOf_cons, envOf_nil, Nat.reduceAdd]
  refine awp_seq ?_
  refine awp_region (by kernel_rfl) ?_
  (refine aL_S rfl rfl (by simp (disch := omega) only [go_sem, wrap_i64, ↓reduceIte, Nat.reduceEqDiff, Nat.reduceAdd, Nat.reduceSub, Nat.reduceMul, Nat.reduceLeDiff, reduceCtorEq, Int.reduceToNat, Int.reduceLE, Int.reduceLT]; rfl) ?_)
  refine aL_nil ?_
  refine awp_seq ?_
  refine awp_seq ?_
  refine awp_region (by kernel_rfl) ?_
  (refine aL_S rfl rfl (by simp (disch := omega) only [go_sem, wrap_i64, ↓reduceIte, Nat.reduceEqDiff, Nat.reduceAdd, Nat.reduceSub, Nat.reduceMul, Nat.reduceLeDiff, reduceCtorEq, Int.reduceToNat, Int.reduceLE, Int.reduceLT]; rfl) ?_)
  refine aL_nil ?_
  refine awp_block ?_
  refine awp_loop_env (ι := Nat) (fun i => l.length - i) (fun i => i ≤ l.length ∧ ∀ k x, k < i → l[k]? = some x → x ≠ s) (fun i => [(0, .sl 1 (l.map sS) false), (1, vStr s), (5, vInt i)]) (fun i => σ) 0 ?_ ?_ ?_ ?_
  · exact ⟨Nat.zero_le _, fun k x hk => absurd hk (Nat.not_lt_zero k)⟩
  · ((repeat (refine covers.eq (by first | rfl | (simp (disch := omega) only [go_sem, wrap_i64, ↓reduceIte, Nat.reduceEqDiff, Nat.reduceAdd, Nat.reduceSub, Nat.reduceMul, Nat.reduceLeDiff, reduceCtorEq, Int.reduceToNat, Int.reduceLE, Int.reduceLT]; rfl) | (simp (disch := omega) only [go_sem, wrap_i64, ↓reduceIte, Nat.reduceEqDiff, Nat.reduceAdd, Nat.reduceSub, Nat.reduceMul, Nat.reduceLeDiff, reduceCtorEq, Int.reduceToNat, Int.reduceLE, Int.reduceLT])) ?_)); exact covers.nil)
  · first | exact Store.Wk.refl _ | exact Store.Sub.refl _ | ((try dsimp only); (try simp (disch := assumption) only [Store.newTok_set, Store.newTok_step]); (first | refine subx_start ?_ | refine subx_startS ?_); (repeat (first | refine subx_skip (.head _) ?_ | refine subx_skip (.tail _ (.head _)) ?_ | refine subx_skip (.tail _ (.tail _ (.head _))) ?_ | refine subx_skip (.tail _ (.tail _ (.tail _ (.head _)))) ?_ | refine subx_left (by first | (simp (disch := omega) only [go_sem, ↓reduceIte, Nat.reduceEqDiff, Nat.reduceAdd, Nat.reduceSub, Nat.reduceMul, Nat.reduceLeDiff, reduceCtorEq, Int.reduceToNat, Int.reduceLE, Int.reduceLT]; rfl) | simp (disch := omega) only [go_sem, ↓reduceIte, Nat.reduceEqDiff, Nat.reduceAdd, Nat.reduceSub, Nat.reduceMul, Nat.reduceLeDiff, reduceCtorEq, Int.reduceToNat, Int.reduceLE, Int.reduceLT]) ?_)); (repeat (first | exact subx_refl | refine subx_in (.head _) ?_ | refine subx_in (.tail _ (.head _)) ?_ | refine subx_in (.tail _ (.tail _ (.head _))) ?_ | refine subx_in (.tail _ (.tail _ (.tail _ (.head _)))) ?_ | refine subx_new (by first | assumption | (simp only [Store.newTok_heap]; assumption)) ?_ | refine subx_tok ?_ | refine subx_newTok (by assumption) ?_)))
  rintro i ⟨h1, h2⟩
  simp only [envL_cons, envL_nil]
  refine awp_seq ?_
  refine awp_seq ?_
  refine awp_region (by kernel_rfl) ?_
  iterate 4 (refine aL_S rfl rfl (by simp (disch := omega) only [go_sem, wrap_i64, ↓reduceIte, Nat.reduceEqDiff, Nat.reduceAdd, Nat.reduceSub, Nat.reduceMul, Nat.reduceLeDiff, reduceCtorEq, Int.reduceToNat, Int.reduceLE, Int.reduceLT]; rfl) ?_)
  refine aL_nil ?_
  refine awp_cond (by simp (disch := omega) only [go_sem, wrap_i64, ↓reduceIte, Nat.reduceEqDiff, Nat.reduceAdd, Nat.reduceSub, Nat.reduceMul, Nat.reduceLeDiff, reduceCtorEq, Int.reduceToNat, Int.reduceLE, Int.reduceLT]; rfl) (fun hc2 => ?_) (fun hc2 => ?_)
  · (try simp only [decide_eq_true_eq, decide_eq_false_iff_not, Bool.not_eq_true', Bool.not_eq_false', Bool.and_eq_true, Bool.or_eq_true, Bool.and_eq_false_iff, Bool.or_eq_false_iff, Bool.not_eq_eq_eq_not, Bool.not_true, Bool.not_false, Int.not_le, Int.not_lt, beq_iff_eq] at hc2)
    refine awp_skip ?_
    refine awp_seq ?_
    refine awp_block ?_
    refine awp_seq ?_
    have hi : i < l.length := by omega
    obtain ⟨z, hz⟩ := getS hi
    refine awp_region (by kernel_rfl) ?_
    (refine aL_S rfl rfl (by simp (disch := omega) only [go_sem, wrap_i64, ↓reduceIte, Nat.reduceEqDiff, Nat.reduceAdd, Nat.reduceSub, Nat.reduceMul, Nat.reduceLeDiff, reduceCtorEq, Int.reduceToNat, Int.reduceLE, Int.reduceLT, List.getElem?_map, hz]; rfl) ?_)
    (refine aL_S rfl rfl (by simp (disch := omega) only [go_sem, wrap_i64, ↓reduceIte, Nat.reduceEqDiff, Nat.reduceAdd, Nat.reduceSub, Nat.reduceMul, Nat.reduceLeDiff, reduceCtorEq, Int.reduceToNat, Int.reduceLE, Int.reduceLT, List.getElem?_map, hz]; rfl) ?_)
    (refine aL_S rfl rfl (by simp (disch := omega) only [go_sem, wrap_i64, ↓reduceIte, Nat.reduceEqDiff, Nat.reduceAdd, Nat.reduceSub, Nat.reduceMul, Nat.reduceLeDiff, reduceCtorEq, Int.reduceToNat, Int.reduceLE, Int.reduceLT, List.getElem?_map, hz]; rfl) ?_)
    (refine aL_S rfl rfl (by simp (disch := omega) only [go_sem, wrap_i64, ↓reduceIte, Nat.reduceEqDiff, Nat.reduceAdd, Nat.reduceSub, Nat.reduceMul, Nat.reduceLeDiff, reduceCtorEq, Int.reduceToNat, Int.reduceLE, Int.reduceLT, List.getElem?_map, hz]; rfl) ?_)
    (refine aL_S rfl rfl (by simp (disch := omega) only [go_sem, wrap_i64, ↓reduceIte, Nat.reduceEqDiff, Nat.reduceAdd, Nat.reduceSub, Nat.reduceMul, Nat.reduceLeDiff, reduceCtorEq, Int.reduceToNat, Int.reduceLE, Int.reduceLT, List.getElem?_map, hz]; rfl) ?_)
    (refine aL_S rfl rfl (by simp (disch := omega) only [go_sem, wrap_i64, ↓reduceIte, Nat.reduceEqDiff, Nat.reduceAdd, Nat.reduceSub, Nat.reduceMul, Nat.reduceLeDiff, reduceCtorEq, Int.reduceToNat, Int.reduceLE, Int.reduceLT, List.getElem?_map, hz]; rfl) ?_)
    refine aL_nil ?_
    refine awp_cond (by simp (disch := omega) only [go_sem, wrap_i64, ↓reduceIte, Nat.reduceEqDiff, Nat.reduceAdd, Nat.reduceSub, Nat.reduceMul, Nat.reduceLeDiff, reduceCtorEq, Int.reduceToNat, Int.reduceLE, Int.reduceLT]; rfl) (fun hc4 => ?_) (fun hc4 => ?_)
    · (try simp only [decide_eq_true_eq, decide_eq_false_iff_not, Bool.not_eq_true', Bool.not_eq_false', Bool.and_eq_true, Bool.or_eq_true, Bool.and_eq_false_iff, Bool.or_eq_false_iff, Bool.not_eq_eq_eq_not, Bool.not_true, Bool.not_false, Int.not_le, Int.not_lt, beq_iff_eq] at hc4)
      refine awp_seq ?_
      refine awp_region (by kernel_rfl) ?_
      iterate 2 (refine aL_S rfl rfl (by simp (disch := omega) only [go_sem, wrap_i64, ↓reduceIte, Nat.reduceEqDiff, Nat.reduceAdd, Nat.reduceSub, Nat.reduceMul, Nat.reduceLeDiff, reduceCtorEq, Int.reduceToNat, Int.reduceLE, Int.reduceLT]; rfl) ?_)
      refine aL_nil ?_
      refine awp_ret ?_
      refine aEnd_ret (σ' := σ) (by simp (disch := omega) only [go_sem, wrap_i64, ↓reduceIte, Nat.reduceEqDiff, Nat.reduceAdd, Nat.reduceSub, Nat.reduceMul, Nat.reduceLeDiff, reduceCtorEq, Int.reduceToNat, Int.reduceLE, Int.reduceLT]; rfl) (by first | exact Store.Wk.refl _ | exact Store.Sub.refl _ | ((try dsimp only); (try simp (disch := assumption) only [Store.newTok_set, Store.newTok_step]); (first | refine subx_start ?_ | refine subx_startS ?_); (repeat (first | refine subx_skip (.head _) ?_ | refine subx_skip (.tail _ (.head _)) ?_ | refine subx_skip (.tail _ (.tail _ (.head _))) ?_ | refine subx_skip (.tail _ (.tail _ (.tail _ (.head _)))) ?_ | refine subx_left (by first | (simp (disch := omega) only [go_sem, ↓reduceIte, Nat.reduceEqDiff, Nat.reduceAdd, Nat.reduceSub, Nat.reduceMul, Nat.reduceLeDiff, reduceCtorEq, Int.reduceToNat, Int.reduceLE, Int.reduceLT]; rfl) | simp (disch := omega) only [go_sem, ↓reduceIte, Nat.reduceEqDiff, Nat.reduceAdd, Nat.reduceSub, Nat.reduceMul, Nat.reduceLeDiff, reduceCtorEq, Int.reduceToNat, Int.reduceLE, Int.reduceLT]) ?_)); (repeat (first | exact subx_refl | refine subx_in (.head _) ?_ | refine subx_in (.tail _ (.head _)) ?_ | refine subx_in (.tail _ (.tail _ (.head _))) ?_ | refine subx_in (.tail _ (.tail _ (.tail _ (.head _)))) ?_ | refine subx_new (by first | assumption | (simp only [Store.newTok_heap]; assumption)) ?_ | refine subx_tok ?_ | refine subx_newTok (by assumption) ?_)))) ?_
      exact ⟨by rw [idx_some (by rw [hz, hc4]) h2], rfl⟩
    · (try simp only [decide_eq_true_eq, decide_eq_false_iff_not, Bool.not_eq_true', Bool.not_eq_false', Bool.and_eq_true, Bool.or_eq_true, Bool.and_eq_false_iff, Bool.or_eq_false_iff, Bool.not_eq_eq_eq_not, Bool.not_true, Bool.not_false, Int.not_le, Int.not_lt, beq_iff_eq] at hc4)
      refine awp_skip ?_
      refine awp_region (by kernel_rfl) ?_
      iterate 3 (refine aL_S rfl rfl (by simp (disch := omega) only [go_sem, wrap_i64, ↓reduceIte, Nat.reduceEqDiff, Nat.reduceAdd, Nat.reduceSub, Nat.reduceMul, Nat.reduceLeDiff, reduceCtorEq, Int.reduceToNat, Int.reduceLE, Int.reduceLT]; rfl) ?_)
      refine aL_nil ?_
      refine aNext (ι := Nat) (i := i) (i + 1) ?_ ?_ ?_ ?_
      · omega
      · exact ⟨by omega, fun k y hk hy => (Nat.lt_succ_iff_lt_or_eq.1 hk).elim (fun h => h2 k y h hy) fun hh => by rw [hh, hz] at hy; rw [← Option.some.inj hy]; exact hc4⟩
      · ((repeat (refine covers.eq (by first | rfl | (simp (disch := omega) only [go_sem, wrap_i64, ↓reduceIte, Nat.reduceEqDiff, Nat.reduceAdd, Nat.reduceSub, Nat.reduceMul, Nat.reduceLeDiff, reduceCtorEq, Int.reduceToNat, Int.reduceLE, Int.reduceLT]; rfl) | (simp (disch := omega) only [go_sem, wrap_i64, ↓reduceIte, Nat.reduceEqDiff, Nat.reduceAdd, Nat.reduceSub, Nat.reduceMul, Nat.reduceLeDiff, reduceCtorEq, Int.reduceToNat, Int.reduceLE, Int.reduceLT])) ?_)); exact covers.nil)
      · first | exact Store.Wk.refl _ | exact Store.Sub.refl _ | ((try dsimp only); (try simp (disch := assumption) only [Store.newTok_set, Store.newTok_step]); (first | refine subx_start ?_ | refine subx_startS ?_); (repeat (first | refine subx_skip (.head _) ?_ | refine subx_skip (.tail _ (.head _)) ?_ | refine subx_skip (.tail _ (.tail _ (.head _))) ?_ | refine subx_skip (.tail _ (.tail _ (.tail _ (.head _)))) ?_ | refine subx_left (by first | (simp (disch := omega) only [go_sem, ↓reduceIte, Nat.reduceEqDiff, Nat.reduceAdd, Nat.reduceSub, Nat.reduceMul, Nat.reduceLeDiff, reduceCtorEq, Int.reduceToNat, Int.reduceLE, Int.reduceLT]; rfl) | simp (disch := omega) only [go_sem, ↓reduceIte, Nat.reduceEqDiff, Nat.reduceAdd, Nat.reduceSub, Nat.reduceMul, Nat.reduceLeDiff, reduceCtorEq, Int.reduceToNat, Int.reduceLE, Int.reduceLT]) ?_)); (repeat (first | exact subx_refl | refine subx_in (.head _) ?_ | refine subx_in (.tail _ (.head _)) ?_ | refine subx_in (.tail _ (.tail _ (.head _))) ?_ | refine subx_in (.tail _ (.tail _ (.tail _ (.head _)))) ?_ | refine subx_new (by first | assumption | (simp only [Store.newTok_heap]; assumption)) ?_ | refine subx_tok ?_ | refine subx_newTok (by assumption) ?_)))
  · (try simp only [decide_eq_true_eq, decide_eq_false_iff_not, Bool.not_eq_true', Bool.not_eq_false', Bool.and_eq_true, Bool.or_eq_true, Bool.and_eq_false_iff, Bool.or_eq_false_iff, Bool.not_eq_eq_eq_not, Bool.not_true, Bool.not_false, Int.not_le, Int.not_lt, beq_iff_eq] at hc2)
    refine awp_exit ?_
    refine aThen_exit ?_
    refine aThen_exit ?_
    refine aBlock_hit ?_
    refine awp_seq ?_
    refine awp_region (by kernel_rfl) ?_
    (refine aL_S rfl rfl (by simp (disch := omega) only [go_sem, wrap_i64, ↓reduceIte, Nat.reduceEqDiff, Nat.reduceAdd, Nat.reduceSub, Nat.reduceMul, Nat.reduceLeDiff, reduceCtorEq, Int.reduceToNat, Int.reduceLE, Int.reduceLT]; rfl) ?_)
    refine aL_nil ?_
    refine awp_ret ?_
    refine aEnd_ret (σ' := σ) (by simp (disch := omega) only [go_sem, wrap_i64, ↓reduceIte, Nat.reduceEqDiff, Nat.reduceAdd, Nat.reduceSub, Nat.reduceMul, Nat.reduceLeDiff, reduceCtorEq, Int.reduceToNat, Int.reduceLE, Int.reduceLT]; rfl) (by first | exact Store.Wk.refl _ | exact Store.Sub.refl _ | ((try dsimp only); (try simp (disch := assumption) only [Store.newTok_set, Store.newTok_step]); (first | refine subx_start ?_ | refine subx_startS ?_); (repeat (first | refine subx_skip (.head _) ?_ | refine subx_skip (.tail _ (.head _)) ?_ | refine subx_skip (.tail _ (.tail _ (.head _))) ?_ | refine subx_skip (.tail _ (.tail _ (.tail _ (.head _)))) ?_ | refine subx_left (by first | (simp (disch := omega) only [go_sem, ↓reduceIte, Nat.reduceEqDiff, Nat.reduceAdd, Nat.reduceSub, Nat.reduceMul, Nat.reduceLeDiff, reduceCtorEq, Int.reduceToNat, Int.reduceLE, Int.reduceLT]; rfl) | simp (disch := omega) only [go_sem, ↓reduceIte, Nat.reduceEqDiff, Nat.reduceAdd, Nat.reduceSub, Nat.reduceMul, Nat.reduceLeDiff, reduceCtorEq, Int.reduceToNat, Int.reduceLE, Int.reduceLT]) ?_)); (repeat (first | exact subx_refl | refine subx_in (.head _) ?_ | refine subx_in (.tail _ (.head _)) ?_ | refine subx_in (.tail _ (.tail _ (.head _))) ?_ | refine subx_in (.tail _ (.tail _ (.tail _ (.head _)))) ?_ | refine subx_new (by first | assumption | (simp only [Store.newTok_heap]; assumption)) ?_ | refine subx_tok ?_ | refine subx_newTok (by assumption) ?_)))) ?_
    exact ⟨by rw [idx_none fun k x hx => h2 k x (by have := (List.getElem?_eq_some_iff.1 hx).1; omega) hx], rfl⟩

/-- names, each once -/
def stepO (out : List ByteArray) (s : ByteArray) : List ByteArray := if idxI out s < 0 then out ++ [s] else out
def onceS (l : List ByteArray) : List ByteArray := l.foldl stepO []
theorem once_take {l : List ByteArray} {i : Nat} {x : ByteArray} (hx : l[i]? = some x) : onceS (l.take (i + 1)) = stepO (onceS (l.take i)) x := by
  unfold onceS
  rw [List.take_succ, hx, List.foldl_append]
  rfl
theorem foldO_le : ∀ (l out : List ByteArray), (l.foldl stepO out).length ≤ out.length + l.length
  | [], out => Nat.le_refl _
  | x :: l, out => by
    rw [List.foldl_cons]
    refine Nat.le_trans (foldO_le l _) ?_
    unfold stepO
    split <;> simp <;> omega
theorem once_le (l : List ByteArray) : (onceS l).length ≤ l.length := by
  have := foldO_le l []
  unfold onceS
  simpa using this

theorem once_c {l : List ByteArray} {σ : Store} {tl : Bool} (hl : l.length ≤ 1000) : ACalls Try.prog 50 [.sl 1 (l.map sS) tl] σ fun v σ' => v = .sl 1 ((onceS l).map sS) false ∧ Fr σ [] σ' [] := by
  refine ACalls_of Try.func50 rfl Try.ntmps50 (congrArg Array.toList Try.results50) (by simp only [List.length_cons, List.length_nil]; decide) ?_; simp only [envOf_cons, envOf_nil, Nat.reduceAdd]
  refine awp_seq ?_
  refine awp_region (by kernel_rfl) ?_
  (refine aL_S rfl rfl (by simp (disch := omega) only [go_sem, wrap_i64, ↓reduceIte, Nat.reduceEqDiff, Nat.reduceAdd, Nat.reduceSub, Nat.reduceMul, Nat.reduceLeDiff, reduceCtorEq, Int.reduceToNat, Int.reduceLE, Int.reduceLT]; rfl) ?_)
  refine aL_nil ?_
  refine awp_seq ?_
  refine awp_region (by kernel_rfl) ?_
  refine aL_nilOwn 9 1 rfl rfl rfl (by rfl) fun k3 hk3 => ?_
  refine aL_nil ?_
  refine awp_seq ?_
  refine awp_seq ?_
  refine awp_region (by kernel_rfl) ?_
  (refine aL_S rfl rfl (by simp (disch := omega) only [go_sem, wrap_i64, ↓reduceIte, Nat.reduceEqDiff, Nat.reduceAdd, Nat.reduceSub, Nat.reduceMul, Nat.reduceLeDiff, reduceCtorEq, Int.reduceToNat, Int.reduceLE, Int.reduceLT]; rfl) ?_)
  refine aL_nil ?_
  refine awp_block ?_
  refine awp_loop_env (ι := Nat × Nat) (fun ⟨i, k⟩ => l.length - i) (fun ⟨i, k⟩ => i ≤ l.length ∧ σ.tok k = none) (fun ⟨i, k⟩ => [(0, .sl 1 (l.map sS) tl), (3, .own k 1 ((onceS (l.take i)).map sS)), (4, vInt i)]) (fun ⟨i, k⟩ => σ.newTok none k (9, 1)) (0, k3) ?_ ?_ ?_ ?_
  · exact ⟨Nat.zero_le _, hk3⟩
  · ((repeat (refine covers.eq (by first | rfl | (simp (disch := omega) only [go_sem, wrap_i64, ↓reduceIte, Nat.reduceEqDiff, Nat.reduceAdd, Nat.reduceSub, Nat.reduceMul, Nat.reduceLeDiff, reduceCtorEq, Int.reduceToNat, Int.reduceLE, Int.reduceLT]; rfl) | (simp (disch := omega) only [go_sem, wrap_i64, ↓reduceIte, Nat.reduceEqDiff, Nat.reduceAdd, Nat.reduceSub, Nat.reduceMul, Nat.reduceLeDiff, reduceCtorEq, Int.reduceToNat, Int.reduceLE, Int.reduceLT])) ?_)); exact covers.nil)
  · first | exact Store.Wk.refl _ | exact Store.Sub.refl _ | ((try dsimp only); (try simp (disch := assumption) only [Store.newTok_set, Store.newTok_step]); (first | refine subx_start ?_ | refine subx_startS ?_); (repeat (first | refine subx_skip (.head _) ?_ | refine subx_skip (.tail _ (.head _)) ?_ | refine subx_skip (.tail _ (.tail _ (.head _))) ?_ | refine subx_skip (.tail _ (.tail _ (.tail _ (.head _)))) ?_ | refine subx_left (by first | (simp (disch := omega) only [go_sem, ↓reduceIte, Nat.reduceEqDiff, Nat.reduceAdd, Nat.reduceSub, Nat.reduceMul, Nat.reduceLeDiff, reduceCtorEq, Int.reduceToNat, Int.reduceLE, Int.reduceLT]; rfl) | simp (disch := omega) only [go_sem, ↓reduceIte, Nat.reduceEqDiff, Nat.reduceAdd, Nat.reduceSub, Nat.reduceMul, Nat.reduceLeDiff, reduceCtorEq, Int.reduceToNat, Int.reduceLE, Int.reduceLT]) ?_)); (repeat (first | exact subx_refl | refine subx_in (.head _) ?_ | refine subx_in (.tail _ (.head _)) ?_ | refine subx_in (.tail _ (.tail _ (.head _))) ?_ | refine subx_in (.tail _ (.tail _ (.tail _ (.head _)))) ?_ | refine subx_new (by first | assumption | (simp only [Store.newTok_heap]; assumption)) ?_ | refine subx_tok ?_ | refine subx_newTok (by assumption) ?_)))
  rintro ⟨i, k⟩ ⟨h1, h2⟩
  simp only [envL_cons, envL_nil]
  refine awp_seq ?_
  refine awp_seq ?_
  refine awp_region (by kernel_rfl) ?_
  iterate 4 (refine aL_S rfl rfl (by simp (disch := omega) only [go_sem, wrap_i64, ↓reduceIte, Nat.reduceEqDiff, Nat.reduceAdd, Nat.reduceSub, Nat.reduceMul, Nat.reduceLeDiff, reduceCtorEq, Int.reduceToNat, Int.reduceLE, Int.reduceLT]; rfl) ?_)
  refine aL_nil ?_
  refine awp_cond (by simp (disch := omega) only [go_sem, wrap_i64, ↓reduceIte, Nat.reduceEqDiff, Nat.reduceAdd, Nat.reduceSub, Nat.reduceMul, Nat.reduceLeDiff, reduceCtorEq, Int.reduceToNat, Int.reduceLE, Int.reduceLT]; rfl) (fun hc3 => ?_) (fun hc3 => ?_)
  · (try simp only [decide_eq_true_eq, decide_eq_false_iff_not, Bool.not_eq_true', Bool.not_eq_false', Bool.and_eq_true, Bool.or_eq_true, Bool.and_eq_false_iff, Bool.or_eq_false_iff, Bool.not_eq_eq_eq_not, Bool.not_true, Bool.not_false, Int.not_le, Int.not_lt, beq_iff_eq] at hc3)
    refine awp_skip ?_
    refine awp_seq ?_
    refine awp_block ?_
    refine awp_seq ?_
    have hi : i < l.length := by omega
    obtain ⟨x, hx⟩ := getS hi
    have htk := once_take hx
    have hol : (onceS (l.take i)).length ≤ 1000 := Nat.le_trans (once_le _) (by simp; omega)
    refine awp_region (by kernel_rfl) ?_
    (refine aL_S rfl rfl (by simp (disch := omega) only [go_sem, wrap_i64, ↓reduceIte, Nat.reduceEqDiff, Nat.reduceAdd, Nat.reduceSub, Nat.reduceMul, Nat.reduceLeDiff, reduceCtorEq, Int.reduceToNat, Int.reduceLE, Int.reduceLT, List.getElem?_map, hx]; rfl) ?_)
    (refine aL_S rfl rfl (by simp (disch := omega) only [go_sem, wrap_i64, ↓reduceIte, Nat.reduceEqDiff, Nat.reduceAdd, Nat.reduceSub, Nat.reduceMul, Nat.reduceLeDiff, reduceCtorEq, Int.reduceToNat, Int.reduceLE, Int.reduceLT, List.getElem?_map, hx]; rfl) ?_)
    (refine aL_S rfl rfl (by simp (disch := omega) only [go_sem, wrap_i64, ↓reduceIte, Nat.reduceEqDiff, Nat.reduceAdd, Nat.reduceSub, Nat.reduceMul, Nat.reduceLeDiff, reduceCtorEq, Int.reduceToNat, Int.reduceLE, Int.reduceLT, List.getElem?_map, hx]; rfl) ?_)
    (refine aL_S rfl rfl (by simp (disch := omega) only [go_sem, wrap_i64, ↓reduceIte, Nat.reduceEqDiff, Nat.reduceAdd, Nat.reduceSub, Nat.reduceMul, Nat.reduceLeDiff, reduceCtorEq, Int.reduceToNat, Int.reduceLE, Int.reduceLT, List.getElem?_map, hx]; rfl) ?_)
    (refine aL_S rfl rfl (by simp (disch := omega) only [go_sem, wrap_i64, ↓reduceIte, Nat.reduceEqDiff, Nat.reduceAdd, Nat.reduceSub, Nat.reduceMul, Nat.reduceLeDiff, reduceCtorEq, Int.reduceToNat, Int.reduceLE, Int.reduceLT, List.getElem?_map, hx]; rfl) ?_)
    refine aL_X rfl rfl (AOp_use rfl rfl (.inr ⟨rfl, rfl, rfl⟩) (by simp only [go_sem]) (by first | (simp (disch := omega) only [go_sem, wrap_i64, ↓reduceIte, Nat.reduceEqDiff, Nat.reduceAdd, Nat.reduceSub, Nat.reduceMul, Nat.reduceLeDiff, reduceCtorEq, Int.reduceToNat, Int.reduceLE, Int.reduceLT, List.getElem?_map, hx]; rfl) | (simp (disch := omega) only [go_sem, wrap_i64, ↓reduceIte, Nat.reduceEqDiff, Nat.reduceAdd, Nat.reduceSub, Nat.reduceMul, Nat.reduceLeDiff, reduceCtorEq, Int.reduceToNat, Int.reduceLE, Int.reduceLT, List.getElem?_map, hx])) (index_c (l := onceS (l.take i)) rfl (Wk.own1 ..) (by omega)) ?_); rintro _ _ ⟨rfl, rfl⟩
    (refine aL_S rfl rfl (by simp (disch := omega) only [go_sem, wrap_i64, ↓reduceIte, Nat.reduceEqDiff, Nat.reduceAdd, Nat.reduceSub, Nat.reduceMul, Nat.reduceLeDiff, reduceCtorEq, Int.reduceToNat, Int.reduceLE, Int.reduceLT, List.getElem?_map, hx]; rfl) ?_)
    refine aL_nil ?_
    refine awp_cond (by simp (disch := omega) only [go_sem, wrap_i64, ↓reduceIte, Nat.reduceEqDiff, Nat.reduceAdd, Nat.reduceSub, Nat.reduceMul, Nat.reduceLeDiff, reduceCtorEq, Int.reduceToNat, Int.reduceLE, Int.reduceLT]; rfl) (fun hc5 => ?_) (fun hc5 => ?_)
    · (try simp only [decide_eq_true_eq, decide_eq_false_iff_not, Bool.not_eq_true', Bool.not_eq_false', Bool.and_eq_true, Bool.or_eq_true, Bool.and_eq_false_iff, Bool.or_eq_false_iff, Bool.not_eq_eq_eq_not, Bool.not_true, Bool.not_false, Int.not_le, Int.not_lt, beq_iff_eq] at hc5)
      have hd : onceS (l.take (i + 1)) = onceS (l.take i) ++ [x] := by rw [htk, stepO, if_pos hc5]
      refine awp_region (by kernel_rfl) ?_
      (refine aL_S rfl rfl (by simp (disch := omega) only [go_sem, wrap_i64, ↓reduceIte, Nat.reduceEqDiff, Nat.reduceAdd, Nat.reduceSub, Nat.reduceMul, Nat.reduceLeDiff, reduceCtorEq, Int.reduceToNat, Int.reduceLE, Int.reduceLT, List.getElem?_map, hx]; rfl) ?_)
      (refine aL_S rfl rfl (by simp (disch := omega) only [go_sem, wrap_i64, ↓reduceIte, Nat.reduceEqDiff, Nat.reduceAdd, Nat.reduceSub, Nat.reduceMul, Nat.reduceLeDiff, reduceCtorEq, Int.reduceToNat, Int.reduceLE, Int.reduceLT, List.getElem?_map, hx]; rfl) ?_)
      (refine aL_S rfl rfl (by simp (disch := omega) only [go_sem, wrap_i64, ↓reduceIte, Nat.reduceEqDiff, Nat.reduceAdd, Nat.reduceSub, Nat.reduceMul, Nat.reduceLeDiff, reduceCtorEq, Int.reduceToNat, Int.reduceLE, Int.reduceLT, List.getElem?_map, hx]; rfl) ?_)
      (refine aL_S rfl rfl (by simp (disch := omega) only [go_sem, wrap_i64, ↓reduceIte, Nat.reduceEqDiff, Nat.reduceAdd, Nat.reduceSub, Nat.reduceMul, Nat.reduceLeDiff, reduceCtorEq, Int.reduceToNat, Int.reduceLE, Int.reduceLT, List.getElem?_map, hx]; rfl) ?_)
      (refine aL_S rfl rfl (by simp (disch := omega) only [go_sem, wrap_i64, ↓reduceIte, Nat.reduceEqDiff, Nat.reduceAdd, Nat.reduceSub, Nat.reduceMul, Nat.reduceLeDiff, reduceCtorEq, Int.reduceToNat, Int.reduceLE, Int.reduceLT, List.getElem?_map, hx]; rfl) ?_)
      refine aL_buildSlice rfl rfl rfl (by simp only [go_sem]; rfl) (by simp only [go_sem]; rfl) rfl rfl (by simp (disch := omega) only [go_sem, ↓reduceIte, Nat.reduceEqDiff, Nat.reduceAdd, Nat.reduceSub, Nat.reduceMul, Nat.reduceLeDiff, reduceCtorEq, Int.reduceToNat, Int.reduceLE, Int.reduceLT, List.getElem?_map, hx]; rfl) (by simp [go_sem, AVal.one, AVal.cells, AVal.solid]) (by decide) ?_
      refine aL_append rfl rfl rfl (by simp only [go_sem]; rfl) (by simp only [go_sem]; rfl) (by simp (disch := omega) only [go_sem, wrap_i64, ↓reduceIte, Nat.reduceEqDiff, Nat.reduceAdd, Nat.reduceSub, Nat.reduceMul, Nat.reduceLeDiff, reduceCtorEq, Int.reduceToNat, Int.reduceLE, Int.reduceLT, List.getElem?_map, hx]; rfl) (by simp (disch := omega) only [go_sem, ↓reduceIte, Nat.reduceEqDiff, Nat.reduceAdd, Nat.reduceSub, Nat.reduceMul, Nat.reduceLeDiff, reduceCtorEq, Int.reduceToNat, Int.reduceLE, Int.reduceLT, List.getElem?_map, hx]) (by simp (disch := omega) only [go_sem, wrap_i64, ↓reduceIte, Nat.reduceEqDiff, Nat.reduceAdd, Nat.reduceSub, Nat.reduceMul, Nat.reduceLeDiff, reduceCtorEq, Int.reduceToNat, Int.reduceLE, Int.reduceLT, List.getElem?_map, hx]; rfl) (by simp [AVal.one, AVal.cells]) (by simp; omega) fun k24 hk24 => ?_
      (refine aL_S rfl rfl (by simp (disch := omega) only [go_sem, wrap_i64, ↓reduceIte, Nat.reduceEqDiff, Nat.reduceAdd, Nat.reduceSub, Nat.reduceMul, Nat.reduceLeDiff, reduceCtorEq, Int.reduceToNat, Int.reduceLE, Int.reduceLT, List.getElem?_map, hx]; rfl) ?_)
      refine aL_nil ?_
      refine awp_region (by kernel_rfl) ?_
      iterate 3 (refine aL_S rfl rfl (by simp (disch := omega) only [go_sem, wrap_i64, ↓reduceIte, Nat.reduceEqDiff, Nat.reduceAdd, Nat.reduceSub, Nat.reduceMul, Nat.reduceLeDiff, reduceCtorEq, Int.reduceToNat, Int.reduceLE, Int.reduceLT]; rfl) ?_)
      refine aL_nil ?_
      refine aNext (ι := Nat × Nat) (i := ⟨i, k⟩) (i + 1, k24) ?_ ?_ ?_ ?_
      · show l.length - (i + 1) < l.length - i; omega
      · exact ⟨hi, (newTok_none hk24).2⟩
      · ((repeat (refine covers.eq (by first | rfl | (simp (disch := omega) only [go_sem, wrap_i64, ↓reduceIte, Nat.reduceEqDiff, Nat.reduceAdd, Nat.reduceSub, Nat.reduceMul, Nat.reduceLeDiff, reduceCtorEq, Int.reduceToNat, Int.reduceLE, Int.reduceLT, hd]; rfl) | (simp (disch := omega) only [go_sem, wrap_i64, ↓reduceIte, Nat.reduceEqDiff, Nat.reduceAdd, Nat.reduceSub, Nat.reduceMul, Nat.reduceLeDiff, reduceCtorEq, Int.reduceToNat, Int.reduceLE, Int.reduceLT, hd])) ?_)); exact covers.nil)
      · first | exact Store.Wk.refl _ | exact Store.Sub.refl _ | ((try dsimp only); (try simp (disch := assumption) only [Store.newTok_set, Store.newTok_step]); (first | refine subx_start ?_ | refine subx_startS ?_); (repeat (first | refine subx_skip (.head _) ?_ | refine subx_skip (.tail _ (.head _)) ?_ | refine subx_skip (.tail _ (.tail _ (.head _))) ?_ | refine subx_skip (.tail _ (.tail _ (.tail _ (.head _)))) ?_ | refine subx_left (by first | (simp (disch := omega) only [go_sem, ↓reduceIte, Nat.reduceEqDiff, Nat.reduceAdd, Nat.reduceSub, Nat.reduceMul, Nat.reduceLeDiff, reduceCtorEq, Int.reduceToNat, Int.reduceLE, Int.reduceLT]; rfl) | simp (disch := omega) only [go_sem, ↓reduceIte, Nat.reduceEqDiff, Nat.reduceAdd, Nat.reduceSub, Nat.reduceMul, Nat.reduceLeDiff, reduceCtorEq, Int.reduceToNat, Int.reduceLE, Int.reduceLT]) ?_)); (repeat (first | exact subx_refl | refine subx_in (.head _) ?_ | refine subx_in (.tail _ (.head _)) ?_ | refine subx_in (.tail _ (.tail _ (.head _))) ?_ | refine subx_in (.tail _ (.tail _ (.tail _ (.head _)))) ?_ | refine subx_new (by first | assumption | (simp only [Store.newTok_heap]; assumption)) ?_ | refine subx_tok ?_ | refine subx_newTok (by assumption) ?_)))
    · (try simp only [decide_eq_true_eq, decide_eq_false_iff_not, Bool.not_eq_true', Bool.not_eq_false', Bool.and_eq_true, Bool.or_eq_true, Bool.and_eq_false_iff, Bool.or_eq_false_iff, Bool.not_eq_eq_eq_not, Bool.not_true, Bool.not_false, Int.not_le, Int.not_lt, beq_iff_eq] at hc5)
      have hd : onceS (l.take (i + 1)) = onceS (l.take i) := by rw [htk, stepO, if_neg (by omega)]
      refine awp_skip ?_
      refine awp_region (by kernel_rfl) ?_
      iterate 3 (refine aL_S rfl rfl (by simp (disch := omega) only [go_sem, wrap_i64, ↓reduceIte, Nat.reduceEqDiff, Nat.reduceAdd, Nat.reduceSub, Nat.reduceMul, Nat.reduceLeDiff, reduceCtorEq, Int.reduceToNat, Int.reduceLE, Int.reduceLT]; rfl) ?_)
      refine aL_nil ?_
      refine aNext (ι := Nat × Nat) (i := ⟨i, k⟩) (i + 1, k) ?_ ?_ ?_ ?_
      · show l.length - (i + 1) < l.length - i; omega
      · exact ⟨hi, h2⟩
      · ((repeat (refine covers.eq (by first | rfl | (simp (disch := omega) only [go_sem, wrap_i64, ↓reduceIte, Nat.reduceEqDiff, Nat.reduceAdd, Nat.reduceSub, Nat.reduceMul, Nat.reduceLeDiff, reduceCtorEq, Int.reduceToNat, Int.reduceLE, Int.reduceLT, hd]; rfl) | (simp (disch := omega) only [go_sem, wrap_i64, ↓reduceIte, Nat.reduceEqDiff, Nat.reduceAdd, Nat.reduceSub, Nat.reduceMul, Nat.reduceLeDiff, reduceCtorEq, Int.reduceToNat, Int.reduceLE, Int.reduceLT, hd])) ?_)); exact covers.nil)
      · first | exact Store.Wk.refl _ | exact Store.Sub.refl _ | ((try dsimp only); (try simp (disch := assumption) only [Store.newTok_set, Store.newTok_step]); (first | refine subx_start ?_ | refine subx_startS ?_); (repeat (first | refine subx_skip (.head _) ?_ | refine subx_skip (.tail _ (.head _)) ?_ | refine subx_skip (.tail _ (.tail _ (.head _))) ?_ | refine subx_skip (.tail _ (.tail _ (.tail _ (.head _)))) ?_ | refine subx_left (by first | (simp (disch := omega) only [go_sem, ↓reduceIte, Nat.reduceEqDiff, Nat.reduceAdd, Nat.reduceSub, Nat.reduceMul, Nat.reduceLeDiff, reduceCtorEq, Int.reduceToNat, Int.reduceLE, Int.reduceLT]; rfl) | simp (disch := omega) only [go_sem, ↓reduceIte, Nat.reduceEqDiff, Nat.reduceAdd, Nat.reduceSub, Nat.reduceMul, Nat.reduceLeDiff, reduceCtorEq, Int.reduceToNat, Int.reduceLE, Int.reduceLT]) ?_)); (repeat (first | exact subx_refl | refine subx_in (.head _) ?_ | refine subx_in (.tail _ (.head _)) ?_ | refine subx_in (.tail _ (.tail _ (.head _))) ?_ | refine subx_in (.tail _ (.tail _ (.tail _ (.head _)))) ?_ | refine subx_new (by first | assumption | (simp only [Store.newTok_heap]; assumption)) ?_ | refine subx_tok ?_ | refine subx_newTok (by assumption) ?_)))
  · (try simp only [decide_eq_true_eq, decide_eq_false_iff_not, Bool.not_eq_true', Bool.not_eq_false', Bool.and_eq_true, Bool.or_eq_true, Bool.and_eq_false_iff, Bool.or_eq_false_iff, Bool.not_eq_eq_eq_not, Bool.not_true, Bool.not_false, Int.not_le, Int.not_lt, beq_iff_eq] at hc3)
    refine awp_exit ?_
    refine aThen_exit ?_
    refine aThen_exit ?_
    refine aBlock_hit ?_
    refine awp_seq ?_
    refine awp_region (by kernel_rfl) ?_
    iterate 2 (refine aL_S rfl rfl (by simp (disch := omega) only [go_sem, wrap_i64, ↓reduceIte, Nat.reduceEqDiff, Nat.reduceAdd, Nat.reduceSub, Nat.reduceMul, Nat.reduceLeDiff, reduceCtorEq, Int.reduceToNat, Int.reduceLE, Int.reduceLT]; rfl) ?_)
    refine aL_nil ?_
    refine awp_ret ?_
    refine aEnd_retW (v := .sl 1 ((onceS l).map sS) false) (σ' := σ.newTok none k (9, 1)) (by first | (simp (disch := omega) only [go_sem, wrap_i64, ↓reduceIte, Nat.reduceEqDiff, Nat.reduceAdd, Nat.reduceSub, Nat.reduceMul, Nat.reduceLeDiff, reduceCtorEq, Int.reduceToNat, Int.reduceLE, Int.reduceLT]; rfl) | (simp (disch := omega) only [go_sem, wrap_i64, ↓reduceIte, Nat.reduceEqDiff, Nat.reduceAdd, Nat.reduceSub, Nat.reduceMul, Nat.reduceLeDiff, reduceCtorEq, Int.reduceToNat, Int.reduceLE, Int.reduceLT])) (by rw [show l.take i = l from List.take_of_length_le (by omega)]; exact Wk.own1 ..) (Store.Wk.refl _) ⟨rfl, ?_⟩
    exact (Fr.refl σ []).newTok (fun j hj => by cases hj) h2

def few19S (l : List ByteArray) (m : Int) : Bool := (l.take m.toNat).all (fun s => decide (s.size ≤ 100)) && decide ((l.length : Int) ≤ m)
theorem few19S_spec {l : List ByteArray} {m : Int} (h : few19S l m = true) : (l.length : Int) ≤ m ∧ ∀ s ∈ l, s.size ≤ 100 := by
  unfold few19S at h
  rw [Bool.and_eq_true, List.all_eq_true, decide_eq_true_eq] at h
  refine ⟨h.2, fun s hs => ?_⟩
  rw [List.take_of_length_le (by omega)] at h
  exact of_decide_eq_true (h.1 s hs)
theorem few19_c {l : List ByteArray} {m : Int} {σ : Store} {tl : Bool} (hm : m ≤ 100) : ACalls Try.prog 41 [.sl 1 (l.map sS) tl, vInt m] σ fun v σ' => v = vBool (few19S l m) ∧ σ = σ' := by
  refine ACalls_of Try.func41 rfl Try.ntmps41 (congrArg Array.toList Try.results41) (by simp only [List.length_cons, List.length_nil]; decide) ?_; simp only [envOf_cons, envOf_nil, Nat.reduceAdd]
  refine awp_seq ?_
  refine awp_region (by kernel_rfl) ?_
  (refine aL_S rfl rfl (by simp (disch := omega) only [go_sem, wrap_i64, ↓reduceIte, Nat.reduceEqDiff, Nat.reduceAdd, Nat.reduceSub, Nat.reduceMul, Nat.reduceLeDiff, reduceCtorEq, Int.reduceToNat, Int.reduceLE, Int.reduceLT]; rfl) ?_)
  refine aL_nil ?_
  refine awp_seq ?_
  refine awp_seq ?_
  refine awp_region (by kernel_rfl) ?_
  (refine aL_S rfl rfl (by simp (disch := omega) only [go_sem, wrap_i64, ↓reduceIte, Nat.reduceEqDiff, Nat.reduceAdd, Nat.reduceSub, Nat.reduceMul, Nat.reduceLeDiff, reduceCtorEq, Int.reduceToNat, Int.reduceLE, Int.reduceLT]; rfl) ?_)
  refine aL_nil ?_
  refine awp_block ?_
  refine awp_loop_env (ι := Nat) (fun i => l.length - i) (fun i => i ≤ l.length ∧ (i : Int) ≤ max 0 m ∧ ∀ (k : Nat) x, k < i → l[k]? = some x → x.size ≤ 100) (fun i => [(0, .sl 1 (l.map sS) tl), (1, vInt m), (5, vInt i)]) (fun i => σ) 0 ?_ ?_ ?_ ?_
  · exact ⟨Nat.zero_le _, by omega, fun k x hk => absurd hk (Nat.not_lt_zero k)⟩
  · ((repeat (refine covers.eq (by first | rfl | (simp (disch := omega) only [go_sem, wrap_i64, ↓reduceIte, Nat.reduceEqDiff, Nat.reduceAdd, Nat.reduceSub, Nat.reduceMul, Nat.reduceLeDiff, reduceCtorEq, Int.reduceToNat, Int.reduceLE, Int.reduceLT]; rfl) | (simp (disch := omega) only [go_sem, wrap_i64, ↓reduceIte, Nat.reduceEqDiff, Nat.reduceAdd, Nat.reduceSub, Nat.reduceMul, Nat.reduceLeDiff, reduceCtorEq, Int.reduceToNat, Int.reduceLE, Int.reduceLT])) ?_)); exact covers.nil)
  · first | exact Store.Wk.refl _ | exact Store.Sub.refl _ | ((try dsimp only); (try simp (disch := assumption) only [Store.newTok_set, Store.newTok_step]); (first | refine subx_start ?_ | refine subx_startS ?_); (repeat (first | refine subx_skip (.head _) ?_ | refine subx_skip (.tail _ (.head _)) ?_ | refine subx_skip (.tail _ (.tail _ (.head _))) ?_ | refine subx_skip (.tail _ (.tail _ (.tail _ (.head _)))) ?_ | refine subx_left (by first | (simp (disch := omega) only [go_sem, ↓reduceIte, Nat.reduceEqDiff, Nat.reduceAdd, Nat.reduceSub, Nat.reduceMul, Nat.reduceLeDiff, reduceCtorEq, Int.reduceToNat, Int.reduceLE, Int.reduceLT]; rfl) | simp (disch := omega) only [go_sem, ↓reduceIte, Nat.reduceEqDiff, Nat.reduceAdd, Nat.reduceSub, Nat.reduceMul, Nat.reduceLeDiff, reduceCtorEq, Int.reduceToNat, Int.reduceLE, Int.reduceLT]) ?_)); (repeat (first | exact subx_refl | refine subx_in (.head _) ?_ | refine subx_in (.tail _ (.head _)) ?_ | refine subx_in (.tail _ (.tail _ (.head _))) ?_ | refine subx_in (.tail _ (.tail _ (.tail _ (.head _)))) ?_ | refine subx_new (by first | assumption | (simp only [Store.newTok_heap]; assumption)) ?_ | refine subx_tok ?_ | refine subx_newTok (by assumption) ?_)))
  rintro i ⟨h1, h2, h3⟩
  simp only [envL_cons, envL_nil]
  refine awp_seq ?_
  refine awp_seq ?_
  refine awp_region (by kernel_rfl) ?_
  iterate 5 (refine aL_S rfl rfl (by simp (disch := omega) only [go_sem, wrap_i64, ↓reduceIte, Nat.reduceEqDiff, Nat.reduceAdd, Nat.reduceSub, Nat.reduceMul, Nat.reduceLeDiff, reduceCtorEq, Int.reduceToNat, Int.reduceLE, Int.reduceLT]; rfl) ?_)
  refine aL_GT rfl rfl (by simp (disch := omega) only [go_sem, wrap_i64, ↓reduceIte, Nat.reduceEqDiff, Nat.reduceAdd, Nat.reduceSub, Nat.reduceMul, Nat.reduceLeDiff, reduceCtorEq, Int.reduceToNat, Int.reduceLE, Int.reduceLT]; rfl) rfl (by intro hb; have hb' := hb; (try simp only [decide_eq_true_eq, decide_eq_false_iff_not, Bool.not_eq_true', Bool.not_eq_false', Bool.and_eq_true, Bool.or_eq_true, Bool.and_eq_false_iff, Bool.or_eq_false_iff, Bool.not_eq_eq_eq_not, Bool.not_true, Bool.not_false, Int.not_le, Int.not_lt, beq_iff_eq] at hb'); (try simp only [Bool.and_eq_true] at hb); first | (simp (disch := omega) only [go_sem, wrap_i64, ↓reduceIte, Nat.reduceEqDiff, Nat.reduceAdd, Nat.reduceSub, Nat.reduceMul, Nat.reduceLeDiff, reduceCtorEq, Int.reduceToNat, Int.reduceLE, Int.reduceLT]; rfl) | (simp (disch := omega) only [go_sem, wrap_i64, ↓reduceIte, Nat.reduceEqDiff, Nat.reduceAdd, Nat.reduceSub, Nat.reduceMul, Nat.reduceLeDiff, reduceCtorEq, Int.reduceToNat, Int.reduceLE, Int.reduceLT, hb]; rfl)) ?_
  refine aL_GT rfl rfl (by simp (disch := omega) only [go_sem, wrap_i64, ↓reduceIte, Nat.reduceEqDiff, Nat.reduceAdd, Nat.reduceSub, Nat.reduceMul, Nat.reduceLeDiff, reduceCtorEq, Int.reduceToNat, Int.reduceLE, Int.reduceLT]; rfl) rfl (by intro hb; have hb' := hb; (try simp only [decide_eq_true_eq, decide_eq_false_iff_not, Bool.not_eq_true', Bool.not_eq_false', Bool.and_eq_true, Bool.or_eq_true, Bool.and_eq_false_iff, Bool.or_eq_false_iff, Bool.not_eq_eq_eq_not, Bool.not_true, Bool.not_false, Int.not_le, Int.not_lt, beq_iff_eq] at hb'); (try simp only [Bool.and_eq_true] at hb); first | (simp (disch := omega) only [go_sem, wrap_i64, ↓reduceIte, Nat.reduceEqDiff, Nat.reduceAdd, Nat.reduceSub, Nat.reduceMul, Nat.reduceLeDiff, reduceCtorEq, Int.reduceToNat, Int.reduceLE, Int.reduceLT]; rfl) | (simp (disch := omega) only [go_sem, wrap_i64, ↓reduceIte, Nat.reduceEqDiff, Nat.reduceAdd, Nat.reduceSub, Nat.reduceMul, Nat.reduceLeDiff, reduceCtorEq, Int.reduceToNat, Int.reduceLE, Int.reduceLT, hb]; rfl)) ?_
  refine aL_GT rfl rfl (by simp (disch := omega) only [go_sem, wrap_i64, ↓reduceIte, Nat.reduceEqDiff, Nat.reduceAdd, Nat.reduceSub, Nat.reduceMul, Nat.reduceLeDiff, reduceCtorEq, Int.reduceToNat, Int.reduceLE, Int.reduceLT]; rfl) rfl (by intro hb; have hb' := hb; (try simp only [decide_eq_true_eq, decide_eq_false_iff_not, Bool.not_eq_true', Bool.not_eq_false', Bool.and_eq_true, Bool.or_eq_true, Bool.and_eq_false_iff, Bool.or_eq_false_iff, Bool.not_eq_eq_eq_not, Bool.not_true, Bool.not_false, Int.not_le, Int.not_lt, beq_iff_eq] at hb'); (try simp only [Bool.and_eq_true] at hb); first | (simp (disch := omega) only [go_sem, wrap_i64, ↓reduceIte, Nat.reduceEqDiff, Nat.reduceAdd, Nat.reduceSub, Nat.reduceMul, Nat.reduceLeDiff, reduceCtorEq, Int.reduceToNat, Int.reduceLE, Int.reduceLT]; rfl) | (simp (disch := omega) only [go_sem, wrap_i64, ↓reduceIte, Nat.reduceEqDiff, Nat.reduceAdd, Nat.reduceSub, Nat.reduceMul, Nat.reduceLeDiff, reduceCtorEq, Int.reduceToNat, Int.reduceLE, Int.reduceLT, hb]; rfl)) ?_
  (refine aL_S rfl rfl (by simp (disch := omega) only [go_sem, wrap_i64, ↓reduceIte, Nat.reduceEqDiff, Nat.reduceAdd, Nat.reduceSub, Nat.reduceMul, Nat.reduceLeDiff, reduceCtorEq, Int.reduceToNat, Int.reduceLE, Int.reduceLT]; rfl) ?_)
  refine aL_nil ?_
  refine awp_cond (by simp (disch := omega) only [go_sem, wrap_i64, ↓reduceIte, Nat.reduceEqDiff, Nat.reduceAdd, Nat.reduceSub, Nat.reduceMul, Nat.reduceLeDiff, reduceCtorEq, Int.reduceToNat, Int.reduceLE, Int.reduceLT]; rfl) (fun hc2 => ?_) (fun hc2 => ?_)
  · (try simp only [decide_eq_true_eq, decide_eq_false_iff_not, Bool.not_eq_true', Bool.not_eq_false', Bool.and_eq_true, Bool.or_eq_true, Bool.and_eq_false_iff, Bool.or_eq_false_iff, Bool.not_eq_eq_eq_not, Bool.not_true, Bool.not_false, Int.not_le, Int.not_lt, beq_iff_eq] at hc2)
    refine awp_skip ?_
    refine awp_seq ?_
    refine awp_block ?_
    refine awp_seq ?_
    have hi : i < l.length := by omega
    obtain ⟨z, hz⟩ := getS hi
    refine awp_region (by kernel_rfl) ?_
    (refine aL_S rfl rfl (by simp (disch := omega) only [go_sem, wrap_i64, ↓reduceIte, Nat.reduceEqDiff, Nat.reduceAdd, Nat.reduceSub, Nat.reduceMul, Nat.reduceLeDiff, reduceCtorEq, Int.reduceToNat, Int.reduceLE, Int.reduceLT, List.getElem?_map, hz]; rfl) ?_)
    (refine aL_S rfl rfl (by simp (disch := omega) only [go_sem, wrap_i64, ↓reduceIte, Nat.reduceEqDiff, Nat.reduceAdd, Nat.reduceSub, Nat.reduceMul, Nat.reduceLeDiff, reduceCtorEq, Int.reduceToNat, Int.reduceLE, Int.reduceLT, List.getElem?_map, hz]; rfl) ?_)
    (refine aL_S rfl rfl (by simp (disch := omega) only [go_sem, wrap_i64, ↓reduceIte, Nat.reduceEqDiff, Nat.reduceAdd, Nat.reduceSub, Nat.reduceMul, Nat.reduceLeDiff, reduceCtorEq, Int.reduceToNat, Int.reduceLE, Int.reduceLT, List.getElem?_map, hz]; rfl) ?_)
    (refine aL_S rfl rfl (by simp (disch := omega) only [go_sem, wrap_i64, ↓reduceIte, Nat.reduceEqDiff, Nat.reduceAdd, Nat.reduceSub, Nat.reduceMul, Nat.reduceLeDiff, reduceCtorEq, Int.reduceToNat, Int.reduceLE, Int.reduceLT, List.getElem?_map, hz]; rfl) ?_)
    (refine aL_S rfl rfl (by simp (disch := omega) only [go_sem, wrap_i64, ↓reduceIte, Nat.reduceEqDiff, Nat.reduceAdd, Nat.reduceSub, Nat.reduceMul, Nat.reduceLeDiff, reduceCtorEq, Int.reduceToNat, Int.reduceLE, Int.reduceLT, List.getElem?_map, hz]; rfl) ?_)
    (refine aL_S rfl rfl (by simp (disch := omega) only [go_sem, wrap_i64, ↓reduceIte, Nat.reduceEqDiff, Nat.reduceAdd, Nat.reduceSub, Nat.reduceMul, Nat.reduceLeDiff, reduceCtorEq, Int.reduceToNat, Int.reduceLE, Int.reduceLT, List.getElem?_map, hz]; rfl) ?_)
    refine aL_nil ?_
    refine awp_cond (by simp (disch := omega) only [go_sem, wrap_i64, ↓reduceIte, Nat.reduceEqDiff, Nat.reduceAdd, Nat.reduceSub, Nat.reduceMul, Nat.reduceLeDiff, reduceCtorEq, Int.reduceToNat, Int.reduceLE, Int.reduceLT]; rfl) (fun hc4 => ?_) (fun hc4 => ?_)
    · (try simp only [decide_eq_true_eq, decide_eq_false_iff_not, Bool.not_eq_true', Bool.not_eq_false', Bool.and_eq_true, Bool.or_eq_true, Bool.and_eq_false_iff, Bool.or_eq_false_iff, Bool.not_eq_eq_eq_not, Bool.not_true, Bool.not_false, Int.not_le, Int.not_lt, beq_iff_eq] at hc4)
      refine awp_seq ?_
      refine awp_region (by kernel_rfl) ?_
      (refine aL_S rfl rfl (by simp (disch := omega) only [go_sem, wrap_i64, ↓reduceIte, Nat.reduceEqDiff, Nat.reduceAdd, Nat.reduceSub, Nat.reduceMul, Nat.reduceLeDiff, reduceCtorEq, Int.reduceToNat, Int.reduceLE, Int.reduceLT]; rfl) ?_)
      refine aL_nil ?_
      refine awp_ret ?_
      refine aEnd_ret (σ' := σ) (by simp (disch := omega) only [go_sem, wrap_i64, ↓reduceIte, Nat.reduceEqDiff, Nat.reduceAdd, Nat.reduceSub, Nat.reduceMul, Nat.reduceLeDiff, reduceCtorEq, Int.reduceToNat, Int.reduceLE, Int.reduceLT]; rfl) (by first | exact Store.Wk.refl _ | exact Store.Sub.refl _ | ((try dsimp only); (try simp (disch := assumption) only [Store.newTok_set, Store.newTok_step]); (first | refine subx_start ?_ | refine subx_startS ?_); (repeat (first | refine subx_skip (.head _) ?_ | refine subx_skip (.tail _ (.head _)) ?_ | refine subx_skip (.tail _ (.tail _ (.head _))) ?_ | refine subx_skip (.tail _ (.tail _ (.tail _ (.head _)))) ?_ | refine subx_left (by first | (simp (disch := omega) only [go_sem, ↓reduceIte, Nat.reduceEqDiff, Nat.reduceAdd, Nat.reduceSub, Nat.reduceMul, Nat.reduceLeDiff, reduceCtorEq, Int.reduceToNat, Int.reduceLE, Int.reduceLT]; rfl) | simp (disch := omega) only [go_sem, ↓reduceIte, Nat.reduceEqDiff, Nat.reduceAdd, Nat.reduceSub, Nat.reduceMul, Nat.reduceLeDiff, reduceCtorEq, Int.reduceToNat, Int.reduceLE, Int.reduceLT]) ?_)); (repeat (first | exact subx_refl | refine subx_in (.head _) ?_ | refine subx_in (.tail _ (.head _)) ?_ | refine subx_in (.tail _ (.tail _ (.head _))) ?_ | refine subx_in (.tail _ (.tail _ (.tail _ (.head _)))) ?_ | refine subx_new (by first | assumption | (simp only [Store.newTok_heap]; assumption)) ?_ | refine subx_tok ?_ | refine subx_newTok (by assumption) ?_)))) ?_
      refine ⟨congrArg vBool ?_, rfl⟩
      unfold few19S
      rw [List.all_eq_false.2 ⟨z, List.mem_of_getElem? (i := i) (by rw [List.getElem?_take, if_pos (by omega)]; exact hz), by simp; omega⟩]; rfl
    · (try simp only [decide_eq_true_eq, decide_eq_false_iff_not, Bool.not_eq_true', Bool.not_eq_false', Bool.and_eq_true, Bool.or_eq_true, Bool.and_eq_false_iff, Bool.or_eq_false_iff, Bool.not_eq_eq_eq_not, Bool.not_true, Bool.not_false, Int.not_le, Int.not_lt, beq_iff_eq] at hc4)
      refine awp_skip ?_
      refine awp_region (by kernel_rfl) ?_
      iterate 3 (refine aL_S rfl rfl (by simp (disch := omega) only [go_sem, wrap_i64, ↓reduceIte, Nat.reduceEqDiff, Nat.reduceAdd, Nat.reduceSub, Nat.reduceMul, Nat.reduceLeDiff, reduceCtorEq, Int.reduceToNat, Int.reduceLE, Int.reduceLT]; rfl) ?_)
      refine aL_nil ?_
      refine aNext (ι := Nat) (i := i) (i + 1) ?_ ?_ ?_ ?_
      · omega
      · exact ⟨by omega, by omega, fun k y hk hy => (Nat.lt_succ_iff_lt_or_eq.1 hk).elim (fun h => h3 k y h hy) fun hh => by rw [hh, hz] at hy; rw [← Option.some.inj hy]; omega⟩
      · ((repeat (refine covers.eq (by first | rfl | (simp (disch := omega) only [go_sem, wrap_i64, ↓reduceIte, Nat.reduceEqDiff, Nat.reduceAdd, Nat.reduceSub, Nat.reduceMul, Nat.reduceLeDiff, reduceCtorEq, Int.reduceToNat, Int.reduceLE, Int.reduceLT]; rfl) | (simp (disch := omega) only [go_sem, wrap_i64, ↓reduceIte, Nat.reduceEqDiff, Nat.reduceAdd, Nat.reduceSub, Nat.reduceMul, Nat.reduceLeDiff, reduceCtorEq, Int.reduceToNat, Int.reduceLE, Int.reduceLT])) ?_)); exact covers.nil)
      · first | exact Store.Wk.refl _ | exact Store.Sub.refl _ | ((try dsimp only); (try simp (disch := assumption) only [Store.newTok_set, Store.newTok_step]); (first | refine subx_start ?_ | refine subx_startS ?_); (repeat (first | refine subx_skip (.head _) ?_ | refine subx_skip (.tail _ (.head _)) ?_ | refine subx_skip (.tail _ (.tail _ (.head _))) ?_ | refine subx_skip (.tail _ (.tail _ (.tail _ (.head _)))) ?_ | refine subx_left (by first | (simp (disch := omega) only [go_sem, ↓reduceIte, Nat.reduceEqDiff, Nat.reduceAdd, Nat.reduceSub, Nat.reduceMul, Nat.reduceLeDiff, reduceCtorEq, Int.reduceToNat, Int.reduceLE, Int.reduceLT]; rfl) | simp (disch := omega) only [go_sem, ↓reduceIte, Nat.reduceEqDiff, Nat.reduceAdd, Nat.reduceSub, Nat.reduceMul, Nat.reduceLeDiff, reduceCtorEq, Int.reduceToNat, Int.reduceLE, Int.reduceLT]) ?_)); (repeat (first | exact subx_refl | refine subx_in (.head _) ?_ | refine subx_in (.tail _ (.head _)) ?_ | refine subx_in (.tail _ (.tail _ (.head _))) ?_ | refine subx_in (.tail _ (.tail _ (.tail _ (.head _)))) ?_ | refine subx_new (by first | assumption | (simp only [Store.newTok_heap]; assumption)) ?_ | refine subx_tok ?_ | refine subx_newTok (by assumption) ?_)))
  · (try simp only [decide_eq_true_eq, decide_eq_false_iff_not, Bool.not_eq_true', Bool.not_eq_false', Bool.and_eq_true, Bool.or_eq_true, Bool.and_eq_false_iff, Bool.or_eq_false_iff, Bool.not_eq_eq_eq_not, Bool.not_true, Bool.not_false, Int.not_le, Int.not_lt, beq_iff_eq] at hc2)
    refine awp_exit ?_
    refine aThen_exit ?_
    refine aThen_exit ?_
    refine aBlock_hit ?_
    refine awp_seq ?_
    refine awp_region (by kernel_rfl) ?_
    iterate 5 (refine aL_S rfl rfl (by simp (disch := omega) only [go_sem, wrap_i64, ↓reduceIte, Nat.reduceEqDiff, Nat.reduceAdd, Nat.reduceSub, Nat.reduceMul, Nat.reduceLeDiff, reduceCtorEq, Int.reduceToNat, Int.reduceLE, Int.reduceLT]; rfl) ?_)
    refine aL_nil ?_
    refine awp_ret ?_
    refine aEnd_ret (σ' := σ) (by simp (disch := omega) only [go_sem, wrap_i64, ↓reduceIte, Nat.reduceEqDiff, Nat.reduceAdd, Nat.reduceSub, Nat.reduceMul, Nat.reduceLeDiff, reduceCtorEq, Int.reduceToNat, Int.reduceLE, Int.reduceLT]; rfl) (by first | exact Store.Wk.refl _ | exact Store.Sub.refl _ | ((try dsimp only); (try simp (disch := assumption) only [Store.newTok_set, Store.newTok_step]); (first | refine subx_start ?_ | refine subx_startS ?_); (repeat (first | refine subx_skip (.head _) ?_ | refine subx_skip (.tail _ (.head _)) ?_ | refine subx_skip (.tail _ (.tail _ (.head _))) ?_ | refine subx_skip (.tail _ (.tail _ (.tail _ (.head _)))) ?_ | refine subx_left (by first | (simp (disch := omega) only [go_sem, ↓reduceIte, Nat.reduceEqDiff, Nat.reduceAdd, Nat.reduceSub, Nat.reduceMul, Nat.reduceLeDiff, reduceCtorEq, Int.reduceToNat, Int.reduceLE, Int.reduceLT]; rfl) | simp (disch := omega) only [go_sem, ↓reduceIte, Nat.reduceEqDiff, Nat.reduceAdd, Nat.reduceSub, Nat.reduceMul, Nat.reduceLeDiff, reduceCtorEq, Int.reduceToNat, Int.reduceLE, Int.reduceLT]) ?_)); (repeat (first | exact subx_refl | refine subx_in (.head _) ?_ | refine subx_in (.tail _ (.head _)) ?_ | refine subx_in (.tail _ (.tail _ (.head _))) ?_ | refine subx_in (.tail _ (.tail _ (.tail _ (.head _)))) ?_ | refine subx_new (by first | assumption | (simp only [Store.newTok_heap]; assumption)) ?_ | refine subx_tok ?_ | refine subx_newTok (by assumption) ?_)))) ?_
    refine ⟨congrArg vBool ?_, rfl⟩
    unfold few19S
    rw [List.all_eq_true.2 fun s hs => ?_, Bool.true_and]
    obtain ⟨k, hk, rfl⟩ := List.getElem_of_mem hs
    rw [List.length_take] at hk
    rw [List.getElem_take]
    exact decide_eq_true (h3 k _ (by omega) (List.getElem?_eq_getElem (by omega)))
end Go.Proofs.Ytdedpamcpgbgmaa
