/-
  Claims: the queue of names that want more, as a heap. Own work (an AI agent).
-/
import Derived.Test.YtdedpamcpgbgmaaClaimA
set_option linter.all false
set_option maxRecDepth 100000
namespace Go.Proofs.Ytdedpamcpgbgmaa
open Go.Ab

/-- a share: its object, the name, where it stands, how much it has, and how much it wants -/
structure Sh where
  o : Nat
  nm : ByteArray
  pl : Int
  has : Int
  want : Int
instance : Inhabited Sh := ⟨⟨0, ByteArray.empty, 0, 0, 0⟩⟩
def shC (x : Sh) : AObj := .cells [vStr x.nm, vInt x.pl, vInt x.has, vInt x.want]
def shQ (L : List Sh) : AObj := .cells (L.map fun x => .ref x.o 0)
attribute [go_sem] shC shQ
def lessSh (x y : Sh) : Bool := decide (x.has < y.has ∨ x.has = y.has ∧ x.pl < y.pl)
theorem lessSh_or (x y : Sh) : decide ((if cmpI x.has y.has = 0 then cmpI x.pl y.pl else cmpI x.has y.has) < 0) = lessSh x y := by
  unfold lessSh cmpI
  rw [decide_eq_decide]
  repeat' split
  all_goals omega

theorem cLen_c {oq n : Nat} {σ : Store} : ACalls Try.prog 104 [.msl oq 1 0 n] σ fun v σ' => v = vInt n ∧ σ = σ' := by
  refine ACalls_of Try.func104 rfl Try.ntmps104 (congrArg Array.toList Try.results104) (by simp only [List.length_cons, List.length_nil]; decide) ?_; simp only [envOf_cons, envOf_nil, Nat.reduceAdd]
  refine awp_seq ?_
  refine awp_region (by kernel_rfl) ?_
  (refine aL_S rfl rfl (by simp (disch := omega) only [go_sem, wrap_i64, ↓reduceIte, Nat.reduceEqDiff, Nat.reduceAdd, Nat.reduceSub, Nat.reduceMul, Nat.reduceLeDiff, reduceCtorEq, Int.reduceToNat, Int.reduceLE, Int.reduceLT]; rfl) ?_)
  refine aL_nil ?_
  refine awp_seq ?_
  refine awp_region (by kernel_rfl) ?_
  iterate 3 (refine aL_S rfl rfl (by simp (disch := omega) only [go_sem, wrap_i64, ↓reduceIte, Nat.reduceEqDiff, Nat.reduceAdd, Nat.reduceSub, Nat.reduceMul, Nat.reduceLeDiff, reduceCtorEq, Int.reduceToNat, Int.reduceLE, Int.reduceLT]; rfl) ?_)
  refine aL_nil ?_
  refine awp_ret ?_
  refine aEnd_ret (σ' := σ) (by simp (disch := omega) only [go_sem, wrap_i64, ↓reduceIte, Nat.reduceEqDiff, Nat.reduceAdd, Nat.reduceSub, Nat.reduceMul, Nat.reduceLeDiff, reduceCtorEq, Int.reduceToNat, Int.reduceLE, Int.reduceLT]; rfl) (by first | exact Store.Wk.refl _ | exact Store.Sub.refl _ | ((try dsimp only); (try simp (disch := assumption) only [Store.newTok_set, Store.newTok_step]); (first | refine subx_start ?_ | refine subx_startS ?_); (repeat (first | refine subx_skip (.head _) ?_ | refine subx_skip (.tail _ (.head _)) ?_ | refine subx_skip (.tail _ (.tail _ (.head _))) ?_ | refine subx_skip (.tail _ (.tail _ (.tail _ (.head _)))) ?_ | refine subx_left (by first | (simp (disch := omega) only [go_sem, ↓reduceIte, Nat.reduceEqDiff, Nat.reduceAdd, Nat.reduceSub, Nat.reduceMul, Nat.reduceLeDiff, reduceCtorEq, Int.reduceToNat, Int.reduceLE, Int.reduceLT]; rfl) | simp (disch := omega) only [go_sem, ↓reduceIte, Nat.reduceEqDiff, Nat.reduceAdd, Nat.reduceSub, Nat.reduceMul, Nat.reduceLeDiff, reduceCtorEq, Int.reduceToNat, Int.reduceLE, Int.reduceLT]) ?_)); (repeat (first | exact subx_refl | refine subx_in (.head _) ?_ | refine subx_in (.tail _ (.head _)) ?_ | refine subx_in (.tail _ (.tail _ (.head _))) ?_ | refine subx_in (.tail _ (.tail _ (.tail _ (.head _)))) ?_ | refine subx_new (by first | assumption | (simp only [Store.newTok_heap]; assumption)) ?_ | refine subx_tok ?_ | refine subx_newTok (by assumption) ?_)))) ?_
  exact ⟨rfl, rfl⟩
theorem cLen_nil {σ : Store} : ACalls Try.prog 104 [.lit (.slice none 0 0)] σ fun v σ' => v = vInt 0 ∧ σ = σ' := by
  refine ACalls_of Try.func104 rfl Try.ntmps104 (congrArg Array.toList Try.results104) (by simp only [List.length_cons, List.length_nil]; decide) ?_; simp only [envOf_cons, envOf_nil, Nat.reduceAdd]
  refine awp_seq ?_
  refine awp_region (by kernel_rfl) ?_
  (refine aL_S rfl rfl (by simp (disch := omega) only [go_sem, wrap_i64, ↓reduceIte, Nat.reduceEqDiff, Nat.reduceAdd, Nat.reduceSub, Nat.reduceMul, Nat.reduceLeDiff, reduceCtorEq, Int.reduceToNat, Int.reduceLE, Int.reduceLT]; rfl) ?_)
  refine aL_nil ?_
  refine awp_seq ?_
  refine awp_region (by kernel_rfl) ?_
  iterate 3 (refine aL_S rfl rfl (by simp (disch := omega) only [go_sem, wrap_i64, ↓reduceIte, Nat.reduceEqDiff, Nat.reduceAdd, Nat.reduceSub, Nat.reduceMul, Nat.reduceLeDiff, reduceCtorEq, Int.reduceToNat, Int.reduceLE, Int.reduceLT]; rfl) ?_)
  refine aL_nil ?_
  refine awp_ret ?_
  refine aEnd_ret (σ' := σ) (by simp (disch := omega) only [go_sem, wrap_i64, ↓reduceIte, Nat.reduceEqDiff, Nat.reduceAdd, Nat.reduceSub, Nat.reduceMul, Nat.reduceLeDiff, reduceCtorEq, Int.reduceToNat, Int.reduceLE, Int.reduceLT]; rfl) (by first | exact Store.Wk.refl _ | exact Store.Sub.refl _ | ((try dsimp only); (try simp (disch := assumption) only [Store.newTok_set, Store.newTok_step]); (first | refine subx_start ?_ | refine subx_startS ?_); (repeat (first | refine subx_skip (.head _) ?_ | refine subx_skip (.tail _ (.head _)) ?_ | refine subx_skip (.tail _ (.tail _ (.head _))) ?_ | refine subx_skip (.tail _ (.tail _ (.tail _ (.head _)))) ?_ | refine subx_left (by first | (simp (disch := omega) only [go_sem, ↓reduceIte, Nat.reduceEqDiff, Nat.reduceAdd, Nat.reduceSub, Nat.reduceMul, Nat.reduceLeDiff, reduceCtorEq, Int.reduceToNat, Int.reduceLE, Int.reduceLT]; rfl) | simp (disch := omega) only [go_sem, ↓reduceIte, Nat.reduceEqDiff, Nat.reduceAdd, Nat.reduceSub, Nat.reduceMul, Nat.reduceLeDiff, reduceCtorEq, Int.reduceToNat, Int.reduceLE, Int.reduceLT]) ?_)); (repeat (first | exact subx_refl | refine subx_in (.head _) ?_ | refine subx_in (.tail _ (.head _)) ?_ | refine subx_in (.tail _ (.tail _ (.head _))) ?_ | refine subx_in (.tail _ (.tail _ (.tail _ (.head _)))) ?_ | refine subx_new (by first | assumption | (simp only [Store.newTok_heap]; assumption)) ?_ | refine subx_tok ?_ | refine subx_newTok (by assumption) ?_)))) ?_
  exact ⟨rfl, rfl⟩
theorem cLess_c {oq i k : Nat} {L : List Sh} {x y : Sh} {σ : Store} (hq : σ.heap oq = some (shQ L)) (hx : L[i]? = some x) (hy : L[k]? = some y) (hex : σ.heap x.o = some (shC x)) (hey : σ.heap y.o = some (shC y)) :
    ACalls Try.prog 105 [.msl oq 1 0 L.length, vInt i, vInt k] σ fun v σ' => v = vBool (lessSh x y) ∧ σ = σ' := by
  have hi : i < L.length := (List.getElem?_eq_some_iff.1 hx).1
  have hk : k < L.length := (List.getElem?_eq_some_iff.1 hy).1
  refine ACalls_of Try.func105 rfl Try.ntmps105 (congrArg Array.toList Try.results105) (by simp only [List.length_cons, List.length_nil]; decide) ?_; simp only [envOf_cons, envOf_nil, Nat.reduceAdd]
  refine awp_seq ?_
  refine awp_region (by kernel_rfl) ?_
  (refine aL_S rfl rfl (by simp (disch := omega) only [go_sem, wrap_i64, ↓reduceIte, Nat.reduceEqDiff, Nat.reduceAdd, Nat.reduceSub, Nat.reduceMul, Nat.reduceLeDiff, reduceCtorEq, Int.reduceToNat, Int.reduceLE, Int.reduceLT, List.getElem?_map, hx, hy, hex, hey, hq, Nat.mul_one]; rfl) ?_)
  refine aL_nil ?_
  refine awp_seq ?_
  refine awp_draw (.op 0 0 (.op 1 0 (.op 2 0 (.op 3 0 (.op 4 0 (.op 5 0 (.op 6 0 (.op 7 0 (.op 8 0 (.op 9 0 (.op 10 0 (.op 11 0 (.op 12 0 (.op 13 0 (.op 15 0 (.op 16 0 (.op 17 0 (.op 18 0 (.op 19 0 (.op 20 0 (.op 21 0 (.op 22 0 (.op 23 0 (.op 24 0 (.op 25 0 (.op 26 0 (.op 27 0 (.op 28 0 (.op 14 1 (.op 29 1 (.op 30 1 (.op 31 1 (.op 32 0 (.op 33 0 .nil)))))))))))))))))))))))))))))))))) Try.mixed (by kernel_rfl) ?_
  (refine dR_S (by simp only [List.getElem?_toArray, List.getElem?_cons_zero, List.getElem?_cons_succ]; rfl) (by rfl) (by rfl) (by simp (disch := omega) only [go_sem, wrap_i64, ↓reduceIte, Nat.reduceEqDiff, Nat.reduceAdd, Nat.reduceSub, Nat.reduceMul, Nat.reduceLeDiff, reduceCtorEq, Int.reduceToNat, Int.reduceLE, Int.reduceLT, List.getElem?_map, hx, hy, hex, hey, hq, Nat.mul_one]; rfl) ?_)
  (refine dR_S (by simp only [List.getElem?_toArray, List.getElem?_cons_zero, List.getElem?_cons_succ]; rfl) (by rfl) (by rfl) (by simp (disch := omega) only [go_sem, wrap_i64, ↓reduceIte, Nat.reduceEqDiff, Nat.reduceAdd, Nat.reduceSub, Nat.reduceMul, Nat.reduceLeDiff, reduceCtorEq, Int.reduceToNat, Int.reduceLE, Int.reduceLT, List.getElem?_map, hx, hy, hex, hey, hq, Nat.mul_one]; rfl) ?_)
  (refine dR_S (by simp only [List.getElem?_toArray, List.getElem?_cons_zero, List.getElem?_cons_succ]; rfl) (by rfl) (by rfl) (by simp (disch := omega) only [go_sem, wrap_i64, ↓reduceIte, Nat.reduceEqDiff, Nat.reduceAdd, Nat.reduceSub, Nat.reduceMul, Nat.reduceLeDiff, reduceCtorEq, Int.reduceToNat, Int.reduceLE, Int.reduceLT, List.getElem?_map, hx, hy, hex, hey, hq, Nat.mul_one]; rfl) ?_)
  (refine dR_S (by simp only [List.getElem?_toArray, List.getElem?_cons_zero, List.getElem?_cons_succ]; rfl) (by rfl) (by rfl) (by simp (disch := omega) only [go_sem, wrap_i64, ↓reduceIte, Nat.reduceEqDiff, Nat.reduceAdd, Nat.reduceSub, Nat.reduceMul, Nat.reduceLeDiff, reduceCtorEq, Int.reduceToNat, Int.reduceLE, Int.reduceLT, List.getElem?_map, hx, hy, hex, hey, hq, Nat.mul_one]; rfl) ?_)
  (refine dR_S (by simp only [List.getElem?_toArray, List.getElem?_cons_zero, List.getElem?_cons_succ]; rfl) (by rfl) (by rfl) (by simp (disch := omega) only [go_sem, wrap_i64, ↓reduceIte, Nat.reduceEqDiff, Nat.reduceAdd, Nat.reduceSub, Nat.reduceMul, Nat.reduceLeDiff, reduceCtorEq, Int.reduceToNat, Int.reduceLE, Int.reduceLT, List.getElem?_map, hx, hy, hex, hey, hq, Nat.mul_one]; rfl) ?_)
  (refine dR_S (by simp only [List.getElem?_toArray, List.getElem?_cons_zero, List.getElem?_cons_succ]; rfl) (by rfl) (by rfl) (by simp (disch := omega) only [go_sem, wrap_i64, ↓reduceIte, Nat.reduceEqDiff, Nat.reduceAdd, Nat.reduceSub, Nat.reduceMul, Nat.reduceLeDiff, reduceCtorEq, Int.reduceToNat, Int.reduceLE, Int.reduceLT, List.getElem?_map, hx, hy, hex, hey, hq, Nat.mul_one]; rfl) ?_)
  (refine dR_S (by simp only [List.getElem?_toArray, List.getElem?_cons_zero, List.getElem?_cons_succ]; rfl) (by rfl) (by rfl) (by simp (disch := omega) only [go_sem, wrap_i64, ↓reduceIte, Nat.reduceEqDiff, Nat.reduceAdd, Nat.reduceSub, Nat.reduceMul, Nat.reduceLeDiff, reduceCtorEq, Int.reduceToNat, Int.reduceLE, Int.reduceLT, List.getElem?_map, hx, hy, hex, hey, hq, Nat.mul_one]; rfl) ?_)
  (refine dR_S (by simp only [List.getElem?_toArray, List.getElem?_cons_zero, List.getElem?_cons_succ]; rfl) (by rfl) (by rfl) (by simp (disch := omega) only [go_sem, wrap_i64, ↓reduceIte, Nat.reduceEqDiff, Nat.reduceAdd, Nat.reduceSub, Nat.reduceMul, Nat.reduceLeDiff, reduceCtorEq, Int.reduceToNat, Int.reduceLE, Int.reduceLT, List.getElem?_map, hx, hy, hex, hey, hq, Nat.mul_one]; rfl) ?_)
  (refine dR_S (by simp only [List.getElem?_toArray, List.getElem?_cons_zero, List.getElem?_cons_succ]; rfl) (by rfl) (by rfl) (by simp (disch := omega) only [go_sem, wrap_i64, ↓reduceIte, Nat.reduceEqDiff, Nat.reduceAdd, Nat.reduceSub, Nat.reduceMul, Nat.reduceLeDiff, reduceCtorEq, Int.reduceToNat, Int.reduceLE, Int.reduceLT, List.getElem?_map, hx, hy, hex, hey, hq, Nat.mul_one]; rfl) ?_)
  (refine dR_S (by simp only [List.getElem?_toArray, List.getElem?_cons_zero, List.getElem?_cons_succ]; rfl) (by rfl) (by rfl) (by simp (disch := omega) only [go_sem, wrap_i64, ↓reduceIte, Nat.reduceEqDiff, Nat.reduceAdd, Nat.reduceSub, Nat.reduceMul, Nat.reduceLeDiff, reduceCtorEq, Int.reduceToNat, Int.reduceLE, Int.reduceLT, List.getElem?_map, hx, hy, hex, hey, hq, Nat.mul_one]; rfl) ?_)
  (refine dR_S (by simp only [List.getElem?_toArray, List.getElem?_cons_zero, List.getElem?_cons_succ]; rfl) (by rfl) (by rfl) (by simp (disch := omega) only [go_sem, wrap_i64, ↓reduceIte, Nat.reduceEqDiff, Nat.reduceAdd, Nat.reduceSub, Nat.reduceMul, Nat.reduceLeDiff, reduceCtorEq, Int.reduceToNat, Int.reduceLE, Int.reduceLT, List.getElem?_map, hx, hy, hex, hey, hq, Nat.mul_one]; rfl) ?_)
  (refine dR_S (by simp only [List.getElem?_toArray, List.getElem?_cons_zero, List.getElem?_cons_succ]; rfl) (by rfl) (by rfl) (by simp (disch := omega) only [go_sem, wrap_i64, ↓reduceIte, Nat.reduceEqDiff, Nat.reduceAdd, Nat.reduceSub, Nat.reduceMul, Nat.reduceLeDiff, reduceCtorEq, Int.reduceToNat, Int.reduceLE, Int.reduceLT, List.getElem?_map, hx, hy, hex, hey, hq, Nat.mul_one]; rfl) ?_)
  (refine dR_S (by simp only [List.getElem?_toArray, List.getElem?_cons_zero, List.getElem?_cons_succ]; rfl) (by rfl) (by rfl) (by simp (disch := omega) only [go_sem, wrap_i64, ↓reduceIte, Nat.reduceEqDiff, Nat.reduceAdd, Nat.reduceSub, Nat.reduceMul, Nat.reduceLeDiff, reduceCtorEq, Int.reduceToNat, Int.reduceLE, Int.reduceLT, List.getElem?_map, hx, hy, hex, hey, hq, Nat.mul_one]; rfl) ?_)
  (refine dR_S (by simp only [List.getElem?_toArray, List.getElem?_cons_zero, List.getElem?_cons_succ]; rfl) (by rfl) (by rfl) (by simp (disch := omega) only [go_sem, wrap_i64, ↓reduceIte, Nat.reduceEqDiff, Nat.reduceAdd, Nat.reduceSub, Nat.reduceMul, Nat.reduceLeDiff, reduceCtorEq, Int.reduceToNat, Int.reduceLE, Int.reduceLT, List.getElem?_map, hx, hy, hex, hey, hq, Nat.mul_one]; rfl) ?_)
  (refine dR_S (by simp only [List.getElem?_toArray, List.getElem?_cons_zero, List.getElem?_cons_succ]; rfl) (by rfl) (by rfl) (by simp (disch := omega) only [go_sem, wrap_i64, ↓reduceIte, Nat.reduceEqDiff, Nat.reduceAdd, Nat.reduceSub, Nat.reduceMul, Nat.reduceLeDiff, reduceCtorEq, Int.reduceToNat, Int.reduceLE, Int.reduceLT, List.getElem?_map, hx, hy, hex, hey, hq, Nat.mul_one]; rfl) ?_)
  (refine dR_S (by simp only [List.getElem?_toArray, List.getElem?_cons_zero, List.getElem?_cons_succ]; rfl) (by rfl) (by rfl) (by simp (disch := omega) only [go_sem, wrap_i64, ↓reduceIte, Nat.reduceEqDiff, Nat.reduceAdd, Nat.reduceSub, Nat.reduceMul, Nat.reduceLeDiff, reduceCtorEq, Int.reduceToNat, Int.reduceLE, Int.reduceLT, List.getElem?_map, hx, hy, hex, hey, hq, Nat.mul_one]; rfl) ?_)
  (refine dR_S (by simp only [List.getElem?_toArray, List.getElem?_cons_zero, List.getElem?_cons_succ]; rfl) (by rfl) (by rfl) (by simp (disch := omega) only [go_sem, wrap_i64, ↓reduceIte, Nat.reduceEqDiff, Nat.reduceAdd, Nat.reduceSub, Nat.reduceMul, Nat.reduceLeDiff, reduceCtorEq, Int.reduceToNat, Int.reduceLE, Int.reduceLT, List.getElem?_map, hx, hy, hex, hey, hq, Nat.mul_one]; rfl) ?_)
  (refine dR_S (by simp only [List.getElem?_toArray, List.getElem?_cons_zero, List.getElem?_cons_succ]; rfl) (by rfl) (by rfl) (by simp (disch := omega) only [go_sem, wrap_i64, ↓reduceIte, Nat.reduceEqDiff, Nat.reduceAdd, Nat.reduceSub, Nat.reduceMul, Nat.reduceLeDiff, reduceCtorEq, Int.reduceToNat, Int.reduceLE, Int.reduceLT, List.getElem?_map, hx, hy, hex, hey, hq, Nat.mul_one]; rfl) ?_)
  (refine dR_S (by simp only [List.getElem?_toArray, List.getElem?_cons_zero, List.getElem?_cons_succ]; rfl) (by rfl) (by rfl) (by simp (disch := omega) only [go_sem, wrap_i64, ↓reduceIte, Nat.reduceEqDiff, Nat.reduceAdd, Nat.reduceSub, Nat.reduceMul, Nat.reduceLeDiff, reduceCtorEq, Int.reduceToNat, Int.reduceLE, Int.reduceLT, List.getElem?_map, hx, hy, hex, hey, hq, Nat.mul_one]; rfl) ?_)
  (refine dR_S (by simp only [List.getElem?_toArray, List.getElem?_cons_zero, List.getElem?_cons_succ]; rfl) (by rfl) (by rfl) (by simp (disch := omega) only [go_sem, wrap_i64, ↓reduceIte, Nat.reduceEqDiff, Nat.reduceAdd, Nat.reduceSub, Nat.reduceMul, Nat.reduceLeDiff, reduceCtorEq, Int.reduceToNat, Int.reduceLE, Int.reduceLT, List.getElem?_map, hx, hy, hex, hey, hq, Nat.mul_one]; rfl) ?_)
  (refine dR_S (by simp only [List.getElem?_toArray, List.getElem?_cons_zero, List.getElem?_cons_succ]; rfl) (by rfl) (by rfl) (by simp (disch := omega) only [go_sem, wrap_i64, ↓reduceIte, Nat.reduceEqDiff, Nat.reduceAdd, Nat.reduceSub, Nat.reduceMul, Nat.reduceLeDiff, reduceCtorEq, Int.reduceToNat, Int.reduceLE, Int.reduceLT, List.getElem?_map, hx, hy, hex, hey, hq, Nat.mul_one]; rfl) ?_)
  (refine dR_S (by simp only [List.getElem?_toArray, List.getElem?_cons_zero, List.getElem?_cons_succ]; rfl) (by rfl) (by rfl) (by simp (disch := omega) only [go_sem, wrap_i64, ↓reduceIte, Nat.reduceEqDiff, Nat.reduceAdd, Nat.reduceSub, Nat.reduceMul, Nat.reduceLeDiff, reduceCtorEq, Int.reduceToNat, Int.reduceLE, Int.reduceLT, List.getElem?_map, hx, hy, hex, hey, hq, Nat.mul_one]; rfl) ?_)
  (refine dR_S (by simp only [List.getElem?_toArray, List.getElem?_cons_zero, List.getElem?_cons_succ]; rfl) (by rfl) (by rfl) (by simp (disch := omega) only [go_sem, wrap_i64, ↓reduceIte, Nat.reduceEqDiff, Nat.reduceAdd, Nat.reduceSub, Nat.reduceMul, Nat.reduceLeDiff, reduceCtorEq, Int.reduceToNat, Int.reduceLE, Int.reduceLT, List.getElem?_map, hx, hy, hex, hey, hq, Nat.mul_one]; rfl) ?_)
  (refine dR_S (by simp only [List.getElem?_toArray, List.getElem?_cons_zero, List.getElem?_cons_succ]; rfl) (by rfl) (by rfl) (by simp (disch := omega) only [go_sem, wrap_i64, ↓reduceIte, Nat.reduceEqDiff, Nat.reduceAdd, Nat.reduceSub, Nat.reduceMul, Nat.reduceLeDiff, reduceCtorEq, Int.reduceToNat, Int.reduceLE, Int.reduceLT, List.getElem?_map, hx, hy, hex, hey, hq, Nat.mul_one]; rfl) ?_)
  (refine dR_S (by simp only [List.getElem?_toArray, List.getElem?_cons_zero, List.getElem?_cons_succ]; rfl) (by rfl) (by rfl) (by simp (disch := omega) only [go_sem, wrap_i64, ↓reduceIte, Nat.reduceEqDiff, Nat.reduceAdd, Nat.reduceSub, Nat.reduceMul, Nat.reduceLeDiff, reduceCtorEq, Int.reduceToNat, Int.reduceLE, Int.reduceLT, List.getElem?_map, hx, hy, hex, hey, hq, Nat.mul_one]; rfl) ?_)
  (refine dR_S (by simp only [List.getElem?_toArray, List.getElem?_cons_zero, List.getElem?_cons_succ]; rfl) (by rfl) (by rfl) (by simp (disch := omega) only [go_sem, wrap_i64, ↓reduceIte, Nat.reduceEqDiff, Nat.reduceAdd, Nat.reduceSub, Nat.reduceMul, Nat.reduceLeDiff, reduceCtorEq, Int.reduceToNat, Int.reduceLE, Int.reduceLT, List.getElem?_map, hx, hy, hex, hey, hq, Nat.mul_one]; rfl) ?_)
  (refine dR_S (by simp only [List.getElem?_toArray, List.getElem?_cons_zero, List.getElem?_cons_succ]; rfl) (by rfl) (by rfl) (by simp (disch := omega) only [go_sem, wrap_i64, ↓reduceIte, Nat.reduceEqDiff, Nat.reduceAdd, Nat.reduceSub, Nat.reduceMul, Nat.reduceLeDiff, reduceCtorEq, Int.reduceToNat, Int.reduceLE, Int.reduceLT, List.getElem?_map, hx, hy, hex, hey, hq, Nat.mul_one]; rfl) ?_)
  (refine dR_S (by simp only [List.getElem?_toArray, List.getElem?_cons_zero, List.getElem?_cons_succ]; rfl) (by rfl) (by rfl) (by simp (disch := omega) only [go_sem, wrap_i64, ↓reduceIte, Nat.reduceEqDiff, Nat.reduceAdd, Nat.reduceSub, Nat.reduceMul, Nat.reduceLeDiff, reduceCtorEq, Int.reduceToNat, Int.reduceLE, Int.reduceLT, List.getElem?_map, hx, hy, hex, hey, hq, Nat.mul_one]; rfl) ?_)
  refine dR_X (by simp only [List.getElem?_toArray, List.getElem?_cons_zero, List.getElem?_cons_succ]; rfl) (by rfl) (by rfl) (AOp_use (by rfl) (by rfl) (.inr ⟨by rfl, by rfl, by rfl⟩) (by simp only [go_sem]) (by first | (simp (disch := omega) only [go_sem, wrap_i64, ↓reduceIte, Nat.reduceEqDiff, Nat.reduceAdd, Nat.reduceSub, Nat.reduceMul, Nat.reduceLeDiff, reduceCtorEq, Int.reduceToNat, Int.reduceLE, Int.reduceLT, List.getElem?_map, hx, hy, hex, hey, hq, Nat.mul_one]; rfl) | (simp (disch := omega) only [go_sem, wrap_i64, ↓reduceIte, Nat.reduceEqDiff, Nat.reduceAdd, Nat.reduceSub, Nat.reduceMul, Nat.reduceLeDiff, reduceCtorEq, Int.reduceToNat, Int.reduceLE, Int.reduceLT, List.getElem?_map, hx, hy, hex, hey, hq, Nat.mul_one])) (cmp_c) ?_); rintro _ _ ⟨rfl, rfl⟩; refine ⟨(by first | exact Store.Wk.refl _ | exact Store.Sub.refl _ | ((try dsimp only); (try simp (disch := assumption) only [Store.newTok_set, Store.newTok_step]); (first | refine subx_start ?_ | refine subx_startS ?_); (repeat (first | refine subx_skip (.head _) ?_ | refine subx_skip (.tail _ (.head _)) ?_ | refine subx_skip (.tail _ (.tail _ (.head _))) ?_ | refine subx_skip (.tail _ (.tail _ (.tail _ (.head _)))) ?_ | refine subx_left (by first | (simp (disch := omega) only [go_sem, ↓reduceIte, Nat.reduceEqDiff, Nat.reduceAdd, Nat.reduceSub, Nat.reduceMul, Nat.reduceLeDiff, reduceCtorEq, Int.reduceToNat, Int.reduceLE, Int.reduceLT, List.getElem?_map, hx, hy, hex, hey, hq, Nat.mul_one]; rfl) | simp (disch := omega) only [go_sem, ↓reduceIte, Nat.reduceEqDiff, Nat.reduceAdd, Nat.reduceSub, Nat.reduceMul, Nat.reduceLeDiff, reduceCtorEq, Int.reduceToNat, Int.reduceLE, Int.reduceLT, List.getElem?_map, hx, hy, hex, hey, hq, Nat.mul_one]) ?_)); (repeat (first | exact subx_refl | refine subx_in (.head _) ?_ | refine subx_in (.tail _ (.head _)) ?_ | refine subx_in (.tail _ (.tail _ (.head _))) ?_ | refine subx_in (.tail _ (.tail _ (.tail _ (.head _)))) ?_ | refine subx_new (by first | assumption | (simp only [Store.newTok_heap]; assumption)) ?_ | refine subx_tok ?_ | refine subx_newTok (by assumption) ?_)))), ?_⟩
  refine dR_X (by simp only [List.getElem?_toArray, List.getElem?_cons_zero, List.getElem?_cons_succ]; rfl) (by rfl) (by rfl) (AOp_use (by rfl) (by rfl) (.inr ⟨by rfl, by rfl, by rfl⟩) (by simp only [go_sem]) (by first | (simp (disch := omega) only [go_sem, wrap_i64, ↓reduceIte, Nat.reduceEqDiff, Nat.reduceAdd, Nat.reduceSub, Nat.reduceMul, Nat.reduceLeDiff, reduceCtorEq, Int.reduceToNat, Int.reduceLE, Int.reduceLT, List.getElem?_map, hx, hy, hex, hey, hq, Nat.mul_one]; rfl) | (simp (disch := omega) only [go_sem, wrap_i64, ↓reduceIte, Nat.reduceEqDiff, Nat.reduceAdd, Nat.reduceSub, Nat.reduceMul, Nat.reduceLeDiff, reduceCtorEq, Int.reduceToNat, Int.reduceLE, Int.reduceLT, List.getElem?_map, hx, hy, hex, hey, hq, Nat.mul_one])) (cmp_c) ?_); rintro _ _ ⟨rfl, rfl⟩; refine ⟨(by first | exact Store.Wk.refl _ | exact Store.Sub.refl _ | ((try dsimp only); (try simp (disch := assumption) only [Store.newTok_set, Store.newTok_step]); (first | refine subx_start ?_ | refine subx_startS ?_); (repeat (first | refine subx_skip (.head _) ?_ | refine subx_skip (.tail _ (.head _)) ?_ | refine subx_skip (.tail _ (.tail _ (.head _))) ?_ | refine subx_skip (.tail _ (.tail _ (.tail _ (.head _)))) ?_ | refine subx_left (by first | (simp (disch := omega) only [go_sem, ↓reduceIte, Nat.reduceEqDiff, Nat.reduceAdd, Nat.reduceSub, Nat.reduceMul, Nat.reduceLeDiff, reduceCtorEq, Int.reduceToNat, Int.reduceLE, Int.reduceLT, List.getElem?_map, hx, hy, hex, hey, hq, Nat.mul_one]; rfl) | simp (disch := omega) only [go_sem, ↓reduceIte, Nat.reduceEqDiff, Nat.reduceAdd, Nat.reduceSub, Nat.reduceMul, Nat.reduceLeDiff, reduceCtorEq, Int.reduceToNat, Int.reduceLE, Int.reduceLT, List.getElem?_map, hx, hy, hex, hey, hq, Nat.mul_one]) ?_)); (repeat (first | exact subx_refl | refine subx_in (.head _) ?_ | refine subx_in (.tail _ (.head _)) ?_ | refine subx_in (.tail _ (.tail _ (.head _))) ?_ | refine subx_in (.tail _ (.tail _ (.tail _ (.head _)))) ?_ | refine subx_new (by first | assumption | (simp only [Store.newTok_heap]; assumption)) ?_ | refine subx_tok ?_ | refine subx_newTok (by assumption) ?_)))), ?_⟩
  refine dR_X (by simp only [List.getElem?_toArray, List.getElem?_cons_zero, List.getElem?_cons_succ]; rfl) (by rfl) (by rfl) (AOp_buildSlice' (by rfl) (by simp only [go_sem]; rfl) (by simp only [go_sem]; rfl) (by rfl) (by rfl) (by simp (disch := omega) only [go_sem, ↓reduceIte, Nat.reduceEqDiff, Nat.reduceAdd, Nat.reduceSub, Nat.reduceMul, Nat.reduceLeDiff, reduceCtorEq, Int.reduceToNat, Int.reduceLE, Int.reduceLT, List.getElem?_map, hx, hy, hex, hey, hq, Nat.mul_one]; rfl) (by simp [go_sem, AVal.one, AVal.cells, AVal.solid]) (by decide) ⟨(by first | exact Store.Wk.refl _ | exact Store.Sub.refl _ | ((try dsimp only); (try simp (disch := assumption) only [Store.newTok_set, Store.newTok_step]); (first | refine subx_start ?_ | refine subx_startS ?_); (repeat (first | refine subx_skip (.head _) ?_ | refine subx_skip (.tail _ (.head _)) ?_ | refine subx_skip (.tail _ (.tail _ (.head _))) ?_ | refine subx_skip (.tail _ (.tail _ (.tail _ (.head _)))) ?_ | refine subx_left (by first | (simp (disch := omega) only [go_sem, ↓reduceIte, Nat.reduceEqDiff, Nat.reduceAdd, Nat.reduceSub, Nat.reduceMul, Nat.reduceLeDiff, reduceCtorEq, Int.reduceToNat, Int.reduceLE, Int.reduceLT, List.getElem?_map, hx, hy, hex, hey, hq, Nat.mul_one]; rfl) | simp (disch := omega) only [go_sem, ↓reduceIte, Nat.reduceEqDiff, Nat.reduceAdd, Nat.reduceSub, Nat.reduceMul, Nat.reduceLeDiff, reduceCtorEq, Int.reduceToNat, Int.reduceLE, Int.reduceLT, List.getElem?_map, hx, hy, hex, hey, hq, Nat.mul_one]) ?_)); (repeat (first | exact subx_refl | refine subx_in (.head _) ?_ | refine subx_in (.tail _ (.head _)) ?_ | refine subx_in (.tail _ (.tail _ (.head _))) ?_ | refine subx_in (.tail _ (.tail _ (.tail _ (.head _)))) ?_ | refine subx_new (by first | assumption | (simp only [Store.newTok_heap]; assumption)) ?_ | refine subx_tok ?_ | refine subx_newTok (by assumption) ?_)))), ?_⟩)
  refine dR_X (by simp only [List.getElem?_toArray, List.getElem?_cons_zero, List.getElem?_cons_succ]; rfl) (by rfl) (by rfl) (AOp_use (by rfl) (by rfl) (.inr ⟨by rfl, by rfl, by rfl⟩) (by simp only [go_sem]) (by first | (simp (disch := omega) only [go_sem, wrap_i64, ↓reduceIte, Nat.reduceEqDiff, Nat.reduceAdd, Nat.reduceSub, Nat.reduceMul, Nat.reduceLeDiff, reduceCtorEq, Int.reduceToNat, Int.reduceLE, Int.reduceLT, List.getElem?_map, hx, hy, hex, hey, hq, Nat.mul_one]; rfl) | (simp (disch := omega) only [go_sem, wrap_i64, ↓reduceIte, Nat.reduceEqDiff, Nat.reduceAdd, Nat.reduceSub, Nat.reduceMul, Nat.reduceLeDiff, reduceCtorEq, Int.reduceToNat, Int.reduceLE, Int.reduceLT, List.getElem?_map, hx, hy, hex, hey, hq, Nat.mul_one])) (or2_c) ?_); rintro _ _ ⟨rfl, rfl⟩; refine ⟨(by first | exact Store.Wk.refl _ | exact Store.Sub.refl _ | ((try dsimp only); (try simp (disch := assumption) only [Store.newTok_set, Store.newTok_step]); (first | refine subx_start ?_ | refine subx_startS ?_); (repeat (first | refine subx_skip (.head _) ?_ | refine subx_skip (.tail _ (.head _)) ?_ | refine subx_skip (.tail _ (.tail _ (.head _))) ?_ | refine subx_skip (.tail _ (.tail _ (.tail _ (.head _)))) ?_ | refine subx_left (by first | (simp (disch := omega) only [go_sem, ↓reduceIte, Nat.reduceEqDiff, Nat.reduceAdd, Nat.reduceSub, Nat.reduceMul, Nat.reduceLeDiff, reduceCtorEq, Int.reduceToNat, Int.reduceLE, Int.reduceLT, List.getElem?_map, hx, hy, hex, hey, hq, Nat.mul_one]; rfl) | simp (disch := omega) only [go_sem, ↓reduceIte, Nat.reduceEqDiff, Nat.reduceAdd, Nat.reduceSub, Nat.reduceMul, Nat.reduceLeDiff, reduceCtorEq, Int.reduceToNat, Int.reduceLE, Int.reduceLT, List.getElem?_map, hx, hy, hex, hey, hq, Nat.mul_one]) ?_)); (repeat (first | exact subx_refl | refine subx_in (.head _) ?_ | refine subx_in (.tail _ (.head _)) ?_ | refine subx_in (.tail _ (.tail _ (.head _))) ?_ | refine subx_in (.tail _ (.tail _ (.tail _ (.head _)))) ?_ | refine subx_new (by first | assumption | (simp only [Store.newTok_heap]; assumption)) ?_ | refine subx_tok ?_ | refine subx_newTok (by assumption) ?_)))), ?_⟩
  (refine dR_S (by simp only [List.getElem?_toArray, List.getElem?_cons_zero, List.getElem?_cons_succ]; rfl) (by rfl) (by rfl) (by simp (disch := omega) only [go_sem, wrap_i64, ↓reduceIte, Nat.reduceEqDiff, Nat.reduceAdd, Nat.reduceSub, Nat.reduceMul, Nat.reduceLeDiff, reduceCtorEq, Int.reduceToNat, Int.reduceLE, Int.reduceLT, List.getElem?_map, hx, hy, hex, hey, hq, Nat.mul_one]; rfl) ?_)
  (refine dR_S (by simp only [List.getElem?_toArray, List.getElem?_cons_zero, List.getElem?_cons_succ]; rfl) (by rfl) (by rfl) (by simp (disch := omega) only [go_sem, wrap_i64, ↓reduceIte, Nat.reduceEqDiff, Nat.reduceAdd, Nat.reduceSub, Nat.reduceMul, Nat.reduceLeDiff, reduceCtorEq, Int.reduceToNat, Int.reduceLE, Int.reduceLT, List.getElem?_map, hx, hy, hex, hey, hq, Nat.mul_one]; rfl) ?_)
  refine dR_nil ?_
  refine awp_ret ?_
  refine aEnd_ret (σ' := σ) (by simp (disch := omega) only [go_sem, wrap_i64, ↓reduceIte, Nat.reduceEqDiff, Nat.reduceAdd, Nat.reduceSub, Nat.reduceMul, Nat.reduceLeDiff, reduceCtorEq, Int.reduceToNat, Int.reduceLE, Int.reduceLT]; rfl) (by first | exact Store.Wk.refl _ | exact Store.Sub.refl _ | ((try dsimp only); (try simp (disch := assumption) only [Store.newTok_set, Store.newTok_step]); (first | refine subx_start ?_ | refine subx_startS ?_); (repeat (first | refine subx_skip (.head _) ?_ | refine subx_skip (.tail _ (.head _)) ?_ | refine subx_skip (.tail _ (.tail _ (.head _))) ?_ | refine subx_skip (.tail _ (.tail _ (.tail _ (.head _)))) ?_ | refine subx_left (by first | (simp (disch := omega) only [go_sem, ↓reduceIte, Nat.reduceEqDiff, Nat.reduceAdd, Nat.reduceSub, Nat.reduceMul, Nat.reduceLeDiff, reduceCtorEq, Int.reduceToNat, Int.reduceLE, Int.reduceLT]; rfl) | simp (disch := omega) only [go_sem, ↓reduceIte, Nat.reduceEqDiff, Nat.reduceAdd, Nat.reduceSub, Nat.reduceMul, Nat.reduceLeDiff, reduceCtorEq, Int.reduceToNat, Int.reduceLE, Int.reduceLT]) ?_)); (repeat (first | exact subx_refl | refine subx_in (.head _) ?_ | refine subx_in (.tail _ (.head _)) ?_ | refine subx_in (.tail _ (.tail _ (.head _))) ?_ | refine subx_in (.tail _ (.tail _ (.tail _ (.head _)))) ?_ | refine subx_new (by first | assumption | (simp only [Store.newTok_heap]; assumption)) ?_ | refine subx_tok ?_ | refine subx_newTok (by assumption) ?_)))) ?_
  exact ⟨by rw [← lessSh_or], rfl⟩

def swapG (L : List Sh) (i k : Nat) : List Sh := match L[i]?, L[k]? with
  | some x, some y => (L.set i y).set k x
  | _, _ => L
theorem swapG_eq {L : List Sh} {i k : Nat} {x y : Sh} (hx : L[i]? = some x) (hy : L[k]? = some y) : swapG L i k = (L.set i y).set k x := by simp [swapG, hx, hy]
theorem swapG_map {L : List Sh} {i k : Nat} {x y : Sh} (hx : L[i]? = some x) (hy : L[k]? = some y) : ((L.map fun x => AVal.ref x.o 0).set i (.ref y.o 0)).set k (.ref x.o 0) = (swapG L i k).map fun x => AVal.ref x.o 0 := by
  rw [swapG_eq hx hy, List.map_set, List.map_set]
theorem swapG_get {L : List Sh} {i k : Nat} (hi : i < L.length) (hk : k < L.length) (m : Nat) : (swapG L i k)[m]? = if m = i then L[k]? else if m = k then L[i]? else L[m]? := by
  rw [swapG_eq (List.getElem?_eq_getElem hi) (List.getElem?_eq_getElem hk)]
  simp only [List.getElem?_set, List.length_set]
  by_cases h1 : m = i
  · subst h1
    rw [if_pos rfl]
    by_cases h2 : k = m
    · subst h2; rw [if_pos rfl, if_pos hi]; simp [hi]
    · rw [if_neg h2, if_pos rfl, if_pos hi]; simp [hk]
  · rw [if_neg h1]
    by_cases h2 : m = k
    · subst h2; rw [if_pos rfl, if_pos hk, if_pos rfl]; simp [hi]
    · rw [if_neg (Ne.symm h2), if_neg (Ne.symm h1), if_neg h2]
theorem swapG_length (L : List Sh) (i k : Nat) : (swapG L i k).length = L.length := by unfold swapG; split <;> simp
theorem swapG_perm (L : List Sh) (i k : Nat) : (swapG L i k).Perm L := by
  unfold swapG
  split
  · rename_i x y hx hy
    obtain ⟨hi, rfl⟩ := List.getElem?_eq_some_iff.1 hx
    obtain ⟨hk, rfl⟩ := List.getElem?_eq_some_iff.1 hy
    exact List.set_set_perm hi hk
  · exact .refl _
theorem ne_sh {σ : Store} {oq : Nat} {L : List Sh} {x : Sh} (hq : σ.heap oq = some (shQ L)) (hex : σ.heap x.o = some (shC x)) : x.o ≠ oq := by
  intro h
  rw [h, hq] at hex
  cases L with
  | nil => simp [shQ, shC] at hex
  | cons a l => simp [shQ, shC] at hex

theorem cSwap_c {oq i k : Nat} {L : List Sh} {x y : Sh} {σ : Store} (hq : σ.heap oq = some (shQ L)) (hx : L[i]? = some x) (hy : L[k]? = some y) :
    ACalls Try.prog 106 [.msl oq 1 0 L.length, vInt i, vInt k] σ fun v σ' => v = .tup [] ∧ σ' = σ.set oq (shQ (swapG L i k)) := by
  have hi : i < L.length := (List.getElem?_eq_some_iff.1 hx).1
  have hk : k < L.length := (List.getElem?_eq_some_iff.1 hy).1
  refine ACalls_of Try.func106 rfl Try.ntmps106 (congrArg Array.toList Try.results106) (by simp only [List.length_cons, List.length_nil]; decide) ?_; simp only [envOf_cons, envOf_nil, Nat.reduceAdd]
  refine awp_draw (.op 0 0 (.op 1 0 (.op 2 0 (.op 3 0 (.op 4 0 (.op 5 0 (.op 6 0 (.op 7 0 (.op 8 0 (.op 9 0 (.op 10 0 (.op 11 0 (.op 12 0 (.op 13 2 (.op 14 0 (.op 15 2 .nil)))))))))))))))) Try.mixed (by kernel_rfl) ?_
  (refine dR_S (by simp only [List.getElem?_toArray, List.getElem?_cons_zero, List.getElem?_cons_succ]; rfl) (by rfl) (by rfl) (by simp (disch := omega) only [go_sem, wrap_i64, ↓reduceIte, Nat.reduceEqDiff, Nat.reduceAdd, Nat.reduceSub, Nat.reduceMul, Nat.reduceLeDiff, reduceCtorEq, Int.reduceToNat, Int.reduceLE, Int.reduceLT, List.getElem?_map, hx, hy, hq, Nat.mul_one, Store.set_set]; rfl) ?_)
  (refine dR_S (by simp only [List.getElem?_toArray, List.getElem?_cons_zero, List.getElem?_cons_succ]; rfl) (by rfl) (by rfl) (by simp (disch := omega) only [go_sem, wrap_i64, ↓reduceIte, Nat.reduceEqDiff, Nat.reduceAdd, Nat.reduceSub, Nat.reduceMul, Nat.reduceLeDiff, reduceCtorEq, Int.reduceToNat, Int.reduceLE, Int.reduceLT, List.getElem?_map, hx, hy, hq, Nat.mul_one, Store.set_set]; rfl) ?_)
  (refine dR_S (by simp only [List.getElem?_toArray, List.getElem?_cons_zero, List.getElem?_cons_succ]; rfl) (by rfl) (by rfl) (by simp (disch := omega) only [go_sem, wrap_i64, ↓reduceIte, Nat.reduceEqDiff, Nat.reduceAdd, Nat.reduceSub, Nat.reduceMul, Nat.reduceLeDiff, reduceCtorEq, Int.reduceToNat, Int.reduceLE, Int.reduceLT, List.getElem?_map, hx, hy, hq, Nat.mul_one, Store.set_set]; rfl) ?_)
  (refine dR_S (by simp only [List.getElem?_toArray, List.getElem?_cons_zero, List.getElem?_cons_succ]; rfl) (by rfl) (by rfl) (by simp (disch := omega) only [go_sem, wrap_i64, ↓reduceIte, Nat.reduceEqDiff, Nat.reduceAdd, Nat.reduceSub, Nat.reduceMul, Nat.reduceLeDiff, reduceCtorEq, Int.reduceToNat, Int.reduceLE, Int.reduceLT, List.getElem?_map, hx, hy, hq, Nat.mul_one, Store.set_set]; rfl) ?_)
  (refine dR_S (by simp only [List.getElem?_toArray, List.getElem?_cons_zero, List.getElem?_cons_succ]; rfl) (by rfl) (by rfl) (by simp (disch := omega) only [go_sem, wrap_i64, ↓reduceIte, Nat.reduceEqDiff, Nat.reduceAdd, Nat.reduceSub, Nat.reduceMul, Nat.reduceLeDiff, reduceCtorEq, Int.reduceToNat, Int.reduceLE, Int.reduceLT, List.getElem?_map, hx, hy, hq, Nat.mul_one, Store.set_set]; rfl) ?_)
  (refine dR_S (by simp only [List.getElem?_toArray, List.getElem?_cons_zero, List.getElem?_cons_succ]; rfl) (by rfl) (by rfl) (by simp (disch := omega) only [go_sem, wrap_i64, ↓reduceIte, Nat.reduceEqDiff, Nat.reduceAdd, Nat.reduceSub, Nat.reduceMul, Nat.reduceLeDiff, reduceCtorEq, Int.reduceToNat, Int.reduceLE, Int.reduceLT, List.getElem?_map, hx, hy, hq, Nat.mul_one, Store.set_set]; rfl) ?_)
  (refine dR_S (by simp only [List.getElem?_toArray, List.getElem?_cons_zero, List.getElem?_cons_succ]; rfl) (by rfl) (by rfl) (by simp (disch := omega) only [go_sem, wrap_i64, ↓reduceIte, Nat.reduceEqDiff, Nat.reduceAdd, Nat.reduceSub, Nat.reduceMul, Nat.reduceLeDiff, reduceCtorEq, Int.reduceToNat, Int.reduceLE, Int.reduceLT, List.getElem?_map, hx, hy, hq, Nat.mul_one, Store.set_set]; rfl) ?_)
  (refine dR_S (by simp only [List.getElem?_toArray, List.getElem?_cons_zero, List.getElem?_cons_succ]; rfl) (by rfl) (by rfl) (by simp (disch := omega) only [go_sem, wrap_i64, ↓reduceIte, Nat.reduceEqDiff, Nat.reduceAdd, Nat.reduceSub, Nat.reduceMul, Nat.reduceLeDiff, reduceCtorEq, Int.reduceToNat, Int.reduceLE, Int.reduceLT, List.getElem?_map, hx, hy, hq, Nat.mul_one, Store.set_set]; rfl) ?_)
  (refine dR_S (by simp only [List.getElem?_toArray, List.getElem?_cons_zero, List.getElem?_cons_succ]; rfl) (by rfl) (by rfl) (by simp (disch := omega) only [go_sem, wrap_i64, ↓reduceIte, Nat.reduceEqDiff, Nat.reduceAdd, Nat.reduceSub, Nat.reduceMul, Nat.reduceLeDiff, reduceCtorEq, Int.reduceToNat, Int.reduceLE, Int.reduceLT, List.getElem?_map, hx, hy, hq, Nat.mul_one, Store.set_set]; rfl) ?_)
  (refine dR_S (by simp only [List.getElem?_toArray, List.getElem?_cons_zero, List.getElem?_cons_succ]; rfl) (by rfl) (by rfl) (by simp (disch := omega) only [go_sem, wrap_i64, ↓reduceIte, Nat.reduceEqDiff, Nat.reduceAdd, Nat.reduceSub, Nat.reduceMul, Nat.reduceLeDiff, reduceCtorEq, Int.reduceToNat, Int.reduceLE, Int.reduceLT, List.getElem?_map, hx, hy, hq, Nat.mul_one, Store.set_set]; rfl) ?_)
  (refine dR_S (by simp only [List.getElem?_toArray, List.getElem?_cons_zero, List.getElem?_cons_succ]; rfl) (by rfl) (by rfl) (by simp (disch := omega) only [go_sem, wrap_i64, ↓reduceIte, Nat.reduceEqDiff, Nat.reduceAdd, Nat.reduceSub, Nat.reduceMul, Nat.reduceLeDiff, reduceCtorEq, Int.reduceToNat, Int.reduceLE, Int.reduceLT, List.getElem?_map, hx, hy, hq, Nat.mul_one, Store.set_set]; rfl) ?_)
  (refine dR_S (by simp only [List.getElem?_toArray, List.getElem?_cons_zero, List.getElem?_cons_succ]; rfl) (by rfl) (by rfl) (by simp (disch := omega) only [go_sem, wrap_i64, ↓reduceIte, Nat.reduceEqDiff, Nat.reduceAdd, Nat.reduceSub, Nat.reduceMul, Nat.reduceLeDiff, reduceCtorEq, Int.reduceToNat, Int.reduceLE, Int.reduceLT, List.getElem?_map, hx, hy, hq, Nat.mul_one, Store.set_set]; rfl) ?_)
  (refine dR_S (by simp only [List.getElem?_toArray, List.getElem?_cons_zero, List.getElem?_cons_succ]; rfl) (by rfl) (by rfl) (by simp (disch := omega) only [go_sem, wrap_i64, ↓reduceIte, Nat.reduceEqDiff, Nat.reduceAdd, Nat.reduceSub, Nat.reduceMul, Nat.reduceLeDiff, reduceCtorEq, Int.reduceToNat, Int.reduceLE, Int.reduceLT, List.getElem?_map, hx, hy, hq, Nat.mul_one, Store.set_set]; rfl) ?_)
  refine dR_store (by simp only [List.getElem?_toArray, List.getElem?_cons_zero, List.getElem?_cons_succ]; rfl) (by rfl) (by rfl) (by rfl) (by simp (disch := omega) only [go_sem, wrap_i64, ↓reduceIte, Nat.reduceEqDiff, Nat.reduceAdd, Nat.reduceSub, Nat.reduceMul, Nat.reduceLeDiff, reduceCtorEq, Int.reduceToNat, Int.reduceLE, Int.reduceLT, List.getElem?_map, hx, hy, hq, Nat.mul_one, Store.set_set]; rfl) (by simp (disch := omega) only [go_sem, wrap_i64, ↓reduceIte, Nat.reduceEqDiff, Nat.reduceAdd, Nat.reduceSub, Nat.reduceMul, Nat.reduceLeDiff, reduceCtorEq, Int.reduceToNat, Int.reduceLE, Int.reduceLT, List.getElem?_map, hx, hy, hq, Nat.mul_one, Store.set_set]; rfl) (by first | (simp (disch := omega) only [go_sem, ↓reduceIte, Nat.reduceEqDiff, Nat.reduceAdd, Nat.reduceSub, Nat.reduceMul, Nat.reduceLeDiff, reduceCtorEq, Int.reduceToNat, Int.reduceLE, Int.reduceLT, List.getElem?_map, hx, hy, hq, Nat.mul_one, Store.set_set]; rfl) | simp (disch := omega) only [go_sem, ↓reduceIte, Nat.reduceEqDiff, Nat.reduceAdd, Nat.reduceSub, Nat.reduceMul, Nat.reduceLeDiff, reduceCtorEq, Int.reduceToNat, Int.reduceLE, Int.reduceLT, List.getElem?_map, hx, hy, hq, Nat.mul_one, Store.set_set]) (by simp only [go_sem]; rfl) rfl (by simp only [go_sem]; rfl) (by simp [AVal.one]) (by rfl) (by first | (simp; done) | (simp; omega) | omega) (aput_one (by first | (simp; done) | (simp; omega) | omega)) ?_
  (refine dR_S (by simp only [List.getElem?_toArray, List.getElem?_cons_zero, List.getElem?_cons_succ]; rfl) (by rfl) (by rfl) (by simp (disch := omega) only [go_sem, wrap_i64, ↓reduceIte, Nat.reduceEqDiff, Nat.reduceAdd, Nat.reduceSub, Nat.reduceMul, Nat.reduceLeDiff, reduceCtorEq, Int.reduceToNat, Int.reduceLE, Int.reduceLT, List.getElem?_map, hx, hy, hq, Nat.mul_one, Store.set_set]; rfl) ?_)
  refine dR_store (by simp only [List.getElem?_toArray, List.getElem?_cons_zero, List.getElem?_cons_succ]; rfl) (by rfl) (by rfl) (by rfl) (by simp (disch := omega) only [go_sem, wrap_i64, ↓reduceIte, Nat.reduceEqDiff, Nat.reduceAdd, Nat.reduceSub, Nat.reduceMul, Nat.reduceLeDiff, reduceCtorEq, Int.reduceToNat, Int.reduceLE, Int.reduceLT, List.getElem?_map, hx, hy, hq, Nat.mul_one, Store.set_set]; rfl) (by simp (disch := omega) only [go_sem, wrap_i64, ↓reduceIte, Nat.reduceEqDiff, Nat.reduceAdd, Nat.reduceSub, Nat.reduceMul, Nat.reduceLeDiff, reduceCtorEq, Int.reduceToNat, Int.reduceLE, Int.reduceLT, List.getElem?_map, hx, hy, hq, Nat.mul_one, Store.set_set]; rfl) (by first | (simp (disch := omega) only [go_sem, ↓reduceIte, Nat.reduceEqDiff, Nat.reduceAdd, Nat.reduceSub, Nat.reduceMul, Nat.reduceLeDiff, reduceCtorEq, Int.reduceToNat, Int.reduceLE, Int.reduceLT, List.getElem?_map, hx, hy, hq, Nat.mul_one, Store.set_set]; rfl) | simp (disch := omega) only [go_sem, ↓reduceIte, Nat.reduceEqDiff, Nat.reduceAdd, Nat.reduceSub, Nat.reduceMul, Nat.reduceLeDiff, reduceCtorEq, Int.reduceToNat, Int.reduceLE, Int.reduceLT, List.getElem?_map, hx, hy, hq, Nat.mul_one, Store.set_set]) (by simp only [go_sem]; rfl) rfl (by simp only [go_sem]; rfl) (by simp [AVal.one]) (by rfl) (by first | (simp; done) | (simp; omega) | omega) (aput_one (by first | (simp; done) | (simp; omega) | omega)) ?_
  refine dR_nil ?_
  simp only [Store.set_set, swapG_map hx hy]
  refine aEnd_nor (σ' := σ.set oq (shQ (swapG L i k))) (by simp (disch := omega) only [go_sem, wrap_i64, ↓reduceIte, Nat.reduceEqDiff, Nat.reduceAdd, Nat.reduceSub, Nat.reduceMul, Nat.reduceLeDiff, reduceCtorEq, Int.reduceToNat, Int.reduceLE, Int.reduceLT]; rfl) (by first | exact Store.Wk.refl _ | exact Store.Sub.refl _ | ((try dsimp only); (try simp (disch := assumption) only [Store.newTok_set, Store.newTok_step]); (first | refine subx_start ?_ | refine subx_startS ?_); (repeat (first | refine subx_skip (.head _) ?_ | refine subx_skip (.tail _ (.head _)) ?_ | refine subx_skip (.tail _ (.tail _ (.head _))) ?_ | refine subx_skip (.tail _ (.tail _ (.tail _ (.head _)))) ?_ | refine subx_left (by first | (simp (disch := omega) only [go_sem, ↓reduceIte, Nat.reduceEqDiff, Nat.reduceAdd, Nat.reduceSub, Nat.reduceMul, Nat.reduceLeDiff, reduceCtorEq, Int.reduceToNat, Int.reduceLE, Int.reduceLT]; rfl) | simp (disch := omega) only [go_sem, ↓reduceIte, Nat.reduceEqDiff, Nat.reduceAdd, Nat.reduceSub, Nat.reduceMul, Nat.reduceLeDiff, reduceCtorEq, Int.reduceToNat, Int.reduceLE, Int.reduceLT]) ?_)); (repeat (first | exact subx_refl | refine subx_in (.head _) ?_ | refine subx_in (.tail _ (.head _)) ?_ | refine subx_in (.tail _ (.tail _ (.head _))) ?_ | refine subx_in (.tail _ (.tail _ (.tail _ (.head _)))) ?_ | refine subx_new (by first | assumption | (simp only [Store.newTok_heap]; assumption)) ?_ | refine subx_tok ?_ | refine subx_newTok (by assumption) ?_)))) ?_
  exact ⟨rfl, rfl⟩

theorem cPush_nil {T e : Nat} {σ : Store} (hT : σ.heap T = some (.cells [.lit (.slice none 0 0)])) :
    ACalls Try.prog 108 [.ref T 0, .iface 99 (.ref e 0)] σ fun v σ' => v = .tup [] ∧ ∃ o', σ.heap o' = none ∧ σ' = (σ.set o' (.cells [.ref e 0])).set T (.cells [.msl o' 1 0 1]) := by
  refine ACalls_of Try.func108 rfl Try.ntmps108 (congrArg Array.toList Try.results108) (by simp only [List.length_cons, List.length_nil]; decide) ?_; simp only [envOf_cons, envOf_nil, Nat.reduceAdd]
  refine awp_seq ?_
  refine awp_region (by kernel_rfl) ?_
  (refine aL_S rfl rfl (by simp (disch := omega) only [go_sem, wrap_i64, ↓reduceIte, Nat.reduceEqDiff, Nat.reduceAdd, Nat.reduceSub, Nat.reduceMul, Nat.reduceLeDiff, reduceCtorEq, Int.reduceToNat, Int.reduceLE, Int.reduceLT, hT]; rfl) ?_)
  (refine aL_S rfl rfl (by simp (disch := omega) only [go_sem, wrap_i64, ↓reduceIte, Nat.reduceEqDiff, Nat.reduceAdd, Nat.reduceSub, Nat.reduceMul, Nat.reduceLeDiff, reduceCtorEq, Int.reduceToNat, Int.reduceLE, Int.reduceLT, hT]; rfl) ?_)
  (refine aL_S rfl rfl (by simp (disch := omega) only [go_sem, wrap_i64, ↓reduceIte, Nat.reduceEqDiff, Nat.reduceAdd, Nat.reduceSub, Nat.reduceMul, Nat.reduceLeDiff, reduceCtorEq, Int.reduceToNat, Int.reduceLE, Int.reduceLT, hT]; rfl) ?_)
  (refine aL_S rfl rfl (by simp (disch := omega) only [go_sem, wrap_i64, ↓reduceIte, Nat.reduceEqDiff, Nat.reduceAdd, Nat.reduceSub, Nat.reduceMul, Nat.reduceLeDiff, reduceCtorEq, Int.reduceToNat, Int.reduceLE, Int.reduceLT, hT]; rfl) ?_)
  (refine aL_S rfl rfl (by simp (disch := omega) only [go_sem, wrap_i64, ↓reduceIte, Nat.reduceEqDiff, Nat.reduceAdd, Nat.reduceSub, Nat.reduceMul, Nat.reduceLeDiff, reduceCtorEq, Int.reduceToNat, Int.reduceLE, Int.reduceLT, hT]; rfl) ?_)
  (refine aL_S rfl rfl (by simp (disch := omega) only [go_sem, wrap_i64, ↓reduceIte, Nat.reduceEqDiff, Nat.reduceAdd, Nat.reduceSub, Nat.reduceMul, Nat.reduceLeDiff, reduceCtorEq, Int.reduceToNat, Int.reduceLE, Int.reduceLT, hT]; rfl) ?_)
  (refine aL_S rfl rfl (by simp (disch := omega) only [go_sem, wrap_i64, ↓reduceIte, Nat.reduceEqDiff, Nat.reduceAdd, Nat.reduceSub, Nat.reduceMul, Nat.reduceLeDiff, reduceCtorEq, Int.reduceToNat, Int.reduceLE, Int.reduceLT, hT]; rfl) ?_)
  refine aL_nil ?_
  refine awp_seq ?_
  refine awp_region (by kernel_rfl) ?_
  (refine aL_S rfl rfl (by simp (disch := omega) only [go_sem, wrap_i64, ↓reduceIte, Nat.reduceEqDiff, Nat.reduceAdd, Nat.reduceSub, Nat.reduceMul, Nat.reduceLeDiff, reduceCtorEq, Int.reduceToNat, Int.reduceLE, Int.reduceLT, hT]; rfl) ?_)
  refine aL_nil ?_
  refine awp_cond (by simp (disch := omega) only [go_sem, wrap_i64, ↓reduceIte, Nat.reduceEqDiff, Nat.reduceAdd, Nat.reduceSub, Nat.reduceMul, Nat.reduceLeDiff, reduceCtorEq, Int.reduceToNat, Int.reduceLE, Int.reduceLT]; rfl) (fun hc1 => ?_) (fun hc1 => ?_)
  · (try simp only [decide_eq_true_eq, decide_eq_false_iff_not, Bool.not_eq_true', Bool.not_eq_false', Bool.and_eq_true, Bool.or_eq_true, Bool.and_eq_false_iff, Bool.or_eq_false_iff, Bool.not_eq_eq_eq_not, Bool.not_true, Bool.not_false, Int.not_le, Int.not_lt, beq_iff_eq] at hc1)
    refine awp_region (by kernel_rfl) ?_
    (refine aL_S rfl rfl (by simp (disch := omega) only [go_sem, wrap_i64, ↓reduceIte, Nat.reduceEqDiff, Nat.reduceAdd, Nat.reduceSub, Nat.reduceMul, Nat.reduceLeDiff, reduceCtorEq, Int.reduceToNat, Int.reduceLE, Int.reduceLT, hT]; rfl) ?_)
    (refine aL_S rfl rfl (by simp (disch := omega) only [go_sem, wrap_i64, ↓reduceIte, Nat.reduceEqDiff, Nat.reduceAdd, Nat.reduceSub, Nat.reduceMul, Nat.reduceLeDiff, reduceCtorEq, Int.reduceToNat, Int.reduceLE, Int.reduceLT, hT]; rfl) ?_)
    (refine aL_S rfl rfl (by simp (disch := omega) only [go_sem, wrap_i64, ↓reduceIte, Nat.reduceEqDiff, Nat.reduceAdd, Nat.reduceSub, Nat.reduceMul, Nat.reduceLeDiff, reduceCtorEq, Int.reduceToNat, Int.reduceLE, Int.reduceLT, hT]; rfl) ?_)
    (refine aL_S rfl rfl (by simp (disch := omega) only [go_sem, wrap_i64, ↓reduceIte, Nat.reduceEqDiff, Nat.reduceAdd, Nat.reduceSub, Nat.reduceMul, Nat.reduceLeDiff, reduceCtorEq, Int.reduceToNat, Int.reduceLE, Int.reduceLT, hT]; rfl) ?_)
    (refine aL_S rfl rfl (by simp (disch := omega) only [go_sem, wrap_i64, ↓reduceIte, Nat.reduceEqDiff, Nat.reduceAdd, Nat.reduceSub, Nat.reduceMul, Nat.reduceLeDiff, reduceCtorEq, Int.reduceToNat, Int.reduceLE, Int.reduceLT, hT]; rfl) ?_)
    refine aL_buildSlice rfl rfl rfl (by simp only [go_sem]; rfl) (by simp only [go_sem]; rfl) rfl rfl (by simp (disch := omega) only [go_sem, ↓reduceIte, Nat.reduceEqDiff, Nat.reduceAdd, Nat.reduceSub, Nat.reduceMul, Nat.reduceLeDiff, reduceCtorEq, Int.reduceToNat, Int.reduceLE, Int.reduceLT, hT]; rfl) (by simp [go_sem, AVal.one, AVal.cells, AVal.solid]) (by decide) ?_
    refine aL_X rfl rfl (AOp_appendM rfl (by simp only [go_sem]; rfl) (by simp only [go_sem]; rfl) (.inr ⟨(by first | (simp (disch := omega) only [go_sem, wrap_i64, ↓reduceIte, Nat.reduceEqDiff, Nat.reduceAdd, Nat.reduceSub, Nat.reduceMul, Nat.reduceLeDiff, reduceCtorEq, Int.reduceToNat, Int.reduceLE, Int.reduceLT, hT]; rfl) | (simp (disch := omega) only [go_sem, wrap_i64, ↓reduceIte, Nat.reduceEqDiff, Nat.reduceAdd, Nat.reduceSub, Nat.reduceMul, Nat.reduceLeDiff, reduceCtorEq, Int.reduceToNat, Int.reduceLE, Int.reduceLT, hT])), rfl, rfl, rfl⟩) (by simp (disch := omega) only [go_sem, wrap_i64, ↓reduceIte, Nat.reduceEqDiff, Nat.reduceAdd, Nat.reduceSub, Nat.reduceMul, Nat.reduceLeDiff, reduceCtorEq, Int.reduceToNat, Int.reduceLE, Int.reduceLT, hT]; rfl) (by simp) (by simp [AVal.one, AVal.cells]) (by simp) fun o18 ho18 => ?_)
    repeat (rw [none_set_iff] at ho18; obtain ⟨_, ho18⟩ := ho18)
    have hoT : T ≠ o18 := ne_of_heap hT ho18
    (refine aL_S rfl rfl (by simp (disch := omega) only [go_sem, wrap_i64, ↓reduceIte, Nat.reduceEqDiff, Nat.reduceAdd, Nat.reduceSub, Nat.reduceMul, Nat.reduceLeDiff, reduceCtorEq, Int.reduceToNat, Int.reduceLE, Int.reduceLT, hT]; rfl) ?_)
    refine aL_store rfl rfl rfl (by simp (disch := omega) only [go_sem, wrap_i64, ↓reduceIte, Nat.reduceEqDiff, Nat.reduceAdd, Nat.reduceSub, Nat.reduceMul, Nat.reduceLeDiff, reduceCtorEq, Int.reduceToNat, Int.reduceLE, Int.reduceLT, hT]; rfl) (by simp (disch := omega) only [go_sem, wrap_i64, ↓reduceIte, Nat.reduceEqDiff, Nat.reduceAdd, Nat.reduceSub, Nat.reduceMul, Nat.reduceLeDiff, reduceCtorEq, Int.reduceToNat, Int.reduceLE, Int.reduceLT, hT]; rfl) (by first | (simp (disch := omega) only [go_sem, ↓reduceIte, Nat.reduceEqDiff, Nat.reduceAdd, Nat.reduceSub, Nat.reduceMul, Nat.reduceLeDiff, reduceCtorEq, Int.reduceToNat, Int.reduceLE, Int.reduceLT, hT]; rfl) | simp (disch := omega) only [go_sem, ↓reduceIte, Nat.reduceEqDiff, Nat.reduceAdd, Nat.reduceSub, Nat.reduceMul, Nat.reduceLeDiff, reduceCtorEq, Int.reduceToNat, Int.reduceLE, Int.reduceLT, hT]) (by simp only [go_sem]; rfl) rfl (by simp only [go_sem]; rfl) (by simp [AVal.one]) (by rfl) (by first | (simp; done) | (simp; omega) | omega) (by simp (disch := omega) only [go_sem, wrap_i64, ↓reduceIte, Nat.reduceEqDiff, Nat.reduceAdd, Nat.reduceSub, Nat.reduceMul, Nat.reduceLeDiff, reduceCtorEq, Int.reduceToNat, Int.reduceLE, Int.reduceLT, hT]; rfl) ?_
    refine aL_nil ?_
    refine aEnd_nor (σ' := (σ.set o18 (.cells [.ref e 0])).set T (.cells [.msl o18 1 0 1])) (by simp (disch := omega) only [go_sem, wrap_i64, ↓reduceIte, Nat.reduceEqDiff, Nat.reduceAdd, Nat.reduceSub, Nat.reduceMul, Nat.reduceLeDiff, reduceCtorEq, Int.reduceToNat, Int.reduceLE, Int.reduceLT]; rfl) (by first | exact Store.Wk.refl _ | exact Store.Sub.refl _ | ((try dsimp only); (try simp (disch := assumption) only [Store.newTok_set, Store.newTok_step]); (first | refine subx_start ?_ | refine subx_startS ?_); (repeat (first | refine subx_skip (.head _) ?_ | refine subx_skip (.tail _ (.head _)) ?_ | refine subx_skip (.tail _ (.tail _ (.head _))) ?_ | refine subx_skip (.tail _ (.tail _ (.tail _ (.head _)))) ?_ | refine subx_left (by first | (simp (disch := omega) only [go_sem, ↓reduceIte, Nat.reduceEqDiff, Nat.reduceAdd, Nat.reduceSub, Nat.reduceMul, Nat.reduceLeDiff, reduceCtorEq, Int.reduceToNat, Int.reduceLE, Int.reduceLT]; rfl) | simp (disch := omega) only [go_sem, ↓reduceIte, Nat.reduceEqDiff, Nat.reduceAdd, Nat.reduceSub, Nat.reduceMul, Nat.reduceLeDiff, reduceCtorEq, Int.reduceToNat, Int.reduceLE, Int.reduceLT]) ?_)); (repeat (first | exact subx_refl | refine subx_in (.head _) ?_ | refine subx_in (.tail _ (.head _)) ?_ | refine subx_in (.tail _ (.tail _ (.head _))) ?_ | refine subx_in (.tail _ (.tail _ (.tail _ (.head _)))) ?_ | refine subx_new (by first | assumption | (simp only [Store.newTok_heap]; assumption)) ?_ | refine subx_tok ?_ | refine subx_newTok (by assumption) ?_)))) ?_
    exact ⟨rfl, o18, ho18, rfl⟩
  · (try simp only [decide_eq_true_eq, decide_eq_false_iff_not, Bool.not_eq_true', Bool.not_eq_false', Bool.and_eq_true, Bool.or_eq_true, Bool.and_eq_false_iff, Bool.or_eq_false_iff, Bool.not_eq_eq_eq_not, Bool.not_true, Bool.not_false, Int.not_le, Int.not_lt, beq_iff_eq] at hc1)
    cases hc1
theorem cPush_c {T e oq : Nat} {L : List Sh} {σ : Store} (hT : σ.heap T = some (.cells [.msl oq 1 0 L.length])) (hq : σ.heap oq = some (shQ L)) (hTq : T ≠ oq) (hL : L.length ≤ 1000) :
    ACalls Try.prog 108 [.ref T 0, .iface 99 (.ref e 0)] σ fun v σ' => v = .tup [] ∧ ∃ o', σ.heap o' = none ∧ σ' = ((σ.del oq).set o' (.cells ((L.map fun x => AVal.ref x.o 0) ++ [.ref e 0]))).set T (.cells [.msl o' 1 0 (L.length + 1)]) := by
  refine ACalls_of Try.func108 rfl Try.ntmps108 (congrArg Array.toList Try.results108) (by simp only [List.length_cons, List.length_nil]; decide) ?_; simp only [envOf_cons, envOf_nil, Nat.reduceAdd]
  refine awp_seq ?_
  refine awp_region (by kernel_rfl) ?_
  (refine aL_S rfl rfl (by simp (disch := omega) only [go_sem, wrap_i64, ↓reduceIte, Nat.reduceEqDiff, Nat.reduceAdd, Nat.reduceSub, Nat.reduceMul, Nat.reduceLeDiff, reduceCtorEq, Int.reduceToNat, Int.reduceLE, Int.reduceLT, hT, hq]; rfl) ?_)
  (refine aL_S rfl rfl (by simp (disch := omega) only [go_sem, wrap_i64, ↓reduceIte, Nat.reduceEqDiff, Nat.reduceAdd, Nat.reduceSub, Nat.reduceMul, Nat.reduceLeDiff, reduceCtorEq, Int.reduceToNat, Int.reduceLE, Int.reduceLT, hT, hq]; rfl) ?_)
  (refine aL_S rfl rfl (by simp (disch := omega) only [go_sem, wrap_i64, ↓reduceIte, Nat.reduceEqDiff, Nat.reduceAdd, Nat.reduceSub, Nat.reduceMul, Nat.reduceLeDiff, reduceCtorEq, Int.reduceToNat, Int.reduceLE, Int.reduceLT, hT, hq]; rfl) ?_)
  (refine aL_S rfl rfl (by simp (disch := omega) only [go_sem, wrap_i64, ↓reduceIte, Nat.reduceEqDiff, Nat.reduceAdd, Nat.reduceSub, Nat.reduceMul, Nat.reduceLeDiff, reduceCtorEq, Int.reduceToNat, Int.reduceLE, Int.reduceLT, hT, hq]; rfl) ?_)
  (refine aL_S rfl rfl (by simp (disch := omega) only [go_sem, wrap_i64, ↓reduceIte, Nat.reduceEqDiff, Nat.reduceAdd, Nat.reduceSub, Nat.reduceMul, Nat.reduceLeDiff, reduceCtorEq, Int.reduceToNat, Int.reduceLE, Int.reduceLT, hT, hq]; rfl) ?_)
  (refine aL_S rfl rfl (by simp (disch := omega) only [go_sem, wrap_i64, ↓reduceIte, Nat.reduceEqDiff, Nat.reduceAdd, Nat.reduceSub, Nat.reduceMul, Nat.reduceLeDiff, reduceCtorEq, Int.reduceToNat, Int.reduceLE, Int.reduceLT, hT, hq]; rfl) ?_)
  (refine aL_S rfl rfl (by simp (disch := omega) only [go_sem, wrap_i64, ↓reduceIte, Nat.reduceEqDiff, Nat.reduceAdd, Nat.reduceSub, Nat.reduceMul, Nat.reduceLeDiff, reduceCtorEq, Int.reduceToNat, Int.reduceLE, Int.reduceLT, hT, hq]; rfl) ?_)
  refine aL_nil ?_
  refine awp_seq ?_
  refine awp_region (by kernel_rfl) ?_
  (refine aL_S rfl rfl (by simp (disch := omega) only [go_sem, wrap_i64, ↓reduceIte, Nat.reduceEqDiff, Nat.reduceAdd, Nat.reduceSub, Nat.reduceMul, Nat.reduceLeDiff, reduceCtorEq, Int.reduceToNat, Int.reduceLE, Int.reduceLT, hT, hq]; rfl) ?_)
  refine aL_nil ?_
  refine awp_cond (by simp (disch := omega) only [go_sem, wrap_i64, ↓reduceIte, Nat.reduceEqDiff, Nat.reduceAdd, Nat.reduceSub, Nat.reduceMul, Nat.reduceLeDiff, reduceCtorEq, Int.reduceToNat, Int.reduceLE, Int.reduceLT]; rfl) (fun hc1 => ?_) (fun hc1 => ?_)
  · (try simp only [decide_eq_true_eq, decide_eq_false_iff_not, Bool.not_eq_true', Bool.not_eq_false', Bool.and_eq_true, Bool.or_eq_true, Bool.and_eq_false_iff, Bool.or_eq_false_iff, Bool.not_eq_eq_eq_not, Bool.not_true, Bool.not_false, Int.not_le, Int.not_lt, beq_iff_eq] at hc1)
    refine awp_region (by kernel_rfl) ?_
    (refine aL_S rfl rfl (by simp (disch := omega) only [go_sem, wrap_i64, ↓reduceIte, Nat.reduceEqDiff, Nat.reduceAdd, Nat.reduceSub, Nat.reduceMul, Nat.reduceLeDiff, reduceCtorEq, Int.reduceToNat, Int.reduceLE, Int.reduceLT, hT, hq]; rfl) ?_)
    (refine aL_S rfl rfl (by simp (disch := omega) only [go_sem, wrap_i64, ↓reduceIte, Nat.reduceEqDiff, Nat.reduceAdd, Nat.reduceSub, Nat.reduceMul, Nat.reduceLeDiff, reduceCtorEq, Int.reduceToNat, Int.reduceLE, Int.reduceLT, hT, hq]; rfl) ?_)
    (refine aL_S rfl rfl (by simp (disch := omega) only [go_sem, wrap_i64, ↓reduceIte, Nat.reduceEqDiff, Nat.reduceAdd, Nat.reduceSub, Nat.reduceMul, Nat.reduceLeDiff, reduceCtorEq, Int.reduceToNat, Int.reduceLE, Int.reduceLT, hT, hq]; rfl) ?_)
    (refine aL_S rfl rfl (by simp (disch := omega) only [go_sem, wrap_i64, ↓reduceIte, Nat.reduceEqDiff, Nat.reduceAdd, Nat.reduceSub, Nat.reduceMul, Nat.reduceLeDiff, reduceCtorEq, Int.reduceToNat, Int.reduceLE, Int.reduceLT, hT, hq]; rfl) ?_)
    (refine aL_S rfl rfl (by simp (disch := omega) only [go_sem, wrap_i64, ↓reduceIte, Nat.reduceEqDiff, Nat.reduceAdd, Nat.reduceSub, Nat.reduceMul, Nat.reduceLeDiff, reduceCtorEq, Int.reduceToNat, Int.reduceLE, Int.reduceLT, hT, hq]; rfl) ?_)
    refine aL_buildSlice rfl rfl rfl (by simp only [go_sem]; rfl) (by simp only [go_sem]; rfl) rfl rfl (by simp (disch := omega) only [go_sem, ↓reduceIte, Nat.reduceEqDiff, Nat.reduceAdd, Nat.reduceSub, Nat.reduceMul, Nat.reduceLeDiff, reduceCtorEq, Int.reduceToNat, Int.reduceLE, Int.reduceLT, hT, hq]; rfl) (by simp [go_sem, AVal.one, AVal.cells, AVal.solid]) (by decide) ?_
    refine aL_X rfl rfl (AOp_appendM rfl (by simp only [go_sem]; rfl) (by simp only [go_sem]; rfl) (.inl ⟨_, _, (by simp (disch := omega) only [go_sem, wrap_i64, ↓reduceIte, Nat.reduceEqDiff, Nat.reduceAdd, Nat.reduceSub, Nat.reduceMul, Nat.reduceLeDiff, reduceCtorEq, Int.reduceToNat, Int.reduceLE, Int.reduceLT, hT, hq]; rfl), (by first | (simp (disch := omega) only [go_sem, ↓reduceIte, Nat.reduceEqDiff, Nat.reduceAdd, Nat.reduceSub, Nat.reduceMul, Nat.reduceLeDiff, reduceCtorEq, Int.reduceToNat, Int.reduceLE, Int.reduceLT, hT, hq]; rfl) | simp (disch := omega) only [go_sem, ↓reduceIte, Nat.reduceEqDiff, Nat.reduceAdd, Nat.reduceSub, Nat.reduceMul, Nat.reduceLeDiff, reduceCtorEq, Int.reduceToNat, Int.reduceLE, Int.reduceLT, hT, hq]), rfl, rfl, by first | (simp; done) | (simp; omega)⟩) (by simp (disch := omega) only [go_sem, wrap_i64, ↓reduceIte, Nat.reduceEqDiff, Nat.reduceAdd, Nat.reduceSub, Nat.reduceMul, Nat.reduceLeDiff, reduceCtorEq, Int.reduceToNat, Int.reduceLE, Int.reduceLT, hT, hq]; rfl) (by simp) (by simp [AVal.one, AVal.cells]) (by simp; omega) fun o18 ho18 => ?_)
    repeat (rw [none_set_iff] at ho18; obtain ⟨_, ho18⟩ := ho18)
    have hoT : T ≠ o18 := ne_of_heap hT ho18
    have hst : List.take (L.length * 1) (L.map fun x => AVal.ref x.o 0) ++ flat [AVal.ref e 0] = (L.map fun x => AVal.ref x.o 0) ++ [.ref e 0] := by simp [flat, AVal.cells, List.take_of_length_le]
    rw [hst]
    simp only [Store.delO]
    (refine aL_S rfl rfl (by simp (disch := omega) only [go_sem, wrap_i64, ↓reduceIte, Nat.reduceEqDiff, Nat.reduceAdd, Nat.reduceSub, Nat.reduceMul, Nat.reduceLeDiff, reduceCtorEq, Int.reduceToNat, Int.reduceLE, Int.reduceLT, hT, hq]; rfl) ?_)
    refine aL_store rfl rfl rfl (by simp (disch := omega) only [go_sem, wrap_i64, ↓reduceIte, Nat.reduceEqDiff, Nat.reduceAdd, Nat.reduceSub, Nat.reduceMul, Nat.reduceLeDiff, reduceCtorEq, Int.reduceToNat, Int.reduceLE, Int.reduceLT, hT, hq]; rfl) (by simp (disch := omega) only [go_sem, wrap_i64, ↓reduceIte, Nat.reduceEqDiff, Nat.reduceAdd, Nat.reduceSub, Nat.reduceMul, Nat.reduceLeDiff, reduceCtorEq, Int.reduceToNat, Int.reduceLE, Int.reduceLT, hT, hq]; rfl) (by first | (simp (disch := omega) only [go_sem, ↓reduceIte, Nat.reduceEqDiff, Nat.reduceAdd, Nat.reduceSub, Nat.reduceMul, Nat.reduceLeDiff, reduceCtorEq, Int.reduceToNat, Int.reduceLE, Int.reduceLT, hT, hq]; rfl) | simp (disch := omega) only [go_sem, ↓reduceIte, Nat.reduceEqDiff, Nat.reduceAdd, Nat.reduceSub, Nat.reduceMul, Nat.reduceLeDiff, reduceCtorEq, Int.reduceToNat, Int.reduceLE, Int.reduceLT, hT, hq]) (by simp only [go_sem]; rfl) rfl (by simp only [go_sem]; rfl) (by simp [AVal.one]) (by rfl) (by first | (simp; done) | (simp; omega) | omega) (by simp (disch := omega) only [go_sem, wrap_i64, ↓reduceIte, Nat.reduceEqDiff, Nat.reduceAdd, Nat.reduceSub, Nat.reduceMul, Nat.reduceLeDiff, reduceCtorEq, Int.reduceToNat, Int.reduceLE, Int.reduceLT, hT, hq]; rfl) ?_
    refine aL_nil ?_
    refine aEnd_nor (σ' := ((σ.del oq).set o18 (.cells ((L.map fun x => AVal.ref x.o 0) ++ [.ref e 0]))).set T (.cells [.msl o18 1 0 (L.length + 1)])) (by simp (disch := omega) only [go_sem, wrap_i64, ↓reduceIte, Nat.reduceEqDiff, Nat.reduceAdd, Nat.reduceSub, Nat.reduceMul, Nat.reduceLeDiff, reduceCtorEq, Int.reduceToNat, Int.reduceLE, Int.reduceLT]; rfl) (by first | exact Store.Wk.refl _ | exact Store.Sub.refl _ | ((try dsimp only); (try simp (disch := assumption) only [Store.newTok_set, Store.newTok_step]); (first | refine subx_start ?_ | refine subx_startS ?_); (repeat (first | refine subx_skip (.head _) ?_ | refine subx_skip (.tail _ (.head _)) ?_ | refine subx_skip (.tail _ (.tail _ (.head _))) ?_ | refine subx_skip (.tail _ (.tail _ (.tail _ (.head _)))) ?_ | refine subx_left (by first | (simp (disch := omega) only [go_sem, ↓reduceIte, Nat.reduceEqDiff, Nat.reduceAdd, Nat.reduceSub, Nat.reduceMul, Nat.reduceLeDiff, reduceCtorEq, Int.reduceToNat, Int.reduceLE, Int.reduceLT]; rfl) | simp (disch := omega) only [go_sem, ↓reduceIte, Nat.reduceEqDiff, Nat.reduceAdd, Nat.reduceSub, Nat.reduceMul, Nat.reduceLeDiff, reduceCtorEq, Int.reduceToNat, Int.reduceLE, Int.reduceLT]) ?_)); (repeat (first | exact subx_refl | refine subx_in (.head _) ?_ | refine subx_in (.tail _ (.head _)) ?_ | refine subx_in (.tail _ (.tail _ (.head _))) ?_ | refine subx_in (.tail _ (.tail _ (.tail _ (.head _)))) ?_ | refine subx_new (by first | assumption | (simp only [Store.newTok_heap]; assumption)) ?_ | refine subx_tok ?_ | refine subx_newTok (by assumption) ?_)))) ?_
    exact ⟨rfl, o18, ho18, rfl⟩
  · (try simp only [decide_eq_true_eq, decide_eq_false_iff_not, Bool.not_eq_true', Bool.not_eq_false', Bool.and_eq_true, Bool.or_eq_true, Bool.and_eq_false_iff, Bool.or_eq_false_iff, Bool.not_eq_eq_eq_not, Bool.not_true, Bool.not_false, Int.not_le, Int.not_lt, beq_iff_eq] at hc1)
    cases hc1
theorem cPop_c {T oq : Nat} {x : Sh} {L : List Sh} {σ : Store} (hT : σ.heap T = some (.cells [.msl oq 1 0 (L.length + 1)])) (hq : σ.heap oq = some (shQ (L ++ [x]))) (hTq : T ≠ oq) (hL : L.length ≤ 1000) :
    ACalls Try.prog 107 [.ref T 0] σ fun v σ' => v = .iface 99 (.ref x.o 0) ∧ σ' = (σ.set T (.cells [.msl oq 1 0 L.length])).set oq (shQ L) := by
  have hx : ((L.map fun x => AVal.ref x.o 0) ++ [AVal.ref x.o 0])[L.length]? = some (.ref x.o 0) := by simp
  have hle : ((L.length + 1 : Nat) : Int) - 1 = ((L.length : Nat) : Int) := by omega
  refine ACalls_of Try.func107 rfl Try.ntmps107 (congrArg Array.toList Try.results107) (by simp only [List.length_cons, List.length_nil]; decide) ?_; simp only [envOf_cons, envOf_nil, Nat.reduceAdd]
  refine awp_seq ?_
  refine awp_region (by kernel_rfl) ?_
  (refine aL_S rfl rfl (by simp (disch := omega) only [go_sem, wrap_i64, ↓reduceIte, Nat.reduceEqDiff, Nat.reduceAdd, Nat.reduceSub, Nat.reduceMul, Nat.reduceLeDiff, reduceCtorEq, Int.reduceToNat, Int.reduceLE, Int.reduceLT, hT, hq, hx, hle, Nat.mul_one, hTq, Ne.symm hTq, ne_eq, not_false_eq_true, Store.set_ne]; rfl) ?_)
  refine aL_nil ?_
  refine awp_seq ?_
  refine awp_region (by kernel_rfl) ?_
  (refine aL_S rfl rfl (by simp (disch := omega) only [go_sem, wrap_i64, ↓reduceIte, Nat.reduceEqDiff, Nat.reduceAdd, Nat.reduceSub, Nat.reduceMul, Nat.reduceLeDiff, reduceCtorEq, Int.reduceToNat, Int.reduceLE, Int.reduceLT, hT, hq, hx, hle, Nat.mul_one, hTq, Ne.symm hTq, ne_eq, not_false_eq_true, Store.set_ne]; rfl) ?_)
  (refine aL_S rfl rfl (by simp (disch := omega) only [go_sem, wrap_i64, ↓reduceIte, Nat.reduceEqDiff, Nat.reduceAdd, Nat.reduceSub, Nat.reduceMul, Nat.reduceLeDiff, reduceCtorEq, Int.reduceToNat, Int.reduceLE, Int.reduceLT, hT, hq, hx, hle, Nat.mul_one, hTq, Ne.symm hTq, ne_eq, not_false_eq_true, Store.set_ne]; rfl) ?_)
  (refine aL_S rfl rfl (by simp (disch := omega) only [go_sem, wrap_i64, ↓reduceIte, Nat.reduceEqDiff, Nat.reduceAdd, Nat.reduceSub, Nat.reduceMul, Nat.reduceLeDiff, reduceCtorEq, Int.reduceToNat, Int.reduceLE, Int.reduceLT, hT, hq, hx, hle, Nat.mul_one, hTq, Ne.symm hTq, ne_eq, not_false_eq_true, Store.set_ne]; rfl) ?_)
  (refine aL_S rfl rfl (by simp (disch := omega) only [go_sem, wrap_i64, ↓reduceIte, Nat.reduceEqDiff, Nat.reduceAdd, Nat.reduceSub, Nat.reduceMul, Nat.reduceLeDiff, reduceCtorEq, Int.reduceToNat, Int.reduceLE, Int.reduceLT, hT, hq, hx, hle, Nat.mul_one, hTq, Ne.symm hTq, ne_eq, not_false_eq_true, Store.set_ne]; rfl) ?_)
  (refine aL_S rfl rfl (by simp (disch := omega) only [go_sem, wrap_i64, ↓reduceIte, Nat.reduceEqDiff, Nat.reduceAdd, Nat.reduceSub, Nat.reduceMul, Nat.reduceLeDiff, reduceCtorEq, Int.reduceToNat, Int.reduceLE, Int.reduceLT, hT, hq, hx, hle, Nat.mul_one, hTq, Ne.symm hTq, ne_eq, not_false_eq_true, Store.set_ne]; rfl) ?_)
  (refine aL_S rfl rfl (by simp (disch := omega) only [go_sem, wrap_i64, ↓reduceIte, Nat.reduceEqDiff, Nat.reduceAdd, Nat.reduceSub, Nat.reduceMul, Nat.reduceLeDiff, reduceCtorEq, Int.reduceToNat, Int.reduceLE, Int.reduceLT, hT, hq, hx, hle, Nat.mul_one, hTq, Ne.symm hTq, ne_eq, not_false_eq_true, Store.set_ne]; rfl) ?_)
  refine aL_nil ?_
  refine awp_seq ?_
  refine awp_region (by kernel_rfl) ?_
  (refine aL_S rfl rfl (by simp (disch := omega) only [go_sem, wrap_i64, ↓reduceIte, Nat.reduceEqDiff, Nat.reduceAdd, Nat.reduceSub, Nat.reduceMul, Nat.reduceLeDiff, reduceCtorEq, Int.reduceToNat, Int.reduceLE, Int.reduceLT, hT, hq, hx, hle, Nat.mul_one, hTq, Ne.symm hTq, ne_eq, not_false_eq_true, Store.set_ne]; rfl) ?_)
  (refine aL_S rfl rfl (by simp (disch := omega) only [go_sem, wrap_i64, ↓reduceIte, Nat.reduceEqDiff, Nat.reduceAdd, Nat.reduceSub, Nat.reduceMul, Nat.reduceLeDiff, reduceCtorEq, Int.reduceToNat, Int.reduceLE, Int.reduceLT, hT, hq, hx, hle, Nat.mul_one, hTq, Ne.symm hTq, ne_eq, not_false_eq_true, Store.set_ne]; rfl) ?_)
  (refine aL_S rfl rfl (by simp (disch := omega) only [go_sem, wrap_i64, ↓reduceIte, Nat.reduceEqDiff, Nat.reduceAdd, Nat.reduceSub, Nat.reduceMul, Nat.reduceLeDiff, reduceCtorEq, Int.reduceToNat, Int.reduceLE, Int.reduceLT, hT, hq, hx, hle, Nat.mul_one, hTq, Ne.symm hTq, ne_eq, not_false_eq_true, Store.set_ne]; rfl) ?_)
  (refine aL_S rfl rfl (by simp (disch := omega) only [go_sem, wrap_i64, ↓reduceIte, Nat.reduceEqDiff, Nat.reduceAdd, Nat.reduceSub, Nat.reduceMul, Nat.reduceLeDiff, reduceCtorEq, Int.reduceToNat, Int.reduceLE, Int.reduceLT, hT, hq, hx, hle, Nat.mul_one, hTq, Ne.symm hTq, ne_eq, not_false_eq_true, Store.set_ne]; rfl) ?_)
  (refine aL_S rfl rfl (by simp (disch := omega) only [go_sem, wrap_i64, ↓reduceIte, Nat.reduceEqDiff, Nat.reduceAdd, Nat.reduceSub, Nat.reduceMul, Nat.reduceLeDiff, reduceCtorEq, Int.reduceToNat, Int.reduceLE, Int.reduceLT, hT, hq, hx, hle, Nat.mul_one, hTq, Ne.symm hTq, ne_eq, not_false_eq_true, Store.set_ne]; rfl) ?_)
  (refine aL_S rfl rfl (by simp (disch := omega) only [go_sem, wrap_i64, ↓reduceIte, Nat.reduceEqDiff, Nat.reduceAdd, Nat.reduceSub, Nat.reduceMul, Nat.reduceLeDiff, reduceCtorEq, Int.reduceToNat, Int.reduceLE, Int.reduceLT, hT, hq, hx, hle, Nat.mul_one, hTq, Ne.symm hTq, ne_eq, not_false_eq_true, Store.set_ne]; rfl) ?_)
  (refine aL_S rfl rfl (by simp (disch := omega) only [go_sem, wrap_i64, ↓reduceIte, Nat.reduceEqDiff, Nat.reduceAdd, Nat.reduceSub, Nat.reduceMul, Nat.reduceLeDiff, reduceCtorEq, Int.reduceToNat, Int.reduceLE, Int.reduceLT, hT, hq, hx, hle, Nat.mul_one, hTq, Ne.symm hTq, ne_eq, not_false_eq_true, Store.set_ne]; rfl) ?_)
  refine aL_nil ?_
  refine awp_seq ?_
  refine awp_region (by kernel_rfl) ?_
  (refine aL_S rfl rfl (by simp (disch := omega) only [go_sem, wrap_i64, ↓reduceIte, Nat.reduceEqDiff, Nat.reduceAdd, Nat.reduceSub, Nat.reduceMul, Nat.reduceLeDiff, reduceCtorEq, Int.reduceToNat, Int.reduceLE, Int.reduceLT, hT, hq, hx, hle, Nat.mul_one, hTq, Ne.symm hTq, ne_eq, not_false_eq_true, Store.set_ne]; rfl) ?_)
  (refine aL_S rfl rfl (by simp (disch := omega) only [go_sem, wrap_i64, ↓reduceIte, Nat.reduceEqDiff, Nat.reduceAdd, Nat.reduceSub, Nat.reduceMul, Nat.reduceLeDiff, reduceCtorEq, Int.reduceToNat, Int.reduceLE, Int.reduceLT, hT, hq, hx, hle, Nat.mul_one, hTq, Ne.symm hTq, ne_eq, not_false_eq_true, Store.set_ne]; rfl) ?_)
  (refine aL_S rfl rfl (by simp (disch := omega) only [go_sem, wrap_i64, ↓reduceIte, Nat.reduceEqDiff, Nat.reduceAdd, Nat.reduceSub, Nat.reduceMul, Nat.reduceLeDiff, reduceCtorEq, Int.reduceToNat, Int.reduceLE, Int.reduceLT, hT, hq, hx, hle, Nat.mul_one, hTq, Ne.symm hTq, ne_eq, not_false_eq_true, Store.set_ne]; rfl) ?_)
  (refine aL_S rfl rfl (by simp (disch := omega) only [go_sem, wrap_i64, ↓reduceIte, Nat.reduceEqDiff, Nat.reduceAdd, Nat.reduceSub, Nat.reduceMul, Nat.reduceLeDiff, reduceCtorEq, Int.reduceToNat, Int.reduceLE, Int.reduceLT, hT, hq, hx, hle, Nat.mul_one, hTq, Ne.symm hTq, ne_eq, not_false_eq_true, Store.set_ne]; rfl) ?_)
  (refine aL_S rfl rfl (by simp (disch := omega) only [go_sem, wrap_i64, ↓reduceIte, Nat.reduceEqDiff, Nat.reduceAdd, Nat.reduceSub, Nat.reduceMul, Nat.reduceLeDiff, reduceCtorEq, Int.reduceToNat, Int.reduceLE, Int.reduceLT, hT, hq, hx, hle, Nat.mul_one, hTq, Ne.symm hTq, ne_eq, not_false_eq_true, Store.set_ne]; rfl) ?_)
  (refine aL_S rfl rfl (by simp (disch := omega) only [go_sem, wrap_i64, ↓reduceIte, Nat.reduceEqDiff, Nat.reduceAdd, Nat.reduceSub, Nat.reduceMul, Nat.reduceLeDiff, reduceCtorEq, Int.reduceToNat, Int.reduceLE, Int.reduceLT, hT, hq, hx, hle, Nat.mul_one, hTq, Ne.symm hTq, ne_eq, not_false_eq_true, Store.set_ne]; rfl) ?_)
  (refine aL_S rfl rfl (by simp (disch := omega) only [go_sem, wrap_i64, ↓reduceIte, Nat.reduceEqDiff, Nat.reduceAdd, Nat.reduceSub, Nat.reduceMul, Nat.reduceLeDiff, reduceCtorEq, Int.reduceToNat, Int.reduceLE, Int.reduceLT, hT, hq, hx, hle, Nat.mul_one, hTq, Ne.symm hTq, ne_eq, not_false_eq_true, Store.set_ne]; rfl) ?_)
  refine aL_store rfl rfl rfl (by simp (disch := omega) only [go_sem, wrap_i64, ↓reduceIte, Nat.reduceEqDiff, Nat.reduceAdd, Nat.reduceSub, Nat.reduceMul, Nat.reduceLeDiff, reduceCtorEq, Int.reduceToNat, Int.reduceLE, Int.reduceLT, hT, hq, hx, hle, Nat.mul_one, hTq, Ne.symm hTq, ne_eq, not_false_eq_true, Store.set_ne]; rfl) (by simp (disch := omega) only [go_sem, wrap_i64, ↓reduceIte, Nat.reduceEqDiff, Nat.reduceAdd, Nat.reduceSub, Nat.reduceMul, Nat.reduceLeDiff, reduceCtorEq, Int.reduceToNat, Int.reduceLE, Int.reduceLT, hT, hq, hx, hle, Nat.mul_one, hTq, Ne.symm hTq, ne_eq, not_false_eq_true, Store.set_ne]; rfl) (by first | (simp (disch := omega) only [go_sem, ↓reduceIte, Nat.reduceEqDiff, Nat.reduceAdd, Nat.reduceSub, Nat.reduceMul, Nat.reduceLeDiff, reduceCtorEq, Int.reduceToNat, Int.reduceLE, Int.reduceLT, hT, hq, hx, hle, Nat.mul_one, hTq, Ne.symm hTq, ne_eq, not_false_eq_true, Store.set_ne]; rfl) | simp (disch := omega) only [go_sem, ↓reduceIte, Nat.reduceEqDiff, Nat.reduceAdd, Nat.reduceSub, Nat.reduceMul, Nat.reduceLeDiff, reduceCtorEq, Int.reduceToNat, Int.reduceLE, Int.reduceLT, hT, hq, hx, hle, Nat.mul_one, hTq, Ne.symm hTq, ne_eq, not_false_eq_true, Store.set_ne]) (by simp only [go_sem]; rfl) rfl (by simp only [go_sem]; rfl) (by simp [AVal.one]) (by rfl) (by first | (simp; done) | (simp; omega) | omega) (by simp (disch := omega) only [go_sem, wrap_i64, ↓reduceIte, Nat.reduceEqDiff, Nat.reduceAdd, Nat.reduceSub, Nat.reduceMul, Nat.reduceLeDiff, reduceCtorEq, Int.reduceToNat, Int.reduceLE, Int.reduceLT, hT, hq, hx, hle, Nat.mul_one, hTq, Ne.symm hTq, ne_eq, not_false_eq_true, Store.set_ne]; rfl) ?_
  refine aL_nil ?_
  refine awp_seq ?_
  refine awp_region (by kernel_rfl) ?_
  (refine aL_S rfl rfl (by simp (disch := omega) only [go_sem, wrap_i64, ↓reduceIte, Nat.reduceEqDiff, Nat.reduceAdd, Nat.reduceSub, Nat.reduceMul, Nat.reduceLeDiff, reduceCtorEq, Int.reduceToNat, Int.reduceLE, Int.reduceLT, hT, hq, hx, hle, Nat.mul_one, hTq, Ne.symm hTq, ne_eq, not_false_eq_true, Store.set_ne]; rfl) ?_)
  (refine aL_S rfl rfl (by simp (disch := omega) only [go_sem, wrap_i64, ↓reduceIte, Nat.reduceEqDiff, Nat.reduceAdd, Nat.reduceSub, Nat.reduceMul, Nat.reduceLeDiff, reduceCtorEq, Int.reduceToNat, Int.reduceLE, Int.reduceLT, hT, hq, hx, hle, Nat.mul_one, hTq, Ne.symm hTq, ne_eq, not_false_eq_true, Store.set_ne]; rfl) ?_)
  (refine aL_S rfl rfl (by simp (disch := omega) only [go_sem, wrap_i64, ↓reduceIte, Nat.reduceEqDiff, Nat.reduceAdd, Nat.reduceSub, Nat.reduceMul, Nat.reduceLeDiff, reduceCtorEq, Int.reduceToNat, Int.reduceLE, Int.reduceLT, hT, hq, hx, hle, Nat.mul_one, hTq, Ne.symm hTq, ne_eq, not_false_eq_true, Store.set_ne]; rfl) ?_)
  refine aL_nil ?_
  refine awp_ret ?_
  refine aEnd_ret (σ' := (σ.set T (.cells [.msl oq 1 0 L.length])).set oq (shQ L)) (by first | (simp (disch := omega) only [go_sem, wrap_i64, ↓reduceIte, Nat.reduceEqDiff, Nat.reduceAdd, Nat.reduceSub, Nat.reduceMul, Nat.reduceLeDiff, reduceCtorEq, Int.reduceToNat, Int.reduceLE, Int.reduceLT]; rfl) | (simp (disch := omega) only [go_sem, wrap_i64, ↓reduceIte, Nat.reduceEqDiff, Nat.reduceAdd, Nat.reduceSub, Nat.reduceMul, Nat.reduceLeDiff, reduceCtorEq, Int.reduceToNat, Int.reduceLE, Int.reduceLT])) ?_ ⟨rfl, rfl⟩
  have h1 := Store.wkTake (τ := σ.set T (.cells [.msl oq 1 0 L.length])) (o := oq) (n := L.length) (cs := (L ++ [x]).map fun x => AVal.ref x.o 0) (by rw [Store.set_ne _ _ (Ne.symm hTq)]; exact hq)
  rw [show ((L ++ [x]).map fun x => AVal.ref x.o 0).take L.length = L.map fun x => AVal.ref x.o 0 by simp] at h1
  exact h1

structure CQ (σ : Store) (T : Nat) (L : List Sh) (S : List Nat) : Prop where
  t : ∃ qv, σ.heap T = some (.cells [qv]) ∧ ((qv = .lit (.slice none 0 0) ∧ L = []) ∨ ∃ oq, oq ∈ S ∧ qv = .msl oq 1 0 L.length ∧ σ.heap oq = some (shQ L))
  e : ∀ x ∈ L, σ.heap x.o = some (shC x)
  ts : T ∈ S
  len : L.length ≤ 1000
theorem ne_cq {σ : Store} {T oq n : Nat} {L : List Sh} (hT : σ.heap T = some (.cells [.msl oq 1 0 n])) (hq : σ.heap oq = some (shQ L)) : T ≠ oq := by
  intro h
  rw [← h, hT] at hq
  cases L with
  | nil => simp [shQ] at hq
  | cons a l => simp [shQ] at hq
theorem ne_ct {σ : Store} {T : Nat} {a : AVal} {x : Sh} (hT : σ.heap T = some (.cells [a])) (hx : σ.heap x.o = some (shC x)) : x.o ≠ T := by
  intro h
  rw [h, hT] at hx
  simp [shC] at hx

def lessGAt (L : List Sh) (i k : Nat) : Bool := match L[i]?, L[k]? with
  | some x, some y => lessSh x y
  | _, _ => false

def claimH (T : Nat) (σ0 : Store) (S0 : List Nat) : HeapI Try.prog 103 (.ref T 0) where
  St := List Sh
  at_ L σ := ∃ S, CQ σ T L S ∧ Fr σ0 S0 σ S
  len L := L.length
  less := lessGAt
  swap := swapG
  small L σ := fun ⟨S, h, _⟩ => Nat.le_trans h.len (by decide)
  lenSwap L i k := swapG_length L i k
  hLen L σ := by
    rintro ⟨S, h, hf⟩
    obtain ⟨qv, hT, hq⟩ := h.t
    rcases hq with ⟨rfl, rfl⟩ | ⟨oq, hoq, rfl, hq⟩
    · exact ⟨104, false, _, by kernel_rfl, (by first | (simp (disch := omega) only [go_sem, hT, ↓reduceIte, Nat.reduceEqDiff, Nat.reduceAdd, Nat.reduceSub, Nat.reduceMul, Nat.reduceLeDiff, reduceCtorEq, Int.reduceToNat, Int.reduceLE, Int.reduceLT]; rfl) | simp (disch := omega) only [go_sem, hT, ↓reduceIte, Nat.reduceEqDiff, Nat.reduceAdd, Nat.reduceSub, Nat.reduceMul, Nat.reduceLeDiff, reduceCtorEq, Int.reduceToNat, Int.reduceLE, Int.reduceLT]), by simp only [go_sem], cLen_nil⟩
    · exact ⟨104, false, _, by kernel_rfl, (by first | (simp (disch := omega) only [go_sem, hT, ↓reduceIte, Nat.reduceEqDiff, Nat.reduceAdd, Nat.reduceSub, Nat.reduceMul, Nat.reduceLeDiff, reduceCtorEq, Int.reduceToNat, Int.reduceLE, Int.reduceLT]; rfl) | simp (disch := omega) only [go_sem, hT, ↓reduceIte, Nat.reduceEqDiff, Nat.reduceAdd, Nat.reduceSub, Nat.reduceMul, Nat.reduceLeDiff, reduceCtorEq, Int.reduceToNat, Int.reduceLE, Int.reduceLT]), by simp only [go_sem], cLen_c⟩
  hLess L σ i k := by
    rintro ⟨S, h, hf⟩ hi hk
    obtain ⟨qv, hT, hq⟩ := h.t
    rcases hq with ⟨rfl, rfl⟩ | ⟨oq, hoq, rfl, hq⟩
    · exact absurd hi (Nat.not_lt_zero _)
    · have hx : L[i]? = some L[i] := List.getElem?_eq_getElem hi
      have hy : L[k]? = some L[k] := List.getElem?_eq_getElem hk
      refine ⟨105, false, _, by kernel_rfl, (by first | (simp (disch := omega) only [go_sem, hT, ↓reduceIte, Nat.reduceEqDiff, Nat.reduceAdd, Nat.reduceSub, Nat.reduceMul, Nat.reduceLeDiff, reduceCtorEq, Int.reduceToNat, Int.reduceLE, Int.reduceLT]; rfl) | simp (disch := omega) only [go_sem, hT, ↓reduceIte, Nat.reduceEqDiff, Nat.reduceAdd, Nat.reduceSub, Nat.reduceMul, Nat.reduceLeDiff, reduceCtorEq, Int.reduceToNat, Int.reduceLE, Int.reduceLT]), by simp only [go_sem], (cLess_c hq hx hy (h.e _ (List.getElem_mem hi)) (h.e _ (List.getElem_mem hk))).mono fun v σ' hh => ?_⟩
      refine ⟨hh.1.trans ?_, hh.2⟩
      unfold lessGAt
      rw [hx, hy]
  hSwap L σ i k := by
    rintro ⟨S, h, hf⟩ hi hk
    obtain ⟨qv, hT, hq⟩ := h.t
    rcases hq with ⟨rfl, rfl⟩ | ⟨oq, hoq, rfl, hq⟩
    · exact absurd hi (Nat.not_lt_zero _)
    · have hx : L[i]? = some L[i] := List.getElem?_eq_getElem hi
      have hy : L[k]? = some L[k] := List.getElem?_eq_getElem hk
      refine ⟨106, false, _, by kernel_rfl, (by first | (simp (disch := omega) only [go_sem, hT, ↓reduceIte, Nat.reduceEqDiff, Nat.reduceAdd, Nat.reduceSub, Nat.reduceMul, Nat.reduceLeDiff, reduceCtorEq, Int.reduceToNat, Int.reduceLE, Int.reduceLT]; rfl) | simp (disch := omega) only [go_sem, hT, ↓reduceIte, Nat.reduceEqDiff, Nat.reduceAdd, Nat.reduceSub, Nat.reduceMul, Nat.reduceLeDiff, reduceCtorEq, Int.reduceToNat, Int.reduceLE, Int.reduceLT]), by simp only [go_sem], (cSwap_c hq hx hy).mono fun v σ' hh => ⟨hh.1, S, ?_⟩⟩
      rw [hh.2]
      refine ⟨⟨⟨_, by rw [Store.set_ne _ _ (ne_cq hT hq)]; exact hT, .inr ⟨oq, hoq, by rw [swapG_length], Store.set_get ..⟩⟩, fun x hx => ?_, h.ts, by rw [swapG_length]; exact h.len⟩, hf.set hoq⟩
      have hx' := h.e x ((swapG_perm L i k).mem_iff.1 hx)
      rw [Store.set_ne _ _ (ne_sh hq hx')]; exact hx'

def claimO (T : Nat) (σ0 : Store) (S0 : List Nat) : HeapOrd (P := Try.prog) (t := 103) (a := .ref T 0) (claimH T σ0 S0).St (claimH T σ0 S0).len (claimH T σ0 S0).less (claimH T σ0 S0).swap where
  α := Sh
  get := fun (L : List Sh) k => L[k]?.getD default
  lt := lessSh
  hless := fun (L : List Sh) i k (hi : i < L.length) (hk : k < L.length) => by
    show lessGAt L i k = _
    unfold lessGAt
    rw [List.getElem?_eq_getElem hi, List.getElem?_eq_getElem hk]
    rfl
  hswap := fun (L : List Sh) i j k (hi : i < L.length) (hj : j < L.length) => by
    show (swapG L i j)[k]?.getD _ = _
    rw [swapG_get hi hj]
    split
    · rfl
    · split <;> rfl
  trans := fun x y z h1 h2 => by simp only [lessSh, decide_eq_false_iff_not] at *; omega
  asym := fun x y h => by simp only [lessSh, decide_eq_false_iff_not, decide_eq_true_eq] at *; omega

def gS (L : List Sh) (k : Nat) : Sh := L[k]?.getD default
def HeapS (L : List Sh) : Prop := ∀ k, 0 < k → k < L.length → lessSh (gS L k) (gS L ((k - 1) / 2)) = false
theorem keepsS {T : Nat} {σ0 : Store} {S0 : List Nat} (M : List Sh) : ∀ (s : (claimH T σ0 S0).St) i j, i < (claimH T σ0 S0).len s → j < (claimH T σ0 S0).len s → (fun L : List Sh => L.Perm M) s → (fun L : List Sh => L.Perm M) ((claimH T σ0 S0).swap s i j) :=
  fun s i j _ _ h => (swapG_perm s i j).trans h
theorem gS_set {L : List Sh} {p k : Nat} {y : Sh} (hp : p < L.length) : gS (L.set p y) k = if k = p then y else gS L k := by
  unfold gS
  rw [List.getElem?_set]
  by_cases h : k = p
  · subst h; rw [if_pos rfl, if_pos hp, if_pos rfl]; rfl
  · rw [if_neg (Ne.symm h), if_neg h]

/-- the first one has more: Fix -/
theorem sFix_c {T : Nat} {L : List Sh} {S : List Nat} {y : Sh} {σ : Store} (h : CQ σ T (L.set 0 y) S) (hL : HeapS L) (hp : 0 < L.length) :
    ACalls Try.prog 62 [.iface 103 (.ref T 0), vInt 0] σ fun v σ' => v = .tup [] ∧ ∃ L' S', CQ σ' T L' S' ∧ Fr σ S σ' S' ∧ HeapS L' ∧ L'.Perm (L.set 0 y) := by
  refine (hFix_c (claimH T σ S) (s := L.set 0 y) (i := 0) ⟨S, h, .refl σ S⟩ (by show 0 < (L.set 0 y).length; simpa using hp)).mono fun v σ' hh => ⟨hh.1, ?_⟩
  obtain ⟨S', h1, h2⟩ := hh.2
  have hlen : (claimH T σ S).len (L.set 0 y) = L.length := by show (L.set 0 y).length = _; simp
  have hlen' := fixS_len (claimH T σ S) (L.set 0 y) 0 L.length
  rw [hlen] at h1 hlen'
  refine ⟨_, S', h1, h2, ?_, ?_⟩
  · have hb : HeapBut (claimO T σ S) (L.set 0 y) L.length 0 := by
      refine ⟨fun k h1 h2 h3 h4 => ?_, fun c h1 h2 h3 h4 => absurd h4 (Nat.lt_irrefl 0)⟩
      show lessSh (gS (L.set 0 y) k) (gS (L.set 0 y) ((k - 1) / 2)) = false
      rw [gS_set hp, gS_set hp, if_neg h3, if_neg h4]
      exact hL k h1 h2
    have := fix_heap (claimO T σ S) (n := L.length) (i := 0) (s := L.set 0 y) (by rw [hlen]; exact Nat.le_refl _) hp hb
    intro k h3 h4
    exact this k h3 (by rw [← hlen']; exact h4)
  · exact fix_keeps (H := claimH T σ S) (p := fun M : List Sh => M.Perm (L.set 0 y)) (n := L.length) (i := 0) (s := L.set 0 y) (keepsS _) (by rw [hlen]; exact Nat.le_refl _) (by rw [hlen]; exact hp) (List.Perm.refl _)

theorem sPush_at {T : Nat} {L : List Sh} {S : List Nat} {x : Sh} {σ : Store} (h : CQ σ T L S) (hx : σ.heap x.o = some (shC x)) (hL : L.length < 1000) :
    AInv Try.prog 103 (.ref T 0) "Push" [.iface 99 (.ref x.o 0)] σ fun v σ' => v = .tup [] ∧ ∃ S', CQ σ' T (L ++ [x]) S' ∧ Fr σ S σ' S' := by
  obtain ⟨qv, hT, hq⟩ := h.t
  have hxT := ne_ct hT hx
  refine ⟨108, true, _, by kernel_rfl, (by first | (simp (disch := omega) only [go_sem, hT, ↓reduceIte, Nat.reduceEqDiff, Nat.reduceAdd, Nat.reduceSub, Nat.reduceMul, Nat.reduceLeDiff, reduceCtorEq, Int.reduceToNat, Int.reduceLE, Int.reduceLT]; rfl) | simp (disch := omega) only [go_sem, hT, ↓reduceIte, Nat.reduceEqDiff, Nat.reduceAdd, Nat.reduceSub, Nat.reduceMul, Nat.reduceLeDiff, reduceCtorEq, Int.reduceToNat, Int.reduceLE, Int.reduceLT]), by simp only [go_sem], ?_⟩
  rcases hq with ⟨rfl, rfl⟩ | ⟨oq, hoq, rfl, hq⟩
  · refine (cPush_nil hT).mono fun v σ' ⟨hv, o', h2, h3⟩ => ⟨hv, o' :: S, ?_, ?_⟩
    · subst h3
      have hTo : T ≠ o' := ne_of_heap hT h2
      refine ⟨⟨_, Store.set_get .., .inr ⟨o', by simp, rfl, by rw [Store.set_ne _ _ (Ne.symm hTo), Store.set_get]; rfl⟩⟩, fun y hy => ?_, by simp [h.ts], by simp⟩
      obtain rfl : y = x := by simpa using hy
      rw [Store.set_ne _ _ hxT, Store.set_ne _ _ (ne_of_heap hx h2)]; exact hx
    · subst h3
      exact ((Fr.refl σ S).setNew h2).set (by simp [h.ts])
  · have hTq := ne_cq hT hq
    refine (cPush_c hT hq hTq (by omega)).mono fun v σ' ⟨hv, o', h2, h3⟩ => ⟨hv, o' :: S, ?_, ?_⟩
    · subst h3
      have hTo : T ≠ o' := ne_of_heap hT h2
      refine ⟨⟨_, Store.set_get .., .inr ⟨o', by simp, by simp, by rw [Store.set_ne _ _ (Ne.symm hTo), Store.set_get]; unfold shQ; rw [List.map_append]; rfl⟩⟩, fun y hy => ?_, by simp [h.ts], by simp; omega⟩
      have hye : σ.heap y.o = some (shC y) := by
        rcases List.mem_append.1 hy with hy | hy
        · exact h.e y hy
        · obtain rfl : y = x := by simpa using hy
          exact hx
      rw [Store.set_ne _ _ (ne_ct hT hye), Store.set_ne _ _ (ne_of_heap hye h2), Store.del_ne _ (ne_sh hq hye)]; exact hye
    · subst h3
      exact (((Fr.refl σ S).del hoq).setNew (by
        by_cases ho : o' = oq
        · rw [ho, Store.del_get]
        · rw [Store.del_ne _ ho]; exact h2)).set (by simp [h.ts])

theorem sPush_c {T : Nat} {L : List Sh} {S : List Nat} {x : Sh} {σ : Store} (h : CQ σ T L S) (hH : HeapS L) (hx : σ.heap x.o = some (shC x)) (hL : L.length < 1000) :
    ACalls Try.prog 63 [.iface 103 (.ref T 0), .iface 99 (.ref x.o 0)] σ fun v σ' => v = .tup [] ∧ ∃ L' S', CQ σ' T L' S' ∧ Fr σ S σ' S' ∧ HeapS L' ∧ L'.Perm (L ++ [x]) := by
  obtain ⟨f, ptr, r, q1, q2, q3, q4⟩ := sPush_at h hx hL
  refine (hPush_c (claimH T σ S) (s := L ++ [x]) ⟨f, ptr, r, q1, q2, q3, q4⟩ (by show 0 < (L ++ [x]).length; simp)).mono fun v σ' hh => ⟨hh.1, ?_⟩
  obtain ⟨S', h1, h2⟩ := hh.2
  have hlen : (claimH T σ S).len (L ++ [x]) = L.length + 1 := by show (L ++ [x]).length = _; simp
  have hlen' := upS_len (claimH T σ S) (L ++ [x]) L.length
  rw [hlen] at hlen'
  rw [hlen, Nat.add_sub_cancel] at h1
  refine ⟨_, S', h1, h2, ?_, ?_⟩
  · have hg : ∀ k, k < L.length → gS (L ++ [x]) k = gS L k := fun k hk => by unfold gS; rw [List.getElem?_append_left hk]
    have hb : HeapBut (claimO T σ S) (L ++ [x]) (L.length + 1) L.length ∧ KidsOk (claimO T σ S) (L ++ [x]) (L.length + 1) L.length := by
      refine ⟨⟨fun k h1 h2 h3 h4 => ?_, fun c h1 h2 h3 h4 => absurd h3 (by omega)⟩, fun c h1 h2 h3 => absurd h3 (by omega)⟩
      show lessSh (gS (L ++ [x]) k) (gS (L ++ [x]) ((k - 1) / 2)) = false
      rw [hg _ (by omega), hg _ (by omega)]
      exact hH k h1 (by omega)
    have := up_heap (claimO T σ S) (n := L.length + 1) L.length (L ++ [x]) (by rw [hlen]; exact Nat.le_refl _) (Nat.lt_succ_self _) hb.1 hb.2
    intro k h3 h4
    exact this k h3 (by rw [← hlen']; exact h4)
  · exact up_keeps (H := claimH T σ S) (p := fun M : List Sh => M.Perm (L ++ [x])) (keepsS _) L.length (L ++ [x]) (by rw [hlen]; exact Nat.lt_succ_self _) (List.Perm.refl _)

theorem snocS_of {L : List Sh} {n : Nat} {x : Sh} (hn : L.length = n + 1) (hx : gS L n = x) : ∃ L', L = L' ++ [x] ∧ L'.length = n := by
  refine ⟨L.dropLast, ?_, by simp [hn]⟩
  have hne : L ≠ [] := fun h => by rw [h] at hn; simp at hn
  have : L.getLast hne = x := by
    rw [List.getLast_eq_getElem, ← hx]
    unfold gS
    simp [hn]
  rw [← this]
  exact (List.dropLast_concat_getLast hne).symm

/-- Pop -/
theorem sPop_c {T : Nat} {L : List Sh} {S : List Nat} {σ : Store} (h : CQ σ T L S) (hH : HeapBut (claimO T σ S) L L.length 0) (h0 : 0 < L.length) :
    ACalls Try.prog 65 [.iface 103 (.ref T 0)] σ fun v σ' => ∃ L' S', CQ σ' T L' S' ∧ Fr σ S σ' S' ∧ HeapS L' ∧ (L' ++ [gS L 0]).Perm L := by
  obtain ⟨n, hn⟩ : ∃ n, L.length = n + 1 := ⟨L.length - 1, by omega⟩
  have hlen : (claimH T σ S).len L = n + 1 := hn
  refine hPop_c (claimH T σ S) (s := L) ⟨S, h, .refl σ S⟩ h0 fun τ hτ => ?_
  rw [hlen, Nat.add_sub_cancel] at hτ
  obtain ⟨S', h1, h2⟩ := hτ
  have hsl : (claimH T σ S).len ((claimH T σ S).swap L 0 n) = n + 1 := ((claimH T σ S).lenSwap L 0 n).trans hlen
  have hlen' : (downS (claimH T σ S) ((claimH T σ S).swap L 0 n) 0 n).1.length = n + 1 := (downS_len (claimH T σ S) _ 0 n).trans hsl
  have hg := fun k => (claimO T σ S).hswap L 0 n k (by show 0 < L.length; omega) (by show n < L.length; omega)
  have hlast : gS (downS (claimH T σ S) ((claimH T σ S).swap L 0 n) 0 n).1 n = gS L 0 := by
    refine (down_last (claimO T σ S) (n - 0) 0 _ n rfl (by rw [hsl]; omega) (Nat.le_refl _)).trans ?_
    rw [hg]
    split
    · rename_i hh; rw [hh]; rfl
    · rw [if_pos rfl]; rfl
  have hperm : List.Perm (downS (claimH T σ S) ((claimH T σ S).swap L 0 n) 0 n).1 L := down_keeps (H := claimH T σ S) (p := fun M : List Sh => M.Perm L) (keepsS _) (n - 0) 0 _ rfl (by rw [hsl]; omega) (swapG_perm L 0 n)
  have hheap : HeapN (claimO T σ S) (downS (claimH T σ S) ((claimH T σ S).swap L 0 n) 0 n).1 n := by
    have hb : HeapBut (claimO T σ S) ((claimH T σ S).swap L 0 n) n 0 := by
      refine ⟨fun k h1 h2 h3 h4 => ?_, fun c h1 h2 h3 h4 => absurd h4 (Nat.lt_irrefl 0)⟩
      rw [hg, hg, if_neg h3, if_neg (by omega), if_neg h4, if_neg (by omega)]
      exact hH.1 k h1 (by omega) h3 h4
    rcases down_heap (claimO T σ S) (n - 0) 0 _ rfl (by rw [hsl]; omega) hb with ⟨q1, q2⟩ | ⟨q1, q2⟩
    · rw [q1]; exact heap_of_but _ hb q2 fun hh => absurd hh (Nat.lt_irrefl 0)
    · exact q2
  generalize (downS (claimH T σ S) ((claimH T σ S).swap L 0 n) 0 n).1 = R at h1 hlen' hlast hperm hheap
  obtain ⟨L', rfl, hL'⟩ := snocS_of hlen' hlast
  obtain ⟨qv, hT, hq⟩ := h1.t
  rcases hq with ⟨_, h0⟩ | ⟨oq, hoq, rfl, hq⟩
  · simp at h0
  have hll : (L' ++ [gS L 0]).length = L'.length + 1 := by simp
  rw [hll] at hT
  have hTq := ne_cq hT hq
  have hll2 := h1.len
  rw [hll] at hll2
  refine ⟨107, true, _, by kernel_rfl, (by first | (simp (disch := omega) only [go_sem, hT, ↓reduceIte, Nat.reduceEqDiff, Nat.reduceAdd, Nat.reduceSub, Nat.reduceMul, Nat.reduceLeDiff, reduceCtorEq, Int.reduceToNat, Int.reduceLE, Int.reduceLT]; rfl) | simp (disch := omega) only [go_sem, hT, ↓reduceIte, Nat.reduceEqDiff, Nat.reduceAdd, Nat.reduceSub, Nat.reduceMul, Nat.reduceLeDiff, reduceCtorEq, Int.reduceToNat, Int.reduceLE, Int.reduceLT]), by simp only [go_sem], (cPop_c hT hq hTq (by omega)).mono fun v σ' hh => ?_⟩
  obtain ⟨_, rfl⟩ := hh
  refine ⟨L', S', ⟨⟨_, by rw [Store.set_ne _ _ hTq, Store.set_get], .inr ⟨oq, hoq, rfl, Store.set_get ..⟩⟩, fun y hy => ?_, h1.ts, by omega⟩, (h2.set h1.ts).set hoq, ?_, hperm⟩
  · have hye := h1.e y (List.mem_append_left _ hy)
    rw [Store.set_ne _ _ (ne_sh hq hye), Store.set_ne _ _ (ne_ct hT hye)]; exact hye
  · intro k h5 h6
    have h7 := hheap k h5 (by omega)
    have hg : ∀ k, k < L'.length → gS (L' ++ [gS L 0]) k = gS L' k := fun k hk => by unfold gS; rw [List.getElem?_append_left hk]
    rw [← hg k h6, ← hg _ (by omega)]
    exact h7
end Go.Proofs.Ytdedpamcpgbgmaa
