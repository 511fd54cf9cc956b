/-
  The program's timer: what its functions do. Own work (an AI agent).
-/
import Derived.Test.YtdedpamcpgbgmaaTimerP
set_option linter.all false
set_option maxRecDepth 100000
namespace Go.Proofs.Ytdedpamcpgbgmaa
open Go.Ab
open Go.MapKept (IsKey)

def kvM (M : List (Int × Nat)) : List (Value × AVal) := M.map fun p => (.int .i64 p.1, .ref p.2 0)
theorem kvM_keys (M : List (Int × Nat)) : ∀ x ∈ kvM M, IsKey (.int .i64) x.1 := by
  intro x hx
  obtain ⟨p, _, rfl⟩ := List.mem_map.1 hx
  rfl
theorem afind_M (c : Int) : ∀ (M : List (Int × Nat)), afindNow (.int .i64) (.int .i64 c) (kvM M) = some ((M.find? fun p => decide (p.1 = c)).map fun p => .ref p.2 0)
  | [] => rfl
  | p :: M => by
    have ih := afind_M c M
    unfold kvM at ih ⊢
    rw [List.map_cons, afindNow, List.find?_cons]
    simp only [Instr.sameNow, if_true]
    by_cases h : p.1 = c
    · simp [h]
    · have h' : (c == p.1) = false := by simpa using Ne.symm h
      rw [h']
      simp only [h, decide_false]
      exact ih
theorem kvPut_M {c : Int} {e : Nat} : ∀ {M : List (Int × Nat)}, (∀ p ∈ M, p.1 ≠ c) → kvPut (.int .i64 c) (.ref e 0) (kvM M) = kvM (M ++ [(c, e)])
  | [], _ => rfl
  | p :: M, h => by
    have ih := kvPut_M (c := c) (e := e) (M := M) fun q hq => h q (List.mem_cons_of_mem _ hq)
    unfold kvM at ih ⊢
    have h1 : keyEq (.int .i64 p.1) (.int .i64 c) = false := by simp [keyEq, h p (List.mem_cons_self ..)]
    simp only [List.map_cons, kvPut, h1, Bool.false_eq_true, if_false, List.cons_append]
    rw [ih]
theorem kvDel_M {c : Int} : ∀ {M : List (Int × Nat)}, kvDel (.int .i64 c) (kvM M) = kvM (M.eraseP fun p => decide (p.1 = c))
  | [] => rfl
  | p :: M => by
    have ih := kvDel_M (c := c) (M := M)
    unfold kvM at ih ⊢
    simp only [List.map_cons, kvDel, List.eraseP_cons]
    by_cases h : p.1 = c
    · simp [keyEq, h]
    · simp only [keyEq, h, decide_false, Bool.false_eq_true, if_false, List.map_cons]
      rw [ih]
      rfl

/-- calls and their objects -/
def keysL (L : List Ent) : List (Int × Nat) := L.map fun x => (x.2.1, x.1)

structure TAt (σ : Store) (T : Nat) (L : List Ent) (S : List Nat) : Prop where
  ex : ∃ bv Sq, QAt σ T bv L Sq ∧ ((bv = .lit (.map none) ∧ L = [] ∧ S = Sq) ∨ ∃ om M, bv = .map om ∧ om ∉ Sq ∧ S = om :: Sq ∧ σ.heap om = some (.map (kvM M)) ∧ M.Perm (keysL L))
  heap : HeapL L
  nd : (L.map (·.2.1)).Nodup

theorem QAt.mono {σ σ' : Store} {T : Nat} {bv : AVal} {L : List Ent} {S : List Nat} (h : QAt σ T bv L S) (hh : ∀ o ∈ S, ∀ x, σ.heap o = some x → σ'.heap o = some x) : QAt σ' T bv L S := by
  obtain ⟨⟨qv, h1, h2⟩, h3, h4, h5, h6⟩ := h
  refine ⟨⟨qv, hh _ h5 _ h1, ?_⟩, fun k x hx => ⟨(h3 k x hx).1, hh _ (h3 k x hx).1 _ (h3 k x hx).2⟩, h4, h5, h6⟩
  rcases h2 with h2 | ⟨oq, q1, q2, q3⟩
  · exact .inl h2
  · exact .inr ⟨oq, q1, q2, hh _ q1 _ q3⟩
theorem QAt.congr {σ σ' : Store} {T : Nat} {bv : AVal} {L : List Ent} {S : List Nat} (h : QAt σ T bv L S) (hh : ∀ o ∈ S, σ'.heap o = σ.heap o) : QAt σ' T bv L S :=
  h.mono fun o ho x hx => by rw [hh o ho]; exact hx
theorem TAt.mono {σ σ' : Store} {T : Nat} {L : List Ent} {S : List Nat} (h : TAt σ T L S) (hh : ∀ o ∈ S, ∀ x, σ.heap o = some x → σ'.heap o = some x) : TAt σ' T L S := by
  obtain ⟨⟨bv, Sq, h1, h2⟩, h3, h4⟩ := h
  refine ⟨⟨bv, Sq, h1.mono fun o ho => hh o ?_, ?_⟩, h3, h4⟩
  · rcases h2 with ⟨_, _, rfl⟩ | ⟨om, M, _, _, rfl, _, _⟩
    · exact ho
    · exact List.mem_cons_of_mem _ ho
  · rcases h2 with h2 | ⟨om, M, e1, e2, rfl, e4, e5⟩
    · exact .inl h2
    · exact .inr ⟨om, M, e1, e2, rfl, hh om (List.mem_cons_self ..) _ e4, e5⟩
theorem TAt.congr {σ σ' : Store} {T : Nat} {L : List Ent} {S : List Nat} (h : TAt σ T L S) (hh : ∀ o ∈ S, σ'.heap o = σ.heap o) : TAt σ' T L S :=
  h.mono fun o ho x hx => by rw [hh o ho]; exact hx
theorem TAt.alloc {σ : Store} {T o : Nat} {x : AObj} {L : List Ent} {S : List Nat} (h : TAt σ T L S) (ho : σ.heap o = none) : TAt (σ.set o x) T L S := h.mono fun i _ y hy => heap_alloc_keep ho hy
/-- what comes of something else leaves it as it is -/
theorem TAt.frame {σ σ' : Store} {T : Nat} {L : List Ent} {S S1 S2 : List Nat} (h : TAt σ T L S) (hf : Fr σ S1 σ' S2) (hd : ∀ o ∈ S, o ∉ S1) : TAt σ' T L S := h.mono fun o ho x hx => hf.sub.1 o x (hd o ho) hx
theorem TAt.len {σ : Store} {T : Nat} {L : List Ent} {S : List Nat} (h : TAt σ T L S) : L.length ≤ 1000 := by obtain ⟨⟨bv, Sq, h1, _⟩, _⟩ := h; exact h1.len

/-- what stands where, if there is one at least -/
theorem QAt.cond {σ : Store} {T : Nat} {bv : AVal} {L : List Ent} {S : List Nat} (h : QAt σ T bv L S) : ∃ oq, (0 < L.length → σ.heap T = some (.cells [.msl oq 1 0 L.length, bv])) ∧ (0 < L.length → σ.heap oq = some (qC L)) ∧ (0 < L.length → (L.map fun x => AVal.ref x.1 0)[0]? = some (.ref (gE L 0).1 0)) ∧
    (0 < L.length → σ.heap (gE L 0).1 = some (entC (gE L 0) 0)) := by
  obtain ⟨⟨qv, h1, h2⟩, h3, h4, h5, h6⟩ := h
  rcases h2 with ⟨_, rfl⟩ | ⟨oq, q1, rfl, q3⟩
  · exact ⟨0, by simp, by simp, by simp, by simp⟩
  · have key : 0 < L.length → L[0]? = some (gE L 0) := fun h0 => by unfold gE; rw [List.getElem?_eq_getElem h0]; rfl
    exact ⟨oq, fun _ => h1, fun _ => q3, fun h0 => by rw [List.getElem?_map, key h0]; rfl, fun h0 => (h3 0 _ (key h0)).2⟩

theorem tNew_c {σ : Store} : ACalls Try.prog 30 [] σ fun v σ' => ∃ o, σ.heap o = none ∧ v = .ref o 0 ∧ σ' = σ.set o (.cells [.lit (.slice none 0 0), .lit (.map none)]) := by
  refine ACalls_of Try.func30 rfl Try.ntmps30 (congrArg Array.toList Try.results30) (by simp only [List.length_cons, List.length_nil]; decide) ?_; simp only [envOf_cons, envOf_nil, Nat.reduceAdd]
  refine awp_seq ?_
  refine awp_region (by kernel_rfl) ?_
  (refine aL_S rfl rfl (by simp (disch := omega) only [go_sem, wrap_i64, ↓reduceIte, Nat.reduceEqDiff, Nat.reduceAdd, Nat.reduceSub, Nat.reduceMul, Nat.reduceLeDiff, reduceCtorEq, Int.reduceToNat, Int.reduceLE, Int.reduceLT]; rfl) ?_)
  refine aL_nil ?_
  refine awp_seq ?_
  refine awp_region (by kernel_rfl) ?_
  (refine aL_S rfl rfl (by simp (disch := omega) only [go_sem, wrap_i64, ↓reduceIte, Nat.reduceEqDiff, Nat.reduceAdd, Nat.reduceSub, Nat.reduceMul, Nat.reduceLeDiff, reduceCtorEq, Int.reduceToNat, Int.reduceLE, Int.reduceLT]; rfl) ?_)
  refine aL_box rfl rfl rfl (by simp (disch := omega) only [go_sem, wrap_i64, ↓reduceIte, Nat.reduceEqDiff, Nat.reduceAdd, Nat.reduceSub, Nat.reduceMul, Nat.reduceLeDiff, reduceCtorEq, Int.reduceToNat, Int.reduceLE, Int.reduceLT]; rfl) rfl (by simp only [go_sem]; rfl) fun o2 ho2 => ?_
  repeat (rw [none_set_iff] at ho2; obtain ⟨_, ho2⟩ := ho2)
  (refine aL_S rfl rfl (by simp (disch := omega) only [go_sem, wrap_i64, ↓reduceIte, Nat.reduceEqDiff, Nat.reduceAdd, Nat.reduceSub, Nat.reduceMul, Nat.reduceLeDiff, reduceCtorEq, Int.reduceToNat, Int.reduceLE, Int.reduceLT]; rfl) ?_)
  refine aL_nil ?_
  refine awp_ret ?_
  refine aEnd_ret (σ' := σ.set o2 (.cells [.lit (.slice none 0 0), .lit (.map none)])) (by first | (simp (disch := omega) only [go_sem, wrap_i64, ↓reduceIte, Nat.reduceEqDiff, Nat.reduceAdd, Nat.reduceSub, Nat.reduceMul, Nat.reduceLeDiff, reduceCtorEq, Int.reduceToNat, Int.reduceLE, Int.reduceLT]; rfl) | (simp (disch := omega) only [go_sem, wrap_i64, ↓reduceIte, Nat.reduceEqDiff, Nat.reduceAdd, Nat.reduceSub, Nat.reduceMul, Nat.reduceLeDiff, reduceCtorEq, Int.reduceToNat, Int.reduceLE, Int.reduceLT])) (Store.Wk.refl _) ⟨o2, ho2, rfl, rfl⟩
theorem TAt.new {σ : Store} {T : Nat} : TAt (σ.set T (.cells [.lit (.slice none 0 0), .lit (.map none)])) T [] [T] :=
  ⟨⟨_, [T], ⟨⟨_, Store.set_get .., .inl ⟨rfl, rfl⟩⟩, fun k x hx => by simp at hx, by simp, by simp, by simp⟩, .inl ⟨rfl, rfl, rfl⟩⟩, fun k h1 h2 => by simp at h2, by simp⟩

theorem tLen_no {σ : Store} : ACalls Try.prog 38 [.lit (.pointer none)] σ fun v σ' => v = vInt 0 ∧ σ = σ' := by
  refine ACalls_of Try.func38 rfl Try.ntmps38 (congrArg Array.toList Try.results38) (by simp only [List.length_cons, List.length_nil]; decide) ?_; simp only [envOf_cons, envOf_nil, Nat.reduceAdd]
  refine awp_seq ?_
  refine awp_region (by kernel_rfl) ?_
  (refine aL_S rfl rfl (by simp (disch := omega) only [go_sem, wrap_i64, ↓reduceIte, Nat.reduceEqDiff, Nat.reduceAdd, Nat.reduceSub, Nat.reduceMul, Nat.reduceLeDiff, reduceCtorEq, Int.reduceToNat, Int.reduceLE, Int.reduceLT]; rfl) ?_)
  refine aL_nil ?_
  refine awp_seq ?_
  refine awp_seq ?_
  refine awp_region (by kernel_rfl) ?_
  iterate 2 (refine aL_S rfl rfl (by simp (disch := omega) only [go_sem, wrap_i64, ↓reduceIte, Nat.reduceEqDiff, Nat.reduceAdd, Nat.reduceSub, Nat.reduceMul, Nat.reduceLeDiff, reduceCtorEq, Int.reduceToNat, Int.reduceLE, Int.reduceLT]; rfl) ?_)
  refine aL_nil ?_
  refine awp_cond (by simp (disch := omega) only [go_sem, wrap_i64, ↓reduceIte, Nat.reduceEqDiff, Nat.reduceAdd, Nat.reduceSub, Nat.reduceMul, Nat.reduceLeDiff, reduceCtorEq, Int.reduceToNat, Int.reduceLE, Int.reduceLT]; rfl) (fun hc1 => ?_) (fun hc1 => ?_)
  · (try simp only [decide_eq_true_eq, decide_eq_false_iff_not, Bool.not_eq_true', Bool.not_eq_false', Bool.and_eq_true, Bool.or_eq_true, Bool.and_eq_false_iff, Bool.or_eq_false_iff, Bool.not_eq_eq_eq_not, Bool.not_true, Bool.not_false, Int.not_le, Int.not_lt, beq_iff_eq] at hc1)
    refine awp_seq ?_
    refine awp_region (by kernel_rfl) ?_
    (refine aL_S rfl rfl (by simp (disch := omega) only [go_sem, wrap_i64, ↓reduceIte, Nat.reduceEqDiff, Nat.reduceAdd, Nat.reduceSub, Nat.reduceMul, Nat.reduceLeDiff, reduceCtorEq, Int.reduceToNat, Int.reduceLE, Int.reduceLT]; rfl) ?_)
    refine aL_nil ?_
    refine awp_ret ?_
    refine aEnd_ret (σ' := σ) (by simp (disch := omega) only [go_sem, wrap_i64, ↓reduceIte, Nat.reduceEqDiff, Nat.reduceAdd, Nat.reduceSub, Nat.reduceMul, Nat.reduceLeDiff, reduceCtorEq, Int.reduceToNat, Int.reduceLE, Int.reduceLT]; rfl) (by first | exact Store.Wk.refl _ | exact Store.Sub.refl _ | ((try dsimp only); (try simp (disch := assumption) only [Store.newTok_set, Store.newTok_step]); (first | refine subx_start ?_ | refine subx_startS ?_); (repeat (first | refine subx_skip (.head _) ?_ | refine subx_skip (.tail _ (.head _)) ?_ | refine subx_skip (.tail _ (.tail _ (.head _))) ?_ | refine subx_skip (.tail _ (.tail _ (.tail _ (.head _)))) ?_ | refine subx_left (by first | (simp (disch := omega) only [go_sem, ↓reduceIte, Nat.reduceEqDiff, Nat.reduceAdd, Nat.reduceSub, Nat.reduceMul, Nat.reduceLeDiff, reduceCtorEq, Int.reduceToNat, Int.reduceLE, Int.reduceLT]; rfl) | simp (disch := omega) only [go_sem, ↓reduceIte, Nat.reduceEqDiff, Nat.reduceAdd, Nat.reduceSub, Nat.reduceMul, Nat.reduceLeDiff, reduceCtorEq, Int.reduceToNat, Int.reduceLE, Int.reduceLT]) ?_)); (repeat (first | exact subx_refl | refine subx_in (.head _) ?_ | refine subx_in (.tail _ (.head _)) ?_ | refine subx_in (.tail _ (.tail _ (.head _))) ?_ | refine subx_in (.tail _ (.tail _ (.tail _ (.head _)))) ?_ | refine subx_new (by first | assumption | (simp only [Store.newTok_heap]; assumption)) ?_ | refine subx_tok ?_ | refine subx_newTok (by assumption) ?_)))) ?_
    exact ⟨rfl, rfl⟩
  · (try simp only [decide_eq_true_eq, decide_eq_false_iff_not, Bool.not_eq_true', Bool.not_eq_false', Bool.and_eq_true, Bool.or_eq_true, Bool.and_eq_false_iff, Bool.or_eq_false_iff, Bool.not_eq_eq_eq_not, Bool.not_true, Bool.not_false, Int.not_le, Int.not_lt, beq_iff_eq] at hc1)
    cases hc1
theorem tLen_0 {T : Nat} {bv : AVal} {σ : Store} (hT : σ.heap T = some (.cells [.lit (.slice none 0 0), bv])) : ACalls Try.prog 38 [.ref T 0] σ fun v σ' => v = vInt 0 ∧ σ = σ' := by
  refine ACalls_of Try.func38 rfl Try.ntmps38 (congrArg Array.toList Try.results38) (by simp only [List.length_cons, List.length_nil]; decide) ?_; simp only [envOf_cons, envOf_nil, Nat.reduceAdd]
  refine awp_seq ?_
  refine awp_region (by kernel_rfl) ?_
  (refine aL_S rfl rfl (by simp (disch := omega) only [go_sem, wrap_i64, ↓reduceIte, Nat.reduceEqDiff, Nat.reduceAdd, Nat.reduceSub, Nat.reduceMul, Nat.reduceLeDiff, reduceCtorEq, Int.reduceToNat, Int.reduceLE, Int.reduceLT, hT]; rfl) ?_)
  refine aL_nil ?_
  refine awp_seq ?_
  refine awp_seq ?_
  refine awp_region (by kernel_rfl) ?_
  (refine aL_S rfl rfl (by simp (disch := omega) only [go_sem, wrap_i64, ↓reduceIte, Nat.reduceEqDiff, Nat.reduceAdd, Nat.reduceSub, Nat.reduceMul, Nat.reduceLeDiff, reduceCtorEq, Int.reduceToNat, Int.reduceLE, Int.reduceLT, hT]; rfl) ?_)
  (refine aL_S rfl rfl (by simp (disch := omega) only [go_sem, wrap_i64, ↓reduceIte, Nat.reduceEqDiff, Nat.reduceAdd, Nat.reduceSub, Nat.reduceMul, Nat.reduceLeDiff, reduceCtorEq, Int.reduceToNat, Int.reduceLE, Int.reduceLT, hT]; rfl) ?_)
  refine aL_nil ?_
  refine awp_cond (by simp (disch := omega) only [go_sem, wrap_i64, ↓reduceIte, Nat.reduceEqDiff, Nat.reduceAdd, Nat.reduceSub, Nat.reduceMul, Nat.reduceLeDiff, reduceCtorEq, Int.reduceToNat, Int.reduceLE, Int.reduceLT]; rfl) (fun hc1 => ?_) (fun hc1 => ?_)
  · (try simp only [decide_eq_true_eq, decide_eq_false_iff_not, Bool.not_eq_true', Bool.not_eq_false', Bool.and_eq_true, Bool.or_eq_true, Bool.and_eq_false_iff, Bool.or_eq_false_iff, Bool.not_eq_eq_eq_not, Bool.not_true, Bool.not_false, Int.not_le, Int.not_lt, beq_iff_eq] at hc1)
    cases hc1
  · (try simp only [decide_eq_true_eq, decide_eq_false_iff_not, Bool.not_eq_true', Bool.not_eq_false', Bool.and_eq_true, Bool.or_eq_true, Bool.and_eq_false_iff, Bool.or_eq_false_iff, Bool.not_eq_eq_eq_not, Bool.not_true, Bool.not_false, Int.not_le, Int.not_lt, beq_iff_eq] at hc1)
    refine awp_skip ?_
    refine awp_seq ?_
    refine awp_region (by kernel_rfl) ?_
    (refine aL_S rfl rfl (by simp (disch := omega) only [go_sem, wrap_i64, ↓reduceIte, Nat.reduceEqDiff, Nat.reduceAdd, Nat.reduceSub, Nat.reduceMul, Nat.reduceLeDiff, reduceCtorEq, Int.reduceToNat, Int.reduceLE, Int.reduceLT, hT]; rfl) ?_)
    (refine aL_S rfl rfl (by simp (disch := omega) only [go_sem, wrap_i64, ↓reduceIte, Nat.reduceEqDiff, Nat.reduceAdd, Nat.reduceSub, Nat.reduceMul, Nat.reduceLeDiff, reduceCtorEq, Int.reduceToNat, Int.reduceLE, Int.reduceLT, hT]; rfl) ?_)
    (refine aL_S rfl rfl (by simp (disch := omega) only [go_sem, wrap_i64, ↓reduceIte, Nat.reduceEqDiff, Nat.reduceAdd, Nat.reduceSub, Nat.reduceMul, Nat.reduceLeDiff, reduceCtorEq, Int.reduceToNat, Int.reduceLE, Int.reduceLT, hT]; rfl) ?_)
    (refine aL_S rfl rfl (by simp (disch := omega) only [go_sem, wrap_i64, ↓reduceIte, Nat.reduceEqDiff, Nat.reduceAdd, Nat.reduceSub, Nat.reduceMul, Nat.reduceLeDiff, reduceCtorEq, Int.reduceToNat, Int.reduceLE, Int.reduceLT, hT]; rfl) ?_)
    (refine aL_S rfl rfl (by simp (disch := omega) only [go_sem, wrap_i64, ↓reduceIte, Nat.reduceEqDiff, Nat.reduceAdd, Nat.reduceSub, Nat.reduceMul, Nat.reduceLeDiff, reduceCtorEq, Int.reduceToNat, Int.reduceLE, Int.reduceLT, hT]; rfl) ?_)
    (refine aL_S rfl rfl (by simp (disch := omega) only [go_sem, wrap_i64, ↓reduceIte, Nat.reduceEqDiff, Nat.reduceAdd, Nat.reduceSub, Nat.reduceMul, Nat.reduceLeDiff, reduceCtorEq, Int.reduceToNat, Int.reduceLE, Int.reduceLT, hT]; rfl) ?_)
    refine aL_nil ?_
    refine awp_ret ?_
    refine aEnd_ret (σ' := σ) (by simp (disch := omega) only [go_sem, wrap_i64, ↓reduceIte, Nat.reduceEqDiff, Nat.reduceAdd, Nat.reduceSub, Nat.reduceMul, Nat.reduceLeDiff, reduceCtorEq, Int.reduceToNat, Int.reduceLE, Int.reduceLT]; rfl) (by first | exact Store.Wk.refl _ | exact Store.Sub.refl _ | ((try dsimp only); (try simp (disch := assumption) only [Store.newTok_set, Store.newTok_step]); (first | refine subx_start ?_ | refine subx_startS ?_); (repeat (first | refine subx_skip (.head _) ?_ | refine subx_skip (.tail _ (.head _)) ?_ | refine subx_skip (.tail _ (.tail _ (.head _))) ?_ | refine subx_skip (.tail _ (.tail _ (.tail _ (.head _)))) ?_ | refine subx_left (by first | (simp (disch := omega) only [go_sem, ↓reduceIte, Nat.reduceEqDiff, Nat.reduceAdd, Nat.reduceSub, Nat.reduceMul, Nat.reduceLeDiff, reduceCtorEq, Int.reduceToNat, Int.reduceLE, Int.reduceLT]; rfl) | simp (disch := omega) only [go_sem, ↓reduceIte, Nat.reduceEqDiff, Nat.reduceAdd, Nat.reduceSub, Nat.reduceMul, Nat.reduceLeDiff, reduceCtorEq, Int.reduceToNat, Int.reduceLE, Int.reduceLT]) ?_)); (repeat (first | exact subx_refl | refine subx_in (.head _) ?_ | refine subx_in (.tail _ (.head _)) ?_ | refine subx_in (.tail _ (.tail _ (.head _))) ?_ | refine subx_in (.tail _ (.tail _ (.tail _ (.head _)))) ?_ | refine subx_new (by first | assumption | (simp only [Store.newTok_heap]; assumption)) ?_ | refine subx_tok ?_ | refine subx_newTok (by assumption) ?_)))) ?_
    exact ⟨rfl, rfl⟩
theorem tLen_1 {T oq n : Nat} {bv : AVal} {σ : Store} (hT : σ.heap T = some (.cells [.msl oq 1 0 n, bv])) : ACalls Try.prog 38 [.ref T 0] σ fun v σ' => v = vInt n ∧ σ = σ' := by
  refine ACalls_of Try.func38 rfl Try.ntmps38 (congrArg Array.toList Try.results38) (by simp only [List.length_cons, List.length_nil]; decide) ?_; simp only [envOf_cons, envOf_nil, Nat.reduceAdd]
  refine awp_seq ?_
  refine awp_region (by kernel_rfl) ?_
  (refine aL_S rfl rfl (by simp (disch := omega) only [go_sem, wrap_i64, ↓reduceIte, Nat.reduceEqDiff, Nat.reduceAdd, Nat.reduceSub, Nat.reduceMul, Nat.reduceLeDiff, reduceCtorEq, Int.reduceToNat, Int.reduceLE, Int.reduceLT, hT]; rfl) ?_)
  refine aL_nil ?_
  refine awp_seq ?_
  refine awp_seq ?_
  refine awp_region (by kernel_rfl) ?_
  (refine aL_S rfl rfl (by simp (disch := omega) only [go_sem, wrap_i64, ↓reduceIte, Nat.reduceEqDiff, Nat.reduceAdd, Nat.reduceSub, Nat.reduceMul, Nat.reduceLeDiff, reduceCtorEq, Int.reduceToNat, Int.reduceLE, Int.reduceLT, hT]; rfl) ?_)
  (refine aL_S rfl rfl (by simp (disch := omega) only [go_sem, wrap_i64, ↓reduceIte, Nat.reduceEqDiff, Nat.reduceAdd, Nat.reduceSub, Nat.reduceMul, Nat.reduceLeDiff, reduceCtorEq, Int.reduceToNat, Int.reduceLE, Int.reduceLT, hT]; rfl) ?_)
  refine aL_nil ?_
  refine awp_cond (by simp (disch := omega) only [go_sem, wrap_i64, ↓reduceIte, Nat.reduceEqDiff, Nat.reduceAdd, Nat.reduceSub, Nat.reduceMul, Nat.reduceLeDiff, reduceCtorEq, Int.reduceToNat, Int.reduceLE, Int.reduceLT]; rfl) (fun hc1 => ?_) (fun hc1 => ?_)
  · (try simp only [decide_eq_true_eq, decide_eq_false_iff_not, Bool.not_eq_true', Bool.not_eq_false', Bool.and_eq_true, Bool.or_eq_true, Bool.and_eq_false_iff, Bool.or_eq_false_iff, Bool.not_eq_eq_eq_not, Bool.not_true, Bool.not_false, Int.not_le, Int.not_lt, beq_iff_eq] at hc1)
    cases hc1
  · (try simp only [decide_eq_true_eq, decide_eq_false_iff_not, Bool.not_eq_true', Bool.not_eq_false', Bool.and_eq_true, Bool.or_eq_true, Bool.and_eq_false_iff, Bool.or_eq_false_iff, Bool.not_eq_eq_eq_not, Bool.not_true, Bool.not_false, Int.not_le, Int.not_lt, beq_iff_eq] at hc1)
    refine awp_skip ?_
    refine awp_seq ?_
    refine awp_region (by kernel_rfl) ?_
    (refine aL_S rfl rfl (by simp (disch := omega) only [go_sem, wrap_i64, ↓reduceIte, Nat.reduceEqDiff, Nat.reduceAdd, Nat.reduceSub, Nat.reduceMul, Nat.reduceLeDiff, reduceCtorEq, Int.reduceToNat, Int.reduceLE, Int.reduceLT, hT]; rfl) ?_)
    (refine aL_S rfl rfl (by simp (disch := omega) only [go_sem, wrap_i64, ↓reduceIte, Nat.reduceEqDiff, Nat.reduceAdd, Nat.reduceSub, Nat.reduceMul, Nat.reduceLeDiff, reduceCtorEq, Int.reduceToNat, Int.reduceLE, Int.reduceLT, hT]; rfl) ?_)
    (refine aL_S rfl rfl (by simp (disch := omega) only [go_sem, wrap_i64, ↓reduceIte, Nat.reduceEqDiff, Nat.reduceAdd, Nat.reduceSub, Nat.reduceMul, Nat.reduceLeDiff, reduceCtorEq, Int.reduceToNat, Int.reduceLE, Int.reduceLT, hT]; rfl) ?_)
    (refine aL_S rfl rfl (by simp (disch := omega) only [go_sem, wrap_i64, ↓reduceIte, Nat.reduceEqDiff, Nat.reduceAdd, Nat.reduceSub, Nat.reduceMul, Nat.reduceLeDiff, reduceCtorEq, Int.reduceToNat, Int.reduceLE, Int.reduceLT, hT]; rfl) ?_)
    (refine aL_S rfl rfl (by simp (disch := omega) only [go_sem, wrap_i64, ↓reduceIte, Nat.reduceEqDiff, Nat.reduceAdd, Nat.reduceSub, Nat.reduceMul, Nat.reduceLeDiff, reduceCtorEq, Int.reduceToNat, Int.reduceLE, Int.reduceLT, hT]; rfl) ?_)
    (refine aL_S rfl rfl (by simp (disch := omega) only [go_sem, wrap_i64, ↓reduceIte, Nat.reduceEqDiff, Nat.reduceAdd, Nat.reduceSub, Nat.reduceMul, Nat.reduceLeDiff, reduceCtorEq, Int.reduceToNat, Int.reduceLE, Int.reduceLT, hT]; rfl) ?_)
    refine aL_nil ?_
    refine awp_ret ?_
    refine aEnd_ret (σ' := σ) (by simp (disch := omega) only [go_sem, wrap_i64, ↓reduceIte, Nat.reduceEqDiff, Nat.reduceAdd, Nat.reduceSub, Nat.reduceMul, Nat.reduceLeDiff, reduceCtorEq, Int.reduceToNat, Int.reduceLE, Int.reduceLT]; rfl) (by first | exact Store.Wk.refl _ | exact Store.Sub.refl _ | ((try dsimp only); (try simp (disch := assumption) only [Store.newTok_set, Store.newTok_step]); (first | refine subx_start ?_ | refine subx_startS ?_); (repeat (first | refine subx_skip (.head _) ?_ | refine subx_skip (.tail _ (.head _)) ?_ | refine subx_skip (.tail _ (.tail _ (.head _))) ?_ | refine subx_skip (.tail _ (.tail _ (.tail _ (.head _)))) ?_ | refine subx_left (by first | (simp (disch := omega) only [go_sem, ↓reduceIte, Nat.reduceEqDiff, Nat.reduceAdd, Nat.reduceSub, Nat.reduceMul, Nat.reduceLeDiff, reduceCtorEq, Int.reduceToNat, Int.reduceLE, Int.reduceLT]; rfl) | simp (disch := omega) only [go_sem, ↓reduceIte, Nat.reduceEqDiff, Nat.reduceAdd, Nat.reduceSub, Nat.reduceMul, Nat.reduceLeDiff, reduceCtorEq, Int.reduceToNat, Int.reduceLE, Int.reduceLT]) ?_)); (repeat (first | exact subx_refl | refine subx_in (.head _) ?_ | refine subx_in (.tail _ (.head _)) ?_ | refine subx_in (.tail _ (.tail _ (.head _))) ?_ | refine subx_in (.tail _ (.tail _ (.tail _ (.head _)))) ?_ | refine subx_new (by first | assumption | (simp only [Store.newTok_heap]; assumption)) ?_ | refine subx_tok ?_ | refine subx_newTok (by assumption) ?_)))) ?_
    exact ⟨rfl, rfl⟩
theorem tLen_q {σ : Store} {T : Nat} {bv : AVal} {L : List Ent} {S : List Nat} (h : QAt σ T bv L S) : ACalls Try.prog 38 [.ref T 0] σ fun v σ' => v = vInt L.length ∧ σ = σ' := by
  obtain ⟨qv, hT, hq⟩ := h.t
  rcases hq with ⟨rfl, rfl⟩ | ⟨oq, _, rfl, _⟩
  · exact tLen_0 hT
  · exact tLen_1 hT
theorem tLen_c {σ : Store} {T : Nat} {L : List Ent} {S : List Nat} (h : TAt σ T L S) : ACalls Try.prog 38 [.ref T 0] σ fun v σ' => v = vInt L.length ∧ σ = σ' := by
  obtain ⟨⟨bv, Sq, h1, _⟩, _⟩ := h
  exact tLen_q h1

theorem tNext_c {σ : Store} {T : Nat} {L : List Ent} {S : List Nat} (h : TAt σ T L S) : ACalls Try.prog 35 [.ref T 0] σ fun v σ' => v = (if L.length = 0 then .tup [vInt 0, vBool false] else .tup [vInt (gE L 0).2.2, vBool true]) ∧ σ = σ' := by
  obtain ⟨⟨bv, Sq, h1, _⟩, _⟩ := h
  obtain ⟨oq, q1, q2, q3, q4⟩ := h1.cond
  have hlen := h1.len
  refine ACalls_of Try.func35 rfl Try.ntmps35 (congrArg Array.toList Try.results35) (by simp only [List.length_cons, List.length_nil]; decide) ?_; simp only [envOf_cons, envOf_nil, Nat.reduceAdd]
  refine awp_seq ?_
  refine awp_region (by kernel_rfl) ?_
  iterate 2 (refine aL_S rfl rfl (by simp (disch := omega) only [go_sem, wrap_i64, ↓reduceIte, Nat.reduceEqDiff, Nat.reduceAdd, Nat.reduceSub, Nat.reduceMul, Nat.reduceLeDiff, reduceCtorEq, Int.reduceToNat, Int.reduceLE, Int.reduceLT]; rfl) ?_)
  refine aL_nil ?_
  refine awp_seq ?_
  refine awp_seq ?_
  refine awp_region (by kernel_rfl) ?_
  (refine aL_S rfl rfl (by simp (disch := omega) only [go_sem, wrap_i64, ↓reduceIte, Nat.reduceEqDiff, Nat.reduceAdd, Nat.reduceSub, Nat.reduceMul, Nat.reduceLeDiff, reduceCtorEq, Int.reduceToNat, Int.reduceLE, Int.reduceLT]; rfl) ?_)
  refine aL_X rfl rfl (AOp_use rfl rfl (.inr ⟨rfl, rfl, rfl⟩) (by simp only [go_sem]) (by first | (simp (disch := omega) only [go_sem, wrap_i64, ↓reduceIte, Nat.reduceEqDiff, Nat.reduceAdd, Nat.reduceSub, Nat.reduceMul, Nat.reduceLeDiff, reduceCtorEq, Int.reduceToNat, Int.reduceLE, Int.reduceLT]; rfl) | (simp (disch := omega) only [go_sem, wrap_i64, ↓reduceIte, Nat.reduceEqDiff, Nat.reduceAdd, Nat.reduceSub, Nat.reduceMul, Nat.reduceLeDiff, reduceCtorEq, Int.reduceToNat, Int.reduceLE, Int.reduceLT])) (tLen_q h1) ?_); rintro _ _ ⟨rfl, rfl⟩
  (refine aL_S rfl rfl (by simp (disch := omega) only [go_sem, wrap_i64, ↓reduceIte, Nat.reduceEqDiff, Nat.reduceAdd, Nat.reduceSub, Nat.reduceMul, Nat.reduceLeDiff, reduceCtorEq, Int.reduceToNat, Int.reduceLE, Int.reduceLT]; rfl) ?_)
  refine aL_nil ?_
  refine awp_cond (by simp (disch := omega) only [go_sem, wrap_i64, ↓reduceIte, Nat.reduceEqDiff, Nat.reduceAdd, Nat.reduceSub, Nat.reduceMul, Nat.reduceLeDiff, reduceCtorEq, Int.reduceToNat, Int.reduceLE, Int.reduceLT]; rfl) (fun hc1 => ?_) (fun hc1 => ?_)
  · (try simp only [decide_eq_true_eq, decide_eq_false_iff_not, Bool.not_eq_true', Bool.not_eq_false', Bool.and_eq_true, Bool.or_eq_true, Bool.and_eq_false_iff, Bool.or_eq_false_iff, Bool.not_eq_eq_eq_not, Bool.not_true, Bool.not_false, Int.not_le, Int.not_lt, beq_iff_eq] at hc1)
    refine awp_seq ?_
    refine awp_region (by kernel_rfl) ?_
    iterate 2 (refine aL_S rfl rfl (by simp (disch := omega) only [go_sem, wrap_i64, ↓reduceIte, Nat.reduceEqDiff, Nat.reduceAdd, Nat.reduceSub, Nat.reduceMul, Nat.reduceLeDiff, reduceCtorEq, Int.reduceToNat, Int.reduceLE, Int.reduceLT]; rfl) ?_)
    refine aL_nil ?_
    refine awp_ret ?_
    refine aEnd_ret (σ' := σ) (by simp (disch := omega) only [go_sem, wrap_i64, ↓reduceIte, Nat.reduceEqDiff, Nat.reduceAdd, Nat.reduceSub, Nat.reduceMul, Nat.reduceLeDiff, reduceCtorEq, Int.reduceToNat, Int.reduceLE, Int.reduceLT]; rfl) (by first | exact Store.Wk.refl _ | exact Store.Sub.refl _ | ((try dsimp only); (try simp (disch := assumption) only [Store.newTok_set, Store.newTok_step]); (first | refine subx_start ?_ | refine subx_startS ?_); (repeat (first | refine subx_skip (.head _) ?_ | refine subx_skip (.tail _ (.head _)) ?_ | refine subx_skip (.tail _ (.tail _ (.head _))) ?_ | refine subx_skip (.tail _ (.tail _ (.tail _ (.head _)))) ?_ | refine subx_left (by first | (simp (disch := omega) only [go_sem, ↓reduceIte, Nat.reduceEqDiff, Nat.reduceAdd, Nat.reduceSub, Nat.reduceMul, Nat.reduceLeDiff, reduceCtorEq, Int.reduceToNat, Int.reduceLE, Int.reduceLT]; rfl) | simp (disch := omega) only [go_sem, ↓reduceIte, Nat.reduceEqDiff, Nat.reduceAdd, Nat.reduceSub, Nat.reduceMul, Nat.reduceLeDiff, reduceCtorEq, Int.reduceToNat, Int.reduceLE, Int.reduceLT]) ?_)); (repeat (first | exact subx_refl | refine subx_in (.head _) ?_ | refine subx_in (.tail _ (.head _)) ?_ | refine subx_in (.tail _ (.tail _ (.head _))) ?_ | refine subx_in (.tail _ (.tail _ (.tail _ (.head _)))) ?_ | refine subx_new (by first | assumption | (simp only [Store.newTok_heap]; assumption)) ?_ | refine subx_tok ?_ | refine subx_newTok (by assumption) ?_)))) ?_
    exact ⟨by rw [if_pos (by omega)], rfl⟩
  · (try simp only [decide_eq_true_eq, decide_eq_false_iff_not, Bool.not_eq_true', Bool.not_eq_false', Bool.and_eq_true, Bool.or_eq_true, Bool.and_eq_false_iff, Bool.or_eq_false_iff, Bool.not_eq_eq_eq_not, Bool.not_true, Bool.not_false, Int.not_le, Int.not_lt, beq_iff_eq] at hc1)
    refine awp_skip ?_
    refine awp_seq ?_
    refine awp_region (by kernel_rfl) ?_
    (refine aL_S rfl rfl (by simp (disch := omega) only [go_sem, wrap_i64, ↓reduceIte, Nat.reduceEqDiff, Nat.reduceAdd, Nat.reduceSub, Nat.reduceMul, Nat.reduceLeDiff, reduceCtorEq, Int.reduceToNat, Int.reduceLE, Int.reduceLT, q1, q2, q3, q4, Nat.zero_mul]; rfl) ?_)
    (refine aL_S rfl rfl (by simp (disch := omega) only [go_sem, wrap_i64, ↓reduceIte, Nat.reduceEqDiff, Nat.reduceAdd, Nat.reduceSub, Nat.reduceMul, Nat.reduceLeDiff, reduceCtorEq, Int.reduceToNat, Int.reduceLE, Int.reduceLT, q1, q2, q3, q4, Nat.zero_mul]; rfl) ?_)
    (refine aL_S rfl rfl (by simp (disch := omega) only [go_sem, wrap_i64, ↓reduceIte, Nat.reduceEqDiff, Nat.reduceAdd, Nat.reduceSub, Nat.reduceMul, Nat.reduceLeDiff, reduceCtorEq, Int.reduceToNat, Int.reduceLE, Int.reduceLT, q1, q2, q3, q4, Nat.zero_mul]; rfl) ?_)
    (refine aL_S rfl rfl (by simp (disch := omega) only [go_sem, wrap_i64, ↓reduceIte, Nat.reduceEqDiff, Nat.reduceAdd, Nat.reduceSub, Nat.reduceMul, Nat.reduceLeDiff, reduceCtorEq, Int.reduceToNat, Int.reduceLE, Int.reduceLT, q1, q2, q3, q4, Nat.zero_mul]; rfl) ?_)
    (refine aL_S rfl rfl (by simp (disch := omega) only [go_sem, wrap_i64, ↓reduceIte, Nat.reduceEqDiff, Nat.reduceAdd, Nat.reduceSub, Nat.reduceMul, Nat.reduceLeDiff, reduceCtorEq, Int.reduceToNat, Int.reduceLE, Int.reduceLT, q1, q2, q3, q4, Nat.zero_mul]; rfl) ?_)
    (refine aL_S rfl rfl (by simp (disch := omega) only [go_sem, wrap_i64, ↓reduceIte, Nat.reduceEqDiff, Nat.reduceAdd, Nat.reduceSub, Nat.reduceMul, Nat.reduceLeDiff, reduceCtorEq, Int.reduceToNat, Int.reduceLE, Int.reduceLT, q1, q2, q3, q4, Nat.zero_mul]; rfl) ?_)
    (refine aL_S rfl rfl (by simp (disch := omega) only [go_sem, wrap_i64, ↓reduceIte, Nat.reduceEqDiff, Nat.reduceAdd, Nat.reduceSub, Nat.reduceMul, Nat.reduceLeDiff, reduceCtorEq, Int.reduceToNat, Int.reduceLE, Int.reduceLT, q1, q2, q3, q4, Nat.zero_mul]; rfl) ?_)
    (refine aL_S rfl rfl (by simp (disch := omega) only [go_sem, wrap_i64, ↓reduceIte, Nat.reduceEqDiff, Nat.reduceAdd, Nat.reduceSub, Nat.reduceMul, Nat.reduceLeDiff, reduceCtorEq, Int.reduceToNat, Int.reduceLE, Int.reduceLT, q1, q2, q3, q4, Nat.zero_mul]; rfl) ?_)
    (refine aL_S rfl rfl (by simp (disch := omega) only [go_sem, wrap_i64, ↓reduceIte, Nat.reduceEqDiff, Nat.reduceAdd, Nat.reduceSub, Nat.reduceMul, Nat.reduceLeDiff, reduceCtorEq, Int.reduceToNat, Int.reduceLE, Int.reduceLT, q1, q2, q3, q4, Nat.zero_mul]; rfl) ?_)
    (refine aL_S rfl rfl (by simp (disch := omega) only [go_sem, wrap_i64, ↓reduceIte, Nat.reduceEqDiff, Nat.reduceAdd, Nat.reduceSub, Nat.reduceMul, Nat.reduceLeDiff, reduceCtorEq, Int.reduceToNat, Int.reduceLE, Int.reduceLT, q1, q2, q3, q4, Nat.zero_mul]; rfl) ?_)
    (refine aL_S rfl rfl (by simp (disch := omega) only [go_sem, wrap_i64, ↓reduceIte, Nat.reduceEqDiff, Nat.reduceAdd, Nat.reduceSub, Nat.reduceMul, Nat.reduceLeDiff, reduceCtorEq, Int.reduceToNat, Int.reduceLE, Int.reduceLT, q1, q2, q3, q4, Nat.zero_mul]; rfl) ?_)
    refine aL_nil ?_
    refine awp_ret ?_
    refine aEnd_ret (σ' := σ) (by simp (disch := omega) only [go_sem, wrap_i64, ↓reduceIte, Nat.reduceEqDiff, Nat.reduceAdd, Nat.reduceSub, Nat.reduceMul, Nat.reduceLeDiff, reduceCtorEq, Int.reduceToNat, Int.reduceLE, Int.reduceLT]; rfl) (by first | exact Store.Wk.refl _ | exact Store.Sub.refl _ | ((try dsimp only); (try simp (disch := assumption) only [Store.newTok_set, Store.newTok_step]); (first | refine subx_start ?_ | refine subx_startS ?_); (repeat (first | refine subx_skip (.head _) ?_ | refine subx_skip (.tail _ (.head _)) ?_ | refine subx_skip (.tail _ (.tail _ (.head _))) ?_ | refine subx_skip (.tail _ (.tail _ (.tail _ (.head _)))) ?_ | refine subx_left (by first | (simp (disch := omega) only [go_sem, ↓reduceIte, Nat.reduceEqDiff, Nat.reduceAdd, Nat.reduceSub, Nat.reduceMul, Nat.reduceLeDiff, reduceCtorEq, Int.reduceToNat, Int.reduceLE, Int.reduceLT]; rfl) | simp (disch := omega) only [go_sem, ↓reduceIte, Nat.reduceEqDiff, Nat.reduceAdd, Nat.reduceSub, Nat.reduceMul, Nat.reduceLeDiff, reduceCtorEq, Int.reduceToNat, Int.reduceLE, Int.reduceLT]) ?_)); (repeat (first | exact subx_refl | refine subx_in (.head _) ?_ | refine subx_in (.tail _ (.head _)) ?_ | refine subx_in (.tail _ (.tail _ (.head _))) ?_ | refine subx_in (.tail _ (.tail _ (.tail _ (.head _)))) ?_ | refine subx_new (by first | assumption | (simp only [Store.newTok_heap]; assumption)) ?_ | refine subx_tok ?_ | refine subx_newTok (by assumption) ?_)))) ?_
    exact ⟨by rw [if_neg (by omega)], rfl⟩
end Go.Proofs.Ytdedpamcpgbgmaa
