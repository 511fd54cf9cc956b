/-
  Claims: shares, the walk. Own work (an AI agent).
-/
import Derived.Test.YtdedpamcpgbgmaaClaimT
set_option linter.all false
set_option maxRecDepth 100000
namespace Go.Proofs.Ytdedpamcpgbgmaa
open Go.Ab
open Go.MapKept (IsKey)

/-- the names so far, with what each has -/
structure Built (ow : List ByteArray) (l : List ByteArray) (E : List Sh) : Prop where
  nm : E.map (·.nm) = onceS l
  has : ∀ x ∈ E, x.has = (cnt ow x.nm : Int) ∧ x.want = 0 ∧ 0 ≤ x.pl ∧ x.pl < l.length
  pl : E.Pairwise fun x y => x.pl < y.pl
  nd : (E.map (·.o)).Nodup
theorem Built.nil (ow : List ByteArray) : Built ow [] [] := ⟨rfl, by simp, by simp, by simp⟩
theorem mem_nm {E : List Sh} {s : ByteArray} : (∃ x ∈ E, x.nm = s) ↔ s ∈ E.map (·.nm) := by simp
theorem idx_neg {l : List ByteArray} {s : ByteArray} : idxI l s < 0 ↔ s ∉ l := by
  constructor
  · intro h hs
    obtain ⟨k, hk, rfl⟩ := List.getElem_of_mem hs
    unfold idxI at h
    cases hf : l.findIdx? (fun x => decide (x = l[k])) with
    | none =>
      have := List.findIdx?_eq_none_iff.1 hf l[k] (List.getElem_mem hk)
      simp at this
    | some j => rw [hf] at h; simp at h; omega
  · intro h
    rw [idx_none fun k x hx hh => h (by rw [← hh]; exact List.mem_of_getElem? hx)]
    decide
theorem Built.new {ow l : List ByteArray} {E : List Sh} {s : ByteArray} {o : Nat} (h : Built ow l E) (hs : ∀ x ∈ E, x.nm ≠ s) (ho : ∀ x ∈ E, x.o ≠ o) : Built ow (l ++ [s]) (E ++ [⟨o, s, l.length, (cnt ow s : Int), 0⟩]) := by
  have hno : s ∉ onceS l := by
    rw [← h.nm]
    intro hh
    obtain ⟨x, hx, e⟩ := List.mem_map.1 hh
    exact hs x hx e
  refine ⟨?_, fun x hx => ?_, ?_, ?_⟩
  · rw [List.map_append, h.nm]
    unfold onceS
    rw [List.foldl_append]
    show _ = stepO (onceS l) s
    unfold stepO
    rw [if_pos (idx_neg.2 hno)]
    rfl
  · rw [List.length_append]
    rcases List.mem_append.1 hx with hx | hx
    · obtain ⟨h1, h2, h3, h4⟩ := h.has x hx
      exact ⟨h1, h2, h3, by simp; omega⟩
    · obtain rfl := List.mem_singleton.1 hx
      exact ⟨rfl, rfl, by simp, by simp; omega⟩
  · rw [List.pairwise_append]
    refine ⟨h.pl, by simp, fun x hx y hy => ?_⟩
    obtain rfl := List.mem_singleton.1 hy
    exact (h.has x hx).2.2.2
  · rw [List.map_append, List.nodup_append]
    refine ⟨h.nd, by simp, fun a ha b hb => ?_⟩
    obtain ⟨x, hx, rfl⟩ := List.mem_map.1 ha
    obtain rfl : b = o := by simpa using hb
    exact ho x hx
theorem Built.old {ow l : List ByteArray} {E : List Sh} {s : ByteArray} (h : Built ow l E) (hs : ∃ x ∈ E, x.nm = s) : Built ow (l ++ [s]) E := by
  refine ⟨?_, fun x hx => ?_, h.pl, h.nd⟩
  · have hin : s ∈ onceS l := by rw [← h.nm]; exact mem_nm.1 hs
    rw [h.nm]
    unfold onceS
    rw [List.foldl_append]
    show _ = stepO (onceS l) s
    unfold stepO
    rw [if_neg (by rw [idx_neg]; exact fun hh => hh hin)]
    rfl
  · obtain ⟨h1, h2, h3, h4⟩ := h.has x hx
    exact ⟨h1, h2, h3, by rw [List.length_append]; simp; omega⟩

/-- an object is one's own name's -/
theorem byV_cases (E : List Sh) (s : ByteArray) : (byV E s = .lit (.pointer none) ∧ ∀ x ∈ E, x.nm ≠ s) ∨ ∃ x, byV E s = .ref x.o 0 ∧ x ∈ E ∧ x.nm = s ∧ E.find? (fun x => decide (x.nm = s)) = some x := by
  cases hf : E.find? (fun x => decide (x.nm = s)) with
  | none =>
    have h := fun x hx => by simpa using List.find?_eq_none.1 hf x hx
    exact .inl ⟨byV_none h, h⟩
  | some x => exact .inr ⟨x, byV_some hf, List.mem_of_find?_eq_some hf, by simpa using List.find?_some hf, rfl⟩
theorem byL_keys {E : List Sh} {s : ByteArray} (h : ∀ x ∈ E, x.nm ≠ s) : ∀ p ∈ byL E, p.1 ≠ s := by
  intro p hp
  obtain ⟨x, hx, rfl⟩ := List.mem_map.1 hp
  exact h x hx
theorem byV_snoc {E : List Sh} {x : Sh} (h : ∀ y ∈ E, y.nm ≠ x.nm) : byV (E ++ [x]) x.nm = .ref x.o 0 := by
  refine byV_some ?_
  rw [List.find?_append, List.find?_eq_none.2 fun y hy => by simpa using h y hy]
  simp

/-- what the sort and the sharing out make of one -/
def updS (q : Int) (r j : Nat) (x : Sh) : Sh := { x with has := 0, want := q + if j < r then 1 else 0 }
/-- where it stands in the order -/
def rank (E : List Sh) (x : Sh) : Nat := E.countP fun z => decide (ahd z x)
def shared (E : List Sh) (n : Nat) : List Sh := E.map fun x => updS ((n / E.length : Nat) : Int) (n % E.length) (rank E x) x

theorem once_pos {l : List ByteArray} (h : 0 < l.length) : 0 < (onceS l).length := by
  have grow : ∀ (l out : List ByteArray), out.length ≤ (l.foldl stepO out).length := by
    intro l
    induction l with
    | nil => intro out; exact Nat.le_refl _
    | cons x l ih =>
      intro out
      rw [List.foldl_cons]
      refine Nat.le_trans ?_ (ih _)
      unfold stepO
      split <;> simp
  cases l with
  | nil => simp at h
  | cons x l =>
    unfold onceS
    rw [List.foldl_cons]
    refine Nat.lt_of_lt_of_le ?_ (grow l _)
    have : stepO [] x = [x] := by
      unfold stepO
      rw [if_pos (idx_neg.2 (by simp))]; rfl
    rw [this]; simp

/-- where one stands in the order, counted -/
theorem rank_of {E S : List Sh} (hp : S.Perm E) (hs : S.Pairwise ahd) {m : Nat} {y : Sh} (hy : S[m]? = some y) : rank E y = m := by
  obtain ⟨hm, rfl⟩ := List.getElem?_eq_some_iff.1 hy
  unfold rank
  rw [← hp.countP_eq]
  have e : S = S.take m ++ S[m] :: S.drop (m + 1) := by rw [← List.drop_eq_getElem_cons hm, List.take_append_drop]
  have h1 : (S.take m).countP (fun z => decide (ahd z S[m])) = m := by
    have hl : (S.take m).length = m := by simp; omega
    rw [List.countP_eq_length.2 fun x hx => ?_, hl]
    obtain ⟨k, hk, rfl⟩ := List.getElem_of_mem hx
    rw [hl] at hk
    rw [List.getElem_take]
    simpa using List.pairwise_iff_getElem.1 hs k m (by omega) hm hk
  have h2 : (S.drop (m + 1)).countP (fun z => decide (ahd z S[m])) = 0 := by
    rw [List.countP_eq_zero]
    intro x hx
    obtain ⟨k, hk, rfl⟩ := List.getElem_of_mem hx
    rw [List.getElem_drop]
    have := List.pairwise_iff_getElem.1 hs m (m + 1 + k) hm (by simp at hk; omega) (by omega)
    simp only [decide_eq_true_eq]
    unfold ahd at this ⊢
    omega
  have h3 : ¬ ahd S[m] S[m] := by unfold ahd; omega
  calc S.countP (fun z => decide (ahd z S[m])) = (S.take m ++ S[m] :: S.drop (m + 1)).countP (fun z => decide (ahd z S[m])) := by rw [← e]
    _ = m := by rw [List.countP_append, List.countP_cons, h1, h2]; simp [h3]

theorem upd_step {υ : Store} {S : List Sh} {q : Int} {r j : Nat} {x : Sh} (hnd : (S.map (·.o)).Nodup) (hx : S[j]? = some x) (h : ∀ (m : Nat) y, S[m]? = some y → υ.heap y.o = some (shC (if m < j then updS q r m y else y))) :
    ∀ (m : Nat) y, S[m]? = some y → (υ.set x.o (shC (updS q r j x))).heap y.o = some (shC (if m < j + 1 then updS q r m y else y)) := by
  intro m y hy
  by_cases hm : m = j
  · subst hm
    rw [hx] at hy
    obtain rfl := Option.some.inj hy
    rw [Store.set_get, if_pos (Nat.lt_succ_self m)]
  · have hne : y.o ≠ x.o := by
      intro hh
      obtain ⟨h1, rfl⟩ := List.getElem?_eq_some_iff.1 hx
      obtain ⟨h2, rfl⟩ := List.getElem?_eq_some_iff.1 hy
      rcases Nat.lt_or_gt_of_ne hm with hlt | hlt
      · exact List.pairwise_iff_getElem.1 hnd m j (by simpa using h2) (by simpa using h1) hlt (by simpa using hh)
      · exact List.pairwise_iff_getElem.1 hnd j m (by simpa using h1) (by simpa using h2) hlt (by simpa using hh.symm)
    rw [Store.set_ne _ _ hne, h m y hy]
    by_cases h1 : m < j
    · rw [if_pos h1, if_pos (by omega)]
    · rw [if_neg h1, if_neg (by omega)]

theorem shares_c {ow nm : List ByteArray} {σ : Store} {to tn : Bool} (ho : ow.length ≤ 40) (hn : nm.length ≤ 10) (h0 : 0 < nm.length) : ACalls Try.prog 64 [.sl 1 (ow.map sS) to, .sl 1 (nm.map sS) tn] σ fun v σ' => ∃ E om, v = .tup [.sl 1 (E.map fun x => .ref x.o 0) false, .map om] ∧ Built ow nm E ∧ (∀ x ∈ shared E ow.length, σ'.heap x.o = some (shC x)) ∧
      σ'.heap om = some (.map (kvS (byL E))) ∧ Fr σ [] σ' (E.map (·.o)) := by
  refine ACalls_of Try.func64 rfl Try.ntmps64 (congrArg Array.toList Try.results64) (by simp only [List.length_cons, List.length_nil]; decide) ?_; simp only [envOf_cons, envOf_nil, Nat.reduceAdd]
  refine awp_seq ?_
  refine awp_region (by kernel_rfl) ?_
  iterate 2 (refine aL_S rfl rfl (by simp (disch := omega) only [go_sem, wrap_i64, ↓reduceIte, Nat.reduceEqDiff, Nat.reduceAdd, Nat.reduceSub, Nat.reduceMul, Nat.reduceLeDiff, reduceCtorEq, Int.reduceToNat, Int.reduceLE, Int.reduceLT]; rfl) ?_)
  refine aL_nil ?_
  refine awp_seq ?_
  refine awp_region (by kernel_rfl) ?_
  refine aL_nilOwn 99 1 rfl rfl rfl (by rfl) fun k6 hk6 => ?_
  refine aL_nil ?_
  refine awp_seq ?_
  refine awp_region (by kernel_rfl) ?_
  refine aL_X rfl rfl (AOp_makeMap rfl fun o14 ho14 => ?_)
  repeat (rw [none_set_iff] at ho14; obtain ⟨_, ho14⟩ := ho14)
  (refine aL_S rfl rfl (by simp (disch := omega) only [go_sem, wrap_i64, ↓reduceIte, Nat.reduceEqDiff, Nat.reduceAdd, Nat.reduceSub, Nat.reduceMul, Nat.reduceLeDiff, reduceCtorEq, Int.reduceToNat, Int.reduceLE, Int.reduceLT]; rfl) ?_)
  refine aL_nil ?_
  refine awp_seq ?_
  refine awp_region (by kernel_rfl) ?_
  iterate 2 (refine aL_S rfl rfl (by simp (disch := omega) only [go_sem, wrap_i64, ↓reduceIte, Nat.reduceEqDiff, Nat.reduceAdd, Nat.reduceSub, Nat.reduceMul, Nat.reduceLeDiff, reduceCtorEq, Int.reduceToNat, Int.reduceLE, Int.reduceLT]; rfl) ?_)
  refine aL_X rfl rfl (AOp_use rfl rfl (.inr ⟨rfl, rfl, rfl⟩) (by simp only [go_sem]) (by first | (simp (disch := omega) only [go_sem, wrap_i64, ↓reduceIte, Nat.reduceEqDiff, Nat.reduceAdd, Nat.reduceSub, Nat.reduceMul, Nat.reduceLeDiff, reduceCtorEq, Int.reduceToNat, Int.reduceLE, Int.reduceLT]; rfl) | (simp (disch := omega) only [go_sem, wrap_i64, ↓reduceIte, Nat.reduceEqDiff, Nat.reduceAdd, Nat.reduceSub, Nat.reduceMul, Nat.reduceLeDiff, reduceCtorEq, Int.reduceToNat, Int.reduceLE, Int.reduceLT])) (loads_c (by omega) (by omega)) ?_); rintro _ τ0 ⟨rfl, f0⟩
  (refine aL_S rfl rfl (by simp (disch := omega) only [go_sem, wrap_i64, ↓reduceIte, Nat.reduceEqDiff, Nat.reduceAdd, Nat.reduceSub, Nat.reduceMul, Nat.reduceLeDiff, reduceCtorEq, Int.reduceToNat, Int.reduceLE, Int.reduceLT]; rfl) ?_)
  refine aL_nil ?_
  refine awp_seq ?_
  refine awp_seq ?_
  refine awp_region (by kernel_rfl) ?_
  iterate 3 (refine aL_S rfl rfl (by simp (disch := omega) only [go_sem, wrap_i64, ↓reduceIte, Nat.reduceEqDiff, Nat.reduceAdd, Nat.reduceSub, Nat.reduceMul, Nat.reduceLeDiff, reduceCtorEq, Int.reduceToNat, Int.reduceLE, Int.reduceLT]; rfl) ?_)
  refine aL_nil ?_
  refine awp_block ?_
  refine awp_loop_env (ι := Store × Nat × List Sh × Nat) (fun ⟨τ, i, E, k⟩ => nm.length - i) (fun ⟨τ, i, E, k⟩ => i ≤ nm.length ∧ Built ow (nm.take i) E ∧ (∀ x ∈ E, τ.heap x.o = some (shC x)) ∧ τ.heap o14 = some (.map (kvS (byL E))) ∧ Fr σ [] τ (E.map (·.o)) ∧ τ.tok k = some (99, 1) ∧ σ.tok k = none) (fun ⟨τ, i, E, k⟩ => [(0, .sl 1 (ow.map sS) to), (6, .own k 1 (E.map fun x => .ref x.o 0)), (7, .map o14), (8, .sl 1 ((loadsS ow nm).map vInt) false), (18, .sl 1 (nm.map sS) tn), (19, vInt nm.length), (20, vInt i)]) (fun ⟨τ, i, E, k⟩ => τ) (τ0, 0, [], k6) ?_ ?_ ?_ ?_
  · exact ⟨Nat.zero_le _, Built.nil ow, by simp, (f0.sub.1 o14 _ (by simp) (Store.set_get ..)), (((Fr.refl σ []).newTok (fun j hj => by cases hj) hk6).alloc ho14).trans f0, f0.sub.2 _ _ (by rw [Store.set_tok]; exact Store.newTok_get ..), hk6⟩
  · ((repeat (refine covers.eq (by first | rfl | (simp (disch := omega) only [go_sem, wrap_i64, ↓reduceIte, Nat.reduceEqDiff, Nat.reduceAdd, Nat.reduceSub, Nat.reduceMul, Nat.reduceLeDiff, reduceCtorEq, Int.reduceToNat, Int.reduceLE, Int.reduceLT]; rfl) | (simp (disch := omega) only [go_sem, wrap_i64, ↓reduceIte, Nat.reduceEqDiff, Nat.reduceAdd, Nat.reduceSub, Nat.reduceMul, Nat.reduceLeDiff, reduceCtorEq, Int.reduceToNat, Int.reduceLE, Int.reduceLT])) ?_)); exact covers.nil)
  · exact Store.Wk.refl _
  rintro ⟨τ, i, E, k⟩ ⟨h1, hB, hE, hm, hF, hk, hks⟩
  simp only [envL_cons, envL_nil]
  refine awp_seq ?_
  refine awp_region (by kernel_rfl) ?_
  (refine aL_S rfl rfl (by simp (disch := omega) only [go_sem, wrap_i64, ↓reduceIte, Nat.reduceEqDiff, Nat.reduceAdd, Nat.reduceSub, Nat.reduceMul, Nat.reduceLeDiff, reduceCtorEq, Int.reduceToNat, Int.reduceLE, Int.reduceLT]; rfl) ?_)
  refine aL_nil ?_
  refine awp_seq ?_
  refine awp_cond (by simp (disch := omega) only [go_sem, wrap_i64, ↓reduceIte, Nat.reduceEqDiff, Nat.reduceAdd, Nat.reduceSub, Nat.reduceMul, Nat.reduceLeDiff, reduceCtorEq, Int.reduceToNat, Int.reduceLE, Int.reduceLT]; rfl) (fun hc5 => ?_) (fun hc5 => ?_)
  · (try simp only [decide_eq_true_eq, decide_eq_false_iff_not, Bool.not_eq_true', Bool.not_eq_false', Bool.and_eq_true, Bool.or_eq_true, Bool.and_eq_false_iff, Bool.or_eq_false_iff, Bool.not_eq_eq_eq_not, Bool.not_true, Bool.not_false, Int.not_le, Int.not_lt, beq_iff_eq] at hc5)
    refine awp_skip ?_
    refine awp_seq ?_
    refine awp_block ?_
    refine awp_seq ?_
    have hi : i < nm.length := by omega
    obtain ⟨s, hs⟩ := getS hi
    have hlo : (loadsS ow nm)[i]? = some (cnt ow s : Int) := by unfold loadsS; rw [List.getElem?_map, hs]; rfl
    have htk : nm.take (i + 1) = nm.take i ++ [s] := by rw [List.take_succ, hs]; rfl
    refine awp_region (by kernel_rfl) ?_
    (refine aL_S rfl rfl (by simp (disch := omega) only [go_sem, wrap_i64, ↓reduceIte, Nat.reduceEqDiff, Nat.reduceAdd, Nat.reduceSub, Nat.reduceMul, Nat.reduceLeDiff, reduceCtorEq, Int.reduceToNat, Int.reduceLE, Int.reduceLT, List.getElem?_map, hs]; rfl) ?_)
    (refine aL_S rfl rfl (by simp (disch := omega) only [go_sem, wrap_i64, ↓reduceIte, Nat.reduceEqDiff, Nat.reduceAdd, Nat.reduceSub, Nat.reduceMul, Nat.reduceLeDiff, reduceCtorEq, Int.reduceToNat, Int.reduceLE, Int.reduceLT, List.getElem?_map, hs]; rfl) ?_)
    (refine aL_S rfl rfl (by simp (disch := omega) only [go_sem, wrap_i64, ↓reduceIte, Nat.reduceEqDiff, Nat.reduceAdd, Nat.reduceSub, Nat.reduceMul, Nat.reduceLeDiff, reduceCtorEq, Int.reduceToNat, Int.reduceLE, Int.reduceLT, List.getElem?_map, hs]; rfl) ?_)
    (refine aL_S rfl rfl (by simp (disch := omega) only [go_sem, wrap_i64, ↓reduceIte, Nat.reduceEqDiff, Nat.reduceAdd, Nat.reduceSub, Nat.reduceMul, Nat.reduceLeDiff, reduceCtorEq, Int.reduceToNat, Int.reduceLE, Int.reduceLT, List.getElem?_map, hs]; rfl) ?_)
    (refine aL_S rfl rfl (by simp (disch := omega) only [go_sem, wrap_i64, ↓reduceIte, Nat.reduceEqDiff, Nat.reduceAdd, Nat.reduceSub, Nat.reduceMul, Nat.reduceLeDiff, reduceCtorEq, Int.reduceToNat, Int.reduceLE, Int.reduceLT, List.getElem?_map, hs]; rfl) ?_)
    refine aL_nil ?_
    refine awp_seq ?_
    rcases byV_cases E s with ⟨hby, hno⟩ | ⟨x, hby, hxE, hxs, _⟩
    · have hlk := look_S hm s
      refine awp_region (by kernel_rfl) ?_
      (refine aL_S rfl rfl (by simp (disch := omega) only [go_sem, wrap_i64, ↓reduceIte, Nat.reduceEqDiff, Nat.reduceAdd, Nat.reduceSub, Nat.reduceMul, Nat.reduceLeDiff, reduceCtorEq, Int.reduceToNat, Int.reduceLE, Int.reduceLT, hlk, hby]; rfl) ?_)
      (refine aL_S rfl rfl (by simp (disch := omega) only [go_sem, wrap_i64, ↓reduceIte, Nat.reduceEqDiff, Nat.reduceAdd, Nat.reduceSub, Nat.reduceMul, Nat.reduceLeDiff, reduceCtorEq, Int.reduceToNat, Int.reduceLE, Int.reduceLT, hlk, hby]; rfl) ?_)
      (refine aL_S rfl rfl (by simp (disch := omega) only [go_sem, wrap_i64, ↓reduceIte, Nat.reduceEqDiff, Nat.reduceAdd, Nat.reduceSub, Nat.reduceMul, Nat.reduceLeDiff, reduceCtorEq, Int.reduceToNat, Int.reduceLE, Int.reduceLT, hlk, hby]; rfl) ?_)
      (refine aL_S rfl rfl (by simp (disch := omega) only [go_sem, wrap_i64, ↓reduceIte, Nat.reduceEqDiff, Nat.reduceAdd, Nat.reduceSub, Nat.reduceMul, Nat.reduceLeDiff, reduceCtorEq, Int.reduceToNat, Int.reduceLE, Int.reduceLT, hlk, hby]; rfl) ?_)
      refine aL_nil ?_
      refine awp_cond (by simp (disch := omega) only [go_sem, wrap_i64, ↓reduceIte, Nat.reduceEqDiff, Nat.reduceAdd, Nat.reduceSub, Nat.reduceMul, Nat.reduceLeDiff, reduceCtorEq, Int.reduceToNat, Int.reduceLE, Int.reduceLT]; rfl) (fun hc7 => ?_) (fun hc7 => ?_)
      · (try simp only [decide_eq_true_eq, decide_eq_false_iff_not, Bool.not_eq_true', Bool.not_eq_false', Bool.and_eq_true, Bool.or_eq_true, Bool.and_eq_false_iff, Bool.or_eq_false_iff, Bool.not_eq_eq_eq_not, Bool.not_true, Bool.not_false, Int.not_le, Int.not_lt, beq_iff_eq] at hc7)
        first
          | (cases hc7; done)
          | skip
            refine awp_seq ?_
            refine awp_region (by kernel_rfl) ?_
            (refine aL_S rfl rfl (by simp (disch := omega) only [go_sem, wrap_i64, ↓reduceIte, Nat.reduceEqDiff, Nat.reduceAdd, Nat.reduceSub, Nat.reduceMul, Nat.reduceLeDiff, reduceCtorEq, Int.reduceToNat, Int.reduceLE, Int.reduceLT, List.getElem?_map, hlo, hm]; rfl) ?_)
            (refine aL_S rfl rfl (by simp (disch := omega) only [go_sem, wrap_i64, ↓reduceIte, Nat.reduceEqDiff, Nat.reduceAdd, Nat.reduceSub, Nat.reduceMul, Nat.reduceLeDiff, reduceCtorEq, Int.reduceToNat, Int.reduceLE, Int.reduceLT, List.getElem?_map, hlo, hm]; rfl) ?_)
            (refine aL_S rfl rfl (by simp (disch := omega) only [go_sem, wrap_i64, ↓reduceIte, Nat.reduceEqDiff, Nat.reduceAdd, Nat.reduceSub, Nat.reduceMul, Nat.reduceLeDiff, reduceCtorEq, Int.reduceToNat, Int.reduceLE, Int.reduceLT, List.getElem?_map, hlo, hm]; rfl) ?_)
            (refine aL_S rfl rfl (by simp (disch := omega) only [go_sem, wrap_i64, ↓reduceIte, Nat.reduceEqDiff, Nat.reduceAdd, Nat.reduceSub, Nat.reduceMul, Nat.reduceLeDiff, reduceCtorEq, Int.reduceToNat, Int.reduceLE, Int.reduceLT, List.getElem?_map, hlo, hm]; rfl) ?_)
            (refine aL_S rfl rfl (by simp (disch := omega) only [go_sem, wrap_i64, ↓reduceIte, Nat.reduceEqDiff, Nat.reduceAdd, Nat.reduceSub, Nat.reduceMul, Nat.reduceLeDiff, reduceCtorEq, Int.reduceToNat, Int.reduceLE, Int.reduceLT, List.getElem?_map, hlo, hm]; rfl) ?_)
            (refine aL_S rfl rfl (by simp (disch := omega) only [go_sem, wrap_i64, ↓reduceIte, Nat.reduceEqDiff, Nat.reduceAdd, Nat.reduceSub, Nat.reduceMul, Nat.reduceLeDiff, reduceCtorEq, Int.reduceToNat, Int.reduceLE, Int.reduceLT, List.getElem?_map, hlo, hm]; rfl) ?_)
            (refine aL_S rfl rfl (by simp (disch := omega) only [go_sem, wrap_i64, ↓reduceIte, Nat.reduceEqDiff, Nat.reduceAdd, Nat.reduceSub, Nat.reduceMul, Nat.reduceLeDiff, reduceCtorEq, Int.reduceToNat, Int.reduceLE, Int.reduceLT, List.getElem?_map, hlo, hm]; rfl) ?_)
            (refine aL_S rfl rfl (by simp (disch := omega) only [go_sem, wrap_i64, ↓reduceIte, Nat.reduceEqDiff, Nat.reduceAdd, Nat.reduceSub, Nat.reduceMul, Nat.reduceLeDiff, reduceCtorEq, Int.reduceToNat, Int.reduceLE, Int.reduceLT, List.getElem?_map, hlo, hm]; rfl) ?_)
            (refine aL_S rfl rfl (by simp (disch := omega) only [go_sem, wrap_i64, ↓reduceIte, Nat.reduceEqDiff, Nat.reduceAdd, Nat.reduceSub, Nat.reduceMul, Nat.reduceLeDiff, reduceCtorEq, Int.reduceToNat, Int.reduceLE, Int.reduceLT, List.getElem?_map, hlo, hm]; rfl) ?_)
            refine aL_box rfl rfl rfl (by simp (disch := omega) only [go_sem, wrap_i64, ↓reduceIte, Nat.reduceEqDiff, Nat.reduceAdd, Nat.reduceSub, Nat.reduceMul, Nat.reduceLeDiff, reduceCtorEq, Int.reduceToNat, Int.reduceLE, Int.reduceLT, List.getElem?_map, hlo, hm]; rfl) rfl (by simp only [go_sem]; rfl) fun o38 ho38 => ?_
            repeat (rw [none_set_iff] at ho38; obtain ⟨_, ho38⟩ := ho38)
            have hmo := ne_of_heap hm ho38
            refine aL_X0 rfl rfl (AOp_mapUpdate rfl (by first | (simp only [go_sem]; rfl) | simp only [go_sem]) (by first | (simp only [go_sem]; rfl) | simp only [go_sem]) (by simp (disch := omega) only [go_sem, wrap_i64, ↓reduceIte, Nat.reduceEqDiff, Nat.reduceAdd, Nat.reduceSub, Nat.reduceMul, Nat.reduceLeDiff, reduceCtorEq, Int.reduceToNat, Int.reduceLE, Int.reduceLT, List.getElem?_map, hlo, hm]; rfl) (by first | (simp (disch := omega) only [go_sem, ↓reduceIte, Nat.reduceEqDiff, Nat.reduceAdd, Nat.reduceSub, Nat.reduceMul, Nat.reduceLeDiff, reduceCtorEq, Int.reduceToNat, Int.reduceLE, Int.reduceLT, List.getElem?_map, hlo, hm]; rfl) | simp (disch := omega) only [go_sem, ↓reduceIte, Nat.reduceEqDiff, Nat.reduceAdd, Nat.reduceSub, Nat.reduceMul, Nat.reduceLeDiff, reduceCtorEq, Int.reduceToNat, Int.reduceLE, Int.reduceLT, List.getElem?_map, hlo, hm]) (by simp (disch := omega) only [go_sem, wrap_i64, ↓reduceIte, Nat.reduceEqDiff, Nat.reduceAdd, Nat.reduceSub, Nat.reduceMul, Nat.reduceLeDiff, reduceCtorEq, Int.reduceToNat, Int.reduceLE, Int.reduceLT, List.getElem?_map, hlo, hm]; rfl) (by first | rfl | trivial | simp [Go.MapKept.IsKey]) (by exact kvS_keys (byL E)) (by simp (disch := omega) only [go_sem, wrap_i64, ↓reduceIte, Nat.reduceEqDiff, Nat.reduceAdd, Nat.reduceSub, Nat.reduceMul, Nat.reduceLeDiff, reduceCtorEq, Int.reduceToNat, Int.reduceLE, Int.reduceLT, List.getElem?_map, hlo, hm]; rfl) ?_)
            refine aL_nil ?_
            rw [kvPut_S (byL_keys hno), show byL E ++ [(s, o38)] = byL (E ++ [⟨o38, s, (i : Int), (cnt ow s : Int), 0⟩]) from by simp [byL]]
            have hm1 : ((τ.set o38 (shC ⟨o38, s, (i : Int), (cnt ow s : Int), 0⟩)).set o14 (.map (kvS (byL (E ++ [⟨o38, s, (i : Int), (cnt ow s : Int), 0⟩]))))).heap o14 = some (.map (kvS (byL (E ++ [⟨o38, s, (i : Int), (cnt ow s : Int), 0⟩])))) := Store.set_get ..
            have hlk2 := look_S hm1 s
            rw [byV_snoc (x := ⟨o38, s, (i : Int), (cnt ow s : Int), 0⟩) hno] at hlk2
            simp only [shC] at hlk2
            have hxo : ∀ x ∈ E, x.o ≠ o38 := fun x hx => ne_of_heap (hE x hx) ho38
            have hxm : ∀ x ∈ E, x.o ≠ o14 := fun x hx hh => by have := hE x hx; rw [hh, hm] at this; cases this
            have hil : (nm.take i).length = i := by simp; omega
            have hB2 := hB.new hno hxo
            rw [hil] at hB2
            have hE2 : ∀ x ∈ E ++ [⟨o38, s, (i : Int), (cnt ow s : Int), 0⟩], ((τ.set o38 (shC ⟨o38, s, (i : Int), (cnt ow s : Int), 0⟩)).set o14 (.map (kvS (byL (E ++ [⟨o38, s, (i : Int), (cnt ow s : Int), 0⟩]))))).heap x.o = some (shC x) := fun x hx => by
              rcases List.mem_append.1 hx with hx | hx
              · rw [Store.set_ne _ _ (hxm x hx), Store.set_ne _ _ (hxo x hx)]; exact hE x hx
              · obtain rfl := List.mem_singleton.1 hx
                rw [Store.set_ne _ _ (Ne.symm hmo), Store.set_get]
            have hlE : E.length ≤ 10 := by
              have := congrArg List.length hB.nm
              rw [List.length_map] at this
              have h2 := once_le (nm.take i)
              omega
            refine awp_region (by kernel_rfl) ?_
            (refine aL_S rfl rfl (by simp (disch := omega) only [go_sem, wrap_i64, ↓reduceIte, Nat.reduceEqDiff, Nat.reduceAdd, Nat.reduceSub, Nat.reduceMul, Nat.reduceLeDiff, reduceCtorEq, Int.reduceToNat, Int.reduceLE, Int.reduceLT, hlk2, hk]; rfl) ?_)
            (refine aL_S rfl rfl (by simp (disch := omega) only [go_sem, wrap_i64, ↓reduceIte, Nat.reduceEqDiff, Nat.reduceAdd, Nat.reduceSub, Nat.reduceMul, Nat.reduceLeDiff, reduceCtorEq, Int.reduceToNat, Int.reduceLE, Int.reduceLT, hlk2, hk]; rfl) ?_)
            (refine aL_S rfl rfl (by simp (disch := omega) only [go_sem, wrap_i64, ↓reduceIte, Nat.reduceEqDiff, Nat.reduceAdd, Nat.reduceSub, Nat.reduceMul, Nat.reduceLeDiff, reduceCtorEq, Int.reduceToNat, Int.reduceLE, Int.reduceLT, hlk2, hk]; rfl) ?_)
            (refine aL_S rfl rfl (by simp (disch := omega) only [go_sem, wrap_i64, ↓reduceIte, Nat.reduceEqDiff, Nat.reduceAdd, Nat.reduceSub, Nat.reduceMul, Nat.reduceLeDiff, reduceCtorEq, Int.reduceToNat, Int.reduceLE, Int.reduceLT, hlk2, hk]; rfl) ?_)
            refine aL_buildSlice rfl rfl rfl (by simp only [go_sem]; rfl) (by simp only [go_sem]; rfl) rfl rfl (by simp (disch := omega) only [go_sem, ↓reduceIte, Nat.reduceEqDiff, Nat.reduceAdd, Nat.reduceSub, Nat.reduceMul, Nat.reduceLeDiff, reduceCtorEq, Int.reduceToNat, Int.reduceLE, Int.reduceLT, hlk2, hk]; rfl) (by simp [go_sem, AVal.one, AVal.cells, AVal.solid]) (by decide) ?_
            refine aL_append rfl rfl rfl (by simp only [go_sem]; rfl) (by simp only [go_sem]; rfl) (by simp (disch := omega) only [go_sem, wrap_i64, ↓reduceIte, Nat.reduceEqDiff, Nat.reduceAdd, Nat.reduceSub, Nat.reduceMul, Nat.reduceLeDiff, reduceCtorEq, Int.reduceToNat, Int.reduceLE, Int.reduceLT, hlk2, hk]; rfl) (by simp (disch := omega) only [go_sem, ↓reduceIte, Nat.reduceEqDiff, Nat.reduceAdd, Nat.reduceSub, Nat.reduceMul, Nat.reduceLeDiff, reduceCtorEq, Int.reduceToNat, Int.reduceLE, Int.reduceLT, hlk2, hk]) (by simp (disch := omega) only [go_sem, wrap_i64, ↓reduceIte, Nat.reduceEqDiff, Nat.reduceAdd, Nat.reduceSub, Nat.reduceMul, Nat.reduceLeDiff, reduceCtorEq, Int.reduceToNat, Int.reduceLE, Int.reduceLT, hlk2, hk]; rfl) (by simp [AVal.one, AVal.cells]) (by simp; omega) fun k44 hk44 => ?_
            (refine aL_S rfl rfl (by simp (disch := omega) only [go_sem, wrap_i64, ↓reduceIte, Nat.reduceEqDiff, Nat.reduceAdd, Nat.reduceSub, Nat.reduceMul, Nat.reduceLeDiff, reduceCtorEq, Int.reduceToNat, Int.reduceLE, Int.reduceLT, hlk2, hk]; rfl) ?_)
            refine aL_nil ?_
            have hm2 := hm1
            have hF2 : Fr σ [] (((τ.set o38 (shC ⟨o38, s, (i : Int), (cnt ow s : Int), 0⟩)).set o14 (.map (kvS (byL (E ++ [⟨o38, s, (i : Int), (cnt ow s : Int), 0⟩]))))).newTok (some k) k44 (99, 1)) ((E ++ [(⟨o38, s, (i : Int), (cnt ow s : Int), 0⟩ : Sh)]).map (·.o)) := by
              have hmn : σ.heap o14 = none := ho14
              have f1 := hF.setNew (x := shC ⟨o38, s, (i : Int), (cnt ow s : Int), 0⟩) ho38
              have f2 : Fr σ [] ((τ.set o38 (shC ⟨o38, s, (i : Int), (cnt ow s : Int), 0⟩)).set o14 (.map (kvS (byL (E ++ [⟨o38, s, (i : Int), (cnt ow s : Int), 0⟩]))))) (o38 :: E.map (·.o)) :=
                ⟨⟨fun j y hj hy => by rw [Store.set_ne _ _ (fun hh => by rw [hh, hmn] at hy; cases hy)]; exact f1.sub.1 j y hj hy, f1.sub.2⟩, f1.new⟩
              exact (f2.newTok (fun j hj => by cases hj; exact hks) hk44).less (by intro j hj; simp at hj ⊢; rcases hj with h | h; exact .inr h; exact .inl h)
            refine awp_region (by kernel_rfl) ?_
            iterate 2 (refine aL_S rfl rfl (by simp (disch := omega) only [go_sem, wrap_i64, ↓reduceIte, Nat.reduceEqDiff, Nat.reduceAdd, Nat.reduceSub, Nat.reduceMul, Nat.reduceLeDiff, reduceCtorEq, Int.reduceToNat, Int.reduceLE, Int.reduceLT]; rfl) ?_)
            refine aL_nil ?_
            refine aNext (ι := Store × Nat × List Sh × Nat) (i := ⟨τ, i, E, k⟩) (((τ.set o38 (shC ⟨o38, s, (i : Int), (cnt ow s : Int), 0⟩)).set o14 (.map (kvS (byL (E ++ [⟨o38, s, (i : Int), (cnt ow s : Int), 0⟩]))))).newTok (some k) k44 (99, 1), i + 1, E ++ [⟨o38, s, (i : Int), (cnt ow s : Int), 0⟩], k44) ?_ ?_ ?_ ?_
            · show nm.length - (i + 1) < nm.length - i; omega
            · exact ⟨hi, by rw [htk]; exact hB2, hE2, hm2, hF2, Store.newTok_get .., hF.noTok hk44⟩
            · ((repeat (refine covers.eq (by first | rfl | (simp (disch := omega) only [go_sem, wrap_i64, ↓reduceIte, Nat.reduceEqDiff, Nat.reduceAdd, Nat.reduceSub, Nat.reduceMul, Nat.reduceLeDiff, reduceCtorEq, Int.reduceToNat, Int.reduceLE, Int.reduceLT, List.map_append]; rfl) | (simp (disch := omega) only [go_sem, wrap_i64, ↓reduceIte, Nat.reduceEqDiff, Nat.reduceAdd, Nat.reduceSub, Nat.reduceMul, Nat.reduceLeDiff, reduceCtorEq, Int.reduceToNat, Int.reduceLE, Int.reduceLT, List.map_append])) ?_)); exact covers.nil)
            · exact Store.Wk.refl _
      · (try simp only [decide_eq_true_eq, decide_eq_false_iff_not, Bool.not_eq_true', Bool.not_eq_false', Bool.and_eq_true, Bool.or_eq_true, Bool.and_eq_false_iff, Bool.or_eq_false_iff, Bool.not_eq_eq_eq_not, Bool.not_true, Bool.not_false, Int.not_le, Int.not_lt, beq_iff_eq] at hc7)
        first
          | (cases hc7; done)
          | skip
            refine awp_skip ?_
            refine awp_region (by kernel_rfl) ?_
            iterate 2 (refine aL_S rfl rfl (by simp (disch := omega) only [go_sem, wrap_i64, ↓reduceIte, Nat.reduceEqDiff, Nat.reduceAdd, Nat.reduceSub, Nat.reduceMul, Nat.reduceLeDiff, reduceCtorEq, Int.reduceToNat, Int.reduceLE, Int.reduceLT]; rfl) ?_)
            refine aL_nil ?_
            refine aNext (ι := Store × Nat × List Sh × Nat) (i := ⟨τ, i, E, k⟩) (τ, i + 1, E, k) ?_ ?_ ?_ ?_
            · show nm.length - (i + 1) < nm.length - i; omega
            · exact ⟨hi, by rw [htk]; exact hB.old ⟨x, hxE, hxs⟩, hE, hm, hF, hk, hks⟩
            · ((repeat (refine covers.eq (by first | rfl | (simp (disch := omega) only [go_sem, wrap_i64, ↓reduceIte, Nat.reduceEqDiff, Nat.reduceAdd, Nat.reduceSub, Nat.reduceMul, Nat.reduceLeDiff, reduceCtorEq, Int.reduceToNat, Int.reduceLE, Int.reduceLT]; rfl) | (simp (disch := omega) only [go_sem, wrap_i64, ↓reduceIte, Nat.reduceEqDiff, Nat.reduceAdd, Nat.reduceSub, Nat.reduceMul, Nat.reduceLeDiff, reduceCtorEq, Int.reduceToNat, Int.reduceLE, Int.reduceLT])) ?_)); exact covers.nil)
            · exact Store.Wk.refl _
    · have hlk := look_S hm s
      refine awp_region (by kernel_rfl) ?_
      (refine aL_S rfl rfl (by simp (disch := omega) only [go_sem, wrap_i64, ↓reduceIte, Nat.reduceEqDiff, Nat.reduceAdd, Nat.reduceSub, Nat.reduceMul, Nat.reduceLeDiff, reduceCtorEq, Int.reduceToNat, Int.reduceLE, Int.reduceLT, hlk, hby]; rfl) ?_)
      (refine aL_S rfl rfl (by simp (disch := omega) only [go_sem, wrap_i64, ↓reduceIte, Nat.reduceEqDiff, Nat.reduceAdd, Nat.reduceSub, Nat.reduceMul, Nat.reduceLeDiff, reduceCtorEq, Int.reduceToNat, Int.reduceLE, Int.reduceLT, hlk, hby]; rfl) ?_)
      (refine aL_S rfl rfl (by simp (disch := omega) only [go_sem, wrap_i64, ↓reduceIte, Nat.reduceEqDiff, Nat.reduceAdd, Nat.reduceSub, Nat.reduceMul, Nat.reduceLeDiff, reduceCtorEq, Int.reduceToNat, Int.reduceLE, Int.reduceLT, hlk, hby]; rfl) ?_)
      (refine aL_S rfl rfl (by simp (disch := omega) only [go_sem, wrap_i64, ↓reduceIte, Nat.reduceEqDiff, Nat.reduceAdd, Nat.reduceSub, Nat.reduceMul, Nat.reduceLeDiff, reduceCtorEq, Int.reduceToNat, Int.reduceLE, Int.reduceLT, hlk, hby]; rfl) ?_)
      refine aL_nil ?_
      refine awp_cond (by simp (disch := omega) only [go_sem, wrap_i64, ↓reduceIte, Nat.reduceEqDiff, Nat.reduceAdd, Nat.reduceSub, Nat.reduceMul, Nat.reduceLeDiff, reduceCtorEq, Int.reduceToNat, Int.reduceLE, Int.reduceLT]; rfl) (fun hc7 => ?_) (fun hc7 => ?_)
      · (try simp only [decide_eq_true_eq, decide_eq_false_iff_not, Bool.not_eq_true', Bool.not_eq_false', Bool.and_eq_true, Bool.or_eq_true, Bool.and_eq_false_iff, Bool.or_eq_false_iff, Bool.not_eq_eq_eq_not, Bool.not_true, Bool.not_false, Int.not_le, Int.not_lt, beq_iff_eq] at hc7)
        first
          | (cases hc7; done)
          | skip
            refine awp_seq ?_
            refine awp_region (by kernel_rfl) ?_
            (refine aL_S rfl rfl (by simp (disch := omega) only [go_sem, wrap_i64, ↓reduceIte, Nat.reduceEqDiff, Nat.reduceAdd, Nat.reduceSub, Nat.reduceMul, Nat.reduceLeDiff, reduceCtorEq, Int.reduceToNat, Int.reduceLE, Int.reduceLT, List.getElem?_map, hlo, hm]; rfl) ?_)
            (refine aL_S rfl rfl (by simp (disch := omega) only [go_sem, wrap_i64, ↓reduceIte, Nat.reduceEqDiff, Nat.reduceAdd, Nat.reduceSub, Nat.reduceMul, Nat.reduceLeDiff, reduceCtorEq, Int.reduceToNat, Int.reduceLE, Int.reduceLT, List.getElem?_map, hlo, hm]; rfl) ?_)
            (refine aL_S rfl rfl (by simp (disch := omega) only [go_sem, wrap_i64, ↓reduceIte, Nat.reduceEqDiff, Nat.reduceAdd, Nat.reduceSub, Nat.reduceMul, Nat.reduceLeDiff, reduceCtorEq, Int.reduceToNat, Int.reduceLE, Int.reduceLT, List.getElem?_map, hlo, hm]; rfl) ?_)
            (refine aL_S rfl rfl (by simp (disch := omega) only [go_sem, wrap_i64, ↓reduceIte, Nat.reduceEqDiff, Nat.reduceAdd, Nat.reduceSub, Nat.reduceMul, Nat.reduceLeDiff, reduceCtorEq, Int.reduceToNat, Int.reduceLE, Int.reduceLT, List.getElem?_map, hlo, hm]; rfl) ?_)
            (refine aL_S rfl rfl (by simp (disch := omega) only [go_sem, wrap_i64, ↓reduceIte, Nat.reduceEqDiff, Nat.reduceAdd, Nat.reduceSub, Nat.reduceMul, Nat.reduceLeDiff, reduceCtorEq, Int.reduceToNat, Int.reduceLE, Int.reduceLT, List.getElem?_map, hlo, hm]; rfl) ?_)
            (refine aL_S rfl rfl (by simp (disch := omega) only [go_sem, wrap_i64, ↓reduceIte, Nat.reduceEqDiff, Nat.reduceAdd, Nat.reduceSub, Nat.reduceMul, Nat.reduceLeDiff, reduceCtorEq, Int.reduceToNat, Int.reduceLE, Int.reduceLT, List.getElem?_map, hlo, hm]; rfl) ?_)
            (refine aL_S rfl rfl (by simp (disch := omega) only [go_sem, wrap_i64, ↓reduceIte, Nat.reduceEqDiff, Nat.reduceAdd, Nat.reduceSub, Nat.reduceMul, Nat.reduceLeDiff, reduceCtorEq, Int.reduceToNat, Int.reduceLE, Int.reduceLT, List.getElem?_map, hlo, hm]; rfl) ?_)
            (refine aL_S rfl rfl (by simp (disch := omega) only [go_sem, wrap_i64, ↓reduceIte, Nat.reduceEqDiff, Nat.reduceAdd, Nat.reduceSub, Nat.reduceMul, Nat.reduceLeDiff, reduceCtorEq, Int.reduceToNat, Int.reduceLE, Int.reduceLT, List.getElem?_map, hlo, hm]; rfl) ?_)
            (refine aL_S rfl rfl (by simp (disch := omega) only [go_sem, wrap_i64, ↓reduceIte, Nat.reduceEqDiff, Nat.reduceAdd, Nat.reduceSub, Nat.reduceMul, Nat.reduceLeDiff, reduceCtorEq, Int.reduceToNat, Int.reduceLE, Int.reduceLT, List.getElem?_map, hlo, hm]; rfl) ?_)
            refine aL_box rfl rfl rfl (by simp (disch := omega) only [go_sem, wrap_i64, ↓reduceIte, Nat.reduceEqDiff, Nat.reduceAdd, Nat.reduceSub, Nat.reduceMul, Nat.reduceLeDiff, reduceCtorEq, Int.reduceToNat, Int.reduceLE, Int.reduceLT, List.getElem?_map, hlo, hm]; rfl) rfl (by simp only [go_sem]; rfl) fun o38 ho38 => ?_
            repeat (rw [none_set_iff] at ho38; obtain ⟨_, ho38⟩ := ho38)
            have hmo := ne_of_heap hm ho38
            refine aL_X0 rfl rfl (AOp_mapUpdate rfl (by first | (simp only [go_sem]; rfl) | simp only [go_sem]) (by first | (simp only [go_sem]; rfl) | simp only [go_sem]) (by simp (disch := omega) only [go_sem, wrap_i64, ↓reduceIte, Nat.reduceEqDiff, Nat.reduceAdd, Nat.reduceSub, Nat.reduceMul, Nat.reduceLeDiff, reduceCtorEq, Int.reduceToNat, Int.reduceLE, Int.reduceLT, List.getElem?_map, hlo, hm]; rfl) (by first | (simp (disch := omega) only [go_sem, ↓reduceIte, Nat.reduceEqDiff, Nat.reduceAdd, Nat.reduceSub, Nat.reduceMul, Nat.reduceLeDiff, reduceCtorEq, Int.reduceToNat, Int.reduceLE, Int.reduceLT, List.getElem?_map, hlo, hm]; rfl) | simp (disch := omega) only [go_sem, ↓reduceIte, Nat.reduceEqDiff, Nat.reduceAdd, Nat.reduceSub, Nat.reduceMul, Nat.reduceLeDiff, reduceCtorEq, Int.reduceToNat, Int.reduceLE, Int.reduceLT, List.getElem?_map, hlo, hm]) (by simp (disch := omega) only [go_sem, wrap_i64, ↓reduceIte, Nat.reduceEqDiff, Nat.reduceAdd, Nat.reduceSub, Nat.reduceMul, Nat.reduceLeDiff, reduceCtorEq, Int.reduceToNat, Int.reduceLE, Int.reduceLT, List.getElem?_map, hlo, hm]; rfl) (by first | rfl | trivial | simp [Go.MapKept.IsKey]) (by exact kvS_keys (byL E)) (by simp (disch := omega) only [go_sem, wrap_i64, ↓reduceIte, Nat.reduceEqDiff, Nat.reduceAdd, Nat.reduceSub, Nat.reduceMul, Nat.reduceLeDiff, reduceCtorEq, Int.reduceToNat, Int.reduceLE, Int.reduceLT, List.getElem?_map, hlo, hm]; rfl) ?_)
            refine aL_nil ?_
            rw [kvPut_S (byL_keys hno), show byL E ++ [(s, o38)] = byL (E ++ [⟨o38, s, (i : Int), (cnt ow s : Int), 0⟩]) from by simp [byL]]
            have hm1 : ((τ.set o38 (shC ⟨o38, s, (i : Int), (cnt ow s : Int), 0⟩)).set o14 (.map (kvS (byL (E ++ [⟨o38, s, (i : Int), (cnt ow s : Int), 0⟩]))))).heap o14 = some (.map (kvS (byL (E ++ [⟨o38, s, (i : Int), (cnt ow s : Int), 0⟩])))) := Store.set_get ..
            have hlk2 := look_S hm1 s
            rw [byV_snoc (x := ⟨o38, s, (i : Int), (cnt ow s : Int), 0⟩) hno] at hlk2
            simp only [shC] at hlk2
            have hxo : ∀ x ∈ E, x.o ≠ o38 := fun x hx => ne_of_heap (hE x hx) ho38
            have hxm : ∀ x ∈ E, x.o ≠ o14 := fun x hx hh => by have := hE x hx; rw [hh, hm] at this; cases this
            have hil : (nm.take i).length = i := by simp; omega
            have hB2 := hB.new hno hxo
            rw [hil] at hB2
            have hE2 : ∀ x ∈ E ++ [⟨o38, s, (i : Int), (cnt ow s : Int), 0⟩], ((τ.set o38 (shC ⟨o38, s, (i : Int), (cnt ow s : Int), 0⟩)).set o14 (.map (kvS (byL (E ++ [⟨o38, s, (i : Int), (cnt ow s : Int), 0⟩]))))).heap x.o = some (shC x) := fun x hx => by
              rcases List.mem_append.1 hx with hx | hx
              · rw [Store.set_ne _ _ (hxm x hx), Store.set_ne _ _ (hxo x hx)]; exact hE x hx
              · obtain rfl := List.mem_singleton.1 hx
                rw [Store.set_ne _ _ (Ne.symm hmo), Store.set_get]
            have hlE : E.length ≤ 10 := by
              have := congrArg List.length hB.nm
              rw [List.length_map] at this
              have h2 := once_le (nm.take i)
              omega
            refine awp_region (by kernel_rfl) ?_
            (refine aL_S rfl rfl (by simp (disch := omega) only [go_sem, wrap_i64, ↓reduceIte, Nat.reduceEqDiff, Nat.reduceAdd, Nat.reduceSub, Nat.reduceMul, Nat.reduceLeDiff, reduceCtorEq, Int.reduceToNat, Int.reduceLE, Int.reduceLT, hlk2, hk]; rfl) ?_)
            (refine aL_S rfl rfl (by simp (disch := omega) only [go_sem, wrap_i64, ↓reduceIte, Nat.reduceEqDiff, Nat.reduceAdd, Nat.reduceSub, Nat.reduceMul, Nat.reduceLeDiff, reduceCtorEq, Int.reduceToNat, Int.reduceLE, Int.reduceLT, hlk2, hk]; rfl) ?_)
            (refine aL_S rfl rfl (by simp (disch := omega) only [go_sem, wrap_i64, ↓reduceIte, Nat.reduceEqDiff, Nat.reduceAdd, Nat.reduceSub, Nat.reduceMul, Nat.reduceLeDiff, reduceCtorEq, Int.reduceToNat, Int.reduceLE, Int.reduceLT, hlk2, hk]; rfl) ?_)
            (refine aL_S rfl rfl (by simp (disch := omega) only [go_sem, wrap_i64, ↓reduceIte, Nat.reduceEqDiff, Nat.reduceAdd, Nat.reduceSub, Nat.reduceMul, Nat.reduceLeDiff, reduceCtorEq, Int.reduceToNat, Int.reduceLE, Int.reduceLT, hlk2, hk]; rfl) ?_)
            refine aL_buildSlice rfl rfl rfl (by simp only [go_sem]; rfl) (by simp only [go_sem]; rfl) rfl rfl (by simp (disch := omega) only [go_sem, ↓reduceIte, Nat.reduceEqDiff, Nat.reduceAdd, Nat.reduceSub, Nat.reduceMul, Nat.reduceLeDiff, reduceCtorEq, Int.reduceToNat, Int.reduceLE, Int.reduceLT, hlk2, hk]; rfl) (by simp [go_sem, AVal.one, AVal.cells, AVal.solid]) (by decide) ?_
            refine aL_append rfl rfl rfl (by simp only [go_sem]; rfl) (by simp only [go_sem]; rfl) (by simp (disch := omega) only [go_sem, wrap_i64, ↓reduceIte, Nat.reduceEqDiff, Nat.reduceAdd, Nat.reduceSub, Nat.reduceMul, Nat.reduceLeDiff, reduceCtorEq, Int.reduceToNat, Int.reduceLE, Int.reduceLT, hlk2, hk]; rfl) (by simp (disch := omega) only [go_sem, ↓reduceIte, Nat.reduceEqDiff, Nat.reduceAdd, Nat.reduceSub, Nat.reduceMul, Nat.reduceLeDiff, reduceCtorEq, Int.reduceToNat, Int.reduceLE, Int.reduceLT, hlk2, hk]) (by simp (disch := omega) only [go_sem, wrap_i64, ↓reduceIte, Nat.reduceEqDiff, Nat.reduceAdd, Nat.reduceSub, Nat.reduceMul, Nat.reduceLeDiff, reduceCtorEq, Int.reduceToNat, Int.reduceLE, Int.reduceLT, hlk2, hk]; rfl) (by simp [AVal.one, AVal.cells]) (by simp; omega) fun k44 hk44 => ?_
            (refine aL_S rfl rfl (by simp (disch := omega) only [go_sem, wrap_i64, ↓reduceIte, Nat.reduceEqDiff, Nat.reduceAdd, Nat.reduceSub, Nat.reduceMul, Nat.reduceLeDiff, reduceCtorEq, Int.reduceToNat, Int.reduceLE, Int.reduceLT, hlk2, hk]; rfl) ?_)
            refine aL_nil ?_
            have hm2 := hm1
            have hF2 : Fr σ [] (((τ.set o38 (shC ⟨o38, s, (i : Int), (cnt ow s : Int), 0⟩)).set o14 (.map (kvS (byL (E ++ [⟨o38, s, (i : Int), (cnt ow s : Int), 0⟩]))))).newTok (some k) k44 (99, 1)) ((E ++ [(⟨o38, s, (i : Int), (cnt ow s : Int), 0⟩ : Sh)]).map (·.o)) := by
              have hmn : σ.heap o14 = none := ho14
              have f1 := hF.setNew (x := shC ⟨o38, s, (i : Int), (cnt ow s : Int), 0⟩) ho38
              have f2 : Fr σ [] ((τ.set o38 (shC ⟨o38, s, (i : Int), (cnt ow s : Int), 0⟩)).set o14 (.map (kvS (byL (E ++ [⟨o38, s, (i : Int), (cnt ow s : Int), 0⟩]))))) (o38 :: E.map (·.o)) :=
                ⟨⟨fun j y hj hy => by rw [Store.set_ne _ _ (fun hh => by rw [hh, hmn] at hy; cases hy)]; exact f1.sub.1 j y hj hy, f1.sub.2⟩, f1.new⟩
              exact (f2.newTok (fun j hj => by cases hj; exact hks) hk44).less (by intro j hj; simp at hj ⊢; rcases hj with h | h; exact .inr h; exact .inl h)
            refine awp_region (by kernel_rfl) ?_
            iterate 2 (refine aL_S rfl rfl (by simp (disch := omega) only [go_sem, wrap_i64, ↓reduceIte, Nat.reduceEqDiff, Nat.reduceAdd, Nat.reduceSub, Nat.reduceMul, Nat.reduceLeDiff, reduceCtorEq, Int.reduceToNat, Int.reduceLE, Int.reduceLT]; rfl) ?_)
            refine aL_nil ?_
            refine aNext (ι := Store × Nat × List Sh × Nat) (i := ⟨τ, i, E, k⟩) (τ, i + 1, E, k) ?_ ?_ ?_ ?_
            · show nm.length - (i + 1) < nm.length - i; omega
            · exact ⟨hi, by rw [htk]; exact hB.old ⟨x, hxE, hxs⟩, hE, hm, hF, hk, hks⟩
            · ((repeat (refine covers.eq (by first | rfl | (simp (disch := omega) only [go_sem, wrap_i64, ↓reduceIte, Nat.reduceEqDiff, Nat.reduceAdd, Nat.reduceSub, Nat.reduceMul, Nat.reduceLeDiff, reduceCtorEq, Int.reduceToNat, Int.reduceLE, Int.reduceLT]; rfl) | (simp (disch := omega) only [go_sem, wrap_i64, ↓reduceIte, Nat.reduceEqDiff, Nat.reduceAdd, Nat.reduceSub, Nat.reduceMul, Nat.reduceLeDiff, reduceCtorEq, Int.reduceToNat, Int.reduceLE, Int.reduceLT])) ?_)); exact covers.nil)
            · exact Store.Wk.refl _
      · (try simp only [decide_eq_true_eq, decide_eq_false_iff_not, Bool.not_eq_true', Bool.not_eq_false', Bool.and_eq_true, Bool.or_eq_true, Bool.and_eq_false_iff, Bool.or_eq_false_iff, Bool.not_eq_eq_eq_not, Bool.not_true, Bool.not_false, Int.not_le, Int.not_lt, beq_iff_eq] at hc7)
        first
          | (cases hc7; done)
          | skip
            refine awp_skip ?_
            refine awp_region (by kernel_rfl) ?_
            iterate 2 (refine aL_S rfl rfl (by simp (disch := omega) only [go_sem, wrap_i64, ↓reduceIte, Nat.reduceEqDiff, Nat.reduceAdd, Nat.reduceSub, Nat.reduceMul, Nat.reduceLeDiff, reduceCtorEq, Int.reduceToNat, Int.reduceLE, Int.reduceLT]; rfl) ?_)
            refine aL_nil ?_
            refine aNext (ι := Store × Nat × List Sh × Nat) (i := ⟨τ, i, E, k⟩) (τ, i + 1, E, k) ?_ ?_ ?_ ?_
            · show nm.length - (i + 1) < nm.length - i; omega
            · exact ⟨hi, by rw [htk]; exact hB.old ⟨x, hxE, hxs⟩, hE, hm, hF, hk, hks⟩
            · ((repeat (refine covers.eq (by first | rfl | (simp (disch := omega) only [go_sem, wrap_i64, ↓reduceIte, Nat.reduceEqDiff, Nat.reduceAdd, Nat.reduceSub, Nat.reduceMul, Nat.reduceLeDiff, reduceCtorEq, Int.reduceToNat, Int.reduceLE, Int.reduceLT]; rfl) | (simp (disch := omega) only [go_sem, wrap_i64, ↓reduceIte, Nat.reduceEqDiff, Nat.reduceAdd, Nat.reduceSub, Nat.reduceMul, Nat.reduceLeDiff, reduceCtorEq, Int.reduceToNat, Int.reduceLE, Int.reduceLT])) ?_)); exact covers.nil)
            · exact Store.Wk.refl _
  · (try simp only [decide_eq_true_eq, decide_eq_false_iff_not, Bool.not_eq_true', Bool.not_eq_false', Bool.and_eq_true, Bool.or_eq_true, Bool.and_eq_false_iff, Bool.or_eq_false_iff, Bool.not_eq_eq_eq_not, Bool.not_true, Bool.not_false, Int.not_le, Int.not_lt, beq_iff_eq] at hc5)
    refine awp_exit ?_
    refine aThen_exit ?_
    refine aThen_exit ?_
    refine aBlock_hit ?_
    refine awp_seq ?_
    have hfull : nm.take i = nm := List.take_of_length_le (by omega)
    rw [hfull] at hB
    have hE0 : 0 < E.length := by
      have := once_pos h0
      rw [← hB.nm, List.length_map] at this
      exact this
    have hE10 : E.length ≤ 10 := by
      have := once_le nm
      rw [← hB.nm, List.length_map] at this
      omega
    refine awp_region (by kernel_rfl) ?_
    (refine aL_S rfl rfl (by simp (disch := omega) only [go_sem, wrap_i64, ↓reduceIte, Nat.reduceEqDiff, Nat.reduceAdd, Nat.reduceSub, Nat.reduceMul, Nat.reduceLeDiff, reduceCtorEq, Int.reduceToNat, Int.reduceLE, Int.reduceLT]; rfl) ?_)
    refine aL_X rfl rfl (AOp_use rfl rfl (.inr ⟨rfl, rfl, rfl⟩) (by simp only [go_sem]) (by first | (simp (disch := omega) only [go_sem, wrap_i64, ↓reduceIte, Nat.reduceEqDiff, Nat.reduceAdd, Nat.reduceSub, Nat.reduceMul, Nat.reduceLeDiff, reduceCtorEq, Int.reduceToNat, Int.reduceLE, Int.reduceLT]; rfl) | (simp (disch := omega) only [go_sem, wrap_i64, ↓reduceIte, Nat.reduceEqDiff, Nat.reduceAdd, Nat.reduceSub, Nat.reduceMul, Nat.reduceLeDiff, reduceCtorEq, Int.reduceToNat, Int.reduceLE, Int.reduceLT])) (clone_c (L := E) (Wk.own1 ..) (by omega) hE0) ?_); rintro _ _ ⟨oc, hoc, rfl, rfl⟩
    (refine aL_S rfl rfl (by simp (disch := omega) only [go_sem, wrap_i64, ↓reduceIte, Nat.reduceEqDiff, Nat.reduceAdd, Nat.reduceSub, Nat.reduceMul, Nat.reduceLeDiff, reduceCtorEq, Int.reduceToNat, Int.reduceLE, Int.reduceLT]; rfl) ?_)
    refine aL_nil ?_
    have hEc : ∀ x ∈ E, (τ.set oc (shQ E)).heap x.o = some (shC x) := fun x hx => heap_alloc_keep hoc (hE x hx)
    have hbd : ∀ x ∈ E, 0 ≤ x.has ∧ x.has ≤ 1000 := fun x hx => by
      rw [(hB.has x hx).1]
      have := cnt_le ow x.nm
      omega
    refine awp_seq ?_
    refine awp_region (by kernel_rfl) ?_
    (refine aL_S rfl rfl (by simp (disch := omega) only [go_sem, wrap_i64, ↓reduceIte, Nat.reduceEqDiff, Nat.reduceAdd, Nat.reduceSub, Nat.reduceMul, Nat.reduceLeDiff, reduceCtorEq, Int.reduceToNat, Int.reduceLE, Int.reduceLT]; rfl) ?_)
    refine aL_X rfl rfl (AOp_use rfl rfl (.inr ⟨rfl, rfl, rfl⟩) (by simp only [go_sem]) (by first | (simp (disch := omega) only [go_sem, wrap_i64, ↓reduceIte, Nat.reduceEqDiff, Nat.reduceAdd, Nat.reduceSub, Nat.reduceMul, Nat.reduceLeDiff, reduceCtorEq, Int.reduceToNat, Int.reduceLE, Int.reduceLT]; rfl) | (simp (disch := omega) only [go_sem, wrap_i64, ↓reduceIte, Nat.reduceEqDiff, Nat.reduceAdd, Nat.reduceSub, Nat.reduceMul, Nat.reduceLeDiff, reduceCtorEq, Int.reduceToNat, Int.reduceLE, Int.reduceLT])) (sortStable_c (L := E) (Store.set_get ..) hEc hbd (by omega) hE0) ?_); rintro _ _ ⟨rfl, rfl⟩
    refine aL_nil ?_
    refine awp_seq ?_
    refine awp_seq ?_
    rw [Store.set_set]
    obtain ⟨S, hS1, hS2, hS3⟩ := insTo_spec E hB.pl E.length (Nat.le_refl _)
    rw [List.drop_length, List.append_nil] at hS1
    rw [List.take_length] at hS2
    rw [hS1]
    have hSl := hS2.length_eq
    obtain ⟨q, hqd⟩ : ∃ q, q = ow.length / E.length := ⟨_, rfl⟩
    obtain ⟨r, hrd⟩ : ∃ r, r = ow.length % E.length := ⟨_, rfl⟩
    have hSnd : (S.map (·.o)).Nodup := (hS2.map _).nodup_iff.2 hB.nd
    have hco : ∀ x ∈ E, x.o ≠ oc := fun x hx => ne_of_heap (hE x hx) hoc
    have hcm : o14 ≠ oc := ne_of_heap hm hoc
    have hxm : ∀ x ∈ E, x.o ≠ o14 := fun x hx hh => by have := hE x hx; rw [hh, hm] at this; cases this
    refine awp_region (by kernel_rfl) ?_
    iterate 3 (refine aL_S rfl rfl (by simp (disch := omega) only [go_sem, wrap_i64, ↓reduceIte, Nat.reduceEqDiff, Nat.reduceAdd, Nat.reduceSub, Nat.reduceMul, Nat.reduceLeDiff, reduceCtorEq, Int.reduceToNat, Int.reduceLE, Int.reduceLT]; rfl) ?_)
    refine aL_nil ?_
    refine awp_block ?_
    refine awp_loop_env (ι := Store × Nat) (fun ⟨υ, j⟩ => E.length - j) (fun ⟨υ, j⟩ => j ≤ E.length ∧ (∀ (m : Nat) y, S[m]? = some y → υ.heap y.o = some (shC (if m < j then updS (q : Int) r m y else y))) ∧ υ.heap oc = some (shQ S) ∧ υ.heap o14 = some (.map (kvS (byL E))) ∧ Fr σ [] υ (E.map (·.o))) (fun ⟨υ, j⟩ => [(0, .sl 1 (ow.map sS) to), (6, .own k 1 (E.map fun x => .ref x.o 0)), (7, .map o14), (50, .msl oc 1 0 E.length), (51, vInt E.length), (52, vInt j)]) (fun ⟨υ, j⟩ => υ) (τ.set oc (shQ S), 0) ?_ ?_ ?_ ?_
    · exact ⟨Nat.zero_le _, fun m y hy => by rw [if_neg (Nat.not_lt_zero m)]; exact heap_alloc_keep hoc (hE y (hS2.mem_iff.1 (List.mem_of_getElem? hy))), Store.set_get .., heap_alloc_keep hoc hm, hF.alloc hoc⟩
    · ((repeat (refine covers.eq (by first | rfl | (simp (disch := omega) only [go_sem, wrap_i64, ↓reduceIte, Nat.reduceEqDiff, Nat.reduceAdd, Nat.reduceSub, Nat.reduceMul, Nat.reduceLeDiff, reduceCtorEq, Int.reduceToNat, Int.reduceLE, Int.reduceLT]; rfl) | (simp (disch := omega) only [go_sem, wrap_i64, ↓reduceIte, Nat.reduceEqDiff, Nat.reduceAdd, Nat.reduceSub, Nat.reduceMul, Nat.reduceLeDiff, reduceCtorEq, Int.reduceToNat, Int.reduceLE, Int.reduceLT])) ?_)); exact covers.nil)
    · exact Store.Wk.refl _
    rintro ⟨υ, j⟩ ⟨j1, j2, j3, j4, j5⟩
    simp only [envL_cons, envL_nil]
    refine awp_seq ?_
    refine awp_region (by kernel_rfl) ?_
    (refine aL_S rfl rfl (by simp (disch := omega) only [go_sem, wrap_i64, ↓reduceIte, Nat.reduceEqDiff, Nat.reduceAdd, Nat.reduceSub, Nat.reduceMul, Nat.reduceLeDiff, reduceCtorEq, Int.reduceToNat, Int.reduceLE, Int.reduceLT]; rfl) ?_)
    refine aL_nil ?_
    refine awp_seq ?_
    refine awp_cond (by simp (disch := omega) only [go_sem, wrap_i64, ↓reduceIte, Nat.reduceEqDiff, Nat.reduceAdd, Nat.reduceSub, Nat.reduceMul, Nat.reduceLeDiff, reduceCtorEq, Int.reduceToNat, Int.reduceLE, Int.reduceLT]; rfl) (fun hc14 => ?_) (fun hc14 => ?_)
    · (try simp only [decide_eq_true_eq, decide_eq_false_iff_not, Bool.not_eq_true', Bool.not_eq_false', Bool.and_eq_true, Bool.or_eq_true, Bool.and_eq_false_iff, Bool.or_eq_false_iff, Bool.not_eq_eq_eq_not, Bool.not_true, Bool.not_false, Int.not_le, Int.not_lt, beq_iff_eq] at hc14)
      refine awp_skip ?_
      refine awp_seq ?_
      refine awp_block ?_
      refine awp_seq ?_
      have hj : j < E.length := by omega
      obtain ⟨x, hx⟩ : ∃ x, S[j]? = some x := ⟨S[j]'(by omega), List.getElem?_eq_getElem _⟩
      have hxE := hS2.mem_iff.1 (List.mem_of_getElem? hx)
      have hxh := j2 j x hx
      rw [if_neg (Nat.lt_irrefl j)] at hxh
      have hq : Int.tdiv (ow.length : Int) (E.length : Int) = (q : Int) := by rw [hqd]; rfl
      have hr : Int.tmod (ow.length : Int) (E.length : Int) = (r : Int) := by rw [hrd]; rfl
      have hqb : q ≤ 40 := by rw [hqd]; exact Nat.le_trans (Nat.div_le_self _ _) ho
      refine awp_region (by kernel_rfl) ?_
      (refine aL_S rfl rfl (by simp (disch := omega) only [go_sem, wrap_i64, ↓reduceIte, Nat.reduceEqDiff, Nat.reduceAdd, Nat.reduceSub, Nat.reduceMul, Nat.reduceLeDiff, reduceCtorEq, Int.reduceToNat, Int.reduceLE, Int.reduceLT, List.getElem?_map, hx, j3, Nat.mul_one]; rfl) ?_)
      (refine aL_S rfl rfl (by simp (disch := omega) only [go_sem, wrap_i64, ↓reduceIte, Nat.reduceEqDiff, Nat.reduceAdd, Nat.reduceSub, Nat.reduceMul, Nat.reduceLeDiff, reduceCtorEq, Int.reduceToNat, Int.reduceLE, Int.reduceLT, List.getElem?_map, hx, j3, Nat.mul_one]; rfl) ?_)
      (refine aL_S rfl rfl (by simp (disch := omega) only [go_sem, wrap_i64, ↓reduceIte, Nat.reduceEqDiff, Nat.reduceAdd, Nat.reduceSub, Nat.reduceMul, Nat.reduceLeDiff, reduceCtorEq, Int.reduceToNat, Int.reduceLE, Int.reduceLT, List.getElem?_map, hx, j3, Nat.mul_one]; rfl) ?_)
      (refine aL_S rfl rfl (by simp (disch := omega) only [go_sem, wrap_i64, ↓reduceIte, Nat.reduceEqDiff, Nat.reduceAdd, Nat.reduceSub, Nat.reduceMul, Nat.reduceLeDiff, reduceCtorEq, Int.reduceToNat, Int.reduceLE, Int.reduceLT, List.getElem?_map, hx, j3, Nat.mul_one]; rfl) ?_)
      (refine aL_S rfl rfl (by simp (disch := omega) only [go_sem, wrap_i64, ↓reduceIte, Nat.reduceEqDiff, Nat.reduceAdd, Nat.reduceSub, Nat.reduceMul, Nat.reduceLeDiff, reduceCtorEq, Int.reduceToNat, Int.reduceLE, Int.reduceLT, List.getElem?_map, hx, j3, Nat.mul_one]; rfl) ?_)
      refine aL_nil ?_
      refine awp_seq ?_
      refine awp_region (by kernel_rfl) ?_
      (refine aL_S rfl rfl (by simp (disch := omega) only [go_sem, wrap_i64, ↓reduceIte, Nat.reduceEqDiff, Nat.reduceAdd, Nat.reduceSub, Nat.reduceMul, Nat.reduceLeDiff, reduceCtorEq, Int.reduceToNat, Int.reduceLE, Int.reduceLT, hxh, hq, aint_quo]; rfl) ?_)
      (refine aL_S rfl rfl (by simp (disch := omega) only [go_sem, wrap_i64, ↓reduceIte, Nat.reduceEqDiff, Nat.reduceAdd, Nat.reduceSub, Nat.reduceMul, Nat.reduceLeDiff, reduceCtorEq, Int.reduceToNat, Int.reduceLE, Int.reduceLT, hxh, hq, aint_quo]; rfl) ?_)
      (refine aL_S rfl rfl (by simp (disch := omega) only [go_sem, wrap_i64, ↓reduceIte, Nat.reduceEqDiff, Nat.reduceAdd, Nat.reduceSub, Nat.reduceMul, Nat.reduceLeDiff, reduceCtorEq, Int.reduceToNat, Int.reduceLE, Int.reduceLT, hxh, hq, aint_quo]; rfl) ?_)
      (refine aL_S rfl rfl (by simp (disch := omega) only [go_sem, wrap_i64, ↓reduceIte, Nat.reduceEqDiff, Nat.reduceAdd, Nat.reduceSub, Nat.reduceMul, Nat.reduceLeDiff, reduceCtorEq, Int.reduceToNat, Int.reduceLE, Int.reduceLT, hxh, hq, aint_quo]; rfl) ?_)
      (refine aL_S rfl rfl (by simp (disch := omega) only [go_sem, wrap_i64, ↓reduceIte, Nat.reduceEqDiff, Nat.reduceAdd, Nat.reduceSub, Nat.reduceMul, Nat.reduceLeDiff, reduceCtorEq, Int.reduceToNat, Int.reduceLE, Int.reduceLT, hxh, hq, aint_quo]; rfl) ?_)
      (refine aL_S rfl rfl (by simp (disch := omega) only [go_sem, wrap_i64, ↓reduceIte, Nat.reduceEqDiff, Nat.reduceAdd, Nat.reduceSub, Nat.reduceMul, Nat.reduceLeDiff, reduceCtorEq, Int.reduceToNat, Int.reduceLE, Int.reduceLT, hxh, hq, aint_quo]; rfl) ?_)
      (refine aL_S rfl rfl (by simp (disch := omega) only [go_sem, wrap_i64, ↓reduceIte, Nat.reduceEqDiff, Nat.reduceAdd, Nat.reduceSub, Nat.reduceMul, Nat.reduceLeDiff, reduceCtorEq, Int.reduceToNat, Int.reduceLE, Int.reduceLT, hxh, hq, aint_quo]; rfl) ?_)
      (refine aL_S rfl rfl (by simp (disch := omega) only [go_sem, wrap_i64, ↓reduceIte, Nat.reduceEqDiff, Nat.reduceAdd, Nat.reduceSub, Nat.reduceMul, Nat.reduceLeDiff, reduceCtorEq, Int.reduceToNat, Int.reduceLE, Int.reduceLT, hxh, hq, aint_quo]; rfl) ?_)
      (refine aL_S rfl rfl (by simp (disch := omega) only [go_sem, wrap_i64, ↓reduceIte, Nat.reduceEqDiff, Nat.reduceAdd, Nat.reduceSub, Nat.reduceMul, Nat.reduceLeDiff, reduceCtorEq, Int.reduceToNat, Int.reduceLE, Int.reduceLT, hxh, hq, aint_quo]; rfl) ?_)
      refine aL_store rfl rfl rfl (by simp (disch := omega) only [go_sem, wrap_i64, ↓reduceIte, Nat.reduceEqDiff, Nat.reduceAdd, Nat.reduceSub, Nat.reduceMul, Nat.reduceLeDiff, reduceCtorEq, Int.reduceToNat, Int.reduceLE, Int.reduceLT, hxh, hq, aint_quo]; rfl) (by simp (disch := omega) only [go_sem, wrap_i64, ↓reduceIte, Nat.reduceEqDiff, Nat.reduceAdd, Nat.reduceSub, Nat.reduceMul, Nat.reduceLeDiff, reduceCtorEq, Int.reduceToNat, Int.reduceLE, Int.reduceLT, hxh, hq, aint_quo]; rfl) (by first | (simp (disch := omega) only [go_sem, ↓reduceIte, Nat.reduceEqDiff, Nat.reduceAdd, Nat.reduceSub, Nat.reduceMul, Nat.reduceLeDiff, reduceCtorEq, Int.reduceToNat, Int.reduceLE, Int.reduceLT, hxh, hq, aint_quo]; rfl) | simp (disch := omega) only [go_sem, ↓reduceIte, Nat.reduceEqDiff, Nat.reduceAdd, Nat.reduceSub, Nat.reduceMul, Nat.reduceLeDiff, reduceCtorEq, Int.reduceToNat, Int.reduceLE, Int.reduceLT, hxh, hq, aint_quo]) (by simp only [go_sem]; rfl) rfl (by simp only [go_sem]; rfl) (by simp [AVal.one]) (by rfl) (by first | (simp; done) | (simp; omega) | omega) (by simp (disch := omega) only [go_sem, wrap_i64, ↓reduceIte, Nat.reduceEqDiff, Nat.reduceAdd, Nat.reduceSub, Nat.reduceMul, Nat.reduceLeDiff, reduceCtorEq, Int.reduceToNat, Int.reduceLE, Int.reduceLT, hxh, hq, aint_quo]; rfl) ?_
      (refine aL_S rfl rfl (by simp (disch := omega) only [go_sem, wrap_i64, ↓reduceIte, Nat.reduceEqDiff, Nat.reduceAdd, Nat.reduceSub, Nat.reduceMul, Nat.reduceLeDiff, reduceCtorEq, Int.reduceToNat, Int.reduceLE, Int.reduceLT, hxh, hq, aint_quo]; rfl) ?_)
      (refine aL_S rfl rfl (by simp (disch := omega) only [go_sem, wrap_i64, ↓reduceIte, Nat.reduceEqDiff, Nat.reduceAdd, Nat.reduceSub, Nat.reduceMul, Nat.reduceLeDiff, reduceCtorEq, Int.reduceToNat, Int.reduceLE, Int.reduceLT, hxh, hq, aint_quo]; rfl) ?_)
      refine aL_store rfl rfl rfl (by simp (disch := omega) only [go_sem, wrap_i64, ↓reduceIte, Nat.reduceEqDiff, Nat.reduceAdd, Nat.reduceSub, Nat.reduceMul, Nat.reduceLeDiff, reduceCtorEq, Int.reduceToNat, Int.reduceLE, Int.reduceLT, hxh, hq, aint_quo]; rfl) (by simp (disch := omega) only [go_sem, wrap_i64, ↓reduceIte, Nat.reduceEqDiff, Nat.reduceAdd, Nat.reduceSub, Nat.reduceMul, Nat.reduceLeDiff, reduceCtorEq, Int.reduceToNat, Int.reduceLE, Int.reduceLT, hxh, hq, aint_quo]; rfl) (by first | (simp (disch := omega) only [go_sem, ↓reduceIte, Nat.reduceEqDiff, Nat.reduceAdd, Nat.reduceSub, Nat.reduceMul, Nat.reduceLeDiff, reduceCtorEq, Int.reduceToNat, Int.reduceLE, Int.reduceLT, hxh, hq, aint_quo]; rfl) | simp (disch := omega) only [go_sem, ↓reduceIte, Nat.reduceEqDiff, Nat.reduceAdd, Nat.reduceSub, Nat.reduceMul, Nat.reduceLeDiff, reduceCtorEq, Int.reduceToNat, Int.reduceLE, Int.reduceLT, hxh, hq, aint_quo]) (by simp only [go_sem]; rfl) rfl (by simp only [go_sem]; rfl) (by simp [AVal.one]) (by rfl) (by first | (simp; done) | (simp; omega) | omega) (by simp (disch := omega) only [go_sem, wrap_i64, ↓reduceIte, Nat.reduceEqDiff, Nat.reduceAdd, Nat.reduceSub, Nat.reduceMul, Nat.reduceLeDiff, reduceCtorEq, Int.reduceToNat, Int.reduceLE, Int.reduceLT, hxh, hq, aint_quo]; rfl) ?_
      refine aL_nil ?_
      refine awp_seq ?_
      refine awp_region (by kernel_rfl) ?_
      (refine aL_S rfl rfl (by simp (disch := omega) only [go_sem, wrap_i64, ↓reduceIte, Nat.reduceEqDiff, Nat.reduceAdd, Nat.reduceSub, Nat.reduceMul, Nat.reduceLeDiff, reduceCtorEq, Int.reduceToNat, Int.reduceLE, Int.reduceLT, hr, aint_rem]; rfl) ?_)
      (refine aL_S rfl rfl (by simp (disch := omega) only [go_sem, wrap_i64, ↓reduceIte, Nat.reduceEqDiff, Nat.reduceAdd, Nat.reduceSub, Nat.reduceMul, Nat.reduceLeDiff, reduceCtorEq, Int.reduceToNat, Int.reduceLE, Int.reduceLT, hr, aint_rem]; rfl) ?_)
      (refine aL_S rfl rfl (by simp (disch := omega) only [go_sem, wrap_i64, ↓reduceIte, Nat.reduceEqDiff, Nat.reduceAdd, Nat.reduceSub, Nat.reduceMul, Nat.reduceLeDiff, reduceCtorEq, Int.reduceToNat, Int.reduceLE, Int.reduceLT, hr, aint_rem]; rfl) ?_)
      (refine aL_S rfl rfl (by simp (disch := omega) only [go_sem, wrap_i64, ↓reduceIte, Nat.reduceEqDiff, Nat.reduceAdd, Nat.reduceSub, Nat.reduceMul, Nat.reduceLeDiff, reduceCtorEq, Int.reduceToNat, Int.reduceLE, Int.reduceLT, hr, aint_rem]; rfl) ?_)
      (refine aL_S rfl rfl (by simp (disch := omega) only [go_sem, wrap_i64, ↓reduceIte, Nat.reduceEqDiff, Nat.reduceAdd, Nat.reduceSub, Nat.reduceMul, Nat.reduceLeDiff, reduceCtorEq, Int.reduceToNat, Int.reduceLE, Int.reduceLT, hr, aint_rem]; rfl) ?_)
      (refine aL_S rfl rfl (by simp (disch := omega) only [go_sem, wrap_i64, ↓reduceIte, Nat.reduceEqDiff, Nat.reduceAdd, Nat.reduceSub, Nat.reduceMul, Nat.reduceLeDiff, reduceCtorEq, Int.reduceToNat, Int.reduceLE, Int.reduceLT, hr, aint_rem]; rfl) ?_)
      (refine aL_S rfl rfl (by simp (disch := omega) only [go_sem, wrap_i64, ↓reduceIte, Nat.reduceEqDiff, Nat.reduceAdd, Nat.reduceSub, Nat.reduceMul, Nat.reduceLeDiff, reduceCtorEq, Int.reduceToNat, Int.reduceLE, Int.reduceLT, hr, aint_rem]; rfl) ?_)
      refine aL_nil ?_
      refine awp_cond (by simp (disch := omega) only [go_sem, wrap_i64, ↓reduceIte, Nat.reduceEqDiff, Nat.reduceAdd, Nat.reduceSub, Nat.reduceMul, Nat.reduceLeDiff, reduceCtorEq, Int.reduceToNat, Int.reduceLE, Int.reduceLT]; rfl) (fun hc17 => ?_) (fun hc17 => ?_)
      · (try simp only [decide_eq_true_eq, decide_eq_false_iff_not, Bool.not_eq_true', Bool.not_eq_false', Bool.and_eq_true, Bool.or_eq_true, Bool.and_eq_false_iff, Bool.or_eq_false_iff, Bool.not_eq_eq_eq_not, Bool.not_true, Bool.not_false, Int.not_le, Int.not_lt, beq_iff_eq] at hc17)
        have hu1 : shC (updS (q : Int) r j x) = .cells [vStr x.nm, vInt x.pl, vInt 0, vInt ((q : Int) + 1)] := by unfold updS shC; rw [if_pos (by omega)]
        refine awp_region (by kernel_rfl) ?_
        iterate 7 (refine aL_S rfl rfl (by simp (disch := omega) only [go_sem, wrap_i64, ↓reduceIte, Nat.reduceEqDiff, Nat.reduceAdd, Nat.reduceSub, Nat.reduceMul, Nat.reduceLeDiff, reduceCtorEq, Int.reduceToNat, Int.reduceLE, Int.reduceLT]; rfl) ?_)
        refine aL_store rfl rfl rfl (by simp (disch := omega) only [go_sem, wrap_i64, ↓reduceIte, Nat.reduceEqDiff, Nat.reduceAdd, Nat.reduceSub, Nat.reduceMul, Nat.reduceLeDiff, reduceCtorEq, Int.reduceToNat, Int.reduceLE, Int.reduceLT]; rfl) (by simp (disch := omega) only [go_sem, wrap_i64, ↓reduceIte, Nat.reduceEqDiff, Nat.reduceAdd, Nat.reduceSub, Nat.reduceMul, Nat.reduceLeDiff, reduceCtorEq, Int.reduceToNat, Int.reduceLE, Int.reduceLT]; rfl) (by first | (simp (disch := omega) only [go_sem, ↓reduceIte, Nat.reduceEqDiff, Nat.reduceAdd, Nat.reduceSub, Nat.reduceMul, Nat.reduceLeDiff, reduceCtorEq, Int.reduceToNat, Int.reduceLE, Int.reduceLT]; rfl) | simp (disch := omega) only [go_sem, ↓reduceIte, Nat.reduceEqDiff, Nat.reduceAdd, Nat.reduceSub, Nat.reduceMul, Nat.reduceLeDiff, reduceCtorEq, Int.reduceToNat, Int.reduceLE, Int.reduceLT]) (by simp only [go_sem]; rfl) rfl (by simp only [go_sem]; rfl) (by simp [AVal.one]) (by rfl) (by first | (simp; done) | (simp; omega) | omega) (by simp (disch := omega) only [go_sem, wrap_i64, ↓reduceIte, Nat.reduceEqDiff, Nat.reduceAdd, Nat.reduceSub, Nat.reduceMul, Nat.reduceLeDiff, reduceCtorEq, Int.reduceToNat, Int.reduceLE, Int.reduceLT]; rfl) ?_
        refine aL_nil ?_
        refine awp_region (by kernel_rfl) ?_
        iterate 2 (refine aL_S rfl rfl (by simp (disch := omega) only [go_sem, wrap_i64, ↓reduceIte, Nat.reduceEqDiff, Nat.reduceAdd, Nat.reduceSub, Nat.reduceMul, Nat.reduceLeDiff, reduceCtorEq, Int.reduceToNat, Int.reduceLE, Int.reduceLT]; rfl) ?_)
        refine aL_nil ?_
        refine aNext (ι := Store × Nat) (i := ⟨υ, j⟩) (υ.set x.o (shC (updS (q : Int) r j x)), j + 1) ?_ ?_ ?_ ?_
        · show E.length - (j + 1) < E.length - j; omega
        · exact ⟨hj, upd_step hSnd hx j2, by rw [Store.set_ne _ _ (Ne.symm (hco x hxE))]; exact j3, by rw [Store.set_ne _ _ (Ne.symm (hxm x hxE))]; exact j4, j5.set (List.mem_map.2 ⟨x, hxE, rfl⟩)⟩
        · ((repeat (refine covers.eq (by first | rfl | (simp (disch := omega) only [go_sem, wrap_i64, ↓reduceIte, Nat.reduceEqDiff, Nat.reduceAdd, Nat.reduceSub, Nat.reduceMul, Nat.reduceLeDiff, reduceCtorEq, Int.reduceToNat, Int.reduceLE, Int.reduceLT]; rfl) | (simp (disch := omega) only [go_sem, wrap_i64, ↓reduceIte, Nat.reduceEqDiff, Nat.reduceAdd, Nat.reduceSub, Nat.reduceMul, Nat.reduceLeDiff, reduceCtorEq, Int.reduceToNat, Int.reduceLE, Int.reduceLT])) ?_)); exact covers.nil)
        · simp only [Store.set_set]; exact Store.Wk.refl' (by rw [hu1])
      · (try simp only [decide_eq_true_eq, decide_eq_false_iff_not, Bool.not_eq_true', Bool.not_eq_false', Bool.and_eq_true, Bool.or_eq_true, Bool.and_eq_false_iff, Bool.or_eq_false_iff, Bool.not_eq_eq_eq_not, Bool.not_true, Bool.not_false, Int.not_le, Int.not_lt, beq_iff_eq] at hc17)
        have hu2 : shC (updS (q : Int) r j x) = .cells [vStr x.nm, vInt x.pl, vInt 0, vInt (q : Int)] := by unfold updS shC; rw [if_neg (by omega), Int.add_zero]
        refine awp_skip ?_
        refine awp_region (by kernel_rfl) ?_
        iterate 2 (refine aL_S rfl rfl (by simp (disch := omega) only [go_sem, wrap_i64, ↓reduceIte, Nat.reduceEqDiff, Nat.reduceAdd, Nat.reduceSub, Nat.reduceMul, Nat.reduceLeDiff, reduceCtorEq, Int.reduceToNat, Int.reduceLE, Int.reduceLT]; rfl) ?_)
        refine aL_nil ?_
        refine aNext (ι := Store × Nat) (i := ⟨υ, j⟩) (υ.set x.o (shC (updS (q : Int) r j x)), j + 1) ?_ ?_ ?_ ?_
        · show E.length - (j + 1) < E.length - j; omega
        · exact ⟨hj, upd_step hSnd hx j2, by rw [Store.set_ne _ _ (Ne.symm (hco x hxE))]; exact j3, by rw [Store.set_ne _ _ (Ne.symm (hxm x hxE))]; exact j4, j5.set (List.mem_map.2 ⟨x, hxE, rfl⟩)⟩
        · ((repeat (refine covers.eq (by first | rfl | (simp (disch := omega) only [go_sem, wrap_i64, ↓reduceIte, Nat.reduceEqDiff, Nat.reduceAdd, Nat.reduceSub, Nat.reduceMul, Nat.reduceLeDiff, reduceCtorEq, Int.reduceToNat, Int.reduceLE, Int.reduceLT]; rfl) | (simp (disch := omega) only [go_sem, wrap_i64, ↓reduceIte, Nat.reduceEqDiff, Nat.reduceAdd, Nat.reduceSub, Nat.reduceMul, Nat.reduceLeDiff, reduceCtorEq, Int.reduceToNat, Int.reduceLE, Int.reduceLT])) ?_)); exact covers.nil)
        · simp only [Store.set_set]; exact Store.Wk.refl' (by rw [hu2])
    · (try simp only [decide_eq_true_eq, decide_eq_false_iff_not, Bool.not_eq_true', Bool.not_eq_false', Bool.and_eq_true, Bool.or_eq_true, Bool.and_eq_false_iff, Bool.or_eq_false_iff, Bool.not_eq_eq_eq_not, Bool.not_true, Bool.not_false, Int.not_le, Int.not_lt, beq_iff_eq] at hc14)
      refine awp_exit ?_
      refine aThen_exit ?_
      refine aThen_exit ?_
      refine aBlock_hit ?_
      refine awp_seq ?_
      refine awp_region (by kernel_rfl) ?_
      iterate 4 (refine aL_S rfl rfl (by simp (disch := omega) only [go_sem, wrap_i64, ↓reduceIte, Nat.reduceEqDiff, Nat.reduceAdd, Nat.reduceSub, Nat.reduceMul, Nat.reduceLeDiff, reduceCtorEq, Int.reduceToNat, Int.reduceLE, Int.reduceLT]; rfl) ?_)
      refine aL_nil ?_
      refine awp_ret ?_
      refine aEnd_retW (v := .tup [.sl 1 (E.map fun x => .ref x.o 0) false, .map o14]) (v' := .tup [.own k 1 (E.map fun x => .ref x.o 0), .map o14]) (σ' := υ) (by first | (simp (disch := omega) only [go_sem, wrap_i64, ↓reduceIte, Nat.reduceEqDiff, Nat.reduceAdd, Nat.reduceSub, Nat.reduceMul, Nat.reduceLeDiff, reduceCtorEq, Int.reduceToNat, Int.reduceLE, Int.reduceLT]; rfl) | (simp (disch := omega) only [go_sem, wrap_i64, ↓reduceIte, Nat.reduceEqDiff, Nat.reduceAdd, Nat.reduceSub, Nat.reduceMul, Nat.reduceLeDiff, reduceCtorEq, Int.reduceToNat, Int.reduceLE, Int.reduceLT])) (.tup _ _ rfl (fun i hi hi' => by match i, hi with | 0, _ => exact Wk.own1 .. | 1, _ => exact .refl _)) (Store.Wk.refl _) ⟨E, o14, rfl, hB, fun x hx => ?_, j4, j5⟩
      obtain ⟨y, hy, rfl⟩ := List.mem_map.1 hx
      obtain ⟨m, hm1, hm2⟩ := List.getElem_of_mem (hS2.mem_iff.2 hy)
      have hm3 : S[m]? = some y := by rw [List.getElem?_eq_getElem hm1, hm2]
      have := j2 m y hm3
      rw [if_pos (by omega)] at this
      rw [rank_of hS2 hS3 hm3, ← hqd, ← hrd]
      exact this
end Go.Proofs.Ytdedpamcpgbgmaa
