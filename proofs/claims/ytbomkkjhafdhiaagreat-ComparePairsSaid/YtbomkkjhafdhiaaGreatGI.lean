/-
  The items of some places: the library's Clone and DeleteFunc; Items merged, as the document does it; The items of some places, both ways; How small what is merged is; What must come, whatever the arguments are: Compare; its laws; CONTEXTS AND OBJECTS, as they come in; MESSAGES, as they come in. Own work (an AI agent).
-/
import Derived.Test.YtbomkkjhafdhiaaGreatGF
import Derived.Test.YtbomkkjhafdhiaaGreatGG
import Derived.Test.YtbomkkjhafdhiaaGreatGH
import Derived.Test.YtbomkkjhafdhiaaGreatGD
import Derived.Test.YtbomkkjhafdhiaaGreatGE

section
set_option linter.all false
set_option maxRecDepth 100000
namespace Go.Proofs.YtbomkkjhafdhiaaGreat
open Go.Ab

theorem drop_getI {α : Type} {L M : List α} {d j : Nat} (h : M.drop d = L.drop d) (hj : d ≤ j) : M[j]? = L[j]? := by
  have := congrArg (fun l => l[j - d]?) h
  simp only [List.getElem?_drop] at this
  rwa [show d + (j - d) = j by omega] at this
theorem flat_itm_len (L : List Itm) : (flat (L.map sItem)).length = L.length * 3 := by rw [flat_length (szItm L), List.length_map]
theorem flat_partI : ∀ {L : List Itm} {j : Nat} {x : Itm}, L[j]? = some x → ((flat (L.map sItem)).drop (j * 3)).take 3 = [vStr x.place, .sl 3 (x.obj.ctx.map sSeen) false, .sl 5 (x.obj.sibs.map sSib) false]
  | [], j, x, h => by simp at h
  | y :: L, 0, x, h => by
    simp only [List.getElem?_cons_zero, Option.some.injEq] at h
    subst h
    rfl
  | y :: L, j + 1, x, h => by
    rw [List.map_cons, flat_cons, show (j + 1) * 3 = 3 + j * 3 by omega, ← List.drop_drop]
    exact flat_partI (L := L) (j := j) h
theorem aput_flatI {M : List Itm} {j : Nat} {x : Itm} (hj : j < M.length) : aput (flat (M.map sItem)) (j * 3) [vStr x.place, .sl 3 (x.obj.ctx.map sSeen) false, .sl 5 (x.obj.sibs.map sSib) false] = flat ((M.set j x).map sItem) := by
  have e : M.set j x = M.take j ++ x :: M.drop (j + 1) := by rw [List.set_eq_take_append_cons_drop, if_pos hj]
  have e2 : M = M.take j ++ M[j] :: M.drop (j + 1) := by rw [List.getElem_cons_drop hj, List.take_append_drop]
  have hl : (flat ((M.take j).map sItem)).length = j * 3 := by rw [flat_itm_len, List.length_take, Nat.min_eq_left (by omega)]
  rw [e]
  conv => lhs; rw [e2]
  unfold aput
  rw [List.map_append, List.map_cons, flat_append, flat_cons, List.map_append, List.map_cons, flat_append, flat_cons, List.take_left' hl, List.drop_append, List.drop_of_length_le (by rw [hl]; simp), hl, show j * 3 + [vStr x.place, .sl 3 (x.obj.ctx.map sSeen) false, .sl 5 (x.obj.sibs.map sSib) false].length - j * 3 = 3 by rw [show [vStr x.place, .sl 3 (x.obj.ctx.map sSeen) false, .sl 5 (x.obj.sibs.map sSib) false].length = 3 from rfl]; omega]
  simp [AVal.cells]
theorem take_flatI {M : List Itm} {j : Nat} {zs : List AVal} : aput (flat (M.map sItem)) (j * 3) zs = flat ((M.take j).map sItem) ++ (zs ++ (flat (M.map sItem)).drop (j * 3 + zs.length)) := by
  unfold aput
  rw [List.append_assoc, List.map_take, flat_take (szItm M)]
abbrev fPl (b : Nat) : AVal := .fn (.func 25) [] [.ref b 0]
def isP (ps : List ByteArray) (d : Itm) : Bool := ps.any fun p => decide (p = d.place)
def itemsOf (L : List Itm) (ps : List ByteArray) : List Itm := L.filter (isP ps)
theorem items1_c {x : Itm} {b : Nat} {ps : List ByteArray} {tp : Bool} {σ : Store} (hn : ps.length ≤ 1000000) (hb : σ.heap b = some (.cells [.sl 1 (ps.map vStr) tp])) : ACalls Tryz.prog 25 [sItem x, .ref b 0] σ fun v σ' => v = vB (!isP ps x) ∧ σ = σ' := by
  refine ACalls_of Tryz.func25 rfl Tryz.ntmps25 (congrArg Array.toList Tryz.results25) (by simp only [List.length_cons, List.length_nil]; decide) ?_; simp only [envOf_cons, envOf_nil, Nat.reduceAdd]
  refine awp_seq ?_
  have R := hb
  refine awp_region (by kernel_rfl) ?_
  refine aL_box rfl rfl rfl v_ rfl g_ fun o2 ho2 => ?_
  repeat (rw [none_set_iff] at ho2; obtain ⟨_, ho2⟩ := ho2)
  (refine aL_S rfl rfl v_ ?_)
  refine aL_nil ?_
  have nb := ne_of_heap hb ho2
  refine awp_seq ?_
  have R := hb
  refine awp_region (by kernel_rfl) ?_
  iterate 3 (refine aL_S rfl rfl v_ ?_)
  refine aL_X rfl rfl (AOp_use rfl rfl (.inr ⟨rfl, rfl, rfl⟩) g_ va_ (containsStr_c hn) ?_); rintro _ _ ⟨rfl, rfl⟩
  iterate 2 (refine aL_S rfl rfl v_ ?_)
  refine aL_nil ?_
  refine awp_ret ?_
  refine aEnd_ret (σ' := σ) v_ sub_ ?_
  exact ⟨rfl, rfl⟩
def CBi (σ0 σ : Store) (L : List Itm) (v : AVal) : Prop := (L = [] ∧ v = .sl 3 [] false ∧ σ = σ0) ∨ ∃ o, σ0.heap o = none ∧ v = .msl o 3 0 L.length ∧ σ = σ0.set o (.cells (flat (L.map sItem)))
theorem clone0i_c {t : Bool} {σ : Store} : ACalls Tryz.prog 24 [.sl 3 [] t] σ fun v σ' => v = .sl 3 [] false ∧ σ = σ' := by
  refine ACalls_of Tryz.func24 rfl Tryz.ntmps24 (congrArg Array.toList Tryz.results24) (by simp only [List.length_cons, List.length_nil]; decide) ?_; simp only [envOf_cons, envOf_nil, Nat.reduceAdd]
  refine awp_seq ?_
  refine awp_region (by kernel_rfl) ?_
  (refine aL_S rfl rfl v_ ?_)
  refine aL_nil ?_
  refine awp_seq ?_
  refine awp_seq ?_
  refine awp_region (by kernel_rfl) ?_
  (refine aL_S rfl rfl v_ ?_)
  refine aL_X rfl rfl (AOp_eqNil0 rfl g_ va_ va_ fun b => ?_)
  refine aL_nil ?_
  refine awp_cond v_ (fun hc1 => ?_) (fun hc1 => ?_)
  · replace hc1 := nm_ hc1
    refine awp_seq ?_
    refine awp_region (by kernel_rfl) ?_
    (refine aL_S rfl rfl v_ ?_)
    refine aL_nil ?_
    refine awp_ret ?_
    exact aEnd_retW (v := .sl 3 [] false) (v' := vNil) va_ (.nil _ _) sub_ ⟨rfl, rfl⟩
  · replace hc1 := nm_ hc1
    refine awp_skip ?_
    refine awp_seq ?_
    refine awp_region (by kernel_rfl) ?_
    refine aL_buildSlice rfl rfl rfl g_ g_ rfl rfl h_ c2_ (by decide) ?_
    (refine aL_S rfl rfl v_ ?_)
    refine aL_X rfl rfl (AOp_append00 rfl g_ g_ va_ va_ ?_)
    (refine aL_S rfl rfl v_ ?_)
    refine aL_nil ?_
    refine awp_ret ?_
    refine aEnd_ret (σ' := σ) v_ sub_ ?_
    exact ⟨rfl, rfl⟩
theorem clone1i_c {L : List Itm} {t : Bool} {σ : Store} (h0 : L ≠ []) (hl : L.length ≤ 1000000) : ACalls Tryz.prog 24 [.sl 3 (L.map sItem) t] σ fun v σ' => ∃ o, σ.heap o = none ∧ v = .msl o 3 0 L.length ∧ σ' = σ.set o (.cells (flat (L.map sItem))) := by
  have hne : L.map sItem ≠ [] := by simpa using h0
  refine ACalls_of Tryz.func24 rfl Tryz.ntmps24 (congrArg Array.toList Tryz.results24) (by simp only [List.length_cons, List.length_nil]; decide) ?_; simp only [envOf_cons, envOf_nil, Nat.reduceAdd]
  refine awp_seq ?_
  refine awp_region (by kernel_rfl) ?_
  (refine aL_S rfl rfl v_ ?_)
  refine aL_nil ?_
  refine awp_seq ?_
  refine awp_seq ?_
  refine awp_region (by kernel_rfl) ?_
  (refine aL_S rfl rfl v_ ?_)
  refine aL_X rfl rfl (AOp_eqNil rfl g_ v_ (by exact hne) va_ ?_)
  refine aL_nil ?_
  refine awp_cond v_ (fun hc1 => ?_) (fun hc1 => ?_)
  · replace hc1 := nm_ hc1
    cases hc1
  · replace hc1 := nm_ hc1
    refine awp_skip ?_
    refine awp_seq ?_
    refine awp_region (by kernel_rfl) ?_
    refine aL_buildSlice rfl rfl rfl g_ g_ rfl rfl h_ c2_ (by decide) ?_
    (refine aL_S rfl rfl v_ ?_)
    refine aL_X rfl rfl (AOp_copyM rfl g_ g_ va_ v_ (by exact hne) (by simp; omega) fun o7 ho7 => ?_)
    (refine aL_S rfl rfl v_ ?_)
    refine aL_nil ?_
    refine awp_ret ?_
    refine aEnd_ret v_ (Store.Wk.refl _) ?_
    exact ⟨o7, ho7, by simp, rfl⟩
theorem cloneI {L : List Itm} {t : Bool} {σ : Store} (hl : L.length ≤ 1000000) : ACalls Tryz.prog 24 [.sl 3 (L.map sItem) t] σ fun v σ' => CBi σ σ' L v := by
  by_cases h : L = []
  · subst h
    exact clone0i_c.wkS fun v σ' ⟨hv, hs⟩ => ⟨v, σ', .refl _, .refl _, .inl ⟨rfl, hv, hs.symm⟩⟩
  · exact (clone1i_c h hl).wkS fun v σ' ⟨o, h1, h2, h3⟩ => ⟨v, σ', .refl _, .refl _, .inr ⟨o, h1, h2, h3⟩⟩
theorem idx0i_c {b : Nat} {σ : Store} : ACalls Tryz.prog 47 [.sl 3 [] false, fPl b] σ fun v σ' => v = vInt (-1) ∧ σ = σ' := by
  refine ACalls_of Tryz.func47 rfl Tryz.ntmps47 (congrArg Array.toList Tryz.results47) (by simp only [List.length_cons, List.length_nil]; decide) ?_; simp only [envOf_cons, envOf_nil, Nat.reduceAdd]
  refine awp_seq ?_
  refine awp_region (by kernel_rfl) ?_
  (refine aL_S rfl rfl v_ ?_)
  refine aL_nil ?_
  refine awp_seq ?_
  refine awp_seq ?_
  refine awp_region (by kernel_rfl) ?_
  iterate 3 (refine aL_S rfl rfl v_ ?_)
  refine aL_nil ?_
  refine awp_block ?_
  refine awp_loop_env (ι := Nat) (fun k => 0) (fun k => k = 0) (fun k => [(0, .sl 3 [] false), (1, fPl b), (7, vInt 0), (8, vInt k)]) (fun k => σ) 0 ?_ ?_ ?_ ?_
  · rfl
  · exact cv_
  · exact sub_
  rintro k hk
  simp only [envL_cons, envL_nil]
  refine awp_seq ?_
  refine awp_region (by kernel_rfl) ?_
  (refine aL_S rfl rfl v_ ?_)
  refine aL_nil ?_
  refine awp_seq ?_
  refine awp_cond v_ (fun hc2 => ?_) (fun hc2 => ?_)
  · replace hc2 := nm_ hc2
    omega
  · replace hc2 := nm_ hc2
    refine awp_exit ?_
    refine aThen_exit ?_
    refine aThen_exit ?_
    refine aBlock_hit ?_
    refine awp_seq ?_
    refine awp_region (by kernel_rfl) ?_
    (refine aL_S rfl rfl v_ ?_)
    refine aL_nil ?_
    refine awp_ret ?_
    refine aEnd_ret (σ' := σ) v_ sub_ ?_
    exact ⟨rfl, rfl⟩
theorem idxMi_c {o b : Nat} {ps : List ByteArray} {tp : Bool} {L : List Itm} {σ : Store} (hn : ps.length ≤ 1000000) (hb : σ.heap b = some (.cells [.sl 1 (ps.map vStr) tp])) (ho : σ.heap o = some (.cells (flat (L.map sItem)))) (hl : L.length ≤ 1000000) : ACalls Tryz.prog 47 [.msl o 3 0 L.length, fPl b] σ fun v σ' => (∃ r : Int, v = vInt r ∧ (r = -1 → L.filter (isP ps) = L) ∧ (r ≠ -1 → ∃ j : Nat, r = j ∧ j < L.length ∧ (L.take (j + 1)).filter (isP ps) = L.take j)) ∧ σ = σ' := by
  have hfl := flat_itm_len L
  refine ACalls_of Tryz.func47 rfl Tryz.ntmps47 (congrArg Array.toList Tryz.results47) (by simp only [List.length_cons, List.length_nil]; decide) ?_; simp only [envOf_cons, envOf_nil, Nat.reduceAdd]
  refine awp_seq ?_
  refine awp_region (by kernel_rfl) ?_
  (refine aL_S rfl rfl v_ ?_)
  refine aL_nil ?_
  refine awp_seq ?_
  refine awp_seq ?_
  refine awp_region (by kernel_rfl) ?_
  iterate 3 (refine aL_S rfl rfl v_ ?_)
  refine aL_nil ?_
  refine awp_block ?_
  refine awp_loop_env (ι := Nat) (fun k => L.length - k) (fun k => k ≤ L.length ∧ (L.take k).filter (isP ps) = L.take k) (fun k => [(0, .msl o 3 0 L.length), (1, fPl b), (7, vInt L.length), (8, vInt k)]) (fun k => σ) 0 ?_ ?_ ?_ ?_
  · exact ⟨Nat.zero_le _, rfl⟩
  · exact cv_
  · exact sub_
  rintro k ⟨hk, hf⟩
  simp only [envL_cons, envL_nil]
  refine awp_seq ?_
  refine awp_region (by kernel_rfl) ?_
  (refine aL_S rfl rfl v_ ?_)
  refine aL_nil ?_
  refine awp_seq ?_
  refine awp_cond v_ (fun hc2 => ?_) (fun hc2 => ?_)
  · replace hc2 := nm_ hc2
    refine awp_skip ?_
    refine awp_seq ?_
    refine awp_block ?_
    refine awp_seq ?_
    refine awp_region (by kernel_rfl) ?_
    iterate 2 (refine aL_S rfl rfl v_ ?_)
    refine aL_nil ?_
    refine awp_seq ?_
    obtain ⟨x, hx⟩ := get_some (l := L) (k := k) (by omega)
    have px := flat_partI hx
    have R := And.intro px (And.intro ho hfl)
    refine awp_region (by kernel_rfl) ?_
    iterate 5 (refine aL_S rfl rfl v_ ?_)
    refine aL_X rfl rfl (AOp_use rfl rfl (.inl v_) g_ va_ (items1_c hn hb) ?_); rintro _ _ ⟨rfl, rfl⟩
    refine aL_nil ?_
    refine awp_cond v_ (fun hc4 => ?_) (fun hc4 => ?_)
    · replace hc4 := nm_ hc4
      refine awp_seq ?_
      refine awp_region (by kernel_rfl) ?_
      iterate 2 (refine aL_S rfl rfl v_ ?_)
      refine aL_nil ?_
      refine awp_ret ?_
      refine aEnd_ret (σ' := σ) v_ sub_ ?_
      exact ⟨⟨k, rfl, fun h => by omega, fun _ => ⟨k, rfl, by omega, by rw [take_snoc hx, List.filter_append, hf]; simp [hc4]⟩⟩, rfl⟩
    · replace hc4 := nm_ hc4
      refine awp_skip ?_
      refine awp_region (by kernel_rfl) ?_
      iterate 2 (refine aL_S rfl rfl v_ ?_)
      refine aL_nil ?_
      refine aNext (ι := Nat) (i := k) (k + 1) ?_ ?_ ?_ ?_
      · omega
      · exact ⟨by omega, by rw [take_snoc hx, List.filter_append, hf]; simp [hc4]⟩
      · exact cv_
      · exact sub_
  · replace hc2 := nm_ hc2
    refine awp_exit ?_
    refine aThen_exit ?_
    refine aThen_exit ?_
    refine aBlock_hit ?_
    refine awp_seq ?_
    refine awp_region (by kernel_rfl) ?_
    (refine aL_S rfl rfl v_ ?_)
    refine aL_nil ?_
    refine awp_ret ?_
    refine aEnd_ret (σ' := σ) v_ sub_ ?_
    exact ⟨⟨-1, rfl, fun _ => by rwa [List.take_of_length_le (by omega)] at hf, fun h => absurd rfl h⟩, rfl⟩
structure DlIt (ps : List ByteArray) (L : List Itm) (j i : Nat) (M : List Itm) : Prop where
  len : M.length = L.length
  tk : M.take i = (L.take j).filter (isP ps)
  cnt : ((L.take j).filter (isP ps)).length = i
  lt : i < j
  le : j ≤ L.length
  dr : M.drop j = L.drop j
theorem DlIt.put {ps : List ByteArray} {L : List Itm} {j i : Nat} {M : List Itm} {x : Itm} (h : DlIt ps L j i M) (hx : L[j]? = some x) (hg : isP ps x = true) : DlIt ps L (j + 1) (i + 1) (M.set i x) := by
  have h1 := (List.getElem?_eq_some_iff.1 hx).1
  have hk := h.lt
  have hl := h.len
  have hf : (L.take (j + 1)).filter (isP ps) = (L.take j).filter (isP ps) ++ [x] := by rw [take_snoc hx, List.filter_append]; simp [hg]
  refine ⟨by rw [List.length_set]; exact hl, ?_, by rw [hf, List.length_append, h.cnt]; rfl, by omega, by omega, ?_⟩
  · rw [hf, ← h.tk, take_snoc (show (M.set i x)[i]? = some x by rw [List.getElem?_set_self]; omega), List.take_set_of_le (Nat.le_refl _)]
  · rw [List.drop_set_of_lt (by omega)]
    have := congrArg (List.drop 1) h.dr
    rwa [List.drop_drop, List.drop_drop] at this
theorem DlIt.skip {ps : List ByteArray} {L : List Itm} {j i : Nat} {M : List Itm} {x : Itm} (h : DlIt ps L j i M) (hx : L[j]? = some x) (hg : isP ps x = false) : DlIt ps L (j + 1) i M := by
  have h1 := (List.getElem?_eq_some_iff.1 hx).1
  have hk := h.lt
  have hf : (L.take (j + 1)).filter (isP ps) = (L.take j).filter (isP ps) := by rw [take_snoc hx, List.filter_append]; simp [hg]
  refine ⟨h.len, by rw [hf]; exact h.tk, by rw [hf]; exact h.cnt, by omega, by omega, ?_⟩
  have := congrArg (List.drop 1) h.dr
  rwa [List.drop_drop, List.drop_drop] at this
theorem delete0i_c {b : Nat} {σ : Store} : ACalls Tryz.prog 23 [.sl 3 [] false, fPl b] σ fun v σ' => v = .sl 3 [] false ∧ σ = σ' := by
  refine ACalls_of Tryz.func23 rfl Tryz.ntmps23 (congrArg Array.toList Tryz.results23) (by simp only [List.length_cons, List.length_nil]; decide) ?_; simp only [envOf_cons, envOf_nil, Nat.reduceAdd]
  refine awp_seq ?_
  refine awp_region (by kernel_rfl) ?_
  (refine aL_S rfl rfl v_ ?_)
  refine aL_nil ?_
  refine awp_seq ?_
  refine awp_region (by kernel_rfl) ?_
  iterate 2 (refine aL_S rfl rfl v_ ?_)
  refine aL_X rfl rfl (AOp_use rfl rfl (.inr ⟨rfl, rfl, rfl⟩) g_ va_ (idx0i_c) ?_); rintro _ _ ⟨rfl, rfl⟩
  (refine aL_S rfl rfl v_ ?_)
  refine aL_nil ?_
  refine awp_seq ?_
  refine awp_seq ?_
  refine awp_region (by kernel_rfl) ?_
  iterate 2 (refine aL_S rfl rfl v_ ?_)
  refine aL_nil ?_
  refine awp_cond v_ (fun hc2 => ?_) (fun hc2 => ?_)
  · replace hc2 := nm_ hc2
    refine awp_seq ?_
    refine awp_region (by kernel_rfl) ?_
    iterate 2 (refine aL_S rfl rfl v_ ?_)
    refine aL_nil ?_
    refine awp_ret ?_
    refine aEnd_ret (σ' := σ) v_ sub_ ?_
    exact ⟨rfl, rfl⟩
  · replace hc2 := nm_ hc2
    first | omega | (simp at hc2; done) | cases hc2
set_option maxHeartbeats 2000000 in
theorem deleteMi_c {o b : Nat} {ps : List ByteArray} {tp : Bool} {L : List Itm} {σ : Store} (hn : ps.length ≤ 1000000) (hb : σ.heap b = some (.cells [.sl 1 (ps.map vStr) tp])) (hbo : b ≠ o) (ho : σ.heap o = some (.cells (flat (L.map sItem)))) (hl : L.length ≤ 1000000) :
    ACalls Tryz.prog 23 [.msl o 3 0 L.length, fPl b] σ fun v σ' => ∃ zs : List AVal, v = .msl o 3 0 (L.filter (isP ps)).length ∧ σ' = σ.set o (.cells (flat ((L.filter (isP ps)).map sItem) ++ zs)) := by
  have hfl := flat_itm_len L
  refine ACalls_of Tryz.func23 rfl Tryz.ntmps23 (congrArg Array.toList Tryz.results23) (by simp only [List.length_cons, List.length_nil]; decide) ?_; simp only [envOf_cons, envOf_nil, Nat.reduceAdd]
  refine awp_seq ?_
  refine awp_region (by kernel_rfl) ?_
  (refine aL_S rfl rfl v_ ?_)
  refine aL_nil ?_
  refine awp_seq ?_
  refine awp_region (by kernel_rfl) ?_
  iterate 2 (refine aL_S rfl rfl v_ ?_)
  refine aL_X rfl rfl (AOp_use rfl rfl (.inr ⟨rfl, rfl, rfl⟩) g_ va_ (idxMi_c hn hb ho hl) ?_); rintro _ _ ⟨⟨r, rfl, h1, h2⟩, rfl⟩
  (refine aL_S rfl rfl v_ ?_)
  refine aL_nil ?_
  refine awp_seq ?_
  refine awp_seq ?_
  refine awp_region (by kernel_rfl) ?_
  iterate 2 (refine aL_S rfl rfl v_ ?_)
  refine aL_nil ?_
  refine awp_cond v_ (fun hc2 => ?_) (fun hc2 => ?_)
  · replace hc2 := nm_ hc2
    refine awp_seq ?_
    refine awp_region (by kernel_rfl) ?_
    iterate 2 (refine aL_S rfl rfl v_ ?_)
    refine aL_nil ?_
    refine awp_ret ?_
    refine aEnd_ret v_ (Store.Wk.refl _) ?_
    exact ⟨[], by rw [h1 hc2], by rw [h1 hc2, List.append_nil, Store.set_same ho]⟩
  · replace hc2 := nm_ hc2
    obtain ⟨j0, rfl, hj0, hf0⟩ := h2 hc2
    have hI0 : DlIt ps L (j0 + 1) j0 L := ⟨rfl, hf0.symm, by rw [hf0, List.length_take]; omega, by omega, by omega, rfl⟩
    refine awp_skip ?_
    refine awp_seq ?_
    refine awp_seq ?_
    refine awp_region (by kernel_rfl) ?_
    iterate 3 (refine aL_S rfl rfl v_ ?_)
    refine aL_nil ?_
    refine awp_block ?_
    refine awp_loop_env (ι := Nat × Nat × List Itm) (fun ⟨j, i, M⟩ => L.length - j) (fun ⟨j, i, M⟩ => DlIt ps L j i M) (fun ⟨j, i, M⟩ => [(0, .msl o 3 0 L.length), (1, fPl b), (5, vInt i), (6, vInt j)]) (fun ⟨j, i, M⟩ => (σ.set o (.cells (flat (M.map sItem))))) (j0 + 1, j0, L) ?_ ?_ ?_ ?_
    · exact hI0
    · exact cv_
    · (try dsimp only); rw [Store.set_same ho]; exact Store.Wk.refl _
    rintro ⟨j, i, M⟩ hI
    simp only [envL_cons, envL_nil]
    refine awp_seq ?_
    refine awp_seq ?_
    refine awp_region (by kernel_rfl) ?_
    iterate 4 (refine aL_S rfl rfl v_ ?_)
    refine aL_nil ?_
    refine awp_cond v_ (fun hc5 => ?_) (fun hc5 => ?_)
    · replace hc5 := nm_ hc5
      refine awp_skip ?_
      refine awp_seq ?_
      refine awp_block ?_
      refine awp_seq ?_
      have hjl : j < L.length := by omega
      obtain ⟨x, hx⟩ := get_some (l := L) (k := j) hjl
      have hMx : M[j]? = some x := by rw [drop_getI hI.dr (Nat.le_refl _)]; exact hx
      have px := flat_partI hMx
      have hflM := flat_itm_len M
      rw [hI.len] at hflM
      have hil := hI.lt
      have R := And.intro px hflM
      refine awp_region (by kernel_rfl) ?_
      iterate 4 (refine aL_S rfl rfl v_ ?_)
      refine aL_alloc rfl rfl rfl g_ gl_ fun o7 ho7 => ?_
      repeat (rw [none_set_iff] at ho7; obtain ⟨_, ho7⟩ := ho7)
      refine aL_store rfl rfl rfl v_ v_ h_ g_ rfl g_ c_ (by rfl) le_ v_ ?_
      refine aL_nil ?_
      refine awp_seq ?_
      have nb7 := ne_of_heap hb ho7
      refine awp_region (by kernel_rfl) ?_
      iterate 2 (refine aL_S rfl rfl v_ ?_)
      refine aL_X rfl rfl (AOp_use rfl rfl (.inl v_) g_ va_ (items1_c (ps := ps) (tp := tp) hn (by simp (disch := omega) only [Store.set_ne, hb])) ?_); rintro _ _ ⟨rfl, rfl⟩
      (refine aL_S rfl rfl v_ ?_)
      refine aL_nil ?_
      refine awp_cond v_ (fun hc8 => ?_) (fun hc8 => ?_)
      · replace hc8 := nm_ hc8
        refine awp_seq ?_
        have R := hflM
        refine awp_region (by kernel_rfl) ?_
        iterate 4 (refine aL_S rfl rfl v_ ?_)
        refine aL_store rfl rfl rfl v_ v_ h_ g_ rfl g_ c_ (by rfl) (by rw [hflM]; omega) (aput_flatI (by rw [hI.len]; omega)) ?_
        refine aL_nil ?_
        refine awp_region (by kernel_rfl) ?_
        iterate 3 (refine aL_S rfl rfl v_ ?_)
        refine aL_nil ?_
        refine awp_region (by kernel_rfl) ?_
        iterate 3 (refine aL_S rfl rfl v_ ?_)
        refine aL_nil ?_
        refine aNext (ι := Nat × Nat × List Itm) (i := ⟨j, i, M⟩) (j + 1, i + 1, M.set i x) ?_ ?_ ?_ ?_
        · show L.length - (j + 1) < L.length - j; omega
        · exact hI.put hx (by simpa using hc8)
        · exact cv_
        · exact sub_
      · replace hc8 := nm_ hc8
        refine awp_skip ?_
        refine awp_region (by kernel_rfl) ?_
        iterate 3 (refine aL_S rfl rfl v_ ?_)
        refine aL_nil ?_
        refine aNext (ι := Nat × Nat × List Itm) (i := ⟨j, i, M⟩) (j + 1, i, M) ?_ ?_ ?_ ?_
        · show L.length - (j + 1) < L.length - j; omega
        · exact hI.skip hx (by simpa using hc8)
        · exact cv_
        · exact sub_
    · replace hc5 := nm_ hc5
      refine awp_exit ?_
      refine aThen_exit ?_
      refine aThen_exit ?_
      refine aBlock_hit ?_
      refine awp_seq ?_
      have hil := hI.lt
      have hle := hI.le
      have hflM := flat_itm_len M
      rw [hI.len] at hflM
      have hcnt := hI.cnt
      have htk := hI.tk
      rw [show j = L.length by omega, List.take_length] at hcnt htk
      refine awp_region (by kernel_rfl) ?_
      iterate 3 (refine aL_S rfl rfl v_ ?_)
      refine aL_X0 rfl rfl (AOp_clear (sz := 3) rfl g_ g_ (by rfl) (by decide) va_ h_ (by rw [hflM]; omega) fun zs hz => ?_)
      refine aL_nil ?_
      refine awp_seq ?_
      refine awp_region (by kernel_rfl) ?_
      iterate 4 (refine aL_S rfl rfl v_ ?_)
      refine aL_nil ?_
      refine awp_ret ?_
      refine aEnd_ret v_ (Store.Wk.refl _) ?_
      exact ⟨zs ++ (flat (M.map sItem)).drop (i * 3 + zs.length), by rw [hcnt]; rfl, by rw [Store.set_set, take_flatI, htk]⟩
theorem deleteI {σ0 σ : Store} {b : Nat} {ps : List ByteArray} {tp : Bool} {L : List Itm} {a : AVal} (hn : ps.length ≤ 1000000) (hb : σ0.heap b = some (.cells [.sl 1 (ps.map vStr) tp])) (h : CBi σ0 σ L a) (hl : L.length ≤ 1000000) :
    ACalls Tryz.prog 23 [a, fPl b] σ fun v σ' => v = .sl 3 ((itemsOf L ps).map sItem) false ∧ σ0 = σ' := by
  rcases h with ⟨rfl, rfl, rfl⟩ | ⟨o, ho, rfl, rfl⟩
  · exact delete0i_c
  · have hbo : b ≠ o := ne_of_heap hb ho
    refine (deleteMi_c (ps := ps) (tp := tp) hn (by rw [Store.set_ne _ _ hbo]; exact hb) hbo (Store.set_get ..) hl).after ?_
    rintro κ _ _ cv hI hr ⟨zs, rfl, rfl⟩
    obtain ⟨κ', h1, h2, h3, h4⟩ := Ab.freeze hI hr (Store.set_get ..) (l := (L.filter (isP ps)).map sItem) (by rw [List.take_left' (by rw [flat_itm_len])]) (by simp) (szItm _)
    rw [Store.set_set, Store.set_del ho] at h3
    exact ⟨κ', _, _, h1, h2, h3, h4, rfl, rfl⟩
end Go.Proofs.YtbomkkjhafdhiaaGreat
end

section
set_option linter.all false
set_option maxRecDepth 100000
namespace Go.Proofs.YtbomkkjhafdhiaaGreat
open Go.Ab
instance : Inhabited Itm := ⟨⟨.empty, ⟨[], []⟩⟩⟩
/-! ### few; the same; may be -/
theorem rMay29_c {l : List Itm} {t : Bool} {σ : Store} (hx : ∀ x ∈ l, ItemSm x) (hn : l.length ≤ 1000000) : ACalls Tryz.prog 5 [.sl 3 (l.map sItem) t] σ fun v σ' => v = vB (itemsOk l) ∧ σ = σ' := by
  refine ACalls_of Tryz.func5 rfl Tryz.ntmps5 (congrArg Array.toList Tryz.results5) (by simp only [List.length_cons, List.length_nil]; decide) ?_; simp only [envOf_cons, envOf_nil, Nat.reduceAdd]
  refine awp_seq ?_
  refine awp_region (by kernel_rfl) ?_
  (refine aL_S rfl rfl v_ ?_)
  refine aL_nil ?_
  refine awp_seq ?_
  refine awp_region (by kernel_rfl) ?_
  iterate 2 (refine aL_S rfl rfl v_ ?_)
  refine aL_X rfl rfl (AOp_use rfl rfl (.inr ⟨rfl, rfl, rfl⟩) g_ va_ (rMay27_c hx hn) ?_); rintro _ _ ⟨rfl, rfl⟩
  (refine aL_S rfl rfl v_ ?_)
  refine aL_nil ?_
  refine awp_ret ?_
  refine aEnd_ret (σ' := σ) v_ sub_ ?_
  exact ⟨rfl, rfl⟩
theorem few29_c {l : List Itm} {t : Bool} {σ : Store} : ACalls Tryz.prog 4 [.sl 3 (l.map sItem) t] σ fun v σ' => v = vB (fewIt l) ∧ σ = σ' := by
  refine ACalls_of Tryz.func4 rfl Tryz.ntmps4 (congrArg Array.toList Tryz.results4) (by simp only [List.length_cons, List.length_nil]; decide) ?_; simp only [envOf_cons, envOf_nil, Nat.reduceAdd]
  refine awp_seq ?_
  refine awp_region (by kernel_rfl) ?_
  (refine aL_S rfl rfl v_ ?_)
  refine aL_nil ?_
  refine awp_seq ?_
  refine awp_region (by kernel_rfl) ?_
  iterate 2 (refine aL_S rfl rfl v_ ?_)
  refine aL_X rfl rfl (AOp_use rfl rfl (.inr ⟨rfl, rfl, rfl⟩) g_ va_ (fewIt_c) ?_); rintro _ _ ⟨rfl, rfl⟩
  (refine aL_S rfl rfl v_ ?_)
  refine aL_nil ?_
  refine awp_ret ?_
  refine aEnd_ret (σ' := σ) v_ sub_ ?_
  exact ⟨rfl, rfl⟩
theorem same29_c {a b : List Itm} {ta tb : Bool} {σ : Store} (hA : ∀ x ∈ a, ObjSm x.obj) (hB : ∀ x ∈ b, ObjSm x.obj) (hla : a.length ≤ 1000000) (hlb : b.length ≤ 1000000) : ACalls Tryz.prog 8 [.sl 3 (a.map sItem) ta, .sl 3 (b.map sItem) tb] σ fun v σ' => v = vB (decide (a = b)) ∧ σ = σ' := by
  refine ACalls_of Tryz.func8 rfl Tryz.ntmps8 (congrArg Array.toList Tryz.results8) (by simp only [List.length_cons, List.length_nil]; decide) ?_; simp only [envOf_cons, envOf_nil, Nat.reduceAdd]
  refine awp_seq ?_
  refine awp_region (by kernel_rfl) ?_
  (refine aL_S rfl rfl v_ ?_)
  refine aL_nil ?_
  refine awp_seq ?_
  refine awp_region (by kernel_rfl) ?_
  iterate 4 (refine aL_S rfl rfl v_ ?_)
  refine aL_X rfl rfl (AOp_use rfl rfl (.inr ⟨rfl, rfl, rfl⟩) g_ va_ (sameIt_c hA hB hla hlb) ?_); rintro _ _ ⟨rfl, rfl⟩
  (refine aL_S rfl rfl v_ ?_)
  refine aL_nil ?_
  refine awp_ret ?_
  refine aEnd_ret (σ' := σ) v_ sub_ ?_
  exact ⟨rfl, rfl⟩
/-! ### merged -/
end Go.Proofs.YtbomkkjhafdhiaaGreat
end

section
set_option linter.all false
set_option maxRecDepth 100000
namespace Go.Proofs.YtbomkkjhafdhiaaGreat
open Go.Ab
/-! ### the items of some places -/
theorem items_c {L : List Itm} {ps : List ByteArray} {t tp : Bool} {σ : Store} (hl : L.length ≤ 1000000) (hn : ps.length ≤ 1000000) : ACalls Tryz.prog 10 [.sl 3 (L.map sItem) t, .sl 1 (ps.map vStr) tp] σ fun v σ' => v = .sl 3 ((itemsOf L ps).map sItem) false ∧ σ = σ' := by
  refine ACalls_of Tryz.func10 rfl Tryz.ntmps10 (congrArg Array.toList Tryz.results10) (by simp only [List.length_cons, List.length_nil]; decide) ?_; simp only [envOf_cons, envOf_nil, Nat.reduceAdd]
  refine awp_seq ?_
  refine awp_region (by kernel_rfl) ?_
  refine aL_box rfl rfl rfl v_ rfl g_ fun o3 ho3 => ?_
  repeat (rw [none_set_iff] at ho3; obtain ⟨_, ho3⟩ := ho3)
  (refine aL_S rfl rfl v_ ?_)
  refine aL_nil ?_
  refine awp_seq ?_
  refine awp_region (by kernel_rfl) ?_
  (refine aL_S rfl rfl v_ ?_)
  refine aL_X rfl rfl (AOp_use rfl rfl (.inr ⟨rfl, rfl, rfl⟩) g_ va_ (cloneI hl) ?_); rintro _ τ0 hC0
  (refine aL_S rfl rfl v_ ?_)
  refine aL_X rfl rfl (AOp_use rfl rfl (.inr ⟨rfl, rfl, rfl⟩) g_ va_ (deleteI hn (Store.set_get ..) hC0 hl) ?_); rintro _ _ ⟨rfl, rfl⟩
  (refine aL_S rfl rfl v_ ?_)
  refine aL_nil ?_
  refine awp_ret ?_
  refine aEnd_ret (σ' := σ) v_ sub_ ?_
  exact ⟨rfl, rfl⟩
theorem itemsOf_len (L : List Itm) (ps : List ByteArray) : (itemsOf L ps).length ≤ L.length := List.length_filter_le ..
end Go.Proofs.YtbomkkjhafdhiaaGreat
end

section
set_option linter.all false
set_option maxRecDepth 100000
namespace Go.Proofs.YtbomkkjhafdhiaaGreat
open Go.Ab
theorem fewIt_sm {l : List Itm} (h : fewIt l = true) : l.length ≤ 8 ∧ (∀ x ∈ l, ItemSm x) ∧ ∀ x ∈ l, FewO x.obj := by
  simp only [fewIt, Bool.and_eq_true, decide_eq_true_eq, List.all_eq_true] at h
  have h2 : ∀ x ∈ l, FewO x.obj := fun x hx => fewOb_iff.1 (h.2 x hx).2
  exact ⟨h.1, fun x hx => ⟨by have := (h.2 x hx).1; omega, (h2 x hx).sm⟩, h2⟩
theorem FewO.merge_sm {a b : Obj'} (ha : FewO a) (hB : FewO b) : ObjSm (mergeS a b).1 := mergeS_sm (by have := ha.1.1; have := hB.1.1; omega) (by have := ha.2.1; have := hB.2.1; omega)
/-- what comes of merging is small -/
theorem mgG_sm {n : Nat} : ∀ (k : Nat) (l os : List Itm), l.length + os.length ≤ k → (∀ x ∈ l, ObjSm x.obj) → (∀ x ∈ os, ObjSm x.obj) → (∀ x ∈ l, ∀ y ∈ os, ObjSm (mergeS x.obj y.obj).1) → (∀ x ∈ (mgG l os).1, ObjSm x.obj) ∧ (∀ x ∈ (mgG l os).2.1, ObjSm x.obj) ∧ (mgG l os).1.length ≤ l.length + os.length ∧ (mgG l os).2.1.length ≤ l.length + os.length
  | k, [], os, _, _, h2, _ => by rw [mgG_nil]; exact ⟨h2, h2, by simp, by simp⟩
  | k, a :: l, [], _, h1, _, _ => by rw [mgG_nil2]; exact ⟨h1, fun x hx => (List.not_mem_nil hx).elim, by simp, by simp⟩
  | 0, a :: l, b :: os, hk, _, _, _ => by simp at hk
  | k + 1, a :: l, b :: os, hk, h1, h2, h3 => by
    have z : ∀ e : Int, (∀ x ∈ (([], [], e) : List Itm × List Itm × Int).1, ObjSm x.obj) ∧ (∀ x ∈ (([], [], e) : List Itm × List Itm × Int).2.1, ObjSm x.obj) ∧ (([], [], e) : List Itm × List Itm × Int).1.length ≤ (a :: l).length + (b :: os).length ∧ (([], [], e) : List Itm × List Itm × Int).2.1.length ≤ (a :: l).length + (b :: os).length := fun e => ⟨fun x hx => (List.not_mem_nil hx).elim, fun x hx => (List.not_mem_nil hx).elim, Nat.zero_le _, Nat.zero_le _⟩
    have i1 := mgG_sm (n := n) k l (b :: os) (by simp at hk ⊢; omega) (fun x hx => h1 x (.tail _ hx)) h2 fun x hx y hy => h3 x (.tail _ hx) y hy
    have i2 := mgG_sm (n := n) k (a :: l) os (by simp at hk ⊢; omega) h1 (fun x hx => h2 x (.tail _ hx)) fun x hx y hy => h3 x hx y (.tail _ hy)
    have i3 := mgG_sm (n := n) k l os (by simp at hk ⊢; omega) (fun x hx => h1 x (.tail _ hx)) (fun x hx => h2 x (.tail _ hx)) fun x hx y hy => h3 x (.tail _ hx) y (.tail _ hy)
    have cons : ∀ {x : Itm} {m : List Itm}, ObjSm x.obj → (∀ y ∈ m, ObjSm y.obj) → ∀ y ∈ x :: m, ObjSm y.obj := fun hx hm y hy => by
      rcases List.mem_cons.1 hy with rfl | hy
      · exact hx
      · exact hm y hy
    have sm := h3 a (.head _) b (.head _)
    rw [mgG]
    split
    · split
      · exact ⟨cons (h1 a (.head _)) i1.1, i1.2.1, by have := i1.2.2.1; simp at this ⊢; omega, by have := i1.2.2.2; simp at this ⊢; omega⟩
      · exact z _
    · split
      · split
        · exact ⟨cons (h2 b (.head _)) i2.1, cons (h2 b (.head _)) i2.2.1, by have := i2.2.2.1; simp at this ⊢; omega, by have := i2.2.2.2; simp at this ⊢; omega⟩
        · exact z _
      · split
        · exact z _
        · split
          · refine ⟨cons sm i3.1, ?_, by have := i3.2.2.1; simp at this ⊢; omega, ?_⟩
            · dsimp only
              split
              · exact i3.2.1
              · exact cons sm i3.2.1
            · have := i3.2.2.2
              dsimp only
              split <;> (simp at this ⊢; omega)
          · exact z _
end Go.Proofs.YtbomkkjhafdhiaaGreat
end

section
set_option linter.all false
set_option maxRecDepth 100000
namespace Go.Proofs.YtbomkkjhafdhiaaGreat
open Go.Ab
def oE : Obj' := ⟨[], []⟩
def oK : Obj' := ⟨[kA], []⟩
def iJ : Itm := ⟨⟨#[98, 47, 106]⟩, oE⟩
def iK0 : Itm := ⟨⟨#[98, 47, 107]⟩, oE⟩
def iK1 : Itm := ⟨⟨#[98, 47, 107]⟩, oK⟩
theorem ok_E : OkO 1 oE := ⟨by decide +kernel, by decide, by decide, by decide⟩
theorem ok_K : OkO 1 oK := ⟨by decide +kernel, by decide, by decide, by decide⟩
theorem merge_EK : mergeS oE oK = (oK, 0) := merge_is ok_E ok_K (by decide) ok_K.good.ctx (fun s n => by simp [hasS, oE, oK]) (by decide +kernel)
theorem merge_A : mergeI [iJ, iK0] [iK1] = ([iJ, iK1], [iK1], 0) := by
  have k1 : itemsOk [iJ, iK0] = true := by decide +kernel
  have k2 : itemsOk [iK1] = true := by decide +kernel
  have h1 : sLt iJ.place iK1.place = true := by decide +kernel
  have h2 : sLt iK0.place iK1.place = false := by decide +kernel
  have h3 : sLt iK1.place iK0.place = false := by decide +kernel
  have m : mergeS iK0.obj iK1.obj = (oK, 0) := merge_EK
  have hne : ¬ oK = iK0.obj := by decide +kernel
  have e1 : mgG [iK0] [iK1] = ([iK1], [iK1], 0) := by
    rw [mgG, if_neg (by rw [h2]; simp), if_neg (by rw [h3]; simp), if_neg (by rw [m]; simp), mgG_nil, if_pos rfl, m, if_neg hne]
    rfl
  rw [mergeI, k1, k2, if_pos (by rfl), mgG, if_pos h1, e1, if_pos rfl]
theorem smE : ObjSm oE := ok_E.sm (by decide)
theorem smK : ObjSm oK := ok_K.sm (by decide)
theorem smJ : ItemSm iJ := ⟨by decide, smE⟩
theorem smK0 : ItemSm iK0 := ⟨by decide, smE⟩
theorem smK1 : ItemSm iK1 := ⟨by decide, smK⟩
abbrev rwK : AVal := .sl 3 [.agg [.lit (.string ⟨#[98, 47, 107]⟩), .sl 3 [.agg [.lit (.string ⟨#[97]⟩), .lit (.int .i64 1), .lit (.slice none 0 0)]] true, .lit (.slice none 0 0)]] true
abbrev rwB : AVal := .sl 3 [.agg [.lit (.string ⟨#[98, 47, 106]⟩), .lit (.slice none 0 0), .lit (.slice none 0 0)], .agg [.lit (.string ⟨#[98, 47, 107]⟩), .lit (.slice none 0 0), .lit (.slice none 0 0)]] true
theorem rwK_wk : Wk rwK (.sl 3 ([iK1].map sItem) false) := .sl _ _ _ _ rfl (szItm _) fun i hi hi' => by
  match i, hi with
  | 0, _ => exact .agg _ _ rfl (fun j hj hj' => by
      match j, hj with
      | 0, _ => exact .refl _
      | 1, _ => exact .sl _ _ _ _ rfl (szSeen _) (fun k hk hk' => by
          match k, hk with
          | 0, _ => exact .agg _ _ rfl (fun n hn hn' => by match n, hn with | 0, _ => exact .refl _ | 1, _ => exact .refl _ | 2, _ => exact .nil _ _))
      | 2, _ => exact .nil _ _)
theorem rwB_wk : Wk rwB (.sl 3 ([iJ, iK0].map sItem) false) := .sl _ _ _ _ rfl (szItm _) fun i hi hi' => by
  match i, hi with
  | 0, _ => exact .agg _ _ rfl (fun j hj hj' => by match j, hj with | 0, _ => exact .refl _ | 1, _ => exact .nil _ _ | 2, _ => exact .nil _ _)
  | 1, _ => exact .agg _ _ rfl (fun j hj hj' => by match j, hj with | 0, _ => exact .refl _ | 1, _ => exact .nil _ _ | 2, _ => exact .nil _ _)
def lfA : Leaf := ⟨⟨#[112]⟩, ⟨#[49]⟩⟩
def lfB : Leaf := ⟨⟨#[113]⟩, ⟨#[]⟩⟩
def lfC : Leaf := ⟨⟨#[112]⟩, ⟨#[50]⟩⟩
theorem send_A : sendS [lfA, lfB] [lfC] = [⟨#[112]⟩, ⟨#[113]⟩] := by decide +kernel
theorem send_B : sendS [lfC] [lfA, lfB] = [⟨#[112]⟩] := by decide +kernel
theorem items_A : itemsOf [iJ, iK0] [⟨#[98, 47, 106]⟩] = [iJ] := by decide +kernel
set_option maxHeartbeats 2000000 in
theorem awake29_c {σ : Store} : ACalls Tryz.prog 6 [] σ fun v σ' => v = vB true ∧ σ = σ' := by
  have l1 : ([iJ, iK1].map sItem).length = 2 := rfl
  have l2 : ([iK1].map sItem).length = 1 := rfl
  have l3 : ([iK1].map sItem)[0]? = some (sItem iK1) := rfl
  have l4 : ([iJ].map sItem).length = 1 := rfl
  have hb : ∀ x ∈ [iJ, iK0], ItemSm x := fun x hx => by
    rcases List.mem_cons.1 hx with rfl | hx
    · exact smJ
    · rw [List.mem_singleton.1 hx]; exact smK0
  have ha : ∀ x ∈ [iK1], ItemSm x := fun x hx => by rw [List.mem_singleton.1 hx]; exact smK1
  have hm : ∀ x ∈ [iJ, iK0], ∀ y ∈ [iK1], ObjSm (mergeS x.obj y.obj).1 := fun x hx y hy => by
    rw [List.mem_singleton.1 hy]
    rcases List.mem_cons.1 hx with rfl | hx
    · exact mergeS_sm (by decide) (by decide)
    · rw [List.mem_singleton.1 hx]; exact mergeS_sm (by decide) (by decide)
  have d1 : decide ([iK1] = [iK1]) = true := decide_eq_true rfl
  have d2 : decide (([⟨#[112]⟩, ⟨#[113]⟩] : List ByteArray) = [⟨#[112]⟩, ⟨#[113]⟩]) = true := decide_eq_true rfl
  have d3 : decide (([⟨#[112]⟩] : List ByteArray) = [⟨#[112]⟩]) = true := decide_eq_true rfl
  refine ACalls_of Tryz.func6 rfl Tryz.ntmps6 (congrArg Array.toList Tryz.results6) (by simp only [List.length_cons, List.length_nil]; decide) ?_; simp only [envOf_cons, envOf_nil, Nat.reduceAdd]
  refine awp_seq ?_
  refine awp_region (by kernel_rfl) ?_
  (refine aL_S rfl rfl v_ ?_)
  refine aL_nil ?_
  refine awp_seq ?_
  refine awp_region (by kernel_rfl) ?_
  (refine aL_S rfl rfl v_ ?_)
  refine aL_buildSlice rfl rfl rfl g_ g_ rfl rfl h_ c2_ (by decide) ?_
  iterate 2 (refine aL_S rfl rfl v_ ?_)
  refine aL_buildSlice rfl rfl rfl g_ g_ rfl rfl h_ c2_ (by decide) ?_
  refine aL_X rfl rfl (AOp_wk (a := rwK) (AOp_val (by rfl) ⟨rfl, rfl⟩) rwK_wk ?_)
  refine aL_nil ?_
  refine awp_seq ?_
  refine awp_region (by kernel_rfl) ?_
  iterate 2 (refine aL_S rfl rfl v_ ?_)
  refine aL_buildSlice rfl rfl rfl g_ g_ rfl rfl h_ c2_ (by decide) ?_
  refine aL_X rfl rfl (AOp_wk (a := rwB) (AOp_val (by rfl) ⟨rfl, rfl⟩) rwB_wk ?_)
  refine aL_nil ?_
  refine awp_seq ?_
  refine awp_region (by kernel_rfl) ?_
  iterate 2 (refine aL_S rfl rfl v_ ?_)
  refine aL_X rfl rfl (AOp_use rfl rfl (.inr ⟨rfl, rfl, rfl⟩) g_ va_ (merge29_c (l := [iJ, iK0]) (os := [iK1]) hb ha hm (by decide) (by decide)) ?_); rintro _ _ ⟨rfl, rfl⟩
  rw [merge_A]
  iterate 7 (refine aL_S rfl rfl v_ ?_)
  refine aL_nil ?_
  refine awp_seq ?_
  refine awp_region (by kernel_rfl) ?_
  iterate 2 (refine aL_S rfl rfl v_ ?_)
  refine aL_buildSlice rfl rfl rfl g_ g_ rfl rfl h_ c2_ (by decide) ?_
  (refine aL_S rfl rfl v_ ?_)
  refine aL_buildSlice rfl rfl rfl g_ g_ rfl rfl h_ c2_ (by decide) ?_
  iterate 2 (refine aL_S rfl rfl v_ ?_)
  refine aL_nil ?_
  refine awp_seq ?_
  have R := And.intro l1 (And.intro l2 (And.intro l3 l4))
  refine awp_region (by kernel_rfl) ?_
  iterate 3 (refine aL_S rfl rfl v_ ?_)
  refine aL_SY (wantedA_yes rfl rfl v_ (by rfl)) rfl v_ ?_
  refine aL_SY (wantedA_yes rfl rfl v_ (by rfl)) rfl v_ ?_
  refine aL_SY (wantedA_yes rfl rfl v_ (by rfl)) rfl v_ ?_
  iterate 2 (refine aL_S rfl rfl v_ ?_)
  refine aL_SY (wantedA_yes rfl rfl v_ (by rfl)) rfl v_ ?_
  refine aL_SY (wantedA_yes rfl rfl v_ (by rfl)) rfl v_ ?_
  refine aL_SY (wantedA_yes rfl rfl v_ (by rfl)) rfl v_ ?_
  iterate 2 (refine aL_S rfl rfl v_ ?_)
  refine aL_SY (wantedA_yes rfl rfl v_ (by rfl)) rfl v_ ?_
  refine aL_SY (wantedA_yes rfl rfl v_ (by rfl)) rfl v_ ?_
  refine aL_SY (wantedA_yes rfl rfl v_ (by rfl)) rfl v_ ?_
  refine aL_SY (wantedA_yes rfl rfl v_ (by rfl)) rfl v_ ?_
  refine aL_SY (wantedA_yes rfl rfl v_ (by rfl)) rfl v_ ?_
  iterate 2 (refine aL_S rfl rfl v_ ?_)
  refine aL_SY (wantedA_yes rfl rfl v_ (by rfl)) rfl v_ ?_
  refine aL_SY (wantedA_yes rfl rfl v_ (by rfl)) rfl v_ ?_
  refine aL_XY (wantedA_yes rfl rfl v_ (by rfl)) rfl (AOp_use rfl rfl (.inr ⟨rfl, rfl, rfl⟩) g_ va_ (same29_c (a := [iK1]) (b := [iK1]) (fun x hx => (ha x hx).obj) (fun x hx => (ha x hx).obj) (by decide) (by decide)) ?_); rintro _ _ ⟨rfl, rfl⟩
  rw [d1]
  iterate 2 (refine aL_S rfl rfl v_ ?_)
  refine aL_SY (wantedA_yes rfl rfl v_ (by rfl)) rfl v_ ?_
  refine aL_SY (wantedA_yes rfl rfl v_ (by rfl)) rfl v_ ?_
  refine aL_XY (wantedA_yes rfl rfl v_ (by rfl)) rfl (AOp_use rfl rfl (.inr ⟨rfl, rfl, rfl⟩) g_ va_ (send_c (M := [lfA, lfB]) (T := [lfC]) (by decide) (by decide)) ?_); rintro _ _ ⟨rfl, rfl⟩
  rw [send_A]
  refine aL_XY (wantedA_yes rfl rfl v_ (by rfl)) rfl (AOp_buildSlice' rfl g_ g_ rfl rfl h_ c2_ (by decide) ?_)
  refine aL_XY (wantedA_yes rfl rfl v_ (by rfl)) rfl (AOp_use rfl rfl (.inr ⟨rfl, rfl, rfl⟩) g_ va_ (sameTx_c (a := [⟨#[112]⟩, ⟨#[113]⟩]) (b := [⟨#[112]⟩, ⟨#[113]⟩]) (by decide) (by decide)) ?_); rintro _ _ ⟨rfl, rfl⟩
  rw [d2]
  iterate 2 (refine aL_S rfl rfl v_ ?_)
  refine aL_SY (wantedA_yes rfl rfl v_ (by rfl)) rfl v_ ?_
  refine aL_SY (wantedA_yes rfl rfl v_ (by rfl)) rfl v_ ?_
  refine aL_XY (wantedA_yes rfl rfl v_ (by rfl)) rfl (AOp_use rfl rfl (.inr ⟨rfl, rfl, rfl⟩) g_ va_ (want_c (M := [lfA, lfB]) (T := [lfC]) (by decide) (by decide)) ?_); rintro _ _ ⟨rfl, rfl⟩
  rw [send_B]
  refine aL_XY (wantedA_yes rfl rfl v_ (by rfl)) rfl (AOp_buildSlice' rfl g_ g_ rfl rfl h_ c2_ (by decide) ?_)
  refine aL_XY (wantedA_yes rfl rfl v_ (by rfl)) rfl (AOp_use rfl rfl (.inr ⟨rfl, rfl, rfl⟩) g_ va_ (sameTx_c (a := [⟨#[112]⟩]) (b := [⟨#[112]⟩]) (by decide) (by decide)) ?_); rintro _ _ ⟨rfl, rfl⟩
  rw [d3]
  iterate 2 (refine aL_S rfl rfl v_ ?_)
  refine aL_SY (wantedA_yes rfl rfl v_ (by rfl)) rfl v_ ?_
  refine aL_XY (wantedA_yes rfl rfl v_ (by rfl)) rfl (AOp_buildSlice' rfl g_ g_ rfl rfl h_ c2_ (by decide) ?_)
  refine aL_XY (wantedA_yes rfl rfl v_ (by rfl)) rfl (AOp_use rfl rfl (.inr ⟨rfl, rfl, rfl⟩) g_ va_ (items_c (L := [iJ, iK0]) (ps := [⟨#[98, 47, 106]⟩]) (by decide) (by decide)) ?_); rintro _ _ ⟨rfl, rfl⟩
  rw [items_A]
  refine aL_SY (wantedA_yes rfl rfl v_ (by rfl)) rfl v_ ?_
  refine aL_SY (wantedA_yes rfl rfl v_ (by rfl)) rfl v_ ?_
  iterate 2 (refine aL_S rfl rfl v_ ?_)
  refine aL_nil ?_
  refine awp_ret ?_
  refine aEnd_ret (σ' := σ) v_ sub_ ?_
  exact ⟨rfl, rfl⟩
end Go.Proofs.YtbomkkjhafdhiaaGreat
end

section
set_option linter.all false
set_option maxRecDepth 100000
namespace Go.Ab
abbrev shInts : Sh := .sl false (.int .i64)
abbrev shDot : Sh := .pair .str (.pair (.int .i64) .unit)
abbrev shSeen : Sh := .pair .str (.pair (.int .i64) (.pair shInts .unit))
abbrev shSib : Sh := .pair shDot (.pair .str (.pair .bool (.pair (.int .i64) .unit)))
abbrev shCtx : Sh := .sl true shSeen
abbrev shObj : Sh := .pair shCtx (.pair (.sl true shSib) .unit)
theorem rd_ints {c : List AVal} (h : shInts.ok c) : ∃ l : List Int, c = [.sl 1 (l.map vInt) false] := by
  obtain ⟨l, rfl, _, hl⟩ := h
  obtain ⟨zs, rfl⟩ := lits_of hl
  exact ⟨zs, rfl⟩
theorem rd_seen {c : List AVal} (h : shSeen.ok c) : ∃ x : Seen, .agg c = sSeen x := by
  obtain ⟨_, _, rfl, ⟨s, rfl, _⟩, _, _, rfl, ⟨n, rfl, _⟩, _, _, rfl, h3, rfl⟩ := h
  obtain ⟨l, rfl⟩ := rd_ints h3
  exact ⟨⟨s, n, l⟩, rfl⟩
theorem rd_sib {c : List AVal} (h : shSib.ok c) : ∃ x : Sib, .agg c = sSib x := by
  obtain ⟨_, _, rfl, ⟨_, _, rfl, ⟨s, rfl, _⟩, _, _, rfl, ⟨n, rfl, _⟩, rfl⟩, _, _, rfl, ⟨v, rfl, _⟩, _, _, rfl, ⟨g, rfl⟩, _, _, rfl, ⟨t, rfl, _⟩, rfl⟩ := h
  exact ⟨⟨s, n, v, g, t⟩, rfl⟩
theorem rd_sl {α : Type} (f : α → AVal) {e : Sh} (he : ∀ c, e.ok c → ∃ a, .agg c = f a) {c : List AVal} (h : (Sh.sl true e).ok c) : ∃ zs : List α, c = [.sl e.size (zs.map f) false] := by
  obtain ⟨l, rfl, _, hl⟩ := h
  obtain ⟨zs, rfl⟩ := list_of f (l := l) fun x hx => by
    obtain ⟨c, hc, e⟩ := hl x hx
    simp only [if_true] at e
    rw [e]; exact he c hc
  exact ⟨zs, rfl⟩
theorem rd_ctx {c : List AVal} (h : shCtx.ok c) : ∃ l : List Seen, c = [.sl 3 (l.map sSeen) false] := rd_sl sSeen (fun c hc => rd_seen hc) h
theorem rd_obj {c : List AVal} (h : shObj.ok c) : ∃ x : Obj', .agg c = sObj x := by
  obtain ⟨_, _, rfl, h1, _, _, rfl, h2, rfl⟩ := h
  obtain ⟨l, rfl⟩ := rd_ctx h1
  obtain ⟨m, rfl⟩ := rd_sl sSib (fun c hc => rd_sib hc) h2
  exact ⟨⟨l, m⟩, rfl⟩
end Go.Ab
end

section
set_option linter.all false
set_option maxRecDepth 100000
namespace Go.Ab
abbrev shItm : Sh := .pair .str (.pair shObj .unit)
theorem rd_objC {c : List AVal} (h : shObj.ok c) : ∃ x : Obj', c = [.sl 3 (x.ctx.map sSeen) false, .sl 5 (x.sibs.map sSib) false] := by
  obtain ⟨x, hx⟩ := rd_obj h
  exact ⟨x, AVal.agg.inj hx⟩
theorem rd_itm {c : List AVal} (h : shItm.ok c) : ∃ x : Itm, .agg c = sItem x := by
  obtain ⟨_, _, rfl, ⟨s, rfl, _⟩, _, _, rfl, h2, rfl⟩ := h
  obtain ⟨o, rfl⟩ := rd_objC h2
  exact ⟨⟨s, o⟩, rfl⟩
theorem rv_items {a : AVal} (h : Sh.okv (.sl true shItm) false a) : ∃ l : List Itm, a = .sl 3 (l.map sItem) false := by
  obtain ⟨c, hc, e⟩ := h
  obtain ⟨l, rfl⟩ := rd_sl sItem (fun c hc => rd_itm hc) hc
  simp only [Bool.false_eq_true, if_false, List.cons.injEq, and_true] at e
  exact ⟨l, e.symm⟩
end Go.Ab
end
