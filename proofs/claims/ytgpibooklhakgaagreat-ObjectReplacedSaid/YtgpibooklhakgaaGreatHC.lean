/-
  The library's sort and compaction of values, of a row that grew; objects merged; Values of one dot taken once: the library's CompactFunc, of a row that is written; The program's objects merged. Own work (an AI agent).
-/
import Derived.Test.YtgpibooklhakgaaGreatHB
import Derived.Test.YtgpibooklhakgaaGreatGE
import Derived.Shelf.SlSortCmp.NoneTotal

section
set_option linter.all false
set_option maxRecDepth 100000
namespace Go.Proofs.YtgpibooklhakgaaGreat
open Go.Ab Go.Shelf Go.Proofs

abbrev fOrd : AVal := .lit (.func (.func 131) #[] #[])
theorem sortNil2_c {f : FuncId} {fv : Value} {σ : Store} (h : ∀ w, Calls Tryz.prog f #[.slice none 0 0, fv] w fun e w' => e = .returned (.tuple #[]) ∧ w' = w) :
    ACalls Tryz.prog f [.lit (.slice none 0 0), .lit fv] σ fun v σ' => v = .tup [] ∧ σ' = σ := by
  intro κ vs hI hn hv
  have e0 := (hv 0 (by simp)).litInv
  have e1 := (hv 1 (by simp)).litInv
  have hvs : vs = #[.slice none 0 0, fv] := by
    apply Array.ext (by simpa using hn)
    intro i h1 h2
    have eg : vs.getD i undef = vs[i] := by simp [h1]
    match i, h2 with
    | 0, _ => rw [← eg, e0]; rfl
    | 1, _ => rw [← eg, e1]; rfl
  rw [hvs]
  exact (h κ.w).mono fun ex w' ⟨he, hw⟩ => ⟨_, he, by rw [hw]; exact postNil (K.Le.refl κ) hI ⟨rfl, rfl⟩⟩
theorem sortFuncC {σ0 σ : Store} {L : List Sib} {a : AVal} (h : CBp σ0 σ 5 (L.map sSib) a) (hl : L.length ≤ 1000000000) :
    ACalls Tryz.prog 136 [a, fOrd] σ fun v σ' => v = .tup [] ∧ ∃ L' : List Sib, L'.Perm L ∧ L'.Pairwise (fun x y => lessX y x = false) ∧ CBp σ0 σ' 5 (L'.map sSib) a := by
  rcases h with ⟨rfl, h0, rfl⟩ | ⟨o, ho, rfl, rfl⟩
  · obtain rfl : L = [] := by simpa using h0
    exact (sortNil2_c fun w => AnyF.slices_SortFunc_none sortF none 0 _ w).wkS fun v σ' ⟨hv, hs⟩ => ⟨v, σ', .refl _, .refl _, hv, [], .refl _, .nil, .inl ⟨rfl, rfl, hs⟩⟩
  · rw [List.length_map]
    exact (sortFunc_c (Store.set_get ..) hl).wkS fun v σ' ⟨hv, L', h1, h2, h3⟩ => ⟨v, σ', .refl _, .refl _, hv, L', h1, h2, .inr ⟨o, ho, by rw [List.length_map, h1.length_eq], by rw [h3, Store.set_set]⟩⟩
theorem flat_sib_len (L : List Sib) : (flat (L.map sSib)).length = L.length * 5 := by rw [flat_length (szSib L), List.length_map]
theorem flat_part : ∀ {L : List Sib} {j : Nat} {x : Sib}, L[j]? = some x → ((flat (L.map sSib)).drop (j * 5)).take 5 = [vStr x.node, vInt x.n, vStr x.value, .lit (.bool x.gone), vInt x.time]
  | [], j, x, h => by simp at h
  | y :: L, 0, x, h => by
    simp only [List.getElem?_cons_zero, Option.some.injEq] at h
    subst h
    rfl
  | y :: L, j + 1, x, h => by
    rw [List.map_cons, flat_cons, show (j + 1) * 5 = 5 + j * 5 by omega, ← List.drop_drop]
    exact flat_part (L := L) (j := j) h
theorem aput_flat {M : List Sib} {j : Nat} {x : Sib} (hj : j < M.length) : aput (flat (M.map sSib)) (j * 5) [vStr x.node, vInt x.n, vStr x.value, .lit (.bool x.gone), vInt x.time] = flat ((M.set j x).map sSib) := by
  have e : M.set j x = M.take j ++ x :: M.drop (j + 1) := by rw [List.set_eq_take_append_cons_drop, if_pos hj]
  have e2 : M = M.take j ++ M[j] :: M.drop (j + 1) := by rw [List.getElem_cons_drop hj, List.take_append_drop]
  have hl : (flat ((M.take j).map sSib)).length = j * 5 := by rw [flat_sib_len, List.length_take, Nat.min_eq_left (by omega)]
  rw [e]
  conv => lhs; rw [e2]
  unfold aput
  rw [List.map_append, List.map_cons, flat_append, flat_cons, List.map_append, List.map_cons, flat_append, flat_cons, List.take_left' hl, List.drop_append, List.drop_of_length_le (by rw [hl]; simp), hl, show j * 5 + [vStr x.node, vInt x.n, vStr x.value, AVal.lit (.bool x.gone), vInt x.time].length - j * 5 = 5 from by simp]
  simp [AVal.cells]
theorem take_flat {M : List Sib} {j : Nat} {zs : List AVal} : aput (flat (M.map sSib)) (j * 5) zs = flat ((M.take j).map sSib) ++ (zs ++ (flat (M.map sSib)).drop (j * 5 + zs.length)) := by
  unfold aput
  rw [List.append_assoc, List.map_take, flat_take (szSib M)]
theorem mergeEq_c {x y : Sib} {σ : Store} : ACalls Tryz.prog 138 [sSib x, sSib y] σ fun v σ' => v = vB (decide (x.node = y.node) && decide (x.n = y.n)) ∧ σ = σ' := by
  refine ACalls_of Tryz.func138 rfl Tryz.ntmps138 (congrArg Array.toList Tryz.results138) (by simp only [List.length_cons, List.length_nil]; decide) ?_; simp only [envOf_cons, envOf_nil, Nat.reduceAdd]
  refine awp_seq ?_
  refine awp_region (by kernel_rfl) ?_
  refine aL_box rfl rfl rfl v_ rfl g_ fun o2 ho2 => ?_
  repeat (rw [none_set_iff] at ho2; obtain ⟨_, ho2⟩ := ho2)
  refine aL_box rfl rfl rfl v_ rfl g_ fun o3 ho3 => ?_
  repeat (rw [none_set_iff] at ho3; obtain ⟨_, ho3⟩ := ho3)
  (refine aL_S rfl rfl v_ ?_)
  refine aL_nil ?_
  refine awp_seq ?_
  refine awp_region (by kernel_rfl) ?_
  iterate 6 (refine aL_S rfl rfl v_ ?_)
  refine aL_nil ?_
  refine awp_ret ?_
  refine aEnd_ret (σ' := σ) v_ sub_ ?_
  exact ⟨rfl, rfl⟩
theorem keeps_pos {L : List Sib} {k : Nat} {x y : Sib} (hk : 0 < k) (hx : L[k]? = some x) (hy : L[k - 1]? = some y) : Lib.compactUpTo L.toArray (k + 1) = Lib.compactUpTo L.toArray k ++ (if x = y then [] else [x]) := by
  have h1 := (List.getElem?_eq_some_iff.1 hx).1
  have h2 := (List.getElem?_eq_some_iff.1 hy).1
  have e1 : L.toArray[k]! = x := by
    have := (List.getElem?_eq_some_iff.1 hx).2
    simp [h1, this]
  have e2 : L.toArray[k - 1]! = y := by
    have := (List.getElem?_eq_some_iff.1 hy).2
    simp [h2, this]
  rw [Lib.compactUpTo_succ]
  congr 1
  simp only [Lib.keeps, e1, e2]
  by_cases h : x = y
  · simp [h, show k ≠ 0 by omega]
  · simp [h]
end Go.Proofs.YtgpibooklhakgaaGreat
end

section
set_option linter.all false
set_option maxRecDepth 100000
namespace Go.Proofs.YtgpibooklhakgaaGreat
open Go.Ab

structure CmI (L : List Sib) (j : Nat) (kk : Nat) (M : List Sib) : Prop where
  len : M.length = L.length
  tk : M.take kk = Lib.compactUpTo L.toArray j
  cnt : (Lib.compactUpTo L.toArray j).length = kk
  lt : kk < j
  le : j ≤ L.length
  dr : M.drop (j - 1) = L.drop (j - 1)
theorem drop_get {L M : List Sib} {d j : Nat} (h : M.drop d = L.drop d) (hj : d ≤ j) : M[j]? = L[j]? := by
  have := congrArg (fun l => l[j - d]?) h
  simp only [List.getElem?_drop] at this
  rwa [show d + (j - d) = j by omega] at this
theorem CmI.put {L : List Sib} {j kk : Nat} {M : List Sib} {x y : Sib} (h : CmI L j kk M) (hx : L[j]? = some x) (hy : L[j - 1]? = some y) (hn : x ≠ y) : CmI L (j + 1) (kk + 1) (M.set kk x) := by
  have h1 := (List.getElem?_eq_some_iff.1 hx).1
  have hk := h.lt
  have hs := keeps_pos (by omega) hx hy
  rw [if_neg hn] at hs
  have hl := h.len
  refine ⟨by rw [List.length_set]; exact h.len, ?_, by rw [hs, List.length_append, h.cnt]; rfl, by omega, by omega, ?_⟩
  · rw [hs, ← h.tk]
    rw [take_snoc (show (M.set kk x)[kk]? = some x by rw [List.getElem?_set_self]; omega), List.take_set_of_le (Nat.le_refl _)]
  · rw [Nat.add_sub_cancel, List.drop_set_of_lt (by omega)]
    have := congrArg (List.drop 1) h.dr
    rwa [List.drop_drop, List.drop_drop, show j - 1 + 1 = j by omega] at this
theorem CmI.skip {L : List Sib} {j kk : Nat} {M : List Sib} {x : Sib} (h : CmI L j kk M) (hx : L[j]? = some x) (hy : L[j - 1]? = some x) : CmI L (j + 1) kk M := by
  have h1 := (List.getElem?_eq_some_iff.1 hx).1
  have hk := h.lt
  have hs := keeps_pos (by omega) hx hy
  rw [if_pos rfl, List.append_nil] at hs
  refine ⟨h.len, by rw [hs]; exact h.tk, by rw [hs]; exact h.cnt, by omega, by omega, ?_⟩
  have := congrArg (List.drop 1) h.dr
  rwa [List.drop_drop, List.drop_drop, show j - 1 + 1 = j by omega] at this
theorem dotb_iff {L : List Sib} (hu : Uq L) {j i : Nat} {x y : Sib} (hx : L[j]? = some x) (hy : L[i]? = some y) : (decide (x.node = y.node) && decide (x.n = y.n)) = true ↔ x = y := by
  rw [Bool.and_eq_true, decide_eq_true_eq, decide_eq_true_eq]
  exact ⟨fun h => hu x (List.mem_of_getElem? hx) y (List.mem_of_getElem? hy) h, fun h => by rw [h]; exact ⟨rfl, rfl⟩⟩
theorem compact_short {L : List Sib} (h : L.length < 2) : Lib.compact L = L := by
  match L, h with
  | [], _ => rfl
  | [x], _ => exact compact_one x
set_option maxHeartbeats 2000000 in
theorem compactM_c {o : Nat} {L : List Sib} {σ : Store} (ho : σ.heap o = some (.cells (flat (L.map sSib)))) (hu : Uq L) (hl : L.length ≤ 1000000) :
    ACalls Tryz.prog 137 [.msl o 5 0 L.length, .lit (.func (.func 138) #[] #[])] σ fun v σ' => ∃ zs : List AVal, v = .msl o 5 0 (Lib.compact L).length ∧ σ' = σ.set o (.cells (flat ((Lib.compact L).map sSib) ++ zs)) := by
  have hfl := flat_sib_len L
  refine ACalls_of Tryz.func137 rfl Tryz.ntmps137 (congrArg Array.toList Tryz.results137) (by simp only [List.length_cons, List.length_nil]; decide) ?_; simp only [envOf_cons, envOf_nil, Nat.reduceAdd]
  refine awp_seq ?_
  refine awp_region (by kernel_rfl) ?_
  (refine aL_S rfl rfl v_ ?_)
  refine aL_nil ?_
  refine awp_seq ?_
  refine awp_seq ?_
  refine awp_region (by kernel_rfl) ?_
  iterate 3 (refine aL_S rfl rfl v_ ?_)
  refine aL_nil ?_
  refine awp_cond v_ (fun hc1 => ?_) (fun hc1 => ?_)
  · replace hc1 := nm_ hc1
    refine awp_seq ?_
    refine awp_region (by kernel_rfl) ?_
    iterate 2 (refine aL_S rfl rfl v_ ?_)
    refine aL_nil ?_
    refine awp_ret ?_
    refine aEnd_ret v_ (Store.Wk.refl _) ?_
    exact ⟨[], by rw [compact_short (by omega)], by rw [compact_short (by omega), List.append_nil, Store.set_same ho]⟩
  · replace hc1 := nm_ hc1
    refine awp_skip ?_
    refine awp_seq ?_
    refine awp_seq ?_
    refine awp_region (by kernel_rfl) ?_
    (refine aL_S rfl rfl v_ ?_)
    refine aL_nil ?_
    refine awp_block ?_
    refine awp_loop_env (ι := Nat) (fun k => L.length - k) (fun k => 1 ≤ k ∧ k ≤ L.length ∧ Lib.compactUpTo L.toArray k = L.take k) (fun k => [(0, .msl o 5 0 L.length), (1, .lit (.func (.func 138) #[] #[])), (5, vInt k)]) (fun k => σ) 1 ?_ ?_ ?_ ?_
    · exact ⟨Nat.le_refl _, by omega, by rw [Lib.compactUpTo_succ]; simp [Lib.compactUpTo, Lib.keeps, show 0 < L.length by omega]; cases L with | nil => simp at hc1 | cons a l => simp⟩
    · exact cv_
    · exact sub_
    rintro k ⟨hk1, hk, hc⟩
    simp only [envL_cons, envL_nil]
    refine awp_seq ?_
    refine awp_seq ?_
    refine awp_region (by kernel_rfl) ?_
    iterate 4 (refine aL_S rfl rfl v_ ?_)
    refine aL_nil ?_
    refine awp_cond v_ (fun hc4 => ?_) (fun hc4 => ?_)
    · replace hc4 := nm_ hc4
      refine awp_skip ?_
      refine awp_seq ?_
      refine awp_block ?_
      refine awp_seq ?_
      obtain ⟨x, hx⟩ := get_some (l := L) (k := k) (by omega)
      obtain ⟨y, hy⟩ := get_some (l := L) (k := k - 1) (by omega)
      have px := flat_part hx
      have py := flat_part hy
      have hkk : ((k : Int) - 1).toNat = k - 1 := by omega
      have hks := keeps_pos hk1 hx hy
      have hdi := dotb_iff hu hx hy
      have R := And.intro px (And.intro py (And.intro ho (And.intro hfl hkk)))
      refine awp_draw (.op 0 0 (.op 1 0 (.op 2 0 (.op 3 0 (.op 4 0 (.op 5 0 (.op 6 0 (.op 7 0 (.op 8 0 (.op 9 0 (.op 10 2 .nil))))))))))) Tryz.mixed (by kernel_rfl) ?_
      iterate 10 (refine dR_S o_ (by rfl) (by rfl) v_ ?_)
      refine dR_T o_ (by rfl) (by rfl) (AOp_use (by rfl) (by rfl) (.inr ⟨va_, by rfl, by rfl⟩) g_ va_ (mergeEq_c) ?_); rintro _ _ ⟨rfl, rfl⟩
      refine dR_nil ?_
      refine awp_cond v_ (fun hc6 => ?_) (fun hc6 => ?_)
      · replace hc6 := nm_ hc6
        obtain rfl : x = y := hdi.1 (by simpa using hc6)
        rw [if_pos rfl, List.append_nil] at hks
        have hI0 : CmI L (k + 1) k L := ⟨rfl, by rw [hks, hc], by rw [hks, hc, List.length_take]; omega, by omega, by omega, by rw [Nat.add_sub_cancel]⟩
        have hset : σ = σ.set o (.cells (flat (L.map sSib))) := (Store.set_same ho).symm
        refine awp_seq ?_
        refine awp_region (by kernel_rfl) ?_
        iterate 4 (refine aL_S rfl rfl v_ ?_)
        refine aL_nil ?_
        refine awp_seq ?_
        refine awp_seq ?_
        refine awp_region (by kernel_rfl) ?_
        (refine aL_S rfl rfl v_ ?_)
        refine aL_nil ?_
        refine awp_block ?_
        refine awp_loop_env (ι := Nat × Nat × List Sib) (fun ⟨k2, kk, M⟩ => L.length - (k + k2)) (fun ⟨k2, kk, M⟩ => 1 ≤ k2 ∧ CmI L (k + k2) kk M) (fun ⟨k2, kk, M⟩ => [(0, .msl o 5 0 L.length), (1, .lit (.func (.func 138) #[] #[])), (5, vInt kk), (6, .msl o 5 (k * 5) (L.length - k)), (7, vInt k2)]) (fun ⟨k2, kk, M⟩ => (σ.set o (.cells (flat (M.map sSib))))) (1, k, L) ?_ ?_ ?_ ?_
        · exact ⟨Nat.le_refl _, hI0⟩
        · exact cv_
        · (try dsimp only); rw [Store.set_same ho]; exact Store.Wk.refl _
        rintro ⟨k2, kk, M⟩ ⟨hk2, hI⟩
        simp only [envL_cons, envL_nil]
        refine awp_seq ?_
        refine awp_seq ?_
        refine awp_region (by kernel_rfl) ?_
        iterate 4 (refine aL_S rfl rfl v_ ?_)
        refine aL_nil ?_
        refine awp_cond v_ (fun hc9 => ?_) (fun hc9 => ?_)
        · replace hc9 := nm_ hc9
          refine awp_skip ?_
          refine awp_seq ?_
          refine awp_block ?_
          refine awp_seq ?_
          have hjl : k + k2 < L.length := by omega
          obtain ⟨x, hx⟩ := get_some (l := L) (k := k + k2) hjl
          obtain ⟨y, hy⟩ := get_some (l := L) (k := k + k2 - 1) (by omega)
          have hMx : M[k + k2]? = some x := by rw [drop_get hI.dr (by omega)]; exact hx
          have hMy : M[k + (k2 - 1)]? = some y := by rw [drop_get hI.dr (by omega), show k + (k2 - 1) = k + k2 - 1 by omega]; exact hy
          have px := flat_part hMx
          have py := flat_part hMy
          rw [Nat.add_mul] at px py
          have hkk : ((k2 : Int) - 1).toNat = k2 - 1 := by omega
          have hdi := dotb_iff hu hx hy
          have hflM := flat_sib_len M
          rw [hI.len] at hflM
          have hkl := hI.lt
          have R := And.intro px (And.intro py (And.intro hflM hkk))
          refine awp_draw (.op 0 0 (.op 1 0 (.op 2 0 (.op 3 0 (.op 4 0 (.op 5 0 (.op 6 0 (.op 7 0 (.op 8 0 (.op 9 0 (.op 10 1 (.op 11 0 .nil)))))))))))) Tryz.mixed (by kernel_rfl) ?_
          iterate 10 (refine dR_S o_ (by rfl) (by rfl) v_ ?_)
          refine dR_X o_ (by rfl) (by rfl) (AOp_use (by rfl) (by rfl) (.inr ⟨va_, by rfl, by rfl⟩) g_ va_ (mergeEq_c) ?_); rintro _ _ ⟨rfl, rfl⟩; refine ⟨sub_, ?_⟩
          (refine dR_S o_ (by rfl) (by rfl) v_ ?_)
          refine dR_nil ?_
          refine awp_cond v_ (fun hc11 => ?_) (fun hc11 => ?_)
          · replace hc11 := nm_ hc11
            have hne : x ≠ y := fun h => by have := hdi.2 h; simp at this; simp [this] at hc11
            refine awp_seq ?_
            have R := And.intro px hflM
            refine awp_region (by kernel_rfl) ?_
            iterate 7 (refine aL_S rfl rfl v_ ?_)
            refine aL_store rfl rfl rfl v_ v_ h_ g_ rfl g_ c_ (by rfl) (by rw [hflM]; omega) (aput_flat (by rw [hI.len]; omega)) ?_
            refine aL_nil ?_
            refine awp_region (by kernel_rfl) ?_
            iterate 3 (refine aL_S rfl rfl v_ ?_)
            refine aL_nil ?_
            refine awp_region (by kernel_rfl) ?_
            iterate 3 (refine aL_S rfl rfl v_ ?_)
            refine aL_nil ?_
            refine aNext (ι := Nat × Nat × List Sib) (i := ⟨k2, kk, M⟩) (k2 + 1, kk + 1, M.set kk x) ?_ ?_ ?_ ?_
            · show L.length - (k + (k2 + 1)) < L.length - (k + k2); omega
            · exact ⟨by show 1 ≤ k2 + 1; omega, hI.put hx hy hne⟩
            · exact cv_
            · rw [Store.set_set]; exact Store.Wk.refl _
          · replace hc11 := nm_ hc11
            obtain rfl : x = y := hdi.1 (by simpa using hc11)
            refine awp_skip ?_
            refine awp_region (by kernel_rfl) ?_
            iterate 3 (refine aL_S rfl rfl v_ ?_)
            refine aL_nil ?_
            refine aNext (ι := Nat × Nat × List Sib) (i := ⟨k2, kk, M⟩) (k2 + 1, kk, M) ?_ ?_ ?_ ?_
            · show L.length - (k + (k2 + 1)) < L.length - (k + k2); omega
            · exact ⟨by show 1 ≤ k2 + 1; omega, hI.skip hx hy⟩
            · exact cv_
            · exact Store.Wk.refl _
        · replace hc9 := nm_ hc9
          refine awp_exit ?_
          refine aThen_exit ?_
          refine aThen_exit ?_
          refine aBlock_hit ?_
          refine awp_seq ?_
          have hkl := hI.lt
          have hle := hI.le
          have hj : k + k2 = L.length := by omega
          have hflM := flat_sib_len M
          rw [hI.len] at hflM
          have hcnt := hI.cnt
          have htk := hI.tk
          rw [hj] at hcnt htk
          refine awp_region (by kernel_rfl) ?_
          iterate 3 (refine aL_S rfl rfl v_ ?_)
          refine aL_X0 rfl rfl (AOp_clear (sz := 5) rfl g_ g_ (by rfl) (by decide) va_ h_ (by rw [hflM]; omega) fun zs hz => ?_)
          refine aL_nil ?_
          refine awp_seq ?_
          refine awp_region (by kernel_rfl) ?_
          iterate 4 (refine aL_S rfl rfl v_ ?_)
          refine aL_nil ?_
          refine awp_ret ?_
          refine aEnd_ret v_ (Store.Wk.refl _) ?_
          exact ⟨zs ++ (flat (M.map sSib)).drop (kk * 5 + zs.length), by rw [← hcnt]; rfl, by rw [Store.set_set, take_flat, htk]; rfl⟩
      · replace hc6 := nm_ hc6
        have hnx : Lib.compactUpTo L.toArray (k + 1) = L.take (k + 1) := by rw [hks, if_neg (fun h => by have := hdi.2 h; simp at this; simp [this] at hc6), hc, take_snoc hx]
        refine awp_skip ?_
        refine awp_region (by kernel_rfl) ?_
        iterate 3 (refine aL_S rfl rfl v_ ?_)
        refine aL_nil ?_
        refine aNext (ι := Nat) (i := k) (k + 1) ?_ ?_ ?_ ?_
        · omega
        · exact ⟨by omega, by omega, hnx⟩
        · exact cv_
        · exact sub_
    · replace hc4 := nm_ hc4
      refine awp_exit ?_
      refine aThen_exit ?_
      refine aThen_exit ?_
      refine aBlock_hit ?_
      refine awp_seq ?_
      skip
      have hfin : Lib.compactUpTo L.toArray L.length = L := by
        have := hc
        rwa [show k = L.length by omega, List.take_length] at this
      refine awp_region (by kernel_rfl) ?_
      iterate 2 (refine aL_S rfl rfl v_ ?_)
      refine aL_nil ?_
      refine awp_ret ?_
      refine aEnd_ret v_ (Store.Wk.refl _) ?_
      exact ⟨[], by rw [show Lib.compact L = L from hfin], by rw [show Lib.compact L = L from hfin, List.append_nil, Store.set_same ho]⟩
end Go.Proofs.YtgpibooklhakgaaGreat
end

section
set_option linter.all false
set_option maxRecDepth 100000
namespace Go.Proofs.YtgpibooklhakgaaGreat
open Go.Ab

abbrev fEq : AVal := .lit (.func (.func 138) #[] #[])
theorem compactNil_c {σ : Store} : ACalls Tryz.prog 137 [vNil, fEq] σ fun v σ' => v = vNil ∧ σ = σ' := by
  refine ACalls_of Tryz.func137 rfl Tryz.ntmps137 (congrArg Array.toList Tryz.results137) (by simp only [List.length_cons, List.length_nil]; decide) ?_; simp only [envOf_cons, envOf_nil, Nat.reduceAdd]
  refine awp_seq ?_
  refine awp_region (by kernel_rfl) ?_
  (refine aL_S rfl rfl v_ ?_)
  refine aL_nil ?_
  refine awp_seq ?_
  refine awp_seq ?_
  refine awp_region (by kernel_rfl) ?_
  iterate 3 (refine aL_S rfl rfl v_ ?_)
  refine aL_nil ?_
  refine awp_cond v_ (fun hc1 => ?_) (fun hc1 => ?_)
  · replace hc1 := nm_ hc1
    refine awp_seq ?_
    refine awp_region (by kernel_rfl) ?_
    iterate 2 (refine aL_S rfl rfl v_ ?_)
    refine aL_nil ?_
    refine awp_ret ?_
    refine aEnd_ret (σ' := σ) v_ sub_ ?_
    exact ⟨rfl, rfl⟩
  · replace hc1 := nm_ hc1
    simp at hc1
theorem compactFuncC {σ0 σ : Store} {L : List Sib} {a : AVal} (h : CBp σ0 σ 5 (L.map sSib) a) (hu : Uq L) (hl : L.length ≤ 1000000) :
    ACalls Tryz.prog 137 [a, fEq] σ fun v σ' => v = .sl 5 ((Lib.compact L).map sSib) false ∧ σ0 = σ' := by
  rcases h with ⟨rfl, h0, rfl⟩ | ⟨o, ho, rfl, rfl⟩
  · obtain rfl : L = [] := by simpa using h0
    exact compactNil_c.wkS fun v σ' ⟨hv, hs⟩ => ⟨_, σ', by rw [hv]; exact .nil 5 false, .refl _, rfl, hs⟩
  · rw [List.length_map]
    refine (compactM_c (Store.set_get ..) hu hl).after ?_
    rintro κ _ _ cv hI hr ⟨zs, rfl, rfl⟩
    obtain ⟨κ', h1, h2, h3, h4⟩ := Ab.freeze hI hr (Store.set_get ..) (l := (Lib.compact L).map sSib) (by rw [List.take_left' (by rw [flat_sib_len])]) (by simp) (szSib _)
    rw [Store.set_set, Store.set_del ho] at h3
    exact ⟨κ', _, _, h1, h2, h3, h4, rfl, rfl⟩
theorem kept_both {a b : Obj'} (ha : RiseD a.sibs) (hb : RiseD b.sibs) (x : Sib) : x ∈ keptA a b ++ keptA b a ↔ x ∈ keptA a b ++ keptB a b := by
  rw [List.mem_append, List.mem_append]
  constructor
  · rintro (h | h)
    · exact .inl h
    · obtain ⟨y, hy, hf⟩ := List.mem_filterMap.1 h
      cases hz : fnd a.sibs y.node y.n with
      | some z =>
        obtain ⟨hz1, hz2⟩ := fnd_mem hz
        have e : grS y z = x := by simpa [keptF, hz] using hf
        have hzb : fnd b.sibs z.node z.n = some y := by rw [hz2.1, hz2.2]; exact fnd_uq hb.uq hy
        exact .inl (List.mem_filterMap.2 ⟨z, hz1, by simp only [keptF, hzb]; rw [← e, grS_comm (x := z) (y := y) hz2]⟩)
      | none =>
        cases hh : hasS a.ctx y.node y.n with
        | true => simp [keptF, hz, hh] at hf
        | false =>
          obtain rfl : y = x := by simpa [keptF, hz, hh] using hf
          exact .inr (List.mem_filterMap.2 ⟨y, hy, by simp [keptG, hz, hh]⟩)
  · rintro (h | h)
    · exact .inl h
    · obtain ⟨y, hy, hg⟩ := List.mem_filterMap.1 h
      obtain ⟨rfl, h1, h2⟩ := keptG_eq hg
      exact .inr (List.mem_filterMap.2 ⟨x, hy, by simp [keptF, h1, h2]⟩)
theorem merged_row {a b : Obj'} {L : List Sib} (ha : RiseD a.sibs) (hb : RiseD b.sibs) (hp : L.Perm (keptA a b ++ keptA b a)) (hs : L.Pairwise fun x y => lessX y x = false) : Uq L ∧ Lib.compact L = mergeL a b := by
  obtain ⟨m1, m2⟩ := mergeL_spec ha hb
  have hm : ∀ x, x ∈ L ↔ x ∈ mergeL a b := fun x => by rw [hp.mem_iff, kept_both ha hb, m2]
  have hu : Uq L := fun x hx y hy e => m1.uq x ((hm x).1 hx) y ((hm y).1 hy) e
  refine ⟨hu, ?_⟩
  have hst : L.Pairwise fun x y => x = y ∨ lessX x y = true := by
    rw [List.pairwise_iff_getElem] at hs ⊢
    intro i j hi hj hij
    have h1 := hs i j hi hj hij
    by_cases hd : Dot L[j] L[i]
    · exact .inl (hu _ (List.getElem_mem hi) _ (List.getElem_mem hj) hd.symm)
    · exact .inr (lessD_tri h1 hd)
  obtain ⟨c1, c2⟩ := compact_spec (r := fun x y : Sib => lessX x y = true) (fun x y z h1 h2 => lessX_trans h1 h2) L hst
  exact riseD_unique c1 m1 fun x => by rw [c2, hm]
set_option maxHeartbeats 1000000 in
theorem merge_c {a b : Obj'} {σ : Store} (ha : ObjSm a) (hB : ObjSm b) : ACalls Tryz.prog 58 [sObj a, sObj b] σ fun v σ' => v = .tup [sObj (mergeS a b).1, vInt (mergeS a b).2] ∧ σ = σ' := by
  have na := ha.ns; have nb := hB.ns; have ca := ha.nc; have cb := hB.nc
  refine ACalls_of Tryz.func58 rfl Tryz.ntmps58 (congrArg Array.toList Tryz.results58) (by simp only [List.length_cons, List.length_nil]; decide) ?_; simp only [envOf_cons, envOf_nil, Nat.reduceAdd]
  refine awp_seq ?_
  refine awp_region (by kernel_rfl) ?_
  refine aL_box rfl rfl rfl v_ rfl g_ fun o2 ho2 => ?_
  repeat (rw [none_set_iff] at ho2; obtain ⟨_, ho2⟩ := ho2)
  refine aL_box rfl rfl rfl v_ rfl g_ fun o3 ho3 => ?_
  repeat (rw [none_set_iff] at ho3; obtain ⟨_, ho3⟩ := ho3)
  refine aL_alloc rfl rfl rfl g_ gl_ fun o4 ho4 => ?_
  repeat (rw [none_set_iff] at ho4; obtain ⟨_, ho4⟩ := ho4)
  (refine aL_S rfl rfl v_ ?_)
  refine aL_nil ?_
  refine awp_seq ?_
  refine awp_seq ?_
  refine awp_region (by kernel_rfl) ?_
  (refine aL_S rfl rfl v_ ?_)
  refine aL_X rfl rfl (AOp_use rfl rfl (.inr ⟨rfl, rfl, rfl⟩) g_ va_ (oCheck_c ha) ?_); rintro _ _ ⟨rfl, rfl⟩
  iterate 2 (refine aL_S rfl rfl v_ ?_)
  refine aL_GF rfl rfl v_ rfl vg_ ?_
  refine aL_GFX rfl rfl v_ rfl (fun hb => AOp_useV (by rfl) (by rfl) (.inr ⟨by rfl, by rfl, by rfl⟩) g_ cg_ (oCheck_c hB)) ?_
  refine aL_GF rfl rfl v_ rfl vg_ ?_
  (refine aL_S rfl rfl v_ ?_)
  refine aL_nil ?_
  refine awp_cond v_ (fun hc1 => ?_) (fun hc1 => ?_)
  · replace hc1 := nm_ hc1
    refine awp_seq ?_
    refine awp_region (by kernel_rfl) ?_
    (refine aL_S rfl rfl v_ ?_)
    refine aL_store rfl rfl rfl v_ v_ h_ g_ rfl g_ c_ (by rfl) le_ v_ ?_
    (refine aL_S rfl rfl v_ ?_)
    refine aL_nil ?_
    refine awp_ret ?_
    rw [show mergeS a b = (⟨[], []⟩, 1) from by
      rw [chk0, chk0] at hc1
      unfold mergeS
      cases h1 : objOk a <;> cases h2 : objOk b <;> simp [h1, h2] at hc1 ⊢]
    exact aEnd_retW (v := .tup [sObj ⟨[], []⟩, vInt 1]) (v' := .tup [.agg [vNil, vNil], vInt 1]) va_ (.tup _ _ rfl (fun i hi hi' => by match i, hi with | 0, _ => exact .agg _ _ rfl (fun j hj hj' => by match j, hj with | 0, _ => exact .nil _ _ | 1, _ => exact .nil _ _) | 1, _ => exact .refl _)) sub_ ⟨rfl, rfl⟩
  · replace hc1 := nm_ hc1
    rw [chk0, chk0] at hc1
    have ga := (objOk_iff.1 hc1.1).1.rise
    have gb := (objOk_iff.1 hc1.2).1.rise
    refine awp_skip ?_
    refine awp_seq ?_
    refine awp_region (by kernel_rfl) ?_
    iterate 4 (refine aL_S rfl rfl v_ ?_)
    refine aL_X rfl rfl (AOp_use rfl rfl (.inr ⟨rfl, rfl, rfl⟩) g_ va_ (join_c ha.ctx hB.ctx (by omega) (by omega)) ?_); rintro _ _ ⟨rfl, rfl⟩
    iterate 5 (refine aL_S rfl rfl v_ ?_)
    refine aL_nil ?_
    refine awp_seq ?_
    refine awp_seq ?_
    refine awp_region (by kernel_rfl) ?_
    iterate 2 (refine aL_S rfl rfl v_ ?_)
    refine aL_nil ?_
    refine awp_cond v_ (fun hc4 => ?_) (fun hc4 => ?_)
    · replace hc4 := nm_ hc4
      refine awp_seq ?_
      refine awp_region (by kernel_rfl) ?_
      iterate 2 (refine aL_S rfl rfl v_ ?_)
      refine aL_store rfl rfl rfl v_ v_ h_ g_ rfl g_ c_ (by rfl) le_ v_ ?_
      (refine aL_S rfl rfl v_ ?_)
      refine aL_nil ?_
      refine awp_ret ?_
      rw [show mergeS a b = (⟨[], []⟩, (joinS a.ctx b.ctx).2) from by simp [mergeS, hc1.1, hc1.2, hc4]]
      exact aEnd_retW (v := .tup [sObj ⟨[], []⟩, vInt (joinS a.ctx b.ctx).2]) (v' := .tup [.agg [vNil, vNil], vInt (joinS a.ctx b.ctx).2]) va_ (.tup _ _ rfl (fun i hi hi' => by match i, hi with | 0, _ => exact .agg _ _ rfl (fun j hj hj' => by match j, hj with | 0, _ => exact .nil _ _ | 1, _ => exact .nil _ _) | 1, _ => exact .refl _)) sub_ ⟨rfl, rfl⟩
    · replace hc4 := nm_ hc4
      have hms : mergeS a b = (⟨(joinS a.ctx b.ctx).1, mergeL a b⟩, 0) := by simp [mergeS, hc1.1, hc1.2, hc4]
      obtain ⟨J, hJ⟩ : ∃ J, (joinS a.ctx b.ctx).1 = J := ⟨_, rfl⟩
      rw [hJ] at hms ⊢
      have l1 : (keptA a b).length ≤ a.sibs.length := List.length_filterMap_le ..
      have l2 : (keptA b a).length ≤ b.sibs.length := List.length_filterMap_le ..
      refine awp_skip ?_
      refine awp_seq ?_
      refine awp_draw (.op 0 0 (.op 1 0 (.op 3 0 (.op 4 0 (.op 2 1 (.op 5 1 (.op 6 1 (.op 7 2 (.op 8 0 .nil))))))))) Tryz.mixed (by kernel_rfl) ?_
      iterate 4 (refine dR_S o_ (by rfl) (by rfl) v_ ?_)
      refine dR_X o_ (by rfl) (by rfl) (AOp_use (by rfl) (by rfl) (.inr ⟨by rfl, by rfl, by rfl⟩) g_ va_ (kept_c ha hB gb) ?_); rintro _ _ ⟨rfl, rfl⟩; refine ⟨sub_, ?_⟩
      refine dR_X o_ (by rfl) (by rfl) (AOp_use (by rfl) (by rfl) (.inr ⟨by rfl, by rfl, by rfl⟩) g_ va_ (kept_c hB ha ga) ?_); rintro _ _ ⟨rfl, rfl⟩; refine ⟨sub_, ?_⟩
      refine dR_X o_ (by rfl) (by rfl) (AOp_buildSlice' (by rfl) g_ g_ (by rfl) (by rfl) h_ c2_ (by decide) ⟨sub_, ?_⟩)
      refine dR_T o_ (by rfl) (by rfl) (AOp_use (by rfl) (by rfl) (.inr ⟨by rfl, by rfl, by rfl⟩) g_ va_ (concatSib_c (L1 := keptA a b) (L2 := keptA b a) (by omega) (by omega)) ?_); rintro _ τ0 hC0
      (refine dR_S o_ (by rfl) (by rfl) v_ ?_)
      refine dR_nil ?_
      refine awp_seq ?_
      refine awp_region (by kernel_rfl) ?_
      (refine aL_S rfl rfl v_ ?_)
      refine aL_X rfl rfl (AOp_use rfl rfl (.inr ⟨rfl, rfl, rfl⟩) g_ va_ (sortFuncC hC0 (by rw [List.length_append]; omega)) ?_); rintro _ τ1 ⟨rfl, L, hp, hs, hC1⟩
      obtain ⟨hu, hcm⟩ := merged_row ga gb hp hs
      have hlL : L.length ≤ 1000000 := by rw [hp.length_eq, List.length_append]; omega
      refine aL_nil ?_
      refine awp_seq ?_
      refine awp_region (by kernel_rfl) ?_
      iterate 2 (refine aL_S rfl rfl v_ ?_)
      refine aL_X rfl rfl (AOp_use rfl rfl (.inr ⟨rfl, rfl, rfl⟩) g_ va_ (compactFuncC hC1 hu hlL) ?_); rintro _ _ ⟨rfl, rfl⟩
      rw [hcm]
      (refine aL_S rfl rfl v_ ?_)
      refine aL_store rfl rfl rfl v_ v_ h_ g_ rfl g_ c_ (by rfl) le_ v_ ?_
      (refine aL_S rfl rfl v_ ?_)
      refine aL_nil ?_
      refine awp_ret ?_
      refine aEnd_ret (σ' := σ) v_ sub_ ?_
      exact ⟨by rw [hms], rfl⟩
theorem equalInts_c {a b : List Int} {ta tb : Bool} {σ : Store} (ha : a.length ≤ 1000000) (hb : b.length ≤ 1000000) : ACalls Tryz.prog 193 [.sl 1 (a.map vInt) ta, .sl 1 (b.map vInt) tb] σ fun v σ' => v = vB (decide (a = b)) ∧ σ = σ' := by
  refine ACalls_of Tryz.func193 rfl Tryz.ntmps193 (congrArg Array.toList Tryz.results193) (by simp only [List.length_cons, List.length_nil]; decide) ?_; simp only [envOf_cons, envOf_nil, Nat.reduceAdd]
  refine awp_seq ?_
  refine awp_region (by kernel_rfl) ?_
  (refine aL_S rfl rfl v_ ?_)
  refine aL_nil ?_
  refine awp_seq ?_
  refine awp_seq ?_
  refine awp_region (by kernel_rfl) ?_
  iterate 5 (refine aL_S rfl rfl v_ ?_)
  refine aL_nil ?_
  refine awp_cond v_ (fun hc1 => ?_) (fun hc1 => ?_)
  · replace hc1 := nm_ hc1
    refine awp_seq ?_
    refine awp_region (by kernel_rfl) ?_
    (refine aL_S rfl rfl v_ ?_)
    refine aL_nil ?_
    refine awp_ret ?_
    refine aEnd_ret (σ' := σ) v_ sub_ ?_
    exact ⟨by rw [decide_eq_false]; intro h; rw [h] at hc1; omega, rfl⟩
  · replace hc1 := nm_ hc1
    refine awp_skip ?_
    refine awp_seq ?_
    refine awp_seq ?_
    refine awp_region (by kernel_rfl) ?_
    iterate 3 (refine aL_S rfl rfl v_ ?_)
    refine aL_nil ?_
    refine awp_block ?_
    refine awp_loop_env (ι := Nat) (fun k => a.length - k) (fun k => k ≤ a.length ∧ a.take k = b.take k) (fun k => [(0, .sl 1 (a.map vInt) ta), (1, .sl 1 (b.map vInt) tb), (12, vInt a.length), (13, vInt k)]) (fun k => σ) 0 ?_ ?_ ?_ ?_
    · exact ⟨Nat.zero_le _, rfl⟩
    · exact cv_
    · exact sub_
    rintro k ⟨hk, he⟩
    simp only [envL_cons, envL_nil]
    refine awp_seq ?_
    refine awp_region (by kernel_rfl) ?_
    (refine aL_S rfl rfl v_ ?_)
    refine aL_nil ?_
    refine awp_seq ?_
    refine awp_cond v_ (fun hc4 => ?_) (fun hc4 => ?_)
    · replace hc4 := nm_ hc4
      refine awp_skip ?_
      refine awp_seq ?_
      refine awp_block ?_
      refine awp_seq ?_
      refine awp_region (by kernel_rfl) ?_
      iterate 2 (refine aL_S rfl rfl v_ ?_)
      refine aL_nil ?_
      refine awp_seq ?_
      obtain ⟨x, hx⟩ := get_some (l := a) (k := k) (by omega)
      obtain ⟨y, hy⟩ := get_some (l := b) (k := k) (by omega)
      have R := And.intro hx hy
      refine awp_draw (.op 0 0 (.op 1 0 (.op 2 0 (.op 3 0 (.op 4 0 (.op 5 0 (.op 6 0 (.op 7 0 (.op 8 0 .nil))))))))) Tryz.mixed (by kernel_rfl) ?_
      iterate 9 (refine dR_S o_ (by rfl) (by rfl) v_ ?_)
      refine dR_nil ?_
      refine awp_cond v_ (fun hc6 => ?_) (fun hc6 => ?_)
      · replace hc6 := nm_ hc6
        refine awp_seq ?_
        refine awp_region (by kernel_rfl) ?_
        (refine aL_S rfl rfl v_ ?_)
        refine aL_nil ?_
        refine awp_ret ?_
        refine aEnd_ret (σ' := σ) v_ sub_ ?_
        exact ⟨by rw [decide_eq_false]; intro h; rw [h, hy] at hx; exact hc6 (Option.some.inj hx).symm, rfl⟩
      · replace hc6 := nm_ hc6
        refine awp_skip ?_
        refine awp_region (by kernel_rfl) ?_
        iterate 2 (refine aL_S rfl rfl v_ ?_)
        refine aL_nil ?_
        refine aNext (ι := Nat) (i := k) (k + 1) ?_ ?_ ?_ ?_
        · omega
        · exact ⟨by omega, by rw [take_snoc hx, take_snoc hy, he, hc6]⟩
        · exact cv_
        · exact sub_
    · replace hc4 := nm_ hc4
      refine awp_exit ?_
      refine aThen_exit ?_
      refine aThen_exit ?_
      refine aBlock_hit ?_
      refine awp_seq ?_
      refine awp_region (by kernel_rfl) ?_
      (refine aL_S rfl rfl v_ ?_)
      refine aL_nil ?_
      refine awp_ret ?_
      refine aEnd_ret (σ' := σ) v_ sub_ ?_
      exact ⟨by rw [decide_eq_true]; rwa [List.take_of_length_le (by omega), List.take_of_length_le (by omega)] at he, rfl⟩
theorem equalSibs_c {a b : List Sib} {ta tb : Bool} {σ : Store} (hla : a.length ≤ 1000000) (hlb : b.length ≤ 1000000) : ACalls Tryz.prog 133 [.sl 5 (a.map sSib) ta, .sl 5 (b.map sSib) tb] σ fun v σ' => v = vB (decide (a = b)) ∧ σ = σ' := by
  refine ACalls_of Tryz.func133 rfl Tryz.ntmps133 (congrArg Array.toList Tryz.results133) (by simp only [List.length_cons, List.length_nil]; decide) ?_; simp only [envOf_cons, envOf_nil, Nat.reduceAdd]
  refine awp_seq ?_
  refine awp_region (by kernel_rfl) ?_
  (refine aL_S rfl rfl v_ ?_)
  refine aL_nil ?_
  refine awp_seq ?_
  refine awp_seq ?_
  refine awp_region (by kernel_rfl) ?_
  iterate 5 (refine aL_S rfl rfl v_ ?_)
  refine aL_nil ?_
  refine awp_cond v_ (fun hc1 => ?_) (fun hc1 => ?_)
  · replace hc1 := nm_ hc1
    refine awp_seq ?_
    refine awp_region (by kernel_rfl) ?_
    (refine aL_S rfl rfl v_ ?_)
    refine aL_nil ?_
    refine awp_ret ?_
    refine aEnd_ret (σ' := σ) v_ sub_ ?_
    exact ⟨by rw [decide_eq_false]; intro h; rw [h] at hc1; omega, rfl⟩
  · replace hc1 := nm_ hc1
    refine awp_skip ?_
    refine awp_seq ?_
    refine awp_seq ?_
    refine awp_region (by kernel_rfl) ?_
    iterate 3 (refine aL_S rfl rfl v_ ?_)
    refine aL_nil ?_
    refine awp_block ?_
    refine awp_loop_env (ι := Nat) (fun k => a.length - k) (fun k => k ≤ a.length ∧ a.take k = b.take k) (fun k => [(0, .sl 5 (a.map sSib) ta), (1, .sl 5 (b.map sSib) tb), (12, vInt a.length), (13, vInt k)]) (fun k => σ) 0 ?_ ?_ ?_ ?_
    · exact ⟨Nat.zero_le _, rfl⟩
    · exact cv_
    · exact sub_
    rintro k ⟨hk, he⟩
    simp only [envL_cons, envL_nil]
    refine awp_seq ?_
    refine awp_region (by kernel_rfl) ?_
    (refine aL_S rfl rfl v_ ?_)
    refine aL_nil ?_
    refine awp_seq ?_
    refine awp_cond v_ (fun hc4 => ?_) (fun hc4 => ?_)
    · replace hc4 := nm_ hc4
      refine awp_skip ?_
      refine awp_seq ?_
      refine awp_block ?_
      refine awp_seq ?_
      refine awp_region (by kernel_rfl) ?_
      iterate 2 (refine aL_S rfl rfl v_ ?_)
      refine aL_nil ?_
      refine awp_seq ?_
      obtain ⟨x, hx⟩ := get_some (l := a) (k := k) (by omega)
      obtain ⟨y, hy⟩ := get_some (l := b) (k := k) (by omega)
      have R := And.intro hx hy
      refine awp_draw (.op 0 0 (.op 1 0 (.op 2 0 (.op 3 0 (.op 4 0 (.op 5 0 (.op 6 0 (.op 7 0 (.op 8 0 .nil))))))))) Tryz.mixed (by kernel_rfl) ?_
      iterate 9 (refine dR_S o_ (by rfl) (by rfl) v_ ?_)
      refine dR_nil ?_
      refine awp_cond v_ (fun hc6 => ?_) (fun hc6 => ?_)
      · replace hc6 := nm_ hc6
        refine awp_seq ?_
        refine awp_region (by kernel_rfl) ?_
        (refine aL_S rfl rfl v_ ?_)
        refine aL_nil ?_
        refine awp_ret ?_
        refine aEnd_ret (σ' := σ) v_ sub_ ?_
        exact ⟨by rw [decide_eq_false]; intro h; rw [h, hy] at hx; obtain rfl := Option.some.inj hx; simp at hc6, rfl⟩
      · replace hc6 := nm_ hc6
        have hxy : x = y := by cases x; cases y; simp at hc6 ⊢; exact ⟨hc6.1.1, hc6.1.2, hc6.2.1, hc6.2.2.1, hc6.2.2.2⟩
        refine awp_skip ?_
        refine awp_region (by kernel_rfl) ?_
        iterate 2 (refine aL_S rfl rfl v_ ?_)
        refine aL_nil ?_
        refine aNext (ι := Nat) (i := k) (k + 1) ?_ ?_ ?_ ?_
        · omega
        · exact ⟨by omega, by rw [take_snoc hx, take_snoc hy, he, hxy]⟩
        · exact cv_
        · exact sub_
    · replace hc4 := nm_ hc4
      refine awp_exit ?_
      refine aThen_exit ?_
      refine aThen_exit ?_
      refine aBlock_hit ?_
      refine awp_seq ?_
      refine awp_region (by kernel_rfl) ?_
      (refine aL_S rfl rfl v_ ?_)
      refine aL_nil ?_
      refine awp_ret ?_
      refine aEnd_ret (σ' := σ) v_ sub_ ?_
      exact ⟨by rw [decide_eq_true]; rwa [List.take_of_length_le (by omega), List.take_of_length_le (by omega)] at he, rfl⟩
theorem dSame1_c {x y : Seen} {σ : Store} (hx : SeenSm x) (hy : SeenSm y) : ACalls Tryz.prog 192 [sSeen x, sSeen y] σ fun v σ' => v = vB (decide (x = y)) ∧ σ = σ' := by
  have h1 := hx.more; have h2 := hy.more
  refine ACalls_of Tryz.func192 rfl Tryz.ntmps192 (congrArg Array.toList Tryz.results192) (by simp only [List.length_cons, List.length_nil]; decide) ?_; simp only [envOf_cons, envOf_nil, Nat.reduceAdd]
  refine awp_seq ?_
  refine awp_region (by kernel_rfl) ?_
  refine aL_box rfl rfl rfl v_ rfl g_ fun o2 ho2 => ?_
  repeat (rw [none_set_iff] at ho2; obtain ⟨_, ho2⟩ := ho2)
  refine aL_box rfl rfl rfl v_ rfl g_ fun o3 ho3 => ?_
  repeat (rw [none_set_iff] at ho3; obtain ⟨_, ho3⟩ := ho3)
  (refine aL_S rfl rfl v_ ?_)
  refine aL_nil ?_
  refine awp_seq ?_
  refine awp_region (by kernel_rfl) ?_
  iterate 6 (refine aL_S rfl rfl v_ ?_)
  refine aL_GT rfl rfl v_ rfl vg_ ?_
  refine aL_GT rfl rfl v_ rfl vg_ ?_
  refine aL_GT rfl rfl v_ rfl vg_ ?_
  refine aL_GT rfl rfl v_ rfl vg_ ?_
  refine aL_GT rfl rfl v_ rfl vg_ ?_
  iterate 2 (refine aL_S rfl rfl v_ ?_)
  refine aL_GT rfl rfl v_ rfl vg_ ?_
  refine aL_GT rfl rfl v_ rfl vg_ ?_
  refine aL_GT rfl rfl v_ rfl vg_ ?_
  refine aL_GT rfl rfl v_ rfl vg_ ?_
  refine aL_GTX rfl rfl v_ rfl (fun hb => AOp_useV (by rfl) (by rfl) (.inr ⟨by rfl, by rfl, by rfl⟩) g_ cg_ (equalInts_c h1 h2)) ?_
  iterate 2 (refine aL_S rfl rfl v_ ?_)
  refine aL_nil ?_
  refine awp_ret ?_
  refine aEnd_ret (σ' := σ) v_ sub_ ?_
  refine ⟨?_, rfl⟩
  congr 2
  rw [Bool.eq_iff_iff]
  cases x; cases y
  simp [and_assoc]
theorem equalSeens_c {a b : List Seen} {ta tb : Bool} {σ : Store} (hA : ∀ x ∈ a, SeenSm x) (hB : ∀ x ∈ b, SeenSm x) (hla : a.length ≤ 1000000) (hlb : b.length ≤ 1000000) : ACalls Tryz.prog 191 [.sl 3 (a.map sSeen) ta, .sl 3 (b.map sSeen) tb, .lit (.func (.func 192) #[] #[])] σ fun v σ' => v = vB (decide (a = b)) ∧ σ = σ' := by
  refine ACalls_of Tryz.func191 rfl Tryz.ntmps191 (congrArg Array.toList Tryz.results191) (by simp only [List.length_cons, List.length_nil]; decide) ?_; simp only [envOf_cons, envOf_nil, Nat.reduceAdd]
  refine awp_seq ?_
  refine awp_region (by kernel_rfl) ?_
  (refine aL_S rfl rfl v_ ?_)
  refine aL_nil ?_
  refine awp_seq ?_
  refine awp_seq ?_
  refine awp_region (by kernel_rfl) ?_
  iterate 5 (refine aL_S rfl rfl v_ ?_)
  refine aL_nil ?_
  refine awp_cond v_ (fun hc1 => ?_) (fun hc1 => ?_)
  · replace hc1 := nm_ hc1
    refine awp_seq ?_
    refine awp_region (by kernel_rfl) ?_
    (refine aL_S rfl rfl v_ ?_)
    refine aL_nil ?_
    refine awp_ret ?_
    refine aEnd_ret (σ' := σ) v_ sub_ ?_
    exact ⟨by rw [decide_eq_false]; intro h; rw [h] at hc1; omega, rfl⟩
  · replace hc1 := nm_ hc1
    refine awp_skip ?_
    refine awp_seq ?_
    refine awp_seq ?_
    refine awp_region (by kernel_rfl) ?_
    iterate 3 (refine aL_S rfl rfl v_ ?_)
    refine aL_nil ?_
    refine awp_block ?_
    refine awp_loop_env (ι := Nat) (fun k => a.length - k) (fun k => k ≤ a.length ∧ a.take k = b.take k) (fun k => [(1, .sl 3 (b.map sSeen) tb), (2, .lit (.func (.func 192) #[] #[])), (15, .sl 3 (a.map sSeen) ta), (16, vInt a.length), (17, vInt k)]) (fun k => σ) 0 ?_ ?_ ?_ ?_
    · exact ⟨Nat.zero_le _, rfl⟩
    · exact cv_
    · exact sub_
    rintro k ⟨hk, he⟩
    simp only [envL_cons, envL_nil]
    refine awp_seq ?_
    refine awp_region (by kernel_rfl) ?_
    (refine aL_S rfl rfl v_ ?_)
    refine aL_nil ?_
    refine awp_seq ?_
    refine awp_cond v_ (fun hc4 => ?_) (fun hc4 => ?_)
    · replace hc4 := nm_ hc4
      refine awp_skip ?_
      refine awp_seq ?_
      refine awp_block ?_
      refine awp_seq ?_
      obtain ⟨x, hx⟩ := get_some (l := a) (k := k) (by omega)
      obtain ⟨y, hy⟩ := get_some (l := b) (k := k) (by omega)
      have sx := hA x (List.mem_of_getElem? hx)
      have sy := hB y (List.mem_of_getElem? hy)
      have R := And.intro hx hy
      refine awp_region (by kernel_rfl) ?_
      iterate 3 (refine aL_S rfl rfl v_ ?_)
      refine aL_alloc rfl rfl rfl g_ gl_ fun o8 ho8 => ?_
      repeat (rw [none_set_iff] at ho8; obtain ⟨_, ho8⟩ := ho8)
      (refine aL_S rfl rfl v_ ?_)
      refine aL_store rfl rfl rfl v_ v_ h_ g_ rfl g_ c_ (by rfl) le_ v_ ?_
      refine aL_nil ?_
      refine awp_seq ?_
      have R := And.intro hx hy
      refine awp_region (by kernel_rfl) ?_
      iterate 4 (refine aL_S rfl rfl v_ ?_)
      refine aL_alloc rfl rfl rfl g_ gl_ fun o9 ho9 => ?_
      repeat (rw [none_set_iff] at ho9; obtain ⟨_, ho9⟩ := ho9)
      refine aL_store rfl rfl rfl v_ v_ h_ g_ rfl g_ c_ (by rfl) le_ v_ ?_
      refine aL_nil ?_
      refine awp_seq ?_
      refine awp_region (by kernel_rfl) ?_
      iterate 3 (refine aL_S rfl rfl v_ ?_)
      refine aL_X rfl rfl (AOp_use rfl rfl (.inr ⟨va_, rfl, rfl⟩) g_ va_ (dSame1_c sx sy) ?_); rintro _ _ ⟨rfl, rfl⟩
      (refine aL_S rfl rfl v_ ?_)
      refine aL_nil ?_
      refine awp_cond v_ (fun hc7 => ?_) (fun hc7 => ?_)
      · replace hc7 := nm_ hc7
        refine awp_seq ?_
        refine awp_region (by kernel_rfl) ?_
        (refine aL_S rfl rfl v_ ?_)
        refine aL_nil ?_
        refine awp_ret ?_
        refine aEnd_ret (σ' := σ) v_ sub_ ?_
        exact ⟨by rw [decide_eq_false]; intro h; rw [h, hy] at hx; exact hc7 (Option.some.inj hx).symm, rfl⟩
      · replace hc7 := nm_ hc7
        refine awp_skip ?_
        refine awp_region (by kernel_rfl) ?_
        iterate 2 (refine aL_S rfl rfl v_ ?_)
        refine aL_nil ?_
        refine aNext (ι := Nat) (i := k) (k + 1) ?_ ?_ ?_ ?_
        · omega
        · exact ⟨by omega, by rw [take_snoc hx, take_snoc hy, he, hc7]⟩
        · exact cv_
        · exact sub_
    · replace hc4 := nm_ hc4
      refine awp_exit ?_
      refine aThen_exit ?_
      refine aThen_exit ?_
      refine aBlock_hit ?_
      refine awp_seq ?_
      refine awp_region (by kernel_rfl) ?_
      (refine aL_S rfl rfl v_ ?_)
      refine aL_nil ?_
      refine awp_ret ?_
      refine aEnd_ret (σ' := σ) v_ sub_ ?_
      exact ⟨by rw [decide_eq_true]; rwa [List.take_of_length_le (by omega), List.take_of_length_le (by omega)] at he, rfl⟩
theorem dSame_c {a b : List Seen} {ta tb : Bool} {σ : Store} (hA : ∀ x ∈ a, SeenSm x) (hB : ∀ x ∈ b, SeenSm x) (hla : a.length ≤ 1000000) (hlb : b.length ≤ 1000000) : ACalls Tryz.prog 132 [.sl 3 (a.map sSeen) ta, .sl 3 (b.map sSeen) tb] σ fun v σ' => v = vB (decide (a = b)) ∧ σ = σ' := by
  refine ACalls_of Tryz.func132 rfl Tryz.ntmps132 (congrArg Array.toList Tryz.results132) (by simp only [List.length_cons, List.length_nil]; decide) ?_; simp only [envOf_cons, envOf_nil, Nat.reduceAdd]
  refine awp_seq ?_
  refine awp_region (by kernel_rfl) ?_
  (refine aL_S rfl rfl v_ ?_)
  refine aL_nil ?_
  refine awp_seq ?_
  refine awp_region (by kernel_rfl) ?_
  iterate 2 (refine aL_S rfl rfl v_ ?_)
  refine aL_X rfl rfl (AOp_use rfl rfl (.inr ⟨rfl, rfl, rfl⟩) g_ va_ (equalSeens_c hA hB hla hlb) ?_); rintro _ _ ⟨rfl, rfl⟩
  (refine aL_S rfl rfl v_ ?_)
  refine aL_nil ?_
  refine awp_ret ?_
  refine aEnd_ret (σ' := σ) v_ sub_ ?_
  exact ⟨rfl, rfl⟩
theorem oSame_c {a b : Obj'} {σ : Store} (hA : ObjSm a) (hB : ObjSm b) : ACalls Tryz.prog 57 [sObj a, sObj b] σ fun v σ' => v = vB (decide (a = b)) ∧ σ = σ' := by
  have n1 := hA.nc; have n2 := hA.ns; have n3 := hB.nc; have n4 := hB.ns
  refine ACalls_of Tryz.func57 rfl Tryz.ntmps57 (congrArg Array.toList Tryz.results57) (by simp only [List.length_cons, List.length_nil]; decide) ?_; simp only [envOf_cons, envOf_nil, Nat.reduceAdd]
  refine awp_seq ?_
  refine awp_region (by kernel_rfl) ?_
  refine aL_box rfl rfl rfl v_ rfl g_ fun o2 ho2 => ?_
  repeat (rw [none_set_iff] at ho2; obtain ⟨_, ho2⟩ := ho2)
  refine aL_box rfl rfl rfl v_ rfl g_ fun o3 ho3 => ?_
  repeat (rw [none_set_iff] at ho3; obtain ⟨_, ho3⟩ := ho3)
  (refine aL_S rfl rfl v_ ?_)
  refine aL_nil ?_
  refine awp_seq ?_
  refine awp_region (by kernel_rfl) ?_
  iterate 4 (refine aL_S rfl rfl v_ ?_)
  refine aL_X rfl rfl (AOp_use rfl rfl (.inr ⟨rfl, rfl, rfl⟩) g_ va_ (dSame_c hA.ctx hB.ctx (by omega) (by omega)) ?_); rintro _ _ ⟨rfl, rfl⟩
  (refine aL_S rfl rfl v_ ?_)
  refine aL_GT rfl rfl v_ rfl vg_ ?_
  refine aL_GT rfl rfl v_ rfl vg_ ?_
  refine aL_GT rfl rfl v_ rfl vg_ ?_
  refine aL_GT rfl rfl v_ rfl vg_ ?_
  refine aL_GTX rfl rfl v_ rfl (fun hb => AOp_useV (by rfl) (by rfl) (.inr ⟨by rfl, by rfl, by rfl⟩) g_ cg_ (equalSibs_c (by omega) (by omega))) ?_
  iterate 2 (refine aL_S rfl rfl v_ ?_)
  refine aL_nil ?_
  refine awp_ret ?_
  refine aEnd_ret (σ' := σ) v_ sub_ ?_
  refine ⟨?_, rfl⟩
  congr 2
  rw [Bool.eq_iff_iff]
  cases a; cases b
  simp
end Go.Proofs.YtgpibooklhakgaaGreat
end
