/-
  Items merged, as the document does it; How small what is merged is; CONTEXTS AND OBJECTS, as they come in; MESSAGES, as they come in; The values that live: last.Live; the document's. Own work (an AI agent).
-/
import Derived.Test.YtdgnelnipnjhjaaGreatGH
import Derived.Test.YtdgnelnipnjhjaaGreatGG
import Derived.Test.YtdgnelnipnjhjaaGreatGD
import Derived.Test.YtdgnelnipnjhjaaGreatGE

section
set_option linter.all false
set_option maxRecDepth 100000
namespace Go.Proofs.YtdgnelnipnjhjaaGreat
open Go.Ab
instance : Inhabited Itm := ⟨⟨.empty, ⟨[], []⟩⟩⟩
/-! ### few; the same; may be -/
theorem rMay29_c {l : List Itm} {t : Bool} {σ : Store} (hx : ∀ x ∈ l, ItemSm x) (hn : l.length ≤ 1000000) : ACalls Tryz.prog 79 [.sl 3 (l.map sItem) t] σ fun v σ' => v = vB (itemsOk l) ∧ σ = σ' := by
  refine ACalls_of Tryz.func79 rfl Tryz.ntmps79 (congrArg Array.toList Tryz.results79) (by simp only [List.length_cons, List.length_nil]; decide) ?_; simp only [envOf_cons, envOf_nil, Nat.reduceAdd]
  refine awp_seq ?_
  refine awp_region (by kernel_rfl) ?_
  (refine aL_S rfl rfl v_ ?_)
  refine aL_nil ?_
  refine awp_seq ?_
  refine awp_region (by kernel_rfl) ?_
  iterate 2 (refine aL_S rfl rfl v_ ?_)
  refine aL_X rfl rfl (AOp_use rfl rfl (.inr ⟨rfl, rfl, rfl⟩) g_ va_ (rMay27_c hx hn) ?_); rintro _ _ ⟨rfl, rfl⟩
  (refine aL_S rfl rfl v_ ?_)
  refine aL_nil ?_
  refine awp_ret ?_
  refine aEnd_ret (σ' := σ) v_ sub_ ?_
  exact ⟨rfl, rfl⟩
theorem few29_c {l : List Itm} {t : Bool} {σ : Store} : ACalls Tryz.prog 29 [.sl 3 (l.map sItem) t] σ fun v σ' => v = vB (fewIt l) ∧ σ = σ' := by
  refine ACalls_of Tryz.func29 rfl Tryz.ntmps29 (congrArg Array.toList Tryz.results29) (by simp only [List.length_cons, List.length_nil]; decide) ?_; simp only [envOf_cons, envOf_nil, Nat.reduceAdd]
  refine awp_seq ?_
  refine awp_region (by kernel_rfl) ?_
  (refine aL_S rfl rfl v_ ?_)
  refine aL_nil ?_
  refine awp_seq ?_
  refine awp_region (by kernel_rfl) ?_
  iterate 2 (refine aL_S rfl rfl v_ ?_)
  refine aL_X rfl rfl (AOp_use rfl rfl (.inr ⟨rfl, rfl, rfl⟩) g_ va_ (fewIt_c) ?_); rintro _ _ ⟨rfl, rfl⟩
  (refine aL_S rfl rfl v_ ?_)
  refine aL_nil ?_
  refine awp_ret ?_
  refine aEnd_ret (σ' := σ) v_ sub_ ?_
  exact ⟨rfl, rfl⟩
theorem same29_c {a b : List Itm} {ta tb : Bool} {σ : Store} (hA : ∀ x ∈ a, ObjSm x.obj) (hB : ∀ x ∈ b, ObjSm x.obj) (hla : a.length ≤ 1000000) (hlb : b.length ≤ 1000000) : ACalls Tryz.prog 34 [.sl 3 (a.map sItem) ta, .sl 3 (b.map sItem) tb] σ fun v σ' => v = vB (decide (a = b)) ∧ σ = σ' := by
  refine ACalls_of Tryz.func34 rfl Tryz.ntmps34 (congrArg Array.toList Tryz.results34) (by simp only [List.length_cons, List.length_nil]; decide) ?_; simp only [envOf_cons, envOf_nil, Nat.reduceAdd]
  refine awp_seq ?_
  refine awp_region (by kernel_rfl) ?_
  (refine aL_S rfl rfl v_ ?_)
  refine aL_nil ?_
  refine awp_seq ?_
  refine awp_region (by kernel_rfl) ?_
  iterate 4 (refine aL_S rfl rfl v_ ?_)
  refine aL_X rfl rfl (AOp_use rfl rfl (.inr ⟨rfl, rfl, rfl⟩) g_ va_ (sameIt_c hA hB hla hlb) ?_); rintro _ _ ⟨rfl, rfl⟩
  (refine aL_S rfl rfl v_ ?_)
  refine aL_nil ?_
  refine awp_ret ?_
  refine aEnd_ret (σ' := σ) v_ sub_ ?_
  exact ⟨rfl, rfl⟩
/-! ### merged -/
def FindR (l : List Itm) (p : ByteArray) (r : Int) : Prop := (r = -1 ∧ l.find? (fun y => decide (y.place = p)) = none) ∨ ∃ (k : Nat) (y : Itm), r = (k : Int) ∧ l[k]? = some y ∧ l.find? (fun y => decide (y.place = p)) = some y
theorem find_take {l : List Itm} {p : ByteArray} {k : Nat} {y : Itm} (h : l[k]? = some y) (hp : y.place = p) (h0 : ∀ z ∈ l.take k, z.place ≠ p) : l.find? (fun y => decide (y.place = p)) = some y := by
  have hk := (List.getElem?_eq_some_iff.1 h).1
  have e : l = l.take k ++ y :: l.drop (k + 1) := by rw [← drop_cons h, List.take_append_drop]
  rw [e, List.find?_append, List.find?_eq_none.2 (fun z hz => by simpa using h0 z hz)]
  simp [hp]
theorem rFind29_c {l : List Itm} {p : ByteArray} {t : Bool} {σ : Store} (hn : l.length ≤ 1000000) : ACalls Tryz.prog 80 [.sl 3 (l.map sItem) t, vStr p] σ fun v σ' => (∃ r, v = vInt r ∧ FindR l p r) ∧ σ = σ' := by
  refine ACalls_of Tryz.func80 rfl Tryz.ntmps80 (congrArg Array.toList Tryz.results80) (by simp only [List.length_cons, List.length_nil]; decide) ?_; simp only [envOf_cons, envOf_nil, Nat.reduceAdd]
  refine awp_seq ?_
  refine awp_region (by kernel_rfl) ?_
  (refine aL_S rfl rfl v_ ?_)
  refine aL_nil ?_
  refine awp_seq ?_
  refine awp_seq ?_
  refine awp_region (by kernel_rfl) ?_
  (refine aL_S rfl rfl v_ ?_)
  refine aL_nil ?_
  refine awp_block ?_
  refine awp_loop_env (ι := Nat) (fun k => l.length - k) (fun k => k ≤ l.length ∧ ∀ z ∈ l.take k, z.place ≠ p) (fun k => [(0, .sl 3 (l.map sItem) t), (1, vStr p), (5, vInt k)]) (fun k => σ) 0 ?_ ?_ ?_ ?_
  · exact ⟨Nat.zero_le _, fun z hz => by simp at hz⟩
  · exact cv_
  · exact sub_
  rintro k ⟨hk, ha⟩
  simp only [envL_cons, envL_nil]
  refine awp_seq ?_
  refine awp_seq ?_
  refine awp_region (by kernel_rfl) ?_
  iterate 4 (refine aL_S rfl rfl v_ ?_)
  refine aL_nil ?_
  refine awp_cond v_ (fun hc2 => ?_) (fun hc2 => ?_)
  · replace hc2 := nm_ hc2
    refine awp_skip ?_
    refine awp_seq ?_
    refine awp_block ?_
    refine awp_seq ?_
    obtain ⟨y, hy⟩ := get_some (l := l) (k := k) (by omega)
    have R := hy
    refine awp_region (by kernel_rfl) ?_
    iterate 7 (refine aL_S rfl rfl v_ ?_)
    refine aL_nil ?_
    refine awp_cond v_ (fun hc4 => ?_) (fun hc4 => ?_)
    · replace hc4 := nm_ hc4
      refine awp_seq ?_
      refine awp_region (by kernel_rfl) ?_
      iterate 2 (refine aL_S rfl rfl v_ ?_)
      refine aL_nil ?_
      refine awp_ret ?_
      refine aEnd_ret (σ' := σ) v_ sub_ ?_
      exact ⟨⟨(k : Int), rfl, .inr ⟨k, y, rfl, hy, find_take hy hc4 ha⟩⟩, rfl⟩
    · replace hc4 := nm_ hc4
      refine awp_skip ?_
      refine awp_region (by kernel_rfl) ?_
      iterate 3 (refine aL_S rfl rfl v_ ?_)
      refine aL_nil ?_
      refine aNext (ι := Nat) (i := k) (k + 1) ?_ ?_ ?_ ?_
      · omega
      · exact ⟨by omega, fun z hz => by rw [take_snoc hy] at hz; rcases List.mem_append.1 hz with h | h; exact ha z h; rw [List.mem_singleton.1 h]; exact hc4⟩
      · exact cv_
      · exact sub_
  · replace hc2 := nm_ hc2
    refine awp_exit ?_
    refine aThen_exit ?_
    refine aThen_exit ?_
    refine aBlock_hit ?_
    refine awp_seq ?_
    refine awp_region (by kernel_rfl) ?_
    (refine aL_S rfl rfl v_ ?_)
    refine aL_nil ?_
    refine awp_ret ?_
    refine aEnd_ret (σ' := σ) v_ sub_ ?_
    exact ⟨⟨-1, rfl, .inl ⟨rfl, List.find?_eq_none.2 fun z hz => by simpa using ha z (by rwa [List.take_of_length_le (by omega)])⟩⟩, rfl⟩
/-- what is still to come out -/
def wRest (x : Itm) (b : Bool) (l : List Itm) : List Itm := if b then l.filter (fun z => decide (z.place ≠ x.place)) else withS x l
theorem wRest_ins {x y : Itm} {l : List Itm} (h : sLt y.place x.place = false) : wRest x false (y :: l) = x :: (if y.place = x.place then [] else [y]) ++ wRest x true l := by
  have e : wRest x false (y :: l) = x :: (y :: l).filter fun z => decide (z.place ≠ x.place) := by show withS x (y :: l) = _; rw [withS, if_neg (by simp [h])]
  rw [e]
  by_cases hp : y.place = x.place <;> simp [wRest, hp]
theorem wRest_low {x y : Itm} {l : List Itm} (h : sLt y.place x.place = true) : wRest x false (y :: l) = y :: wRest x false l := by simp [wRest, withS, h]
theorem wRest_done {x y : Itm} {l : List Itm} : wRest x true (y :: l) = (if y.place = x.place then [] else [y]) ++ wRest x true l := by
  by_cases hp : y.place = x.place <;> simp [wRest, hp]
theorem wRest_no {x y : Itm} {b : Bool} {l : List Itm} (h : b = true ∨ sLt y.place x.place = true) : wRest x b (y :: l) = (if y.place = x.place then [] else [y]) ++ wRest x b l := by
  cases b with
  | true => exact wRest_done
  | false =>
    have h : sLt y.place x.place = true := by simpa using h
    rw [wRest_low h, if_neg (sLt_ne h)]; rfl
theorem wRest_end {x : Itm} {b : Bool} : wRest x b [] = if b then [] else [x] := by cases b <;> rfl
theorem rWith_c {l : List Itm} {x : Itm} {t : Bool} {σ : Store} (hn : l.length ≤ 1000000) : ACalls Tryz.prog 81 [.sl 3 (l.map sItem) t, sItem x] σ fun v σ' => v = .sl 3 ((withS x l).map sItem) false ∧ σ = σ' := by
  refine ACalls_of Tryz.func81 rfl Tryz.ntmps81 (congrArg Array.toList Tryz.results81) (by simp only [List.length_cons, List.length_nil]; decide) ?_; simp only [envOf_cons, envOf_nil, Nat.reduceAdd]
  refine awp_seq ?_
  refine awp_region (by kernel_rfl) ?_
  refine aL_box rfl rfl rfl v_ rfl g_ fun o3 ho3 => ?_
  repeat (rw [none_set_iff] at ho3; obtain ⟨_, ho3⟩ := ho3)
  (refine aL_S rfl rfl v_ ?_)
  refine aL_nil ?_
  refine awp_seq ?_
  refine awp_region (by kernel_rfl) ?_
  refine aL_nilOwn 120 3 rfl rfl rfl (by rfl) fun k5 hk5 => ?_
  refine aL_nil ?_
  refine awp_seq ?_
  refine awp_region (by kernel_rfl) ?_
  (refine aL_S rfl rfl v_ ?_)
  refine aL_nil ?_
  refine awp_seq ?_
  refine awp_seq ?_
  refine awp_region (by kernel_rfl) ?_
  (refine aL_S rfl rfl v_ ?_)
  refine aL_nil ?_
  refine awp_block ?_
  refine awp_loop_env (ι := Nat × Nat × Bool × List Itm) (fun ⟨tk, k, b, out⟩ => l.length - k) (fun ⟨tk, k, b, out⟩ => k ≤ l.length ∧ σ.tok tk = none ∧ out ++ wRest x b (l.drop k) = withS x l ∧ out.length ≤ k + (if b then 1 else 0)) (fun ⟨tk, k, b, out⟩ => [(0, .sl 3 (l.map sItem) t), (3, .ref o3 0), (5, .own tk 3 (out.map sItem)), (6, vB b), (7, vInt k)]) (fun ⟨tk, k, b, out⟩ => ((σ.set o3 (.cells (sItem x).cells)).newTok none tk (120, 3))) (k5, 0, false, []) ?_ ?_ ?_ ?_
  · exact ⟨Nat.zero_le _, hk5, rfl, by simp⟩
  · exact cv_
  · exact Store.Wk.refl _
  rintro ⟨tk, k, b, out⟩ ⟨hk, htk, hw, hlen⟩
  simp only [envL_cons, envL_nil]
  refine awp_seq ?_
  refine awp_seq ?_
  refine awp_region (by kernel_rfl) ?_
  iterate 4 (refine aL_S rfl rfl v_ ?_)
  refine aL_nil ?_
  refine awp_cond v_ (fun hc4 => ?_) (fun hc4 => ?_)
  · replace hc4 := nm_ hc4
    refine awp_skip ?_
    refine awp_seq ?_
    refine awp_block ?_
    refine awp_seq ?_
    refine awp_seq ?_
    obtain ⟨y, hy⟩ := get_some (l := l) (k := k) (by omega)
    have hlen1 : out.length ≤ k + 1 := by split at hlen <;> omega
    have R := hy
    refine awp_draw (.op 0 0 (.op 1 0 (.op 2 0 (.op 3 0 (.op 4 0 (.op 5 0 (.op 6 0 (.op 7 0 (.op 8 0 (.op 9 0 (.op 10 0 (.op 11 0 .nil)))))))))))) Tryz.mixed (by kernel_rfl) ?_
    iterate 3 (refine dR_S o_ (by rfl) (by rfl) v_ ?_)
    refine dR_GT o_ (by rfl) (by rfl) v_ (by rfl) vg_ ?_
    refine dR_GT o_ (by rfl) (by rfl) v_ (by rfl) vg_ ?_
    refine dR_GT o_ (by rfl) (by rfl) v_ (by rfl) vg_ ?_
    refine dR_GT o_ (by rfl) (by rfl) v_ (by rfl) vg_ ?_
    refine dR_GT o_ (by rfl) (by rfl) v_ (by rfl) vg_ ?_
    refine dR_GT o_ (by rfl) (by rfl) v_ (by rfl) vg_ ?_
    refine dR_GT o_ (by rfl) (by rfl) v_ (by rfl) vg_ ?_
    refine dR_GT o_ (by rfl) (by rfl) v_ (by rfl) vg_ ?_
    (refine dR_S o_ (by rfl) (by rfl) v_ ?_)
    refine dR_nil ?_
    refine awp_cond v_ (fun hc6 => ?_) (fun hc6 => ?_)
    · replace hc6 := nm_ hc6
      have hb6 : b = false ∧ sLt y.place x.place = false := by simpa using hc6
      refine awp_seq ?_
      refine awp_region (by kernel_rfl) ?_
      iterate 2 (refine aL_S rfl rfl v_ ?_)
      refine aL_buildSlice rfl rfl rfl g_ g_ rfl rfl h_ c2_ (by decide) ?_
      refine aL_append rfl rfl rfl g_ g_ v_ h_ v_ c_ (by simp; omega) fun k29 hk29 => ?_
      have t29 : σ.tok k29 = none := (newTok_none hk29).2
      rw [Store.newTok_step (show Store.tok (σ.set o3 _) tk = none from htk)]
      (refine aL_S rfl rfl v_ ?_)
      refine aL_nil ?_
      refine awp_region (by kernel_rfl) ?_
      (refine aL_S rfl rfl v_ ?_)
      refine aL_nil ?_
      refine awp_seq ?_
      have R := hy
      refine awp_draw (.op 0 0 (.op 1 0 (.op 2 0 (.op 3 0 (.op 4 0 (.op 5 0 (.op 6 0 (.op 7 0 .nil)))))))) Tryz.mixed (by kernel_rfl) ?_
      iterate 8 (refine dR_S o_ (by rfl) (by rfl) v_ ?_)
      refine dR_nil ?_
      refine awp_cond v_ (fun hc9 => ?_) (fun hc9 => ?_)
      · replace hc9 := nm_ hc9
        have R := hy
        refine awp_region (by kernel_rfl) ?_
        iterate 5 (refine aL_S rfl rfl v_ ?_)
        refine aL_buildSlice rfl rfl rfl g_ g_ rfl rfl h_ c2_ (by decide) ?_
        refine aL_append rfl rfl rfl g_ g_ v_ h_ v_ c_ (by simp; omega) fun k44 hk44 => ?_
        have t44 : σ.tok k44 = none := (newTok_none hk44).2
        (refine aL_S rfl rfl v_ ?_)
        refine aL_nil ?_
        refine awp_region (by kernel_rfl) ?_
        iterate 3 (refine aL_S rfl rfl v_ ?_)
        refine aL_nil ?_
        refine aNext (ι := Nat × Nat × Bool × List Itm) (i := ⟨tk, k, b, out⟩) (k44, k + 1, true, out ++ [x] ++ [y]) ?_ ?_ ?_ ?_
        · show l.length - (k + 1) < l.length - k; omega
        · exact ⟨by show k + 1 ≤ l.length; omega, t44, by rw [← hw, drop_cons hy, hb6.1, wRest_ins hb6.2, if_neg hc9]; simp, by rw [hb6.1] at hlen; simp at hlen ⊢; omega⟩
        · exact cv_
        · (try dsimp only); (try rw [Store.newTok_step (show Store.tok (σ.set o3 _) _ = none from ‹_›)]); exact Store.Wk.refl _
      · replace hc9 := nm_ hc9
        refine awp_skip ?_
        refine awp_region (by kernel_rfl) ?_
        iterate 3 (refine aL_S rfl rfl v_ ?_)
        refine aL_nil ?_
        refine aNext (ι := Nat × Nat × Bool × List Itm) (i := ⟨tk, k, b, out⟩) (k29, k + 1, true, out ++ [x]) ?_ ?_ ?_ ?_
        · show l.length - (k + 1) < l.length - k; omega
        · exact ⟨by show k + 1 ≤ l.length; omega, t29, by rw [← hw, drop_cons hy, hb6.1, wRest_ins hb6.2, if_pos hc9]; simp, by rw [hb6.1] at hlen; simp at hlen ⊢; omega⟩
        · exact cv_
        · (try dsimp only); (try rw [Store.newTok_step (show Store.tok (σ.set o3 _) _ = none from ‹_›)]); exact Store.Wk.refl _
    · replace hc6 := nm_ hc6
      have hb6 := wRest_no (l := l.drop (k + 1)) hc6
      refine awp_skip ?_
      refine awp_seq ?_
      have R := hy
      refine awp_draw (.op 0 0 (.op 1 0 (.op 2 0 (.op 3 0 (.op 4 0 (.op 5 0 (.op 6 0 (.op 7 0 .nil)))))))) Tryz.mixed (by kernel_rfl) ?_
      iterate 8 (refine dR_S o_ (by rfl) (by rfl) v_ ?_)
      refine dR_nil ?_
      refine awp_cond v_ (fun hc9 => ?_) (fun hc9 => ?_)
      · replace hc9 := nm_ hc9
        have R := hy
        refine awp_region (by kernel_rfl) ?_
        iterate 5 (refine aL_S rfl rfl v_ ?_)
        refine aL_buildSlice rfl rfl rfl g_ g_ rfl rfl h_ c2_ (by decide) ?_
        refine aL_append rfl rfl rfl g_ g_ v_ h_ v_ c_ (by simp; omega) fun k44 hk44 => ?_
        have t44 : σ.tok k44 = none := (newTok_none hk44).2
        (refine aL_S rfl rfl v_ ?_)
        refine aL_nil ?_
        refine awp_region (by kernel_rfl) ?_
        iterate 3 (refine aL_S rfl rfl v_ ?_)
        refine aL_nil ?_
        refine aNext (ι := Nat × Nat × Bool × List Itm) (i := ⟨tk, k, b, out⟩) (k44, k + 1, b, out ++ [y]) ?_ ?_ ?_ ?_
        · show l.length - (k + 1) < l.length - k; omega
        · exact ⟨by show k + 1 ≤ l.length; omega, t44, by rw [← hw, drop_cons hy, hb6]; simp [hc9], by show (out ++ [y]).length ≤ _; rw [List.length_append]; simp only [List.length_singleton]; split at hlen <;> simp_all <;> omega⟩
        · exact cv_
        · (try dsimp only); (try rw [Store.newTok_step (show Store.tok (σ.set o3 _) _ = none from ‹_›)]); exact Store.Wk.refl _
      · replace hc9 := nm_ hc9
        refine awp_skip ?_
        refine awp_region (by kernel_rfl) ?_
        iterate 3 (refine aL_S rfl rfl v_ ?_)
        refine aL_nil ?_
        refine aNext (ι := Nat × Nat × Bool × List Itm) (i := ⟨tk, k, b, out⟩) (tk, k + 1, b, out) ?_ ?_ ?_ ?_
        · show l.length - (k + 1) < l.length - k; omega
        · exact ⟨by show k + 1 ≤ l.length; omega, htk, by rw [← hw, drop_cons hy, hb6]; simp [hc9], by show out.length ≤ k + 1 + _; omega⟩
        · exact cv_
        · (try dsimp only); (try rw [Store.newTok_step (show Store.tok (σ.set o3 _) _ = none from ‹_›)]); exact Store.Wk.refl _
  · replace hc4 := nm_ hc4
    refine awp_exit ?_
    refine aThen_exit ?_
    refine aThen_exit ?_
    refine aBlock_hit ?_
    refine awp_seq ?_
    refine awp_seq ?_
    have hlen1 : out.length ≤ k + 1 := by split at hlen <;> omega
    rw [List.drop_eq_nil_of_le (by omega), wRest_end] at hw
    refine awp_region (by kernel_rfl) ?_
    iterate 2 (refine aL_S rfl rfl v_ ?_)
    refine aL_nil ?_
    refine awp_cond v_ (fun hc11 => ?_) (fun hc11 => ?_)
    · replace hc11 := nm_ hc11
      refine awp_region (by kernel_rfl) ?_
      iterate 2 (refine aL_S rfl rfl v_ ?_)
      refine aL_buildSlice rfl rfl rfl g_ g_ rfl rfl h_ c2_ (by decide) ?_
      refine aL_append rfl rfl rfl g_ g_ v_ h_ v_ c_ (by simp; omega) fun k50 hk50 => ?_
      have t50 : σ.tok k50 = none := (newTok_none hk50).2
      (refine aL_S rfl rfl v_ ?_)
      refine aL_nil ?_
      refine awp_seq ?_
      refine awp_region (by kernel_rfl) ?_
      iterate 2 (refine aL_S rfl rfl v_ ?_)
      refine aL_nil ?_
      refine awp_ret ?_
      rw [← hw, hc11, if_neg (by simp), List.map_append]
      exact aEnd_retW (v := .sl 3 (out.map sItem ++ [sItem x]) false) (v' := .own k50 3 (out.map sItem ++ [sItem x])) va_ (.own1 _ _ _) sub_ ⟨rfl, rfl⟩
    · replace hc11 := nm_ hc11
      refine awp_skip ?_
      refine awp_seq ?_
      refine awp_region (by kernel_rfl) ?_
      iterate 2 (refine aL_S rfl rfl v_ ?_)
      refine aL_nil ?_
      refine awp_ret ?_
      rw [← hw, hc11, if_pos rfl, List.append_nil]
      exact aEnd_retW (v := .sl 3 (out.map sItem) false) (v' := .own tk 3 (out.map sItem)) va_ (.own1 _ _ _) sub_ ⟨rfl, rfl⟩
theorem mgR_none {L0 os out ch : List Itm} {x : Itm} (h : L0.find? (fun y => decide (y.place = x.place)) = none) : mgR L0 (x :: os) out ch = mgR L0 os (withS x out) (ch ++ [x]) := by rw [mgR, h]
theorem mgR_err {L0 os out ch : List Itm} {x y : Itm} (h : L0.find? (fun y => decide (y.place = x.place)) = some y) (he : (mergeS y.obj x.obj).2 ≠ 0) : mgR L0 (x :: os) out ch = ([], [], (mergeS y.obj x.obj).2) := by rw [mgR, h]; simp only; rw [if_pos he]
theorem mgR_same {L0 os out ch : List Itm} {x y : Itm} (h : L0.find? (fun y => decide (y.place = x.place)) = some y) (he : (mergeS y.obj x.obj).2 = 0) (hs : (mergeS y.obj x.obj).1 = y.obj) : mgR L0 (x :: os) out ch = mgR L0 os out ch := by
  rw [mgR, h]; simp only; rw [if_neg (by simp [he]), if_pos hs]
theorem mgR_put {L0 os out ch : List Itm} {x y : Itm} (h : L0.find? (fun y => decide (y.place = x.place)) = some y) (he : (mergeS y.obj x.obj).2 = 0) (hs : ¬ (mergeS y.obj x.obj).1 = y.obj) : mgR L0 (x :: os) out ch = mgR L0 os (withS ⟨x.place, (mergeS y.obj x.obj).1⟩ out) (ch ++ [⟨x.place, (mergeS y.obj x.obj).1⟩]) := by
  rw [mgR, h]; simp only; rw [if_neg (by simp [he]), if_neg hs]
theorem withS_len (x : Itm) : ∀ l : List Itm, (withS x l).length ≤ l.length + 1
  | [] => by simp [withS]
  | y :: l => by
    unfold withS
    split
    · have := withS_len x l; simp; omega
    · have := List.length_filter_le (fun z => decide (z.place ≠ x.place)) (y :: l); simp only [List.length_cons] at this ⊢; omega
set_option maxHeartbeats 4000000 in
theorem rMerge29_c {l os : List Itm} {σ : Store} (hl : ∀ x ∈ l, ItemSm x) (ho : ∀ x ∈ os, ItemSm x) (hM : ∀ x ∈ l, ∀ y ∈ os, ObjSm (mergeS x.obj y.obj).1) (hn : l.length ≤ 100000) (hn2 : os.length ≤ 100000) :
    ACalls Tryz.prog 38 [.sl 3 (l.map sItem) false, .sl 3 (os.map sItem) false] σ fun v σ' => v = .tup [.sl 3 ((mergeI l os).1.map sItem) false, .sl 3 ((mergeI l os).2.1.map sItem) false, vInt (mergeI l os).2.2] ∧ σ = σ' := by
  refine ACalls_of Tryz.func38 rfl Tryz.ntmps38 (congrArg Array.toList Tryz.results38) (by simp only [List.length_cons, List.length_nil]; decide) ?_; simp only [envOf_cons, envOf_nil, Nat.reduceAdd]
  refine awp_seq ?_
  refine awp_region (by kernel_rfl) ?_
  iterate 3 (refine aL_S rfl rfl v_ ?_)
  refine aL_nil ?_
  refine awp_seq ?_
  refine awp_seq ?_
  refine awp_region (by kernel_rfl) ?_
  (refine aL_S rfl rfl v_ ?_)
  refine aL_X rfl rfl (AOp_use rfl rfl (.inr ⟨rfl, rfl, rfl⟩) g_ va_ (rMay29_c hl (by omega)) ?_); rintro _ _ ⟨rfl, rfl⟩
  iterate 2 (refine aL_S rfl rfl v_ ?_)
  refine aL_GF rfl rfl v_ rfl vg_ ?_
  refine aL_GFX rfl rfl v_ rfl (fun hb => AOp_useV (by rfl) (by rfl) (.inr ⟨by rfl, by rfl, by rfl⟩) g_ cg_ (rMay29_c ho (by omega))) ?_
  refine aL_GF rfl rfl v_ rfl vg_ ?_
  (refine aL_S rfl rfl v_ ?_)
  refine aL_nil ?_
  refine awp_cond v_ (fun hc1 => ?_) (fun hc1 => ?_)
  · replace hc1 := nm_ hc1
    refine awp_seq ?_
    refine awp_region (by kernel_rfl) ?_
    iterate 3 (refine aL_S rfl rfl v_ ?_)
    refine aL_nil ?_
    refine awp_ret ?_
    rw [show mergeI l os = ([], [], 1) from by
      unfold mergeI
      cases h1 : itemsOk l <;> cases h2 : itemsOk os <;> simp [h1, h2] at hc1 ⊢]
    exact aEnd_retW (v := .tup [.sl 3 [] false, .sl 3 [] false, vInt 1]) (v' := .tup [vNil, vNil, vInt 1]) va_ wkNil3 sub_ ⟨rfl, rfl⟩
  · replace hc1 := nm_ hc1
    skip
    have hmi : mergeI l os = mgR l os l [] := by
      rw [mgR_all (itemsOk_rise hc1.1).1 (itemsOk_rise hc1.2).1]
      simp [mergeI, hc1.1, hc1.2]
    refine awp_skip ?_
    refine awp_seq ?_
    refine awp_region (by kernel_rfl) ?_
    refine aL_nilOwn 120 3 rfl rfl rfl (by rfl) fun k7 hk7 => ?_
    refine aL_nil ?_
    refine awp_seq ?_
    refine awp_region (by kernel_rfl) ?_
    iterate 2 (refine aL_S rfl rfl v_ ?_)
    refine aL_nil ?_
    refine awp_seq ?_
    refine awp_seq ?_
    refine awp_region (by kernel_rfl) ?_
    (refine aL_S rfl rfl v_ ?_)
    refine aL_nil ?_
    refine awp_block ?_
    refine awp_loop_env (ι := Nat × Nat × List Itm × List Itm) (fun ⟨tk, i, out, ch⟩ => os.length - i) (fun ⟨tk, i, out, ch⟩ => i ≤ os.length ∧ σ.tok tk = none ∧ mgR l (os.drop i) out ch = mgR l os l [] ∧ out.length ≤ l.length + i ∧ ch.length ≤ i) (fun ⟨tk, i, out, ch⟩ => [(0, .sl 3 (l.map sItem) false), (1, .sl 3 (os.map sItem) false), (7, .own tk 3 (ch.map sItem)), (8, .sl 3 (out.map sItem) false), (9, vInt i)]) (fun ⟨tk, i, out, ch⟩ => (σ.newTok none tk pItm)) (k7, 0, l, []) ?_ ?_ ?_ ?_
    · exact ⟨Nat.zero_le _, hk7, rfl, by simp, by simp⟩
    · exact cv_
    · exact Store.Wk.refl _
    rintro ⟨tk, i, out, ch⟩ ⟨hi, htk, hr, lo, lc⟩
    simp only [envL_cons, envL_nil]
    refine awp_seq ?_
    refine awp_seq ?_
    refine awp_region (by kernel_rfl) ?_
    iterate 4 (refine aL_S rfl rfl v_ ?_)
    refine aL_nil ?_
    refine awp_cond v_ (fun hc6 => ?_) (fun hc6 => ?_)
    · replace hc6 := nm_ hc6
      refine awp_skip ?_
      refine awp_seq ?_
      refine awp_block ?_
      refine awp_seq ?_
      obtain ⟨x, hx⟩ := get_some (l := os) (k := i) (by omega)
      have sx := ho x (List.mem_of_getElem? hx)
      have R := hx
      refine awp_region (by kernel_rfl) ?_
      iterate 4 (refine aL_S rfl rfl v_ ?_)
      refine aL_alloc rfl rfl rfl g_ gl_ fun o10 ho10 => ?_
      repeat (rw [none_set_iff] at ho10; obtain ⟨_, ho10⟩ := ho10)
      refine aL_store rfl rfl rfl v_ v_ h_ g_ rfl g_ c_ (by rfl) le_ v_ ?_
      refine aL_nil ?_
      have s10 : σ.heap o10 = none := ho10
      refine awp_seq ?_
      refine awp_region (by kernel_rfl) ?_
      iterate 3 (refine aL_S rfl rfl v_ ?_)
      refine aL_X rfl rfl (AOp_use rfl rfl (.inr ⟨rfl, rfl, rfl⟩) g_ va_ (rFind29_c (p := x.place) (by omega)) ?_); rintro _ _ ⟨⟨r, rfl, hfr⟩, rfl⟩
      (refine aL_S rfl rfl v_ ?_)
      refine aL_nil ?_
      refine awp_seq ?_
      refine awp_seq ?_
      refine awp_region (by kernel_rfl) ?_
      iterate 2 (refine aL_S rfl rfl v_ ?_)
      refine aL_nil ?_
      refine awp_cond v_ (fun hc10 => ?_) (fun hc10 => ?_)
      · replace hc10 := nm_ hc10
        skip
        obtain ⟨k, y, rfl, hy, hfy⟩ : ∃ (k : Nat) (y : Itm), r = (k : Int) ∧ l[k]? = some y ∧ l.find? (fun y => decide (y.place = x.place)) = some y := by
          rcases hfr with ⟨h, _⟩ | h
          · omega
          · exact h
        have sy := hl y (List.mem_of_getElem? hy)
        have sm := hM y (List.mem_of_getElem? hy) x (List.mem_of_getElem? hx)
        have hkl := (List.getElem?_eq_some_iff.1 hy).1
        refine awp_seq_mid (ι := Nat) (fun p12 => σ.heap p12 = none ∧ p12 ≠ o10) (fun p12 => [(0, .sl 3 (l.map sItem) false), (1, .sl 3 (os.map sItem) false), (7, .own tk 3 (ch.map sItem)), (8, .sl 3 (out.map sItem) false), (9, vInt i), (10, .ref o10 0), (11, vInt k), (12, .ref p12 0), (13, vInt (mergeS y.obj x.obj).2)]) (fun p12 => (((σ.newTok none tk pItm).set o10 (.cells (sItem x).cells)).set p12 (.cells (sObj (mergeS y.obj x.obj).1).cells))) ?_ ?_
        · have R := hy
          refine awp_draw (.op 0 0 (.op 1 0 (.op 2 0 (.op 3 0 (.op 4 0 (.op 5 0 (.op 6 0 (.alt 7 1 (.op 8 0 (.op 9 0 (.op 10 0 (.op 11 1 (.op 12 2 (.op 13 0 .nil)))))) (.op 11 1 (.op 7 1 (.op 8 0 (.op 9 0 (.op 10 0 (.op 12 2 (.op 13 0 .nil))))))))))))))) Tryz.mixed (by kernel_rfl) ?_
          iterate 7 (refine dR_S o_ (by rfl) (by rfl) v_ ?_)
          refine dR_alt ?_ ?_
          · refine dR_X o_ (by rfl) (by rfl) (AOp_use (by rfl) (by rfl) (.inr ⟨by rfl, by rfl, by rfl⟩) g_ va_ (rMerge_c sy.obj sx.obj) ?_); rintro _ _ ⟨rfl, rfl⟩; refine ⟨sub_, ?_⟩
            iterate 3 (refine dR_S o_ (by rfl) (by rfl) v_ ?_)
            refine dR_alloc o_ (by rfl) (by rfl) (by rfl) g_ gl_ sub_ fun o12 ho12 => ?_
            repeat (rw [none_set_iff] at ho12; obtain ⟨_, ho12⟩ := ho12)
            refine dR_store o_ (by rfl) (by rfl) (by rfl) v_ v_ h_ g_ rfl g_ c_ (by rfl) le_ v_ ?_
            (refine dR_S o_ (by rfl) (by rfl) v_ ?_)
            refine dR_nil ?_
            refine ⟨o12, ?_, ?_, ?_⟩
            · exact ⟨ho12, by assumption⟩
            · exact cv_
            · (try dsimp only); (try rw [Store.set_set]); exact sub_
          refine dR_alloc o_ (by rfl) (by rfl) (by rfl) g_ gl_ sub_ fun o12 ho12 => ?_
          repeat (rw [none_set_iff] at ho12; obtain ⟨_, ho12⟩ := ho12)
          refine dR_X o_ (by rfl) (by rfl) (AOp_use (by rfl) (by rfl) (.inr ⟨by rfl, by rfl, by rfl⟩) g_ va_ (rMerge_c sy.obj sx.obj) ?_); rintro _ _ ⟨rfl, rfl⟩; refine ⟨sub_, ?_⟩
          iterate 3 (refine dR_S o_ (by rfl) (by rfl) v_ ?_)
          refine dR_store o_ (by rfl) (by rfl) (by rfl) v_ v_ h_ g_ rfl g_ c_ (by rfl) le_ v_ ?_
          (refine dR_S o_ (by rfl) (by rfl) v_ ?_)
          refine dR_nil ?_
          refine ⟨o12, ?_, ?_, ?_⟩
          · exact ⟨ho12, by assumption⟩
          · exact cv_
          · (try dsimp only); (try rw [Store.set_set]); exact sub_
        · rintro p12 ⟨n12, d12⟩
          simp only [envL_cons, envL_nil]
          refine awp_seq ?_
          refine awp_seq ?_
          refine awp_region (by kernel_rfl) ?_
          iterate 2 (refine aL_S rfl rfl v_ ?_)
          refine aL_nil ?_
          refine awp_cond v_ (fun hc12 => ?_) (fun hc12 => ?_)
          · replace hc12 := nm_ hc12
            refine awp_seq ?_
            refine awp_region (by kernel_rfl) ?_
            iterate 4 (refine aL_S rfl rfl v_ ?_)
            refine aL_nil ?_
            refine awp_ret ?_
            rw [hmi, show mgR l os l [] = ([], [], (mergeS y.obj x.obj).2) from by rw [← hr, drop_cons hx, mgR_err hfy hc12]]
            exact aEnd_retW (v := .tup [.sl 3 [] false, .sl 3 [] false, vInt (mergeS y.obj x.obj).2]) (v' := .tup [vNil, vNil, vInt (mergeS y.obj x.obj).2]) va_ wkNil3 sub_ ⟨rfl, rfl⟩
          · replace hc12 := nm_ hc12
            refine awp_skip ?_
            refine awp_seq ?_
            refine awp_seq ?_
            have R := hy
            refine awp_draw (.op 0 0 (.op 1 0 (.op 2 0 (.op 3 0 (.op 4 0 (.op 5 0 (.op 6 2 .nil))))))) Tryz.mixed (by kernel_rfl) ?_
            iterate 6 (refine dR_S o_ (by rfl) (by rfl) v_ ?_)
            refine dR_T o_ (by rfl) (by rfl) (AOp_use (by rfl) (by rfl) (.inr ⟨by rfl, by rfl, by rfl⟩) g_ va_ (same07_f sm sy.obj) ?_); rintro _ _ ⟨rfl, rfl⟩
            refine dR_nil ?_
            refine awp_cond v_ (fun hc14 => ?_) (fun hc14 => ?_)
            · replace hc14 := nm_ hc14
              refine awp_exit ?_
              refine aThen_exit ?_
              refine aThen_exit ?_
              refine aBlock_hit ?_
              refine awp_region (by kernel_rfl) ?_
              iterate 3 (refine aL_S rfl rfl v_ ?_)
              refine aL_nil ?_
              refine aNext (ι := Nat × Nat × List Itm × List Itm) (i := ⟨tk, i, out, ch⟩) (tk, i + 1, out, ch) ?_ ?_ ?_ ?_
              · show os.length - (i + 1) < os.length - i; omega
              · exact ⟨by show i + 1 ≤ os.length; omega, htk, by rw [← hr, drop_cons hx, mgR_same hfy hc12 (by simpa using hc14)], by show out.length ≤ l.length + (i + 1); omega, by show ch.length ≤ i + 1; omega⟩
              · exact cv_
              · exact sub_
            · replace hc14 := nm_ hc14
              refine awp_skip ?_
              refine awp_region (by kernel_rfl) ?_
              iterate 2 (refine aL_S rfl rfl v_ ?_)
              refine aL_store rfl rfl rfl v_ v_ h_ g_ rfl g_ c_ (by rfl) le_ v_ ?_
              refine aL_nil ?_
              skip
              obtain ⟨z, hz⟩ : ∃ z : Itm, z = ⟨x.place, (mergeS y.obj x.obj).1⟩ := ⟨_, rfl⟩
              refine awp_gen fun S hS => ?_
              have f10 : S.heap o10 = some (.cells (sItem z).cells) := by rw [hS, hz]; exact Store.set_get ..
              have td : S.tok tk = some pItm := by rw [hS]; simp only [Store.set_tok]; exact Store.newTok_get ..
              have sk : ∀ k, S.tok k = none → σ.tok k = none := fun k hk => by rw [hS] at hk; exact (newTok_none hk).2
              refine awp_seq ?_
              have R := f10
              refine awp_region (by kernel_rfl) ?_
              iterate 2 (refine aL_S rfl rfl v_ ?_)
              refine aL_X rfl rfl (AOp_use rfl rfl (.inr ⟨rfl, rfl, rfl⟩) g_ va_ (rWith_c (x := z) (by omega)) ?_); rintro _ _ ⟨rfl, rfl⟩
              (refine aL_S rfl rfl v_ ?_)
              refine aL_nil ?_
              have R := And.intro f10 td
              refine awp_region (by kernel_rfl) ?_
              iterate 2 (refine aL_S rfl rfl v_ ?_)
              refine aL_buildSlice rfl rfl rfl g_ g_ rfl rfl h_ c2_ (by decide) ?_
              refine aL_append rfl rfl rfl g_ g_ v_ h_ v_ c_ (by simp; omega) fun k68 hk68 => ?_
              have s68 := sk _ hk68
              (refine aL_S rfl rfl v_ ?_)
              refine aL_nil ?_
              refine awp_region (by kernel_rfl) ?_
              iterate 3 (refine aL_S rfl rfl v_ ?_)
              refine aL_nil ?_
              refine aNext (ι := Nat × Nat × List Itm × List Itm) (i := ⟨tk, i, out, ch⟩) (k68, i + 1, withS z out, ch ++ [z]) ?_ ?_ ?_ ?_
              · show os.length - (i + 1) < os.length - i; omega
              · exact ⟨by show i + 1 ≤ os.length; omega, s68, by rw [← hr, drop_cons hx, hz, mgR_put hfy hc12 (by simpa using hc14)], by have := withS_len z out; show (withS z out).length ≤ l.length + (i + 1); omega, by show (ch ++ [z]).length ≤ i + 1; simp; omega⟩
              · exact cv_
              · (try dsimp only); rw [hS]; exact sub_
      · replace hc10 := nm_ hc10
        skip
        have hfn : l.find? (fun y => decide (y.place = x.place)) = none := by
          rcases hfr with ⟨_, h⟩ | ⟨k, _, h, _⟩
          · exact h
          · omega
        obtain ⟨z, hz⟩ : ∃ z : Itm, z = x := ⟨_, rfl⟩
        refine awp_gen fun S hS => ?_
        have f10 : S.heap o10 = some (.cells (sItem z).cells) := by rw [hS, hz]; exact Store.set_get ..
        have td : S.tok tk = some pItm := by rw [hS]; simp only [Store.set_tok]; exact Store.newTok_get ..
        have sk : ∀ k, S.tok k = none → σ.tok k = none := fun k hk => by rw [hS] at hk; exact (newTok_none hk).2
        refine awp_skip ?_
        refine awp_seq ?_
        have R := f10
        refine awp_region (by kernel_rfl) ?_
        iterate 2 (refine aL_S rfl rfl v_ ?_)
        refine aL_X rfl rfl (AOp_use rfl rfl (.inr ⟨rfl, rfl, rfl⟩) g_ va_ (rWith_c (x := z) (by omega)) ?_); rintro _ _ ⟨rfl, rfl⟩
        (refine aL_S rfl rfl v_ ?_)
        refine aL_nil ?_
        have R := And.intro f10 td
        refine awp_region (by kernel_rfl) ?_
        iterate 2 (refine aL_S rfl rfl v_ ?_)
        refine aL_buildSlice rfl rfl rfl g_ g_ rfl rfl h_ c2_ (by decide) ?_
        refine aL_append rfl rfl rfl g_ g_ v_ h_ v_ c_ (by simp; omega) fun k68 hk68 => ?_
        have s68 := sk _ hk68
        (refine aL_S rfl rfl v_ ?_)
        refine aL_nil ?_
        refine awp_region (by kernel_rfl) ?_
        iterate 3 (refine aL_S rfl rfl v_ ?_)
        refine aL_nil ?_
        refine aNext (ι := Nat × Nat × List Itm × List Itm) (i := ⟨tk, i, out, ch⟩) (k68, i + 1, withS z out, ch ++ [z]) ?_ ?_ ?_ ?_
        · show os.length - (i + 1) < os.length - i; omega
        · exact ⟨by show i + 1 ≤ os.length; omega, s68, by rw [← hr, drop_cons hx, hz, mgR_none hfn], by have := withS_len z out; show (withS z out).length ≤ l.length + (i + 1); omega, by show (ch ++ [z]).length ≤ i + 1; simp; omega⟩
        · exact cv_
        · (try dsimp only); rw [hS]; exact sub_
    · replace hc6 := nm_ hc6
      refine awp_exit ?_
      refine aThen_exit ?_
      refine aThen_exit ?_
      refine aBlock_hit ?_
      refine awp_seq ?_
      refine awp_region (by kernel_rfl) ?_
      iterate 5 (refine aL_S rfl rfl v_ ?_)
      refine aL_nil ?_
      refine awp_ret ?_
      rw [hmi, ← hr, List.drop_eq_nil_of_le (by omega), mgR]
      exact aEnd_retW (v := .tup [.sl 3 (out.map sItem) false, .sl 3 (ch.map sItem) false, vInt 0]) (v' := .tup [.sl 3 (out.map sItem) false, .own tk 3 (ch.map sItem), vInt 0]) va_ (.tup _ _ rfl (fun i hi hi' => by match i, hi with | 0, _ => exact .refl _ | 1, _ => exact .own1 _ _ _ | 2, _ => exact .refl _)) sub_ ⟨rfl, rfl⟩
end Go.Proofs.YtdgnelnipnjhjaaGreat
end

section
set_option linter.all false
set_option maxRecDepth 100000
namespace Go.Proofs.YtdgnelnipnjhjaaGreat
open Go.Ab
theorem fewIt_sm {l : List Itm} (h : fewIt l = true) : l.length ≤ 8 ∧ (∀ x ∈ l, ItemSm x) ∧ ∀ x ∈ l, FewO x.obj := by
  simp only [fewIt, Bool.and_eq_true, decide_eq_true_eq, List.all_eq_true] at h
  have h2 : ∀ x ∈ l, FewO x.obj := fun x hx => fewOb_iff.1 (h.2 x hx).2
  exact ⟨h.1, fun x hx => ⟨by have := (h.2 x hx).1; omega, (h2 x hx).sm⟩, h2⟩
theorem fewLf_len {l : List Leaf} (h : fewLf l = true) : l.length ≤ 20 := by
  simp only [fewLf, Bool.and_eq_true, decide_eq_true_eq] at h
  exact h.1
theorem FewO.merge_sm {a b : Obj'} (ha : FewO a) (hB : FewO b) : ObjSm (mergeS a b).1 := mergeS_sm (by have := ha.1.1; have := hB.1.1; omega) (by have := ha.2.1; have := hB.2.1; omega)
/-- what comes of merging is small -/
theorem mgG_sm {n : Nat} : ∀ (k : Nat) (l os : List Itm), l.length + os.length ≤ k → (∀ x ∈ l, ObjSm x.obj) → (∀ x ∈ os, ObjSm x.obj) → (∀ x ∈ l, ∀ y ∈ os, ObjSm (mergeS x.obj y.obj).1) → (∀ x ∈ (mgG l os).1, ObjSm x.obj) ∧ (∀ x ∈ (mgG l os).2.1, ObjSm x.obj) ∧ (mgG l os).1.length ≤ l.length + os.length ∧ (mgG l os).2.1.length ≤ l.length + os.length
  | k, [], os, _, _, h2, _ => by rw [mgG_nil]; exact ⟨h2, h2, by simp, by simp⟩
  | k, a :: l, [], _, h1, _, _ => by rw [mgG_nil2]; exact ⟨h1, fun x hx => (List.not_mem_nil hx).elim, by simp, by simp⟩
  | 0, a :: l, b :: os, hk, _, _, _ => by simp at hk
  | k + 1, a :: l, b :: os, hk, h1, h2, h3 => by
    have z : ∀ e : Int, (∀ x ∈ (([], [], e) : List Itm × List Itm × Int).1, ObjSm x.obj) ∧ (∀ x ∈ (([], [], e) : List Itm × List Itm × Int).2.1, ObjSm x.obj) ∧ (([], [], e) : List Itm × List Itm × Int).1.length ≤ (a :: l).length + (b :: os).length ∧ (([], [], e) : List Itm × List Itm × Int).2.1.length ≤ (a :: l).length + (b :: os).length := fun e => ⟨fun x hx => (List.not_mem_nil hx).elim, fun x hx => (List.not_mem_nil hx).elim, Nat.zero_le _, Nat.zero_le _⟩
    have i1 := mgG_sm (n := n) k l (b :: os) (by simp at hk ⊢; omega) (fun x hx => h1 x (.tail _ hx)) h2 fun x hx y hy => h3 x (.tail _ hx) y hy
    have i2 := mgG_sm (n := n) k (a :: l) os (by simp at hk ⊢; omega) h1 (fun x hx => h2 x (.tail _ hx)) fun x hx y hy => h3 x hx y (.tail _ hy)
    have i3 := mgG_sm (n := n) k l os (by simp at hk ⊢; omega) (fun x hx => h1 x (.tail _ hx)) (fun x hx => h2 x (.tail _ hx)) fun x hx y hy => h3 x (.tail _ hx) y (.tail _ hy)
    have cons : ∀ {x : Itm} {m : List Itm}, ObjSm x.obj → (∀ y ∈ m, ObjSm y.obj) → ∀ y ∈ x :: m, ObjSm y.obj := fun hx hm y hy => by
      rcases List.mem_cons.1 hy with rfl | hy
      · exact hx
      · exact hm y hy
    have sm := h3 a (.head _) b (.head _)
    rw [mgG]
    split
    · split
      · exact ⟨cons (h1 a (.head _)) i1.1, i1.2.1, by have := i1.2.2.1; simp at this ⊢; omega, by have := i1.2.2.2; simp at this ⊢; omega⟩
      · exact z _
    · split
      · split
        · exact ⟨cons (h2 b (.head _)) i2.1, cons (h2 b (.head _)) i2.2.1, by have := i2.2.2.1; simp at this ⊢; omega, by have := i2.2.2.2; simp at this ⊢; omega⟩
        · exact z _
      · split
        · exact z _
        · split
          · refine ⟨cons sm i3.1, ?_, by have := i3.2.2.1; simp at this ⊢; omega, ?_⟩
            · dsimp only
              split
              · exact i3.2.1
              · exact cons sm i3.2.1
            · have := i3.2.2.2
              dsimp only
              split <;> (simp at this ⊢; omega)
          · exact z _
theorem mergeI_sm {l os : List Itm} (h1 : ∀ x ∈ l, ObjSm x.obj) (h2 : ∀ x ∈ os, ObjSm x.obj) (h3 : ∀ x ∈ l, ∀ y ∈ os, ObjSm (mergeS x.obj y.obj).1) : (∀ x ∈ (mergeI l os).1, ObjSm x.obj) ∧ (∀ x ∈ (mergeI l os).2.1, ObjSm x.obj) ∧ (mergeI l os).1.length ≤ l.length + os.length ∧ (mergeI l os).2.1.length ≤ l.length + os.length := by
  unfold mergeI
  split
  · exact mgG_sm (n := 0) _ l os (Nat.le_refl _) h1 h2 h3
  · exact ⟨fun x hx => (List.not_mem_nil hx).elim, fun x hx => (List.not_mem_nil hx).elim, Nat.zero_le _, Nat.zero_le _⟩
end Go.Proofs.YtdgnelnipnjhjaaGreat
end

section
set_option linter.all false
set_option maxRecDepth 100000
namespace Go.Ab
abbrev shInts : Sh := .sl false (.int .i64)
abbrev shDot : Sh := .pair .str (.pair (.int .i64) .unit)
abbrev shSeen : Sh := .pair .str (.pair (.int .i64) (.pair shInts .unit))
abbrev shSib : Sh := .pair shDot (.pair .str (.pair .bool (.pair (.int .i64) .unit)))
abbrev shCtx : Sh := .sl true shSeen
abbrev shObj : Sh := .pair shCtx (.pair (.sl true shSib) .unit)
theorem rd_ints {c : List AVal} (h : shInts.ok c) : ∃ l : List Int, c = [.sl 1 (l.map vInt) false] := by
  obtain ⟨l, rfl, _, hl⟩ := h
  obtain ⟨zs, rfl⟩ := lits_of hl
  exact ⟨zs, rfl⟩
theorem rd_seen {c : List AVal} (h : shSeen.ok c) : ∃ x : Seen, .agg c = sSeen x := by
  obtain ⟨_, _, rfl, ⟨s, rfl, _⟩, _, _, rfl, ⟨n, rfl, _⟩, _, _, rfl, h3, rfl⟩ := h
  obtain ⟨l, rfl⟩ := rd_ints h3
  exact ⟨⟨s, n, l⟩, rfl⟩
theorem rd_sib {c : List AVal} (h : shSib.ok c) : ∃ x : Sib, .agg c = sSib x := by
  obtain ⟨_, _, rfl, ⟨_, _, rfl, ⟨s, rfl, _⟩, _, _, rfl, ⟨n, rfl, _⟩, rfl⟩, _, _, rfl, ⟨v, rfl, _⟩, _, _, rfl, ⟨g, rfl⟩, _, _, rfl, ⟨t, rfl, _⟩, rfl⟩ := h
  exact ⟨⟨s, n, v, g, t⟩, rfl⟩
theorem rd_sl {α : Type} (f : α → AVal) {e : Sh} (he : ∀ c, e.ok c → ∃ a, .agg c = f a) {c : List AVal} (h : (Sh.sl true e).ok c) : ∃ zs : List α, c = [.sl e.size (zs.map f) false] := by
  obtain ⟨l, rfl, _, hl⟩ := h
  obtain ⟨zs, rfl⟩ := list_of f (l := l) fun x hx => by
    obtain ⟨c, hc, e⟩ := hl x hx
    simp only [if_true] at e
    rw [e]; exact he c hc
  exact ⟨zs, rfl⟩
theorem rd_ctx {c : List AVal} (h : shCtx.ok c) : ∃ l : List Seen, c = [.sl 3 (l.map sSeen) false] := rd_sl sSeen (fun c hc => rd_seen hc) h
theorem rd_obj {c : List AVal} (h : shObj.ok c) : ∃ x : Obj', .agg c = sObj x := by
  obtain ⟨_, _, rfl, h1, _, _, rfl, h2, rfl⟩ := h
  obtain ⟨l, rfl⟩ := rd_ctx h1
  obtain ⟨m, rfl⟩ := rd_sl sSib (fun c hc => rd_sib hc) h2
  exact ⟨⟨l, m⟩, rfl⟩
theorem rv_obj {a : AVal} (h : Sh.okv shObj true a) : ∃ x : Obj', a = sObj x := by
  obtain ⟨c, hc, e⟩ := h
  obtain ⟨x, hx⟩ := rd_obj hc
  simp only [if_true] at e
  exact ⟨x, by rw [e, hx]⟩
theorem rv_ctx {a : AVal} (h : Sh.okv shCtx false a) : ∃ l : List Seen, a = .sl 3 (l.map sSeen) false := by
  obtain ⟨c, hc, e⟩ := h
  obtain ⟨l, rfl⟩ := rd_ctx hc
  simp only [Bool.false_eq_true, if_false, List.cons.injEq, and_true] at e
  exact ⟨l, e.symm⟩
theorem rv_str {a : AVal} (h : Sh.okv .str false a) : ∃ s : ByteArray, a = vStr s := by
  obtain ⟨c, ⟨s, rfl, _⟩, e⟩ := h
  simp only [Bool.false_eq_true, if_false, List.cons.injEq, and_true] at e
  exact ⟨s, e.symm⟩
theorem rv_sib {a : AVal} (h : Sh.okv shSib true a) : ∃ x : Sib, a = sSib x := by
  obtain ⟨c, hc, e⟩ := h
  obtain ⟨x, hx⟩ := rd_sib hc
  simp only [if_true] at e
  exact ⟨x, by rw [e, hx]⟩
end Go.Ab
end

section
set_option linter.all false
set_option maxRecDepth 100000
namespace Go.Ab
abbrev shLeaf : Sh := .pair .str (.pair .str .unit)
abbrev shItm : Sh := .pair .str (.pair shObj .unit)
abbrev shEnt : Sh := .pair .str (.pair (.pair (.int .i64) (.pair .str (.pair .str .unit))) .unit)
abbrev shMsg : Sh := .pair (.int .i64) (.pair .str (.pair .str (.pair (.int .i64) (.pair (.int .i64) (.pair .str (.pair shObj (.pair (.sl false .str) (.pair (.sl true shLeaf) (.pair (.sl true shItm) (.pair (.sl true shEnt) .unit))))))))))
theorem rd_texts {c : List AVal} (h : (Sh.sl false .str).ok c) : ∃ l : List ByteArray, c = [.sl 1 (l.map vStr) false] := by
  obtain ⟨l, rfl, _, hl⟩ := h
  obtain ⟨zs, rfl⟩ := list_of vStr (l := l) fun x hx => by
    obtain ⟨c, ⟨s, rfl, _⟩, e⟩ := hl x hx
    simp only [Bool.false_eq_true, if_false, List.cons.injEq, and_true] at e
    exact ⟨s, e.symm⟩
  exact ⟨zs, rfl⟩
theorem rd_leaf {c : List AVal} (h : shLeaf.ok c) : ∃ x : Leaf, .agg c = sLeaf x := by
  obtain ⟨_, _, rfl, ⟨s, rfl, _⟩, _, _, rfl, ⟨t, rfl, _⟩, rfl⟩ := h
  exact ⟨⟨s, t⟩, rfl⟩
theorem rd_objC {c : List AVal} (h : shObj.ok c) : ∃ x : Obj', c = [.sl 3 (x.ctx.map sSeen) false, .sl 5 (x.sibs.map sSib) false] := by
  obtain ⟨x, hx⟩ := rd_obj h
  exact ⟨x, AVal.agg.inj hx⟩
theorem rd_itm {c : List AVal} (h : shItm.ok c) : ∃ x : Itm, .agg c = sItem x := by
  obtain ⟨_, _, rfl, ⟨s, rfl, _⟩, _, _, rfl, h2, rfl⟩ := h
  obtain ⟨o, rfl⟩ := rd_objC h2
  exact ⟨⟨s, o⟩, rfl⟩
theorem rd_ent {c : List AVal} (h : shEnt.ok c) : ∃ x : Ent, .agg c = sEnt x := by
  obtain ⟨_, _, rfl, ⟨s, rfl, _⟩, _, _, rfl, ⟨_, _, rfl, ⟨n, rfl, _⟩, _, _, rfl, ⟨t, rfl, _⟩, _, _, rfl, ⟨v, rfl, _⟩, rfl⟩, rfl⟩ := h
  exact ⟨⟨s, n, t, v⟩, rfl⟩
def MsgI (m : Msg) : Prop := m.num ≤ 9223372036854775807
theorem wf_i64 {n : Int} (h : (Lit.int .i64 n).wf = true) : n ≤ 9223372036854775807 := by
  simp only [Lit.wf, Bool.and_eq_true, decide_eq_true_eq] at h
  exact Int.le_trans h.2 (by decide)
theorem wf_u16 {n : Int} (h : (Lit.int .u16 n).wf = true) : 0 ≤ n ∧ n ≤ 65535 := by
  simp only [Lit.wf, Bool.and_eq_true, decide_eq_true_eq] at h
  exact ⟨Int.le_trans (by decide) h.1, Int.le_trans h.2 (by decide)⟩
theorem rv_u16 {a : AVal} (h : Sh.okv (.int .u16) false a) : ∃ n : Int, a = .lit (.int .u16 n) ∧ 0 ≤ n ∧ n ≤ 65535 := by
  obtain ⟨c, ⟨n, rfl, hn⟩, e⟩ := h
  simp only [Bool.false_eq_true, if_false, List.cons.injEq, and_true] at e
  exact ⟨n, e.symm, wf_u16 hn⟩
theorem rd_msg {c : List AVal} (h : shMsg.ok c) : ∃ m : Msg, .agg c = sMsg m ∧ MsgI m := by
  obtain ⟨_, _, rfl, ⟨k, rfl, hk⟩, _, _, rfl, ⟨f, rfl, _⟩, _, _, rfl, ⟨t, rfl, _⟩, _, _, rfl, ⟨n, rfl, hn⟩, _, _, rfl, ⟨e, rfl, he⟩, _, _, rfl, ⟨p, rfl, _⟩, _, _, rfl, ho, _, _, rfl, ht, _, _, rfl, hl, _, _, rfl, hi, _, _, rfl, hE, rfl⟩ := h
  obtain ⟨o, rfl⟩ := rd_objC ho
  obtain ⟨ts, rfl⟩ := rd_texts ht
  obtain ⟨ls, rfl⟩ := rd_sl sLeaf (fun c hc => rd_leaf hc) hl
  obtain ⟨is, rfl⟩ := rd_sl sItem (fun c hc => rd_itm hc) hi
  obtain ⟨es, rfl⟩ := rd_sl sEnt (fun c hc => rd_ent hc) hE
  refine ⟨⟨k, f, t, n, e, p, o, ts, ls, is, es⟩, rfl, ?_⟩
  exact wf_i64 hn
theorem rv_msg {a : AVal} (h : Sh.okv shMsg true a) : ∃ m : Msg, a = sMsg m ∧ MsgI m := by
  obtain ⟨c, hc, e⟩ := h
  obtain ⟨x, hx, hI⟩ := rd_msg hc
  simp only [if_true] at e
  exact ⟨x, by rw [e, hx], hI⟩
theorem rv_leaves {a : AVal} (h : Sh.okv (.sl true shLeaf) false a) : ∃ l : List Leaf, a = .sl 2 (l.map sLeaf) false := by
  obtain ⟨c, hc, e⟩ := h
  obtain ⟨l, rfl⟩ := rd_sl sLeaf (fun c hc => rd_leaf hc) hc
  simp only [Bool.false_eq_true, if_false, List.cons.injEq, and_true] at e
  exact ⟨l, e.symm⟩
theorem rv_items {a : AVal} (h : Sh.okv (.sl true shItm) false a) : ∃ l : List Itm, a = .sl 3 (l.map sItem) false := by
  obtain ⟨c, hc, e⟩ := h
  obtain ⟨l, rfl⟩ := rd_sl sItem (fun c hc => rd_itm hc) hc
  simp only [Bool.false_eq_true, if_false, List.cons.injEq, and_true] at e
  exact ⟨l, e.symm⟩
end Go.Ab
end

section
set_option linter.all false
set_option maxRecDepth 100000
namespace Go.Proofs.YtdgnelnipnjhjaaGreat
open Go.Ab
abbrev fLive : AVal := .lit (.func (.func 133) #[] #[])
theorem live1_c {x : Sib} {σ : Store} : ACalls Tryz.prog 133 [sSib x] σ fun v σ' => v = vB x.gone ∧ σ = σ' := by
  refine ACalls_of Tryz.func133 rfl Tryz.ntmps133 (congrArg Array.toList Tryz.results133) (by simp only [List.length_cons, List.length_nil]; decide) ?_; simp only [envOf_cons, envOf_nil, Nat.reduceAdd]
  refine awp_seq ?_
  refine awp_region (by kernel_rfl) ?_
  refine aL_box rfl rfl rfl v_ rfl g_ fun o1 ho1 => ?_
  repeat (rw [none_set_iff] at ho1; obtain ⟨_, ho1⟩ := ho1)
  (refine aL_S rfl rfl v_ ?_)
  refine aL_nil ?_
  refine awp_seq ?_
  refine awp_region (by kernel_rfl) ?_
  iterate 3 (refine aL_S rfl rfl v_ ?_)
  refine aL_nil ?_
  refine awp_ret ?_
  refine aEnd_ret (σ' := σ) v_ sub_ ?_
  exact ⟨rfl, rfl⟩
theorem idx0L_c {σ : Store} : ACalls Tryz.prog 183 [.sl 5 [] false, fLive] σ fun v σ' => v = vInt (-1) ∧ σ = σ' := by
  refine ACalls_of Tryz.func183 rfl Tryz.ntmps183 (congrArg Array.toList Tryz.results183) (by simp only [List.length_cons, List.length_nil]; decide) ?_; simp only [envOf_cons, envOf_nil, Nat.reduceAdd]
  refine awp_seq ?_
  refine awp_region (by kernel_rfl) ?_
  (refine aL_S rfl rfl v_ ?_)
  refine aL_nil ?_
  refine awp_seq ?_
  refine awp_seq ?_
  refine awp_region (by kernel_rfl) ?_
  iterate 3 (refine aL_S rfl rfl v_ ?_)
  refine aL_nil ?_
  refine awp_block ?_
  refine awp_loop_env (ι := Nat) (fun k => 0) (fun k => k = 0) (fun k => [(0, .sl 5 [] false), (1, fLive), (7, vInt 0), (8, vInt k)]) (fun k => σ) 0 ?_ ?_ ?_ ?_
  · rfl
  · exact cv_
  · exact sub_
  rintro k hk
  simp only [envL_cons, envL_nil]
  refine awp_seq ?_
  refine awp_region (by kernel_rfl) ?_
  (refine aL_S rfl rfl v_ ?_)
  refine aL_nil ?_
  refine awp_seq ?_
  refine awp_cond v_ (fun hc2 => ?_) (fun hc2 => ?_)
  · replace hc2 := nm_ hc2
    omega
  · replace hc2 := nm_ hc2
    refine awp_exit ?_
    refine aThen_exit ?_
    refine aThen_exit ?_
    refine aBlock_hit ?_
    refine awp_seq ?_
    refine awp_region (by kernel_rfl) ?_
    (refine aL_S rfl rfl v_ ?_)
    refine aL_nil ?_
    refine awp_ret ?_
    refine aEnd_ret (σ' := σ) v_ sub_ ?_
    exact ⟨rfl, rfl⟩
theorem idxML_c {o : Nat} {L : List Sib} {σ : Store} (ho : σ.heap o = some (.cells (flat (L.map sSib)))) (hl : L.length ≤ 1000000) : ACalls Tryz.prog 183 [.msl o 5 0 L.length, fLive] σ fun v σ' => (∃ r : Int, v = vInt r ∧ (r = -1 → L.filter live = L) ∧ (r ≠ -1 → ∃ j : Nat, r = j ∧ j < L.length ∧ (L.take (j + 1)).filter live = L.take j)) ∧ σ = σ' := by
  have hfl := flat_sib_len L
  refine ACalls_of Tryz.func183 rfl Tryz.ntmps183 (congrArg Array.toList Tryz.results183) (by simp only [List.length_cons, List.length_nil]; decide) ?_; simp only [envOf_cons, envOf_nil, Nat.reduceAdd]
  refine awp_seq ?_
  refine awp_region (by kernel_rfl) ?_
  (refine aL_S rfl rfl v_ ?_)
  refine aL_nil ?_
  refine awp_seq ?_
  refine awp_seq ?_
  refine awp_region (by kernel_rfl) ?_
  iterate 3 (refine aL_S rfl rfl v_ ?_)
  refine aL_nil ?_
  refine awp_block ?_
  refine awp_loop_env (ι := Nat) (fun k => L.length - k) (fun k => k ≤ L.length ∧ (L.take k).filter live = L.take k) (fun k => [(0, .msl o 5 0 L.length), (1, fLive), (7, vInt L.length), (8, vInt k)]) (fun k => σ) 0 ?_ ?_ ?_ ?_
  · exact ⟨Nat.zero_le _, rfl⟩
  · exact cv_
  · exact sub_
  rintro k ⟨hk, hf⟩
  simp only [envL_cons, envL_nil]
  refine awp_seq ?_
  refine awp_region (by kernel_rfl) ?_
  (refine aL_S rfl rfl v_ ?_)
  refine aL_nil ?_
  refine awp_seq ?_
  refine awp_cond v_ (fun hc2 => ?_) (fun hc2 => ?_)
  · replace hc2 := nm_ hc2
    refine awp_skip ?_
    refine awp_seq ?_
    refine awp_block ?_
    refine awp_seq ?_
    refine awp_region (by kernel_rfl) ?_
    iterate 2 (refine aL_S rfl rfl v_ ?_)
    refine aL_nil ?_
    refine awp_seq ?_
    obtain ⟨x, hx⟩ := get_some (l := L) (k := k) (by omega)
    have px := flat_part hx
    have R := And.intro px (And.intro ho hfl)
    refine awp_region (by kernel_rfl) ?_
    iterate 5 (refine aL_S rfl rfl v_ ?_)
    refine aL_X rfl rfl (AOp_use rfl rfl (.inr ⟨va_, rfl, rfl⟩) g_ va_ (live1_c) ?_); rintro _ _ ⟨rfl, rfl⟩
    refine aL_nil ?_
    refine awp_cond v_ (fun hc4 => ?_) (fun hc4 => ?_)
    · replace hc4 := nm_ hc4
      refine awp_seq ?_
      refine awp_region (by kernel_rfl) ?_
      iterate 2 (refine aL_S rfl rfl v_ ?_)
      refine aL_nil ?_
      refine awp_ret ?_
      refine aEnd_ret (σ' := σ) v_ sub_ ?_
      exact ⟨⟨k, rfl, fun h => by omega, fun _ => ⟨k, rfl, by omega, by rw [take_snoc hx, List.filter_append, hf]; simp [live, hc4]⟩⟩, rfl⟩
    · replace hc4 := nm_ hc4
      refine awp_skip ?_
      refine awp_region (by kernel_rfl) ?_
      iterate 2 (refine aL_S rfl rfl v_ ?_)
      refine aL_nil ?_
      refine aNext (ι := Nat) (i := k) (k + 1) ?_ ?_ ?_ ?_
      · omega
      · exact ⟨by omega, by rw [take_snoc hx, List.filter_append, hf]; simp [live, hc4]⟩
      · exact cv_
      · exact sub_
  · replace hc2 := nm_ hc2
    refine awp_exit ?_
    refine aThen_exit ?_
    refine aThen_exit ?_
    refine aBlock_hit ?_
    refine awp_seq ?_
    refine awp_region (by kernel_rfl) ?_
    (refine aL_S rfl rfl v_ ?_)
    refine aL_nil ?_
    refine awp_ret ?_
    refine aEnd_ret (σ' := σ) v_ sub_ ?_
    exact ⟨⟨-1, rfl, fun _ => by rwa [List.take_of_length_le (by omega)] at hf, fun h => absurd rfl h⟩, rfl⟩
theorem delete0L_c {σ : Store} : ACalls Tryz.prog 131 [.sl 5 [] false, fLive] σ fun v σ' => v = .sl 5 [] false ∧ σ = σ' := by
  refine ACalls_of Tryz.func131 rfl Tryz.ntmps131 (congrArg Array.toList Tryz.results131) (by simp only [List.length_cons, List.length_nil]; decide) ?_; simp only [envOf_cons, envOf_nil, Nat.reduceAdd]
  refine awp_seq ?_
  refine awp_region (by kernel_rfl) ?_
  (refine aL_S rfl rfl v_ ?_)
  refine aL_nil ?_
  refine awp_seq ?_
  refine awp_region (by kernel_rfl) ?_
  iterate 2 (refine aL_S rfl rfl v_ ?_)
  refine aL_X rfl rfl (AOp_use rfl rfl (.inr ⟨rfl, rfl, rfl⟩) g_ va_ (idx0L_c) ?_); rintro _ _ ⟨rfl, rfl⟩
  (refine aL_S rfl rfl v_ ?_)
  refine aL_nil ?_
  refine awp_seq ?_
  refine awp_seq ?_
  refine awp_region (by kernel_rfl) ?_
  iterate 2 (refine aL_S rfl rfl v_ ?_)
  refine aL_nil ?_
  refine awp_cond v_ (fun hc2 => ?_) (fun hc2 => ?_)
  · replace hc2 := nm_ hc2
    refine awp_seq ?_
    refine awp_region (by kernel_rfl) ?_
    iterate 2 (refine aL_S rfl rfl v_ ?_)
    refine aL_nil ?_
    refine awp_ret ?_
    refine aEnd_ret (σ' := σ) v_ sub_ ?_
    exact ⟨rfl, rfl⟩
  · replace hc2 := nm_ hc2
    first | omega | (simp at hc2; done) | cases hc2
set_option maxHeartbeats 2000000 in
theorem deleteML_c {o : Nat} {L : List Sib} {σ : Store} (ho : σ.heap o = some (.cells (flat (L.map sSib)))) (hl : L.length ≤ 1000000) :
    ACalls Tryz.prog 131 [.msl o 5 0 L.length, fLive] σ fun v σ' => ∃ zs : List AVal, v = .msl o 5 0 (L.filter live).length ∧ σ' = σ.set o (.cells (flat ((L.filter live).map sSib) ++ zs)) := by
  have hfl := flat_sib_len L
  refine ACalls_of Tryz.func131 rfl Tryz.ntmps131 (congrArg Array.toList Tryz.results131) (by simp only [List.length_cons, List.length_nil]; decide) ?_; simp only [envOf_cons, envOf_nil, Nat.reduceAdd]
  refine awp_seq ?_
  refine awp_region (by kernel_rfl) ?_
  (refine aL_S rfl rfl v_ ?_)
  refine aL_nil ?_
  refine awp_seq ?_
  refine awp_region (by kernel_rfl) ?_
  iterate 2 (refine aL_S rfl rfl v_ ?_)
  refine aL_X rfl rfl (AOp_use rfl rfl (.inr ⟨rfl, rfl, rfl⟩) g_ va_ (idxML_c ho hl) ?_); rintro _ _ ⟨⟨r, rfl, h1, h2⟩, rfl⟩
  (refine aL_S rfl rfl v_ ?_)
  refine aL_nil ?_
  refine awp_seq ?_
  refine awp_seq ?_
  refine awp_region (by kernel_rfl) ?_
  iterate 2 (refine aL_S rfl rfl v_ ?_)
  refine aL_nil ?_
  refine awp_cond v_ (fun hc2 => ?_) (fun hc2 => ?_)
  · replace hc2 := nm_ hc2
    refine awp_seq ?_
    refine awp_region (by kernel_rfl) ?_
    iterate 2 (refine aL_S rfl rfl v_ ?_)
    refine aL_nil ?_
    refine awp_ret ?_
    refine aEnd_ret v_ (Store.Wk.refl _) ?_
    exact ⟨[], by rw [h1 hc2], by rw [h1 hc2, List.append_nil, Store.set_same ho]⟩
  · replace hc2 := nm_ hc2
    obtain ⟨j0, rfl, hj0, hf0⟩ := h2 hc2
    have hI0 : DlI L (j0 + 1) j0 L := ⟨rfl, hf0.symm, by rw [hf0, List.length_take]; omega, by omega, by omega, rfl⟩
    refine awp_skip ?_
    refine awp_seq ?_
    refine awp_seq ?_
    refine awp_region (by kernel_rfl) ?_
    iterate 3 (refine aL_S rfl rfl v_ ?_)
    refine aL_nil ?_
    refine awp_block ?_
    refine awp_loop_env (ι := Nat × Nat × List Sib) (fun ⟨j, i, M⟩ => L.length - j) (fun ⟨j, i, M⟩ => DlI L j i M) (fun ⟨j, i, M⟩ => [(0, .msl o 5 0 L.length), (1, fLive), (5, vInt i), (6, vInt j)]) (fun ⟨j, i, M⟩ => (σ.set o (.cells (flat (M.map sSib))))) (j0 + 1, j0, L) ?_ ?_ ?_ ?_
    · exact hI0
    · exact cv_
    · (try dsimp only); rw [Store.set_same ho]; exact Store.Wk.refl _
    rintro ⟨j, i, M⟩ hI
    simp only [envL_cons, envL_nil]
    refine awp_seq ?_
    refine awp_seq ?_
    refine awp_region (by kernel_rfl) ?_
    iterate 4 (refine aL_S rfl rfl v_ ?_)
    refine aL_nil ?_
    refine awp_cond v_ (fun hc5 => ?_) (fun hc5 => ?_)
    · replace hc5 := nm_ hc5
      refine awp_skip ?_
      refine awp_seq ?_
      refine awp_block ?_
      refine awp_seq ?_
      have hjl : j < L.length := by omega
      obtain ⟨x, hx⟩ := get_some (l := L) (k := j) hjl
      have hMx : M[j]? = some x := by rw [drop_get hI.dr (Nat.le_refl _)]; exact hx
      have px := flat_part hMx
      have hflM := flat_sib_len M
      rw [hI.len] at hflM
      have hil := hI.lt
      have R := And.intro px hflM
      refine awp_region (by kernel_rfl) ?_
      iterate 4 (refine aL_S rfl rfl v_ ?_)
      refine aL_alloc rfl rfl rfl g_ gl_ fun o7 ho7 => ?_
      repeat (rw [none_set_iff] at ho7; obtain ⟨_, ho7⟩ := ho7)
      refine aL_store rfl rfl rfl v_ v_ h_ g_ rfl g_ c_ (by rfl) le_ v_ ?_
      refine aL_nil ?_
      refine awp_seq ?_
      refine awp_region (by kernel_rfl) ?_
      iterate 2 (refine aL_S rfl rfl v_ ?_)
      refine aL_X rfl rfl (AOp_use rfl rfl (.inr ⟨va_, rfl, rfl⟩) g_ va_ (live1_c) ?_); rintro _ _ ⟨rfl, rfl⟩
      (refine aL_S rfl rfl v_ ?_)
      refine aL_nil ?_
      refine awp_cond v_ (fun hc8 => ?_) (fun hc8 => ?_)
      · replace hc8 := nm_ hc8
        refine awp_seq ?_
        have R := hflM
        refine awp_region (by kernel_rfl) ?_
        iterate 4 (refine aL_S rfl rfl v_ ?_)
        refine aL_store rfl rfl rfl v_ v_ h_ g_ rfl g_ c_ (by rfl) (by rw [hflM]; omega) (aput_flat (by rw [hI.len]; omega)) ?_
        refine aL_nil ?_
        refine awp_region (by kernel_rfl) ?_
        iterate 3 (refine aL_S rfl rfl v_ ?_)
        refine aL_nil ?_
        refine awp_region (by kernel_rfl) ?_
        iterate 3 (refine aL_S rfl rfl v_ ?_)
        refine aL_nil ?_
        refine aNext (ι := Nat × Nat × List Sib) (i := ⟨j, i, M⟩) (j + 1, i + 1, M.set i x) ?_ ?_ ?_ ?_
        · show L.length - (j + 1) < L.length - j; omega
        · exact hI.put hx hc8
        · exact cv_
        · exact sub_
      · replace hc8 := nm_ hc8
        refine awp_skip ?_
        refine awp_region (by kernel_rfl) ?_
        iterate 3 (refine aL_S rfl rfl v_ ?_)
        refine aL_nil ?_
        refine aNext (ι := Nat × Nat × List Sib) (i := ⟨j, i, M⟩) (j + 1, i, M) ?_ ?_ ?_ ?_
        · show L.length - (j + 1) < L.length - j; omega
        · exact hI.skip hx hc8
        · exact cv_
        · exact sub_
    · replace hc5 := nm_ hc5
      refine awp_exit ?_
      refine aThen_exit ?_
      refine aThen_exit ?_
      refine aBlock_hit ?_
      refine awp_seq ?_
      have hil := hI.lt
      have hle := hI.le
      have hflM := flat_sib_len M
      rw [hI.len] at hflM
      have hcnt := hI.cnt
      have htk := hI.tk
      rw [show j = L.length by omega, List.take_length] at hcnt htk
      refine awp_region (by kernel_rfl) ?_
      iterate 3 (refine aL_S rfl rfl v_ ?_)
      refine aL_X0 rfl rfl (AOp_clear (sz := 5) rfl g_ g_ (by rfl) (by decide) va_ h_ (by rw [hflM]; omega) fun zs hz => ?_)
      refine aL_nil ?_
      refine awp_seq ?_
      refine awp_region (by kernel_rfl) ?_
      iterate 4 (refine aL_S rfl rfl v_ ?_)
      refine aL_nil ?_
      refine awp_ret ?_
      refine aEnd_ret v_ (Store.Wk.refl _) ?_
      exact ⟨zs ++ (flat (M.map sSib)).drop (i * 5 + zs.length), by rw [hcnt]; rfl, by rw [Store.set_set, take_flat, htk]⟩
theorem deleteCL {σ0 σ : Store} {L : List Sib} {a : AVal} (h : CBq σ0 σ L a) (hl : L.length ≤ 1000000) :
    ACalls Tryz.prog 131 [a, fLive] σ fun v σ' => v = .sl 5 ((L.filter live).map sSib) false ∧ σ0 = σ' := by
  rcases h with ⟨rfl, rfl, rfl⟩ | ⟨o, ho, rfl, rfl⟩
  · exact delete0L_c
  · refine (deleteML_c (Store.set_get ..) hl).after ?_
    rintro κ _ _ cv hI hr ⟨zs, rfl, rfl⟩
    obtain ⟨κ', h1, h2, h3, h4⟩ := Ab.freeze hI hr (Store.set_get ..) (l := (L.filter live).map sSib) (by rw [List.take_left' (by rw [flat_sib_len])]) (by simp) (szSib _)
    rw [Store.set_set, Store.set_del ho] at h3
    exact ⟨κ', _, _, h1, h2, h3, h4, rfl, rfl⟩
theorem live_c {L : List Sib} {t : Bool} {σ : Store} (hl : L.length ≤ 1000000) : ACalls Tryz.prog 88 [.sl 5 (L.map sSib) t] σ fun v σ' => v = .sl 5 ((L.filter live).map sSib) false ∧ σ = σ' := by
  refine ACalls_of Tryz.func88 rfl Tryz.ntmps88 (congrArg Array.toList Tryz.results88) (by simp only [List.length_cons, List.length_nil]; decide) ?_; simp only [envOf_cons, envOf_nil, Nat.reduceAdd]
  refine awp_seq ?_
  refine awp_region (by kernel_rfl) ?_
  (refine aL_S rfl rfl v_ ?_)
  refine aL_nil ?_
  refine awp_seq ?_
  refine awp_region (by kernel_rfl) ?_
  (refine aL_S rfl rfl v_ ?_)
  refine aL_X rfl rfl (AOp_use rfl rfl (.inr ⟨rfl, rfl, rfl⟩) g_ va_ (cloneC hl) ?_); rintro _ τ0 hC0
  refine aL_X rfl rfl (AOp_use rfl rfl (.inr ⟨rfl, rfl, rfl⟩) g_ va_ (deleteCL hC0 hl) ?_); rintro _ _ ⟨rfl, rfl⟩
  (refine aL_S rfl rfl v_ ?_)
  refine aL_nil ?_
  refine awp_ret ?_
  refine aEnd_ret (σ' := σ) v_ sub_ ?_
  exact ⟨rfl, rfl⟩
theorem rLive_c {L : List Sib} {t : Bool} {σ : Store} (hl : L.length ≤ 1000000) : ACalls Tryz.prog 90 [.sl 5 (L.map sSib) t] σ fun v σ' => v = .sl 5 ((L.filter live).map sSib) false ∧ σ = σ' := by
  refine ACalls_of Tryz.func90 rfl Tryz.ntmps90 (congrArg Array.toList Tryz.results90) (by simp only [List.length_cons, List.length_nil]; decide) ?_; simp only [envOf_cons, envOf_nil, Nat.reduceAdd]
  refine awp_seq ?_
  refine awp_region (by kernel_rfl) ?_
  (refine aL_S rfl rfl v_ ?_)
  refine aL_nil ?_
  refine awp_seq ?_
  refine awp_region (by kernel_rfl) ?_
  refine aL_nilOwn 97 5 rfl rfl rfl (by rfl) fun k3 hk3 => ?_
  refine aL_nil ?_
  refine awp_seq ?_
  refine awp_seq ?_
  refine awp_region (by kernel_rfl) ?_
  (refine aL_S rfl rfl v_ ?_)
  refine aL_nil ?_
  refine awp_block ?_
  refine awp_loop_env (ι := Nat × Nat) (fun ⟨tk, k⟩ => L.length - k) (fun ⟨tk, k⟩ => k ≤ L.length ∧ σ.tok tk = none) (fun ⟨tk, k⟩ => [(0, .sl 5 (L.map sSib) t), (3, .own tk 5 (((L.take k).filter live).map sSib)), (4, vInt k)]) (fun ⟨tk, k⟩ => (σ.newTok none tk (97, 5))) (k3, 0) ?_ ?_ ?_ ?_
  · exact ⟨Nat.zero_le _, hk3⟩
  · exact cv_
  · exact Store.Wk.refl _
  rintro ⟨tk, k⟩ ⟨hk, htk⟩
  simp only [envL_cons, envL_nil]
  refine awp_seq ?_
  refine awp_seq ?_
  refine awp_region (by kernel_rfl) ?_
  iterate 4 (refine aL_S rfl rfl v_ ?_)
  refine aL_nil ?_
  refine awp_cond v_ (fun hc3 => ?_) (fun hc3 => ?_)
  · replace hc3 := nm_ hc3
    refine awp_skip ?_
    refine awp_seq ?_
    refine awp_block ?_
    refine awp_seq ?_
    obtain ⟨x, hx⟩ := get_some (l := L) (k := k) (by omega)
    have hlen : ((L.take k).filter live).length ≤ k := Nat.le_trans (List.length_filter_le ..) (by simp; omega)
    have R := hx
    refine awp_region (by kernel_rfl) ?_
    iterate 6 (refine aL_S rfl rfl v_ ?_)
    refine aL_nil ?_
    refine awp_cond v_ (fun hc5 => ?_) (fun hc5 => ?_)
    · replace hc5 := nm_ hc5
      have hcov : ((L.take (k + 1)).filter live).map sSib = ((L.take k).filter live).map sSib ++ [sSib x] := by rw [take_snoc hx, List.filter_append, List.map_append]; simp [live, hc5]
      have R := hx
      refine awp_region (by kernel_rfl) ?_
      iterate 5 (refine aL_S rfl rfl v_ ?_)
      refine aL_buildSlice rfl rfl rfl g_ g_ rfl rfl h_ c2_ (by decide) ?_
      refine aL_append rfl rfl rfl g_ g_ v_ h_ v_ c_ (by simp; omega) fun k23 hk23 => ?_
      (refine aL_S rfl rfl v_ ?_)
      refine aL_nil ?_
      refine awp_region (by kernel_rfl) ?_
      iterate 3 (refine aL_S rfl rfl v_ ?_)
      refine aL_nil ?_
      refine aNext (ι := Nat × Nat) (i := ⟨tk, k⟩) (k23, k + 1) ?_ ?_ ?_ ?_
      · show L.length - (k + 1) < L.length - k; omega
      · exact ⟨by show k + 1 ≤ L.length; omega, (newTok_none hk23).2⟩
      · have R := hcov; exact cv_
      · exact sub_
    · replace hc5 := nm_ hc5
      have hcov : ((L.take (k + 1)).filter live).map sSib = ((L.take k).filter live).map sSib := by rw [take_snoc hx, List.filter_append, List.map_append]; simp [live, hc5]
      refine awp_skip ?_
      refine awp_region (by kernel_rfl) ?_
      iterate 3 (refine aL_S rfl rfl v_ ?_)
      refine aL_nil ?_
      refine aNext (ι := Nat × Nat) (i := ⟨tk, k⟩) (tk, k + 1) ?_ ?_ ?_ ?_
      · show L.length - (k + 1) < L.length - k; omega
      · exact ⟨by show k + 1 ≤ L.length; omega, htk⟩
      · have R := hcov; exact cv_
      · exact sub_
  · replace hc3 := nm_ hc3
    refine awp_exit ?_
    refine aThen_exit ?_
    refine aThen_exit ?_
    refine aBlock_hit ?_
    refine awp_seq ?_
    obtain rfl : k = L.length := by omega
    rw [List.take_length]
    refine awp_region (by kernel_rfl) ?_
    iterate 2 (refine aL_S rfl rfl v_ ?_)
    refine aL_nil ?_
    refine awp_ret ?_
    exact aEnd_retW (v := .sl 5 ((L.filter live).map sSib) false) (v' := .own tk 5 ((L.filter live).map sSib)) va_ (.own1 _ _ _) sub_ ⟨rfl, rfl⟩
end Go.Proofs.YtdgnelnipnjhjaaGreat
end
