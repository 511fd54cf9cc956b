/-
  Counts sorted by their kinds and errors; Rows that grow while other objects come and go; How long answers took, and which lanes there are; How often each kind of call was answered by each error: the program counts in a map. Own work (an AI agent).
-/
import Derived.Test.YtbjloippgpilcaaGreatDoorGF
import Derived.Test.YtbjloippgpilcaaGreatDoorGG
import Derived.Test.YtbjloippgpilcaaGreatDoorGE
import Derived.Shelf.SlSortCmp.NoneTotal
import Derived.DeepKeys3

section
set_option linter.all false
set_option maxRecDepth 100000
namespace Go.Proofs
open Go.Shelf
def sortF_ren : Go.Shelf.Ren := ⟨(fun n => match n with | 6 => 27 | 14 => 41 | 15 => 42 | 20 => 49 | 21 => 50 | 22 => 51 | 23 => 52 | 24 => 53 | 25 => 54 | 26 => 55 | 27 => 56 | 28 => 57 | 29 => 58 | 46 => 79 | 47 => 80 | 48 => 81 | 49 => 82 | 50 => 83 | 57 => 93 | _ => 0), (fun n => match n with | 0 => 0 | 3 => 3 | 4 => 4 | 5 => 5 | 9 => 9 | 22 => 29 | 24 => 58 | 25 => 66 | 39 => 85 | 45 => 97 | 46 => 98 | 50 => 102 | 53 => 105 | 55 => 107 | 66 => 120 | 70 => 124 | 76 => 133 | 77 => 134 | _ => 0), (fun n => match n with  | _ => 0)⟩
theorem sortF : SlLaysF0.n6 Tryz.prog sortF_ren := {
  mixed := Tryz.mixed
  f6 := ⟨ "slices.SortFunc[[]pantler/api.Count,pantler/api.Count]", by decide, by kernel_rfl⟩
  f14 := ⟨ "slices.pdqsortCmpFunc[pantler/api.Count]", by decide, by kernel_rfl⟩
  f15 := by kernel_rfl
  f20 := ⟨ "slices.insertionSortCmpFunc[pantler/api.Count]", by decide, by kernel_rfl⟩
  f21 := ⟨ "slices.heapSortCmpFunc[pantler/api.Count]", by decide, by kernel_rfl⟩
  f22 := ⟨ "slices.breakPatternsCmpFunc[pantler/api.Count]", by decide, by kernel_rfl⟩
  f23 := ⟨ "slices.choosePivotCmpFunc[pantler/api.Count]", by decide, by kernel_rfl⟩
  f24 := ⟨ "slices.reverseRangeCmpFunc[pantler/api.Count]", by decide, by kernel_rfl⟩
  f25 := ⟨ "slices.partialInsertionSortCmpFunc[pantler/api.Count]", by decide, by kernel_rfl⟩
  f26 := ⟨ "slices.partitionEqualCmpFunc[pantler/api.Count]", by decide, by kernel_rfl⟩
  f27 := ⟨ "slices.partitionCmpFunc[pantler/api.Count]", by decide, by kernel_rfl⟩
  f28 := by kernel_rfl
  f29 := by kernel_rfl
  f46 := ⟨ "slices.siftDownCmpFunc[pantler/api.Count]", by decide, by kernel_rfl⟩
  f47 := by kernel_rfl
  f48 := by kernel_rfl
  f49 := ⟨ "slices.medianAdjacentCmpFunc[pantler/api.Count]", by decide, by kernel_rfl⟩
  f50 := ⟨ "slices.medianCmpFunc[pantler/api.Count]", by decide, by kernel_rfl⟩
  f57 := ⟨ "slices.order2CmpFunc[pantler/api.Count]", by decide, by kernel_rfl⟩
  t0 := Tryz.underlying0
  a0 := Tryz.isAgg0
  z0 := Tryz.sizeOf0
  v0 := Tryz.zeroValue0
  t3 := Tryz.underlying3
  a3 := Tryz.isAgg3
  z3 := Tryz.sizeOf3
  v3 := Tryz.zeroValue3
  t4 := Tryz.underlying4
  a4 := Tryz.isAgg4
  z4 := Tryz.sizeOf4
  v4 := Tryz.zeroValue4
  t5 := Tryz.underlying5
  a5 := Tryz.isAgg5
  z5 := Tryz.sizeOf5
  v5 := Tryz.zeroValue5
  t9 := Tryz.underlying9
  a9 := Tryz.isAgg9
  z9 := Tryz.sizeOf9
  v9 := Tryz.zeroValue9
  t22 := Tryz.underlying29
  a22 := Tryz.isAgg29
  z22 := Tryz.sizeOf29
  v22 := Tryz.zeroValue29
  t25 := Tryz.underlying66
  a25 := Tryz.isAgg66
  z25 := Tryz.sizeOf66
  v25 := Tryz.zeroValue66
  t39 := Tryz.underlying85
  a39 := Tryz.isAgg85
  z39 := Tryz.sizeOf85
  v39 := Tryz.zeroValue85
  t45 := Tryz.underlying97
  a45 := Tryz.isAgg97
  z45 := Tryz.sizeOf97
  v45 := Tryz.zeroValue97
  t46 := Tryz.underlying98
  a46 := Tryz.isAgg98
  z46 := Tryz.sizeOf98
  v46 := Tryz.zeroValue98
  t50 := Tryz.underlying102
  a50 := Tryz.isAgg102
  z50 := Tryz.sizeOf102
  v50 := Tryz.zeroValue102
  t53 := Tryz.underlying105
  a53 := Tryz.isAgg105
  z53 := Tryz.sizeOf105
  v53 := Tryz.zeroValue105
  t55 := Tryz.underlying107
  a55 := Tryz.isAgg107
  z55 := Tryz.sizeOf107
  v55 := Tryz.zeroValue107
  t66 := Tryz.underlying120
  a66 := Tryz.isAgg120
  z66 := Tryz.sizeOf120
  v66 := Tryz.zeroValue120
  t70 := Tryz.underlying124
  a70 := Tryz.isAgg124
  z70 := Tryz.sizeOf124
  v70 := Tryz.zeroValue124
  t76 := Tryz.underlying133
  a76 := Tryz.isAgg133
  z76 := Tryz.sizeOf133
  v76 := Tryz.zeroValue133
  t77 := Tryz.underlying134
  a77 := Tryz.isAgg134
  z77 := Tryz.sizeOf134
  v77 := Tryz.zeroValue134 }

end Go.Proofs
namespace Go.Proofs.YtbjloippgpilcaaGreatDoor
open Go.Ab Go.Shelf Go.Sort
instance : Inhabited Cnt := ⟨⟨0, 0, 0⟩⟩
def cmpI (a b : Int) : Int := if a < b then -1 else if b < a then 1 else 0
theorem isNaNInt_c {n : Int} {σ : Store} : ACalls Tryz.prog 43 [vInt n] σ fun v σ' => v = vB false ∧ σ = σ' := by
  refine ACalls_of Tryz.func43 rfl Tryz.ntmps43 (congrArg Array.toList Tryz.results43) (by simp only [List.length_cons, List.length_nil]; decide) ?_; simp only [envOf_cons, envOf_nil, Nat.reduceAdd]
  refine awp_seq ?_
  refine awp_region (by kernel_rfl) ?_
  (refine aL_S rfl rfl v_ ?_)
  refine aL_nil ?_
  refine awp_seq ?_
  refine awp_region (by kernel_rfl) ?_
  iterate 4 (refine aL_S rfl rfl v_ ?_)
  refine aL_nil ?_
  refine awp_ret ?_
  refine aEnd_ret (σ' := σ) v_ sub_ ?_
  exact ⟨by simp, rfl⟩
theorem compareInt_c {a b : Int} {σ : Store} : ACalls Tryz.prog 30 [vInt a, vInt b] σ fun v σ' => v = vInt (cmpI a b) ∧ σ = σ' := by
  refine ACalls_of Tryz.func30 rfl Tryz.ntmps30 (congrArg Array.toList Tryz.results30) (by simp only [List.length_cons, List.length_nil]; decide) ?_; simp only [envOf_cons, envOf_nil, Nat.reduceAdd]
  refine awp_seq ?_
  refine awp_region (by kernel_rfl) ?_
  (refine aL_S rfl rfl v_ ?_)
  refine aL_nil ?_
  refine awp_seq ?_
  refine awp_region (by kernel_rfl) ?_
  (refine aL_S rfl rfl v_ ?_)
  refine aL_X rfl rfl (AOp_use rfl rfl (.inr ⟨rfl, rfl, rfl⟩) g_ va_ (isNaNInt_c) ?_); rintro _ _ ⟨rfl, rfl⟩
  (refine aL_S rfl rfl v_ ?_)
  refine aL_nil ?_
  refine awp_seq ?_
  refine awp_region (by kernel_rfl) ?_
  (refine aL_S rfl rfl v_ ?_)
  refine aL_X rfl rfl (AOp_use rfl rfl (.inr ⟨rfl, rfl, rfl⟩) g_ va_ (isNaNInt_c) ?_); rintro _ _ ⟨rfl, rfl⟩
  (refine aL_S rfl rfl v_ ?_)
  refine aL_nil ?_
  refine awp_seq ?_
  refine awp_seq ?_
  refine awp_region (by kernel_rfl) ?_
  (refine aL_S rfl rfl v_ ?_)
  refine aL_nil ?_
  refine awp_cond v_ (fun hc3 => ?_) (fun hc3 => ?_)
  · replace hc3 := nm_ hc3
    cases hc3
  · replace hc3 := nm_ hc3
    refine awp_skip ?_
    refine awp_seq ?_
    refine awp_seq ?_
    refine awp_region (by kernel_rfl) ?_
    (refine aL_S rfl rfl v_ ?_)
    refine aL_nil ?_
    refine awp_cond v_ (fun hc7 => ?_) (fun hc7 => ?_)
    · replace hc7 := nm_ hc7
      cases hc7
    · replace hc7 := nm_ hc7
      refine awp_skip ?_
      refine awp_seq ?_
      refine awp_seq ?_
      refine awp_region (by kernel_rfl) ?_
      iterate 3 (refine aL_S rfl rfl v_ ?_)
      refine aL_nil ?_
      refine awp_cond v_ (fun hc9 => ?_) (fun hc9 => ?_)
      · replace hc9 := nm_ hc9
        refine awp_seq ?_
        refine awp_region (by kernel_rfl) ?_
        (refine aL_S rfl rfl v_ ?_)
        refine aL_nil ?_
        refine awp_ret ?_
        refine aEnd_ret (σ' := σ) v_ sub_ ?_
        exact ⟨by rw [cmpI, if_pos hc9], rfl⟩
      · replace hc9 := nm_ hc9
        refine awp_skip ?_
        refine awp_seq ?_
        refine awp_seq ?_
        refine awp_region (by kernel_rfl) ?_
        iterate 3 (refine aL_S rfl rfl v_ ?_)
        refine aL_nil ?_
        refine awp_cond v_ (fun hc11 => ?_) (fun hc11 => ?_)
        · replace hc11 := nm_ hc11
          refine awp_seq ?_
          refine awp_region (by kernel_rfl) ?_
          (refine aL_S rfl rfl v_ ?_)
          refine aL_nil ?_
          refine awp_ret ?_
          refine aEnd_ret (σ' := σ) v_ sub_ ?_
          exact ⟨by rw [cmpI, if_neg (by omega), if_pos hc11], rfl⟩
        · replace hc11 := nm_ hc11
          refine awp_skip ?_
          refine awp_seq ?_
          refine awp_region (by kernel_rfl) ?_
          (refine aL_S rfl rfl v_ ?_)
          refine aL_nil ?_
          refine awp_ret ?_
          refine aEnd_ret (σ' := σ) v_ sub_ ?_
          exact ⟨by rw [cmpI, if_neg (by omega), if_neg (by omega)], rfl⟩
theorem isNaNErr_c {n : Int} {σ : Store} : ACalls Tryz.prog 44 [vInt n] σ fun v σ' => v = vB false ∧ σ = σ' := by
  refine ACalls_of Tryz.func44 rfl Tryz.ntmps44 (congrArg Array.toList Tryz.results44) (by simp only [List.length_cons, List.length_nil]; decide) ?_; simp only [envOf_cons, envOf_nil, Nat.reduceAdd]
  refine awp_seq ?_
  refine awp_region (by kernel_rfl) ?_
  (refine aL_S rfl rfl v_ ?_)
  refine aL_nil ?_
  refine awp_seq ?_
  refine awp_region (by kernel_rfl) ?_
  iterate 4 (refine aL_S rfl rfl v_ ?_)
  refine aL_nil ?_
  refine awp_ret ?_
  refine aEnd_ret (σ' := σ) v_ sub_ ?_
  exact ⟨by simp, rfl⟩
theorem compareErr_c {a b : Int} {σ : Store} : ACalls Tryz.prog 31 [vInt a, vInt b] σ fun v σ' => v = vInt (cmpI a b) ∧ σ = σ' := by
  refine ACalls_of Tryz.func31 rfl Tryz.ntmps31 (congrArg Array.toList Tryz.results31) (by simp only [List.length_cons, List.length_nil]; decide) ?_; simp only [envOf_cons, envOf_nil, Nat.reduceAdd]
  refine awp_seq ?_
  refine awp_region (by kernel_rfl) ?_
  (refine aL_S rfl rfl v_ ?_)
  refine aL_nil ?_
  refine awp_seq ?_
  refine awp_region (by kernel_rfl) ?_
  (refine aL_S rfl rfl v_ ?_)
  refine aL_X rfl rfl (AOp_use rfl rfl (.inr ⟨rfl, rfl, rfl⟩) g_ va_ (isNaNErr_c) ?_); rintro _ _ ⟨rfl, rfl⟩
  (refine aL_S rfl rfl v_ ?_)
  refine aL_nil ?_
  refine awp_seq ?_
  refine awp_region (by kernel_rfl) ?_
  (refine aL_S rfl rfl v_ ?_)
  refine aL_X rfl rfl (AOp_use rfl rfl (.inr ⟨rfl, rfl, rfl⟩) g_ va_ (isNaNErr_c) ?_); rintro _ _ ⟨rfl, rfl⟩
  (refine aL_S rfl rfl v_ ?_)
  refine aL_nil ?_
  refine awp_seq ?_
  refine awp_seq ?_
  refine awp_region (by kernel_rfl) ?_
  (refine aL_S rfl rfl v_ ?_)
  refine aL_nil ?_
  refine awp_cond v_ (fun hc3 => ?_) (fun hc3 => ?_)
  · replace hc3 := nm_ hc3
    cases hc3
  · replace hc3 := nm_ hc3
    refine awp_skip ?_
    refine awp_seq ?_
    refine awp_seq ?_
    refine awp_region (by kernel_rfl) ?_
    (refine aL_S rfl rfl v_ ?_)
    refine aL_nil ?_
    refine awp_cond v_ (fun hc7 => ?_) (fun hc7 => ?_)
    · replace hc7 := nm_ hc7
      cases hc7
    · replace hc7 := nm_ hc7
      refine awp_skip ?_
      refine awp_seq ?_
      refine awp_seq ?_
      refine awp_region (by kernel_rfl) ?_
      iterate 3 (refine aL_S rfl rfl v_ ?_)
      refine aL_nil ?_
      refine awp_cond v_ (fun hc9 => ?_) (fun hc9 => ?_)
      · replace hc9 := nm_ hc9
        refine awp_seq ?_
        refine awp_region (by kernel_rfl) ?_
        (refine aL_S rfl rfl v_ ?_)
        refine aL_nil ?_
        refine awp_ret ?_
        refine aEnd_ret (σ' := σ) v_ sub_ ?_
        exact ⟨by rw [cmpI, if_pos hc9], rfl⟩
      · replace hc9 := nm_ hc9
        refine awp_skip ?_
        refine awp_seq ?_
        refine awp_seq ?_
        refine awp_region (by kernel_rfl) ?_
        iterate 3 (refine aL_S rfl rfl v_ ?_)
        refine aL_nil ?_
        refine awp_cond v_ (fun hc11 => ?_) (fun hc11 => ?_)
        · replace hc11 := nm_ hc11
          refine awp_seq ?_
          refine awp_region (by kernel_rfl) ?_
          (refine aL_S rfl rfl v_ ?_)
          refine aL_nil ?_
          refine awp_ret ?_
          refine aEnd_ret (σ' := σ) v_ sub_ ?_
          exact ⟨by rw [cmpI, if_neg (by omega), if_pos hc11], rfl⟩
        · replace hc11 := nm_ hc11
          refine awp_skip ?_
          refine awp_seq ?_
          refine awp_region (by kernel_rfl) ?_
          (refine aL_S rfl rfl v_ ?_)
          refine aL_nil ?_
          refine awp_ret ?_
          refine aEnd_ret (σ' := σ) v_ sub_ ?_
          exact ⟨by rw [cmpI, if_neg (by omega), if_neg (by omega)], rfl⟩
theorem or2_c {a b : Int} {t : Bool} {σ : Store} : ACalls Tryz.prog 29 [.sl 1 [vInt a, vInt b] t] σ fun v σ' => v = vInt (if a ≠ 0 then a else b) ∧ σ = σ' := by
  refine ACalls_of Tryz.func29 rfl Tryz.ntmps29 (congrArg Array.toList Tryz.results29) (by simp only [List.length_cons, List.length_nil]; decide) ?_; simp only [envOf_cons, envOf_nil, Nat.reduceAdd]
  refine awp_seq ?_
  refine awp_region (by kernel_rfl) ?_
  (refine aL_S rfl rfl v_ ?_)
  refine aL_nil ?_
  refine awp_seq ?_
  refine awp_region (by kernel_rfl) ?_
  (refine aL_S rfl rfl v_ ?_)
  refine aL_nil ?_
  refine awp_seq ?_
  refine awp_seq ?_
  refine awp_region (by kernel_rfl) ?_
  iterate 3 (refine aL_S rfl rfl v_ ?_)
  refine aL_nil ?_
  refine awp_block ?_
  refine awp_loop_env (ι := Nat) (fun k => 2 - k) (fun k => k ≤ 2 ∧ (1 ≤ k → a = 0) ∧ (2 ≤ k → b = 0)) (fun k => [(3, vInt 0), (6, .sl 1 [vInt a, vInt b] t), (7, vInt 2), (8, vInt k)]) (fun k => σ) 0 ?_ ?_ ?_ ?_
  · exact ⟨Nat.zero_le _, fun h => by omega, fun h => by omega⟩
  · exact cv_
  · exact sub_
  rintro k ⟨hk, h1, h2⟩
  simp only [envL_cons, envL_nil]
  refine awp_seq ?_
  refine awp_region (by kernel_rfl) ?_
  (refine aL_S rfl rfl v_ ?_)
  refine aL_nil ?_
  refine awp_seq ?_
  refine awp_cond v_ (fun hc3 => ?_) (fun hc3 => ?_)
  · replace hc3 := nm_ hc3
    refine awp_skip ?_
    refine awp_seq ?_
    refine awp_block ?_
    refine awp_seq ?_
    skip
    obtain ⟨x, hxk, hx0, hx1⟩ : ∃ x, [vInt a, vInt b][k]? = some (vInt x) ∧ (k = 0 → x = a) ∧ (k = 1 → x = b) := by
      match k, (show k < 2 by omega) with
      | 0, _ => exact ⟨a, rfl, fun _ => rfl, (fun h => by cases h)⟩
      | 1, _ => exact ⟨b, rfl, (fun h => by cases h), (fun _ => rfl)⟩
    have R := hxk
    refine awp_region (by kernel_rfl) ?_
    iterate 3 (refine aL_S rfl rfl v_ ?_)
    refine aL_nil ?_
    refine awp_seq ?_
    refine awp_region (by kernel_rfl) ?_
    iterate 3 (refine aL_S rfl rfl v_ ?_)
    refine aL_nil ?_
    refine awp_cond v_ (fun hc5 => ?_) (fun hc5 => ?_)
    · replace hc5 := nm_ hc5
      refine awp_seq ?_
      refine awp_region (by kernel_rfl) ?_
      iterate 2 (refine aL_S rfl rfl v_ ?_)
      refine aL_nil ?_
      refine awp_ret ?_
      refine aEnd_ret (σ' := σ) v_ sub_ ?_
      refine ⟨?_, rfl⟩
      rcases Nat.lt_or_ge k 1 with h | h
      · obtain rfl := hx0 (by omega)
        rw [if_pos hc5]
      · rw [if_neg (by rw [h1 h]; simp)]
        obtain rfl := hx1 (by omega)
        rfl
    · replace hc5 := nm_ hc5
      have hs1 : a = 0 := by rcases Nat.lt_or_ge k 1 with h | h; exact (hx0 (by omega)) ▸ hc5; exact h1 h
      have hs2 : 2 ≤ k + 1 → b = 0 := fun h => (hx1 (by omega)) ▸ hc5
      refine awp_skip ?_
      refine awp_region (by kernel_rfl) ?_
      iterate 2 (refine aL_S rfl rfl v_ ?_)
      refine aL_nil ?_
      refine aNext (ι := Nat) (i := k) (k + 1) ?_ ?_ ?_ ?_
      · omega
      · exact ⟨by omega, fun _ => hs1, fun h => hs2 h⟩
      · exact cv_
      · exact sub_
  · replace hc3 := nm_ hc3
    refine awp_exit ?_
    refine aThen_exit ?_
    refine aThen_exit ?_
    refine aBlock_hit ?_
    refine awp_seq ?_
    refine awp_region (by kernel_rfl) ?_
    iterate 2 (refine aL_S rfl rfl v_ ?_)
    refine aL_nil ?_
    refine awp_ret ?_
    refine aEnd_ret (σ' := σ) v_ sub_ ?_
    refine ⟨?_, rfl⟩
    rw [if_neg (by rw [h1 (by omega)]; simp), h2 (by omega)]
def cfC (x y : Cnt) : Int := if cmpI x.kind y.kind ≠ 0 then cmpI x.kind y.kind else cmpI x.err y.err
theorem counts1_c {x y : Cnt} {σ : Store} : ACalls Tryz.prog 28 [sCnt x, sCnt y] σ fun v σ' => v = vInt (cfC x y) ∧ σ = σ' := by
  refine ACalls_of Tryz.func28 rfl Tryz.ntmps28 (congrArg Array.toList Tryz.results28) (by simp only [List.length_cons, List.length_nil]; decide) ?_; simp only [envOf_cons, envOf_nil, Nat.reduceAdd]
  refine awp_seq ?_
  refine awp_region (by kernel_rfl) ?_
  refine aL_box rfl rfl rfl v_ rfl g_ fun o2 ho2 => ?_
  repeat (rw [none_set_iff] at ho2; obtain ⟨_, ho2⟩ := ho2)
  refine aL_box rfl rfl rfl v_ rfl g_ fun o3 ho3 => ?_
  repeat (rw [none_set_iff] at ho3; obtain ⟨_, ho3⟩ := ho3)
  (refine aL_S rfl rfl v_ ?_)
  refine aL_nil ?_
  refine awp_seq ?_
  refine awp_draw (.op 0 0 (.op 1 0 (.op 2 0 (.op 3 0 (.op 5 0 (.op 6 0 (.op 7 0 (.op 8 0 (.op 4 1 (.op 9 1 (.op 10 1 (.op 11 1 (.op 12 0 .nil))))))))))))) Tryz.mixed (by kernel_rfl) ?_
  iterate 8 (refine dR_S o_ (by rfl) (by rfl) v_ ?_)
  refine dR_X o_ (by rfl) (by rfl) (AOp_use (by rfl) (by rfl) (.inr ⟨by rfl, by rfl, by rfl⟩) g_ va_ (compareInt_c) ?_); rintro _ _ ⟨rfl, rfl⟩; refine ⟨sub_, ?_⟩
  refine dR_X o_ (by rfl) (by rfl) (AOp_use (by rfl) (by rfl) (.inr ⟨by rfl, by rfl, by rfl⟩) g_ va_ (compareErr_c) ?_); rintro _ _ ⟨rfl, rfl⟩; refine ⟨sub_, ?_⟩
  refine dR_X o_ (by rfl) (by rfl) (AOp_buildSlice' (by rfl) g_ g_ (by rfl) (by rfl) h_ c2_ (by decide) ⟨sub_, ?_⟩)
  refine dR_X o_ (by rfl) (by rfl) (AOp_use (by rfl) (by rfl) (.inr ⟨by rfl, by rfl, by rfl⟩) g_ va_ (or2_c (a := cmpI x.kind y.kind) (b := cmpI x.err y.err)) ?_); rintro _ _ ⟨rfl, rfl⟩; refine ⟨sub_, ?_⟩
  (refine dR_S o_ (by rfl) (by rfl) v_ ?_)
  refine dR_nil ?_
  refine awp_ret ?_
  refine aEnd_ret (σ' := σ) v_ sub_ ?_
  exact ⟨rfl, rfl⟩
theorem cfC_lt {x y : Cnt} : cfC x y < 0 ↔ cLt x y := by
  unfold cfC cmpI cLt
  by_cases h1 : x.kind < y.kind
  · simp [h1]
  · by_cases h2 : y.kind < x.kind
    · have : x.kind ≠ y.kind := by omega
      simp [h1, h2, this]
    · have h3 : x.kind = y.kind := by omega
      by_cases h4 : x.err < y.err <;> by_cases h5 : y.err < x.err <;> simp [h3, h4, h5]
theorem ltOf_cfC (x y : Cnt) : ltOf cfC x y = true ↔ cLt x y := by
  unfold ltOf
  rw [decide_eq_true_eq, cfC_lt]
theorem ltOf_cfC' (x y : Cnt) : ltOf cfC x y = false ↔ ¬ cLt x y := by rw [← ltOf_cfC]; simp
theorem swoC : SWO (ltOf cfC) where
  irrefl x := by rw [ltOf_cfC']; unfold cLt; omega
  trans x y z h1 h2 := by rw [ltOf_cfC] at *; unfold cLt at *; omega
  ntrans x y z h1 h2 := by rw [ltOf_cfC'] at *; unfold cLt at *; omega
def encC (x : Cnt) : List Value := [.int .i64 x.kind, .int .i64 x.err, .int .i64 x.n]
theorem cells_encC (x : Cnt) : (sCnt x).cells = (encC x).map .lit := rfl
theorem rv_cnt3 (κ : K) (x : Cnt) : Rv κ (sCnt x) (.agg (encC x).toArray) := .agg _ _ rfl (fun i hi => by
  match i, hi with
  | 0, _ => exact .lit _
  | 1, _ => exact .lit _
  | 2, _ => exact .lit _)
abbrev fCmp : AVal := .lit (.func (.func 28) #[] #[])
theorem sortFunc_c {o : Nat} {L : List Cnt} {σ : Store} (ho : σ.heap o = some (.cells (flat (L.map sCnt)))) (hl : L.length ≤ 1000000000) :
    ACalls Tryz.prog 27 [.msl o 3 0 L.length, fCmp] σ fun v σ' => v = .tup [] ∧ ∃ L' : List Cnt, L'.Perm L ∧ L'.Pairwise (fun x y => ¬ cLt y x) ∧ σ' = σ.set o (.cells (flat (L'.map sCnt))) := by
  have e1 : ∀ M : List Cnt, flat (M.map sCnt) = (flatK encC 3 M.toArray).toList.map .lit := fun M => flat_flatK sCnt encC cells_encC (fun _ => rfl) M
  rw [e1] at ho
  refine (sortK_of (P := Tryz.prog) (σ := σ) (f := 27) (o := o) (k := 3) (n := L.length) (flatK encC 3 L.toArray).toList
    (fun F' => ∃ L' : List Cnt, L'.Perm L ∧ L'.Pairwise (fun x y => ¬ cLt y x) ∧ F' = (flatK encC 3 L'.toArray).toList) ho [fCmp] [.func (.func 28) #[] #[]] (fun b cap w hG hH hb => ?_) rfl).wkS fun v σ' ⟨hv, F', ⟨L', h1, h2, h3⟩, h4⟩ => ⟨v, σ', .refl _, .refl _, hv, L', h1, h2, by rw [h4, h3, e1]⟩
  have hcmp : CmpLays Tryz.prog 28 #[] encC 3 cfC b 0 L.toArray.size w := fun m os dk _ x y => by
    have := cmp_lays (P := Tryz.prog) (g := 28) (counts1_c (x := x) (y := y) (σ := s0)) (fun κ => rv_cnt3 κ x) (fun κ => rv_cnt3 κ y) (sortWorldK encC 3 w b 0 m dk os) (glob_sorted encC 3 hG hb m dk os)
    exact this
  have key := AnyQ.slices_SortFunc sortF 3 Tryz.isAgg58 Tryz.sizeOf58 encC (fun _ => rfl) (fun x v hv => by simp [encC] at hv; rcases hv with rfl | rfl | rfl <;> rfl) cfC swoC 28 #[] b 0 cap L.toArray w (fun args w => run_callFunc (by kernel_rfl) args w) hcmp (by simpa [HoldsK] using hH) hb (by simp; omega)
  have key2 : Calls Tryz.prog 27 (#[.slice (some ⟨b, 0, none⟩) L.length cap] ++ #[.func (.func 28) #[] #[]]) w _ := key
  refine key2.mono fun e w' ⟨he, d', n, os, hp, hs, hw⟩ => ⟨he, (flatK encC 3 d').toList, n, os, ⟨d'.toList, ?_, ?_, by simp⟩, ?_, ?_⟩
  · exact perm_of hp
  · exact (sorted_of (n := L.toArray.size) hp.1 hs).imp fun {a b} h => by rw [ltOf_cfC'] at h; exact h
  · simp [hp.1]
  · rw [hw]; simp [sortWorldK, putRowK]
theorem sortNil2_c {f : FuncId} {σ : Store} {g : Value} (h : ∀ w, Calls Tryz.prog f #[.slice none 0 0, g] w fun e w' => e = .returned (.tuple #[]) ∧ w' = w) :
    ACalls Tryz.prog f [.lit (.slice none 0 0), .lit g] σ fun v σ' => v = .tup [] ∧ σ' = σ := by
  intro κ vs hI hn hv
  have e0 := (hv 0 (by simp)).litInv
  have e1 := (hv 1 (by simp)).litInv
  have hvs : vs = #[.slice none 0 0, g] := by
    apply Array.ext (by simpa using hn)
    intro i h1 h2
    have eg : vs.getD i undef = vs[i] := by simp [h1]
    match i, h2 with
    | 0, _ => rw [← eg, e0]; rfl
    | 1, _ => rw [← eg, e1]; rfl
  rw [hvs]
  exact (h κ.w).mono fun ex w' ⟨he, hw⟩ => ⟨_, he, by rw [hw]; exact postNil (K.Le.refl κ) hI ⟨rfl, rfl⟩⟩
theorem szCnt (L : List Cnt) : ∀ y ∈ L.map sCnt, y.cells.length = 3 := fun y hy => by
  obtain ⟨x, _, rfl⟩ := List.mem_map.1 hy
  rfl
/-- sorted, and not written any more -/
theorem sortFuncC {σ0 σ : Store} {L : List Cnt} {a : AVal} (h : CBp σ0 σ 3 (L.map sCnt) a) (hl : L.length ≤ 1000000000) :
    ACalls Tryz.prog 27 [a, fCmp] σ fun v σ' => v = .tup [] ∧ ∃ L' : List Cnt, L'.Perm L ∧ L'.Pairwise (fun x y => ¬ cLt y x) ∧ CBp σ0 σ' 3 (L'.map sCnt) a := by
  rcases h with ⟨rfl, h0, rfl⟩ | ⟨o, ho, rfl, rfl⟩
  · obtain rfl : L = [] := by simpa using h0
    exact (sortNil2_c fun w => AnyF.slices_SortFunc_none sortF none 0 _ w).wkS fun v σ' ⟨hv, hs⟩ => ⟨v, σ', .refl _, .refl _, hv, [], .refl _, .nil, .inl ⟨rfl, rfl, hs⟩⟩
  · rw [List.length_map]
    exact (sortFunc_c (Store.set_get ..) hl).wkS fun v σ' ⟨hv, L', h1, h2, h3⟩ => ⟨v, σ', .refl _, .refl _, hv, L', h1, h2, .inr ⟨o, ho, by rw [List.length_map, h1.length_eq], by rw [h3, Store.set_set]⟩⟩
end Go.Proofs.YtbjloippgpilcaaGreatDoor
end

section
set_option linter.all false
set_option maxRecDepth 100000
namespace Go.Proofs.YtbjloippgpilcaaGreatDoor
open Go.Ab
theorem set_swap {σ : Store} {i j : Nat} {x y : AObj} (h : i ≠ j) : (σ.set i x).set j y = (σ.set j y).set i x := by
  unfold Store.set
  congr 1
  funext k
  by_cases h1 : k = j
  · subst h1; simp [Ne.symm h]
  · by_cases h2 : k = i
    · subst h2; simp [h]
    · simp [h1, h2]
theorem cbp_set {σ0 σ : Store} {sz : Nat} {l : List AVal} {a : AVal} (h : CBp σ0 σ sz l a) {i : Nat} {x : AObj} (hi : σ.heap i = none) : CBp (σ0.set i x) (σ.set i x) sz l a := by
  rcases h with ⟨h1, h2, rfl⟩ | ⟨o, ho, h1, rfl⟩
  · exact .inl ⟨h1, h2, rfl⟩
  · have hne : i ≠ o := fun hh => by rw [hh, Store.set_get] at hi; cases hi
    exact .inr ⟨o, by rw [Store.set_ne _ _ (Ne.symm hne)]; exact ho, h1, set_swap (Ne.symm hne)⟩
theorem cbp_set2 {σ0 σ : Store} {sz : Nat} {l : List AVal} {a : AVal} (h : CBp σ0 σ sz l a) {i : Nat} {x y : AObj} (hi : σ.heap i = none) : CBp (σ0.set i y) ((σ.set i x).set i y) sz l a := by
  rw [Store.set_set]; exact cbp_set h hi
theorem cbp_drop {σ σ' : Store} {sz : Nat} {l : List AVal} {a : AVal} {i : Nat} {y : AObj} (h : CBp (σ.set i y) σ' sz l a) (hi : σ.heap i = none) : ∃ τ, CBp σ τ sz l a ∧ τ.Sub σ' := by
  have hsub : ∀ τ : Store, τ.heap i = none → τ.Sub (τ.set i y) := fun τ hτ => ⟨fun j x hx => by rw [Store.set_ne _ _ (fun hh => by rw [hh, hτ] at hx; cases hx)]; exact hx, fun _ _ h => h⟩
  rcases h with ⟨h1, h2, rfl⟩ | ⟨o, ho, h1, rfl⟩
  · exact ⟨σ, .inl ⟨h1, h2, rfl⟩, hsub σ hi⟩
  · have hne : o ≠ i := fun hh => by rw [hh, Store.set_get] at ho; cases ho
    rw [Store.set_ne _ _ hne] at ho
    refine ⟨σ.set o (.cells (flat l)), .inr ⟨o, ho, h1, rfl⟩, ?_⟩
    rw [set_swap (Ne.symm hne)]
    exact hsub _ (by rw [Store.set_ne _ _ (Ne.symm hne)]; exact hi)
theorem cbp_tok {σ σ' : Store} {sz k : Nat} {l : List AVal} {a : AVal} {p : TypeId × Nat} (h : CBp σ σ' sz l a) : CBp (σ.newTok none k p) (σ'.newTok none k p) sz l a := by
  rcases h with ⟨h1, h2, rfl⟩ | ⟨o, ho, h1, rfl⟩
  · exact .inl ⟨h1, h2, rfl⟩
  · exact .inr ⟨o, ho, h1, rfl⟩
theorem cbp_reset {σ0 σ : Store} {sz : Nat} {l : List AVal} {a : AVal} {i : Nat} {x y : AObj} (h : CBp (σ0.set i x) σ sz l a) : CBp (σ0.set i y) (σ.set i y) sz l a := by
  rcases h with ⟨h1, h2, rfl⟩ | ⟨o, ho, h1, rfl⟩
  · exact .inl ⟨h1, h2, Store.set_set ..⟩
  · have hne : o ≠ i := fun hh => by rw [hh, Store.set_get] at ho; cases ho
    rw [Store.set_ne _ _ hne] at ho
    exact .inr ⟨o, by rw [Store.set_ne _ _ hne]; exact ho, h1, by rw [set_swap hne, Store.set_set]⟩
theorem frozenS {P : Program} {f : FuncId} {args : List AVal} {σ : Store} {sz : Nat} {l : List AVal} (h : ACalls P f args σ fun v σ' => ∃ σ1, CBp σ1 σ' sz l v ∧ σ.Sub σ1) (hs : ∀ x ∈ l, x.cells.length = sz) : ACalls P f args σ fun v σ' => v = .sl sz l false ∧ σ = σ' := by
  refine h.after ?_
  rintro κ a σ' cv hI hr ⟨σ1, hC, hsub⟩
  rcases hC with ⟨rfl, rfl, rfl⟩ | ⟨o, ho, rfl, rfl⟩
  · exact ⟨κ, _, _, rfl, .refl κ, hI.sub hsub, hr.wk (.nil sz false), rfl, rfl⟩
  · obtain ⟨κ', h1, h2, h3, h4⟩ := Ab.freeze hI hr (Store.set_get ..) (l := l) (by rw [List.take_of_length_le (by rw [flat_length hs]; exact Nat.le_refl _)]) rfl hs
    rw [Store.set_del ho] at h3
    exact ⟨κ', _, _, h1, h2, h3.sub hsub, h4, rfl, rfl⟩
theorem heap_none {σ0 σ : Store} {sz : Nat} {l : List AVal} {a : AVal} (h : CBp σ0 σ sz l a) {i : Nat} (hi : σ.heap i = none) : σ0.heap i = none := by
  cases hh : σ0.heap i with
  | none => rfl
  | some y => have := h.sub.heap i y hh; rw [hi] at this; cases this
end Go.Proofs.YtbjloippgpilcaaGreatDoor
end

section
set_option linter.all false
set_option maxRecDepth 100000
namespace Go.Proofs.YtbjloippgpilcaaGreatDoor
open Go.Ab
theorem took_c {d : Deed} {σ : Store} (hd : DeedI d) : ACalls Tryz.prog 32 [sDeed d] σ fun v σ' => v = vInt (tookS d) ∧ σ = σ' := by
  have h1 := hd.b0; have h2 := hd.b1; have h3 := hd.f0; have h4 := hd.f1
  have hw : IntKind.u64.wrap (IntKind.u64.wrap d.fin - IntKind.u64.wrap d.bgn) = (d.fin - d.bgn) % 18446744073709551616 := by
    unfold IntKind.wrap
    simp only [IntKind.bits, IntKind.signed, Bool.false_and]
    have e1 : (2 : Int) ^ 64 = 18446744073709551616 := by decide
    simp only [e1]
    simp
  refine ACalls_of Tryz.func32 rfl Tryz.ntmps32 (congrArg Array.toList Tryz.results32) (by simp only [List.length_cons, List.length_nil]; decide) ?_; simp only [envOf_cons, envOf_nil, Nat.reduceAdd]
  refine awp_seq ?_
  refine awp_region (by kernel_rfl) ?_
  refine aL_box rfl rfl rfl v_ rfl g_ fun o1 ho1 => ?_
  repeat (rw [none_set_iff] at ho1; obtain ⟨_, ho1⟩ := ho1)
  (refine aL_S rfl rfl v_ ?_)
  refine aL_nil ?_
  refine awp_seq ?_
  refine awp_seq ?_
  refine awp_region (by kernel_rfl) ?_
  iterate 6 (refine aL_S rfl rfl v_ ?_)
  refine aL_GF rfl rfl v_ rfl vg_ ?_
  refine aL_GF rfl rfl v_ rfl vg_ ?_
  refine aL_GF rfl rfl v_ rfl vg_ ?_
  refine aL_GF rfl rfl v_ rfl vg_ ?_
  refine aL_GF rfl rfl v_ rfl vg_ ?_
  refine aL_GF rfl rfl v_ rfl vg_ ?_
  refine aL_GF rfl rfl v_ rfl vg_ ?_
  refine aL_GF rfl rfl v_ rfl vg_ ?_
  (refine aL_S rfl rfl v_ ?_)
  refine aL_nil ?_
  refine awp_cond v_ (fun hc1 => ?_) (fun hc1 => ?_)
  · replace hc1 := nm_ hc1
    refine awp_seq ?_
    refine awp_region (by kernel_rfl) ?_
    (refine aL_S rfl rfl v_ ?_)
    refine aL_nil ?_
    refine awp_ret ?_
    refine aEnd_ret (σ' := σ) v_ sub_ ?_
    refine ⟨?_, rfl⟩
    rw [hw] at hc1
    rw [tookS, if_pos (by omega)]
  · replace hc1 := nm_ hc1
    refine awp_skip ?_
    refine awp_seq ?_
    refine awp_region (by kernel_rfl) ?_
    iterate 6 (refine aL_S rfl rfl v_ ?_)
    refine aL_nil ?_
    refine awp_ret ?_
    refine aEnd_ret (σ' := σ) v_ sub_ ?_
    refine ⟨?_, rfl⟩
    rw [hw] at hc1
    rw [tookS, if_neg (by omega)]
theorem tookR_c {L : List Deed} {t : Bool} {σ : Store} (hd : ∀ d ∈ L, DeedI d) (hl : L.length ≤ 1000000) : ACalls Tryz.prog 14 [.sl 20 (L.map sDeed) t] σ fun v σ' => ∃ σ1, CBp σ1 σ' 1 ((tookI L).map vInt) v ∧ σ.Sub σ1 := by
  refine ACalls_of Tryz.func14 rfl Tryz.ntmps14 (congrArg Array.toList Tryz.results14) (by simp only [List.length_cons, List.length_nil]; decide) ?_; simp only [envOf_cons, envOf_nil, Nat.reduceAdd]
  refine awp_seq ?_
  refine awp_region (by kernel_rfl) ?_
  (refine aL_S rfl rfl v_ ?_)
  refine aL_nil ?_
  refine awp_seq ?_
  refine awp_region (by kernel_rfl) ?_
  (refine aL_S rfl rfl v_ ?_)
  refine aL_nil ?_
  refine awp_seq ?_
  refine awp_seq ?_
  refine awp_region (by kernel_rfl) ?_
  iterate 3 (refine aL_S rfl rfl v_ ?_)
  refine aL_nil ?_
  refine awp_block ?_
  refine awp_loop_env (ι := Store × AVal × Nat) (fun ⟨τ, g, k⟩ => L.length - k) (fun ⟨τ, g, k⟩ => k ≤ L.length ∧ CBp σ τ 1 ((tookL (L.take k)).map vInt) g) (fun ⟨τ, g, k⟩ => [(3, g), (6, .sl 20 (L.map sDeed) t), (7, vInt L.length), (8, vInt k)]) (fun ⟨τ, g, k⟩ => τ) (σ, vNil, 0) ?_ ?_ ?_ ?_
  · exact ⟨Nat.zero_le _, .inl ⟨rfl, rfl, rfl⟩⟩
  · exact cv_
  · exact Store.Wk.refl _
  rintro ⟨τ, g, k⟩ ⟨hk, hC⟩
  simp only [envL_cons, envL_nil]
  refine awp_seq ?_
  refine awp_region (by kernel_rfl) ?_
  (refine aL_S rfl rfl v_ ?_)
  refine aL_nil ?_
  refine awp_seq ?_
  refine awp_cond v_ (fun hc3 => ?_) (fun hc3 => ?_)
  · replace hc3 := nm_ hc3
    refine awp_skip ?_
    refine awp_seq ?_
    refine awp_block ?_
    refine awp_seq ?_
    obtain ⟨x, hx⟩ := get_some (l := L) (k := k) (by omega)
    have hxm := hd x (List.mem_of_getElem? hx)
    have hle : (tookL (L.take k)).length ≤ k := by
      unfold tookL dn
      rw [List.length_map]
      exact Nat.le_trans (List.length_filter_le ..) (by simp; omega)
    have R := hx
    refine awp_region (by kernel_rfl) ?_
    iterate 2 (refine aL_S rfl rfl v_ ?_)
    refine aL_alloc rfl rfl rfl g_ gl_ fun o5 ho5 => ?_
    repeat (rw [none_set_iff] at ho5; obtain ⟨_, ho5⟩ := ho5)
    refine aL_store rfl rfl rfl v_ v_ h_ g_ rfl g_ c_ (by rfl) le_ v_ ?_
    refine aL_nil ?_
    skip
    have n5 := heap_none hC ho5
    have hC1 := cbp_set2 (x := .cells [.lit (.string ⟨#[]⟩), .lit (.string ⟨#[]⟩), .lit (.int .i64 0), .lit (.int .i64 0), .lit (.int .i64 0), .lit (.int .i64 0), .lit (.int .i64 0), .lit (.string ⟨#[]⟩), .lit (.string ⟨#[]⟩), .lit (.string ⟨#[]⟩), .lit (.string ⟨#[]⟩), .lit (.slice none 0 0), .lit (.int .i64 0), .lit (.bool false), .lit (.int .i64 0), .lit (.slice none 0 0), .lit (.slice none 0 0), .lit (.slice none 0 0), .lit (.string ⟨#[]⟩), .lit (.int .i64 0)]) (y := .cells (sDeed x).cells) hC ho5
    have subD : τ.Wk ((τ.set o5 (.cells [.lit (.string ⟨#[]⟩), .lit (.string ⟨#[]⟩), .lit (.int .i64 0), .lit (.int .i64 0), .lit (.int .i64 0), .lit (.int .i64 0), .lit (.int .i64 0), .lit (.string ⟨#[]⟩), .lit (.string ⟨#[]⟩), .lit (.string ⟨#[]⟩), .lit (.string ⟨#[]⟩), .lit (.slice none 0 0), .lit (.int .i64 0), .lit (.bool false), .lit (.int .i64 0), .lit (.slice none 0 0), .lit (.slice none 0 0), .lit (.slice none 0 0), .lit (.string ⟨#[]⟩), .lit (.int .i64 0)])).set o5 (.cells (sDeed x).cells)) := by
      rw [Store.set_set]
      exact Store.Sub.wk ⟨fun j y hy => by rw [Store.set_ne _ _ (fun hh => by rw [hh, ho5] at hy; cases hy)]; exact hy, fun _ _ h => h⟩
    refine awp_seq ?_
    refine awp_region (by kernel_rfl) ?_
    iterate 2 (refine aL_S rfl rfl v_ ?_)
    refine aL_nil ?_
    refine awp_cond v_ (fun hc5 => ?_) (fun hc5 => ?_)
    · replace hc5 := nm_ hc5
      have hcov : tookL (L.take (k + 1)) = tookL (L.take k) ++ [tookS x] := by rw [take_snoc hx]; simp [tookL, dn, hc5]
      refine awp_region (by kernel_rfl) ?_
      iterate 2 (refine aL_S rfl rfl v_ ?_)
      refine aL_X rfl rfl (AOp_use rfl rfl (.inr ⟨rfl, rfl, rfl⟩) g_ va_ (took_c hxm) ?_); rintro _ _ ⟨rfl, rfl⟩
      refine aL_buildSlice rfl rfl rfl g_ g_ rfl rfl h_ c2_ (by decide) ?_
      refine aL_X rfl rfl (AOp_appendC rfl g_ g_ hC1 va_ (fun y hy => by obtain ⟨s, _, rfl⟩ := List.mem_map.1 hy; rfl) va_ c_ (by simp; omega) fun a' σ' hC2 => ?_)
      rw [show (tookL (L.take k)).map vInt ++ [vInt (tookS x)] = (tookL (L.take k) ++ [tookS x]).map vInt from by simp] at hC2
      obtain ⟨τ', hC3, hsub⟩ := cbp_drop hC2 n5
      (refine aL_S rfl rfl v_ ?_)
      refine aL_nil ?_
      refine awp_region (by kernel_rfl) ?_
      iterate 2 (refine aL_S rfl rfl v_ ?_)
      refine aL_nil ?_
      refine aNext (ι := Store × AVal × Nat) (i := ⟨τ, g, k⟩) (τ', a', k + 1) ?_ ?_ ?_ ?_
      · show L.length - (k + 1) < L.length - k; omega
      · exact ⟨by show k + 1 ≤ L.length; omega, by rw [hcov]; exact hC3⟩
      · exact cv_
      · exact hsub.wk
    · replace hc5 := nm_ hc5
      have hcov : tookL (L.take (k + 1)) = tookL (L.take k) := by rw [take_snoc hx]; simp [tookL, dn, hc5]
      refine awp_skip ?_
      refine awp_region (by kernel_rfl) ?_
      iterate 2 (refine aL_S rfl rfl v_ ?_)
      refine aL_nil ?_
      refine aNext (ι := Store × AVal × Nat) (i := ⟨τ, g, k⟩) (τ, g, k + 1) ?_ ?_ ?_ ?_
      · show L.length - (k + 1) < L.length - k; omega
      · exact ⟨by show k + 1 ≤ L.length; omega, by rw [hcov]; exact hC⟩
      · exact cv_
      · exact subD
  · replace hc3 := nm_ hc3
    refine awp_exit ?_
    refine aThen_exit ?_
    refine aThen_exit ?_
    refine aBlock_hit ?_
    refine awp_seq ?_
    obtain rfl : k = L.length := by omega
    rw [List.take_length] at hC
    have hle : (tookL L).length ≤ L.length := by
      unfold tookL dn
      rw [List.length_map]
      exact List.length_filter_le ..
    refine awp_region (by kernel_rfl) ?_
    (refine aL_S rfl rfl v_ ?_)
    refine aL_X rfl rfl (AOp_use rfl rfl (.inr ⟨rfl, rfl, rfl⟩) g_ va_ (sortIntC hC (by omega)) ?_); rintro _ τ1 ⟨rfl, hC4⟩
    refine aL_nil ?_
    refine awp_seq ?_
    refine awp_region (by kernel_rfl) ?_
    iterate 2 (refine aL_S rfl rfl v_ ?_)
    refine aL_nil ?_
    refine awp_ret ?_
    exact aEnd_ret (σ' := τ1) va_ sub_ ⟨σ, hC4, .refl _⟩
theorem tookA_c {L : List Deed} {t : Bool} {σ : Store} (hd : ∀ d ∈ L, DeedI d) (hl : L.length ≤ 1000000) : ACalls Tryz.prog 14 [.sl 20 (L.map sDeed) t] σ fun v σ' => v = .sl 1 ((tookI L).map vInt) false ∧ σ = σ' :=
  frozenS (tookR_c hd hl) fun x hx => by
    obtain ⟨s, _, rfl⟩ := List.mem_map.1 hx
    rfl
theorem lanes_c {L : List Deed} {t : Bool} {σ : Store} (hl : L.length ≤ 1000000) : ACalls Tryz.prog 19 [.sl 20 (L.map sDeed) t] σ fun v σ' => v = .sl 1 ((lanesS L).map vStr) false ∧ σ = σ' := by
  refine ACalls_of Tryz.func19 rfl Tryz.ntmps19 (congrArg Array.toList Tryz.results19) (by simp only [List.length_cons, List.length_nil]; decide) ?_; simp only [envOf_cons, envOf_nil, Nat.reduceAdd]
  refine awp_seq ?_
  refine awp_region (by kernel_rfl) ?_
  (refine aL_S rfl rfl v_ ?_)
  refine aL_nil ?_
  refine awp_seq ?_
  refine awp_region (by kernel_rfl) ?_
  (refine aL_S rfl rfl v_ ?_)
  refine aL_nil ?_
  refine awp_seq ?_
  refine awp_seq ?_
  refine awp_region (by kernel_rfl) ?_
  iterate 3 (refine aL_S rfl rfl v_ ?_)
  refine aL_nil ?_
  refine awp_block ?_
  refine awp_loop_env (ι := Store × AVal × Nat) (fun ⟨τ, g, k⟩ => L.length - k) (fun ⟨τ, g, k⟩ => k ≤ L.length ∧ CBp σ τ 1 (((L.take k).map (·.lane)).map vStr) g) (fun ⟨τ, g, k⟩ => [(3, g), (6, .sl 20 (L.map sDeed) t), (7, vInt L.length), (8, vInt k)]) (fun ⟨τ, g, k⟩ => τ) (σ, vNil, 0) ?_ ?_ ?_ ?_
  · exact ⟨Nat.zero_le _, .inl ⟨rfl, rfl, rfl⟩⟩
  · exact cv_
  · exact Store.Wk.refl _
  rintro ⟨τ, g, k⟩ ⟨hk, hC⟩
  simp only [envL_cons, envL_nil]
  refine awp_seq ?_
  refine awp_region (by kernel_rfl) ?_
  (refine aL_S rfl rfl v_ ?_)
  refine aL_nil ?_
  refine awp_seq ?_
  refine awp_cond v_ (fun hc3 => ?_) (fun hc3 => ?_)
  · replace hc3 := nm_ hc3
    refine awp_skip ?_
    refine awp_seq ?_
    refine awp_block ?_
    refine awp_seq ?_
    obtain ⟨x, hx⟩ := get_some (l := L) (k := k) (by omega)
    have R := hx
    refine awp_region (by kernel_rfl) ?_
    iterate 2 (refine aL_S rfl rfl v_ ?_)
    refine aL_alloc rfl rfl rfl g_ gl_ fun o5 ho5 => ?_
    repeat (rw [none_set_iff] at ho5; obtain ⟨_, ho5⟩ := ho5)
    refine aL_store rfl rfl rfl v_ v_ h_ g_ rfl g_ c_ (by rfl) le_ v_ ?_
    refine aL_nil ?_
    skip
    have n5 := heap_none hC ho5
    have hC1 := cbp_set2 (x := .cells [.lit (.string ⟨#[]⟩), .lit (.string ⟨#[]⟩), .lit (.int .i64 0), .lit (.int .i64 0), .lit (.int .i64 0), .lit (.int .i64 0), .lit (.int .i64 0), .lit (.string ⟨#[]⟩), .lit (.string ⟨#[]⟩), .lit (.string ⟨#[]⟩), .lit (.string ⟨#[]⟩), .lit (.slice none 0 0), .lit (.int .i64 0), .lit (.bool false), .lit (.int .i64 0), .lit (.slice none 0 0), .lit (.slice none 0 0), .lit (.slice none 0 0), .lit (.string ⟨#[]⟩), .lit (.int .i64 0)]) (y := .cells (sDeed x).cells) hC ho5
    refine awp_region (by kernel_rfl) ?_
    iterate 3 (refine aL_S rfl rfl v_ ?_)
    refine aL_buildSlice rfl rfl rfl g_ g_ rfl rfl h_ c2_ (by decide) ?_
    refine aL_X rfl rfl (AOp_appendC rfl g_ g_ hC1 va_ (fun y hy => by obtain ⟨s, _, rfl⟩ := List.mem_map.1 hy; rfl) va_ c_ (by simp; omega) fun a' σ' hC2 => ?_)
    obtain ⟨τ', hC3, hsub⟩ := cbp_drop hC2 n5
    (refine aL_S rfl rfl v_ ?_)
    refine aL_nil ?_
    refine awp_region (by kernel_rfl) ?_
    iterate 2 (refine aL_S rfl rfl v_ ?_)
    refine aL_nil ?_
    refine aNext (ι := Store × AVal × Nat) (i := ⟨τ, g, k⟩) (τ', a', k + 1) ?_ ?_ ?_ ?_
    · show L.length - (k + 1) < L.length - k; omega
    · exact ⟨by show k + 1 ≤ L.length; omega, by rw [take_snoc hx, List.map_append, List.map_append]; exact hC3⟩
    · exact cv_
    · exact hsub.wk
  · replace hc3 := nm_ hc3
    refine awp_exit ?_
    refine aThen_exit ?_
    refine aThen_exit ?_
    refine aBlock_hit ?_
    refine awp_seq ?_
    obtain rfl : k = L.length := by omega
    rw [List.take_length] at hC
    refine awp_region (by kernel_rfl) ?_
    (refine aL_S rfl rfl v_ ?_)
    refine aL_X rfl rfl (AOp_use rfl rfl (.inr ⟨rfl, rfl, rfl⟩) g_ va_ (sortStrC hC (by simp; omega)) ?_); rintro _ τ1 ⟨rfl, hC4⟩
    refine aL_nil ?_
    refine awp_seq ?_
    refine awp_region (by kernel_rfl) ?_
    (refine aL_S rfl rfl v_ ?_)
    refine aL_X rfl rfl (AOp_use rfl rfl (.inr ⟨rfl, rfl, rfl⟩) g_ va_ (compactStrC (ss := sortSS (L.map (·.lane))) hC4 (by simp [sortSS]; omega) (by refine Nat.le_trans (compact_le _) (by simp))) ?_); rintro _ _ ⟨rfl, rfl⟩
    (refine aL_S rfl rfl v_ ?_)
    refine aL_nil ?_
    refine awp_ret ?_
    refine aEnd_ret v_ (Store.Wk.refl _) ?_
    exact ⟨rfl, rfl⟩
theorem wrap_i64 {n : Int} (h0 : -9223372036854775808 ≤ n) (h1 : n ≤ 9223372036854775807) : IntKind.i64.wrap n = n := by
  unfold IntKind.wrap
  simp only [IntKind.bits, IntKind.signed, Bool.true_and]
  have e1 : (2 : Int) ^ 64 = 18446744073709551616 := by decide
  have e2 : (2 : Int) ^ 63 = 9223372036854775808 := by decide
  simp only [e1, e2, show (64 - 1 : Nat) = 63 from rfl]
  split <;> simp at * <;> omega
theorem at_n {l : List Int} {h : Int} (h0 : l ≠ []) (hl : l.length ≤ 1000000) : IntKind.i64.wrap ((IntKind.i64.wrap (max 0 (min h 100) * ((l.length : Int) - 1))).tdiv 100) = (atN l h : Int) := by
  have hp : 0 < l.length := List.length_pos_iff.2 h0
  have h1 : max 0 (min h 100) ≤ 100 := by omega
  have h2 : 0 ≤ max 0 (min h 100) := by omega
  unfold atN
  generalize max 0 (min h 100) = m at *
  have h3 : m * ((l.length : Int) - 1) ≤ 100 * ((l.length : Int) - 1) := Int.mul_le_mul_of_nonneg_right h1 (by omega)
  have h4 : 0 ≤ m * ((l.length : Int) - 1) := Int.mul_nonneg h2 (by omega)
  generalize m * ((l.length : Int) - 1) = q at *
  rw [wrap_i64 (n := q) (by omega) (by omega), Int.tdiv_eq_ediv_of_nonneg h4, wrap_i64 (n := q / 100) (by omega) (by omega)]
  omega
theorem at_get {l : List Int} {h : Int} (h0 : l ≠ []) : l[atN l h]? = some (atS l h) := by
  have := atN_lt h0 h
  unfold atS
  simp [List.getD, this]
theorem at_c {l : List Int} {h : Int} {t : Bool} {σ : Store} (hl : l.length ≤ 1000000) : ACalls Tryz.prog 16 [.sl 1 (l.map vInt) t, vInt h] σ fun v σ' => v = vInt (atS l h) ∧ σ = σ' := by
  refine ACalls_of Tryz.func16 rfl Tryz.ntmps16 (congrArg Array.toList Tryz.results16) (by simp only [List.length_cons, List.length_nil]; decide) ?_; simp only [envOf_cons, envOf_nil, Nat.reduceAdd]
  refine awp_seq ?_
  refine awp_region (by kernel_rfl) ?_
  (refine aL_S rfl rfl v_ ?_)
  refine aL_nil ?_
  refine awp_seq ?_
  refine awp_seq ?_
  refine awp_region (by kernel_rfl) ?_
  iterate 3 (refine aL_S rfl rfl v_ ?_)
  refine aL_nil ?_
  refine awp_cond v_ (fun hc1 => ?_) (fun hc1 => ?_)
  · replace hc1 := nm_ hc1
    refine awp_seq ?_
    refine awp_region (by kernel_rfl) ?_
    (refine aL_S rfl rfl v_ ?_)
    refine aL_nil ?_
    refine awp_ret ?_
    refine aEnd_ret (σ' := σ) v_ sub_ ?_
    refine ⟨?_, rfl⟩
    have : l = [] := List.eq_nil_of_length_eq_zero (by omega)
    subst this; rfl
  · replace hc1 := nm_ hc1
    refine awp_skip ?_
    refine awp_seq ?_
    have h0 : l ≠ [] := fun hh => hc1 (by rw [hh]; rfl)
    have hn := at_n (h := h) h0 hl
    have hg := at_get (h := h) h0
    have R := And.intro hn hg
    refine awp_region (by kernel_rfl) ?_
    iterate 12 (refine aL_S rfl rfl v_ ?_)
    refine aL_nil ?_
    refine awp_ret ?_
    refine aEnd_ret (σ' := σ) v_ sub_ ?_
    exact ⟨rfl, rfl⟩
end Go.Proofs.YtbjloippgpilcaaGreatDoor
end

section
set_option linter.all false
set_option maxRecDepth 100000
namespace Go.Proofs.YtbjloippgpilcaaGreatDoor
open Go.Ab
def encK (p : Int × Int) : Value := .agg #[.int .i64 p.1, .int .i64 p.2]
theorem eqK (a b : Int × Int) (w : World) : (Op.equal 61 (encK a) (encK b)).run Tryz.prog w = .ok (decide (a = b)) w := by
  have h1 : aeqIn Tryz.prog 5 61 (.agg [vInt a.1, vInt a.2]) (.agg [vInt b.1, vInt b.2]) = some (decide (a.1 = b.1) && (decide (a.2 = b.2) && true)) := by kernel_rfl
  have rv : ∀ p : Int × Int, Rv ⟨w, 0, fun _ => none, fun _ => none, fun _ => 0⟩ (.agg [vInt p.1, vInt p.2]) (encK p) := fun p => .agg _ _ rfl fun i hi => by
    match i, hi with
    | 0, _ => exact .lit _
    | 1, _ => exact .lit _
  have h2 := run_aeqIn (κ := ⟨w, 0, fun _ => none, fun _ => none, fun _ => 0⟩) 5 10000 (by decide) _ _ _ _ _ _ h1 (rv a) (rv b)
  have e : (decide (a.1 = b.1) && (decide (a.2 = b.2) && true)) = decide (a = b) := by
    obtain ⟨a1, a2⟩ := a; obtain ⟨b1, b2⟩ := b
    simp
  rw [e] at h2
  exact h2
theorem wk_sort : WKey Tryz.prog 61 encK where
  wide := by kernel_rfl
  eq := eqK
  check a e w := by kernel_rfl
  stays a w := by
    simp [Instr.keyThatStays, Instr.sameBits, encK]
theorem key_rv {κ : K} {a b : Int} {v : Value} (h : Rv κ (.agg [vInt a, vInt b]) v) : v = encK (a, b) := by
  cases h with
  | agg _ vs hn h =>
    have h0 := (h 0 (by simp)).litInv
    have h1 := (h 1 (by simp)).litInv
    simp only [List.length_cons, List.length_nil] at hn
    have : vs = #[.int .i64 a, .int .i64 b] := by
      apply Array.ext (by simpa using hn)
      intro i i1 i2
      have eg : vs.getD i undef = vs[i] := by simp [i1]
      match i, i2 with
      | 0, _ => rw [← eg, h0]; rfl
      | 1, _ => rw [← eg, h1]; rfl
    rw [this]; rfl
def kvC (M : List Cnt) : List ((Int × Int) × Value) := M.map fun c => ((c.kind, c.err), .int .i64 c.n)
theorem kv_get (k e : Int) : ∀ (M : List Cnt), (wGet (k, e) (kvC M)).getD (.int .i64 0) = .int .i64 (cGet k e M)
  | [] => rfl
  | c :: l => by
    have := kv_get k e l
    simp only [kvC, List.map_cons, wGet, cGet, Prod.mk.injEq] at *
    by_cases h : k = c.kind ∧ e = c.err
    · rw [if_pos h, if_pos h]; rfl
    · rw [if_neg h, if_neg h]; exact this
theorem kv_look (k e : Int) (M : List Cnt) : lookupRes (.int .i64 0) false (wGet (k, e) (litM (kvC M))) = vInt (cGet k e M) := by
  have := kv_get k e M
  rw [wGet_litM]
  cases h : wGet (k, e) (kvC M) with
  | none => rw [h] at this; simp only [Option.getD_none, Value.int.injEq, true_and] at this; simp [lookupRes, ofConst, ← this]
  | some v => rw [h] at this; simp only [Option.getD_some] at this; simp [lookupRes, this]
theorem kv_look2 (k e : Int) (M : List Cnt) : lookupRes (.int .i64 0) false (wGet (k, e) (litM (wPut (k, e) ((wGet (k, e) (kvC M)).getD (.int .i64 0)) (kvC M)))) = vInt (cGet k e M) := by
  rw [wGet_litM, wGet_put, kv_get]
  rfl
theorem kv_put (k e : Int) : ∀ (M : List Cnt), wPut (k, e) (.int .i64 (cGet k e M + 1)) (kvC M) = kvC (mpAdd k e M)
  | [] => rfl
  | c :: l => by
    have := kv_put k e l
    simp only [kvC, List.map_cons, wPut, cGet, mpAdd, Prod.mk.injEq] at *
    by_cases h : k = c.kind ∧ e = c.err
    · rw [if_pos h, if_pos h, if_pos h]; simp
    · rw [if_neg h, if_neg h, if_neg h, List.map_cons, this]
def decE (e : MapEntry) : Cnt :=
  match e.key, e.val with
  | .agg vs, .int _ n => match vs.toList with
    | [.int _ a, .int _ b] => ⟨a, b, n⟩
    | _ => ⟨0, 0, 0⟩
  | _, _ => ⟨0, 0, 0⟩
theorem mapIs_dec {M : List Cnt} {es : Array MapEntry} {clk : Nat} (h : MapIs (wMap encK (kvC M)) es clk) : es.toList.map decE = M ∧ ∀ e ∈ es, e.key = .agg #[.int .i64 (decE e).kind, .int .i64 (decE e).err] ∧ e.val = .int .i64 (decE e).n := by
  have h1 := h.kv
  have key : ∀ (l : List MapEntry) (M : List Cnt), l.map (fun e => (e.key, e.val)) = wMap encK (kvC M) → l.map decE = M ∧ ∀ e ∈ l, e.key = .agg #[.int .i64 (decE e).kind, .int .i64 (decE e).err] ∧ e.val = .int .i64 (decE e).n := by
    intro l
    induction l with
    | nil => intro M hM; cases M with
      | nil => exact ⟨rfl, fun e he => by cases he⟩
      | cons c M => simp [wMap, kvC] at hM
    | cons e l ih =>
      intro M hM
      cases M with
      | nil => simp [wMap, kvC] at hM
      | cons c M =>
        simp only [wMap, kvC, List.map_cons, List.cons.injEq, Prod.mk.injEq] at hM
        obtain ⟨⟨hk, hv⟩, hl⟩ := hM
        obtain ⟨i1, i2⟩ := ih M (by simpa [wMap, kvC] using hl)
        have hd : decE e = c := by unfold decE; rw [hk, hv]; rfl
        refine ⟨by rw [List.map_cons, i1, hd], fun x hx => ?_⟩
        rcases List.mem_cons.1 hx with rfl | hx
        · rw [hd]; exact ⟨hk, hv⟩
        · exact i2 x hx
  obtain ⟨k1, k2⟩ := key _ _ h1
  exact ⟨k1, fun e he => k2 e (by simpa using he)⟩
/-- what a loop over a map has taken, and what is left -/
structure RI (es : Array MapEntry) (q r : List MapEntry) (seen : Array Nat) : Prop where
  perm : (q ++ r).Perm es.toList
  seen : seen.toList = q.map (·.born)
theorem RI.step {es : Array MapEntry} {q r : List MapEntry} {seen : Array Nat} (h : RI es q r seen) {e : MapEntry} (he : e ∈ es) (hs : seen.contains e.born = false) : ∃ r', RI es (q ++ [e]) r' (seen.push e.born) ∧ r'.length + 1 = r.length := by
  have hq : e ∉ q := fun hh => by
    have h1 : e.born ∈ seen.toList := by rw [h.seen]; exact List.mem_map.2 ⟨e, hh, rfl⟩
    have h2 : seen.contains e.born = true := by simpa using h1
    rw [h2] at hs; cases hs
  have hm : e ∈ q ++ r := h.perm.mem_iff.2 (by simpa using he)
  have hr : e ∈ r := by
    rcases List.mem_append.1 hm with hh | hh
    · exact absurd hh hq
    · exact hh
  obtain ⟨r1, r2, rfl⟩ := List.append_of_mem hr
  refine ⟨r1 ++ r2, ⟨?_, by simp [h.seen]⟩, by simp; omega⟩
  refine List.Perm.trans ?_ h.perm
  rw [List.append_assoc]
  exact List.Perm.append_left q (by simpa using (List.perm_middle (a := e) (l₁ := r1) (l₂ := r2)).symm)
theorem RI.fin {es : Array MapEntry} {q r : List MapEntry} {seen : Array Nat} (h : RI es q r seen) (hnd : (es.toList.map (·.born)).Pairwise (· ≠ ·)) (hall : ∀ e ∈ es, seen.contains e.born = true) : q.Perm es.toList := by
  cases r with
  | nil => simpa using h.perm
  | cons e r =>
    have he : e ∈ es := by simpa using h.perm.mem_iff.1 (by simp : e ∈ q ++ e :: r)
    have h1 : e.born ∈ seen.toList := by simpa using hall e he
    rw [h.seen] at h1
    obtain ⟨x, hx, hxe⟩ := List.mem_map.1 h1
    have h2 : ((q ++ e :: r).map (·.born)).Pairwise (· ≠ ·) := (List.Perm.pairwise_iff (fun {a b} hh => Ne.symm hh) (h.perm.map _)).2 hnd
    rw [List.map_append, List.pairwise_append] at h2
    exact absurd hxe (h2.2.2 _ (List.mem_map.2 ⟨x, hx, rfl⟩) _ (List.mem_map.2 ⟨e, .head _, rfl⟩))

theorem countsR_c {L : List Deed} {t : Bool} {σ : Store} (hd : ∀ d ∈ L, DeedI d) (hl : L.length ≤ 1000000) : ACalls Tryz.prog 11 [.sl 20 (L.map sDeed) t] σ fun v σ' => ∃ σ1, CBp σ1 σ' 3 ((countsS L).map sCnt) v ∧ σ.Sub σ1 := by
  refine ACalls_of Tryz.func11 rfl Tryz.ntmps11 (congrArg Array.toList Tryz.results11) (by simp only [List.length_cons, List.length_nil]; decide) ?_; simp only [envOf_cons, envOf_nil, Nat.reduceAdd]
  refine awp_seq ?_
  refine awp_region (by kernel_rfl) ?_
  (refine aL_S rfl rfl v_ ?_)
  refine aL_nil ?_
  refine awp_seq ?_
  refine awp_region (by kernel_rfl) ?_
  refine aL_X rfl rfl (AOp_makeMap rfl fun o9 ho9 => ?_)
  repeat (rw [none_set_iff] at ho9; obtain ⟨_, ho9⟩ := ho9)
  (refine aL_S rfl rfl v_ ?_)
  refine aL_nil ?_
  refine awp_seq ?_
  refine awp_seq ?_
  refine awp_region (by kernel_rfl) ?_
  iterate 3 (refine aL_S rfl rfl v_ ?_)
  refine aL_nil ?_
  refine awp_block ?_
  refine awp_loop_env (ι := Nat) (fun k => L.length - k) (fun k => k ≤ L.length) (fun k => [(3, .map o9), (10, .sl 20 (L.map sDeed) t), (11, vInt L.length), (12, vInt k)]) (fun k => (σ.set o9 (.map (wMap encK (litM (kvC (mpS (L.take k)))))))) 0 ?_ ?_ ?_ ?_
  · exact Nat.zero_le _
  · exact cv_
  · exact Store.Wk.refl _
  rintro k hk
  simp only [envL_cons, envL_nil]
  refine awp_seq ?_
  refine awp_region (by kernel_rfl) ?_
  (refine aL_S rfl rfl v_ ?_)
  refine aL_nil ?_
  refine awp_seq ?_
  refine awp_cond v_ (fun hc3 => ?_) (fun hc3 => ?_)
  · replace hc3 := nm_ hc3
    refine awp_skip ?_
    refine awp_seq ?_
    refine awp_block ?_
    refine awp_seq ?_
    obtain ⟨x, hx⟩ := get_some (l := L) (k := k) (by omega)
    have hxm := hd x (List.mem_of_getElem? hx)
    have hbd : 0 ≤ cGet x.kind x.err (mpS (L.take k)) ∧ cGet x.kind x.err (mpS (L.take k)) ≤ (L.take k).length := cGet_bd (by omega) (mpS_bd _)
    rw [List.length_take] at hbd
    have hlk := kv_look x.kind x.err (mpS (L.take k))
    have hlk2 := kv_look2 x.kind x.err (mpS (L.take k))
    have hpt := kv_put x.kind x.err (mpS (L.take k))
    have R := hx
    refine awp_region (by kernel_rfl) ?_
    iterate 2 (refine aL_S rfl rfl v_ ?_)
    refine aL_alloc rfl rfl rfl g_ gl_ fun o5 ho5 => ?_
    repeat (rw [none_set_iff] at ho5; obtain ⟨_, ho5⟩ := ho5)
    refine aL_store rfl rfl rfl v_ v_ h_ g_ rfl g_ c_ (by rfl) le_ v_ ?_
    refine aL_nil ?_
    refine awp_seq ?_
    refine awp_region (by kernel_rfl) ?_
    iterate 2 (refine aL_S rfl rfl v_ ?_)
    refine aL_nil ?_
    skip
    have n59 : o5 ≠ o9 := by assumption
    have subN : ∀ (A B C : AObj), (σ.set o9 A).Wk (((σ.set o9 A).set o5 B).set o5 C) := fun A B C => by
      rw [Store.set_set]
      exact Store.Sub.wk ⟨fun j y hy => by rw [Store.set_ne _ _ (fun hh' => by rw [hh', Store.set_ne _ _ n59, ho5] at hy; cases hy)]; exact hy, fun _ _ h => h⟩
    have subY : ∀ (A B C R X : AObj), (σ.set o9 X).Wk (((((σ.set o9 A).set o5 B).set o5 C).set o9 R).set o9 X) := fun A B C R X => by
      rw [Store.set_set, Store.set_set, set_swap n59, Store.set_set, ← Store.set_set (σ := σ.set o9 X) (o := o5) (x := B)]
      exact subN X B C
    refine awp_cond v_ (fun hc5 => ?_) (fun hc5 => ?_)
    · replace hc5 := nm_ hc5
      have hcov : mpS (L.take (k + 1)) = mpAdd x.kind x.err (mpS (L.take k)) := by rw [take_snoc hx]; simp [mpS, mStep, hc5]
      refine awp_draw (.op 0 0 (.op 1 0 (.op 2 0 (.op 3 0 (.op 4 0 (.op 5 0 (.op 6 0 (.op 7 0 (.alt 8 2 (.alt 9 2 (.op 10 2 (.op 11 0 (.op 12 2 .nil))) (.op 10 2 (.op 11 0 (.op 9 2 (.op 12 2 .nil))))) (.op 10 2 (.op 11 0 (.op 8 2 (.op 9 2 (.op 12 2 .nil)))))))))))))) Tryz.mixed (by kernel_rfl) ?_
      iterate 8 (refine dR_S o_ (by rfl) (by rfl) v_ ?_)
      refine dR_alt ?_ ?_
      · first | (have hkv2 := hkv1; refine dR_T o_ (by rfl) (by rfl) (AOp_lookupRaw (t := 59) (kt := 61) (et := 3) (z := .int .i64 0) (kb := (x.kind, x.err)) (by rfl) (by kernel_rfl) wk_sort (by kernel_rfl) va_ h_ hkv1 (fun κ v h => key_rv h) ?_); rw [hlk2]) | (refine dR_T o_ (by rfl) (by rfl) (AOp_lookupW (t := 59) (kt := 61) (et := 3) (z := .int .i64 0) (kb := (x.kind, x.err)) (kvs := litM (kvC (mpS (L.take k)))) (by rfl) (by kernel_rfl) wk_sort (by kernel_rfl) va_ h_ (fun κ v h => key_rv h) ?_); rw [hlk])
        refine dR_alt ?_ ?_
        · refine dR_T o_ (by rfl) (by rfl) (AOp_val v_ ?_)
          refine dR_T o_ (by rfl) (by rfl) (AOp_mapEntryW (t := 59) (kt := 61) (et := 3) (z := .int .i64 0) (kb := (x.kind, x.err)) (kvs := kvC (mpS (L.take k))) (by rfl) (by kernel_rfl) wk_sort (by kernel_rfl) va_ h_ (fun κ v h => key_rv h) fun es clk born hst hkv1 => ?_)
          (refine dR_S o_ (by rfl) (by rfl) v_ ?_)
          refine dR_T0 o_ (by rfl) (by rfl) (AOp_entryStore (by rfl) va_ h_ va_ va_ hst ?_)
          refine dR_nil ?_
          refine awp_region (by kernel_rfl) ?_
          iterate 2 (refine aL_S rfl rfl v_ ?_)
          refine aL_nil ?_
          refine aNext (ι := Nat) (i := k) (k + 1) ?_ ?_ ?_ ?_
          · omega
          · exact (by omega)
          · exact cv_
          · rw [hcov, ← wMap_litM, hpt]; exact subY _ _ _ _ _
        refine dR_T o_ (by rfl) (by rfl) (AOp_mapEntryW (t := 59) (kt := 61) (et := 3) (z := .int .i64 0) (kb := (x.kind, x.err)) (kvs := kvC (mpS (L.take k))) (by rfl) (by kernel_rfl) wk_sort (by kernel_rfl) va_ h_ (fun κ v h => key_rv h) fun es clk born hst hkv1 => ?_)
        (refine dR_S o_ (by rfl) (by rfl) v_ ?_)
        refine dR_T o_ (by rfl) (by rfl) (AOp_val v_ ?_)
        refine dR_T0 o_ (by rfl) (by rfl) (AOp_entryStore (by rfl) va_ h_ va_ va_ hst ?_)
        refine dR_nil ?_
        refine awp_region (by kernel_rfl) ?_
        iterate 2 (refine aL_S rfl rfl v_ ?_)
        refine aL_nil ?_
        refine aNext (ι := Nat) (i := k) (k + 1) ?_ ?_ ?_ ?_
        · omega
        · exact (by omega)
        · exact cv_
        · rw [hcov, ← wMap_litM, hpt]; exact subY _ _ _ _ _
      refine dR_T o_ (by rfl) (by rfl) (AOp_mapEntryW (t := 59) (kt := 61) (et := 3) (z := .int .i64 0) (kb := (x.kind, x.err)) (kvs := kvC (mpS (L.take k))) (by rfl) (by kernel_rfl) wk_sort (by kernel_rfl) va_ h_ (fun κ v h => key_rv h) fun es clk born hst hkv1 => ?_)
      (refine dR_S o_ (by rfl) (by rfl) v_ ?_)
      first | (have hkv2 := hkv1; refine dR_T o_ (by rfl) (by rfl) (AOp_lookupRaw (t := 59) (kt := 61) (et := 3) (z := .int .i64 0) (kb := (x.kind, x.err)) (by rfl) (by kernel_rfl) wk_sort (by kernel_rfl) va_ h_ hkv1 (fun κ v h => key_rv h) ?_); rw [hlk2]) | (refine dR_T o_ (by rfl) (by rfl) (AOp_lookupW (t := 59) (kt := 61) (et := 3) (z := .int .i64 0) (kb := (x.kind, x.err)) (kvs := litM (kvC (mpS (L.take k)))) (by rfl) (by kernel_rfl) wk_sort (by kernel_rfl) va_ h_ (fun κ v h => key_rv h) ?_); rw [hlk])
      refine dR_T o_ (by rfl) (by rfl) (AOp_val v_ ?_)
      refine dR_T0 o_ (by rfl) (by rfl) (AOp_entryStore (by rfl) va_ h_ va_ va_ hst ?_)
      refine dR_nil ?_
      refine awp_region (by kernel_rfl) ?_
      iterate 2 (refine aL_S rfl rfl v_ ?_)
      refine aL_nil ?_
      refine aNext (ι := Nat) (i := k) (k + 1) ?_ ?_ ?_ ?_
      · omega
      · exact (by omega)
      · exact cv_
      · rw [hcov, ← wMap_litM, hpt]; exact subY _ _ _ _ _
    · replace hc5 := nm_ hc5
      have hcov : mpS (L.take (k + 1)) = mpS (L.take k) := by rw [take_snoc hx]; simp [mpS, mStep, hc5]
      refine awp_skip ?_
      refine awp_region (by kernel_rfl) ?_
      iterate 2 (refine aL_S rfl rfl v_ ?_)
      refine aL_nil ?_
      refine aNext (ι := Nat) (i := k) (k + 1) ?_ ?_ ?_ ?_
      · omega
      · exact (by omega)
      · exact cv_
      · rw [hcov]; exact subN _ _ _
  · replace hc3 := nm_ hc3
    refine awp_exit ?_
    refine aThen_exit ?_
    refine aThen_exit ?_
    refine aBlock_hit ?_
    refine awp_seq ?_
    obtain rfl : k = L.length := by omega
    rw [List.take_length]
    refine awp_region (by kernel_rfl) ?_
    (refine aL_S rfl rfl v_ ?_)
    refine aL_nil ?_
    refine awp_seq ?_
    refine awp_seq ?_
    refine awp_region (by kernel_rfl) ?_
    (refine aL_S rfl rfl v_ ?_)
    refine aL_X rfl rfl (AOp_range (t := 59) (kt := 61) (et := 3) (kvs := wMap encK (kvC (mpS L))) rfl (by kernel_rfl) va_ (by rw [Store.set_get, wMap_litM]) fun es clk i32 hmi ho32 n32 => ?_)
    obtain ⟨hdec, hent⟩ := mapIs_dec hmi
    rw [Store.set_ne _ _ n32] at ho32
    rw [Store.set_set]
    refine aL_nil ?_
    refine awp_block ?_
    refine awp_loop_env (ι := Store × AVal × List MapEntry × List MapEntry × Array Nat) (fun ⟨τ, g, q, r, seen⟩ => r.length) (fun ⟨τ, g, q, r, seen⟩ => RI es q r seen ∧ CBp ((σ.set o9 (.raw (.map es clk))).set i32 (.mapIter (some o9) clk seen clk)) τ 3 ((q.map decE).map sCnt) g) (fun ⟨τ, g, q, r, seen⟩ => [(6, g), (32, .ref i32 0)]) (fun ⟨τ, g, q, r, seen⟩ => τ) ((σ.set o9 (.raw (.map es clk))).set i32 (.mapIter (some o9) clk #[] clk), vNil, [], es.toList, #[]) ?_ ?_ ?_ ?_
    · exact ⟨⟨by simp, rfl⟩, .inl ⟨rfl, rfl, rfl⟩⟩
    · exact cv_
    · exact Store.Wk.refl _
    rintro ⟨τ, g, q, r, seen⟩ ⟨hR, hC⟩
    simp only [envL_cons, envL_nil]
    refine awp_seq ?_
    have hi1 := hC.sub.heap i32 _ (Store.set_get ..)
    have hm1 := hC.sub.heap o9 (.raw (.map es clk)) (by rw [Store.set_ne _ _ (Ne.symm n32)]; exact Store.set_get ..)
    refine awp_region (by kernel_rfl) ?_
    refine aL_X rfl rfl (AOp_nextR rfl va_ hi1 hm1 hmi.lt fun bb rest σ' hbb => ?_)
    (refine aL_S rfl rfl v_ ?_)
    refine aL_nil ?_
    refine awp_seq ?_
    refine awp_cond v_ (fun hc10 => ?_) (fun hc10 => ?_)
    · replace hc10 := nm_ hc10
      skip
      rcases hbb with ⟨rfl, _⟩ | ⟨_, e, he, hse, rfl⟩
      · cases hc10
      obtain ⟨r', hR', hlen⟩ := hR.step he hse
      obtain ⟨hek, hev⟩ := hent e he
      have hCi := cbp_reset (y := .mapIter (some o9) clk (seen.push e.born) clk) hC
      have hi2 := Store.set_get τ i32 (.mapIter (some o9) clk (seen.push e.born) clk)
      have hm2 : (τ.set i32 (.mapIter (some o9) clk (seen.push e.born) clk)).heap o9 = some (.raw (.map es clk)) := by rw [Store.set_ne _ _ (Ne.symm n32)]; exact hm1
      generalize hτ : τ.set i32 (.mapIter (some o9) clk (seen.push e.born) clk) = υ at *
      refine awp_skip ?_
      refine awp_block ?_
      refine awp_seq ?_
      refine awp_region (by kernel_rfl) ?_
      refine aL_X rfl rfl (AOp_entry rfl va_ hi2 hm2 hmi.nd he ?_)
      rw [hek, hev]
      simp only [ofConst, List.map_cons, List.map_nil]
      iterate 2 (refine aL_S rfl rfl v_ ?_)
      refine aL_alloc rfl rfl rfl g_ gl_ fun o7 ho7 => ?_
      repeat (rw [none_set_iff] at ho7; obtain ⟨_, ho7⟩ := ho7)
      refine aL_store rfl rfl rfl v_ v_ h_ g_ rfl g_ c_ (by rfl) le_ v_ ?_
      (refine aL_S rfl rfl v_ ?_)
      refine aL_nil ?_
      skip
      have n7 := heap_none hCi ho7
      have hC1 := cbp_set2 (x := .cells [.lit (.int .i64 0), .lit (.int .i64 0)]) (y := .cells [vInt (decE e).kind, vInt (decE e).err]) hCi ho7
      have hql : q.length ≤ 1000000 := by
        have h1 := hR.perm.length_eq
        have h2 := congrArg List.length hdec
        have h3 := mpS_len L
        simp only [List.length_append, List.length_map] at h1 h2
        omega
      refine awp_region (by kernel_rfl) ?_
      iterate 7 (refine aL_S rfl rfl v_ ?_)
      refine aL_buildSlice rfl rfl rfl g_ g_ rfl rfl h_ c2_ (by decide) ?_
      refine aL_X rfl rfl (AOp_appendC rfl g_ g_ hC1 va_ (fun y hy => szCnt _ y hy) va_ c_ (by simp; omega) fun a' σ' hC2 => ?_)
      obtain ⟨τ', hC3, hsub⟩ := cbp_drop hC2 n7
      (refine aL_S rfl rfl v_ ?_)
      refine aL_nil ?_
      refine aNext (ι := Store × AVal × List MapEntry × List MapEntry × Array Nat) (i := ⟨τ, g, q, r, seen⟩) (τ', a', q ++ [e], r', seen.push e.born) ?_ ?_ ?_ ?_
      · show r'.length < r.length; omega
      · exact ⟨hR', by rw [List.map_append, List.map_append]; exact hC3⟩
      · exact cv_
      · exact hsub.wk
    · replace hc10 := nm_ hc10
      skip
      rcases hbb with ⟨_, hall, rfl⟩ | ⟨rfl, _⟩
      case inr => cases hc10
      have hp : (q.map decE).Perm (mpS L) := by rw [← hdec]; exact (hR.fin hmi.nd hall).map decE
      have hpl := hp.length_eq
      have hml := mpS_len L
      have hsub0 : σ.Sub ((σ.set o9 (.raw (.map es clk))).set i32 (.mapIter (some o9) clk seen clk)) := ⟨fun j y hy => by
        rw [Store.set_ne _ _ (fun hh => by rw [hh, ho32] at hy; cases hy), Store.set_ne _ _ (fun hh => by rw [hh, ho9] at hy; cases hy)]; exact hy, fun _ _ h => h⟩
      refine awp_exit ?_
      refine aThen_exit ?_
      refine aThen_exit ?_
      refine aBlock_hit ?_
      refine awp_seq ?_
      refine awp_region (by kernel_rfl) ?_
      (refine aL_S rfl rfl v_ ?_)
      refine aL_X rfl rfl (AOp_use rfl rfl (.inr ⟨rfl, rfl, rfl⟩) g_ va_ (sortFuncC hC (by omega)) ?_); rintro _ τ1 ⟨rfl, L', hp1, hs1, hC4⟩
      refine aL_nil ?_
      refine awp_seq ?_
      have hfin := counts_sorted (hp1.trans hp) hs1
      refine awp_region (by kernel_rfl) ?_
      iterate 2 (refine aL_S rfl rfl v_ ?_)
      refine aL_nil ?_
      refine awp_ret ?_
      exact aEnd_ret (σ' := τ1) va_ sub_ ⟨_, by rw [← hfin]; exact hC4, hsub0⟩
theorem counts_c {L : List Deed} {t : Bool} {σ : Store} (hd : ∀ d ∈ L, DeedI d) (hl : L.length ≤ 1000000) : ACalls Tryz.prog 11 [.sl 20 (L.map sDeed) t] σ fun v σ' => v = .sl 3 ((countsS L).map sCnt) false ∧ σ = σ' :=
  frozenS (countsR_c hd hl) (szCnt _)
end Go.Proofs.YtbjloippgpilcaaGreatDoor
end
