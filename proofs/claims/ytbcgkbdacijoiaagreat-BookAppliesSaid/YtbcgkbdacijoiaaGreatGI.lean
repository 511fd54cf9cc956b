/-
  Books: whether they may be, few, the same; records. Both sides; The library's Clone and DeleteFunc at pantler/api.Item; Something put into a row of pantler/api.Item by its place: binary search, slices.Insert, with; The library's Clone and DeleteFunc at pantler/api.Mint; Something put into a row of pantler/api.Mint by its place: binary search, slices.Insert, with; What a book has of a place, what it would mint next, its size; without a place; Records of a book, on both sides; what a book has of a place; its size; CONTEXTS AND OBJECTS, as they come in; MESSAGES, as they come in; Books, as they come in. Own work (an AI agent).
-/
import Derived.Test.YtbcgkbdacijoiaaGreatGG
import Derived.Test.YtbcgkbdacijoiaaGreatGH
import Derived.Test.YtbcgkbdacijoiaaGreatGM
import Derived.Test.YtbcgkbdacijoiaaGreatGE

section
set_option linter.all false
set_option maxRecDepth 100000
namespace Go.Proofs.YtbcgkbdacijoiaaGreat
open Go.Ab
structure MntSm (x : Mnt) : Prop where
  place : x.place.size ≤ 1000000
  n : -1000000000000000000 ≤ x.n ∧ x.n ≤ 1000000000000000000
structure BkSm (b : Bk) : Prop where
  items : ∀ x ∈ b.items, ItemSm x
  mints : ∀ x ∈ b.mints, x.place.size ≤ 1000000
  ni : b.items.length ≤ 100000
  nm : b.mints.length ≤ 100000
theorem isCount_c {n : Int} {σ : Store} : ACalls Tryz.prog 89 [vInt n] σ fun v σ' => v = vB (cntOk n) ∧ σ = σ' := by
  refine ACalls_of Tryz.func89 rfl Tryz.ntmps89 (congrArg Array.toList Tryz.results89) (by simp only [List.length_cons, List.length_nil]; decide) ?_; simp only [envOf_cons, envOf_nil, Nat.reduceAdd]
  refine awp_seq ?_
  refine awp_region (by kernel_rfl) ?_
  (refine aL_S rfl rfl v_ ?_)
  refine aL_nil ?_
  refine awp_seq ?_
  refine awp_region (by kernel_rfl) ?_
  iterate 3 (refine aL_S rfl rfl v_ ?_)
  refine aL_GT rfl rfl v_ rfl vg_ ?_
  refine aL_GT rfl rfl v_ rfl vg_ ?_
  iterate 2 (refine aL_S rfl rfl v_ ?_)
  refine aL_nil ?_
  refine awp_ret ?_
  refine aEnd_ret (σ' := σ) v_ sub_ ?_
  exact ⟨rfl, rfl⟩
theorem mintPlace_c {x : Mnt} {σ : Store} : ACalls Tryz.prog 150 [sMnt x] σ fun v σ' => v = vStr x.place ∧ σ = σ' := by
  refine ACalls_of Tryz.func150 rfl Tryz.ntmps150 (congrArg Array.toList Tryz.results150) (by simp only [List.length_cons, List.length_nil]; decide) ?_; simp only [envOf_cons, envOf_nil, Nat.reduceAdd]
  refine awp_seq ?_
  refine awp_region (by kernel_rfl) ?_
  refine aL_box rfl rfl rfl v_ rfl g_ fun o1 ho1 => ?_
  repeat (rw [none_set_iff] at ho1; obtain ⟨_, ho1⟩ := ho1)
  (refine aL_S rfl rfl v_ ?_)
  refine aL_nil ?_
  refine awp_seq ?_
  refine awp_region (by kernel_rfl) ?_
  iterate 3 (refine aL_S rfl rfl v_ ?_)
  refine aL_nil ?_
  refine awp_ret ?_
  refine aEnd_ret (σ' := σ) v_ sub_ ?_
  exact ⟨rfl, rfl⟩
theorem riseM_c {l : List Mnt} {t : Bool} {σ : Store} (hx : ∀ x ∈ l, x.place.size ≤ 1000000) (hn : l.length ≤ 1000000) : ACalls Tryz.prog 149 [.sl 2 (l.map sMnt) t, .lit (.func (.func 150) #[] #[])] σ fun v σ' => v = vB (upGo (fun x => placeOk x.place) Mnt.place none l) ∧ σ = σ' := by
  refine ACalls_of Tryz.func149 rfl Tryz.ntmps149 (congrArg Array.toList Tryz.results149) (by simp only [List.length_cons, List.length_nil]; decide) ?_; simp only [envOf_cons, envOf_nil, Nat.reduceAdd]
  refine awp_seq ?_
  refine awp_region (by kernel_rfl) ?_
  (refine aL_S rfl rfl v_ ?_)
  refine aL_nil ?_
  refine awp_seq ?_
  refine awp_seq ?_
  refine awp_region (by kernel_rfl) ?_
  iterate 3 (refine aL_S rfl rfl v_ ?_)
  refine aL_nil ?_
  refine awp_block ?_
  refine awp_loop_env (ι := Nat) (fun k => l.length - k) (fun k => k ≤ l.length ∧ upGo (fun x => placeOk x.place) Mnt.place (pvK Mnt.place l k) (l.drop k) = upGo (fun x => placeOk x.place) Mnt.place none l) (fun k => [(0, .sl 2 (l.map sMnt) t), (1, .lit (.func (.func 150) #[] #[])), (7, .sl 2 (l.map sMnt) t), (8, vInt l.length), (9, vInt k)]) (fun k => σ) 0 ?_ ?_ ?_ ?_
  · exact ⟨Nat.zero_le _, rfl⟩
  · exact cv_
  · exact sub_
  rintro k ⟨hk, hr⟩
  simp only [envL_cons, envL_nil]
  refine awp_seq ?_
  refine awp_region (by kernel_rfl) ?_
  (refine aL_S rfl rfl v_ ?_)
  refine aL_nil ?_
  refine awp_seq ?_
  refine awp_cond v_ (fun hc2 => ?_) (fun hc2 => ?_)
  · replace hc2 := nm_ hc2
    refine awp_skip ?_
    refine awp_seq ?_
    refine awp_block ?_
    refine awp_seq ?_
    obtain ⟨x, hxk⟩ := get_some (l := l) (k := k) (by omega)
    have hsx := hx x (List.mem_of_getElem? hxk)
    obtain ⟨y, hy, hah⟩ := pvK_prev Mnt.place l k (by omega)
    have hst : upGo (fun x => placeOk x.place) Mnt.place (pvK Mnt.place l k) (l.drop k) = (placeOk x.place && aheadOk (pvK Mnt.place l k) x.place && upGo (fun x => placeOk x.place) Mnt.place (some x.place) (l.drop (k + 1))) := by rw [drop_cons hxk]; rfl
    have R := hxk
    refine awp_region (by kernel_rfl) ?_
    iterate 3 (refine aL_S rfl rfl v_ ?_)
    refine aL_alloc rfl rfl rfl g_ gl_ fun o6 ho6 => ?_
    repeat (rw [none_set_iff] at ho6; obtain ⟨_, ho6⟩ := ho6)
    (refine aL_S rfl rfl v_ ?_)
    refine aL_store rfl rfl rfl v_ v_ h_ g_ rfl g_ c_ (by rfl) le_ v_ ?_
    refine aL_nil ?_
    refine awp_seq ?_
    have R := hy
    refine awp_draw (.op 0 0 (.op 1 0 (.op 2 1 (.op 3 1 (.op 4 0 (.op 5 0 (.op 6 0 (.op 7 0 (.op 8 0 (.op 9 0 (.op 10 0 (.op 11 0 (.op 12 0 (.op 13 0 (.op 14 0 (.op 16 0 (.op 17 0 (.op 15 1 (.op 18 1 (.op 19 0 (.op 20 0 (.op 21 0 .nil)))))))))))))))))))))) Tryz.mixed (by kernel_rfl) ?_
    iterate 2 (refine dR_S o_ (by rfl) (by rfl) v_ ?_)
    refine dR_X o_ (by rfl) (by rfl) (AOp_use (by rfl) (by rfl) (.inr ⟨va_, by rfl, by rfl⟩) g_ va_ (mintPlace_c) ?_); rintro _ _ ⟨rfl, rfl⟩; refine ⟨sub_, ?_⟩
    refine dR_X o_ (by rfl) (by rfl) (AOp_use (by rfl) (by rfl) (.inr ⟨by rfl, by rfl, by rfl⟩) g_ va_ (isPlace_c (by omega)) ?_); rintro _ _ ⟨rfl, rfl⟩; refine ⟨sub_, ?_⟩
    iterate 2 (refine dR_S o_ (by rfl) (by rfl) v_ ?_)
    refine dR_GF o_ (by rfl) (by rfl) v_ (by rfl) vg_ ?_
    refine dR_GF o_ (by rfl) (by rfl) v_ (by rfl) vg_ ?_
    refine dR_GF o_ (by rfl) (by rfl) v_ (by rfl) vg_ ?_
    refine dR_GGT o_ (by rfl) (by rfl) v_ (by rfl) vg_ ?_
    refine dR_GGT o_ (by rfl) (by rfl) v_ (by rfl) vg_ ?_
    refine dR_GGT o_ (by rfl) (by rfl) v_ (by rfl) vg_ ?_
    refine dR_GGT o_ (by rfl) (by rfl) v_ (by rfl) vg_ ?_
    refine dR_GGT o_ (by rfl) (by rfl) v_ (by rfl) vg_ ?_
    refine dR_GGT o_ (by rfl) (by rfl) v_ (by rfl) vg_ ?_
    refine dR_GGT o_ (by rfl) (by rfl) v_ (by rfl) vg_ ?_
    refine dR_GGT o_ (by rfl) (by rfl) v_ (by rfl) vg_ ?_
    refine dR_GGTX o_ (by rfl) (by rfl) v_ (by rfl) sub_ (fun hb => AOp_useV (by rfl) (by rfl) (.inr ⟨vh_, by rfl, by rfl⟩) g_ cg_ (mintPlace_c)) ?_
    refine dR_GGTX o_ (by rfl) (by rfl) v_ (by rfl) sub_ (fun hb => AOp_useV (by rfl) (by rfl) (.inr ⟨vh_, by rfl, by rfl⟩) g_ cg_ (mintPlace_c)) ?_
    refine dR_GGT o_ (by rfl) (by rfl) v_ (by rfl) vg_ ?_
    refine dR_GF o_ (by rfl) (by rfl) v_ (by rfl) vg_ ?_
    (refine dR_S o_ (by rfl) (by rfl) v_ ?_)
    refine dR_nil ?_
    refine awp_cond v_ (fun hc4 => ?_) (fun hc4 => ?_)
    · replace hc4 := nm_ hc4
      refine awp_seq ?_
      refine awp_region (by kernel_rfl) ?_
      (refine aL_S rfl rfl v_ ?_)
      refine aL_nil ?_
      refine awp_ret ?_
      refine aEnd_ret (σ' := σ) v_ sub_ ?_
      refine ⟨?_, rfl⟩
      rw [← hr, hst, up_no (hah _) hc4]
    · replace hc4 := nm_ hc4
      have hnx : upGo (fun x => placeOk x.place) Mnt.place (pvK Mnt.place l (k + 1)) (l.drop (k + 1)) = upGo (fun x => placeOk x.place) Mnt.place none l := by rw [pvK_next hxk, ← hr, hst, up_yes (hah _) hc4]
      refine awp_skip ?_
      refine awp_region (by kernel_rfl) ?_
      iterate 2 (refine aL_S rfl rfl v_ ?_)
      refine aL_nil ?_
      refine aNext (ι := Nat) (i := k) (k + 1) ?_ ?_ ?_ ?_
      · omega
      · exact ⟨by omega, hnx⟩
      · exact cv_
      · exact sub_
  · replace hc2 := nm_ hc2
    refine awp_exit ?_
    refine aThen_exit ?_
    refine aThen_exit ?_
    refine aBlock_hit ?_
    refine awp_seq ?_
    refine awp_region (by kernel_rfl) ?_
    (refine aL_S rfl rfl v_ ?_)
    refine aL_nil ?_
    refine awp_ret ?_
    refine aEnd_ret (σ' := σ) v_ sub_ ?_
    refine ⟨?_, rfl⟩
    rw [← hr, List.drop_eq_nil_of_le (by omega)]; rfl
theorem checkM2_c {x : Mnt} {σ : Store} : ACalls Tryz.prog 154 [sMnt x] σ fun v σ' => v = vB (!cntOk x.n) ∧ σ = σ' := by
  refine ACalls_of Tryz.func154 rfl Tryz.ntmps154 (congrArg Array.toList Tryz.results154) (by simp only [List.length_cons, List.length_nil]; decide) ?_; simp only [envOf_cons, envOf_nil, Nat.reduceAdd]
  refine awp_seq ?_
  refine awp_region (by kernel_rfl) ?_
  refine aL_box rfl rfl rfl v_ rfl g_ fun o1 ho1 => ?_
  repeat (rw [none_set_iff] at ho1; obtain ⟨_, ho1⟩ := ho1)
  (refine aL_S rfl rfl v_ ?_)
  refine aL_nil ?_
  refine awp_seq ?_
  refine awp_region (by kernel_rfl) ?_
  iterate 2 (refine aL_S rfl rfl v_ ?_)
  refine aL_X rfl rfl (AOp_use rfl rfl (.inr ⟨rfl, rfl, rfl⟩) g_ va_ (isCount_c) ?_); rintro _ _ ⟨rfl, rfl⟩
  iterate 2 (refine aL_S rfl rfl v_ ?_)
  refine aL_nil ?_
  refine awp_ret ?_
  refine aEnd_ret (σ' := σ) v_ sub_ ?_
  exact ⟨rfl, rfl⟩
theorem indexM_c {l : List Mnt} {t : Bool} {σ : Store} (hn : l.length ≤ 1000000) : ACalls Tryz.prog 144 [.sl 2 (l.map sMnt) t, .lit (.func (.func 154) #[] #[])] σ fun v σ' => (∃ r, v = vInt r ∧ decide (0 ≤ r) = l.any (fun x => !cntOk x.n)) ∧ σ = σ' := by
  refine ACalls_of Tryz.func144 rfl Tryz.ntmps144 (congrArg Array.toList Tryz.results144) (by simp only [List.length_cons, List.length_nil]; decide) ?_; simp only [envOf_cons, envOf_nil, Nat.reduceAdd]
  refine awp_seq ?_
  refine awp_region (by kernel_rfl) ?_
  (refine aL_S rfl rfl v_ ?_)
  refine aL_nil ?_
  refine awp_seq ?_
  refine awp_seq ?_
  refine awp_region (by kernel_rfl) ?_
  iterate 3 (refine aL_S rfl rfl v_ ?_)
  refine aL_nil ?_
  refine awp_block ?_
  refine awp_loop_env (ι := Nat) (fun k => l.length - k) (fun k => k ≤ l.length ∧ (l.take k).any (fun x => !cntOk x.n) = false) (fun k => [(0, .sl 2 (l.map sMnt) t), (1, .lit (.func (.func 154) #[] #[])), (7, vInt l.length), (8, vInt k)]) (fun k => σ) 0 ?_ ?_ ?_ ?_
  · exact ⟨Nat.zero_le _, rfl⟩
  · exact cv_
  · exact sub_
  rintro k ⟨hk, ha⟩
  simp only [envL_cons, envL_nil]
  refine awp_seq ?_
  refine awp_region (by kernel_rfl) ?_
  (refine aL_S rfl rfl v_ ?_)
  refine aL_nil ?_
  refine awp_seq ?_
  refine awp_cond v_ (fun hc2 => ?_) (fun hc2 => ?_)
  · replace hc2 := nm_ hc2
    refine awp_skip ?_
    refine awp_seq ?_
    refine awp_block ?_
    refine awp_seq ?_
    obtain ⟨x, hxk⟩ := get_some (l := l) (k := k) (by omega)
    refine awp_region (by kernel_rfl) ?_
    iterate 2 (refine aL_S rfl rfl v_ ?_)
    refine aL_nil ?_
    refine awp_seq ?_
    have R := hxk
    refine awp_region (by kernel_rfl) ?_
    iterate 5 (refine aL_S rfl rfl v_ ?_)
    refine aL_X rfl rfl (AOp_use rfl rfl (.inr ⟨va_, rfl, rfl⟩) g_ va_ (checkM2_c) ?_); rintro _ _ ⟨rfl, rfl⟩
    refine aL_nil ?_
    refine awp_cond v_ (fun hc4 => ?_) (fun hc4 => ?_)
    · replace hc4 := nm_ hc4
      refine awp_seq ?_
      refine awp_region (by kernel_rfl) ?_
      iterate 2 (refine aL_S rfl rfl v_ ?_)
      refine aL_nil ?_
      refine awp_ret ?_
      refine aEnd_ret (σ' := σ) v_ sub_ ?_
      exact ⟨⟨(k : Int), rfl, by rw [decide_eq_true (by omega)]; exact (any_yes hxk (by simpa using hc4)).symm⟩, rfl⟩
    · replace hc4 := nm_ hc4
      refine awp_skip ?_
      refine awp_region (by kernel_rfl) ?_
      iterate 2 (refine aL_S rfl rfl v_ ?_)
      refine aL_nil ?_
      refine aNext (ι := Nat) (i := k) (k + 1) ?_ ?_ ?_ ?_
      · omega
      · exact ⟨by omega, any_next hxk (by simpa using hc4) ha⟩
      · exact cv_
      · exact sub_
  · replace hc2 := nm_ hc2
    refine awp_exit ?_
    refine aThen_exit ?_
    refine aThen_exit ?_
    refine aBlock_hit ?_
    refine awp_seq ?_
    refine awp_region (by kernel_rfl) ?_
    (refine aL_S rfl rfl v_ ?_)
    refine aL_nil ?_
    refine awp_ret ?_
    refine aEnd_ret (σ' := σ) v_ sub_ ?_
    exact ⟨⟨-1, rfl, (any_end (by omega) ha).symm⟩, rfl⟩
theorem containsM_c {l : List Mnt} {t : Bool} {σ : Store} (hn : l.length ≤ 1000000) : ACalls Tryz.prog 153 [.sl 2 (l.map sMnt) t, .lit (.func (.func 154) #[] #[])] σ fun v σ' => v = vB (l.any fun x => !cntOk x.n) ∧ σ = σ' := by
  refine ACalls_of Tryz.func153 rfl Tryz.ntmps153 (congrArg Array.toList Tryz.results153) (by simp only [List.length_cons, List.length_nil]; decide) ?_; simp only [envOf_cons, envOf_nil, Nat.reduceAdd]
  refine awp_seq ?_
  refine awp_region (by kernel_rfl) ?_
  (refine aL_S rfl rfl v_ ?_)
  refine aL_nil ?_
  refine awp_seq ?_
  refine awp_region (by kernel_rfl) ?_
  iterate 2 (refine aL_S rfl rfl v_ ?_)
  refine aL_X rfl rfl (AOp_use rfl rfl (.inr ⟨rfl, rfl, rfl⟩) g_ va_ (indexM_c hn) ?_); rintro _ _ ⟨⟨r, rfl, hr⟩, rfl⟩
  iterate 2 (refine aL_S rfl rfl v_ ?_)
  refine aL_nil ?_
  refine awp_ret ?_
  refine aEnd_ret (σ' := σ) v_ sub_ ?_
  exact ⟨by rw [← hr], rfl⟩
theorem bkCheck_c {b : Bk} {σ : Store} (hbs : BkSm b) : ACalls Tryz.prog 78 [sBk b] σ fun v σ' => v = vInt (if bkOk b then 0 else 1) ∧ σ = σ' := by
  have n1 := hbs.ni; have n2 := hbs.nm
  have hob : bkOk b = ((upGo (fun x => placeOk x.place) Itm.place none b.items && !(b.items.any fun x => !objOk x.obj)) && (upGo (fun x => placeOk x.place) Mnt.place none b.mints && !(b.mints.any fun x => !cntOk x.n))) := by
    have e1 : itemsOk b.items = (upGo (fun x => placeOk x.place) Itm.place none b.items && b.items.all fun x => objOk x.obj) := upGo_and
    have e2 : mintsOk b.mints = (upGo (fun x => placeOk x.place) Mnt.place none b.mints && b.mints.all fun x => cntOk x.n) := upGo_and
    have e3 : (b.items.all fun x => objOk x.obj) = !(b.items.any fun x => !objOk x.obj) := by rw [List.not_any_eq_all_not]; simp
    have e4 : (b.mints.all fun x => cntOk x.n) = !(b.mints.any fun x => !cntOk x.n) := by rw [List.not_any_eq_all_not]; simp
    rw [bkOk, e1, e2, e3, e4]
  refine ACalls_of Tryz.func78 rfl Tryz.ntmps78 (congrArg Array.toList Tryz.results78) (by simp only [List.length_cons, List.length_nil]; decide) ?_; simp only [envOf_cons, envOf_nil, Nat.reduceAdd]
  refine awp_seq ?_
  refine awp_region (by kernel_rfl) ?_
  refine aL_box rfl rfl rfl v_ rfl g_ fun o1 ho1 => ?_
  repeat (rw [none_set_iff] at ho1; obtain ⟨_, ho1⟩ := ho1)
  (refine aL_S rfl rfl v_ ?_)
  refine aL_nil ?_
  refine awp_seq ?_
  refine awp_region (by kernel_rfl) ?_
  iterate 2 (refine aL_S rfl rfl v_ ?_)
  refine aL_X rfl rfl (AOp_use rfl rfl (.inr ⟨rfl, rfl, rfl⟩) g_ va_ (riseI_c (fun x h => (hbs.items x h).place) (by omega)) ?_); rintro _ _ ⟨rfl, rfl⟩
  iterate 2 (refine aL_S rfl rfl v_ ?_)
  refine aL_GF rfl rfl v_ rfl vg_ ?_
  refine aL_GF rfl rfl v_ rfl vg_ ?_
  refine aL_GFX rfl rfl v_ rfl (fun hb => AOp_useV (by rfl) (by rfl) (.inr ⟨by rfl, by rfl, by rfl⟩) g_ cg_ (riseM_c hbs.mints (by omega))) ?_
  refine aL_GF rfl rfl v_ rfl vg_ ?_
  iterate 2 (refine aL_S rfl rfl v_ ?_)
  refine aL_nil ?_
  refine awp_seq ?_
  refine awp_region (by kernel_rfl) ?_
  iterate 2 (refine aL_S rfl rfl v_ ?_)
  refine aL_GF rfl rfl v_ rfl vg_ ?_
  refine aL_GF rfl rfl v_ rfl vg_ ?_
  refine aL_GFX rfl rfl v_ rfl (fun hb => AOp_useV (by rfl) (by rfl) (.inr ⟨by rfl, by rfl, by rfl⟩) g_ cg_ (containsI_c (fun x h => (hbs.items x h).obj) (by omega))) ?_
  iterate 2 (refine aL_S rfl rfl v_ ?_)
  refine aL_nil ?_
  refine awp_seq ?_
  refine awp_seq ?_
  refine awp_region (by kernel_rfl) ?_
  iterate 2 (refine aL_S rfl rfl v_ ?_)
  refine aL_GF rfl rfl v_ rfl vg_ ?_
  refine aL_GF rfl rfl v_ rfl vg_ ?_
  refine aL_GFX rfl rfl v_ rfl (fun hb => AOp_useV (by rfl) (by rfl) (.inr ⟨by rfl, by rfl, by rfl⟩) g_ cg_ (containsM_c (by omega))) ?_
  (refine aL_S rfl rfl v_ ?_)
  refine aL_nil ?_
  refine awp_cond v_ (fun hc3 => ?_) (fun hc3 => ?_)
  · replace hc3 := nm_ hc3
    refine awp_seq ?_
    refine awp_region (by kernel_rfl) ?_
    (refine aL_S rfl rfl v_ ?_)
    refine aL_nil ?_
    refine awp_ret ?_
    refine aEnd_ret (σ' := σ) v_ sub_ ?_
    refine ⟨?_, rfl⟩
    rw [hob]
    rcases hc3 with ((h | h) | h) | h <;> simp [h]
  · replace hc3 := nm_ hc3
    refine awp_skip ?_
    refine awp_seq ?_
    refine awp_region (by kernel_rfl) ?_
    (refine aL_S rfl rfl v_ ?_)
    refine aL_nil ?_
    refine awp_ret ?_
    refine aEnd_ret (σ' := σ) v_ sub_ ?_
    refine ⟨?_, rfl⟩
    rw [hob]; simp [hc3]
theorem rMayB_c {b : Bk} {σ : Store} (hbs : BkSm b) : ACalls Tryz.prog 42 [sBk b] σ fun v σ' => v = vB (bkOk b) ∧ σ = σ' := by
  have n1 := hbs.ni; have n2 := hbs.nm
  refine ACalls_of Tryz.func42 rfl Tryz.ntmps42 (congrArg Array.toList Tryz.results42) (by simp only [List.length_cons, List.length_nil]; decide) ?_; simp only [envOf_cons, envOf_nil, Nat.reduceAdd]
  refine awp_seq ?_
  refine awp_region (by kernel_rfl) ?_
  refine aL_box rfl rfl rfl v_ rfl g_ fun o1 ho1 => ?_
  repeat (rw [none_set_iff] at ho1; obtain ⟨_, ho1⟩ := ho1)
  (refine aL_S rfl rfl v_ ?_)
  refine aL_nil ?_
  refine awp_seq ?_
  refine awp_seq ?_
  refine awp_region (by kernel_rfl) ?_
  (refine aL_S rfl rfl v_ ?_)
  refine aL_nil ?_
  refine awp_block ?_
  refine awp_loop_env (ι := Nat) (fun k => b.items.length - k) (fun k => k ≤ b.items.length ∧ upGo (fun x => placeOk x.place && objOk x.obj) Itm.place (pvK Itm.place b.items k) (b.items.drop k) = itemsOk b.items) (fun k => [(1, .ref o1 0), (3, vInt k)]) (fun k => (σ.set o1 (.cells (sBk b).cells))) 0 ?_ ?_ ?_ ?_
  · exact ⟨Nat.zero_le _, rfl⟩
  · exact cv_
  · exact Store.Wk.refl _
  rintro k ⟨hk, hr⟩
  simp only [envL_cons, envL_nil]
  refine awp_seq ?_
  refine awp_seq ?_
  refine awp_region (by kernel_rfl) ?_
  iterate 5 (refine aL_S rfl rfl v_ ?_)
  refine aL_nil ?_
  refine awp_cond v_ (fun hc2 => ?_) (fun hc2 => ?_)
  · replace hc2 := nm_ hc2
    refine awp_skip ?_
    refine awp_seq ?_
    refine awp_block ?_
    refine awp_seq ?_
    obtain ⟨x, hxk⟩ := get_some (l := b.items) (k := k) (by omega)
    have hsx := hbs.items x (List.mem_of_getElem? hxk)
    have hpl := hsx.place
    obtain ⟨y, hy, hah⟩ := pvK_prev Itm.place b.items k (by omega)
    have hst : upGo (fun x => placeOk x.place && objOk x.obj) Itm.place (pvK Itm.place b.items k) (b.items.drop k) = ((placeOk x.place && objOk x.obj) && aheadOk (pvK Itm.place b.items k) x.place && upGo (fun x => placeOk x.place && objOk x.obj) Itm.place (some x.place) (b.items.drop (k + 1))) := by rw [drop_cons hxk]; rfl
    have R := hxk
    refine awp_region (by kernel_rfl) ?_
    iterate 5 (refine aL_S rfl rfl v_ ?_)
    refine aL_alloc rfl rfl rfl g_ gl_ fun o4 ho4 => ?_
    repeat (rw [none_set_iff] at ho4; obtain ⟨_, ho4⟩ := ho4)
    refine aL_store rfl rfl rfl v_ v_ h_ g_ rfl g_ c_ (by rfl) le_ v_ ?_
    refine aL_nil ?_
    refine awp_seq ?_
    have R := hy
    refine awp_draw (.op 0 0 (.op 1 0 (.op 2 1 (.op 3 0 (.op 4 0 (.op 5 0 (.op 6 0 (.op 7 1 (.op 8 0 (.op 9 0 (.op 10 0 (.op 11 0 (.op 12 0 (.op 13 0 (.op 14 0 (.op 15 0 (.op 16 0 (.op 17 0 (.op 18 0 (.op 19 0 (.op 20 0 (.op 21 0 (.op 22 0 (.op 23 0 (.op 24 0 (.op 25 0 .nil)))))))))))))))))))))))))) Tryz.mixed (by kernel_rfl) ?_
    iterate 2 (refine dR_S o_ (by rfl) (by rfl) v_ ?_)
    refine dR_X o_ (by rfl) (by rfl) (AOp_use (by rfl) (by rfl) (.inr ⟨by rfl, by rfl, by rfl⟩) g_ va_ (rIsPlace_c (by omega)) ?_); rintro _ _ ⟨rfl, rfl⟩; refine ⟨sub_, ?_⟩
    iterate 2 (refine dR_S o_ (by rfl) (by rfl) v_ ?_)
    refine dR_GF o_ (by rfl) (by rfl) v_ (by rfl) vg_ ?_
    refine dR_GF o_ (by rfl) (by rfl) v_ (by rfl) vg_ ?_
    refine dR_GFX o_ (by rfl) (by rfl) v_ (by rfl) sub_ (fun hb => AOp_useV (by rfl) (by rfl) (.inr ⟨by rfl, by rfl, by rfl⟩) g_ cg_ (rMay07_c hsx.obj)) ?_
    refine dR_GF o_ (by rfl) (by rfl) v_ (by rfl) vg_ ?_
    iterate 2 (refine dR_S o_ (by rfl) (by rfl) v_ ?_)
    refine dR_GF o_ (by rfl) (by rfl) v_ (by rfl) vg_ ?_
    refine dR_GF o_ (by rfl) (by rfl) v_ (by rfl) vg_ ?_
    refine dR_GF o_ (by rfl) (by rfl) v_ (by rfl) vg_ ?_
    refine dR_GGT o_ (by rfl) (by rfl) v_ (by rfl) vg_ ?_
    refine dR_GGT o_ (by rfl) (by rfl) v_ (by rfl) vg_ ?_
    refine dR_GGT o_ (by rfl) (by rfl) v_ (by rfl) vg_ ?_
    refine dR_GGT o_ (by rfl) (by rfl) v_ (by rfl) vg_ ?_
    refine dR_GGT o_ (by rfl) (by rfl) v_ (by rfl) vg_ ?_
    refine dR_GGT o_ (by rfl) (by rfl) v_ (by rfl) vg_ ?_
    refine dR_GGT o_ (by rfl) (by rfl) v_ (by rfl) vg_ ?_
    refine dR_GGT o_ (by rfl) (by rfl) v_ (by rfl) vg_ ?_
    refine dR_GGT o_ (by rfl) (by rfl) v_ (by rfl) vg_ ?_
    refine dR_GGT o_ (by rfl) (by rfl) v_ (by rfl) vg_ ?_
    refine dR_GF o_ (by rfl) (by rfl) v_ (by rfl) vg_ ?_
    (refine dR_S o_ (by rfl) (by rfl) v_ ?_)
    refine dR_nil ?_
    refine awp_cond v_ (fun hc5 => ?_) (fun hc5 => ?_)
    · replace hc5 := nm_ hc5
      refine awp_seq ?_
      refine awp_region (by kernel_rfl) ?_
      (refine aL_S rfl rfl v_ ?_)
      refine aL_nil ?_
      refine awp_ret ?_
      refine aEnd_ret (σ' := σ) v_ sub_ ?_
      refine ⟨?_, rfl⟩
      rw [bkOk, ← hr, hst, up_no (hah _) (by rcases hc5 with (h | h) | h; exact .inl (by simp [h]); exact .inl (by simp [h]); exact .inr h), Bool.false_and]
    · replace hc5 := nm_ hc5
      have hnx : upGo (fun x => placeOk x.place && objOk x.obj) Itm.place (pvK Itm.place b.items (k + 1)) (b.items.drop (k + 1)) = itemsOk b.items := by rw [pvK_next hxk, ← hr, hst, up_yes (hah _) ⟨by simp [hc5], hc5.2⟩]
      refine awp_skip ?_
      refine awp_region (by kernel_rfl) ?_
      iterate 3 (refine aL_S rfl rfl v_ ?_)
      refine aL_nil ?_
      refine aNext (ι := Nat) (i := k) (k + 1) ?_ ?_ ?_ ?_
      · omega
      · exact ⟨by omega, hnx⟩
      · exact cv_
      · exact sub_
  · replace hc2 := nm_ hc2
    refine awp_exit ?_
    refine aThen_exit ?_
    refine aThen_exit ?_
    refine aBlock_hit ?_
    refine awp_seq ?_
    refine awp_seq ?_
    have hio : itemsOk b.items = true := by rw [← hr, List.drop_eq_nil_of_le (by omega)]; rfl
    refine awp_region (by kernel_rfl) ?_
    (refine aL_S rfl rfl v_ ?_)
    refine aL_nil ?_
    refine awp_block ?_
    refine awp_loop_env (ι := Nat) (fun j => b.mints.length - j) (fun j => j ≤ b.mints.length ∧ upGo (fun x => placeOk x.place && cntOk x.n) Mnt.place (pvK Mnt.place b.mints j) (b.mints.drop j) = mintsOk b.mints) (fun j => [(1, .ref o1 0), (5, vInt j)]) (fun j => (σ.set o1 (.cells (sBk b).cells))) 0 ?_ ?_ ?_ ?_
    · exact ⟨Nat.zero_le _, rfl⟩
    · exact cv_
    · exact Store.Wk.refl _
    rintro j ⟨hj, hr2⟩
    simp only [envL_cons, envL_nil]
    refine awp_seq ?_
    refine awp_seq ?_
    refine awp_region (by kernel_rfl) ?_
    iterate 5 (refine aL_S rfl rfl v_ ?_)
    refine aL_nil ?_
    refine awp_cond v_ (fun hc8 => ?_) (fun hc8 => ?_)
    · replace hc8 := nm_ hc8
      refine awp_skip ?_
      refine awp_seq ?_
      refine awp_block ?_
      refine awp_seq ?_
      obtain ⟨x, hxk⟩ := get_some (l := b.mints) (k := j) (by omega)
      have hpl := hbs.mints x (List.mem_of_getElem? hxk)
      obtain ⟨y, hy, hah⟩ := pvK_prev Mnt.place b.mints j (by omega)
      have hst : upGo (fun x => placeOk x.place && cntOk x.n) Mnt.place (pvK Mnt.place b.mints j) (b.mints.drop j) = ((placeOk x.place && cntOk x.n) && aheadOk (pvK Mnt.place b.mints j) x.place && upGo (fun x => placeOk x.place && cntOk x.n) Mnt.place (some x.place) (b.mints.drop (j + 1))) := by rw [drop_cons hxk]; rfl
      have R := hxk
      refine awp_region (by kernel_rfl) ?_
      iterate 5 (refine aL_S rfl rfl v_ ?_)
      refine aL_alloc rfl rfl rfl g_ gl_ fun o6 ho6 => ?_
      repeat (rw [none_set_iff] at ho6; obtain ⟨_, ho6⟩ := ho6)
      refine aL_store rfl rfl rfl v_ v_ h_ g_ rfl g_ c_ (by rfl) le_ v_ ?_
      refine aL_nil ?_
      refine awp_seq ?_
      have R := hy
      refine awp_draw (.op 0 0 (.op 1 0 (.op 2 1 (.op 3 0 (.op 4 0 (.op 5 0 (.op 6 0 (.op 7 0 (.op 8 0 (.op 9 0 (.op 10 0 (.op 11 0 (.op 12 0 (.op 13 0 (.op 14 0 (.op 15 0 (.op 16 0 (.op 17 0 (.op 18 0 (.op 19 0 (.op 20 0 (.op 21 0 (.op 22 0 (.op 23 0 (.op 24 0 (.op 25 0 (.op 26 0 (.op 27 0 (.op 28 0 (.op 29 0 .nil)))))))))))))))))))))))))))))) Tryz.mixed (by kernel_rfl) ?_
      iterate 2 (refine dR_S o_ (by rfl) (by rfl) v_ ?_)
      refine dR_X o_ (by rfl) (by rfl) (AOp_use (by rfl) (by rfl) (.inr ⟨by rfl, by rfl, by rfl⟩) g_ va_ (rIsPlace_c (by omega)) ?_); rintro _ _ ⟨rfl, rfl⟩; refine ⟨sub_, ?_⟩
      iterate 2 (refine dR_S o_ (by rfl) (by rfl) v_ ?_)
      refine dR_GF o_ (by rfl) (by rfl) v_ (by rfl) vg_ ?_
      refine dR_GF o_ (by rfl) (by rfl) v_ (by rfl) vg_ ?_
      refine dR_GF o_ (by rfl) (by rfl) v_ (by rfl) vg_ ?_
      iterate 2 (refine dR_S o_ (by rfl) (by rfl) v_ ?_)
      refine dR_GF o_ (by rfl) (by rfl) v_ (by rfl) vg_ ?_
      refine dR_GF o_ (by rfl) (by rfl) v_ (by rfl) vg_ ?_
      refine dR_GF o_ (by rfl) (by rfl) v_ (by rfl) vg_ ?_
      iterate 2 (refine dR_S o_ (by rfl) (by rfl) v_ ?_)
      refine dR_GF o_ (by rfl) (by rfl) v_ (by rfl) vg_ ?_
      refine dR_GF o_ (by rfl) (by rfl) v_ (by rfl) vg_ ?_
      refine dR_GF o_ (by rfl) (by rfl) v_ (by rfl) vg_ ?_
      refine dR_GGT o_ (by rfl) (by rfl) v_ (by rfl) vg_ ?_
      refine dR_GGT o_ (by rfl) (by rfl) v_ (by rfl) vg_ ?_
      refine dR_GGT o_ (by rfl) (by rfl) v_ (by rfl) vg_ ?_
      refine dR_GGT o_ (by rfl) (by rfl) v_ (by rfl) vg_ ?_
      refine dR_GGT o_ (by rfl) (by rfl) v_ (by rfl) vg_ ?_
      refine dR_GGT o_ (by rfl) (by rfl) v_ (by rfl) vg_ ?_
      refine dR_GGT o_ (by rfl) (by rfl) v_ (by rfl) vg_ ?_
      refine dR_GGT o_ (by rfl) (by rfl) v_ (by rfl) vg_ ?_
      refine dR_GGT o_ (by rfl) (by rfl) v_ (by rfl) vg_ ?_
      refine dR_GGT o_ (by rfl) (by rfl) v_ (by rfl) vg_ ?_
      refine dR_GF o_ (by rfl) (by rfl) v_ (by rfl) vg_ ?_
      (refine dR_S o_ (by rfl) (by rfl) v_ ?_)
      refine dR_nil ?_
      refine awp_cond v_ (fun hc11 => ?_) (fun hc11 => ?_)
      · replace hc11 := nm_ hc11
        refine awp_seq ?_
        refine awp_region (by kernel_rfl) ?_
        (refine aL_S rfl rfl v_ ?_)
        refine aL_nil ?_
        refine awp_ret ?_
        refine aEnd_ret (σ' := σ) v_ sub_ ?_
        refine ⟨?_, rfl⟩
        rw [bkOk, hio, ← hr2, hst, up_no (hah _) (by rcases hc11 with ((h | h) | h) | h; exact .inl (by simp [h]); exact .inl (by rw [cntOk, decide_eq_false (by omega)]; simp); exact .inl (by rw [cntOk, decide_eq_false (p := x.n ≤ 9007199254740992) (by omega)]; simp); exact .inr h), Bool.true_and]
      · replace hc11 := nm_ hc11
        have hnx : upGo (fun x => placeOk x.place && cntOk x.n) Mnt.place (pvK Mnt.place b.mints (j + 1)) (b.mints.drop (j + 1)) = mintsOk b.mints := by rw [pvK_next hxk, ← hr2, hst, up_yes (hah _) ⟨by rw [hc11.1.1.1, cntOk, decide_eq_true (by omega), decide_eq_true (by omega)]; rfl, hc11.2⟩]
        refine awp_skip ?_
        refine awp_region (by kernel_rfl) ?_
        iterate 3 (refine aL_S rfl rfl v_ ?_)
        refine aL_nil ?_
        refine aNext (ι := Nat) (i := j) (j + 1) ?_ ?_ ?_ ?_
        · omega
        · exact ⟨by omega, hnx⟩
        · exact cv_
        · exact sub_
    · replace hc8 := nm_ hc8
      refine awp_exit ?_
      refine aThen_exit ?_
      refine aThen_exit ?_
      refine aBlock_hit ?_
      refine awp_seq ?_
      refine awp_region (by kernel_rfl) ?_
      (refine aL_S rfl rfl v_ ?_)
      refine aL_nil ?_
      refine awp_ret ?_
      refine aEnd_ret (σ' := σ) v_ sub_ ?_
      refine ⟨?_, rfl⟩
      rw [bkOk, hio, ← hr2, List.drop_eq_nil_of_le (by omega)]; rfl
def fewMn (l : List Mnt) : Bool := decide (l.length ≤ 8) && l.all fun x => decide (x.place.size ≤ 100)
def fewBk (b : Bk) : Bool := fewIt b.items && fewMn b.mints
theorem fewBk_c {b : Bk} {σ : Store} : ACalls Tryz.prog 36 [sBk b] σ fun v σ' => v = vB (fewBk b) ∧ σ = σ' := by
  refine ACalls_of Tryz.func36 rfl Tryz.ntmps36 (congrArg Array.toList Tryz.results36) (by simp only [List.length_cons, List.length_nil]; decide) ?_; simp only [envOf_cons, envOf_nil, Nat.reduceAdd]
  refine awp_seq ?_
  refine awp_region (by kernel_rfl) ?_
  refine aL_box rfl rfl rfl v_ rfl g_ fun o1 ho1 => ?_
  repeat (rw [none_set_iff] at ho1; obtain ⟨_, ho1⟩ := ho1)
  (refine aL_S rfl rfl v_ ?_)
  refine aL_nil ?_
  refine awp_seq ?_
  refine awp_seq ?_
  refine awp_region (by kernel_rfl) ?_
  (refine aL_S rfl rfl v_ ?_)
  refine aL_nil ?_
  refine awp_block ?_
  refine awp_loop_env (ι := Nat) (fun k => b.items.length - k) (fun k => k ≤ b.items.length ∧ k ≤ 8 ∧ (b.items.take k).all (fun x => decide (x.place.size ≤ 100) && fewOb x.obj) = true) (fun k => [(1, .ref o1 0), (3, vInt k)]) (fun k => (σ.set o1 (.cells (sBk b).cells))) 0 ?_ ?_ ?_ ?_
  · exact ⟨Nat.zero_le _, by decide, rfl⟩
  · exact cv_
  · exact Store.Wk.refl _
  rintro k ⟨hk, hk2, ha⟩
  simp only [envL_cons, envL_nil]
  refine awp_seq ?_
  refine awp_seq ?_
  refine awp_region (by kernel_rfl) ?_
  iterate 6 (refine aL_S rfl rfl v_ ?_)
  refine aL_GT rfl rfl v_ rfl vg_ ?_
  refine aL_GT rfl rfl v_ rfl vg_ ?_
  (refine aL_S rfl rfl v_ ?_)
  refine aL_nil ?_
  refine awp_cond v_ (fun hc2 => ?_) (fun hc2 => ?_)
  · replace hc2 := nm_ hc2
    refine awp_skip ?_
    refine awp_seq ?_
    refine awp_block ?_
    refine awp_seq ?_
    obtain ⟨x, hx⟩ := get_some (l := b.items) (k := k) (by omega)
    have R := hx
    refine awp_region (by kernel_rfl) ?_
    iterate 9 (refine aL_S rfl rfl v_ ?_)
    refine aL_GF rfl rfl v_ rfl vg_ ?_
    refine aL_GF rfl rfl v_ rfl vg_ ?_
    refine aL_GF rfl rfl v_ rfl vg_ ?_
    refine aL_GF rfl rfl v_ rfl vg_ ?_
    refine aL_GF rfl rfl v_ rfl vg_ ?_
    refine aL_GF rfl rfl v_ rfl vg_ ?_
    refine aL_GFX rfl rfl v_ rfl (fun hb => AOp_useV (by rfl) (by rfl) (.inr ⟨by rfl, by rfl, by rfl⟩) g_ cg_ (few07_f)) ?_
    refine aL_GF rfl rfl v_ rfl vg_ ?_
    (refine aL_S rfl rfl v_ ?_)
    refine aL_nil ?_
    refine awp_cond v_ (fun hc4 => ?_) (fun hc4 => ?_)
    · replace hc4 := nm_ hc4
      refine awp_seq ?_
      refine awp_region (by kernel_rfl) ?_
      (refine aL_S rfl rfl v_ ?_)
      refine aL_nil ?_
      refine awp_ret ?_
      refine aEnd_ret (σ' := σ) v_ sub_ ?_
      exact ⟨by rw [fewBk, fewIt, few_no hx (by rcases hc4 with h | h; rw [decide_eq_false (by omega)]; rfl; rw [h, Bool.and_false])]; rfl, rfl⟩
    · replace hc4 := nm_ hc4
      refine awp_skip ?_
      refine awp_region (by kernel_rfl) ?_
      iterate 3 (refine aL_S rfl rfl v_ ?_)
      refine aL_nil ?_
      refine aNext (ι := Nat) (i := k) (k + 1) ?_ ?_ ?_ ?_
      · omega
      · exact ⟨by omega, by omega, all_next hx (by rw [hc4.2, decide_eq_true (by omega)]; rfl) ha⟩
      · exact cv_
      · exact sub_
  · replace hc2 := nm_ hc2
    refine awp_exit ?_
    refine aThen_exit ?_
    refine aThen_exit ?_
    refine aBlock_hit ?_
    refine awp_seq ?_
    refine awp_seq ?_
    refine awp_region (by kernel_rfl) ?_
    (refine aL_S rfl rfl v_ ?_)
    refine aL_nil ?_
    refine awp_block ?_
    refine awp_loop_env (ι := Nat) (fun j => b.mints.length - j) (fun j => j ≤ b.mints.length ∧ j ≤ 8 ∧ (b.mints.take j).all (fun x => decide (x.place.size ≤ 100)) = true) (fun j => [(1, .ref o1 0), (4, vInt j)]) (fun j => (σ.set o1 (.cells (sBk b).cells))) 0 ?_ ?_ ?_ ?_
    · exact ⟨Nat.zero_le _, by decide, rfl⟩
    · exact cv_
    · exact Store.Wk.refl _
    rintro j ⟨hj, hj2, hb⟩
    simp only [envL_cons, envL_nil]
    refine awp_seq ?_
    refine awp_seq ?_
    refine awp_region (by kernel_rfl) ?_
    iterate 6 (refine aL_S rfl rfl v_ ?_)
    refine aL_GT rfl rfl v_ rfl vg_ ?_
    refine aL_GT rfl rfl v_ rfl vg_ ?_
    (refine aL_S rfl rfl v_ ?_)
    refine aL_nil ?_
    refine awp_cond v_ (fun hc7 => ?_) (fun hc7 => ?_)
    · replace hc7 := nm_ hc7
      refine awp_skip ?_
      refine awp_seq ?_
      refine awp_block ?_
      refine awp_seq ?_
      obtain ⟨y, hy⟩ := get_some (l := b.mints) (k := j) (by omega)
      have R := hy
      refine awp_region (by kernel_rfl) ?_
      iterate 8 (refine aL_S rfl rfl v_ ?_)
      refine aL_nil ?_
      refine awp_cond v_ (fun hc9 => ?_) (fun hc9 => ?_)
      · replace hc9 := nm_ hc9
        refine awp_seq ?_
        refine awp_region (by kernel_rfl) ?_
        (refine aL_S rfl rfl v_ ?_)
        refine aL_nil ?_
        refine awp_ret ?_
        refine aEnd_ret (σ' := σ) v_ sub_ ?_
        exact ⟨by rw [fewBk, fewMn, few_no hy (decide_eq_false (by omega)), Bool.and_false], rfl⟩
      · replace hc9 := nm_ hc9
        refine awp_skip ?_
        refine awp_region (by kernel_rfl) ?_
        iterate 3 (refine aL_S rfl rfl v_ ?_)
        refine aL_nil ?_
        refine aNext (ι := Nat) (i := j) (j + 1) ?_ ?_ ?_ ?_
        · omega
        · exact ⟨by omega, by omega, all_next hy (decide_eq_true (by omega)) hb⟩
        · exact cv_
        · exact sub_
    · replace hc7 := nm_ hc7
      refine awp_exit ?_
      refine aThen_exit ?_
      refine aThen_exit ?_
      refine aBlock_hit ?_
      refine awp_seq ?_
      refine awp_region (by kernel_rfl) ?_
      iterate 5 (refine aL_S rfl rfl v_ ?_)
      refine aL_GT rfl rfl v_ rfl vg_ ?_
      refine aL_GT rfl rfl v_ rfl vg_ ?_
      refine aL_GT rfl rfl v_ rfl vg_ ?_
      refine aL_GT rfl rfl v_ rfl vg_ ?_
      iterate 2 (refine aL_S rfl rfl v_ ?_)
      refine aL_nil ?_
      refine awp_ret ?_
      refine aEnd_ret (σ' := σ) v_ sub_ ?_
      exact ⟨by rw [fewBk, fewIt, fewMn, ← few_yes (n := 8) ha hk (by omega), ← few_yes (n := 8) hb hj (by omega)]; first | rfl | simp, rfl⟩
theorem vB_false {b : Bool} (h : b = false) : .lit (.bool false) = vB b := by rw [h]
theorem sameBk_c {a b : Bk} {σ : Store} (hA : BkSm a) (hB : BkSm b) : ACalls Tryz.prog 41 [sBk a, sBk b] σ fun v σ' => v = vB (decide (a.items = b.items) && decide (a.mints = b.mints)) ∧ σ = σ' := by
  have n1 := hA.ni; have n2 := hA.nm; have n3 := hB.ni; have n4 := hB.nm
  refine ACalls_of Tryz.func41 rfl Tryz.ntmps41 (congrArg Array.toList Tryz.results41) (by simp only [List.length_cons, List.length_nil]; decide) ?_; simp only [envOf_cons, envOf_nil, Nat.reduceAdd]
  refine awp_seq ?_
  refine awp_region (by kernel_rfl) ?_
  refine aL_box rfl rfl rfl v_ rfl g_ fun o2 ho2 => ?_
  repeat (rw [none_set_iff] at ho2; obtain ⟨_, ho2⟩ := ho2)
  refine aL_box rfl rfl rfl v_ rfl g_ fun o3 ho3 => ?_
  repeat (rw [none_set_iff] at ho3; obtain ⟨_, ho3⟩ := ho3)
  (refine aL_S rfl rfl v_ ?_)
  refine aL_nil ?_
  refine awp_seq ?_
  refine awp_seq ?_
  refine awp_region (by kernel_rfl) ?_
  iterate 8 (refine aL_S rfl rfl v_ ?_)
  refine aL_GF rfl rfl v_ rfl vg_ ?_
  refine aL_GF rfl rfl v_ rfl vg_ ?_
  refine aL_GF rfl rfl v_ rfl vg_ ?_
  refine aL_GF rfl rfl v_ rfl vg_ ?_
  refine aL_GF rfl rfl v_ rfl vg_ ?_
  refine aL_GF rfl rfl v_ rfl vg_ ?_
  refine aL_GF rfl rfl v_ rfl vg_ ?_
  (refine aL_S rfl rfl v_ ?_)
  refine aL_nil ?_
  refine awp_cond v_ (fun hc1 => ?_) (fun hc1 => ?_)
  · replace hc1 := nm_ hc1
    refine awp_seq ?_
    refine awp_region (by kernel_rfl) ?_
    (refine aL_S rfl rfl v_ ?_)
    refine aL_nil ?_
    refine awp_ret ?_
    refine aEnd_ret (σ' := σ) v_ sub_ ?_
    exact ⟨vB_false (by rw [Bool.and_eq_false_iff, decide_eq_false_iff_not, decide_eq_false_iff_not]; rcases hc1 with h | h; exact .inl (fun e => by rw [e] at h; omega); exact .inr (fun e => by rw [e] at h; omega)), rfl⟩
  · replace hc1 := nm_ hc1
    have hab : a.items.length = b.items.length := by omega
    have hab2 : a.mints.length = b.mints.length := by omega
    refine awp_skip ?_
    refine awp_seq ?_
    refine awp_seq ?_
    refine awp_region (by kernel_rfl) ?_
    (refine aL_S rfl rfl v_ ?_)
    refine aL_nil ?_
    refine awp_block ?_
    refine awp_loop_env (ι := Nat) (fun k => a.items.length - k) (fun k => k ≤ a.items.length ∧ a.items.take k = b.items.take k) (fun k => [(2, .ref o2 0), (3, .ref o3 0), (5, vInt k)]) (fun k => ((σ.set o2 (.cells (sBk a).cells)).set o3 (.cells (sBk b).cells))) 0 ?_ ?_ ?_ ?_
    · exact ⟨Nat.zero_le _, rfl⟩
    · exact cv_
    · exact Store.Wk.refl _
    rintro k ⟨hk, he⟩
    simp only [envL_cons, envL_nil]
    refine awp_seq ?_
    refine awp_seq ?_
    refine awp_region (by kernel_rfl) ?_
    iterate 6 (refine aL_S rfl rfl v_ ?_)
    refine aL_GT rfl rfl v_ rfl vg_ ?_
    refine aL_GT rfl rfl v_ rfl vg_ ?_
    refine aL_GT rfl rfl v_ rfl vg_ ?_
    refine aL_GT rfl rfl v_ rfl vg_ ?_
    refine aL_GT rfl rfl v_ rfl vg_ ?_
    (refine aL_S rfl rfl v_ ?_)
    refine aL_nil ?_
    refine awp_cond v_ (fun hc4 => ?_) (fun hc4 => ?_)
    · replace hc4 := nm_ hc4
      refine awp_skip ?_
      refine awp_seq ?_
      refine awp_block ?_
      refine awp_seq ?_
      obtain ⟨x, hx⟩ := get_some (l := a.items) (k := k) (by omega)
      obtain ⟨y, hy⟩ := get_some (l := b.items) (k := k) (by omega)
      have R := And.intro hx hy
      refine awp_draw (.op 0 0 (.op 1 0 (.op 2 0 (.op 3 0 (.op 4 0 (.op 5 0 (.op 6 0 (.op 7 0 (.op 8 0 (.op 9 0 (.op 10 0 (.op 11 0 (.op 12 0 (.op 13 0 (.op 14 0 (.op 15 0 (.op 16 0 (.op 17 0 (.op 18 0 (.op 19 0 (.op 20 0 (.op 21 0 (.op 22 0 (.op 23 0 (.op 24 0 (.op 25 0 (.op 26 1 (.op 27 0 (.op 28 0 .nil))))))))))))))))))))))))))))) Tryz.mixed (by kernel_rfl) ?_
      iterate 14 (refine dR_S o_ (by rfl) (by rfl) v_ ?_)
      refine dR_GF o_ (by rfl) (by rfl) v_ (by rfl) vg_ ?_
      refine dR_GF o_ (by rfl) (by rfl) v_ (by rfl) vg_ ?_
      refine dR_GF o_ (by rfl) (by rfl) v_ (by rfl) vg_ ?_
      refine dR_GF o_ (by rfl) (by rfl) v_ (by rfl) vg_ ?_
      refine dR_GF o_ (by rfl) (by rfl) v_ (by rfl) vg_ ?_
      refine dR_GF o_ (by rfl) (by rfl) v_ (by rfl) vg_ ?_
      refine dR_GF o_ (by rfl) (by rfl) v_ (by rfl) vg_ ?_
      refine dR_GF o_ (by rfl) (by rfl) v_ (by rfl) vg_ ?_
      refine dR_GF o_ (by rfl) (by rfl) v_ (by rfl) vg_ ?_
      refine dR_GF o_ (by rfl) (by rfl) v_ (by rfl) vg_ ?_
      refine dR_GF o_ (by rfl) (by rfl) v_ (by rfl) vg_ ?_
      refine dR_GF o_ (by rfl) (by rfl) v_ (by rfl) vg_ ?_
      refine dR_GFX o_ (by rfl) (by rfl) v_ (by rfl) sub_ (fun hb => AOp_useV (by rfl) (by rfl) (.inr ⟨by rfl, by rfl, by rfl⟩) g_ cg_ (same07_f (hA.items x (List.mem_of_getElem? hx)).obj (hB.items y (List.mem_of_getElem? hy)).obj)) ?_
      refine dR_GF o_ (by rfl) (by rfl) v_ (by rfl) vg_ ?_
      (refine dR_S o_ (by rfl) (by rfl) v_ ?_)
      refine dR_nil ?_
      refine awp_cond v_ (fun hc6 => ?_) (fun hc6 => ?_)
      · replace hc6 := nm_ hc6
        refine awp_seq ?_
        refine awp_region (by kernel_rfl) ?_
        (refine aL_S rfl rfl v_ ?_)
        refine aL_nil ?_
        refine awp_ret ?_
        refine aEnd_ret (σ' := σ) v_ sub_ ?_
        exact ⟨vB_false (by rw [Bool.and_eq_false_iff]; refine .inl (decide_eq_false ?_); intro h; rw [h, hy] at hx; have hyx := Option.some.inj hx; subst hyx; simp at hc6), rfl⟩
      · replace hc6 := nm_ hc6
        have hxy : x = y := by have h := hc6; clear hx hy R hc6; cases x; cases y; simp_all
        refine awp_skip ?_
        refine awp_region (by kernel_rfl) ?_
        iterate 3 (refine aL_S rfl rfl v_ ?_)
        refine aL_nil ?_
        refine aNext (ι := Nat) (i := k) (k + 1) ?_ ?_ ?_ ?_
        · omega
        · exact ⟨by omega, by rw [take_snoc hx, take_snoc hy, he, hxy]⟩
        · exact cv_
        · exact sub_
    · replace hc4 := nm_ hc4
      refine awp_exit ?_
      refine aThen_exit ?_
      refine aThen_exit ?_
      refine aBlock_hit ?_
      refine awp_seq ?_
      refine awp_seq ?_
      have hei : a.items = b.items := by rwa [List.take_of_length_le (by omega), List.take_of_length_le (by omega)] at he
      refine awp_region (by kernel_rfl) ?_
      (refine aL_S rfl rfl v_ ?_)
      refine aL_nil ?_
      refine awp_block ?_
      refine awp_loop_env (ι := Nat) (fun j => a.mints.length - j) (fun j => j ≤ a.mints.length ∧ a.mints.take j = b.mints.take j) (fun j => [(2, .ref o2 0), (3, .ref o3 0), (6, vInt j)]) (fun j => ((σ.set o2 (.cells (sBk a).cells)).set o3 (.cells (sBk b).cells))) 0 ?_ ?_ ?_ ?_
      · exact ⟨Nat.zero_le _, rfl⟩
      · exact cv_
      · exact Store.Wk.refl _
      rintro j ⟨hj, he2⟩
      simp only [envL_cons, envL_nil]
      refine awp_seq ?_
      refine awp_seq ?_
      refine awp_region (by kernel_rfl) ?_
      iterate 6 (refine aL_S rfl rfl v_ ?_)
      refine aL_GT rfl rfl v_ rfl vg_ ?_
      refine aL_GT rfl rfl v_ rfl vg_ ?_
      refine aL_GT rfl rfl v_ rfl vg_ ?_
      refine aL_GT rfl rfl v_ rfl vg_ ?_
      refine aL_GT rfl rfl v_ rfl vg_ ?_
      (refine aL_S rfl rfl v_ ?_)
      refine aL_nil ?_
      refine awp_cond v_ (fun hc9 => ?_) (fun hc9 => ?_)
      · replace hc9 := nm_ hc9
        refine awp_skip ?_
        refine awp_seq ?_
        refine awp_block ?_
        refine awp_seq ?_
        obtain ⟨x, hx⟩ := get_some (l := a.mints) (k := j) (by omega)
        obtain ⟨y, hy⟩ := get_some (l := b.mints) (k := j) (by omega)
        have R := And.intro hx hy
        refine awp_draw (.op 0 0 (.op 1 0 (.op 2 0 (.op 3 0 (.op 4 0 (.op 5 0 (.op 6 0 (.op 7 0 (.op 8 0 (.op 9 0 (.op 10 0 .nil))))))))))) Tryz.mixed (by kernel_rfl) ?_
        iterate 11 (refine dR_S o_ (by rfl) (by rfl) v_ ?_)
        refine dR_nil ?_
        refine awp_cond v_ (fun hc11 => ?_) (fun hc11 => ?_)
        · replace hc11 := nm_ hc11
          refine awp_seq ?_
          refine awp_region (by kernel_rfl) ?_
          (refine aL_S rfl rfl v_ ?_)
          refine aL_nil ?_
          refine awp_ret ?_
          refine aEnd_ret (σ' := σ) v_ sub_ ?_
          exact ⟨vB_false (by rw [Bool.and_eq_false_iff]; refine .inr (decide_eq_false ?_); intro h; rw [h, hy] at hx; have hyx := Option.some.inj hx; subst hyx; simp at hc11), rfl⟩
        · replace hc11 := nm_ hc11
          have hxy : x = y := by have h := hc11; clear hx hy R hc11; cases x; cases y; simp_all
          refine awp_skip ?_
          refine awp_region (by kernel_rfl) ?_
          iterate 3 (refine aL_S rfl rfl v_ ?_)
          refine aL_nil ?_
          refine aNext (ι := Nat) (i := j) (j + 1) ?_ ?_ ?_ ?_
          · omega
          · exact ⟨by omega, by rw [take_snoc hx, take_snoc hy, he2, hxy]⟩
          · exact cv_
          · exact sub_
      · replace hc9 := nm_ hc9
        refine awp_exit ?_
        refine aThen_exit ?_
        refine aThen_exit ?_
        refine aBlock_hit ?_
        refine awp_seq ?_
        refine awp_region (by kernel_rfl) ?_
        (refine aL_S rfl rfl v_ ?_)
        refine aL_nil ?_
        refine awp_ret ?_
        refine aEnd_ret (σ' := σ) v_ sub_ ?_
        exact ⟨by rw [decide_eq_true hei, decide_eq_true (by rwa [List.take_of_length_le (by omega), List.take_of_length_le (by omega)] at he2)]; rfl, rfl⟩
end Go.Proofs.YtbcgkbdacijoiaaGreat
end

section
set_option linter.all false
set_option maxRecDepth 100000
namespace Go.Proofs.YtbcgkbdacijoiaaGreat
open Go.Ab
/-- a function of elements, that asks only what stands in the store -/
def PFIt (F : FuncId) (caps : List AVal) (σ : Store) (p : Itm → Bool) : Prop := isGo Tryz.prog F = true ∧ ∀ τ : Store, (∀ i y, σ.heap i = some y → τ.heap i = some y) → ∀ x : Itm, ACalls Tryz.prog F (sItem x :: caps) τ fun v τ' => v = vB (p x) ∧ τ = τ'
abbrev fnIt (F : Nat) (caps : List AVal) : AVal := .fn (.func F) [] caps
theorem drIt_get {L M : List Itm} {d j : Nat} (h : M.drop d = L.drop d) (hj : d ≤ j) : M[j]? = L[j]? := by
  have := congrArg (fun l => l[j - d]?) h
  simp only [List.getElem?_drop] at this
  rwa [show d + (j - d) = j by omega] at this
theorem flIt_len (L : List Itm) : (flat (L.map sItem)).length = L.length * 3 := by rw [flat_length (szItm L), List.length_map]
theorem flIt_part : ∀ {L : List Itm} {j : Nat} {x : Itm}, L[j]? = some x → ((flat (L.map sItem)).drop (j * 3)).take 3 = [vStr x.place, .sl 3 (x.obj.ctx.map sSeen) false, .sl 5 (x.obj.sibs.map sSib) false]
  | [], j, x, h => by simp at h
  | y :: L, 0, x, h => by
    simp only [List.getElem?_cons_zero, Option.some.injEq] at h
    subst h
    rfl
  | y :: L, j + 1, x, h => by
    rw [List.map_cons, flat_cons, show (j + 1) * 3 = 3 + j * 3 by omega, ← List.drop_drop]
    exact flIt_part (L := L) (j := j) h
theorem flIt_put {M : List Itm} {j : Nat} {x : Itm} (hj : j < M.length) : aput (flat (M.map sItem)) (j * 3) [vStr x.place, .sl 3 (x.obj.ctx.map sSeen) false, .sl 5 (x.obj.sibs.map sSib) false] = flat ((M.set j x).map sItem) := by
  have e : M.set j x = M.take j ++ x :: M.drop (j + 1) := by rw [List.set_eq_take_append_cons_drop, if_pos hj]
  have e2 : M = M.take j ++ M[j] :: M.drop (j + 1) := by rw [List.getElem_cons_drop hj, List.take_append_drop]
  have hl : (flat ((M.take j).map sItem)).length = j * 3 := by rw [flIt_len, List.length_take, Nat.min_eq_left (by omega)]
  rw [e]
  conv => lhs; rw [e2]
  unfold aput
  rw [List.map_append, List.map_cons, flat_append, flat_cons, List.map_append, List.map_cons, flat_append, flat_cons, List.take_left' hl, List.drop_append, List.drop_of_length_le (by rw [hl]; simp), hl, show j * 3 + [vStr x.place, .sl 3 (x.obj.ctx.map sSeen) false, .sl 5 (x.obj.sibs.map sSib) false].length - j * 3 = 3 by rw [show [vStr x.place, .sl 3 (x.obj.ctx.map sSeen) false, .sl 5 (x.obj.sibs.map sSib) false].length = 3 from rfl]; omega]
  simp [AVal.cells]
theorem flIt_take {M : List Itm} {j : Nat} {zs : List AVal} : aput (flat (M.map sItem)) (j * 3) zs = flat ((M.take j).map sItem) ++ (zs ++ (flat (M.map sItem)).drop (j * 3 + zs.length)) := by
  unfold aput
  rw [List.append_assoc, List.map_take, flat_take (szItm M)]
/-- a copy: nothing, or a row of its own whose room is known -/
def CBIt (σ0 σ : Store) (L : List Itm) (v : AVal) : Prop := (L = [] ∧ v = .sl 3 [] true ∧ σ = σ0) ∨ ∃ o c, σ0.heap o = none ∧ L ≠ [] ∧ L.length ≤ c ∧ v = .mslc o 3 0 L.length c (89) ∧ σ = σ0.set o (.cells (flat (L.map sItem)))
theorem clIt_0 {t : Bool} {σ : Store} : ACalls Tryz.prog 111 [.sl 3 [] t] σ fun v σ' => CBIt σ σ' [] v := by
  refine ACalls_of Tryz.func111 rfl Tryz.ntmps111 (congrArg Array.toList Tryz.results111) (by simp only [List.length_cons, List.length_nil]; decide) ?_; simp only [envOf_cons, envOf_nil, Nat.reduceAdd]
  refine awp_seq ?_
  refine awp_region (by kernel_rfl) ?_
  (refine aL_S rfl rfl v_ ?_)
  refine aL_nil ?_
  refine awp_seq ?_
  refine awp_seq ?_
  refine awp_region (by kernel_rfl) ?_
  (refine aL_S rfl rfl v_ ?_)
  refine aL_X rfl rfl (AOp_eqNil0 rfl g_ va_ va_ fun b => ?_)
  refine aL_nil ?_
  refine awp_cond v_ (fun hc1 => ?_) (fun hc1 => ?_)
  · replace hc1 := nm_ hc1
    refine awp_seq ?_
    refine awp_region (by kernel_rfl) ?_
    (refine aL_S rfl rfl v_ ?_)
    refine aL_nil ?_
    refine awp_ret ?_
    exact aEnd_retW (v := .sl 3 [] true) (v' := .lit (.slice none 0 0)) va_ (.nil _ _) sub_ (.inl ⟨rfl, rfl, rfl⟩)
  · replace hc1 := nm_ hc1
    refine awp_skip ?_
    refine awp_seq ?_
    refine awp_region (by kernel_rfl) ?_
    refine aL_buildSlice rfl rfl rfl g_ g_ rfl rfl h_ c2_ (by decide) ?_
    (refine aL_S rfl rfl v_ ?_)
    refine aL_X rfl rfl (AOp_append00T rfl g_ g_ va_ va_ ?_)
    (refine aL_S rfl rfl v_ ?_)
    refine aL_nil ?_
    refine awp_ret ?_
    exact aEnd_ret va_ sub_ (.inl ⟨rfl, rfl, rfl⟩)
theorem clIt_1 {L : List Itm} {t : Bool} {σ : Store} (h0 : L ≠ []) (hl : L.length ≤ 1000000) : ACalls Tryz.prog 111 [.sl 3 (L.map sItem) t] σ fun v σ' => CBIt σ σ' L v := by
  have hne : L.map sItem ≠ [] := by simpa using h0
  refine ACalls_of Tryz.func111 rfl Tryz.ntmps111 (congrArg Array.toList Tryz.results111) (by simp only [List.length_cons, List.length_nil]; decide) ?_; simp only [envOf_cons, envOf_nil, Nat.reduceAdd]
  refine awp_seq ?_
  refine awp_region (by kernel_rfl) ?_
  (refine aL_S rfl rfl v_ ?_)
  refine aL_nil ?_
  refine awp_seq ?_
  refine awp_seq ?_
  refine awp_region (by kernel_rfl) ?_
  (refine aL_S rfl rfl v_ ?_)
  refine aL_X rfl rfl (AOp_eqNil rfl g_ v_ (by exact hne) va_ ?_)
  refine aL_nil ?_
  refine awp_cond v_ (fun hc1 => ?_) (fun hc1 => ?_)
  · replace hc1 := nm_ hc1
    cases hc1
  · replace hc1 := nm_ hc1
    refine awp_skip ?_
    refine awp_seq ?_
    refine awp_region (by kernel_rfl) ?_
    refine aL_buildSlice rfl rfl rfl g_ g_ rfl rfl h_ c2_ (by decide) ?_
    (refine aL_S rfl rfl v_ ?_)
    refine aL_X rfl rfl (AOp_copyMc rfl g_ g_ va_ g_ hne (by simp; omega) fun o7 c7 ho7 hc7 => ?_)
    (refine aL_S rfl rfl v_ ?_)
    refine aL_nil ?_
    refine awp_ret ?_
    refine aEnd_ret v_ (Store.Wk.refl _) ?_
    exact .inr ⟨o7, c7, ho7, h0, by simpa using hc7, rfl, rfl⟩
theorem cloneIt {L : List Itm} {t : Bool} {σ : Store} (hl : L.length ≤ 1000000) : ACalls Tryz.prog 111 [.sl 3 (L.map sItem) t] σ fun v σ' => CBIt σ σ' L v := by
  by_cases h : L = []
  · subst h; exact clIt_0
  · exact clIt_1 h hl
theorem ixIt_b {F : Nat} {caps : List AVal} {t : Bool} {σ : Store} (hF : isGo Tryz.prog F = true) : ACalls Tryz.prog 142 [.sl 3 [] t, fnIt F caps] σ fun v σ' => v = vInt (-1) ∧ σ = σ' := by
  refine ACalls_of Tryz.func142 rfl Tryz.ntmps142 (congrArg Array.toList Tryz.results142) (by simp only [List.length_cons, List.length_nil]; decide) ?_; simp only [envOf_cons, envOf_nil, Nat.reduceAdd]
  refine awp_seq ?_
  refine awp_region (by kernel_rfl) ?_
  (refine aL_S rfl rfl v_ ?_)
  refine aL_nil ?_
  refine awp_seq ?_
  refine awp_seq ?_
  refine awp_region (by kernel_rfl) ?_
  iterate 3 (refine aL_S rfl rfl v_ ?_)
  refine aL_nil ?_
  refine awp_block ?_
  refine awp_loop_env (ι := Nat) (fun k => 0) (fun k => k = 0) (fun k => [(0, .sl 3 [] t), (1, fnIt F caps), (7, vInt 0), (8, vInt k)]) (fun k => σ) 0 ?_ ?_ ?_ ?_
  · rfl
  · exact cv_
  · exact sub_
  rintro k hk
  simp only [envL_cons, envL_nil]
  refine awp_seq ?_
  refine awp_region (by kernel_rfl) ?_
  (refine aL_S rfl rfl v_ ?_)
  refine aL_nil ?_
  refine awp_seq ?_
  refine awp_cond v_ (fun hc2 => ?_) (fun hc2 => ?_)
  · replace hc2 := nm_ hc2
    omega
  · replace hc2 := nm_ hc2
    refine awp_exit ?_
    refine aThen_exit ?_
    refine aThen_exit ?_
    refine aBlock_hit ?_
    refine awp_seq ?_
    refine awp_region (by kernel_rfl) ?_
    (refine aL_S rfl rfl v_ ?_)
    refine aL_nil ?_
    refine awp_ret ?_
    refine aEnd_ret (σ' := σ) v_ sub_ ?_
    exact ⟨rfl, rfl⟩
/-- where the first one stands -/
theorem ixIt_s {F : Nat} {caps : List AVal} {p : Itm → Bool} {L : List Itm} {t : Bool} {σ : Store} (hF : PFIt F caps σ p) (hl : L.length ≤ 1000000) : ACalls Tryz.prog 142 [.sl 3 (L.map sItem) t, fnIt F caps] σ fun v σ' => (∃ r : Int, v = vInt r ∧ ((r = -1 ∧ L.find? p = none) ∨ ∃ j : Nat, ∃ x, r = j ∧ L[j]? = some x ∧ L.find? p = some x)) ∧ σ = σ' := by
  have hgo := hF.1
  refine ACalls_of Tryz.func142 rfl Tryz.ntmps142 (congrArg Array.toList Tryz.results142) (by simp only [List.length_cons, List.length_nil]; decide) ?_; simp only [envOf_cons, envOf_nil, Nat.reduceAdd]
  refine awp_seq ?_
  refine awp_region (by kernel_rfl) ?_
  (refine aL_S rfl rfl v_ ?_)
  refine aL_nil ?_
  refine awp_seq ?_
  refine awp_seq ?_
  refine awp_region (by kernel_rfl) ?_
  iterate 3 (refine aL_S rfl rfl v_ ?_)
  refine aL_nil ?_
  refine awp_block ?_
  refine awp_loop_env (ι := Nat) (fun k => L.length - k) (fun k => k ≤ L.length ∧ ∀ m y, m < k → L[m]? = some y → p y = false) (fun k => [(0, .sl 3 (L.map sItem) t), (1, fnIt F caps), (7, vInt L.length), (8, vInt k)]) (fun k => σ) 0 ?_ ?_ ?_ ?_
  · exact ⟨Nat.zero_le _, fun m y hm => by omega⟩
  · exact cv_
  · exact sub_
  rintro k ⟨hk, hf⟩
  simp only [envL_cons, envL_nil]
  refine awp_seq ?_
  refine awp_region (by kernel_rfl) ?_
  (refine aL_S rfl rfl v_ ?_)
  refine aL_nil ?_
  refine awp_seq ?_
  refine awp_cond v_ (fun hc2 => ?_) (fun hc2 => ?_)
  · replace hc2 := nm_ hc2
    refine awp_skip ?_
    refine awp_seq ?_
    refine awp_block ?_
    refine awp_seq ?_
    refine awp_region (by kernel_rfl) ?_
    iterate 2 (refine aL_S rfl rfl v_ ?_)
    refine aL_nil ?_
    refine awp_seq ?_
    obtain ⟨x, hx⟩ := get_some (l := L) (k := k) (by omega)
    have R := hx
    refine awp_region (by kernel_rfl) ?_
    iterate 5 (refine aL_S rfl rfl v_ ?_)
    refine aL_X rfl rfl (AOp_use rfl rfl (.inl v_) g_ va_ (hF.2 _ (fun _ _ h => h) x) ?_); rintro _ _ ⟨rfl, rfl⟩
    refine aL_nil ?_
    refine awp_cond v_ (fun hc4 => ?_) (fun hc4 => ?_)
    · replace hc4 := nm_ hc4
      refine awp_seq ?_
      refine awp_region (by kernel_rfl) ?_
      iterate 2 (refine aL_S rfl rfl v_ ?_)
      refine aL_nil ?_
      refine awp_ret ?_
      refine aEnd_ret (σ' := σ) v_ sub_ ?_
      exact ⟨⟨k, rfl, .inr ⟨k, x, rfl, hx, find_at hx (by simpa using hc4) hf⟩⟩, rfl⟩
    · replace hc4 := nm_ hc4
      refine awp_skip ?_
      refine awp_region (by kernel_rfl) ?_
      iterate 2 (refine aL_S rfl rfl v_ ?_)
      refine aL_nil ?_
      refine aNext (ι := Nat) (i := k) (k + 1) ?_ ?_ ?_ ?_
      · omega
      · exact ⟨by omega, fun m y hm hy => by rcases Nat.lt_or_eq_of_le (Nat.le_of_lt_succ hm) with h | h; exact hf m y h hy; rw [h, hx] at hy; cases hy; simpa using hc4⟩
      · exact cv_
      · exact sub_
  · replace hc2 := nm_ hc2
    refine awp_exit ?_
    refine aThen_exit ?_
    refine aThen_exit ?_
    refine aBlock_hit ?_
    refine awp_seq ?_
    refine awp_region (by kernel_rfl) ?_
    (refine aL_S rfl rfl v_ ?_)
    refine aL_nil ?_
    refine awp_ret ?_
    refine aEnd_ret (σ' := σ) v_ sub_ ?_
    exact ⟨⟨-1, rfl, .inl ⟨rfl, List.find?_eq_none.2 fun y hy => by obtain ⟨m, hm, e⟩ := List.mem_iff_getElem.1 hy; have := hf m y (by omega) (by rw [List.getElem?_eq_getElem hm, e]); rw [this]; simp⟩⟩, rfl⟩
theorem ixIt_M {o F : Nat} {caps : List AVal} {p : Itm → Bool} {L : List Itm} {σ0 σ : Store} (hF : PFIt F caps σ0 p) (hs : ∀ i y, σ0.heap i = some y → σ.heap i = some y) (ho : σ.heap o = some (.cells (flat (L.map sItem)))) (hl : L.length ≤ 1000000) : ACalls Tryz.prog 142 [.msl o 3 0 L.length, fnIt F caps] σ fun v σ' => (∃ r : Int, v = vInt r ∧ (r = -1 → L.filter (fun x => !p x) = L) ∧ (r ≠ -1 → ∃ j : Nat, r = j ∧ j < L.length ∧ (L.take (j + 1)).filter (fun x => !p x) = L.take j)) ∧ σ = σ' := by
  have hfl := flIt_len L
  have hgo := hF.1
  refine ACalls_of Tryz.func142 rfl Tryz.ntmps142 (congrArg Array.toList Tryz.results142) (by simp only [List.length_cons, List.length_nil]; decide) ?_; simp only [envOf_cons, envOf_nil, Nat.reduceAdd]
  refine awp_seq ?_
  refine awp_region (by kernel_rfl) ?_
  (refine aL_S rfl rfl v_ ?_)
  refine aL_nil ?_
  refine awp_seq ?_
  refine awp_seq ?_
  refine awp_region (by kernel_rfl) ?_
  iterate 3 (refine aL_S rfl rfl v_ ?_)
  refine aL_nil ?_
  refine awp_block ?_
  refine awp_loop_env (ι := Nat) (fun k => L.length - k) (fun k => k ≤ L.length ∧ (L.take k).filter (fun x => !p x) = L.take k) (fun k => [(0, .msl o 3 0 L.length), (1, fnIt F caps), (7, vInt L.length), (8, vInt k)]) (fun k => σ) 0 ?_ ?_ ?_ ?_
  · exact ⟨Nat.zero_le _, rfl⟩
  · exact cv_
  · exact sub_
  rintro k ⟨hk, hf⟩
  simp only [envL_cons, envL_nil]
  refine awp_seq ?_
  refine awp_region (by kernel_rfl) ?_
  (refine aL_S rfl rfl v_ ?_)
  refine aL_nil ?_
  refine awp_seq ?_
  refine awp_cond v_ (fun hc2 => ?_) (fun hc2 => ?_)
  · replace hc2 := nm_ hc2
    refine awp_skip ?_
    refine awp_seq ?_
    refine awp_block ?_
    refine awp_seq ?_
    refine awp_region (by kernel_rfl) ?_
    iterate 2 (refine aL_S rfl rfl v_ ?_)
    refine aL_nil ?_
    refine awp_seq ?_
    obtain ⟨x, hx⟩ := get_some (l := L) (k := k) (by omega)
    have px := flIt_part hx
    have R := And.intro px (And.intro ho hfl)
    refine awp_region (by kernel_rfl) ?_
    iterate 5 (refine aL_S rfl rfl v_ ?_)
    refine aL_X rfl rfl (AOp_use rfl rfl (.inl v_) g_ va_ (hF.2 _ hs x) ?_); rintro _ _ ⟨rfl, rfl⟩
    refine aL_nil ?_
    refine awp_cond v_ (fun hc4 => ?_) (fun hc4 => ?_)
    · replace hc4 := nm_ hc4
      refine awp_seq ?_
      refine awp_region (by kernel_rfl) ?_
      iterate 2 (refine aL_S rfl rfl v_ ?_)
      refine aL_nil ?_
      refine awp_ret ?_
      refine aEnd_ret (σ' := σ) v_ sub_ ?_
      exact ⟨⟨k, rfl, fun h => by omega, fun _ => ⟨k, rfl, by omega, by rw [take_snoc hx, List.filter_append, hf]; simp [hc4]⟩⟩, rfl⟩
    · replace hc4 := nm_ hc4
      refine awp_skip ?_
      refine awp_region (by kernel_rfl) ?_
      iterate 2 (refine aL_S rfl rfl v_ ?_)
      refine aL_nil ?_
      refine aNext (ι := Nat) (i := k) (k + 1) ?_ ?_ ?_ ?_
      · omega
      · exact ⟨by omega, by rw [take_snoc hx, List.filter_append, hf]; simp [hc4]⟩
      · exact cv_
      · exact sub_
  · replace hc2 := nm_ hc2
    refine awp_exit ?_
    refine aThen_exit ?_
    refine aThen_exit ?_
    refine aBlock_hit ?_
    refine awp_seq ?_
    refine awp_region (by kernel_rfl) ?_
    (refine aL_S rfl rfl v_ ?_)
    refine aL_nil ?_
    refine awp_ret ?_
    refine aEnd_ret (σ' := σ) v_ sub_ ?_
    exact ⟨⟨-1, rfl, fun _ => by rwa [List.take_of_length_le (by omega)] at hf, fun h => absurd rfl h⟩, rfl⟩
structure DlIt (p : Itm → Bool) (L : List Itm) (j i : Nat) (M : List Itm) : Prop where
  len : M.length = L.length
  tk : M.take i = (L.take j).filter (fun x => !p x)
  cnt : ((L.take j).filter (fun x => !p x)).length = i
  lt : i < j
  le : j ≤ L.length
  dr : M.drop j = L.drop j
theorem DlIt.put {p : Itm → Bool} {L : List Itm} {j i : Nat} {M : List Itm} {x : Itm} (h : DlIt p L j i M) (hx : L[j]? = some x) (hg : p x = false) : DlIt p L (j + 1) (i + 1) (M.set i x) := by
  have h1 := (List.getElem?_eq_some_iff.1 hx).1
  have hk := h.lt
  have hl := h.len
  have hf : (L.take (j + 1)).filter (fun x => !p x) = (L.take j).filter (fun x => !p x) ++ [x] := by rw [take_snoc hx, List.filter_append]; simp [hg]
  refine ⟨by rw [List.length_set]; exact hl, ?_, by rw [hf, List.length_append, h.cnt]; rfl, by omega, by omega, ?_⟩
  · rw [hf, ← h.tk, take_snoc (show (M.set i x)[i]? = some x by rw [List.getElem?_set_self]; omega), List.take_set_of_le (Nat.le_refl _)]
  · rw [List.drop_set_of_lt (by omega)]
    have := congrArg (List.drop 1) h.dr
    rwa [List.drop_drop, List.drop_drop] at this
theorem DlIt.skip {p : Itm → Bool} {L : List Itm} {j i : Nat} {M : List Itm} {x : Itm} (h : DlIt p L j i M) (hx : L[j]? = some x) (hg : p x = true) : DlIt p L (j + 1) i M := by
  have h1 := (List.getElem?_eq_some_iff.1 hx).1
  have hk := h.lt
  have hf : (L.take (j + 1)).filter (fun x => !p x) = (L.take j).filter (fun x => !p x) := by rw [take_snoc hx, List.filter_append]; simp [hg]
  refine ⟨h.len, by rw [hf]; exact h.tk, by rw [hf]; exact h.cnt, by omega, by omega, ?_⟩
  have := congrArg (List.drop 1) h.dr
  rwa [List.drop_drop, List.drop_drop] at this
theorem deIt_b {F : Nat} {caps : List AVal} {t : Bool} {σ : Store} (hF : isGo Tryz.prog F = true) : ACalls Tryz.prog 110 [.sl 3 [] t, fnIt F caps] σ fun v σ' => v = .sl 3 [] false ∧ σ = σ' := by
  refine ACalls_of Tryz.func110 rfl Tryz.ntmps110 (congrArg Array.toList Tryz.results110) (by simp only [List.length_cons, List.length_nil]; decide) ?_; simp only [envOf_cons, envOf_nil, Nat.reduceAdd]
  refine awp_seq ?_
  refine awp_region (by kernel_rfl) ?_
  (refine aL_S rfl rfl v_ ?_)
  refine aL_nil ?_
  refine awp_seq ?_
  refine awp_region (by kernel_rfl) ?_
  iterate 2 (refine aL_S rfl rfl v_ ?_)
  refine aL_X rfl rfl (AOp_use rfl rfl (.inr ⟨rfl, rfl, rfl⟩) g_ va_ (ixIt_b hF) ?_); rintro _ _ ⟨rfl, rfl⟩
  (refine aL_S rfl rfl v_ ?_)
  refine aL_nil ?_
  refine awp_seq ?_
  refine awp_seq ?_
  refine awp_region (by kernel_rfl) ?_
  iterate 2 (refine aL_S rfl rfl v_ ?_)
  refine aL_nil ?_
  refine awp_cond v_ (fun hc2 => ?_) (fun hc2 => ?_)
  · replace hc2 := nm_ hc2
    refine awp_seq ?_
    refine awp_region (by kernel_rfl) ?_
    iterate 2 (refine aL_S rfl rfl v_ ?_)
    refine aL_nil ?_
    refine awp_ret ?_
    exact aEnd_retW (v := .sl 3 [] false) (v' := .sl 3 [] t) va_ (.sl1 _ _ _) sub_ ⟨rfl, rfl⟩
  · replace hc2 := nm_ hc2
    first | omega | (simp at hc2; done) | cases hc2
set_option maxHeartbeats 2000000 in
theorem deIt_M {o F : Nat} {caps : List AVal} {p : Itm → Bool} {L : List Itm} {σ0 σ : Store} (hF : PFIt F caps σ0 p) (hn0 : σ0.heap o = none) (hs : ∀ i y, i ≠ o → σ0.heap i = some y → σ.heap i = some y) (ho : σ.heap o = some (.cells (flat (L.map sItem)))) (hl : L.length ≤ 1000000) :
    ACalls Tryz.prog 110 [.msl o 3 0 L.length, fnIt F caps] σ fun v σ' => ∃ zs : List AVal, v = .msl o 3 0 (L.filter (fun x => !p x)).length ∧ σ' = σ.set o (.cells (flat ((L.filter (fun x => !p x)).map sItem) ++ zs)) := by
  have hfl := flIt_len L
  have hgo := hF.1
  have hne : ∀ i y, σ0.heap i = some y → i ≠ o := fun i y hy hh => by rw [hh, hn0] at hy; cases hy
  refine ACalls_of Tryz.func110 rfl Tryz.ntmps110 (congrArg Array.toList Tryz.results110) (by simp only [List.length_cons, List.length_nil]; decide) ?_; simp only [envOf_cons, envOf_nil, Nat.reduceAdd]
  refine awp_seq ?_
  refine awp_region (by kernel_rfl) ?_
  (refine aL_S rfl rfl v_ ?_)
  refine aL_nil ?_
  refine awp_seq ?_
  refine awp_region (by kernel_rfl) ?_
  iterate 2 (refine aL_S rfl rfl v_ ?_)
  refine aL_X rfl rfl (AOp_use rfl rfl (.inr ⟨rfl, rfl, rfl⟩) g_ va_ (ixIt_M hF (fun i y hy => hs i y (hne i y hy) hy) ho hl) ?_); rintro _ _ ⟨⟨r, rfl, h1, h2⟩, rfl⟩
  (refine aL_S rfl rfl v_ ?_)
  refine aL_nil ?_
  refine awp_seq ?_
  refine awp_seq ?_
  refine awp_region (by kernel_rfl) ?_
  iterate 2 (refine aL_S rfl rfl v_ ?_)
  refine aL_nil ?_
  refine awp_cond v_ (fun hc2 => ?_) (fun hc2 => ?_)
  · replace hc2 := nm_ hc2
    refine awp_seq ?_
    refine awp_region (by kernel_rfl) ?_
    iterate 2 (refine aL_S rfl rfl v_ ?_)
    refine aL_nil ?_
    refine awp_ret ?_
    refine aEnd_ret v_ (Store.Wk.refl _) ?_
    exact ⟨[], by rw [h1 hc2], by rw [h1 hc2, List.append_nil, Store.set_same ho]⟩
  · replace hc2 := nm_ hc2
    obtain ⟨j0, rfl, hj0, hf0⟩ := h2 hc2
    have hI0 : DlIt p L (j0 + 1) j0 L := ⟨rfl, hf0.symm, by rw [hf0, List.length_take]; omega, by omega, by omega, rfl⟩
    refine awp_skip ?_
    refine awp_seq ?_
    refine awp_seq ?_
    refine awp_region (by kernel_rfl) ?_
    iterate 3 (refine aL_S rfl rfl v_ ?_)
    refine aL_nil ?_
    refine awp_block ?_
    refine awp_loop_env (ι := Nat × Nat × List Itm) (fun ⟨j, i, M⟩ => L.length - j) (fun ⟨j, i, M⟩ => DlIt p L j i M) (fun ⟨j, i, M⟩ => [(0, .msl o 3 0 L.length), (1, fnIt F caps), (5, vInt i), (6, vInt j)]) (fun ⟨j, i, M⟩ => (σ.set o (.cells (flat (M.map sItem))))) (j0 + 1, j0, L) ?_ ?_ ?_ ?_
    · exact hI0
    · exact cv_
    · (try dsimp only); rw [Store.set_same ho]; exact Store.Wk.refl _
    rintro ⟨j, i, M⟩ hI
    simp only [envL_cons, envL_nil]
    refine awp_seq ?_
    refine awp_seq ?_
    refine awp_region (by kernel_rfl) ?_
    iterate 4 (refine aL_S rfl rfl v_ ?_)
    refine aL_nil ?_
    refine awp_cond v_ (fun hc5 => ?_) (fun hc5 => ?_)
    · replace hc5 := nm_ hc5
      refine awp_skip ?_
      refine awp_seq ?_
      refine awp_block ?_
      refine awp_seq ?_
      have hjl : j < L.length := by omega
      obtain ⟨x, hx⟩ := get_some (l := L) (k := j) hjl
      have hMx : M[j]? = some x := by rw [drIt_get hI.dr (Nat.le_refl _)]; exact hx
      have px := flIt_part hMx
      have hflM := flIt_len M
      rw [hI.len] at hflM
      have hil := hI.lt
      have R := And.intro px hflM
      refine awp_region (by kernel_rfl) ?_
      iterate 4 (refine aL_S rfl rfl v_ ?_)
      refine aL_alloc rfl rfl rfl g_ gl_ fun o7 ho7 => ?_
      repeat (rw [none_set_iff] at ho7; obtain ⟨_, ho7⟩ := ho7)
      refine aL_store rfl rfl rfl v_ v_ h_ g_ rfl g_ c_ (by rfl) le_ v_ ?_
      refine aL_nil ?_
      refine awp_seq ?_
      skip
      have hk7 : ∀ i y, σ0.heap i = some y → ((((σ.set o (.cells (flat (M.map sItem)))).set o7 (.cells [.lit (.string ⟨#[]⟩), .lit (.slice none 0 0), .lit (.slice none 0 0)])).set o7 (.cells [vStr x.place, .sl 3 (x.obj.ctx.map sSeen) false, .sl 5 (x.obj.sibs.map sSib) false]))).heap i = some y := fun i y hy => by
        have e1 := hne i y hy
        have e2 := hs i y e1 hy
        have e3 : i ≠ o7 := fun hh => by rw [hh, ho7] at e2; cases e2
        rw [Store.set_ne _ _ e3, Store.set_ne _ _ e3, Store.set_ne _ _ e1]; exact e2
      refine awp_region (by kernel_rfl) ?_
      iterate 2 (refine aL_S rfl rfl v_ ?_)
      refine aL_X rfl rfl (AOp_use rfl rfl (.inl v_) g_ va_ (hF.2 _ hk7 x) ?_); rintro _ _ ⟨rfl, rfl⟩
      (refine aL_S rfl rfl v_ ?_)
      refine aL_nil ?_
      refine awp_cond v_ (fun hc8 => ?_) (fun hc8 => ?_)
      · replace hc8 := nm_ hc8
        refine awp_seq ?_
        have R := hflM
        refine awp_region (by kernel_rfl) ?_
        iterate 4 (refine aL_S rfl rfl v_ ?_)
        refine aL_store rfl rfl rfl v_ v_ h_ g_ rfl g_ c_ (by rfl) (by rw [hflM]; omega) (flIt_put (by rw [hI.len]; omega)) ?_
        refine aL_nil ?_
        refine awp_region (by kernel_rfl) ?_
        iterate 3 (refine aL_S rfl rfl v_ ?_)
        refine aL_nil ?_
        refine awp_region (by kernel_rfl) ?_
        iterate 3 (refine aL_S rfl rfl v_ ?_)
        refine aL_nil ?_
        refine aNext (ι := Nat × Nat × List Itm) (i := ⟨j, i, M⟩) (j + 1, i + 1, M.set i x) ?_ ?_ ?_ ?_
        · show L.length - (j + 1) < L.length - j; omega
        · exact hI.put hx (by simpa using hc8)
        · exact cv_
        · exact sub_
      · replace hc8 := nm_ hc8
        refine awp_skip ?_
        refine awp_region (by kernel_rfl) ?_
        iterate 3 (refine aL_S rfl rfl v_ ?_)
        refine aL_nil ?_
        refine aNext (ι := Nat × Nat × List Itm) (i := ⟨j, i, M⟩) (j + 1, i, M) ?_ ?_ ?_ ?_
        · show L.length - (j + 1) < L.length - j; omega
        · exact hI.skip hx (by simpa using hc8)
        · exact cv_
        · exact sub_
    · replace hc5 := nm_ hc5
      refine awp_exit ?_
      refine aThen_exit ?_
      refine aThen_exit ?_
      refine aBlock_hit ?_
      refine awp_seq ?_
      have hil := hI.lt
      have hle := hI.le
      have hflM := flIt_len M
      rw [hI.len] at hflM
      have hcnt := hI.cnt
      have htk := hI.tk
      rw [show j = L.length by omega, List.take_length] at hcnt htk
      refine awp_region (by kernel_rfl) ?_
      iterate 3 (refine aL_S rfl rfl v_ ?_)
      refine aL_X0 rfl rfl (AOp_clear (sz := 3) rfl g_ g_ (by rfl) (by decide) va_ h_ (by rw [hflM]; omega) fun zs hz => ?_)
      refine aL_nil ?_
      refine awp_seq ?_
      refine awp_region (by kernel_rfl) ?_
      iterate 4 (refine aL_S rfl rfl v_ ?_)
      refine aL_nil ?_
      refine awp_ret ?_
      refine aEnd_ret v_ (Store.Wk.refl _) ?_
      exact ⟨zs ++ (flat (M.map sItem)).drop (i * 3 + zs.length), by rw [hcnt]; rfl, by rw [Store.set_set, flIt_take, htk]⟩
theorem deleteIt {F : Nat} {caps : List AVal} {p : Itm → Bool} {σ0 σ : Store} {L : List Itm} {a : AVal} (hF : PFIt F caps σ0 p) (h : CBIt σ0 σ L a) (hl : L.length ≤ 1000000) :
    ACalls Tryz.prog 110 [a, fnIt F caps] σ fun v σ' => v = .sl 3 ((L.filter fun x => !p x).map sItem) false ∧ σ0 = σ' := by
  rcases h with ⟨rfl, rfl, rfl⟩ | ⟨o, c, ho, _, _, rfl, rfl⟩
  · exact deIt_b hF.1
  · refine ACalls.wkA (args := [.mslc o 3 0 L.length c _, fnIt F caps]) ((deIt_M (σ := σ0.set o (.cells (flat (L.map sItem)))) hF ho (fun i y hi hy => by rw [Store.set_ne _ _ hi]; exact hy) (Store.set_get ..) hl).after ?_) rfl (fun j hj hj' => by match j, hj with | 0, _ => exact Wk.mslc _ _ _ _ _ _ | 1, _ => exact .refl _)
    rintro κ _ _ cv hI hr ⟨zs, rfl, rfl⟩
    obtain ⟨κ', h1, h2, h3, h4⟩ := Ab.freeze hI hr (Store.set_get ..) (l := (L.filter (fun x => !p x)).map sItem) (by rw [List.take_left' (by rw [flIt_len])]) (by simp) (szItm _)
    rw [Store.set_set, Store.set_del ho] at h3
    exact ⟨κ', _, _, h1, h2, h3, h4, rfl, rfl⟩
/-- a copy, taken for good -/
theorem CBIt.frozen {P : Program} {f : FuncId} {args : List AVal} {σ : Store} {L : List Itm} (h : ACalls P f args σ fun v σ' => CBIt σ σ' L v) : ACalls P f args σ fun v σ' => v = .sl 3 (L.map sItem) false ∧ σ = σ' := by
  refine h.after ?_
  rintro κ a τ cv hI hr (⟨rfl, rfl, rfl⟩ | ⟨o, c, ho, _, _, rfl, rfl⟩)
  · exact ⟨κ, _, _, rfl, .refl κ, hI, hr.wk (.sl1 _ _ _), rfl, rfl⟩
  · obtain ⟨κ', h1, h2, h3, h4⟩ := Ab.freeze hI (hr.wk (Wk.mslc _ _ _ _ _ _)) (Store.set_get ..) (l := L.map sItem) (by rw [List.take_of_length_le (by rw [flIt_len]; exact Nat.le_refl _)]) (by simp) (szItm _)
    rw [Store.set_del ho] at h3
    exact ⟨κ', _, _, h1, h2, h3, h4, rfl, rfl⟩
end Go.Proofs.YtbcgkbdacijoiaaGreat
end

section
set_option linter.all false
set_option maxRecDepth 100000
namespace Go.Proofs.YtbcgkbdacijoiaaGreat
open Go.Ab
abbrev plIt : AVal := .lit (.func (.func 148) #[] #[])
theorem fcIt {q : Nat} {x : Itm} {s : ByteArray} {σ : Store} (hq : σ.heap q = some (.cells [plIt])) : ACalls Tryz.prog 296 [sItem x, vStr s, .ref q 0] σ fun v σ' => v = vInt (cmpS x.place s) ∧ σ = σ' := by
  refine ACalls_of Tryz.func296 rfl Tryz.ntmps296 (congrArg Array.toList Tryz.results296) (by simp only [List.length_cons, List.length_nil]; decide) ?_; simp only [envOf_cons, envOf_nil, Nat.reduceAdd]
  refine awp_seq ?_
  refine awp_region (by kernel_rfl) ?_
  refine aL_box rfl rfl rfl v_ rfl g_ fun o3 ho3 => ?_
  repeat (rw [none_set_iff] at ho3; obtain ⟨_, ho3⟩ := ho3)
  (refine aL_S rfl rfl v_ ?_)
  refine aL_nil ?_
  have hq3 : (σ.set o3 (.cells [vStr x.place, .sl 3 (x.obj.ctx.map sSeen) false, .sl 5 (x.obj.sibs.map sSib) false])).heap q = some (.cells [plIt]) := by rw [Store.set_ne _ _ (fun hh => by rw [hh, ho3] at hq; cases hq)]; exact hq
  refine awp_seq ?_
  have R := hq3
  refine awp_region (by kernel_rfl) ?_
  iterate 2 (refine aL_S rfl rfl v_ ?_)
  refine aL_X rfl rfl (AOp_use rfl rfl (.inr ⟨va_, rfl, rfl⟩) g_ va_ (itemPlace_c) ?_); rintro _ _ ⟨rfl, rfl⟩
  (refine aL_S rfl rfl v_ ?_)
  refine aL_X rfl rfl (AOp_use rfl rfl (.inr ⟨rfl, rfl, rfl⟩) g_ va_ (strCompare_c) ?_); rintro _ _ ⟨rfl, rfl⟩
  (refine aL_S rfl rfl v_ ?_)
  refine aL_nil ?_
  refine awp_ret ?_
  refine aEnd_ret (σ' := σ) v_ sub_ ?_
  exact ⟨rfl, rfl⟩
abbrev fvIt (q : Nat) : AVal := .fn (.func 296) [] [.ref q 0]
theorem bsIt_s {q : Nat} {s : ByteArray} {L : List Itm} {t : Bool} {σ : Store} (hq : σ.heap q = some (.cells [plIt])) (hr : RiseK Itm.place L) (hl : L.length ≤ 1000000) :
    ACalls Tryz.prog 295 [.sl 3 (L.map sItem) t, vStr s, fvIt q] σ fun v σ' => v = .tup [vInt (lowK Itm.place s L), vB (atK Itm.place L s)] ∧ σ = σ' := by
  skip
  refine ACalls_of Tryz.func295 rfl Tryz.ntmps295 (congrArg Array.toList Tryz.results295) (by simp only [List.length_cons, List.length_nil]; decide) ?_; simp only [envOf_cons, envOf_nil, Nat.reduceAdd]
  refine awp_seq ?_
  refine awp_region (by kernel_rfl) ?_
  iterate 2 (refine aL_S rfl rfl v_ ?_)
  refine aL_nil ?_
  refine awp_seq ?_
  refine awp_region (by kernel_rfl) ?_
  iterate 3 (refine aL_S rfl rfl v_ ?_)
  refine aL_nil ?_
  refine awp_seq ?_
  refine awp_region (by kernel_rfl) ?_
  iterate 3 (refine aL_S rfl rfl v_ ?_)
  refine aL_nil ?_
  refine awp_seq ?_
  refine awp_block ?_
  refine awp_loop_env (ι := Nat × Nat) (fun ⟨i, j⟩ => j - i) (fun ⟨i, j⟩ => i ≤ j ∧ j ≤ L.length ∧ LoK Itm.place L s i ∧ HiK Itm.place L s j) (fun ⟨i, j⟩ => [(0, .sl 3 (L.map sItem) t), (1, vStr s), (2, fvIt q), (8, vInt L.length), (9, vInt i), (10, vInt j)]) (fun ⟨i, j⟩ => σ) (0, L.length) ?_ ?_ ?_ ?_
  · exact ⟨Nat.zero_le _, Nat.le_refl _, (fun m x h => by omega), fun m x h hx => by rw [List.getElem?_eq_none (by omega)] at hx; cases hx⟩
  · exact cv_
  · exact sub_
  rintro ⟨i, j⟩ ⟨hij, hj, hlo, hhi⟩
  simp only [envL_cons, envL_nil]
  refine awp_seq ?_
  refine awp_seq ?_
  refine awp_region (by kernel_rfl) ?_
  iterate 3 (refine aL_S rfl rfl v_ ?_)
  refine aL_nil ?_
  refine awp_cond v_ (fun hc3 => ?_) (fun hc3 => ?_)
  · replace hc3 := nm_ hc3
    refine awp_skip ?_
    refine awp_block ?_
    refine awp_seq ?_
    have hdiv : ((i : Int) + j) / 2 ^ 1 = (((i + j) / 2 : Nat) : Int) := by omega
    obtain ⟨x, hx⟩ := get_some (l := L) (k := (i + j) / 2) (by omega)
    have R := And.intro wrap_u64_m hdiv
    refine awp_region (by kernel_rfl) ?_
    iterate 7 (refine aL_S rfl rfl v_ ?_)
    refine aL_nil ?_
    refine awp_seq ?_
    have R := hx
    refine awp_region (by kernel_rfl) ?_
    iterate 6 (refine aL_S rfl rfl v_ ?_)
    refine aL_X rfl rfl (AOp_use rfl rfl (.inl v_) g_ va_ (fcIt hq) ?_); rintro _ _ ⟨rfl, rfl⟩
    (refine aL_S rfl rfl v_ ?_)
    refine aL_nil ?_
    refine awp_cond v_ (fun hc5 => ?_) (fun hc5 => ?_)
    · replace hc5 := nm_ hc5
      refine awp_region (by kernel_rfl) ?_
      iterate 3 (refine aL_S rfl rfl v_ ?_)
      refine aL_nil ?_
      refine aNext (ι := Nat × Nat) (i := ⟨i, j⟩) ((i + j) / 2 + 1, j) ?_ ?_ ?_ ?_
      · show j - ((i + j) / 2 + 1) < j - i; omega
      · exact ⟨by show (i + j) / 2 + 1 ≤ j; omega, hj, loK_next hr hx hc5, hhi⟩
      · have R := hdiv; exact cv_
      · exact sub_
    · replace hc5 := nm_ hc5
      refine awp_region (by kernel_rfl) ?_
      iterate 2 (refine aL_S rfl rfl v_ ?_)
      refine aL_nil ?_
      refine aNext (ι := Nat × Nat) (i := ⟨i, j⟩) (i, (i + j) / 2) ?_ ?_ ?_ ?_
      · show (i + j) / 2 - i < j - i; omega
      · exact ⟨by show i ≤ (i + j) / 2; omega, by show (i + j) / 2 ≤ L.length; omega, hlo, hiK_next hr hx hc5⟩
      · have R := hdiv; exact cv_
      · exact sub_
  · replace hc3 := nm_ hc3
    refine awp_exit ?_
    refine aThen_exit ?_
    refine aThen_exit ?_
    refine aBlock_hit ?_
    refine awp_seq ?_
    skip
    obtain rfl : i = j := by omega
    obtain ⟨x, hx⟩ := get_if L i
    have R := hx
    refine awp_region (by kernel_rfl) ?_
    iterate 5 (refine aL_S rfl rfl v_ ?_)
    refine aL_GT rfl rfl v_ rfl vg_ ?_
    refine aL_GT rfl rfl v_ rfl vg_ ?_
    refine aL_GT rfl rfl v_ rfl vg_ ?_
    refine aL_GT rfl rfl v_ rfl vg_ ?_
    refine aL_GT rfl rfl v_ rfl vg_ ?_
    refine aL_GT rfl rfl v_ rfl vg_ ?_
    refine aL_GTX rfl rfl v_ rfl (fun hb => AOp_useV (by rfl) (by rfl) (.inl vh_) g_ cg_ (fcIt hq)) ?_
    refine aL_GT rfl rfl v_ rfl vg_ ?_
    iterate 3 (refine aL_S rfl rfl v_ ?_)
    refine aL_nil ?_
    refine awp_ret ?_
    refine aEnd_ret (σ' := σ) v_ sub_ ?_
    refine ⟨?_, rfl⟩
    rw [lohiK hj hlo hhi, ← atK_of (lohiK hj hlo hhi) hx]
    simp only [Int.ofNat_lt]
theorem bsIt_m {q : Nat} {s : ByteArray} {L : List Itm} {o : Nat} {σ : Store} (hq : σ.heap q = some (.cells [plIt])) (ho : σ.heap o = some (.cells (flat (L.map sItem)))) (hr : RiseK Itm.place L) (hl : L.length ≤ 1000000) :
    ACalls Tryz.prog 295 [.msl o 3 0 L.length, vStr s, fvIt q] σ fun v σ' => v = .tup [vInt (lowK Itm.place s L), vB (atK Itm.place L s)] ∧ σ = σ' := by
  have hfl := flIt_len L
  refine ACalls_of Tryz.func295 rfl Tryz.ntmps295 (congrArg Array.toList Tryz.results295) (by simp only [List.length_cons, List.length_nil]; decide) ?_; simp only [envOf_cons, envOf_nil, Nat.reduceAdd]
  refine awp_seq ?_
  refine awp_region (by kernel_rfl) ?_
  iterate 2 (refine aL_S rfl rfl v_ ?_)
  refine aL_nil ?_
  refine awp_seq ?_
  refine awp_region (by kernel_rfl) ?_
  iterate 3 (refine aL_S rfl rfl v_ ?_)
  refine aL_nil ?_
  refine awp_seq ?_
  refine awp_region (by kernel_rfl) ?_
  iterate 3 (refine aL_S rfl rfl v_ ?_)
  refine aL_nil ?_
  refine awp_seq ?_
  refine awp_block ?_
  refine awp_loop_env (ι := Nat × Nat) (fun ⟨i, j⟩ => j - i) (fun ⟨i, j⟩ => i ≤ j ∧ j ≤ L.length ∧ LoK Itm.place L s i ∧ HiK Itm.place L s j) (fun ⟨i, j⟩ => [(0, .msl o 3 0 L.length), (1, vStr s), (2, fvIt q), (8, vInt L.length), (9, vInt i), (10, vInt j)]) (fun ⟨i, j⟩ => σ) (0, L.length) ?_ ?_ ?_ ?_
  · exact ⟨Nat.zero_le _, Nat.le_refl _, (fun m x h => by omega), fun m x h hx => by rw [List.getElem?_eq_none (by omega)] at hx; cases hx⟩
  · exact cv_
  · exact sub_
  rintro ⟨i, j⟩ ⟨hij, hj, hlo, hhi⟩
  simp only [envL_cons, envL_nil]
  refine awp_seq ?_
  refine awp_seq ?_
  refine awp_region (by kernel_rfl) ?_
  iterate 3 (refine aL_S rfl rfl v_ ?_)
  refine aL_nil ?_
  refine awp_cond v_ (fun hc3 => ?_) (fun hc3 => ?_)
  · replace hc3 := nm_ hc3
    refine awp_skip ?_
    refine awp_block ?_
    refine awp_seq ?_
    have hdiv : ((i : Int) + j) / 2 ^ 1 = (((i + j) / 2 : Nat) : Int) := by omega
    obtain ⟨x, hx⟩ := get_some (l := L) (k := (i + j) / 2) (by omega)
    have px := flIt_part hx
    have R := And.intro wrap_u64_m hdiv
    refine awp_region (by kernel_rfl) ?_
    iterate 7 (refine aL_S rfl rfl v_ ?_)
    refine aL_nil ?_
    refine awp_seq ?_
    have R := And.intro px (And.intro ho hfl)
    refine awp_region (by kernel_rfl) ?_
    iterate 6 (refine aL_S rfl rfl v_ ?_)
    refine aL_X rfl rfl (AOp_use rfl rfl (.inl v_) g_ va_ (fcIt hq) ?_); rintro _ _ ⟨rfl, rfl⟩
    (refine aL_S rfl rfl v_ ?_)
    refine aL_nil ?_
    refine awp_cond v_ (fun hc5 => ?_) (fun hc5 => ?_)
    · replace hc5 := nm_ hc5
      refine awp_region (by kernel_rfl) ?_
      iterate 3 (refine aL_S rfl rfl v_ ?_)
      refine aL_nil ?_
      refine aNext (ι := Nat × Nat) (i := ⟨i, j⟩) ((i + j) / 2 + 1, j) ?_ ?_ ?_ ?_
      · show j - ((i + j) / 2 + 1) < j - i; omega
      · exact ⟨by show (i + j) / 2 + 1 ≤ j; omega, hj, loK_next hr hx hc5, hhi⟩
      · have R := hdiv; exact cv_
      · exact sub_
    · replace hc5 := nm_ hc5
      refine awp_region (by kernel_rfl) ?_
      iterate 2 (refine aL_S rfl rfl v_ ?_)
      refine aL_nil ?_
      refine aNext (ι := Nat × Nat) (i := ⟨i, j⟩) (i, (i + j) / 2) ?_ ?_ ?_ ?_
      · show (i + j) / 2 - i < j - i; omega
      · exact ⟨by show i ≤ (i + j) / 2; omega, by show (i + j) / 2 ≤ L.length; omega, hlo, hiK_next hr hx hc5⟩
      · have R := hdiv; exact cv_
      · exact sub_
  · replace hc3 := nm_ hc3
    refine awp_exit ?_
    refine aThen_exit ?_
    refine aThen_exit ?_
    refine aBlock_hit ?_
    refine awp_seq ?_
    skip
    obtain rfl : i = j := by omega
    obtain ⟨x, hx⟩ := get_if L i
    have px := fun h => flIt_part (hx h)
    have R := And.intro px (And.intro ho hfl)
    refine awp_region (by kernel_rfl) ?_
    iterate 5 (refine aL_S rfl rfl v_ ?_)
    refine aL_GT rfl rfl v_ rfl vg_ ?_
    refine aL_GT rfl rfl v_ rfl vg_ ?_
    refine aL_GT rfl rfl v_ rfl vg_ ?_
    refine aL_GT rfl rfl v_ rfl vg_ ?_
    refine aL_GT rfl rfl v_ rfl vg_ ?_
    refine aL_GT rfl rfl v_ rfl vg_ ?_
    refine aL_GTX rfl rfl v_ rfl (fun hb => AOp_useV (by rfl) (by rfl) (.inl vh_) g_ cg_ (fcIt hq)) ?_
    refine aL_GT rfl rfl v_ rfl vg_ ?_
    iterate 3 (refine aL_S rfl rfl v_ ?_)
    refine aL_nil ?_
    refine awp_ret ?_
    refine aEnd_ret (σ' := σ) v_ sub_ ?_
    refine ⟨?_, rfl⟩
    rw [lohiK hj hlo hhi, ← atK_of (lohiK hj hlo hhi) hx]
    simp only [Int.ofNat_lt]

theorem fdIt_s {s : ByteArray} {L : List Itm} {t : Bool} {σ : Store} (hr : RiseK Itm.place L) (hl : L.length ≤ 1000000) :
    ACalls Tryz.prog 248 [.sl 3 (L.map sItem) t, vStr s, plIt] σ fun v σ' => v = .tup [vInt (lowK Itm.place s L), vB (atK Itm.place L s)] ∧ σ = σ' := by
  refine ACalls_of Tryz.func248 rfl Tryz.ntmps248 (congrArg Array.toList Tryz.results248) (by simp only [List.length_cons, List.length_nil]; decide) ?_; simp only [envOf_cons, envOf_nil, Nat.reduceAdd]
  refine awp_seq ?_
  refine awp_region (by kernel_rfl) ?_
  refine aL_box rfl rfl rfl v_ rfl g_ fun o5 ho5 => ?_
  repeat (rw [none_set_iff] at ho5; obtain ⟨_, ho5⟩ := ho5)
  iterate 2 (refine aL_S rfl rfl v_ ?_)
  refine aL_nil ?_
  refine awp_seq ?_
  refine awp_region (by kernel_rfl) ?_
  iterate 3 (refine aL_S rfl rfl v_ ?_)
  refine aL_X rfl rfl (AOp_use rfl rfl (.inr ⟨rfl, rfl, rfl⟩) g_ va_ (bsIt_s (Store.set_get ..) hr hl) ?_); rintro _ _ ⟨rfl, rfl⟩
  iterate 4 (refine aL_S rfl rfl v_ ?_)
  refine aL_nil ?_
  refine awp_ret ?_
  refine aEnd_ret (σ' := σ) v_ sub_ ?_
  exact ⟨rfl, rfl⟩
theorem fdIt_m {s : ByteArray} {L : List Itm} {o : Nat} {σ : Store} (ho : σ.heap o = some (.cells (flat (L.map sItem)))) (hr : RiseK Itm.place L) (hl : L.length ≤ 1000000) :
    ACalls Tryz.prog 248 [.msl o 3 0 L.length, vStr s, plIt] σ fun v σ' => v = .tup [vInt (lowK Itm.place s L), vB (atK Itm.place L s)] ∧ σ = σ' := by
  refine ACalls_of Tryz.func248 rfl Tryz.ntmps248 (congrArg Array.toList Tryz.results248) (by simp only [List.length_cons, List.length_nil]; decide) ?_; simp only [envOf_cons, envOf_nil, Nat.reduceAdd]
  refine awp_seq ?_
  refine awp_region (by kernel_rfl) ?_
  refine aL_box rfl rfl rfl v_ rfl g_ fun o5 ho5 => ?_
  repeat (rw [none_set_iff] at ho5; obtain ⟨_, ho5⟩ := ho5)
  iterate 2 (refine aL_S rfl rfl v_ ?_)
  refine aL_nil ?_
  have ho5 : (σ.set o5 (.cells [plIt])).heap o = some (.cells (flat (L.map sItem))) := by rw [Store.set_ne _ _ (fun hh => by rw [← hh, ho] at ho5; cases ho5)]; exact ho
  refine awp_seq ?_
  refine awp_region (by kernel_rfl) ?_
  iterate 3 (refine aL_S rfl rfl v_ ?_)
  refine aL_X rfl rfl (AOp_use rfl rfl (.inr ⟨rfl, rfl, rfl⟩) g_ va_ (bsIt_m (Store.set_get ..) ho5 hr hl) ?_); rintro _ _ ⟨rfl, rfl⟩
  iterate 4 (refine aL_S rfl rfl v_ ?_)
  refine aL_nil ?_
  refine awp_ret ?_
  refine aEnd_ret (σ' := σ) v_ sub_ ?_
  exact ⟨rfl, rfl⟩

theorem inIt_0 {x : Itm} {ov : Nat} {σ : Store} (hv : σ.heap ov = some (.cells (flat [sItem x]))) : ACalls Tryz.prog 249 [.sl 3 [] true, vInt 0, .msl ov 3 0 1] σ fun v σ' => ∃ o', (o' = ov ∨ σ.heap o' = none) ∧ v = .msl o' 3 0 1 ∧ SubX [ov] σ σ' ∧ σ'.heap o' = some (.cells (flat [sItem x])) := by
  refine ACalls_of Tryz.func249 rfl Tryz.ntmps249 (congrArg Array.toList Tryz.results249) (by simp only [List.length_cons, List.length_nil]; decide) ?_; simp only [envOf_cons, envOf_nil, Nat.reduceAdd]
  refine awp_seq ?_
  have R := hv
  refine awp_region (by kernel_rfl) ?_
  (refine aL_S rfl rfl v_ ?_)
  refine aL_nil ?_
  refine awp_seq ?_
  have R := hv
  refine awp_region (by kernel_rfl) ?_
  iterate 3 (refine aL_S rfl rfl v_ ?_)
  refine aL_nil ?_
  refine awp_seq ?_
  have R := hv
  refine awp_region (by kernel_rfl) ?_
  iterate 3 (refine aL_S rfl rfl v_ ?_)
  refine aL_nil ?_
  refine awp_seq ?_
  refine awp_seq ?_
  have R := hv
  refine awp_region (by kernel_rfl) ?_
  iterate 2 (refine aL_S rfl rfl v_ ?_)
  refine aL_nil ?_
  refine awp_cond v_ (fun hc3 => ?_) (fun hc3 => ?_)
  · replace hc3 := nm_ hc3
    omega
  · replace hc3 := nm_ hc3
    refine awp_skip ?_
    refine awp_seq ?_
    have R := hv
    refine awp_region (by kernel_rfl) ?_
    iterate 3 (refine aL_S rfl rfl v_ ?_)
    refine aL_nil ?_
    refine awp_seq ?_
    refine awp_seq ?_
    have R := hv
    refine awp_region (by kernel_rfl) ?_
    iterate 3 (refine aL_S rfl rfl v_ ?_)
    refine aL_nil ?_
    refine awp_cond v_ (fun hc6 => ?_) (fun hc6 => ?_)
    · replace hc6 := nm_ hc6
      refine awp_seq ?_
      have R := hv
      refine awp_region (by kernel_rfl) ?_
      (refine aL_S rfl rfl v_ ?_)
      refine aL_X rfl rfl (AOp_freeze (by first | exact .inl rfl | exact .inr rfl) va_ h_ (l := [sItem x]) (by rfl) (by rfl) (by simp; rfl) ?_)
      refine aL_X rfl rfl (AOp_copyM rfl g_ g_ va_ (l2 := [sItem x]) va_ (by simp) (by simp) fun o25 ho25 => ?_)
      (refine aL_S rfl rfl v_ ?_)
      refine aL_nil ?_
      refine awp_ret ?_
      exact aEnd_ret (σ' := (σ.del ov).set o25 (.cells (flat [sItem x]))) va_ sub_ ⟨o25, del_fresh ho25, rfl, subx_del ho25, Store.set_get ..⟩
    · replace hc6 := nm_ hc6
      omega
theorem ptIt (L : List Itm) {i : Nat} (hi : i ≤ L.length) : flat (L.map sItem) = flat ((L.take i).map sItem) ++ flat ((L.drop i).map sItem) ∧ (flat ((L.take i).map sItem)).length = i * 3 ∧ (flat ((L.drop i).map sItem)).length = (L.length - i) * 3 := by
  refine ⟨?_, ?_, ?_⟩
  · rw [← flat_append, ← List.map_append, List.take_append_drop]
  · rw [flIt_len, List.length_take, Nat.min_eq_left hi]
  · rw [flIt_len, List.length_drop]
theorem paIt (L : List Itm) (x : Itm) (i : Nat) : flat ((L.take i ++ x :: L.drop i).map sItem) = flat ((L.take i).map sItem) ++ ([vStr x.place, .sl 3 (x.obj.ctx.map sSeen) false, .sl 5 (x.obj.sibs.map sSib) false] ++ flat ((L.drop i).map sItem)) := by
  rw [List.map_append, List.map_cons, flat_append, flat_cons]; rfl
theorem grIt {L : List Itm} {x : Itm} {i a b c d e f : Nat} {X : List AVal} (hX : X = [vStr x.place, .sl 3 (x.obj.ctx.map sSeen) false, .sl 5 (x.obj.sibs.map sSib) false]) (hi : i ≤ L.length) (ha : a = i * 3) (hb : b = (L.length + 1 - i) * 3) (hc : c = i * 3) (hd : d = (i + 1) * 3) (he : e = (L.length - i) * 3) (hf : f = i * 3) :
    aput (aput ((flat (L.map sItem)).take a ++ List.replicate b AVal.any) c X) d (((flat (L.map sItem)).drop f).take e) = flat ((L.take i ++ x :: L.drop i).map sItem) := by
  obtain ⟨h1, h2, h3⟩ := ptIt L hi
  subst hX ha hb hc hd he hf
  rw [paIt, h1, List.take_left' h2, List.drop_left' h2, List.take_of_length_le (show (flat ((L.drop i).map sItem)).length ≤ (L.length - i) * 3 by rw [h3]; exact Nat.le_refl _), show (i + 1) * 3 = (flat ((L.take i).map sItem)).length + [vStr x.place, .sl 3 (x.obj.ctx.map sSeen) false, .sl 5 (x.obj.sibs.map sSib) false].length by rw [h2]; show (i + 1) * 3 = i * 3 + 3; omega, ← h2]
  exact put_new (by rw [List.length_replicate, h3]; show _ = 3 + _; omega)
theorem rmIt {L : List Itm} {x : Itm} {i b c d e f : Nat} {X : List AVal} (hX : X = [vStr x.place, .sl 3 (x.obj.ctx.map sSeen) false, .sl 5 (x.obj.sibs.map sSib) false]) (hi : i ≤ L.length) (hb : b = 3) (hd : d = (i + 1) * 3) (he : e = (L.length - i) * 3) (hf : f = i * 3) (hc : c = i * 3) :
    aput (aput (flat (L.map sItem) ++ List.replicate b AVal.any) d (((flat (L.map sItem) ++ List.replicate b AVal.any).drop f).take e)) c X = flat ((L.take i ++ x :: L.drop i).map sItem) := by
  obtain ⟨h1, h2, h3⟩ := ptIt L hi
  subst hX hb hc hd he hf
  rw [paIt, h1, List.append_assoc, List.drop_left' h2, List.take_left' h3, ← List.append_assoc, show (i + 1) * 3 = (flat ((L.take i).map sItem)).length + [vStr x.place, .sl 3 (x.obj.ctx.map sSeen) false, .sl 5 (x.obj.sibs.map sSib) false].length by rw [h2]; show (i + 1) * 3 = i * 3 + 3; omega, ← h2]
  exact put_room (by rw [List.length_replicate]; rfl)
theorem onIt (L : List Itm) : ∀ a ∈ flat (L.map sItem), a.one = true := fun a ha => by
  simp only [flat, List.mem_flatMap] at ha
  obtain ⟨y, hy, h⟩ := ha
  obtain ⟨z, _, rfl⟩ := List.mem_map.1 hy
  simp [AVal.cells] at h
  rcases h with rfl | rfl | rfl <;> rfl
theorem rtIt (L : List Itm) {i e f : Nat} {W : List AVal} (hi : i ≤ L.length) (he : e = (L.length - i) * 3) (hf : f = i * 3) : ((flat (L.map sItem) ++ W).drop f).take e = (flat (L.map sItem)).drop f := by
  have hl := flIt_len L
  subst he hf
  rw [List.drop_append_of_le_length (by rw [hl]; exact Nat.mul_le_mul_right _ hi), List.take_left' (by rw [List.length_drop, hl]; omega)]
set_option maxHeartbeats 1000000 in
theorem inIt_M {o ov c i : Nat} {L : List Itm} {x : Itm} {σ : Store} (ho : σ.heap o = some (.cells (flat (L.map sItem)))) (hv : σ.heap ov = some (.cells (flat [sItem x]))) (hoo : o ≠ ov) (hi : i ≤ L.length) (h0 : L ≠ []) (hc : L.length ≤ c) (hl : L.length ≤ 1000000) :
    ACalls Tryz.prog 249 [.mslc o 3 0 L.length c (89), vInt i, .msl ov 3 0 1] σ fun v σ' => ∃ o', (o' = o ∨ o' = ov ∨ σ.heap o' = none) ∧ v = .msl o' 3 0 (L.length + 1) ∧ SubX [o, ov] σ σ' ∧ σ'.heap o' = some (.cells (flat ((L.take i ++ x :: L.drop i).map sItem))) := by
  have hfl := flIt_len L
  have hov : (σ.del ov).heap o = some (.cells (flat (L.map sItem))) := by rw [Store.del_ne _ hoo]; exact ho
  have hf1 : (flat [sItem x]).length = 3 := rfl
  have hor : (i = 0 ∨ True) = True := by simp
  have e9 : (L.length : Int) + (1 : Nat) - i = ((L.length + 1 - i : Nat) : Int) := by omega
  refine ACalls_of Tryz.func249 rfl Tryz.ntmps249 (congrArg Array.toList Tryz.results249) (by simp only [List.length_cons, List.length_nil]; decide) ?_; simp only [envOf_cons, envOf_nil, Nat.reduceAdd]
  refine awp_seq ?_
  have R := And.intro hv (And.intro ho (And.intro hov (And.intro e9 hor)))
  refine awp_region (by kernel_rfl) ?_
  (refine aL_S rfl rfl v_ ?_)
  refine aL_nil ?_
  refine awp_seq ?_
  have R := And.intro hv (And.intro ho (And.intro hov (And.intro e9 hor)))
  refine awp_region (by kernel_rfl) ?_
  iterate 2 (refine aL_S rfl rfl v_ ?_)
  refine aL_X rfl rfl (AOp_sliceAny (l := i) (h := L.length) rfl g_ g_ va_ al_ (by rfl) hi hc ?_)
  refine aL_nil ?_
  refine awp_seq ?_
  have R := And.intro hv (And.intro ho (And.intro hov (And.intro e9 hor)))
  refine awp_region (by kernel_rfl) ?_
  iterate 3 (refine aL_S rfl rfl v_ ?_)
  refine aL_nil ?_
  refine awp_seq ?_
  refine awp_seq ?_
  have R := And.intro hv (And.intro ho (And.intro hov (And.intro e9 hor)))
  refine awp_region (by kernel_rfl) ?_
  iterate 2 (refine aL_S rfl rfl v_ ?_)
  refine aL_nil ?_
  refine awp_cond v_ (fun hc3 => ?_) (fun hc3 => ?_)
  · replace hc3 := nm_ hc3
    omega
  · replace hc3 := nm_ hc3
    refine awp_skip ?_
    refine awp_seq ?_
    have R := And.intro hv (And.intro ho (And.intro hov (And.intro e9 hor)))
    refine awp_region (by kernel_rfl) ?_
    (refine aL_S rfl rfl v_ ?_)
    refine aL_X rfl rfl (AOp_lenC rfl g_ va_ ?_)
    (refine aL_S rfl rfl v_ ?_)
    refine aL_nil ?_
    refine awp_seq ?_
    refine awp_seq ?_
    have R := And.intro hv (And.intro ho (And.intro hov (And.intro e9 hor)))
    refine awp_region (by kernel_rfl) ?_
    iterate 3 (refine aL_S rfl rfl v_ ?_)
    refine aL_nil ?_
    refine awp_cond v_ (fun hc6 => ?_) (fun hc6 => ?_)
    · replace hc6 := nm_ hc6
      refine awp_seq ?_
      have R := And.intro hv (And.intro ho (And.intro hov (And.intro e9 hor)))
      refine awp_region (by kernel_rfl) ?_
      refine aL_X rfl rfl (AOp_wk (a := .mslc o 3 0 L.length c (89)) (AOp_val (by rfl) ⟨rfl, rfl⟩) (.mslc _ _ _ _ _ _) ?_)
      refine aL_X rfl rfl (AOp_freeze (by first | exact .inl rfl | exact .inr rfl) va_ h_ (l := [sItem x]) (by rfl) (by rfl) (by simp; rfl) ?_)
      refine aL_X rfl rfl (AOp_appendM (old := some o) (l2 := [sItem x]) (len := L.length) rfl g_ g_ (.inl ⟨o, _, va_, h_, rfl, rfl, by rw [hfl]; exact Nat.le_refl _⟩) va_ (by simp) (by simp [AVal.one, AVal.cells]) (by show (L.length + 1) * _ ≤ _; omega) fun o25 ho25 => ?_)
      (refine aL_S rfl rfl v_ ?_)
      refine aL_nil ?_
      refine awp_ret ?_
      refine aEnd_ret va_ (Store.Wk.refl _) ?_
      refine ⟨o25, .inr (del_fresh ho25), rfl, subx_del2 ho25, ?_⟩
      rw [Store.set_get, show i = L.length by omega, List.take_length, List.drop_length, List.map_append, flat_append, List.take_of_length_le (by rw [hfl]; exact Nat.le_refl _)]; rfl
    · replace hc6 := nm_ hc6
      refine awp_skip ?_
      refine awp_seq ?_
      refine awp_seq ?_
      have R := And.intro hv (And.intro ho (And.intro hov (And.intro e9 hor)))
      refine awp_region (by kernel_rfl) ?_
      iterate 4 (refine aL_S rfl rfl v_ ?_)
      refine aL_X rfl rfl (AOp_capC rfl g_ va_ ?_)
      (refine aL_S rfl rfl v_ ?_)
      refine aL_nil ?_
      refine awp_cond v_ (fun hc8 => ?_) (fun hc8 => ?_)
      · replace hc8 := nm_ hc8
        refine awp_seq ?_
        have R := And.intro hv (And.intro ho (And.intro hov (And.intro e9 hor)))
        refine awp_region (by kernel_rfl) ?_
        iterate 2 (refine aL_S rfl rfl v_ ?_)
        refine aL_X rfl rfl (AOp_sliceC (l := 0) (h := i) rfl g_ g_ va_ (by rfl) al_ (Nat.zero_le _) (by omega) (.inl rfl) ?_)
        iterate 5 (refine aL_S rfl rfl v_ ?_)
        refine aL_X rfl rfl (AOp_growC (len := i) (cap := c) (n := L.length + 1 - i) rfl g_ g_ g_ va_ h_ va_ (by omega) (by omega) (by omega) (by omega) fun o40 ho40 => ?_)
        (refine aL_S rfl rfl v_ ?_)
        refine aL_nil ?_
        have n1 : o ≠ o40 := fun hh => by rw [hh, ho40] at ho; cases ho
        have n2 : ov ≠ o40 := fun hh => by rw [hh, ho40] at hv; cases hv
        refine awp_seq ?_
        have R := And.intro hv (And.intro ho (And.intro hov (And.intro e9 hor)))
        refine awp_region (by kernel_rfl) ?_
        iterate 4 (refine aL_S rfl rfl v_ ?_)
        refine aL_X rfl rfl (AOp_copyS (n := 1) (m := 1) rfl g_ g_ va_ h_ (.inr ⟨_, _, _, va_, h_, rfl⟩) (by show _ = min _ _; omega) (by omega) (Nat.le_refl 3) (fun a ha => onIt [x] a (List.mem_of_mem_drop (List.mem_of_mem_take ha))) (by rw [List.length_append, List.length_take, List.length_replicate, hfl]; omega) ?_)
        refine aL_nil ?_
        refine awp_seq ?_
        have R := And.intro hv (And.intro ho (And.intro hov (And.intro e9 hor)))
        refine awp_draw (.op 0 0 (.op 1 0 (.op 2 0 (.any 3 (.op 4 0 (.op 6 0 (.op 5 2 (.op 7 2 (.op 8 2 .nil))))))))) Tryz.mixed (by kernel_rfl) ?_
        iterate 3 (refine dR_S o_ (by rfl) (by rfl) v_ ?_)
        refine dR_A o_ (by rfl) (by rfl) (fun _ => v_) ?_
        iterate 2 (refine dR_S o_ (by rfl) (by rfl) v_ ?_)
        refine dR_T o_ (by rfl) (by rfl) (AOp_wk (a := .mslc o 3 0 L.length c (89)) (AOp_val (by rfl) ⟨rfl, rfl⟩) (.mslc _ _ _ _ _ _) ?_)
        refine dR_T o_ (by rfl) (by rfl) (AOp_val v_ ?_)
        refine dR_T o_ (by rfl) (by rfl) (AOp_copyS (n := L.length - i) (m := L.length - i) (by rfl) g_ g_ va_ h_ (.inr ⟨_, _, _, va_, h_, rfl⟩) (by show _ = min _ _; omega) (by omega) (by rw [List.length_drop, hfl]; omega) (fun a ha => onIt L a (List.mem_of_mem_drop (List.mem_of_mem_take ha))) (by simp only [aput, List.length_append, List.length_take, List.length_drop, List.length_replicate, hfl, hf1]; omega) ?_)
        refine dR_nil ?_
        refine awp_seq ?_
        have R := And.intro hv (And.intro ho (And.intro hov (And.intro e9 hor)))
        refine awp_region (by kernel_rfl) ?_
        iterate 2 (refine aL_S rfl rfl v_ ?_)
        refine aL_nil ?_
        refine awp_ret ?_
        refine aEnd_ret va_ (Store.Wk.refl _) ?_
        refine ⟨o40, .inr (.inr ho40), by congr 1; omega, sub_, ?_⟩
        rw [Store.set_get]
        exact congrArg (fun l => some (AObj.cells l)) (grIt rfl hi (by omega) (by omega) (by omega) (by omega) (by omega) (by omega))
      · replace hc8 := nm_ hc8
        refine awp_skip ?_
        refine awp_seq ?_
        have R := And.intro hv (And.intro ho (And.intro hov (And.intro e9 hor)))
        refine awp_region (by kernel_rfl) ?_
        iterate 4 (refine aL_S rfl rfl v_ ?_)
        refine aL_X rfl rfl (AOp_sliceX (h := L.length + 1) rfl g_ g_ va_ (by simp [go_sem, alow, ahigh, abound]; omega) h_ (by omega) (by omega) ?_)
        (refine aL_S rfl rfl v_ ?_)
        refine aL_nil ?_
        refine awp_seq ?_
        refine awp_seq ?_
        have R := And.intro hv (And.intro ho (And.intro hov (And.intro e9 hor)))
        refine awp_region (by kernel_rfl) ?_
        iterate 6 (refine aL_S rfl rfl v_ ?_)
        refine aL_X rfl rfl (AOp_extern rfl (e := Extern.SlicesOverlaps.overlaps #[64, 64] #[4]) (by kernel_rfl) g_ (fun κ ev hI h => ovl_rv (e := 89) hI g_ g_ va_ va_ h_ h_ hoo.symm (by rw [List.length_append, List.length_replicate, hfl]; omega) h) ?_)
        (refine aL_S rfl rfl v_ ?_)
        refine aL_nil ?_
        refine awp_cond v_ (fun hc14 => ?_) (fun hc14 => ?_)
        · replace hc14 := nm_ hc14
          refine awp_seq ?_
          have R := And.intro hv (And.intro ho (And.intro hov (And.intro e9 hor)))
          refine awp_draw (.op 0 0 (.op 1 0 (.op 2 0 (.op 3 0 (.op 4 0 (.op 5 0 (.op 6 0 (.op 7 0 (.op 8 2 .nil))))))))) Tryz.mixed (by kernel_rfl) ?_
          iterate 8 (refine dR_S o_ (by rfl) (by rfl) v_ ?_)
          refine dR_T o_ (by rfl) (by rfl) (AOp_copyS (n := L.length + 1 - i) (m := L.length - i) (by rfl) g_ g_ va_ h_ (.inr ⟨_, _, _, va_, h_, rfl⟩) (by show _ = min _ _; omega) (by omega) (by rw [List.length_drop, List.length_append, hfl]; omega) (fun a ha => by rw [rtIt L hi (by omega) (by omega)] at ha; exact onIt L a (List.mem_of_mem_drop ha)) (by rw [List.length_append, List.length_replicate, hfl]; omega) ?_)
          refine dR_nil ?_
          refine awp_seq ?_
          have R := And.intro hv (And.intro ho (And.intro hov (And.intro e9 hor)))
          refine awp_region (by kernel_rfl) ?_
          iterate 4 (refine aL_S rfl rfl v_ ?_)
          refine aL_X rfl rfl (AOp_copyS (n := 1) (m := 1) rfl g_ g_ va_ h_ (.inr ⟨_, _, _, va_, h_, rfl⟩) (by show _ = min _ _; omega) (by omega) (Nat.le_refl 3) (fun a ha => onIt [x] a (List.mem_of_mem_drop (List.mem_of_mem_take ha))) (by simp only [aput, List.length_append, List.length_take, List.length_drop, List.length_replicate, hfl, hf1]; omega) ?_)
          refine aL_nil ?_
          refine awp_seq ?_
          have R := And.intro hv (And.intro ho (And.intro hov (And.intro e9 hor)))
          refine awp_region (by kernel_rfl) ?_
          iterate 2 (refine aL_S rfl rfl v_ ?_)
          refine aL_nil ?_
          refine awp_ret ?_
          refine aEnd_ret va_ (Store.Wk.refl _) ?_
          refine ⟨o, .inl rfl, rfl, sub_, ?_⟩
          rw [Store.set_get]
          exact congrArg (fun l => some (AObj.cells l)) (rmIt rfl hi (by omega) (by omega) (by omega) (by omega) (by omega))
        · replace hc14 := nm_ hc14
          first | cases hc14 | (simp at hc14; done)
theorem ceIt {t : Bool} {σ : Store} : ACalls Tryz.prog 111 [.sl 3 [] t] σ fun v σ' => v = .sl 3 [] true ∧ σ = σ' := clIt_0.mono fun v σ' h => by
  rcases h with ⟨_, h1, h2⟩ | ⟨_, _, _, h, _⟩
  · exact ⟨h1, h2.symm⟩
  · exact absurd rfl h
theorem cmIt {L : List Itm} {t : Bool} {σ : Store} (h0 : L ≠ []) (hl : L.length ≤ 1000000) : ACalls Tryz.prog 111 [.sl 3 (L.map sItem) t] σ fun v σ' => ∃ o c, σ.heap o = none ∧ L.length ≤ c ∧ v = .mslc o 3 0 L.length c (89) ∧ σ' = σ.set o (.cells (flat (L.map sItem))) := (clIt_1 h0 hl).mono fun v σ' h => by
  rcases h with ⟨h, _⟩ | ⟨o, c, h1, _, h2, h3, h4⟩
  · exact absurd h h0
  · exact ⟨o, c, h1, h2, h3, h4⟩
theorem feIt {s : ByteArray} {σ : Store} : ACalls Tryz.prog 248 [.sl 3 [] true, vStr s, plIt] σ fun v σ' => v = .tup [vInt 0, vB false] ∧ σ = σ' := fdIt_s (L := []) (t := true) List.Pairwise.nil (by simp)
theorem wiIt_0 {x : Itm} {t : Bool} {σ : Store} : ACalls Tryz.prog 174 [.sl 3 [] t, sItem x, plIt] σ fun v σ' => v = .sl 3 [sItem x] false ∧ σ = σ' := by
  refine ACalls_of Tryz.func174 rfl Tryz.ntmps174 (congrArg Array.toList Tryz.results174) (by simp only [List.length_cons, List.length_nil]; decide) ?_; simp only [envOf_cons, envOf_nil, Nat.reduceAdd]
  refine awp_seq ?_
  refine awp_region (by kernel_rfl) ?_
  refine aL_box rfl rfl rfl v_ rfl g_ fun o4 ho4 => ?_
  repeat (rw [none_set_iff] at ho4; obtain ⟨_, ho4⟩ := ho4)
  (refine aL_S rfl rfl v_ ?_)
  refine aL_nil ?_
  refine awp_seq ?_
  refine awp_region (by kernel_rfl) ?_
  (refine aL_S rfl rfl v_ ?_)
  refine aL_X rfl rfl (AOp_use rfl rfl (.inr ⟨rfl, rfl, rfl⟩) g_ va_ (ceIt) ?_); rintro _ _ ⟨rfl, rfl⟩
  (refine aL_S rfl rfl v_ ?_)
  refine aL_nil ?_
  refine awp_seq ?_
  refine awp_region (by kernel_rfl) ?_
  iterate 3 (refine aL_S rfl rfl v_ ?_)
  refine aL_X rfl rfl (AOp_use rfl rfl (.inr ⟨va_, rfl, rfl⟩) g_ va_ (itemPlace_c) ?_); rintro _ _ ⟨rfl, rfl⟩
  (refine aL_S rfl rfl v_ ?_)
  refine aL_X rfl rfl (AOp_use rfl rfl (.inr ⟨rfl, rfl, rfl⟩) g_ va_ (feIt) ?_); rintro _ _ ⟨rfl, rfl⟩
  iterate 5 (refine aL_S rfl rfl v_ ?_)
  refine aL_nil ?_
  refine awp_seq ?_
  refine awp_seq ?_
  refine awp_region (by kernel_rfl) ?_
  iterate 2 (refine aL_S rfl rfl v_ ?_)
  refine aL_nil ?_
  refine awp_cond v_ (fun hc3 => ?_) (fun hc3 => ?_)
  · replace hc3 := nm_ hc3
    refine awp_seq ?_
    refine awp_region (by kernel_rfl) ?_
    iterate 3 (refine aL_S rfl rfl v_ ?_)
    refine aL_X rfl rfl (AOp_buildM (l := [sItem x]) rfl g_ g_ rfl rfl va_ c2_ (by decide) fun ov hov => ?_)
    refine aL_X rfl rfl (AOp_use rfl rfl (.inr ⟨rfl, rfl, rfl⟩) g_ va_ (inIt_0 (x := x) (Store.set_get ..)) ?_); rintro _ τ1 ⟨o', h1, rfl, h3, h4⟩
    refine aL_X rfl rfl (AOp_freeze (.inl rfl) va_ h4 (l := [sItem x]) rfl rfl (by simp; rfl) ?_)
    refine aL_nil ?_
    refine awp_ret ?_
    refine aEnd_ret (σ' := σ) va_ ?_ ⟨rfl, rfl⟩
    exact ins_end (fun i y hy => ⟨notmem1 hov (set_old ho4 hy), set_old2 ho4 hov hy⟩) (fun t n ht => ht) (h1.imp (fun hh => by rw [hh]; exact .head _) id) h3
  · replace hc3 := nm_ hc3
    first | cases hc3 | (simp at hc3; done)
theorem wiIt_M {x : Itm} {L : List Itm} {t : Bool} {σ : Store} (h0 : L ≠ []) (hr : RiseK Itm.place L) (hl : L.length ≤ 1000000) : ACalls Tryz.prog 174 [.sl 3 (L.map sItem) t, sItem x, plIt] σ fun v σ' => v = .sl 3 ((insK Itm.place x L).map sItem) false ∧ σ = σ' := by
  have hfl := flIt_len L
  have hle := lowK_le Itm.place x.place L
  refine ACalls_of Tryz.func174 rfl Tryz.ntmps174 (congrArg Array.toList Tryz.results174) (by simp only [List.length_cons, List.length_nil]; decide) ?_; simp only [envOf_cons, envOf_nil, Nat.reduceAdd]
  refine awp_seq ?_
  refine awp_region (by kernel_rfl) ?_
  refine aL_box rfl rfl rfl v_ rfl g_ fun o4 ho4 => ?_
  repeat (rw [none_set_iff] at ho4; obtain ⟨_, ho4⟩ := ho4)
  (refine aL_S rfl rfl v_ ?_)
  refine aL_nil ?_
  refine awp_seq ?_
  refine awp_region (by kernel_rfl) ?_
  (refine aL_S rfl rfl v_ ?_)
  refine aL_X rfl rfl (AOp_use rfl rfl (.inr ⟨rfl, rfl, rfl⟩) g_ va_ (cmIt h0 hl) ?_); rintro _ _ ⟨o, c, hon, hc, rfl, rfl⟩
  (refine aL_S rfl rfl v_ ?_)
  refine aL_nil ?_
  have n4o : o4 ≠ o := fun hh => by rw [← hh, Store.set_get] at hon; cases hon
  have ho : ((σ.set o4 (.cells [vStr x.place, .sl 3 (x.obj.ctx.map sSeen) false, .sl 5 (x.obj.sibs.map sSib) false])).set o (.cells (flat (L.map sItem)))).heap o = some (.cells (flat (L.map sItem))) := Store.set_get ..
  refine awp_seq ?_
  have R := And.intro ho hfl
  refine awp_region (by kernel_rfl) ?_
  refine aL_X rfl rfl (AOp_wk (a := .mslc o 3 0 L.length c (89)) (AOp_val (by rfl) ⟨rfl, rfl⟩) (.mslc _ _ _ _ _ _) ?_)
  iterate 2 (refine aL_S rfl rfl v_ ?_)
  refine aL_X rfl rfl (AOp_use rfl rfl (.inr ⟨va_, rfl, rfl⟩) g_ va_ (itemPlace_c) ?_); rintro _ _ ⟨rfl, rfl⟩
  (refine aL_S rfl rfl v_ ?_)
  refine aL_X rfl rfl (AOp_use rfl rfl (.inr ⟨rfl, rfl, rfl⟩) g_ va_ (fdIt_m ho hr hl) ?_); rintro _ _ ⟨rfl, rfl⟩
  iterate 5 (refine aL_S rfl rfl v_ ?_)
  refine aL_nil ?_
  refine awp_seq ?_
  refine awp_seq ?_
  refine awp_region (by kernel_rfl) ?_
  iterate 2 (refine aL_S rfl rfl v_ ?_)
  refine aL_nil ?_
  refine awp_cond v_ (fun hc3 => ?_) (fun hc3 => ?_)
  · replace hc3 := nm_ hc3
    refine awp_seq ?_
    have R := And.intro ho hfl
    refine awp_region (by kernel_rfl) ?_
    iterate 3 (refine aL_S rfl rfl v_ ?_)
    refine aL_X rfl rfl (AOp_buildM (l := [sItem x]) rfl g_ g_ rfl rfl va_ c2_ (by decide) fun ov hov => ?_)
    refine aL_X rfl rfl (AOp_use rfl rfl (.inr ⟨rfl, rfl, rfl⟩) g_ va_ (inIt_M (x := x) (i := lowK Itm.place x.place L) (by rw [Store.set_ne _ _ (fun hh => by rw [← hh, ho] at hov; cases hov)]; exact ho) (Store.set_get ..) (fun hh => by rw [← hh, ho] at hov; cases hov) hle h0 hc hl) ?_); rintro _ τ1 ⟨o', h1, rfl, h3, h4⟩
    refine aL_X rfl rfl (AOp_freeze (.inl rfl) va_ h4 (l := (L.take (lowK Itm.place x.place L) ++ x :: L.drop (lowK Itm.place x.place L)).map sItem) (List.take_of_length_le (by rw [flIt_len]; simp; omega)) (by simp; omega) (szItm _) ?_)
    refine aL_nil ?_
    refine awp_ret ?_
    refine aEnd_ret (σ' := σ) va_ ?_ ⟨by rw [insK_no hr (by simpa using hc3), List.map_append, List.map_cons], rfl⟩
    exact ins_end (fun i y hy => ⟨notmem2 hon hov (set_old ho4 hy), set_old hov (set_old2 ho4 hon hy)⟩) (fun t n ht => ht) (h1.elim (fun hh => .inl (by rw [hh]; exact .head _)) (fun hh => hh.elim (fun hh => .inl (by rw [hh]; exact .tail _ (.head _))) .inr)) h3
  · replace hc3 := nm_ hc3
    have hlt := atK_lt (key := Itm.place) (l := L) (s := x.place) (by simpa using hc3)
    refine awp_skip ?_
    refine awp_seq ?_
    have R := And.intro ho hfl
    refine awp_region (by kernel_rfl) ?_
    refine aL_X rfl rfl (AOp_wk (a := .mslc o 3 0 L.length c (89)) (AOp_val (by rfl) ⟨rfl, rfl⟩) (.mslc _ _ _ _ _ _) ?_)
    iterate 3 (refine aL_S rfl rfl v_ ?_)
    refine aL_store rfl rfl rfl v_ v_ h_ g_ rfl g_ c_ (by rfl) (by rw [hfl]; have := atK_lt (key := Itm.place) (l := L) (s := x.place) (by simpa using hc3); omega) (flIt_put (atK_lt (by simpa using hc3))) ?_
    refine aL_nil ?_
    refine awp_seq ?_
    have R := And.intro ho hfl
    refine awp_region (by kernel_rfl) ?_
    refine aL_X rfl rfl (AOp_wk (a := .mslc o 3 0 L.length c (89)) (AOp_val (by rfl) ⟨rfl, rfl⟩) (.mslc _ _ _ _ _ _) ?_)
    refine aL_X rfl rfl (AOp_freeze (by first | exact .inl rfl | exact .inr rfl) va_ h_ (l := (L.set (lowK Itm.place x.place L) x).map sItem) (by exact List.take_of_length_le (by rw [flIt_len]; simp)) (by simp) (by exact szItm _) ?_)
    refine aL_nil ?_
    refine awp_ret ?_
    refine aEnd_ret (σ' := σ) va_ ?_ ⟨by rw [insK_yes hr (by simpa using hc3)], rfl⟩
    exact ins_end (S := (σ.set o4 (.cells [vStr x.place, .sl 3 (x.obj.ctx.map sSeen) false, .sl 5 (x.obj.sibs.map sSib) false])).set o (.cells (flat (L.map sItem)))) (l := [o]) (fun i y hy => ⟨notmem1 hon (set_old ho4 hy), set_old2 ho4 hon hy⟩) (fun t n ht => ht) (.inl (.head _)) sub_
theorem withIt {x : Itm} {L : List Itm} {t : Bool} {σ : Store} (hr : RiseK Itm.place L) (hl : L.length ≤ 1000000) : ACalls Tryz.prog 174 [.sl 3 (L.map sItem) t, sItem x, plIt] σ fun v σ' => v = .sl 3 ((insK Itm.place x L).map sItem) false ∧ σ = σ' := by
  by_cases h : L = []
  · subst h; exact wiIt_0
  · exact wiIt_M h hr hl
end Go.Proofs.YtbcgkbdacijoiaaGreat
end

section
set_option linter.all false
set_option maxRecDepth 100000
namespace Go.Proofs.YtbcgkbdacijoiaaGreat
open Go.Ab
/-- a function of elements, that asks only what stands in the store -/
def PFMn (F : FuncId) (caps : List AVal) (σ : Store) (p : Mnt → Bool) : Prop := isGo Tryz.prog F = true ∧ ∀ τ : Store, (∀ i y, σ.heap i = some y → τ.heap i = some y) → ∀ x : Mnt, ACalls Tryz.prog F (sMnt x :: caps) τ fun v τ' => v = vB (p x) ∧ τ = τ'
abbrev fnMn (F : Nat) (caps : List AVal) : AVal := .fn (.func F) [] caps
theorem flMn_len (L : List Mnt) : (flat (L.map sMnt)).length = L.length * 2 := by rw [flat_length (szMnt L), List.length_map]
theorem flMn_part : ∀ {L : List Mnt} {j : Nat} {x : Mnt}, L[j]? = some x → ((flat (L.map sMnt)).drop (j * 2)).take 2 = [vStr x.place, vInt x.n]
  | [], j, x, h => by simp at h
  | y :: L, 0, x, h => by
    simp only [List.getElem?_cons_zero, Option.some.injEq] at h
    subst h
    rfl
  | y :: L, j + 1, x, h => by
    rw [List.map_cons, flat_cons, show (j + 1) * 2 = 2 + j * 2 by omega, ← List.drop_drop]
    exact flMn_part (L := L) (j := j) h
theorem flMn_put {M : List Mnt} {j : Nat} {x : Mnt} (hj : j < M.length) : aput (flat (M.map sMnt)) (j * 2) [vStr x.place, vInt x.n] = flat ((M.set j x).map sMnt) := by
  have e : M.set j x = M.take j ++ x :: M.drop (j + 1) := by rw [List.set_eq_take_append_cons_drop, if_pos hj]
  have e2 : M = M.take j ++ M[j] :: M.drop (j + 1) := by rw [List.getElem_cons_drop hj, List.take_append_drop]
  have hl : (flat ((M.take j).map sMnt)).length = j * 2 := by rw [flMn_len, List.length_take, Nat.min_eq_left (by omega)]
  rw [e]
  conv => lhs; rw [e2]
  unfold aput
  rw [List.map_append, List.map_cons, flat_append, flat_cons, List.map_append, List.map_cons, flat_append, flat_cons, List.take_left' hl, List.drop_append, List.drop_of_length_le (by rw [hl]; simp), hl, show j * 2 + [vStr x.place, vInt x.n].length - j * 2 = 2 by rw [show [vStr x.place, vInt x.n].length = 2 from rfl]; omega]
  simp [AVal.cells]
/-- a copy: nothing, or a row of its own whose room is known -/
def CBMn (σ0 σ : Store) (L : List Mnt) (v : AVal) : Prop := (L = [] ∧ v = .sl 2 [] true ∧ σ = σ0) ∨ ∃ o c, σ0.heap o = none ∧ L ≠ [] ∧ L.length ≤ c ∧ v = .mslc o 2 0 L.length c (135) ∧ σ = σ0.set o (.cells (flat (L.map sMnt)))
theorem clMn_0 {t : Bool} {σ : Store} : ACalls Tryz.prog 250 [.sl 2 [] t] σ fun v σ' => CBMn σ σ' [] v := by
  refine ACalls_of Tryz.func250 rfl Tryz.ntmps250 (congrArg Array.toList Tryz.results250) (by simp only [List.length_cons, List.length_nil]; decide) ?_; simp only [envOf_cons, envOf_nil, Nat.reduceAdd]
  refine awp_seq ?_
  refine awp_region (by kernel_rfl) ?_
  (refine aL_S rfl rfl v_ ?_)
  refine aL_nil ?_
  refine awp_seq ?_
  refine awp_seq ?_
  refine awp_region (by kernel_rfl) ?_
  (refine aL_S rfl rfl v_ ?_)
  refine aL_X rfl rfl (AOp_eqNil0 rfl g_ va_ va_ fun b => ?_)
  refine aL_nil ?_
  refine awp_cond v_ (fun hc1 => ?_) (fun hc1 => ?_)
  · replace hc1 := nm_ hc1
    refine awp_seq ?_
    refine awp_region (by kernel_rfl) ?_
    (refine aL_S rfl rfl v_ ?_)
    refine aL_nil ?_
    refine awp_ret ?_
    exact aEnd_retW (v := .sl 2 [] true) (v' := .lit (.slice none 0 0)) va_ (.nil _ _) sub_ (.inl ⟨rfl, rfl, rfl⟩)
  · replace hc1 := nm_ hc1
    refine awp_skip ?_
    refine awp_seq ?_
    refine awp_region (by kernel_rfl) ?_
    refine aL_buildSlice rfl rfl rfl g_ g_ rfl rfl h_ c2_ (by decide) ?_
    (refine aL_S rfl rfl v_ ?_)
    refine aL_X rfl rfl (AOp_append00T rfl g_ g_ va_ va_ ?_)
    (refine aL_S rfl rfl v_ ?_)
    refine aL_nil ?_
    refine awp_ret ?_
    exact aEnd_ret va_ sub_ (.inl ⟨rfl, rfl, rfl⟩)
theorem clMn_1 {L : List Mnt} {t : Bool} {σ : Store} (h0 : L ≠ []) (hl : L.length ≤ 1000000) : ACalls Tryz.prog 250 [.sl 2 (L.map sMnt) t] σ fun v σ' => CBMn σ σ' L v := by
  have hne : L.map sMnt ≠ [] := by simpa using h0
  refine ACalls_of Tryz.func250 rfl Tryz.ntmps250 (congrArg Array.toList Tryz.results250) (by simp only [List.length_cons, List.length_nil]; decide) ?_; simp only [envOf_cons, envOf_nil, Nat.reduceAdd]
  refine awp_seq ?_
  refine awp_region (by kernel_rfl) ?_
  (refine aL_S rfl rfl v_ ?_)
  refine aL_nil ?_
  refine awp_seq ?_
  refine awp_seq ?_
  refine awp_region (by kernel_rfl) ?_
  (refine aL_S rfl rfl v_ ?_)
  refine aL_X rfl rfl (AOp_eqNil rfl g_ v_ (by exact hne) va_ ?_)
  refine aL_nil ?_
  refine awp_cond v_ (fun hc1 => ?_) (fun hc1 => ?_)
  · replace hc1 := nm_ hc1
    cases hc1
  · replace hc1 := nm_ hc1
    refine awp_skip ?_
    refine awp_seq ?_
    refine awp_region (by kernel_rfl) ?_
    refine aL_buildSlice rfl rfl rfl g_ g_ rfl rfl h_ c2_ (by decide) ?_
    (refine aL_S rfl rfl v_ ?_)
    refine aL_X rfl rfl (AOp_copyMc rfl g_ g_ va_ g_ hne (by simp; omega) fun o7 c7 ho7 hc7 => ?_)
    (refine aL_S rfl rfl v_ ?_)
    refine aL_nil ?_
    refine awp_ret ?_
    refine aEnd_ret v_ (Store.Wk.refl _) ?_
    exact .inr ⟨o7, c7, ho7, h0, by simpa using hc7, rfl, rfl⟩
/-- where the first one stands -/
theorem ixMn_s {F : Nat} {caps : List AVal} {p : Mnt → Bool} {L : List Mnt} {t : Bool} {σ : Store} (hF : PFMn F caps σ p) (hl : L.length ≤ 1000000) : ACalls Tryz.prog 144 [.sl 2 (L.map sMnt) t, fnMn F caps] σ fun v σ' => (∃ r : Int, v = vInt r ∧ ((r = -1 ∧ L.find? p = none) ∨ ∃ j : Nat, ∃ x, r = j ∧ L[j]? = some x ∧ L.find? p = some x)) ∧ σ = σ' := by
  have hgo := hF.1
  refine ACalls_of Tryz.func144 rfl Tryz.ntmps144 (congrArg Array.toList Tryz.results144) (by simp only [List.length_cons, List.length_nil]; decide) ?_; simp only [envOf_cons, envOf_nil, Nat.reduceAdd]
  refine awp_seq ?_
  refine awp_region (by kernel_rfl) ?_
  (refine aL_S rfl rfl v_ ?_)
  refine aL_nil ?_
  refine awp_seq ?_
  refine awp_seq ?_
  refine awp_region (by kernel_rfl) ?_
  iterate 3 (refine aL_S rfl rfl v_ ?_)
  refine aL_nil ?_
  refine awp_block ?_
  refine awp_loop_env (ι := Nat) (fun k => L.length - k) (fun k => k ≤ L.length ∧ ∀ m y, m < k → L[m]? = some y → p y = false) (fun k => [(0, .sl 2 (L.map sMnt) t), (1, fnMn F caps), (7, vInt L.length), (8, vInt k)]) (fun k => σ) 0 ?_ ?_ ?_ ?_
  · exact ⟨Nat.zero_le _, fun m y hm => by omega⟩
  · exact cv_
  · exact sub_
  rintro k ⟨hk, hf⟩
  simp only [envL_cons, envL_nil]
  refine awp_seq ?_
  refine awp_region (by kernel_rfl) ?_
  (refine aL_S rfl rfl v_ ?_)
  refine aL_nil ?_
  refine awp_seq ?_
  refine awp_cond v_ (fun hc2 => ?_) (fun hc2 => ?_)
  · replace hc2 := nm_ hc2
    refine awp_skip ?_
    refine awp_seq ?_
    refine awp_block ?_
    refine awp_seq ?_
    refine awp_region (by kernel_rfl) ?_
    iterate 2 (refine aL_S rfl rfl v_ ?_)
    refine aL_nil ?_
    refine awp_seq ?_
    obtain ⟨x, hx⟩ := get_some (l := L) (k := k) (by omega)
    have R := hx
    refine awp_region (by kernel_rfl) ?_
    iterate 5 (refine aL_S rfl rfl v_ ?_)
    refine aL_X rfl rfl (AOp_use rfl rfl (.inl v_) g_ va_ (hF.2 _ (fun _ _ h => h) x) ?_); rintro _ _ ⟨rfl, rfl⟩
    refine aL_nil ?_
    refine awp_cond v_ (fun hc4 => ?_) (fun hc4 => ?_)
    · replace hc4 := nm_ hc4
      refine awp_seq ?_
      refine awp_region (by kernel_rfl) ?_
      iterate 2 (refine aL_S rfl rfl v_ ?_)
      refine aL_nil ?_
      refine awp_ret ?_
      refine aEnd_ret (σ' := σ) v_ sub_ ?_
      exact ⟨⟨k, rfl, .inr ⟨k, x, rfl, hx, find_at hx (by simpa using hc4) hf⟩⟩, rfl⟩
    · replace hc4 := nm_ hc4
      refine awp_skip ?_
      refine awp_region (by kernel_rfl) ?_
      iterate 2 (refine aL_S rfl rfl v_ ?_)
      refine aL_nil ?_
      refine aNext (ι := Nat) (i := k) (k + 1) ?_ ?_ ?_ ?_
      · omega
      · exact ⟨by omega, fun m y hm hy => by rcases Nat.lt_or_eq_of_le (Nat.le_of_lt_succ hm) with h | h; exact hf m y h hy; rw [h, hx] at hy; cases hy; simpa using hc4⟩
      · exact cv_
      · exact sub_
  · replace hc2 := nm_ hc2
    refine awp_exit ?_
    refine aThen_exit ?_
    refine aThen_exit ?_
    refine aBlock_hit ?_
    refine awp_seq ?_
    refine awp_region (by kernel_rfl) ?_
    (refine aL_S rfl rfl v_ ?_)
    refine aL_nil ?_
    refine awp_ret ?_
    refine aEnd_ret (σ' := σ) v_ sub_ ?_
    exact ⟨⟨-1, rfl, .inl ⟨rfl, List.find?_eq_none.2 fun y hy => by obtain ⟨m, hm, e⟩ := List.mem_iff_getElem.1 hy; have := hf m y (by omega) (by rw [List.getElem?_eq_getElem hm, e]); rw [this]; simp⟩⟩, rfl⟩
/-- a copy, taken for good -/
theorem CBMn.frozen {P : Program} {f : FuncId} {args : List AVal} {σ : Store} {L : List Mnt} (h : ACalls P f args σ fun v σ' => CBMn σ σ' L v) : ACalls P f args σ fun v σ' => v = .sl 2 (L.map sMnt) false ∧ σ = σ' := by
  refine h.after ?_
  rintro κ a τ cv hI hr (⟨rfl, rfl, rfl⟩ | ⟨o, c, ho, _, _, rfl, rfl⟩)
  · exact ⟨κ, _, _, rfl, .refl κ, hI, hr.wk (.sl1 _ _ _), rfl, rfl⟩
  · obtain ⟨κ', h1, h2, h3, h4⟩ := Ab.freeze hI (hr.wk (Wk.mslc _ _ _ _ _ _)) (Store.set_get ..) (l := L.map sMnt) (by rw [List.take_of_length_le (by rw [flMn_len]; exact Nat.le_refl _)]) (by simp) (szMnt _)
    rw [Store.set_del ho] at h3
    exact ⟨κ', _, _, h1, h2, h3, h4, rfl, rfl⟩
end Go.Proofs.YtbcgkbdacijoiaaGreat
end

section
set_option linter.all false
set_option maxRecDepth 100000
namespace Go.Proofs.YtbcgkbdacijoiaaGreat
open Go.Ab
abbrev plMn : AVal := .lit (.func (.func 150) #[] #[])
theorem fcMn {q : Nat} {x : Mnt} {s : ByteArray} {σ : Store} (hq : σ.heap q = some (.cells [plMn])) : ACalls Tryz.prog 300 [sMnt x, vStr s, .ref q 0] σ fun v σ' => v = vInt (cmpS x.place s) ∧ σ = σ' := by
  refine ACalls_of Tryz.func300 rfl Tryz.ntmps300 (congrArg Array.toList Tryz.results300) (by simp only [List.length_cons, List.length_nil]; decide) ?_; simp only [envOf_cons, envOf_nil, Nat.reduceAdd]
  refine awp_seq ?_
  refine awp_region (by kernel_rfl) ?_
  refine aL_box rfl rfl rfl v_ rfl g_ fun o3 ho3 => ?_
  repeat (rw [none_set_iff] at ho3; obtain ⟨_, ho3⟩ := ho3)
  (refine aL_S rfl rfl v_ ?_)
  refine aL_nil ?_
  have hq3 : (σ.set o3 (.cells [vStr x.place, vInt x.n])).heap q = some (.cells [plMn]) := by rw [Store.set_ne _ _ (fun hh => by rw [hh, ho3] at hq; cases hq)]; exact hq
  refine awp_seq ?_
  have R := hq3
  refine awp_region (by kernel_rfl) ?_
  iterate 2 (refine aL_S rfl rfl v_ ?_)
  refine aL_X rfl rfl (AOp_use rfl rfl (.inr ⟨va_, rfl, rfl⟩) g_ va_ (mintPlace_c) ?_); rintro _ _ ⟨rfl, rfl⟩
  (refine aL_S rfl rfl v_ ?_)
  refine aL_X rfl rfl (AOp_use rfl rfl (.inr ⟨rfl, rfl, rfl⟩) g_ va_ (strCompare_c) ?_); rintro _ _ ⟨rfl, rfl⟩
  (refine aL_S rfl rfl v_ ?_)
  refine aL_nil ?_
  refine awp_ret ?_
  refine aEnd_ret (σ' := σ) v_ sub_ ?_
  exact ⟨rfl, rfl⟩
abbrev fvMn (q : Nat) : AVal := .fn (.func 300) [] [.ref q 0]
theorem bsMn_s {q : Nat} {s : ByteArray} {L : List Mnt} {t : Bool} {σ : Store} (hq : σ.heap q = some (.cells [plMn])) (hr : RiseK Mnt.place L) (hl : L.length ≤ 1000000) :
    ACalls Tryz.prog 299 [.sl 2 (L.map sMnt) t, vStr s, fvMn q] σ fun v σ' => v = .tup [vInt (lowK Mnt.place s L), vB (atK Mnt.place L s)] ∧ σ = σ' := by
  skip
  refine ACalls_of Tryz.func299 rfl Tryz.ntmps299 (congrArg Array.toList Tryz.results299) (by simp only [List.length_cons, List.length_nil]; decide) ?_; simp only [envOf_cons, envOf_nil, Nat.reduceAdd]
  refine awp_seq ?_
  refine awp_region (by kernel_rfl) ?_
  iterate 2 (refine aL_S rfl rfl v_ ?_)
  refine aL_nil ?_
  refine awp_seq ?_
  refine awp_region (by kernel_rfl) ?_
  iterate 3 (refine aL_S rfl rfl v_ ?_)
  refine aL_nil ?_
  refine awp_seq ?_
  refine awp_region (by kernel_rfl) ?_
  iterate 3 (refine aL_S rfl rfl v_ ?_)
  refine aL_nil ?_
  refine awp_seq ?_
  refine awp_block ?_
  refine awp_loop_env (ι := Nat × Nat) (fun ⟨i, j⟩ => j - i) (fun ⟨i, j⟩ => i ≤ j ∧ j ≤ L.length ∧ LoK Mnt.place L s i ∧ HiK Mnt.place L s j) (fun ⟨i, j⟩ => [(0, .sl 2 (L.map sMnt) t), (1, vStr s), (2, fvMn q), (8, vInt L.length), (9, vInt i), (10, vInt j)]) (fun ⟨i, j⟩ => σ) (0, L.length) ?_ ?_ ?_ ?_
  · exact ⟨Nat.zero_le _, Nat.le_refl _, (fun m x h => by omega), fun m x h hx => by rw [List.getElem?_eq_none (by omega)] at hx; cases hx⟩
  · exact cv_
  · exact sub_
  rintro ⟨i, j⟩ ⟨hij, hj, hlo, hhi⟩
  simp only [envL_cons, envL_nil]
  refine awp_seq ?_
  refine awp_seq ?_
  refine awp_region (by kernel_rfl) ?_
  iterate 3 (refine aL_S rfl rfl v_ ?_)
  refine aL_nil ?_
  refine awp_cond v_ (fun hc3 => ?_) (fun hc3 => ?_)
  · replace hc3 := nm_ hc3
    refine awp_skip ?_
    refine awp_block ?_
    refine awp_seq ?_
    have hdiv : ((i : Int) + j) / 2 ^ 1 = (((i + j) / 2 : Nat) : Int) := by omega
    obtain ⟨x, hx⟩ := get_some (l := L) (k := (i + j) / 2) (by omega)
    have R := And.intro wrap_u64_m hdiv
    refine awp_region (by kernel_rfl) ?_
    iterate 7 (refine aL_S rfl rfl v_ ?_)
    refine aL_nil ?_
    refine awp_seq ?_
    have R := hx
    refine awp_region (by kernel_rfl) ?_
    iterate 6 (refine aL_S rfl rfl v_ ?_)
    refine aL_X rfl rfl (AOp_use rfl rfl (.inl v_) g_ va_ (fcMn hq) ?_); rintro _ _ ⟨rfl, rfl⟩
    (refine aL_S rfl rfl v_ ?_)
    refine aL_nil ?_
    refine awp_cond v_ (fun hc5 => ?_) (fun hc5 => ?_)
    · replace hc5 := nm_ hc5
      refine awp_region (by kernel_rfl) ?_
      iterate 3 (refine aL_S rfl rfl v_ ?_)
      refine aL_nil ?_
      refine aNext (ι := Nat × Nat) (i := ⟨i, j⟩) ((i + j) / 2 + 1, j) ?_ ?_ ?_ ?_
      · show j - ((i + j) / 2 + 1) < j - i; omega
      · exact ⟨by show (i + j) / 2 + 1 ≤ j; omega, hj, loK_next hr hx hc5, hhi⟩
      · have R := hdiv; exact cv_
      · exact sub_
    · replace hc5 := nm_ hc5
      refine awp_region (by kernel_rfl) ?_
      iterate 2 (refine aL_S rfl rfl v_ ?_)
      refine aL_nil ?_
      refine aNext (ι := Nat × Nat) (i := ⟨i, j⟩) (i, (i + j) / 2) ?_ ?_ ?_ ?_
      · show (i + j) / 2 - i < j - i; omega
      · exact ⟨by show i ≤ (i + j) / 2; omega, by show (i + j) / 2 ≤ L.length; omega, hlo, hiK_next hr hx hc5⟩
      · have R := hdiv; exact cv_
      · exact sub_
  · replace hc3 := nm_ hc3
    refine awp_exit ?_
    refine aThen_exit ?_
    refine aThen_exit ?_
    refine aBlock_hit ?_
    refine awp_seq ?_
    skip
    obtain rfl : i = j := by omega
    obtain ⟨x, hx⟩ := get_if L i
    have R := hx
    refine awp_region (by kernel_rfl) ?_
    iterate 5 (refine aL_S rfl rfl v_ ?_)
    refine aL_GT rfl rfl v_ rfl vg_ ?_
    refine aL_GT rfl rfl v_ rfl vg_ ?_
    refine aL_GT rfl rfl v_ rfl vg_ ?_
    refine aL_GT rfl rfl v_ rfl vg_ ?_
    refine aL_GT rfl rfl v_ rfl vg_ ?_
    refine aL_GT rfl rfl v_ rfl vg_ ?_
    refine aL_GTX rfl rfl v_ rfl (fun hb => AOp_useV (by rfl) (by rfl) (.inl vh_) g_ cg_ (fcMn hq)) ?_
    refine aL_GT rfl rfl v_ rfl vg_ ?_
    iterate 3 (refine aL_S rfl rfl v_ ?_)
    refine aL_nil ?_
    refine awp_ret ?_
    refine aEnd_ret (σ' := σ) v_ sub_ ?_
    refine ⟨?_, rfl⟩
    rw [lohiK hj hlo hhi, ← atK_of (lohiK hj hlo hhi) hx]
    simp only [Int.ofNat_lt]
theorem bsMn_m {q : Nat} {s : ByteArray} {L : List Mnt} {o : Nat} {σ : Store} (hq : σ.heap q = some (.cells [plMn])) (ho : σ.heap o = some (.cells (flat (L.map sMnt)))) (hr : RiseK Mnt.place L) (hl : L.length ≤ 1000000) :
    ACalls Tryz.prog 299 [.msl o 2 0 L.length, vStr s, fvMn q] σ fun v σ' => v = .tup [vInt (lowK Mnt.place s L), vB (atK Mnt.place L s)] ∧ σ = σ' := by
  have hfl := flMn_len L
  refine ACalls_of Tryz.func299 rfl Tryz.ntmps299 (congrArg Array.toList Tryz.results299) (by simp only [List.length_cons, List.length_nil]; decide) ?_; simp only [envOf_cons, envOf_nil, Nat.reduceAdd]
  refine awp_seq ?_
  refine awp_region (by kernel_rfl) ?_
  iterate 2 (refine aL_S rfl rfl v_ ?_)
  refine aL_nil ?_
  refine awp_seq ?_
  refine awp_region (by kernel_rfl) ?_
  iterate 3 (refine aL_S rfl rfl v_ ?_)
  refine aL_nil ?_
  refine awp_seq ?_
  refine awp_region (by kernel_rfl) ?_
  iterate 3 (refine aL_S rfl rfl v_ ?_)
  refine aL_nil ?_
  refine awp_seq ?_
  refine awp_block ?_
  refine awp_loop_env (ι := Nat × Nat) (fun ⟨i, j⟩ => j - i) (fun ⟨i, j⟩ => i ≤ j ∧ j ≤ L.length ∧ LoK Mnt.place L s i ∧ HiK Mnt.place L s j) (fun ⟨i, j⟩ => [(0, .msl o 2 0 L.length), (1, vStr s), (2, fvMn q), (8, vInt L.length), (9, vInt i), (10, vInt j)]) (fun ⟨i, j⟩ => σ) (0, L.length) ?_ ?_ ?_ ?_
  · exact ⟨Nat.zero_le _, Nat.le_refl _, (fun m x h => by omega), fun m x h hx => by rw [List.getElem?_eq_none (by omega)] at hx; cases hx⟩
  · exact cv_
  · exact sub_
  rintro ⟨i, j⟩ ⟨hij, hj, hlo, hhi⟩
  simp only [envL_cons, envL_nil]
  refine awp_seq ?_
  refine awp_seq ?_
  refine awp_region (by kernel_rfl) ?_
  iterate 3 (refine aL_S rfl rfl v_ ?_)
  refine aL_nil ?_
  refine awp_cond v_ (fun hc3 => ?_) (fun hc3 => ?_)
  · replace hc3 := nm_ hc3
    refine awp_skip ?_
    refine awp_block ?_
    refine awp_seq ?_
    have hdiv : ((i : Int) + j) / 2 ^ 1 = (((i + j) / 2 : Nat) : Int) := by omega
    obtain ⟨x, hx⟩ := get_some (l := L) (k := (i + j) / 2) (by omega)
    have px := flMn_part hx
    have R := And.intro wrap_u64_m hdiv
    refine awp_region (by kernel_rfl) ?_
    iterate 7 (refine aL_S rfl rfl v_ ?_)
    refine aL_nil ?_
    refine awp_seq ?_
    have R := And.intro px (And.intro ho hfl)
    refine awp_region (by kernel_rfl) ?_
    iterate 6 (refine aL_S rfl rfl v_ ?_)
    refine aL_X rfl rfl (AOp_use rfl rfl (.inl v_) g_ va_ (fcMn hq) ?_); rintro _ _ ⟨rfl, rfl⟩
    (refine aL_S rfl rfl v_ ?_)
    refine aL_nil ?_
    refine awp_cond v_ (fun hc5 => ?_) (fun hc5 => ?_)
    · replace hc5 := nm_ hc5
      refine awp_region (by kernel_rfl) ?_
      iterate 3 (refine aL_S rfl rfl v_ ?_)
      refine aL_nil ?_
      refine aNext (ι := Nat × Nat) (i := ⟨i, j⟩) ((i + j) / 2 + 1, j) ?_ ?_ ?_ ?_
      · show j - ((i + j) / 2 + 1) < j - i; omega
      · exact ⟨by show (i + j) / 2 + 1 ≤ j; omega, hj, loK_next hr hx hc5, hhi⟩
      · have R := hdiv; exact cv_
      · exact sub_
    · replace hc5 := nm_ hc5
      refine awp_region (by kernel_rfl) ?_
      iterate 2 (refine aL_S rfl rfl v_ ?_)
      refine aL_nil ?_
      refine aNext (ι := Nat × Nat) (i := ⟨i, j⟩) (i, (i + j) / 2) ?_ ?_ ?_ ?_
      · show (i + j) / 2 - i < j - i; omega
      · exact ⟨by show i ≤ (i + j) / 2; omega, by show (i + j) / 2 ≤ L.length; omega, hlo, hiK_next hr hx hc5⟩
      · have R := hdiv; exact cv_
      · exact sub_
  · replace hc3 := nm_ hc3
    refine awp_exit ?_
    refine aThen_exit ?_
    refine aThen_exit ?_
    refine aBlock_hit ?_
    refine awp_seq ?_
    skip
    obtain rfl : i = j := by omega
    obtain ⟨x, hx⟩ := get_if L i
    have px := fun h => flMn_part (hx h)
    have R := And.intro px (And.intro ho hfl)
    refine awp_region (by kernel_rfl) ?_
    iterate 5 (refine aL_S rfl rfl v_ ?_)
    refine aL_GT rfl rfl v_ rfl vg_ ?_
    refine aL_GT rfl rfl v_ rfl vg_ ?_
    refine aL_GT rfl rfl v_ rfl vg_ ?_
    refine aL_GT rfl rfl v_ rfl vg_ ?_
    refine aL_GT rfl rfl v_ rfl vg_ ?_
    refine aL_GT rfl rfl v_ rfl vg_ ?_
    refine aL_GTX rfl rfl v_ rfl (fun hb => AOp_useV (by rfl) (by rfl) (.inl vh_) g_ cg_ (fcMn hq)) ?_
    refine aL_GT rfl rfl v_ rfl vg_ ?_
    iterate 3 (refine aL_S rfl rfl v_ ?_)
    refine aL_nil ?_
    refine awp_ret ?_
    refine aEnd_ret (σ' := σ) v_ sub_ ?_
    refine ⟨?_, rfl⟩
    rw [lohiK hj hlo hhi, ← atK_of (lohiK hj hlo hhi) hx]
    simp only [Int.ofNat_lt]

theorem fdMn_s {s : ByteArray} {L : List Mnt} {t : Bool} {σ : Store} (hr : RiseK Mnt.place L) (hl : L.length ≤ 1000000) :
    ACalls Tryz.prog 251 [.sl 2 (L.map sMnt) t, vStr s, plMn] σ fun v σ' => v = .tup [vInt (lowK Mnt.place s L), vB (atK Mnt.place L s)] ∧ σ = σ' := by
  refine ACalls_of Tryz.func251 rfl Tryz.ntmps251 (congrArg Array.toList Tryz.results251) (by simp only [List.length_cons, List.length_nil]; decide) ?_; simp only [envOf_cons, envOf_nil, Nat.reduceAdd]
  refine awp_seq ?_
  refine awp_region (by kernel_rfl) ?_
  refine aL_box rfl rfl rfl v_ rfl g_ fun o5 ho5 => ?_
  repeat (rw [none_set_iff] at ho5; obtain ⟨_, ho5⟩ := ho5)
  iterate 2 (refine aL_S rfl rfl v_ ?_)
  refine aL_nil ?_
  refine awp_seq ?_
  refine awp_region (by kernel_rfl) ?_
  iterate 3 (refine aL_S rfl rfl v_ ?_)
  refine aL_X rfl rfl (AOp_use rfl rfl (.inr ⟨rfl, rfl, rfl⟩) g_ va_ (bsMn_s (Store.set_get ..) hr hl) ?_); rintro _ _ ⟨rfl, rfl⟩
  iterate 4 (refine aL_S rfl rfl v_ ?_)
  refine aL_nil ?_
  refine awp_ret ?_
  refine aEnd_ret (σ' := σ) v_ sub_ ?_
  exact ⟨rfl, rfl⟩
theorem fdMn_m {s : ByteArray} {L : List Mnt} {o : Nat} {σ : Store} (ho : σ.heap o = some (.cells (flat (L.map sMnt)))) (hr : RiseK Mnt.place L) (hl : L.length ≤ 1000000) :
    ACalls Tryz.prog 251 [.msl o 2 0 L.length, vStr s, plMn] σ fun v σ' => v = .tup [vInt (lowK Mnt.place s L), vB (atK Mnt.place L s)] ∧ σ = σ' := by
  refine ACalls_of Tryz.func251 rfl Tryz.ntmps251 (congrArg Array.toList Tryz.results251) (by simp only [List.length_cons, List.length_nil]; decide) ?_; simp only [envOf_cons, envOf_nil, Nat.reduceAdd]
  refine awp_seq ?_
  refine awp_region (by kernel_rfl) ?_
  refine aL_box rfl rfl rfl v_ rfl g_ fun o5 ho5 => ?_
  repeat (rw [none_set_iff] at ho5; obtain ⟨_, ho5⟩ := ho5)
  iterate 2 (refine aL_S rfl rfl v_ ?_)
  refine aL_nil ?_
  have ho5 : (σ.set o5 (.cells [plMn])).heap o = some (.cells (flat (L.map sMnt))) := by rw [Store.set_ne _ _ (fun hh => by rw [← hh, ho] at ho5; cases ho5)]; exact ho
  refine awp_seq ?_
  refine awp_region (by kernel_rfl) ?_
  iterate 3 (refine aL_S rfl rfl v_ ?_)
  refine aL_X rfl rfl (AOp_use rfl rfl (.inr ⟨rfl, rfl, rfl⟩) g_ va_ (bsMn_m (Store.set_get ..) ho5 hr hl) ?_); rintro _ _ ⟨rfl, rfl⟩
  iterate 4 (refine aL_S rfl rfl v_ ?_)
  refine aL_nil ?_
  refine awp_ret ?_
  refine aEnd_ret (σ' := σ) v_ sub_ ?_
  exact ⟨rfl, rfl⟩

theorem inMn_0 {x : Mnt} {ov : Nat} {σ : Store} (hv : σ.heap ov = some (.cells (flat [sMnt x]))) : ACalls Tryz.prog 252 [.sl 2 [] true, vInt 0, .msl ov 2 0 1] σ fun v σ' => ∃ o', (o' = ov ∨ σ.heap o' = none) ∧ v = .msl o' 2 0 1 ∧ SubX [ov] σ σ' ∧ σ'.heap o' = some (.cells (flat [sMnt x])) := by
  refine ACalls_of Tryz.func252 rfl Tryz.ntmps252 (congrArg Array.toList Tryz.results252) (by simp only [List.length_cons, List.length_nil]; decide) ?_; simp only [envOf_cons, envOf_nil, Nat.reduceAdd]
  refine awp_seq ?_
  have R := hv
  refine awp_region (by kernel_rfl) ?_
  (refine aL_S rfl rfl v_ ?_)
  refine aL_nil ?_
  refine awp_seq ?_
  have R := hv
  refine awp_region (by kernel_rfl) ?_
  iterate 3 (refine aL_S rfl rfl v_ ?_)
  refine aL_nil ?_
  refine awp_seq ?_
  have R := hv
  refine awp_region (by kernel_rfl) ?_
  iterate 3 (refine aL_S rfl rfl v_ ?_)
  refine aL_nil ?_
  refine awp_seq ?_
  refine awp_seq ?_
  have R := hv
  refine awp_region (by kernel_rfl) ?_
  iterate 2 (refine aL_S rfl rfl v_ ?_)
  refine aL_nil ?_
  refine awp_cond v_ (fun hc3 => ?_) (fun hc3 => ?_)
  · replace hc3 := nm_ hc3
    omega
  · replace hc3 := nm_ hc3
    refine awp_skip ?_
    refine awp_seq ?_
    have R := hv
    refine awp_region (by kernel_rfl) ?_
    iterate 3 (refine aL_S rfl rfl v_ ?_)
    refine aL_nil ?_
    refine awp_seq ?_
    refine awp_seq ?_
    have R := hv
    refine awp_region (by kernel_rfl) ?_
    iterate 3 (refine aL_S rfl rfl v_ ?_)
    refine aL_nil ?_
    refine awp_cond v_ (fun hc6 => ?_) (fun hc6 => ?_)
    · replace hc6 := nm_ hc6
      refine awp_seq ?_
      have R := hv
      refine awp_region (by kernel_rfl) ?_
      (refine aL_S rfl rfl v_ ?_)
      refine aL_X rfl rfl (AOp_freeze (by first | exact .inl rfl | exact .inr rfl) va_ h_ (l := [sMnt x]) (by rfl) (by rfl) (by simp; rfl) ?_)
      refine aL_X rfl rfl (AOp_copyM rfl g_ g_ va_ (l2 := [sMnt x]) va_ (by simp) (by simp) fun o25 ho25 => ?_)
      (refine aL_S rfl rfl v_ ?_)
      refine aL_nil ?_
      refine awp_ret ?_
      exact aEnd_ret (σ' := (σ.del ov).set o25 (.cells (flat [sMnt x]))) va_ sub_ ⟨o25, del_fresh ho25, rfl, subx_del ho25, Store.set_get ..⟩
    · replace hc6 := nm_ hc6
      omega
theorem ptMn (L : List Mnt) {i : Nat} (hi : i ≤ L.length) : flat (L.map sMnt) = flat ((L.take i).map sMnt) ++ flat ((L.drop i).map sMnt) ∧ (flat ((L.take i).map sMnt)).length = i * 2 ∧ (flat ((L.drop i).map sMnt)).length = (L.length - i) * 2 := by
  refine ⟨?_, ?_, ?_⟩
  · rw [← flat_append, ← List.map_append, List.take_append_drop]
  · rw [flMn_len, List.length_take, Nat.min_eq_left hi]
  · rw [flMn_len, List.length_drop]
theorem paMn (L : List Mnt) (x : Mnt) (i : Nat) : flat ((L.take i ++ x :: L.drop i).map sMnt) = flat ((L.take i).map sMnt) ++ ([vStr x.place, vInt x.n] ++ flat ((L.drop i).map sMnt)) := by
  rw [List.map_append, List.map_cons, flat_append, flat_cons]; rfl
theorem grMn {L : List Mnt} {x : Mnt} {i a b c d e f : Nat} {X : List AVal} (hX : X = [vStr x.place, vInt x.n]) (hi : i ≤ L.length) (ha : a = i * 2) (hb : b = (L.length + 1 - i) * 2) (hc : c = i * 2) (hd : d = (i + 1) * 2) (he : e = (L.length - i) * 2) (hf : f = i * 2) :
    aput (aput ((flat (L.map sMnt)).take a ++ List.replicate b AVal.any) c X) d (((flat (L.map sMnt)).drop f).take e) = flat ((L.take i ++ x :: L.drop i).map sMnt) := by
  obtain ⟨h1, h2, h3⟩ := ptMn L hi
  subst hX ha hb hc hd he hf
  rw [paMn, h1, List.take_left' h2, List.drop_left' h2, List.take_of_length_le (show (flat ((L.drop i).map sMnt)).length ≤ (L.length - i) * 2 by rw [h3]; exact Nat.le_refl _), show (i + 1) * 2 = (flat ((L.take i).map sMnt)).length + [vStr x.place, vInt x.n].length by rw [h2]; show (i + 1) * 2 = i * 2 + 2; omega, ← h2]
  exact put_new (by rw [List.length_replicate, h3]; show _ = 2 + _; omega)
theorem rmMn {L : List Mnt} {x : Mnt} {i b c d e f : Nat} {X : List AVal} (hX : X = [vStr x.place, vInt x.n]) (hi : i ≤ L.length) (hb : b = 2) (hd : d = (i + 1) * 2) (he : e = (L.length - i) * 2) (hf : f = i * 2) (hc : c = i * 2) :
    aput (aput (flat (L.map sMnt) ++ List.replicate b AVal.any) d (((flat (L.map sMnt) ++ List.replicate b AVal.any).drop f).take e)) c X = flat ((L.take i ++ x :: L.drop i).map sMnt) := by
  obtain ⟨h1, h2, h3⟩ := ptMn L hi
  subst hX hb hc hd he hf
  rw [paMn, h1, List.append_assoc, List.drop_left' h2, List.take_left' h3, ← List.append_assoc, show (i + 1) * 2 = (flat ((L.take i).map sMnt)).length + [vStr x.place, vInt x.n].length by rw [h2]; show (i + 1) * 2 = i * 2 + 2; omega, ← h2]
  exact put_room (by rw [List.length_replicate]; rfl)
theorem onMn (L : List Mnt) : ∀ a ∈ flat (L.map sMnt), a.one = true := fun a ha => by
  simp only [flat, List.mem_flatMap] at ha
  obtain ⟨y, hy, h⟩ := ha
  obtain ⟨z, _, rfl⟩ := List.mem_map.1 hy
  simp [AVal.cells] at h
  rcases h with rfl | rfl <;> rfl
theorem rtMn (L : List Mnt) {i e f : Nat} {W : List AVal} (hi : i ≤ L.length) (he : e = (L.length - i) * 2) (hf : f = i * 2) : ((flat (L.map sMnt) ++ W).drop f).take e = (flat (L.map sMnt)).drop f := by
  have hl := flMn_len L
  subst he hf
  rw [List.drop_append_of_le_length (by rw [hl]; exact Nat.mul_le_mul_right _ hi), List.take_left' (by rw [List.length_drop, hl]; omega)]
set_option maxHeartbeats 1000000 in
theorem inMn_M {o ov c i : Nat} {L : List Mnt} {x : Mnt} {σ : Store} (ho : σ.heap o = some (.cells (flat (L.map sMnt)))) (hv : σ.heap ov = some (.cells (flat [sMnt x]))) (hoo : o ≠ ov) (hi : i ≤ L.length) (h0 : L ≠ []) (hc : L.length ≤ c) (hl : L.length ≤ 1000000) :
    ACalls Tryz.prog 252 [.mslc o 2 0 L.length c (135), vInt i, .msl ov 2 0 1] σ fun v σ' => ∃ o', (o' = o ∨ o' = ov ∨ σ.heap o' = none) ∧ v = .msl o' 2 0 (L.length + 1) ∧ SubX [o, ov] σ σ' ∧ σ'.heap o' = some (.cells (flat ((L.take i ++ x :: L.drop i).map sMnt))) := by
  have hfl := flMn_len L
  have hov : (σ.del ov).heap o = some (.cells (flat (L.map sMnt))) := by rw [Store.del_ne _ hoo]; exact ho
  have hf1 : (flat [sMnt x]).length = 2 := rfl
  have hor : (i = 0 ∨ True) = True := by simp
  have e9 : (L.length : Int) + (1 : Nat) - i = ((L.length + 1 - i : Nat) : Int) := by omega
  refine ACalls_of Tryz.func252 rfl Tryz.ntmps252 (congrArg Array.toList Tryz.results252) (by simp only [List.length_cons, List.length_nil]; decide) ?_; simp only [envOf_cons, envOf_nil, Nat.reduceAdd]
  refine awp_seq ?_
  have R := And.intro hv (And.intro ho (And.intro hov (And.intro e9 hor)))
  refine awp_region (by kernel_rfl) ?_
  (refine aL_S rfl rfl v_ ?_)
  refine aL_nil ?_
  refine awp_seq ?_
  have R := And.intro hv (And.intro ho (And.intro hov (And.intro e9 hor)))
  refine awp_region (by kernel_rfl) ?_
  iterate 2 (refine aL_S rfl rfl v_ ?_)
  refine aL_X rfl rfl (AOp_sliceAny (l := i) (h := L.length) rfl g_ g_ va_ al_ (by rfl) hi hc ?_)
  refine aL_nil ?_
  refine awp_seq ?_
  have R := And.intro hv (And.intro ho (And.intro hov (And.intro e9 hor)))
  refine awp_region (by kernel_rfl) ?_
  iterate 3 (refine aL_S rfl rfl v_ ?_)
  refine aL_nil ?_
  refine awp_seq ?_
  refine awp_seq ?_
  have R := And.intro hv (And.intro ho (And.intro hov (And.intro e9 hor)))
  refine awp_region (by kernel_rfl) ?_
  iterate 2 (refine aL_S rfl rfl v_ ?_)
  refine aL_nil ?_
  refine awp_cond v_ (fun hc3 => ?_) (fun hc3 => ?_)
  · replace hc3 := nm_ hc3
    omega
  · replace hc3 := nm_ hc3
    refine awp_skip ?_
    refine awp_seq ?_
    have R := And.intro hv (And.intro ho (And.intro hov (And.intro e9 hor)))
    refine awp_region (by kernel_rfl) ?_
    (refine aL_S rfl rfl v_ ?_)
    refine aL_X rfl rfl (AOp_lenC rfl g_ va_ ?_)
    (refine aL_S rfl rfl v_ ?_)
    refine aL_nil ?_
    refine awp_seq ?_
    refine awp_seq ?_
    have R := And.intro hv (And.intro ho (And.intro hov (And.intro e9 hor)))
    refine awp_region (by kernel_rfl) ?_
    iterate 3 (refine aL_S rfl rfl v_ ?_)
    refine aL_nil ?_
    refine awp_cond v_ (fun hc6 => ?_) (fun hc6 => ?_)
    · replace hc6 := nm_ hc6
      refine awp_seq ?_
      have R := And.intro hv (And.intro ho (And.intro hov (And.intro e9 hor)))
      refine awp_region (by kernel_rfl) ?_
      refine aL_X rfl rfl (AOp_wk (a := .mslc o 2 0 L.length c (135)) (AOp_val (by rfl) ⟨rfl, rfl⟩) (.mslc _ _ _ _ _ _) ?_)
      refine aL_X rfl rfl (AOp_freeze (by first | exact .inl rfl | exact .inr rfl) va_ h_ (l := [sMnt x]) (by rfl) (by rfl) (by simp; rfl) ?_)
      refine aL_X rfl rfl (AOp_appendM (old := some o) (l2 := [sMnt x]) (len := L.length) rfl g_ g_ (.inl ⟨o, _, va_, h_, rfl, rfl, by rw [hfl]; exact Nat.le_refl _⟩) va_ (by simp) (by simp [AVal.one, AVal.cells]) (by show (L.length + 1) * _ ≤ _; omega) fun o25 ho25 => ?_)
      (refine aL_S rfl rfl v_ ?_)
      refine aL_nil ?_
      refine awp_ret ?_
      refine aEnd_ret va_ (Store.Wk.refl _) ?_
      refine ⟨o25, .inr (del_fresh ho25), rfl, subx_del2 ho25, ?_⟩
      rw [Store.set_get, show i = L.length by omega, List.take_length, List.drop_length, List.map_append, flat_append, List.take_of_length_le (by rw [hfl]; exact Nat.le_refl _)]; rfl
    · replace hc6 := nm_ hc6
      refine awp_skip ?_
      refine awp_seq ?_
      refine awp_seq ?_
      have R := And.intro hv (And.intro ho (And.intro hov (And.intro e9 hor)))
      refine awp_region (by kernel_rfl) ?_
      iterate 4 (refine aL_S rfl rfl v_ ?_)
      refine aL_X rfl rfl (AOp_capC rfl g_ va_ ?_)
      (refine aL_S rfl rfl v_ ?_)
      refine aL_nil ?_
      refine awp_cond v_ (fun hc8 => ?_) (fun hc8 => ?_)
      · replace hc8 := nm_ hc8
        refine awp_seq ?_
        have R := And.intro hv (And.intro ho (And.intro hov (And.intro e9 hor)))
        refine awp_region (by kernel_rfl) ?_
        iterate 2 (refine aL_S rfl rfl v_ ?_)
        refine aL_X rfl rfl (AOp_sliceC (l := 0) (h := i) rfl g_ g_ va_ (by rfl) al_ (Nat.zero_le _) (by omega) (.inl rfl) ?_)
        iterate 5 (refine aL_S rfl rfl v_ ?_)
        refine aL_X rfl rfl (AOp_growC (len := i) (cap := c) (n := L.length + 1 - i) rfl g_ g_ g_ va_ h_ va_ (by omega) (by omega) (by omega) (by omega) fun o40 ho40 => ?_)
        (refine aL_S rfl rfl v_ ?_)
        refine aL_nil ?_
        have n1 : o ≠ o40 := fun hh => by rw [hh, ho40] at ho; cases ho
        have n2 : ov ≠ o40 := fun hh => by rw [hh, ho40] at hv; cases hv
        refine awp_seq ?_
        have R := And.intro hv (And.intro ho (And.intro hov (And.intro e9 hor)))
        refine awp_region (by kernel_rfl) ?_
        iterate 4 (refine aL_S rfl rfl v_ ?_)
        refine aL_X rfl rfl (AOp_copyS (n := 1) (m := 1) rfl g_ g_ va_ h_ (.inr ⟨_, _, _, va_, h_, rfl⟩) (by show _ = min _ _; omega) (by omega) (Nat.le_refl 2) (fun a ha => onMn [x] a (List.mem_of_mem_drop (List.mem_of_mem_take ha))) (by rw [List.length_append, List.length_take, List.length_replicate, hfl]; omega) ?_)
        refine aL_nil ?_
        refine awp_seq ?_
        have R := And.intro hv (And.intro ho (And.intro hov (And.intro e9 hor)))
        refine awp_draw (.op 0 0 (.op 1 0 (.op 2 0 (.any 3 (.op 4 0 (.op 6 0 (.op 5 2 (.op 7 2 (.op 8 2 .nil))))))))) Tryz.mixed (by kernel_rfl) ?_
        iterate 3 (refine dR_S o_ (by rfl) (by rfl) v_ ?_)
        refine dR_A o_ (by rfl) (by rfl) (fun _ => v_) ?_
        iterate 2 (refine dR_S o_ (by rfl) (by rfl) v_ ?_)
        refine dR_T o_ (by rfl) (by rfl) (AOp_wk (a := .mslc o 2 0 L.length c (135)) (AOp_val (by rfl) ⟨rfl, rfl⟩) (.mslc _ _ _ _ _ _) ?_)
        refine dR_T o_ (by rfl) (by rfl) (AOp_val v_ ?_)
        refine dR_T o_ (by rfl) (by rfl) (AOp_copyS (n := L.length - i) (m := L.length - i) (by rfl) g_ g_ va_ h_ (.inr ⟨_, _, _, va_, h_, rfl⟩) (by show _ = min _ _; omega) (by omega) (by rw [List.length_drop, hfl]; omega) (fun a ha => onMn L a (List.mem_of_mem_drop (List.mem_of_mem_take ha))) (by simp only [aput, List.length_append, List.length_take, List.length_drop, List.length_replicate, hfl, hf1]; omega) ?_)
        refine dR_nil ?_
        refine awp_seq ?_
        have R := And.intro hv (And.intro ho (And.intro hov (And.intro e9 hor)))
        refine awp_region (by kernel_rfl) ?_
        iterate 2 (refine aL_S rfl rfl v_ ?_)
        refine aL_nil ?_
        refine awp_ret ?_
        refine aEnd_ret va_ (Store.Wk.refl _) ?_
        refine ⟨o40, .inr (.inr ho40), by congr 1; omega, sub_, ?_⟩
        rw [Store.set_get]
        exact congrArg (fun l => some (AObj.cells l)) (grMn rfl hi (by omega) (by omega) (by omega) (by omega) (by omega) (by omega))
      · replace hc8 := nm_ hc8
        refine awp_skip ?_
        refine awp_seq ?_
        have R := And.intro hv (And.intro ho (And.intro hov (And.intro e9 hor)))
        refine awp_region (by kernel_rfl) ?_
        iterate 4 (refine aL_S rfl rfl v_ ?_)
        refine aL_X rfl rfl (AOp_sliceX (h := L.length + 1) rfl g_ g_ va_ (by simp [go_sem, alow, ahigh, abound]; omega) h_ (by omega) (by omega) ?_)
        (refine aL_S rfl rfl v_ ?_)
        refine aL_nil ?_
        refine awp_seq ?_
        refine awp_seq ?_
        have R := And.intro hv (And.intro ho (And.intro hov (And.intro e9 hor)))
        refine awp_region (by kernel_rfl) ?_
        iterate 6 (refine aL_S rfl rfl v_ ?_)
        refine aL_X rfl rfl (AOp_extern rfl (e := Extern.SlicesOverlaps.overlaps #[65, 65] #[4]) (by kernel_rfl) g_ (fun κ ev hI h => ovl_rv (e := 135) hI g_ g_ va_ va_ h_ h_ hoo.symm (by rw [List.length_append, List.length_replicate, hfl]; omega) h) ?_)
        (refine aL_S rfl rfl v_ ?_)
        refine aL_nil ?_
        refine awp_cond v_ (fun hc14 => ?_) (fun hc14 => ?_)
        · replace hc14 := nm_ hc14
          refine awp_seq ?_
          have R := And.intro hv (And.intro ho (And.intro hov (And.intro e9 hor)))
          refine awp_draw (.op 0 0 (.op 1 0 (.op 2 0 (.op 3 0 (.op 4 0 (.op 5 0 (.op 6 0 (.op 7 0 (.op 8 2 .nil))))))))) Tryz.mixed (by kernel_rfl) ?_
          iterate 8 (refine dR_S o_ (by rfl) (by rfl) v_ ?_)
          refine dR_T o_ (by rfl) (by rfl) (AOp_copyS (n := L.length + 1 - i) (m := L.length - i) (by rfl) g_ g_ va_ h_ (.inr ⟨_, _, _, va_, h_, rfl⟩) (by show _ = min _ _; omega) (by omega) (by rw [List.length_drop, List.length_append, hfl]; omega) (fun a ha => by rw [rtMn L hi (by omega) (by omega)] at ha; exact onMn L a (List.mem_of_mem_drop ha)) (by rw [List.length_append, List.length_replicate, hfl]; omega) ?_)
          refine dR_nil ?_
          refine awp_seq ?_
          have R := And.intro hv (And.intro ho (And.intro hov (And.intro e9 hor)))
          refine awp_region (by kernel_rfl) ?_
          iterate 4 (refine aL_S rfl rfl v_ ?_)
          refine aL_X rfl rfl (AOp_copyS (n := 1) (m := 1) rfl g_ g_ va_ h_ (.inr ⟨_, _, _, va_, h_, rfl⟩) (by show _ = min _ _; omega) (by omega) (Nat.le_refl 2) (fun a ha => onMn [x] a (List.mem_of_mem_drop (List.mem_of_mem_take ha))) (by simp only [aput, List.length_append, List.length_take, List.length_drop, List.length_replicate, hfl, hf1]; omega) ?_)
          refine aL_nil ?_
          refine awp_seq ?_
          have R := And.intro hv (And.intro ho (And.intro hov (And.intro e9 hor)))
          refine awp_region (by kernel_rfl) ?_
          iterate 2 (refine aL_S rfl rfl v_ ?_)
          refine aL_nil ?_
          refine awp_ret ?_
          refine aEnd_ret va_ (Store.Wk.refl _) ?_
          refine ⟨o, .inl rfl, rfl, sub_, ?_⟩
          rw [Store.set_get]
          exact congrArg (fun l => some (AObj.cells l)) (rmMn rfl hi (by omega) (by omega) (by omega) (by omega) (by omega))
        · replace hc14 := nm_ hc14
          first | cases hc14 | (simp at hc14; done)
theorem ceMn {t : Bool} {σ : Store} : ACalls Tryz.prog 250 [.sl 2 [] t] σ fun v σ' => v = .sl 2 [] true ∧ σ = σ' := clMn_0.mono fun v σ' h => by
  rcases h with ⟨_, h1, h2⟩ | ⟨_, _, _, h, _⟩
  · exact ⟨h1, h2.symm⟩
  · exact absurd rfl h
theorem cmMn {L : List Mnt} {t : Bool} {σ : Store} (h0 : L ≠ []) (hl : L.length ≤ 1000000) : ACalls Tryz.prog 250 [.sl 2 (L.map sMnt) t] σ fun v σ' => ∃ o c, σ.heap o = none ∧ L.length ≤ c ∧ v = .mslc o 2 0 L.length c (135) ∧ σ' = σ.set o (.cells (flat (L.map sMnt))) := (clMn_1 h0 hl).mono fun v σ' h => by
  rcases h with ⟨h, _⟩ | ⟨o, c, h1, _, h2, h3, h4⟩
  · exact absurd h h0
  · exact ⟨o, c, h1, h2, h3, h4⟩
theorem feMn {s : ByteArray} {σ : Store} : ACalls Tryz.prog 251 [.sl 2 [] true, vStr s, plMn] σ fun v σ' => v = .tup [vInt 0, vB false] ∧ σ = σ' := fdMn_s (L := []) (t := true) List.Pairwise.nil (by simp)
theorem wiMn_0 {x : Mnt} {t : Bool} {σ : Store} : ACalls Tryz.prog 178 [.sl 2 [] t, sMnt x, plMn] σ fun v σ' => v = .sl 2 [sMnt x] false ∧ σ = σ' := by
  refine ACalls_of Tryz.func178 rfl Tryz.ntmps178 (congrArg Array.toList Tryz.results178) (by simp only [List.length_cons, List.length_nil]; decide) ?_; simp only [envOf_cons, envOf_nil, Nat.reduceAdd]
  refine awp_seq ?_
  refine awp_region (by kernel_rfl) ?_
  refine aL_box rfl rfl rfl v_ rfl g_ fun o4 ho4 => ?_
  repeat (rw [none_set_iff] at ho4; obtain ⟨_, ho4⟩ := ho4)
  (refine aL_S rfl rfl v_ ?_)
  refine aL_nil ?_
  refine awp_seq ?_
  refine awp_region (by kernel_rfl) ?_
  (refine aL_S rfl rfl v_ ?_)
  refine aL_X rfl rfl (AOp_use rfl rfl (.inr ⟨rfl, rfl, rfl⟩) g_ va_ (ceMn) ?_); rintro _ _ ⟨rfl, rfl⟩
  (refine aL_S rfl rfl v_ ?_)
  refine aL_nil ?_
  refine awp_seq ?_
  refine awp_region (by kernel_rfl) ?_
  iterate 3 (refine aL_S rfl rfl v_ ?_)
  refine aL_X rfl rfl (AOp_use rfl rfl (.inr ⟨va_, rfl, rfl⟩) g_ va_ (mintPlace_c) ?_); rintro _ _ ⟨rfl, rfl⟩
  (refine aL_S rfl rfl v_ ?_)
  refine aL_X rfl rfl (AOp_use rfl rfl (.inr ⟨rfl, rfl, rfl⟩) g_ va_ (feMn) ?_); rintro _ _ ⟨rfl, rfl⟩
  iterate 5 (refine aL_S rfl rfl v_ ?_)
  refine aL_nil ?_
  refine awp_seq ?_
  refine awp_seq ?_
  refine awp_region (by kernel_rfl) ?_
  iterate 2 (refine aL_S rfl rfl v_ ?_)
  refine aL_nil ?_
  refine awp_cond v_ (fun hc3 => ?_) (fun hc3 => ?_)
  · replace hc3 := nm_ hc3
    refine awp_seq ?_
    refine awp_region (by kernel_rfl) ?_
    iterate 3 (refine aL_S rfl rfl v_ ?_)
    refine aL_X rfl rfl (AOp_buildM (l := [sMnt x]) rfl g_ g_ rfl rfl va_ c2_ (by decide) fun ov hov => ?_)
    refine aL_X rfl rfl (AOp_use rfl rfl (.inr ⟨rfl, rfl, rfl⟩) g_ va_ (inMn_0 (x := x) (Store.set_get ..)) ?_); rintro _ τ1 ⟨o', h1, rfl, h3, h4⟩
    refine aL_X rfl rfl (AOp_freeze (.inl rfl) va_ h4 (l := [sMnt x]) rfl rfl (by simp; rfl) ?_)
    refine aL_nil ?_
    refine awp_ret ?_
    refine aEnd_ret (σ' := σ) va_ ?_ ⟨rfl, rfl⟩
    exact ins_end (fun i y hy => ⟨notmem1 hov (set_old ho4 hy), set_old2 ho4 hov hy⟩) (fun t n ht => ht) (h1.imp (fun hh => by rw [hh]; exact .head _) id) h3
  · replace hc3 := nm_ hc3
    first | cases hc3 | (simp at hc3; done)
theorem wiMn_M {x : Mnt} {L : List Mnt} {t : Bool} {σ : Store} (h0 : L ≠ []) (hr : RiseK Mnt.place L) (hl : L.length ≤ 1000000) : ACalls Tryz.prog 178 [.sl 2 (L.map sMnt) t, sMnt x, plMn] σ fun v σ' => v = .sl 2 ((insK Mnt.place x L).map sMnt) false ∧ σ = σ' := by
  have hfl := flMn_len L
  have hle := lowK_le Mnt.place x.place L
  refine ACalls_of Tryz.func178 rfl Tryz.ntmps178 (congrArg Array.toList Tryz.results178) (by simp only [List.length_cons, List.length_nil]; decide) ?_; simp only [envOf_cons, envOf_nil, Nat.reduceAdd]
  refine awp_seq ?_
  refine awp_region (by kernel_rfl) ?_
  refine aL_box rfl rfl rfl v_ rfl g_ fun o4 ho4 => ?_
  repeat (rw [none_set_iff] at ho4; obtain ⟨_, ho4⟩ := ho4)
  (refine aL_S rfl rfl v_ ?_)
  refine aL_nil ?_
  refine awp_seq ?_
  refine awp_region (by kernel_rfl) ?_
  (refine aL_S rfl rfl v_ ?_)
  refine aL_X rfl rfl (AOp_use rfl rfl (.inr ⟨rfl, rfl, rfl⟩) g_ va_ (cmMn h0 hl) ?_); rintro _ _ ⟨o, c, hon, hc, rfl, rfl⟩
  (refine aL_S rfl rfl v_ ?_)
  refine aL_nil ?_
  have n4o : o4 ≠ o := fun hh => by rw [← hh, Store.set_get] at hon; cases hon
  have ho : ((σ.set o4 (.cells [vStr x.place, vInt x.n])).set o (.cells (flat (L.map sMnt)))).heap o = some (.cells (flat (L.map sMnt))) := Store.set_get ..
  refine awp_seq ?_
  have R := And.intro ho hfl
  refine awp_region (by kernel_rfl) ?_
  refine aL_X rfl rfl (AOp_wk (a := .mslc o 2 0 L.length c (135)) (AOp_val (by rfl) ⟨rfl, rfl⟩) (.mslc _ _ _ _ _ _) ?_)
  iterate 2 (refine aL_S rfl rfl v_ ?_)
  refine aL_X rfl rfl (AOp_use rfl rfl (.inr ⟨va_, rfl, rfl⟩) g_ va_ (mintPlace_c) ?_); rintro _ _ ⟨rfl, rfl⟩
  (refine aL_S rfl rfl v_ ?_)
  refine aL_X rfl rfl (AOp_use rfl rfl (.inr ⟨rfl, rfl, rfl⟩) g_ va_ (fdMn_m ho hr hl) ?_); rintro _ _ ⟨rfl, rfl⟩
  iterate 5 (refine aL_S rfl rfl v_ ?_)
  refine aL_nil ?_
  refine awp_seq ?_
  refine awp_seq ?_
  refine awp_region (by kernel_rfl) ?_
  iterate 2 (refine aL_S rfl rfl v_ ?_)
  refine aL_nil ?_
  refine awp_cond v_ (fun hc3 => ?_) (fun hc3 => ?_)
  · replace hc3 := nm_ hc3
    refine awp_seq ?_
    have R := And.intro ho hfl
    refine awp_region (by kernel_rfl) ?_
    iterate 3 (refine aL_S rfl rfl v_ ?_)
    refine aL_X rfl rfl (AOp_buildM (l := [sMnt x]) rfl g_ g_ rfl rfl va_ c2_ (by decide) fun ov hov => ?_)
    refine aL_X rfl rfl (AOp_use rfl rfl (.inr ⟨rfl, rfl, rfl⟩) g_ va_ (inMn_M (x := x) (i := lowK Mnt.place x.place L) (by rw [Store.set_ne _ _ (fun hh => by rw [← hh, ho] at hov; cases hov)]; exact ho) (Store.set_get ..) (fun hh => by rw [← hh, ho] at hov; cases hov) hle h0 hc hl) ?_); rintro _ τ1 ⟨o', h1, rfl, h3, h4⟩
    refine aL_X rfl rfl (AOp_freeze (.inl rfl) va_ h4 (l := (L.take (lowK Mnt.place x.place L) ++ x :: L.drop (lowK Mnt.place x.place L)).map sMnt) (List.take_of_length_le (by rw [flMn_len]; simp; omega)) (by simp; omega) (szMnt _) ?_)
    refine aL_nil ?_
    refine awp_ret ?_
    refine aEnd_ret (σ' := σ) va_ ?_ ⟨by rw [insK_no hr (by simpa using hc3), List.map_append, List.map_cons], rfl⟩
    exact ins_end (fun i y hy => ⟨notmem2 hon hov (set_old ho4 hy), set_old hov (set_old2 ho4 hon hy)⟩) (fun t n ht => ht) (h1.elim (fun hh => .inl (by rw [hh]; exact .head _)) (fun hh => hh.elim (fun hh => .inl (by rw [hh]; exact .tail _ (.head _))) .inr)) h3
  · replace hc3 := nm_ hc3
    have hlt := atK_lt (key := Mnt.place) (l := L) (s := x.place) (by simpa using hc3)
    refine awp_skip ?_
    refine awp_seq ?_
    have R := And.intro ho hfl
    refine awp_region (by kernel_rfl) ?_
    refine aL_X rfl rfl (AOp_wk (a := .mslc o 2 0 L.length c (135)) (AOp_val (by rfl) ⟨rfl, rfl⟩) (.mslc _ _ _ _ _ _) ?_)
    iterate 3 (refine aL_S rfl rfl v_ ?_)
    refine aL_store rfl rfl rfl v_ v_ h_ g_ rfl g_ c_ (by rfl) (by rw [hfl]; have := atK_lt (key := Mnt.place) (l := L) (s := x.place) (by simpa using hc3); omega) (flMn_put (atK_lt (by simpa using hc3))) ?_
    refine aL_nil ?_
    refine awp_seq ?_
    have R := And.intro ho hfl
    refine awp_region (by kernel_rfl) ?_
    refine aL_X rfl rfl (AOp_wk (a := .mslc o 2 0 L.length c (135)) (AOp_val (by rfl) ⟨rfl, rfl⟩) (.mslc _ _ _ _ _ _) ?_)
    refine aL_X rfl rfl (AOp_freeze (by first | exact .inl rfl | exact .inr rfl) va_ h_ (l := (L.set (lowK Mnt.place x.place L) x).map sMnt) (by exact List.take_of_length_le (by rw [flMn_len]; simp)) (by simp) (by exact szMnt _) ?_)
    refine aL_nil ?_
    refine awp_ret ?_
    refine aEnd_ret (σ' := σ) va_ ?_ ⟨by rw [insK_yes hr (by simpa using hc3)], rfl⟩
    exact ins_end (S := (σ.set o4 (.cells [vStr x.place, vInt x.n])).set o (.cells (flat (L.map sMnt)))) (l := [o]) (fun i y hy => ⟨notmem1 hon (set_old ho4 hy), set_old2 ho4 hon hy⟩) (fun t n ht => ht) (.inl (.head _)) sub_
theorem withMn {x : Mnt} {L : List Mnt} {t : Bool} {σ : Store} (hr : RiseK Mnt.place L) (hl : L.length ≤ 1000000) : ACalls Tryz.prog 178 [.sl 2 (L.map sMnt) t, sMnt x, plMn] σ fun v σ' => v = .sl 2 ((insK Mnt.place x L).map sMnt) false ∧ σ = σ' := by
  by_cases h : L = []
  · subst h; exact wiMn_0
  · exact wiMn_M h hr hl
end Go.Proofs.YtbcgkbdacijoiaaGreat
end

section
set_option linter.all false
set_option maxRecDepth 100000
namespace Go.Proofs.YtbcgkbdacijoiaaGreat
open Go.Ab
theorem get1_c {q : Nat} {x : Itm} {s : ByteArray} {σ : Store} (hq : σ.heap q = some (.cells [vStr s])) : ACalls Tryz.prog 143 [sItem x, .ref q 0] σ fun v σ' => v = vB (decide (x.place = s)) ∧ σ = σ' := by
  refine ACalls_of Tryz.func143 rfl Tryz.ntmps143 (congrArg Array.toList Tryz.results143) (by simp only [List.length_cons, List.length_nil]; decide) ?_; simp only [envOf_cons, envOf_nil, Nat.reduceAdd]
  refine awp_seq ?_
  refine awp_region (by kernel_rfl) ?_
  refine aL_box rfl rfl rfl v_ rfl g_ fun o2 ho2 => ?_
  repeat (rw [none_set_iff] at ho2; obtain ⟨_, ho2⟩ := ho2)
  (refine aL_S rfl rfl v_ ?_)
  refine aL_nil ?_
  have n3 := ne_of_heap hq ho2
  refine awp_seq ?_
  have R := hq
  refine awp_region (by kernel_rfl) ?_
  iterate 5 (refine aL_S rfl rfl v_ ?_)
  refine aL_nil ?_
  refine awp_ret ?_
  refine aEnd_ret (σ' := σ) v_ sub_ ?_
  exact ⟨rfl, rfl⟩
theorem apply1_c {q : Nat} {x : Itm} {s : ByteArray} {σ : Store} (hq : σ.heap q = some (.cells [vStr s])) : ACalls Tryz.prog 176 [sItem x, .ref q 0] σ fun v σ' => v = vB (decide (x.place = s)) ∧ σ = σ' := by
  refine ACalls_of Tryz.func176 rfl Tryz.ntmps176 (congrArg Array.toList Tryz.results176) (by simp only [List.length_cons, List.length_nil]; decide) ?_; simp only [envOf_cons, envOf_nil, Nat.reduceAdd]
  refine awp_seq ?_
  refine awp_region (by kernel_rfl) ?_
  refine aL_box rfl rfl rfl v_ rfl g_ fun o2 ho2 => ?_
  repeat (rw [none_set_iff] at ho2; obtain ⟨_, ho2⟩ := ho2)
  (refine aL_S rfl rfl v_ ?_)
  refine aL_nil ?_
  have n3 := ne_of_heap hq ho2
  refine awp_seq ?_
  have R := hq
  refine awp_region (by kernel_rfl) ?_
  iterate 5 (refine aL_S rfl rfl v_ ?_)
  refine aL_nil ?_
  refine awp_ret ?_
  refine aEnd_ret (σ' := σ) v_ sub_ ?_
  exact ⟨rfl, rfl⟩
theorem next1_c {q : Nat} {x : Mnt} {s : ByteArray} {σ : Store} (hq : σ.heap q = some (.cells [vStr s])) : ACalls Tryz.prog 145 [sMnt x, .ref q 0] σ fun v σ' => v = vB (decide (x.place = s)) ∧ σ = σ' := by
  refine ACalls_of Tryz.func145 rfl Tryz.ntmps145 (congrArg Array.toList Tryz.results145) (by simp only [List.length_cons, List.length_nil]; decide) ?_; simp only [envOf_cons, envOf_nil, Nat.reduceAdd]
  refine awp_seq ?_
  refine awp_region (by kernel_rfl) ?_
  refine aL_box rfl rfl rfl v_ rfl g_ fun o2 ho2 => ?_
  repeat (rw [none_set_iff] at ho2; obtain ⟨_, ho2⟩ := ho2)
  (refine aL_S rfl rfl v_ ?_)
  refine aL_nil ?_
  have n3 := ne_of_heap hq ho2
  refine awp_seq ?_
  have R := hq
  refine awp_region (by kernel_rfl) ?_
  iterate 5 (refine aL_S rfl rfl v_ ?_)
  refine aL_nil ?_
  refine awp_ret ?_
  refine aEnd_ret (σ' := σ) v_ sub_ ?_
  exact ⟨rfl, rfl⟩
theorem get_c {b : Bk} {s : ByteArray} {σ : Store} (hb : b.items.length ≤ 1000000) : ACalls Tryz.prog 75 [sBk b, vStr s] σ fun v σ' => v = .tup [sObj (getS b.items s).1, vB (getS b.items s).2] ∧ σ = σ' := by
  refine ACalls_of Tryz.func75 rfl Tryz.ntmps75 (congrArg Array.toList Tryz.results75) (by simp only [List.length_cons, List.length_nil]; decide) ?_; simp only [envOf_cons, envOf_nil, Nat.reduceAdd]
  refine awp_seq ?_
  refine awp_region (by kernel_rfl) ?_
  refine aL_box rfl rfl rfl v_ rfl g_ fun o2 ho2 => ?_
  repeat (rw [none_set_iff] at ho2; obtain ⟨_, ho2⟩ := ho2)
  refine aL_box rfl rfl rfl v_ rfl g_ fun o3 ho3 => ?_
  repeat (rw [none_set_iff] at ho3; obtain ⟨_, ho3⟩ := ho3)
  refine aL_alloc rfl rfl rfl g_ gl_ fun o4 ho4 => ?_
  repeat (rw [none_set_iff] at ho4; obtain ⟨_, ho4⟩ := ho4)
  (refine aL_S rfl rfl v_ ?_)
  refine aL_nil ?_
  refine awp_seq ?_
  refine awp_region (by kernel_rfl) ?_
  iterate 3 (refine aL_S rfl rfl v_ ?_)
  refine aL_X rfl rfl (AOp_use rfl rfl (.inr ⟨rfl, rfl, rfl⟩) g_ va_ (ixIt_s (p := fun x => decide (x.place = s)) ⟨by kernel_rfl, fun τ h x => get1_c (h o3 _ (by rw [Store.set_ne _ _ (by omega)]; exact Store.set_get ..))⟩ hb) ?_); rintro _ _ ⟨⟨r, rfl, hr⟩, rfl⟩
  (refine aL_S rfl rfl v_ ?_)
  refine aL_nil ?_
  refine awp_seq ?_
  refine awp_seq ?_
  refine awp_region (by kernel_rfl) ?_
  iterate 2 (refine aL_S rfl rfl v_ ?_)
  refine aL_nil ?_
  refine awp_cond v_ (fun hc2 => ?_) (fun hc2 => ?_)
  · replace hc2 := nm_ hc2
    skip
    have hg : getS b.items s = (⟨[], []⟩, false) := by
      rcases hr with ⟨_, h⟩ | ⟨j, x, h, _⟩
      · unfold getS; rw [h]
      · omega
    refine awp_seq ?_
    refine awp_region (by kernel_rfl) ?_
    (refine aL_S rfl rfl v_ ?_)
    refine aL_store rfl rfl rfl v_ v_ h_ g_ rfl g_ c_ (by rfl) le_ v_ ?_
    (refine aL_S rfl rfl v_ ?_)
    refine aL_nil ?_
    refine awp_ret ?_
    rw [hg]
    exact aEnd_retW (v := .tup [sObj ⟨[], []⟩, vB false]) (v' := .tup [.agg [vNil, vNil], vB false]) va_ (.tup _ _ rfl (fun i hi hi' => by match i, hi with | 0, _ => exact .agg _ _ rfl (fun j hj hj' => by match j, hj with | 0, _ => exact .nil _ _ | 1, _ => exact .nil _ _) | 1, _ => exact .refl _)) sub_ ⟨rfl, rfl⟩
  · replace hc2 := nm_ hc2
    skip
    obtain ⟨j, x, rfl, hx, hf⟩ : ∃ j : Nat, ∃ x, r = j ∧ b.items[j]? = some x ∧ b.items.find? (fun x => decide (x.place = s)) = some x := by
      rcases hr with ⟨h, _⟩ | h
      · omega
      · exact h
    have hg : getS b.items s = (x.obj, true) := by unfold getS; rw [hf]
    refine awp_skip ?_
    refine awp_seq ?_
    have R := hx
    refine awp_region (by kernel_rfl) ?_
    iterate 6 (refine aL_S rfl rfl v_ ?_)
    refine aL_store rfl rfl rfl v_ v_ h_ g_ rfl g_ c_ (by rfl) le_ v_ ?_
    (refine aL_S rfl rfl v_ ?_)
    refine aL_nil ?_
    refine awp_ret ?_
    refine aEnd_ret (σ' := σ) v_ sub_ ?_
    exact ⟨by rw [hg], rfl⟩
theorem next_c {b : Bk} {s : ByteArray} {σ : Store} (hb : b.mints.length ≤ 1000000) (hn : ∀ x ∈ b.mints, -1000000000000000000 ≤ x.n ∧ x.n ≤ 1000000000000000000) : ACalls Tryz.prog 76 [sBk b, vStr s] σ fun v σ' => v = vInt (nextS b.mints s) ∧ σ = σ' := by
  refine ACalls_of Tryz.func76 rfl Tryz.ntmps76 (congrArg Array.toList Tryz.results76) (by simp only [List.length_cons, List.length_nil]; decide) ?_; simp only [envOf_cons, envOf_nil, Nat.reduceAdd]
  refine awp_seq ?_
  refine awp_region (by kernel_rfl) ?_
  refine aL_box rfl rfl rfl v_ rfl g_ fun o2 ho2 => ?_
  repeat (rw [none_set_iff] at ho2; obtain ⟨_, ho2⟩ := ho2)
  refine aL_box rfl rfl rfl v_ rfl g_ fun o3 ho3 => ?_
  repeat (rw [none_set_iff] at ho3; obtain ⟨_, ho3⟩ := ho3)
  (refine aL_S rfl rfl v_ ?_)
  refine aL_nil ?_
  refine awp_seq ?_
  refine awp_region (by kernel_rfl) ?_
  iterate 3 (refine aL_S rfl rfl v_ ?_)
  refine aL_X rfl rfl (AOp_use rfl rfl (.inr ⟨rfl, rfl, rfl⟩) g_ va_ (ixMn_s (p := fun x => decide (x.place = s)) ⟨by kernel_rfl, fun τ h x => next1_c (h o3 _ (Store.set_get ..))⟩ hb) ?_); rintro _ _ ⟨⟨r, rfl, hr⟩, rfl⟩
  (refine aL_S rfl rfl v_ ?_)
  refine aL_nil ?_
  refine awp_seq ?_
  refine awp_seq ?_
  refine awp_region (by kernel_rfl) ?_
  iterate 2 (refine aL_S rfl rfl v_ ?_)
  refine aL_nil ?_
  refine awp_cond v_ (fun hc2 => ?_) (fun hc2 => ?_)
  · replace hc2 := nm_ hc2
    skip
    have hg : nextS b.mints s = 1 := by
      rcases hr with ⟨_, h⟩ | ⟨j, x, h, _⟩
      · unfold nextS; rw [h]
      · omega
    refine awp_seq ?_
    refine awp_region (by kernel_rfl) ?_
    (refine aL_S rfl rfl v_ ?_)
    refine aL_nil ?_
    refine awp_ret ?_
    refine aEnd_ret (σ' := σ) v_ sub_ ?_
    exact ⟨by rw [hg], rfl⟩
  · replace hc2 := nm_ hc2
    skip
    obtain ⟨j, x, rfl, hx, hf⟩ : ∃ j : Nat, ∃ x, r = j ∧ b.mints[j]? = some x ∧ b.mints.find? (fun x => decide (x.place = s)) = some x := by
      rcases hr with ⟨h, _⟩ | h
      · omega
      · exact h
    have hg : nextS b.mints s = x.n + 1 := by unfold nextS; rw [hf]
    have hxn := hn x (List.mem_of_getElem? hx)
    refine awp_skip ?_
    refine awp_seq ?_
    have R := hx
    refine awp_region (by kernel_rfl) ?_
    iterate 8 (refine aL_S rfl rfl v_ ?_)
    refine aL_nil ?_
    refine awp_ret ?_
    refine aEnd_ret (σ' := σ) v_ sub_ ?_
    exact ⟨by rw [hg], rfl⟩
def fItm (x : Itm) : Nat := x.place.size + sizeS x.obj
theorem fItm_bd {x : Itm} (h : ItemSm x) : fItm x ≤ 20000000000 := by
  have h1 := size_bds h.obj x.obj.ctx.length x.obj.sibs.length
  rw [List.take_length, List.take_length] at h1
  have h2 := h.place
  unfold fItm sizeS; omega
theorem bkSize_c {b : Bk} {σ : Store} (hb : ∀ x ∈ b.items, ItemSm x) (hn : b.items.length ≤ 100000) : ACalls Tryz.prog 77 [sBk b] σ fun v σ' => v = vInt ((b.items.map fItm).sum : Nat) ∧ σ = σ' := by
  refine ACalls_of Tryz.func77 rfl Tryz.ntmps77 (congrArg Array.toList Tryz.results77) (by simp only [List.length_cons, List.length_nil]; decide) ?_; simp only [envOf_cons, envOf_nil, Nat.reduceAdd]
  refine awp_seq ?_
  refine awp_region (by kernel_rfl) ?_
  refine aL_box rfl rfl rfl v_ rfl g_ fun o1 ho1 => ?_
  repeat (rw [none_set_iff] at ho1; obtain ⟨_, ho1⟩ := ho1)
  (refine aL_S rfl rfl v_ ?_)
  refine aL_nil ?_
  refine awp_seq ?_
  refine awp_region (by kernel_rfl) ?_
  (refine aL_S rfl rfl v_ ?_)
  refine aL_nil ?_
  refine awp_seq ?_
  refine awp_seq ?_
  refine awp_region (by kernel_rfl) ?_
  iterate 4 (refine aL_S rfl rfl v_ ?_)
  refine aL_nil ?_
  refine awp_block ?_
  refine awp_loop_env (ι := Nat) (fun k => b.items.length - k) (fun k => k ≤ b.items.length) (fun k => [(1, .ref o1 0), (3, vInt (((b.items.take k).map fItm).sum : Nat)), (7, .sl 3 (b.items.map sItem) false), (8, vInt b.items.length), (9, vInt k)]) (fun k => (σ.set o1 (.cells (sBk b).cells))) 0 ?_ ?_ ?_ ?_
  · exact Nat.zero_le _
  · exact cv_
  · exact Store.Wk.refl _
  rintro k hk
  simp only [envL_cons, envL_nil]
  refine awp_seq ?_
  refine awp_region (by kernel_rfl) ?_
  (refine aL_S rfl rfl v_ ?_)
  refine aL_nil ?_
  refine awp_seq ?_
  refine awp_cond v_ (fun hc3 => ?_) (fun hc3 => ?_)
  · replace hc3 := nm_ hc3
    refine awp_skip ?_
    refine awp_seq ?_
    refine awp_block ?_
    refine awp_seq ?_
    obtain ⟨x, hx⟩ := get_some (l := b.items) (k := k) (by omega)
    have hxs := hb x (List.mem_of_getElem? hx)
    have hxb := fItm_bd hxs
    have hfx : fItm x = x.place.size + sizeS x.obj := rfl
    have hb1 : ((b.items.take k).map fItm).sum ≤ 2000000000000000 := by
      have h1 := sum_bd (f := fItm) (c := 20000000000) (l := b.items.take k) fun y hy => fItm_bd (hb y (List.mem_of_mem_take hy))
      exact Nat.le_trans h1 (Nat.le_trans (Nat.mul_le_mul_left _ (show (b.items.take k).length ≤ 100000 by rw [List.length_take]; omega)) (by decide))
    have hs : (((b.items.take k).map fItm).sum : Int) + ((x.place.size : Int) + (sizeS x.obj : Int)) = ((((b.items.take (k + 1)).map fItm).sum : Nat) : Int) := by rw [sum_snoc hx, hfx]; simp
    have R := hx
    refine awp_region (by kernel_rfl) ?_
    iterate 2 (refine aL_S rfl rfl v_ ?_)
    refine aL_alloc rfl rfl rfl g_ gl_ fun o5 ho5 => ?_
    repeat (rw [none_set_iff] at ho5; obtain ⟨_, ho5⟩ := ho5)
    refine aL_store rfl rfl rfl v_ v_ h_ g_ rfl g_ c_ (by rfl) le_ v_ ?_
    refine aL_nil ?_
    have R := hs
    refine awp_draw (.op 0 0 (.op 1 0 (.op 2 0 (.op 3 0 (.op 4 0 (.op 5 0 (.op 6 1 (.op 7 0 (.op 8 0 (.op 9 0 .nil)))))))))) Tryz.mixed (by kernel_rfl) ?_
    iterate 6 (refine dR_S o_ (by rfl) (by rfl) v_ ?_)
    refine dR_X o_ (by rfl) (by rfl) (AOp_use (by rfl) (by rfl) (.inr ⟨by rfl, by rfl, by rfl⟩) g_ va_ (size_c hxs.obj) ?_); rintro _ _ ⟨rfl, rfl⟩; refine ⟨sub_, ?_⟩
    iterate 3 (refine dR_S o_ (by rfl) (by rfl) v_ ?_)
    refine dR_nil ?_
    refine awp_region (by kernel_rfl) ?_
    iterate 2 (refine aL_S rfl rfl v_ ?_)
    refine aL_nil ?_
    refine aNext (ι := Nat) (i := k) (k + 1) ?_ ?_ ?_ ?_
    · omega
    · show k + 1 ≤ b.items.length; omega
    · have R := hs; exact cv_
    · exact sub_
  · replace hc3 := nm_ hc3
    refine awp_exit ?_
    refine aThen_exit ?_
    refine aThen_exit ?_
    refine aBlock_hit ?_
    refine awp_seq ?_
    have hfull : b.items.take k = b.items := List.take_of_length_le (by omega)
    rw [hfull]
    refine awp_region (by kernel_rfl) ?_
    iterate 2 (refine aL_S rfl rfl v_ ?_)
    refine aL_nil ?_
    refine awp_ret ?_
    refine aEnd_ret (σ' := σ) v_ sub_ ?_
    exact ⟨rfl, rfl⟩
end Go.Proofs.YtbcgkbdacijoiaaGreat
end

section
set_option linter.all false
set_option maxRecDepth 100000
namespace Go.Proofs.YtbcgkbdacijoiaaGreat
open Go.Ab
abbrev newW (o : Nat) : AObj := .cells [.nilp o 196 2, .lit (.slice none 0 0)]
theorem newW_no (o : Nat) : ∀ a t sz l, newW o ≠ .cells [a, .own t sz l] := fun a t sz l hh => by simp [newW] at hh
theorem newW_wr {o : Nat} {σ : Store} : WR (σ.set o (newW o)) o [] := ⟨_, _, none, Store.set_get .., .inr rfl, .inr ⟨rfl, rfl, rfl⟩⟩
theorem start_c {k : Int} {p : ByteArray} {σ : Store} (hp : p.size ≤ 1000000) : ACalls Tryz.prog 81 [vInt k, vStr p] σ fun v σ' => ∃ o, σ.heap o = none ∧ v = .ref o 0 ∧ WR σ' o (beI 1 k ++ textB p) ∧ WF o (σ.set o (newW o)) σ' := by
  refine ACalls_of Tryz.func81 rfl Tryz.ntmps81 (congrArg Array.toList Tryz.results81) (by simp only [List.length_cons, List.length_nil]; decide) ?_; simp only [envOf_cons, envOf_nil, Nat.reduceAdd]
  refine awp_seq ?_
  refine awp_region (by kernel_rfl) ?_
  (refine aL_S rfl rfl v_ ?_)
  refine aL_nil ?_
  refine awp_seq ?_
  refine awp_region (by kernel_rfl) ?_
  (refine aL_S rfl rfl v_ ?_)
  refine aL_X rfl rfl (AOp_boxP rfl va_ fun o7 ho7 => ?_)
  (refine aL_S rfl rfl v_ ?_)
  refine aL_nil ?_
  have hw : WR (σ.set o7 (newW o7)) o7 [] := newW_wr
  refine awp_seq ?_
  refine awp_region (by kernel_rfl) ?_
  iterate 2 (refine aL_S rfl rfl v_ ?_)
  refine aL_X rfl rfl (AOp_use rfl rfl (.inr ⟨rfl, rfl, rfl⟩) g_ va_ (wrByte_c hw (by simp)) ?_); rintro _ τ1 ⟨rfl, a1, a2⟩
  refine aL_nil ?_
  refine awp_seq ?_
  refine awp_region (by kernel_rfl) ?_
  iterate 2 (refine aL_S rfl rfl v_ ?_)
  refine aL_X rfl rfl (AOp_use rfl rfl (.inr ⟨rfl, rfl, rfl⟩) g_ va_ (wrText_c a1 (by simp [beI_length]) (by omega)) ?_); rintro _ τ2 ⟨rfl, b1, b2⟩
  refine aL_nil ?_
  refine awp_seq ?_
  refine awp_region (by kernel_rfl) ?_
  iterate 2 (refine aL_S rfl rfl v_ ?_)
  refine aL_nil ?_
  refine awp_ret ?_
  refine aEnd_ret v_ (Store.Wk.refl _) ?_
  exact ⟨o7, ho7, rfl, by simpa using b1, a2.trans b2⟩
def putRS (p : ByteArray) (o : Obj') : List UInt8 × Int := if placeOk p && objOk o then (putR p o, 0) else ([], 1)
def dropRS (p : ByteArray) : List UInt8 × Int := if placeOk p then (dropR p, 0) else ([], 1)
def mintRS (p : ByteArray) (n : Int) : List UInt8 × Int := if placeOk p && cntOk n then (mintR p n, 0) else ([], 1)
theorem put_bytes (p : ByteArray) (o : Obj') : beI 1 1 ++ textB p ++ objB o = putR p o := by rw [show beI 1 1 = [1] from by decide +kernel]; simp [putR]
theorem drop_bytes (p : ByteArray) : beI 1 2 ++ textB p = dropR p := by rw [show beI 1 2 = [2] from by decide +kernel]; simp [dropR]
theorem mint_bytes (p : ByteArray) (n : Int) : beI 1 3 ++ textB p ++ beI 8 n = mintR p n := by rw [show beI 1 3 = [3] from by decide +kernel]; simp [mintR]
theorem chk0' {b : Bool} : (if b = true then 0 else 1 : Int) = 0 ↔ b = true := by cases b <;> simp
set_option maxHeartbeats 1000000 in
theorem putRec_c {p : ByteArray} {o : Obj'} {σ : Store} (hp : p.size ≤ 1000000) (ho : ObjSm o) : ACalls Tryz.prog 30 [vStr p, sObj o] σ fun v σ' => v = .tup [vStr (B (putRS p o).1), vInt (putRS p o).2] ∧ σ = σ' := by
  have hlen := objB_len ho
  have htl := textB_length p
  refine ACalls_of Tryz.func30 rfl Tryz.ntmps30 (congrArg Array.toList Tryz.results30) (by simp only [List.length_cons, List.length_nil]; decide) ?_; simp only [envOf_cons, envOf_nil, Nat.reduceAdd]
  refine awp_seq ?_
  refine awp_region (by kernel_rfl) ?_
  refine aL_box rfl rfl rfl v_ rfl g_ fun o3 ho3 => ?_
  repeat (rw [none_set_iff] at ho3; obtain ⟨_, ho3⟩ := ho3)
  iterate 2 (refine aL_S rfl rfl v_ ?_)
  refine aL_nil ?_
  refine awp_seq ?_
  refine awp_seq ?_
  refine awp_region (by kernel_rfl) ?_
  (refine aL_S rfl rfl v_ ?_)
  refine aL_X rfl rfl (AOp_use rfl rfl (.inr ⟨rfl, rfl, rfl⟩) g_ va_ (isPlace_c (by omega)) ?_); rintro _ _ ⟨rfl, rfl⟩
  iterate 2 (refine aL_S rfl rfl v_ ?_)
  refine aL_GF rfl rfl v_ rfl vg_ ?_
  refine aL_GFX rfl rfl v_ rfl (fun hb => AOp_useV (by rfl) (by rfl) (.inr ⟨by rfl, by rfl, by rfl⟩) g_ cg_ (oCheck_c ho)) ?_
  refine aL_GF rfl rfl v_ rfl vg_ ?_
  (refine aL_S rfl rfl v_ ?_)
  refine aL_nil ?_
  refine awp_cond v_ (fun hc1 => ?_) (fun hc1 => ?_)
  · replace hc1 := nm_ hc1
    refine awp_seq ?_
    refine awp_region (by kernel_rfl) ?_
    iterate 2 (refine aL_S rfl rfl v_ ?_)
    refine aL_nil ?_
    refine awp_ret ?_
    refine aEnd_ret (σ' := σ) v_ sub_ ?_
    exact ⟨by rw [putRS, if_neg (by rcases hc1 with h | h; simp [h]; rw [chk0'] at h; simp [h])]; rfl, rfl⟩
  · replace hc1 := nm_ hc1
    have hok : placeOk p = true ∧ objOk o = true := ⟨hc1.1, chk0'.1 hc1.2⟩
    refine awp_skip ?_
    refine awp_seq ?_
    refine awp_region (by kernel_rfl) ?_
    (refine aL_S rfl rfl v_ ?_)
    refine aL_X rfl rfl (AOp_use rfl rfl (.inr ⟨rfl, rfl, rfl⟩) g_ va_ (start_c (k := 1) hp) ?_); rintro _ τ1 ⟨w, hw0, rfl, w1, w2⟩
    (refine aL_S rfl rfl v_ ?_)
    refine aL_nil ?_
    skip
    have hw3 : w ≠ o3 := fun hh => by rw [hh, Store.set_get] at hw0; cases hw0
    have f3 : τ1.heap o3 = some (.cells (sObj o).cells) := w2.1 o3 _ (Ne.symm hw3) (by rw [Store.set_ne _ _ (Ne.symm hw3)]; exact Store.set_get ..)
    refine awp_seq ?_
    have R := f3
    refine awp_region (by kernel_rfl) ?_
    iterate 2 (refine aL_S rfl rfl v_ ?_)
    refine aL_X rfl rfl (AOp_use rfl rfl (.inr ⟨rfl, rfl, rfl⟩) g_ va_ (wrObj_c w1 ho (by simp only [List.length_append, beI_length]; omega)) ?_); rintro _ τ2 ⟨rfl, b1, b2⟩
    refine aL_nil ?_
    refine awp_seq ?_
    refine awp_region (by kernel_rfl) ?_
    (refine aL_S rfl rfl v_ ?_)
    refine aL_X rfl rfl (AOp_use rfl rfl (.inr ⟨rfl, rfl, rfl⟩) g_ va_ (wrBytes_c b1 (by simp only [List.length_append, beI_length]; omega)) ?_); rintro _ τ3 ⟨rfl, c2⟩
    iterate 2 (refine aL_S rfl rfl v_ ?_)
    refine aL_nil ?_
    refine awp_ret ?_
    have h1 := WF.sub hw0 (w2.trans (b2.trans c2)) (newW_no w)
    exact aEnd_ret (σ' := σ) va_ (Store.Sub.wk (Store.Sub.trans (sub_set ho3) h1)) ⟨by rw [putRS, hok.1, hok.2, put_bytes]; rfl, rfl⟩
theorem dropRec_c {p : ByteArray} {σ : Store} (hp : p.size ≤ 1000000) : ACalls Tryz.prog 32 [vStr p] σ fun v σ' => v = .tup [vStr (B (dropRS p).1), vInt (dropRS p).2] ∧ σ = σ' := by
  have htl := textB_length p
  refine ACalls_of Tryz.func32 rfl Tryz.ntmps32 (congrArg Array.toList Tryz.results32) (by simp only [List.length_cons, List.length_nil]; decide) ?_; simp only [envOf_cons, envOf_nil, Nat.reduceAdd]
  refine awp_seq ?_
  refine awp_region (by kernel_rfl) ?_
  iterate 2 (refine aL_S rfl rfl v_ ?_)
  refine aL_nil ?_
  refine awp_seq ?_
  refine awp_seq ?_
  refine awp_region (by kernel_rfl) ?_
  (refine aL_S rfl rfl v_ ?_)
  refine aL_X rfl rfl (AOp_use rfl rfl (.inr ⟨rfl, rfl, rfl⟩) g_ va_ (isPlace_c (by omega)) ?_); rintro _ _ ⟨rfl, rfl⟩
  (refine aL_S rfl rfl v_ ?_)
  refine aL_nil ?_
  refine awp_cond v_ (fun hc1 => ?_) (fun hc1 => ?_)
  · replace hc1 := nm_ hc1
    refine awp_seq ?_
    refine awp_region (by kernel_rfl) ?_
    iterate 2 (refine aL_S rfl rfl v_ ?_)
    refine aL_nil ?_
    refine awp_ret ?_
    refine aEnd_ret (σ' := σ) v_ sub_ ?_
    exact ⟨by rw [dropRS, if_neg (by simp [hc1])]; rfl, rfl⟩
  · replace hc1 := nm_ hc1
    refine awp_skip ?_
    refine awp_seq ?_
    refine awp_region (by kernel_rfl) ?_
    (refine aL_S rfl rfl v_ ?_)
    refine aL_X rfl rfl (AOp_use rfl rfl (.inr ⟨rfl, rfl, rfl⟩) g_ va_ (start_c (k := 2) hp) ?_); rintro _ τ1 ⟨w, hw0, rfl, w1, w2⟩
    refine aL_X rfl rfl (AOp_use rfl rfl (.inr ⟨rfl, rfl, rfl⟩) g_ va_ (wrBytes_c w1 (by simp only [List.length_append, beI_length]; omega)) ?_); rintro _ τ3 ⟨rfl, c2⟩
    iterate 2 (refine aL_S rfl rfl v_ ?_)
    refine aL_nil ?_
    refine awp_ret ?_
    have h1 := WF.sub hw0 (w2.trans c2) (newW_no w)
    exact aEnd_ret (σ' := σ) va_ (Store.Sub.wk h1) ⟨by rw [dropRS, if_pos hc1, drop_bytes], rfl⟩
theorem mintRec_c {p : ByteArray} {n : Int} {σ : Store} (hp : p.size ≤ 1000000) : ACalls Tryz.prog 34 [vStr p, vInt n] σ fun v σ' => v = .tup [vStr (B (mintRS p n).1), vInt (mintRS p n).2] ∧ σ = σ' := by
  have htl := textB_length p
  refine ACalls_of Tryz.func34 rfl Tryz.ntmps34 (congrArg Array.toList Tryz.results34) (by simp only [List.length_cons, List.length_nil]; decide) ?_; simp only [envOf_cons, envOf_nil, Nat.reduceAdd]
  refine awp_seq ?_
  refine awp_region (by kernel_rfl) ?_
  iterate 2 (refine aL_S rfl rfl v_ ?_)
  refine aL_nil ?_
  refine awp_seq ?_
  refine awp_seq ?_
  refine awp_region (by kernel_rfl) ?_
  (refine aL_S rfl rfl v_ ?_)
  refine aL_X rfl rfl (AOp_use rfl rfl (.inr ⟨rfl, rfl, rfl⟩) g_ va_ (isPlace_c (by omega)) ?_); rintro _ _ ⟨rfl, rfl⟩
  iterate 2 (refine aL_S rfl rfl v_ ?_)
  refine aL_GF rfl rfl v_ rfl vg_ ?_
  refine aL_GFX rfl rfl v_ rfl (fun hb => AOp_useV (by rfl) (by rfl) (.inr ⟨by rfl, by rfl, by rfl⟩) g_ cg_ (isCount_c)) ?_
  refine aL_GF rfl rfl v_ rfl vg_ ?_
  (refine aL_S rfl rfl v_ ?_)
  refine aL_nil ?_
  refine awp_cond v_ (fun hc1 => ?_) (fun hc1 => ?_)
  · replace hc1 := nm_ hc1
    refine awp_seq ?_
    refine awp_region (by kernel_rfl) ?_
    iterate 2 (refine aL_S rfl rfl v_ ?_)
    refine aL_nil ?_
    refine awp_ret ?_
    refine aEnd_ret (σ' := σ) v_ sub_ ?_
    exact ⟨by rw [mintRS, if_neg (by rcases hc1 with h | h <;> simp [h])]; rfl, rfl⟩
  · replace hc1 := nm_ hc1
    refine awp_skip ?_
    refine awp_seq ?_
    refine awp_region (by kernel_rfl) ?_
    (refine aL_S rfl rfl v_ ?_)
    refine aL_X rfl rfl (AOp_use rfl rfl (.inr ⟨rfl, rfl, rfl⟩) g_ va_ (start_c (k := 3) hp) ?_); rintro _ τ1 ⟨w, hw0, rfl, w1, w2⟩
    (refine aL_S rfl rfl v_ ?_)
    refine aL_nil ?_
    refine awp_seq ?_
    refine awp_region (by kernel_rfl) ?_
    iterate 2 (refine aL_S rfl rfl v_ ?_)
    refine aL_X rfl rfl (AOp_use rfl rfl (.inr ⟨rfl, rfl, rfl⟩) g_ va_ (wrInt_c w1 (by simp only [List.length_append, beI_length]; omega)) ?_); rintro _ τ2 ⟨rfl, b1, b2⟩
    refine aL_nil ?_
    refine awp_seq ?_
    refine awp_region (by kernel_rfl) ?_
    (refine aL_S rfl rfl v_ ?_)
    refine aL_X rfl rfl (AOp_use rfl rfl (.inr ⟨rfl, rfl, rfl⟩) g_ va_ (wrBytes_c b1 (by simp only [List.length_append, beI_length]; omega)) ?_); rintro _ τ3 ⟨rfl, c2⟩
    iterate 2 (refine aL_S rfl rfl v_ ?_)
    refine aL_nil ?_
    refine awp_ret ?_
    have h1 := WF.sub hw0 (w2.trans (b2.trans c2)) (newW_no w)
    exact aEnd_ret (σ' := σ) va_ (Store.Sub.wk h1) ⟨by rw [mintRS, if_pos (by simp [hc1]), mint_bytes], rfl⟩
/-! ### the document's -/
end Go.Proofs.YtbcgkbdacijoiaaGreat
end

section
set_option linter.all false
set_option maxRecDepth 100000
namespace Go.Ab
abbrev shInts : Sh := .sl false (.int .i64)
abbrev shDot : Sh := .pair .str (.pair (.int .i64) .unit)
abbrev shSeen : Sh := .pair .str (.pair (.int .i64) (.pair shInts .unit))
abbrev shSib : Sh := .pair shDot (.pair .str (.pair .bool (.pair (.int .i64) .unit)))
abbrev shCtx : Sh := .sl true shSeen
abbrev shObj : Sh := .pair shCtx (.pair (.sl true shSib) .unit)
theorem rd_ints {c : List AVal} (h : shInts.ok c) : ∃ l : List Int, c = [.sl 1 (l.map vInt) false] := by
  obtain ⟨l, rfl, _, hl⟩ := h
  obtain ⟨zs, rfl⟩ := lits_of hl
  exact ⟨zs, rfl⟩
theorem rd_seen {c : List AVal} (h : shSeen.ok c) : ∃ x : Seen, .agg c = sSeen x := by
  obtain ⟨_, _, rfl, ⟨s, rfl, _⟩, _, _, rfl, ⟨n, rfl, _⟩, _, _, rfl, h3, rfl⟩ := h
  obtain ⟨l, rfl⟩ := rd_ints h3
  exact ⟨⟨s, n, l⟩, rfl⟩
theorem rd_sib {c : List AVal} (h : shSib.ok c) : ∃ x : Sib, .agg c = sSib x := by
  obtain ⟨_, _, rfl, ⟨_, _, rfl, ⟨s, rfl, _⟩, _, _, rfl, ⟨n, rfl, _⟩, rfl⟩, _, _, rfl, ⟨v, rfl, _⟩, _, _, rfl, ⟨g, rfl⟩, _, _, rfl, ⟨t, rfl, _⟩, rfl⟩ := h
  exact ⟨⟨s, n, v, g, t⟩, rfl⟩
theorem rd_sl {α : Type} (f : α → AVal) {e : Sh} (he : ∀ c, e.ok c → ∃ a, .agg c = f a) {c : List AVal} (h : (Sh.sl true e).ok c) : ∃ zs : List α, c = [.sl e.size (zs.map f) false] := by
  obtain ⟨l, rfl, _, hl⟩ := h
  obtain ⟨zs, rfl⟩ := list_of f (l := l) fun x hx => by
    obtain ⟨c, hc, e⟩ := hl x hx
    simp only [if_true] at e
    rw [e]; exact he c hc
  exact ⟨zs, rfl⟩
theorem rd_ctx {c : List AVal} (h : shCtx.ok c) : ∃ l : List Seen, c = [.sl 3 (l.map sSeen) false] := rd_sl sSeen (fun c hc => rd_seen hc) h
theorem rd_obj {c : List AVal} (h : shObj.ok c) : ∃ x : Obj', .agg c = sObj x := by
  obtain ⟨_, _, rfl, h1, _, _, rfl, h2, rfl⟩ := h
  obtain ⟨l, rfl⟩ := rd_ctx h1
  obtain ⟨m, rfl⟩ := rd_sl sSib (fun c hc => rd_sib hc) h2
  exact ⟨⟨l, m⟩, rfl⟩
theorem rv_str {a : AVal} (h : Sh.okv .str false a) : ∃ s : ByteArray, a = vStr s := by
  obtain ⟨c, ⟨s, rfl, _⟩, e⟩ := h
  simp only [Bool.false_eq_true, if_false, List.cons.injEq, and_true] at e
  exact ⟨s, e.symm⟩
end Go.Ab
end

section
set_option linter.all false
set_option maxRecDepth 100000
namespace Go.Ab
abbrev shItm : Sh := .pair .str (.pair shObj .unit)
theorem rd_objC {c : List AVal} (h : shObj.ok c) : ∃ x : Obj', c = [.sl 3 (x.ctx.map sSeen) false, .sl 5 (x.sibs.map sSib) false] := by
  obtain ⟨x, hx⟩ := rd_obj h
  exact ⟨x, AVal.agg.inj hx⟩
theorem rd_itm {c : List AVal} (h : shItm.ok c) : ∃ x : Itm, .agg c = sItem x := by
  obtain ⟨_, _, rfl, ⟨s, rfl, _⟩, _, _, rfl, h2, rfl⟩ := h
  obtain ⟨o, rfl⟩ := rd_objC h2
  exact ⟨⟨s, o⟩, rfl⟩
end Go.Ab
end

section
set_option linter.all false
set_option maxRecDepth 100000
namespace Go.Proofs.YtbcgkbdacijoiaaGreat
open Go.Ab
abbrev shMnt : Sh := .pair .str (.pair (.int .i64) .unit)
abbrev shBk : Sh := .pair (.sl true shItm) (.pair (.sl true shMnt) .unit)
theorem rd_mnt {c : List AVal} (h : shMnt.ok c) : ∃ x : Mnt, .agg c = sMnt x := by
  obtain ⟨_, _, rfl, ⟨s, rfl, _⟩, _, _, rfl, ⟨n, rfl, _⟩, rfl⟩ := h
  exact ⟨⟨s, n⟩, rfl⟩
theorem rv_bk {a : AVal} (h : Sh.okv shBk true a) : ∃ x : Bk, a = sBk x := by
  obtain ⟨c, ⟨_, _, rfl, h1, _, _, rfl, h2, rfl⟩, e⟩ := h
  obtain ⟨l, rfl⟩ := rd_sl sItem (fun c hc => rd_itm hc) h1
  obtain ⟨m, rfl⟩ := rd_sl sMnt (fun c hc => rd_mnt hc) h2
  simp only [if_true] at e
  exact ⟨⟨l, m⟩, by rw [e]; rfl⟩
end Go.Proofs.YtbcgkbdacijoiaaGreat
end
