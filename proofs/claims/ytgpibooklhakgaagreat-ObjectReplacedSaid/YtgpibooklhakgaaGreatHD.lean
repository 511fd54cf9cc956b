/-
  Objects: covering, size, one write's object; the program's and the reference's; Objects without values that are gone: the library's Clone and DeleteFunc; Objects: what must come, whatever the arguments are. Own work (an AI agent).
-/
import Derived.Test.YtgpibooklhakgaaGreatHC

section
set_option linter.all false
set_option maxRecDepth 100000
namespace Go.Proofs.YtgpibooklhakgaaGreat
open Go.Ab

def coversS (a b : Obj') : Bool := decide ((mergeS a b).2 = 0) && decide (a = (mergeS a b).1)
theorem covers_c {a b : Obj'} {σ : Store} (ha : ObjSm a) (hB : ObjSm b) (hm : ObjSm (mergeS a b).1) : ACalls Tryz.prog 60 [sObj a, sObj b] σ fun v σ' => v = vB (coversS a b) ∧ σ = σ' := by
  obtain ⟨q, hq⟩ : ∃ q, mergeS a b = q := ⟨_, rfl⟩
  have hc : coversS a b = (decide (q.2 = 0) && decide (a = q.1)) := by rw [coversS, hq]
  rw [hq] at hm
  rw [hc]
  refine ACalls_of Tryz.func60 rfl Tryz.ntmps60 (congrArg Array.toList Tryz.results60) (by simp only [List.length_cons, List.length_nil]; decide) ?_; simp only [envOf_cons, envOf_nil, Nat.reduceAdd]
  refine awp_seq ?_
  refine awp_region (by kernel_rfl) ?_
  refine aL_box rfl rfl rfl v_ rfl g_ fun o2 ho2 => ?_
  repeat (rw [none_set_iff] at ho2; obtain ⟨_, ho2⟩ := ho2)
  refine aL_box rfl rfl rfl v_ rfl g_ fun o3 ho3 => ?_
  repeat (rw [none_set_iff] at ho3; obtain ⟨_, ho3⟩ := ho3)
  (refine aL_S rfl rfl v_ ?_)
  refine aL_nil ?_
  refine awp_seq ?_
  refine awp_region (by kernel_rfl) ?_
  iterate 2 (refine aL_S rfl rfl v_ ?_)
  refine aL_X rfl rfl (AOp_use rfl rfl (.inr ⟨rfl, rfl, rfl⟩) g_ va_ (merge_c ha hB) ?_); rintro _ _ ⟨rfl, rfl⟩
  rw [hq]
  iterate 3 (refine aL_S rfl rfl v_ ?_)
  refine aL_alloc rfl rfl rfl g_ gl_ fun o5 ho5 => ?_
  repeat (rw [none_set_iff] at ho5; obtain ⟨_, ho5⟩ := ho5)
  refine aL_store rfl rfl rfl v_ v_ h_ g_ rfl g_ c_ (by rfl) le_ v_ ?_
  (refine aL_S rfl rfl v_ ?_)
  refine aL_nil ?_
  refine awp_seq ?_
  refine awp_region (by kernel_rfl) ?_
  iterate 3 (refine aL_S rfl rfl v_ ?_)
  refine aL_GT rfl rfl v_ rfl vg_ ?_
  refine aL_GT rfl rfl v_ rfl vg_ ?_
  refine aL_GTX rfl rfl v_ rfl (fun hb => AOp_useV (by rfl) (by rfl) (.inr ⟨by rfl, by rfl, by rfl⟩) g_ cg_ (oSame_c ha hm)) ?_
  iterate 2 (refine aL_S rfl rfl v_ ?_)
  refine aL_nil ?_
  refine awp_ret ?_
  refine aEnd_ret (σ' := σ) v_ sub_ ?_
  exact ⟨rfl, rfl⟩
theorem rCovers_c {a b : Obj'} {σ : Store} (ha : ObjSm a) (hB : ObjSm b) (hm : ObjSm (mergeS a b).1) : ACalls Tryz.prog 61 [sObj a, sObj b] σ fun v σ' => v = vB (coversS a b) ∧ σ = σ' := by
  obtain ⟨q, hq⟩ : ∃ q, mergeS a b = q := ⟨_, rfl⟩
  have hc : coversS a b = (decide (q.2 = 0) && decide (a = q.1)) := by rw [coversS, hq]
  rw [hq] at hm
  rw [hc]
  refine ACalls_of Tryz.func61 rfl Tryz.ntmps61 (congrArg Array.toList Tryz.results61) (by simp only [List.length_cons, List.length_nil]; decide) ?_; simp only [envOf_cons, envOf_nil, Nat.reduceAdd]
  refine awp_seq ?_
  refine awp_region (by kernel_rfl) ?_
  refine aL_box rfl rfl rfl v_ rfl g_ fun o2 ho2 => ?_
  repeat (rw [none_set_iff] at ho2; obtain ⟨_, ho2⟩ := ho2)
  refine aL_box rfl rfl rfl v_ rfl g_ fun o3 ho3 => ?_
  repeat (rw [none_set_iff] at ho3; obtain ⟨_, ho3⟩ := ho3)
  (refine aL_S rfl rfl v_ ?_)
  refine aL_nil ?_
  refine awp_seq ?_
  refine awp_region (by kernel_rfl) ?_
  iterate 2 (refine aL_S rfl rfl v_ ?_)
  refine aL_X rfl rfl (AOp_use rfl rfl (.inr ⟨rfl, rfl, rfl⟩) g_ va_ (rMerge_c ha hB) ?_); rintro _ _ ⟨rfl, rfl⟩
  rw [hq]
  iterate 3 (refine aL_S rfl rfl v_ ?_)
  refine aL_alloc rfl rfl rfl g_ gl_ fun o5 ho5 => ?_
  repeat (rw [none_set_iff] at ho5; obtain ⟨_, ho5⟩ := ho5)
  refine aL_store rfl rfl rfl v_ v_ h_ g_ rfl g_ c_ (by rfl) le_ v_ ?_
  (refine aL_S rfl rfl v_ ?_)
  refine aL_nil ?_
  refine awp_seq ?_
  refine awp_region (by kernel_rfl) ?_
  iterate 3 (refine aL_S rfl rfl v_ ?_)
  refine aL_GT rfl rfl v_ rfl vg_ ?_
  refine aL_GT rfl rfl v_ rfl vg_ ?_
  refine aL_GTX rfl rfl v_ rfl (fun hb => AOp_useV (by rfl) (by rfl) (.inr ⟨by rfl, by rfl, by rfl⟩) g_ cg_ (same07_f ha hm)) ?_
  iterate 2 (refine aL_S rfl rfl v_ ?_)
  refine aL_nil ?_
  refine awp_ret ?_
  refine aEnd_ret (σ' := σ) v_ sub_ ?_
  exact ⟨rfl, rfl⟩
theorem rCheck07_c {o : Obj'} {σ : Store} (ho : ObjSm o) : ACalls Tryz.prog 54 [sObj o] σ fun v σ' => v = vInt (if objOk o then 0 else 1) ∧ σ = σ' := by
  refine ACalls_of Tryz.func54 rfl Tryz.ntmps54 (congrArg Array.toList Tryz.results54) (by simp only [List.length_cons, List.length_nil]; decide) ?_; simp only [envOf_cons, envOf_nil, Nat.reduceAdd]
  refine awp_seq ?_
  refine awp_region (by kernel_rfl) ?_
  refine aL_box rfl rfl rfl v_ rfl g_ fun o1 ho1 => ?_
  repeat (rw [none_set_iff] at ho1; obtain ⟨_, ho1⟩ := ho1)
  (refine aL_S rfl rfl v_ ?_)
  refine aL_nil ?_
  refine awp_seq ?_
  refine awp_seq ?_
  refine awp_region (by kernel_rfl) ?_
  (refine aL_S rfl rfl v_ ?_)
  refine aL_X rfl rfl (AOp_use rfl rfl (.inr ⟨rfl, rfl, rfl⟩) g_ va_ (rMay07_c ho) ?_); rintro _ _ ⟨rfl, rfl⟩
  (refine aL_S rfl rfl v_ ?_)
  refine aL_nil ?_
  refine awp_cond v_ (fun hc1 => ?_) (fun hc1 => ?_)
  · replace hc1 := nm_ hc1
    refine awp_seq ?_
    refine awp_region (by kernel_rfl) ?_
    (refine aL_S rfl rfl v_ ?_)
    refine aL_nil ?_
    refine awp_ret ?_
    refine aEnd_ret (σ' := σ) v_ sub_ ?_
    exact ⟨by rw [hc1]; rfl, rfl⟩
  · replace hc1 := nm_ hc1
    refine awp_skip ?_
    refine awp_seq ?_
    refine awp_region (by kernel_rfl) ?_
    (refine aL_S rfl rfl v_ ?_)
    refine aL_nil ?_
    refine awp_ret ?_
    refine aEnd_ret (σ' := σ) v_ sub_ ?_
    exact ⟨by rw [hc1]; rfl, rfl⟩
def fSeen (x : Seen) : Nat := 16 + 16 * x.more.length
def fSib (x : Sib) : Nat := 64 + x.value.size
def sizeS (o : Obj') : Nat := (o.ctx.map fSeen).sum + (o.sibs.map fSib).sum
theorem sum_bd {α : Type} {f : α → Nat} {c : Nat} : ∀ {l : List α}, (∀ x ∈ l, f x ≤ c) → (l.map f).sum ≤ c * l.length
  | [], _ => by simp
  | x :: l, h => by
    have h1 := sum_bd (l := l) fun y hy => h y (.tail _ hy)
    have h2 := h x (.head _)
    simp only [List.map_cons, List.sum_cons, List.length_cons, Nat.mul_add, Nat.mul_one]; omega
theorem sum_snoc {α : Type} {f : α → Nat} {l : List α} {k : Nat} {x : α} (hx : l[k]? = some x) : ((l.take (k + 1)).map f).sum = ((l.take k).map f).sum + f x := by
  rw [take_snoc hx, List.map_append, List.sum_append]; simp
theorem size_bds {o : Obj'} (ho : ObjSm o) (i j : Nat) : ((o.ctx.take i).map fSeen).sum ≤ 16000016000 ∧ ((o.sibs.take j).map fSib).sum ≤ 1000064000 := by
  have h1 := sum_bd (f := fSeen) (c := 16000016) (l := o.ctx.take i) fun x hx => by have := (ho.ctx x (List.mem_of_mem_take hx)).more; unfold fSeen; omega
  have h2 := sum_bd (f := fSib) (c := 1000064) (l := o.sibs.take j) fun x hx => by have := (ho.sibs x (List.mem_of_mem_take hx)).value; unfold fSib; omega
  have h3 := ho.nc; have h4 := ho.ns
  rw [List.length_take] at h1 h2
  refine ⟨Nat.le_trans h1 (Nat.le_trans (Nat.mul_le_mul_left _ (show min i o.ctx.length ≤ 1000 by omega)) (by decide)), Nat.le_trans h2 (Nat.le_trans (Nat.mul_le_mul_left _ (show min j o.sibs.length ≤ 1000 by omega)) (by decide))⟩
theorem size_c {o : Obj'} {σ : Store} (ho : ObjSm o) : ACalls Tryz.prog 55 [sObj o] σ fun v σ' => v = vInt (sizeS o) ∧ σ = σ' := by
  have hnc := ho.nc; have hns := ho.ns
  refine ACalls_of Tryz.func55 rfl Tryz.ntmps55 (congrArg Array.toList Tryz.results55) (by simp only [List.length_cons, List.length_nil]; decide) ?_; simp only [envOf_cons, envOf_nil, Nat.reduceAdd]
  refine awp_seq ?_
  refine awp_region (by kernel_rfl) ?_
  refine aL_box rfl rfl rfl v_ rfl g_ fun o1 ho1 => ?_
  repeat (rw [none_set_iff] at ho1; obtain ⟨_, ho1⟩ := ho1)
  (refine aL_S rfl rfl v_ ?_)
  refine aL_nil ?_
  refine awp_seq ?_
  refine awp_region (by kernel_rfl) ?_
  (refine aL_S rfl rfl v_ ?_)
  refine aL_nil ?_
  refine awp_seq ?_
  refine awp_seq ?_
  refine awp_region (by kernel_rfl) ?_
  iterate 4 (refine aL_S rfl rfl v_ ?_)
  refine aL_nil ?_
  refine awp_block ?_
  refine awp_loop_env (ι := Nat) (fun k => o.ctx.length - k) (fun k => k ≤ o.ctx.length) (fun k => [(1, .ref o1 0), (3, vInt (((o.ctx.take k).map fSeen).sum : Nat)), (9, .sl 3 (o.ctx.map sSeen) false), (10, vInt o.ctx.length), (11, vInt k)]) (fun k => (σ.set o1 (.cells (sObj o).cells))) 0 ?_ ?_ ?_ ?_
  · exact Nat.zero_le _
  · exact cv_
  · exact Store.Wk.refl _
  rintro k hk
  simp only [envL_cons, envL_nil]
  refine awp_seq ?_
  refine awp_region (by kernel_rfl) ?_
  (refine aL_S rfl rfl v_ ?_)
  refine aL_nil ?_
  refine awp_seq ?_
  refine awp_cond v_ (fun hc3 => ?_) (fun hc3 => ?_)
  · replace hc3 := nm_ hc3
    refine awp_skip ?_
    refine awp_seq ?_
    refine awp_block ?_
    refine awp_seq ?_
    obtain ⟨x, hx⟩ := get_some (l := o.ctx) (k := k) (by omega)
    have hb := (size_bds ho k 0).1
    have hxm := (ho.ctx x (List.mem_of_getElem? hx)).more
    have hs : (((o.ctx.take k).map fSeen).sum : Int) + (16 + 16 * (x.more.length : Int)) = ((((o.ctx.take (k + 1)).map fSeen).sum : Nat) : Int) := by rw [sum_snoc hx]; simp [fSeen]
    have R := hx
    refine awp_region (by kernel_rfl) ?_
    iterate 2 (refine aL_S rfl rfl v_ ?_)
    refine aL_alloc rfl rfl rfl g_ gl_ fun o5 ho5 => ?_
    repeat (rw [none_set_iff] at ho5; obtain ⟨_, ho5⟩ := ho5)
    refine aL_store rfl rfl rfl v_ v_ h_ g_ rfl g_ c_ (by rfl) le_ v_ ?_
    refine aL_nil ?_
    have R := hs
    refine awp_region (by kernel_rfl) ?_
    iterate 8 (refine aL_S rfl rfl v_ ?_)
    refine aL_nil ?_
    refine awp_region (by kernel_rfl) ?_
    iterate 2 (refine aL_S rfl rfl v_ ?_)
    refine aL_nil ?_
    refine aNext (ι := Nat) (i := k) (k + 1) ?_ ?_ ?_ ?_
    · omega
    · show k + 1 ≤ o.ctx.length; omega
    · have R := hs; exact cv_
    · exact sub_
  · replace hc3 := nm_ hc3
    refine awp_exit ?_
    refine aThen_exit ?_
    refine aThen_exit ?_
    refine aBlock_hit ?_
    refine awp_seq ?_
    refine awp_seq ?_
    have hfull : o.ctx.take k = o.ctx := List.take_of_length_le (by omega)
    have hb1 := (size_bds ho k 0).1
    rw [hfull] at hb1 ⊢
    refine awp_region (by kernel_rfl) ?_
    iterate 4 (refine aL_S rfl rfl v_ ?_)
    refine aL_nil ?_
    have hz : (((o.ctx.map fSeen).sum + ((o.sibs.take 0).map fSib).sum : Nat) : Int) = ((o.ctx.map fSeen).sum : Nat) := by simp
    refine awp_block ?_
    refine awp_loop_env (ι := Nat) (fun k => o.sibs.length - k) (fun k => k ≤ o.sibs.length) (fun k => [(3, vInt (((o.ctx.map fSeen).sum + ((o.sibs.take k).map fSib).sum : Nat))), (24, .sl 5 (o.sibs.map sSib) false), (25, vInt o.sibs.length), (26, vInt k)]) (fun k => (σ.set o1 (.cells (sObj o).cells))) 0 ?_ ?_ ?_ ?_
    · exact Nat.zero_le _
    · have R := hz; exact cv_
    · exact Store.Wk.refl _
    rintro k hk
    simp only [envL_cons, envL_nil]
    refine awp_seq ?_
    refine awp_region (by kernel_rfl) ?_
    (refine aL_S rfl rfl v_ ?_)
    refine aL_nil ?_
    refine awp_seq ?_
    refine awp_cond v_ (fun hc8 => ?_) (fun hc8 => ?_)
    · replace hc8 := nm_ hc8
      refine awp_skip ?_
      refine awp_seq ?_
      refine awp_block ?_
      refine awp_seq ?_
      obtain ⟨x, hx⟩ := get_some (l := o.sibs) (k := k) (by omega)
      have hb := (size_bds ho 0 k).2
      have hxm := (ho.sibs x (List.mem_of_getElem? hx)).value
      have hs : (((o.ctx.map fSeen).sum + ((o.sibs.take k).map fSib).sum : Nat) : Int) + (64 + (x.value.size : Int)) = (((o.ctx.map fSeen).sum + ((o.sibs.take (k + 1)).map fSib).sum : Nat) : Int) := by rw [sum_snoc hx]; simp [fSib]; omega
      have R := hx
      refine awp_region (by kernel_rfl) ?_
      iterate 2 (refine aL_S rfl rfl v_ ?_)
      refine aL_alloc rfl rfl rfl g_ gl_ fun o7 ho7 => ?_
      repeat (rw [none_set_iff] at ho7; obtain ⟨_, ho7⟩ := ho7)
      refine aL_store rfl rfl rfl v_ v_ h_ g_ rfl g_ c_ (by rfl) le_ v_ ?_
      refine aL_nil ?_
      have R := hs
      refine awp_region (by kernel_rfl) ?_
      iterate 7 (refine aL_S rfl rfl v_ ?_)
      refine aL_nil ?_
      refine awp_region (by kernel_rfl) ?_
      iterate 2 (refine aL_S rfl rfl v_ ?_)
      refine aL_nil ?_
      refine aNext (ι := Nat) (i := k) (k + 1) ?_ ?_ ?_ ?_
      · omega
      · show k + 1 ≤ o.sibs.length; omega
      · have R := hs; exact cv_
      · exact sub_
    · replace hc8 := nm_ hc8
      refine awp_exit ?_
      refine aThen_exit ?_
      refine aThen_exit ?_
      refine aBlock_hit ?_
      refine awp_seq ?_
      have hfull2 : o.sibs.take k = o.sibs := List.take_of_length_le (by omega)
      rw [hfull2]
      refine awp_region (by kernel_rfl) ?_
      iterate 2 (refine aL_S rfl rfl v_ ?_)
      refine aL_nil ?_
      refine awp_ret ?_
      refine aEnd_ret (σ' := σ) v_ sub_ ?_
      exact ⟨rfl, rfl⟩
theorem rSize_c {o : Obj'} {σ : Store} (ho : ObjSm o) : ACalls Tryz.prog 56 [sObj o] σ fun v σ' => v = vInt (sizeS o) ∧ σ = σ' := by
  have hnc := ho.nc; have hns := ho.ns
  refine ACalls_of Tryz.func56 rfl Tryz.ntmps56 (congrArg Array.toList Tryz.results56) (by simp only [List.length_cons, List.length_nil]; decide) ?_; simp only [envOf_cons, envOf_nil, Nat.reduceAdd]
  refine awp_seq ?_
  refine awp_region (by kernel_rfl) ?_
  refine aL_box rfl rfl rfl v_ rfl g_ fun o1 ho1 => ?_
  repeat (rw [none_set_iff] at ho1; obtain ⟨_, ho1⟩ := ho1)
  (refine aL_S rfl rfl v_ ?_)
  refine aL_nil ?_
  refine awp_seq ?_
  refine awp_region (by kernel_rfl) ?_
  (refine aL_S rfl rfl v_ ?_)
  refine aL_nil ?_
  refine awp_seq ?_
  refine awp_seq ?_
  refine awp_region (by kernel_rfl) ?_
  (refine aL_S rfl rfl v_ ?_)
  refine aL_nil ?_
  refine awp_block ?_
  refine awp_loop_env (ι := Nat) (fun k => o.ctx.length - k) (fun k => k ≤ o.ctx.length) (fun k => [(1, .ref o1 0), (3, vInt (((o.ctx.take k).map fSeen).sum : Nat)), (4, vInt k)]) (fun k => (σ.set o1 (.cells (sObj o).cells))) 0 ?_ ?_ ?_ ?_
  · exact Nat.zero_le _
  · exact cv_
  · exact Store.Wk.refl _
  rintro k hk
  simp only [envL_cons, envL_nil]
  refine awp_seq ?_
  refine awp_seq ?_
  refine awp_region (by kernel_rfl) ?_
  iterate 5 (refine aL_S rfl rfl v_ ?_)
  refine aL_nil ?_
  refine awp_cond v_ (fun hc3 => ?_) (fun hc3 => ?_)
  · replace hc3 := nm_ hc3
    refine awp_skip ?_
    refine awp_seq ?_
    refine awp_block ?_
    obtain ⟨x, hx⟩ := get_some (l := o.ctx) (k := k) (by omega)
    have hb := (size_bds ho k 0).1
    have hxm := (ho.ctx x (List.mem_of_getElem? hx)).more
    have hs : (((o.ctx.take k).map fSeen).sum : Int) + 16 + 16 * (x.more.length : Int) = ((((o.ctx.take (k + 1)).map fSeen).sum : Nat) : Int) := by rw [sum_snoc hx]; simp [fSeen]; omega
    have R := And.intro hx hs
    refine awp_region (by kernel_rfl) ?_
    iterate 12 (refine aL_S rfl rfl v_ ?_)
    refine aL_nil ?_
    refine awp_region (by kernel_rfl) ?_
    iterate 3 (refine aL_S rfl rfl v_ ?_)
    refine aL_nil ?_
    refine aNext (ι := Nat) (i := k) (k + 1) ?_ ?_ ?_ ?_
    · omega
    · show k + 1 ≤ o.ctx.length; omega
    · have R := hs; exact cv_
    · exact sub_
  · replace hc3 := nm_ hc3
    refine awp_exit ?_
    refine aThen_exit ?_
    refine aThen_exit ?_
    refine aBlock_hit ?_
    refine awp_seq ?_
    refine awp_seq ?_
    have hfull : o.ctx.take k = o.ctx := List.take_of_length_le (by omega)
    have hb1 := (size_bds ho k 0).1
    rw [hfull] at hb1 ⊢
    have hz : (((o.ctx.map fSeen).sum + ((o.sibs.take 0).map fSib).sum : Nat) : Int) = ((o.ctx.map fSeen).sum : Nat) := by simp
    refine awp_region (by kernel_rfl) ?_
    (refine aL_S rfl rfl v_ ?_)
    refine aL_nil ?_
    refine awp_block ?_
    refine awp_loop_env (ι := Nat) (fun k => o.sibs.length - k) (fun k => k ≤ o.sibs.length) (fun k => [(1, .ref o1 0), (3, vInt (((o.ctx.map fSeen).sum + ((o.sibs.take k).map fSib).sum : Nat))), (5, vInt k)]) (fun k => (σ.set o1 (.cells (sObj o).cells))) 0 ?_ ?_ ?_ ?_
    · exact Nat.zero_le _
    · have R := hz; exact cv_
    · exact Store.Wk.refl _
    rintro k hk
    simp only [envL_cons, envL_nil]
    refine awp_seq ?_
    refine awp_seq ?_
    refine awp_region (by kernel_rfl) ?_
    iterate 5 (refine aL_S rfl rfl v_ ?_)
    refine aL_nil ?_
    refine awp_cond v_ (fun hc7 => ?_) (fun hc7 => ?_)
    · replace hc7 := nm_ hc7
      refine awp_skip ?_
      refine awp_seq ?_
      refine awp_block ?_
      obtain ⟨x, hx⟩ := get_some (l := o.sibs) (k := k) (by omega)
      have hb := (size_bds ho 0 k).2
      have hxm := (ho.sibs x (List.mem_of_getElem? hx)).value
      have hs : (((o.ctx.map fSeen).sum + ((o.sibs.take k).map fSib).sum : Nat) : Int) + 64 + (x.value.size : Int) = (((o.ctx.map fSeen).sum + ((o.sibs.take (k + 1)).map fSib).sum : Nat) : Int) := by rw [sum_snoc hx]; simp [fSib]; omega
      have R := And.intro hx hs
      refine awp_region (by kernel_rfl) ?_
      iterate 11 (refine aL_S rfl rfl v_ ?_)
      refine aL_nil ?_
      refine awp_region (by kernel_rfl) ?_
      iterate 3 (refine aL_S rfl rfl v_ ?_)
      refine aL_nil ?_
      refine aNext (ι := Nat) (i := k) (k + 1) ?_ ?_ ?_ ?_
      · omega
      · show k + 1 ≤ o.sibs.length; omega
      · have R := hs; exact cv_
      · exact sub_
    · replace hc7 := nm_ hc7
      refine awp_exit ?_
      refine aThen_exit ?_
      refine aThen_exit ?_
      refine aBlock_hit ?_
      refine awp_seq ?_
      have hfull2 : o.sibs.take k = o.sibs := List.take_of_length_le (by omega)
      rw [hfull2]
      refine awp_region (by kernel_rfl) ?_
      iterate 2 (refine aL_S rfl rfl v_ ?_)
      refine aL_nil ?_
      refine awp_ret ?_
      refine aEnd_ret (σ' := σ) v_ sub_ ?_
      exact ⟨rfl, rfl⟩
def obj1 (c : List Seen) (s : Sib) : Obj' := ⟨c, [s]⟩
def newS (c : List Seen) (s : Sib) : Obj' × Int := if sibOk s = true ∧ hasS c s.node s.n = false then (if (addS c s.node s.n).2 = 0 then (obj1 (addS c s.node s.n).1 s, 0) else (⟨[], []⟩, (addS c s.node s.n).2)) else (⟨[], []⟩, 1)
theorem new7_c {c : List Seen} {s : Sib} {t : Bool} {σ : Store} (hA : ∀ x ∈ c, SeenSm x) (hn : c.length ≤ 100000) (hs : SibSm s) : ACalls Tryz.prog 51 [.sl 3 (c.map sSeen) t, sSib s] σ fun v σ' => v = .tup [sObj (newS c s).1, vInt (newS c s).2] ∧ σ = σ' := by
  have hnd := hs.node
  refine ACalls_of Tryz.func51 rfl Tryz.ntmps51 (congrArg Array.toList Tryz.results51) (by simp only [List.length_cons, List.length_nil]; decide) ?_; simp only [envOf_cons, envOf_nil, Nat.reduceAdd]
  refine awp_seq ?_
  refine awp_region (by kernel_rfl) ?_
  refine aL_box rfl rfl rfl v_ rfl g_ fun o3 ho3 => ?_
  repeat (rw [none_set_iff] at ho3; obtain ⟨_, ho3⟩ := ho3)
  refine aL_alloc rfl rfl rfl g_ gl_ fun o4 ho4 => ?_
  repeat (rw [none_set_iff] at ho4; obtain ⟨_, ho4⟩ := ho4)
  (refine aL_S rfl rfl v_ ?_)
  refine aL_nil ?_
  refine awp_seq ?_
  refine awp_seq ?_
  refine awp_region (by kernel_rfl) ?_
  (refine aL_S rfl rfl v_ ?_)
  refine aL_X rfl rfl (AOp_use rfl rfl (.inr ⟨rfl, rfl, rfl⟩) g_ va_ (isSib_c hs) ?_); rintro _ _ ⟨rfl, rfl⟩
  iterate 2 (refine aL_S rfl rfl v_ ?_)
  refine aL_GF rfl rfl v_ rfl vg_ ?_
  refine aL_GF rfl rfl v_ rfl vg_ ?_
  refine aL_GF rfl rfl v_ rfl vg_ ?_
  refine aL_GFX rfl rfl v_ rfl (fun hb => AOp_useV (by rfl) (by rfl) (.inr ⟨by rfl, by rfl, by rfl⟩) g_ cg_ (has_c hA (by omega))) ?_
  (refine aL_S rfl rfl v_ ?_)
  refine aL_nil ?_
  refine awp_cond v_ (fun hc1 => ?_) (fun hc1 => ?_)
  · replace hc1 := nm_ hc1
    refine awp_seq ?_
    refine awp_region (by kernel_rfl) ?_
    (refine aL_S rfl rfl v_ ?_)
    refine aL_store rfl rfl rfl v_ v_ h_ g_ rfl g_ c_ (by rfl) le_ v_ ?_
    (refine aL_S rfl rfl v_ ?_)
    refine aL_nil ?_
    refine awp_ret ?_
    rw [show newS c s = (⟨[], []⟩, 1) from by
      rw [newS, if_neg]
      rintro ⟨h1, h2⟩
      rcases hc1 with h | h
      · rw [h1] at h; cases h
      · rw [h2] at h; cases h]
    exact aEnd_retW (v := .tup [sObj ⟨[], []⟩, vInt 1]) (v' := .tup [.agg [vNil, vNil], vInt 1]) va_ (.tup _ _ rfl (fun i hi hi' => by match i, hi with | 0, _ => exact .agg _ _ rfl (fun j hj hj' => by match j, hj with | 0, _ => exact .nil _ _ | 1, _ => exact .nil _ _) | 1, _ => exact .refl _)) sub_ ⟨rfl, rfl⟩
  · replace hc1 := nm_ hc1
    have hnew : newS c s = if (addS c s.node s.n).2 = 0 then (obj1 (addS c s.node s.n).1 s, 0) else (⟨[], []⟩, (addS c s.node s.n).2) := by rw [newS, if_pos hc1]
    refine awp_skip ?_
    refine awp_seq ?_
    refine awp_region (by kernel_rfl) ?_
    iterate 3 (refine aL_S rfl rfl v_ ?_)
    refine aL_X rfl rfl (AOp_use rfl rfl (.inr ⟨rfl, rfl, rfl⟩) g_ va_ (add_c hA hn hnd) ?_); rintro _ _ ⟨rfl, rfl⟩
    iterate 5 (refine aL_S rfl rfl v_ ?_)
    refine aL_nil ?_
    refine awp_seq ?_
    refine awp_seq ?_
    refine awp_region (by kernel_rfl) ?_
    iterate 2 (refine aL_S rfl rfl v_ ?_)
    refine aL_nil ?_
    refine awp_cond v_ (fun hc4 => ?_) (fun hc4 => ?_)
    · replace hc4 := nm_ hc4
      refine awp_seq ?_
      refine awp_region (by kernel_rfl) ?_
      iterate 2 (refine aL_S rfl rfl v_ ?_)
      refine aL_store rfl rfl rfl v_ v_ h_ g_ rfl g_ c_ (by rfl) le_ v_ ?_
      (refine aL_S rfl rfl v_ ?_)
      refine aL_nil ?_
      refine awp_ret ?_
      rw [hnew, if_neg hc4]
      exact aEnd_retW (v := .tup [sObj ⟨[], []⟩, vInt (addS c s.node s.n).2]) (v' := .tup [.agg [vNil, vNil], vInt (addS c s.node s.n).2]) va_ (.tup _ _ rfl (fun i hi hi' => by match i, hi with | 0, _ => exact .agg _ _ rfl (fun j hj hj' => by match j, hj with | 0, _ => exact .nil _ _ | 1, _ => exact .nil _ _) | 1, _ => exact .refl _)) sub_ ⟨rfl, rfl⟩
    · replace hc4 := nm_ hc4
      refine awp_skip ?_
      refine awp_seq ?_
      refine awp_region (by kernel_rfl) ?_
      iterate 2 (refine aL_S rfl rfl v_ ?_)
      refine aL_buildSlice rfl rfl rfl g_ g_ rfl rfl h_ c2_ (by decide) ?_
      (refine aL_S rfl rfl v_ ?_)
      refine aL_store rfl rfl rfl v_ v_ h_ g_ rfl g_ c_ (by rfl) le_ v_ ?_
      (refine aL_S rfl rfl v_ ?_)
      refine aL_nil ?_
      refine awp_ret ?_
      rw [hnew, if_pos hc4]
      exact aEnd_retW (v := .tup [.agg [.sl 3 ((addS c s.node s.n).1.map sSeen) false, .sl 5 [sSib s] false], vInt 0]) (v' := .tup [.agg [.sl 3 ((addS c s.node s.n).1.map sSeen) false, .sl 5 [sSib s] true], vInt 0]) va_ (.tup _ _ rfl (fun i hi hi' => by match i, hi with | 0, _ => exact .agg _ _ rfl (fun j hj hj' => by match j, hj with | 0, _ => exact .refl _ | 1, _ => exact .sl1 _ _ _) | 1, _ => exact .refl _)) sub_ ⟨rfl, rfl⟩
theorem rNew_c {c : List Seen} {s : Sib} {t : Bool} {σ : Store} (hA : ∀ x ∈ c, SeenSm x) (hn : c.length ≤ 100000) (hs : SibSm s) : ACalls Tryz.prog 52 [.sl 3 (c.map sSeen) t, sSib s] σ fun v σ' => v = .tup [sObj (newS c s).1, vInt (newS c s).2] ∧ σ = σ' := by
  have hnd := hs.node
  refine ACalls_of Tryz.func52 rfl Tryz.ntmps52 (congrArg Array.toList Tryz.results52) (by simp only [List.length_cons, List.length_nil]; decide) ?_; simp only [envOf_cons, envOf_nil, Nat.reduceAdd]
  refine awp_seq ?_
  refine awp_region (by kernel_rfl) ?_
  refine aL_box rfl rfl rfl v_ rfl g_ fun o3 ho3 => ?_
  repeat (rw [none_set_iff] at ho3; obtain ⟨_, ho3⟩ := ho3)
  refine aL_alloc rfl rfl rfl g_ gl_ fun o4 ho4 => ?_
  repeat (rw [none_set_iff] at ho4; obtain ⟨_, ho4⟩ := ho4)
  (refine aL_S rfl rfl v_ ?_)
  refine aL_nil ?_
  refine awp_seq ?_
  refine awp_seq ?_
  refine awp_region (by kernel_rfl) ?_
  (refine aL_S rfl rfl v_ ?_)
  refine aL_X rfl rfl (AOp_use rfl rfl (.inr ⟨rfl, rfl, rfl⟩) g_ va_ (rMay06_c hA (by omega)) ?_); rintro _ _ ⟨rfl, rfl⟩
  iterate 2 (refine aL_S rfl rfl v_ ?_)
  refine aL_GF rfl rfl v_ rfl vg_ ?_
  refine aL_GFX rfl rfl v_ rfl (fun hb => AOp_useV (by rfl) (by rfl) (.inr ⟨by rfl, by rfl, by rfl⟩) g_ cg_ (rIsSib_c hs)) ?_
  refine aL_GF rfl rfl v_ rfl vg_ ?_
  iterate 2 (refine aL_S rfl rfl v_ ?_)
  refine aL_GF rfl rfl v_ rfl vg_ ?_
  refine aL_GF rfl rfl v_ rfl vg_ ?_
  refine aL_GF rfl rfl v_ rfl vg_ ?_
  refine aL_GFX rfl rfl v_ rfl (fun hb => AOp_useV (by rfl) (by rfl) (.inr ⟨by rfl, by rfl, by rfl⟩) g_ cg_ (rHas_c hA (by omega))) ?_
  (refine aL_S rfl rfl v_ ?_)
  refine aL_nil ?_
  refine awp_cond v_ (fun hc1 => ?_) (fun hc1 => ?_)
  · replace hc1 := nm_ hc1
    refine awp_seq ?_
    refine awp_region (by kernel_rfl) ?_
    (refine aL_S rfl rfl v_ ?_)
    refine aL_store rfl rfl rfl v_ v_ h_ g_ rfl g_ c_ (by rfl) le_ v_ ?_
    (refine aL_S rfl rfl v_ ?_)
    refine aL_nil ?_
    refine awp_ret ?_
    rw [show newS c s = (⟨[], []⟩, 1) from by
      unfold newS
      by_cases h : sibOk s = true ∧ hasS c s.node s.n = false
      · rw [if_pos h]
        have hk : ctxOk c = false := by
          rcases hc1 with (h' | h') | h'
          · exact h'
          · rw [h.1] at h'; cases h'
          · rw [h.2] at h'; cases h'
        have : (addS c s.node s.n).2 = 1 := by
          unfold addS
          split
          · simp [joinS, hk]
          · rfl
        rw [if_neg (by rw [this]; decide), this]
      · rw [if_neg h]]
    exact aEnd_retW (v := .tup [sObj ⟨[], []⟩, vInt 1]) (v' := .tup [.agg [vNil, vNil], vInt 1]) va_ (.tup _ _ rfl (fun i hi hi' => by match i, hi with | 0, _ => exact .agg _ _ rfl (fun j hj hj' => by match j, hj with | 0, _ => exact .nil _ _ | 1, _ => exact .nil _ _) | 1, _ => exact .refl _)) sub_ ⟨rfl, rfl⟩
  · replace hc1 := nm_ hc1
    have hnew : newS c s = if (addS c s.node s.n).2 = 0 then (obj1 (addS c s.node s.n).1 s, 0) else (⟨[], []⟩, (addS c s.node s.n).2) := by rw [newS, if_pos ⟨hc1.1.2, hc1.2⟩]
    refine awp_skip ?_
    refine awp_seq ?_
    refine awp_region (by kernel_rfl) ?_
    iterate 3 (refine aL_S rfl rfl v_ ?_)
    refine aL_X rfl rfl (AOp_use rfl rfl (.inr ⟨rfl, rfl, rfl⟩) g_ va_ (rAdd_c hA hn hnd) ?_); rintro _ _ ⟨rfl, rfl⟩
    iterate 5 (refine aL_S rfl rfl v_ ?_)
    refine aL_nil ?_
    refine awp_seq ?_
    refine awp_seq ?_
    refine awp_region (by kernel_rfl) ?_
    iterate 2 (refine aL_S rfl rfl v_ ?_)
    refine aL_nil ?_
    refine awp_cond v_ (fun hc4 => ?_) (fun hc4 => ?_)
    · replace hc4 := nm_ hc4
      refine awp_seq ?_
      refine awp_region (by kernel_rfl) ?_
      iterate 2 (refine aL_S rfl rfl v_ ?_)
      refine aL_store rfl rfl rfl v_ v_ h_ g_ rfl g_ c_ (by rfl) le_ v_ ?_
      (refine aL_S rfl rfl v_ ?_)
      refine aL_nil ?_
      refine awp_ret ?_
      rw [hnew, if_neg hc4]
      exact aEnd_retW (v := .tup [sObj ⟨[], []⟩, vInt (addS c s.node s.n).2]) (v' := .tup [.agg [vNil, vNil], vInt (addS c s.node s.n).2]) va_ (.tup _ _ rfl (fun i hi hi' => by match i, hi with | 0, _ => exact .agg _ _ rfl (fun j hj hj' => by match j, hj with | 0, _ => exact .nil _ _ | 1, _ => exact .nil _ _) | 1, _ => exact .refl _)) sub_ ⟨rfl, rfl⟩
    · replace hc4 := nm_ hc4
      refine awp_skip ?_
      refine awp_seq ?_
      refine awp_region (by kernel_rfl) ?_
      iterate 2 (refine aL_S rfl rfl v_ ?_)
      refine aL_buildSlice rfl rfl rfl g_ g_ rfl rfl h_ c2_ (by decide) ?_
      (refine aL_S rfl rfl v_ ?_)
      refine aL_store rfl rfl rfl v_ v_ h_ g_ rfl g_ c_ (by rfl) le_ v_ ?_
      (refine aL_S rfl rfl v_ ?_)
      refine aL_nil ?_
      refine awp_ret ?_
      rw [hnew, if_pos hc4]
      exact aEnd_retW (v := .tup [.agg [.sl 3 ((addS c s.node s.n).1.map sSeen) false, .sl 5 [sSib s] false], vInt 0]) (v' := .tup [.agg [.sl 3 ((addS c s.node s.n).1.map sSeen) false, .sl 5 [sSib s] true], vInt 0]) va_ (.tup _ _ rfl (fun i hi hi' => by match i, hi with | 0, _ => exact .agg _ _ rfl (fun j hj hj' => by match j, hj with | 0, _ => exact .refl _ | 1, _ => exact .sl1 _ _ _) | 1, _ => exact .refl _)) sub_ ⟨rfl, rfl⟩
end Go.Proofs.YtgpibooklhakgaaGreat
end

section
set_option linter.all false
set_option maxRecDepth 100000
namespace Go.Ab
open Go.RowKit (Below)
section
variable {P : Program} {o : Oper} {α : Operand → AVal} {σ : Store} {Kk : AVal → Store → Prop}
theorem sl0_val {κ : K} {sz : Nat} {tight : Bool} {v : Value} (h : Rv κ (.sl sz [] tight) v) : ∃ a cap, v = .slice a 0 cap ∧ Rv κ (.sl sz [] false) v := by
  generalize hl : ([] : List AVal) = l at h
  cases h with
  | slNil => exact ⟨_, _, rfl, .slNil _ _⟩
  | slE => exact ⟨_, _, rfl, .slE _ _ _⟩
  | sl _ _ _ b off cap vals hcap ht hsz hc hv => subst hl; exact ⟨_, _, rfl, .sl sz [] false b off cap vals hcap (by simp) hsz hc hv⟩
/-- an empty slice held against nil: either way -/
theorem AOp_eqNil0 {t yt : TypeId} {x y : Operand} {sz e : Nat} {tight : Bool} (ho : o.op = .binOp .eql t x y yt) (hse : sliceElem P t = some e) (hx : α x = .sl sz [] tight) (hy : α y = .lit (.slice none 0 0)) (hk : ∀ b, Kk (.lit (.bool b)) σ) : AOp P o α σ Kk := by
  obtain ⟨dst, op, ty, pos, after, guard⟩ := o
  obtain rfl : op = _ := ho
  intro κ ev hI hxx
  have hvx := hxx x (by simp [Op.operands])
  have hvy := hxx y (by simp [Op.operands])
  rw [hx] at hvx
  rw [hy] at hvy
  have hts : P.underlying t = some (.slice e) := by
    unfold sliceElem at hse
    split at hse
    · rename_i e' he'; obtain rfl := Option.some.inj hse; exact he'
    · cases hse
  obtain ⟨a, cap, hev, _⟩ := sl0_val hvx
  have hb : (binOp .eql t (ev x) (ev y)).run P κ.w = .ok (.bool a.isNone) κ.w := by
    have e1 : binOp .eql t (ev x) (ev y) = (do pure (.bool (← Op.equal t (ev x) (ev y)))) := by
      rw [hev, hvy.litInv]
      rfl
    rw [e1, hev, hvy.litInv]
    simp only [Sem.run_bind, run_equal_slice_nil κ.w t e a 0 cap hts, Result.andThen_ok, Sem.run_pure]
  have hg : (eqGuard .eql t x y (ev x) (ev y)).run P κ.w = .ok () κ.w := run_eqGuard_other (by rintro u v ⟨h1, _⟩; rw [hev] at h1; cases h1) (by intro h1; rw [hev] at h1; cases h1)
  refine upon_v (s := do eqGuard .eql t x y (ev x) (ev y); binOp .eql t (ev x) (ev y)) (by simp [execOp]) ⟨.bool a.isNone, κ.w, ?_, κ, .lit (.bool a.isNone), σ, rfl, .refl κ, hI, .lit _, hk _⟩
  simp only [Sem.run_bind, hg, Result.andThen_ok, hb]
/-- nothing, appended to nothing -/
theorem AOp_append00 {s x : Operand} {t e : TypeId} {sz by_ : Nat} {t1 t2 : Bool}
    (ho : o.op = .call { callee := .builtin .append, args := #[s, x], argTypes := #[t, t] }) (hse : sliceElem P t = some e) (hte : appInfo P e = some (sz, by_))
    (hs : α s = .sl sz [] t1) (hx : α x = .sl sz [] t2) (hk : Kk (.sl sz [] false) σ) : AOp P o α σ Kk := by
  obtain ⟨dst, op, ty, pos, after, guard⟩ := o
  obtain rfl : op = .call { callee := .builtin .append, args := #[s, x], argTypes := #[t, t] } := ho
  intro κ ev hI hxx
  obtain ⟨i, z, hi, hz, hisz, hiby, hzs, hsz, hby⟩ := appInfo_spec hte
  have hts : P.underlying t = some (.slice e) := by
    unfold sliceElem at hse
    split at hse
    · rename_i e' he'; obtain rfl := Option.some.inj hse; exact he'
    · cases hse
  have hvs := hxx s (by simp [Op.operands, Call.operands])
  have hvx := hxx x (by simp [Op.operands, Call.operands])
  have hsrc0 : ASrc P sz t (α x) [] := ASrc_sl hts (by rw [hx]; rfl) (by simp)
  obtain ⟨vs, _, hvsr, hsrc⟩ := hsrc0.spec hvx
  have hv0 : vs = [] := List.eq_nil_of_length_eq_zero (by rw [← hvsr.1]; rfl)
  subst hv0
  rw [hs] at hvs
  obtain ⟨a, cap, hev, hw⟩ := sl0_val hvs
  refine upon_v (s := Builtin.append_ #[t, t] ty #[ev s, ev x]) (by simp [execOp, resolve, invoke, builtin]) ⟨ev s, κ.w, ?_, κ, .sl sz [] false, σ, rfl, .refl κ, hI, hw, hk⟩
  rw [hev]
  exact run_append_zero hts hi hisz hsrc a 0 cap (Nat.zero_le _)
end
end Go.Ab
namespace Go.Proofs.YtgpibooklhakgaaGreat
open Go.Ab

abbrev fGone : AVal := .lit (.func (.func 125) #[] #[])
theorem reap1_c {x : Sib} {σ : Store} : ACalls Tryz.prog 125 [sSib x] σ fun v σ' => v = vB x.gone ∧ σ = σ' := by
  refine ACalls_of Tryz.func125 rfl Tryz.ntmps125 (congrArg Array.toList Tryz.results125) (by simp only [List.length_cons, List.length_nil]; decide) ?_; simp only [envOf_cons, envOf_nil, Nat.reduceAdd]
  refine awp_seq ?_
  refine awp_region (by kernel_rfl) ?_
  refine aL_box rfl rfl rfl v_ rfl g_ fun o1 ho1 => ?_
  repeat (rw [none_set_iff] at ho1; obtain ⟨_, ho1⟩ := ho1)
  (refine aL_S rfl rfl v_ ?_)
  refine aL_nil ?_
  refine awp_seq ?_
  refine awp_region (by kernel_rfl) ?_
  iterate 3 (refine aL_S rfl rfl v_ ?_)
  refine aL_nil ?_
  refine awp_ret ?_
  refine aEnd_ret (σ' := σ) v_ sub_ ?_
  exact ⟨rfl, rfl⟩
def CBq (σ0 σ : Store) (L : List Sib) (v : AVal) : Prop := (L = [] ∧ v = .sl 5 [] false ∧ σ = σ0) ∨ ∃ o, σ0.heap o = none ∧ v = .msl o 5 0 L.length ∧ σ = σ0.set o (.cells (flat (L.map sSib)))
theorem clone0_c {t : Bool} {σ : Store} : ACalls Tryz.prog 124 [.sl 5 [] t] σ fun v σ' => v = .sl 5 [] false ∧ σ = σ' := by
  refine ACalls_of Tryz.func124 rfl Tryz.ntmps124 (congrArg Array.toList Tryz.results124) (by simp only [List.length_cons, List.length_nil]; decide) ?_; simp only [envOf_cons, envOf_nil, Nat.reduceAdd]
  refine awp_seq ?_
  refine awp_region (by kernel_rfl) ?_
  (refine aL_S rfl rfl v_ ?_)
  refine aL_nil ?_
  refine awp_seq ?_
  refine awp_seq ?_
  refine awp_region (by kernel_rfl) ?_
  (refine aL_S rfl rfl v_ ?_)
  refine aL_X rfl rfl (AOp_eqNil0 rfl g_ va_ va_ fun b => ?_)
  refine aL_nil ?_
  refine awp_cond v_ (fun hc1 => ?_) (fun hc1 => ?_)
  · replace hc1 := nm_ hc1
    refine awp_seq ?_
    refine awp_region (by kernel_rfl) ?_
    (refine aL_S rfl rfl v_ ?_)
    refine aL_nil ?_
    refine awp_ret ?_
    exact aEnd_retW (v := .sl 5 [] false) (v' := vNil) va_ (.nil _ _) sub_ ⟨rfl, rfl⟩
  · replace hc1 := nm_ hc1
    refine awp_skip ?_
    refine awp_seq ?_
    refine awp_region (by kernel_rfl) ?_
    refine aL_buildSlice rfl rfl rfl g_ g_ rfl rfl h_ c2_ (by decide) ?_
    (refine aL_S rfl rfl v_ ?_)
    refine aL_X rfl rfl (AOp_append00 rfl g_ g_ va_ va_ ?_)
    (refine aL_S rfl rfl v_ ?_)
    refine aL_nil ?_
    refine awp_ret ?_
    refine aEnd_ret (σ' := σ) v_ sub_ ?_
    exact ⟨rfl, rfl⟩
theorem clone1_c {L : List Sib} {t : Bool} {σ : Store} (h0 : L ≠ []) (hl : L.length ≤ 1000000) : ACalls Tryz.prog 124 [.sl 5 (L.map sSib) t] σ fun v σ' => ∃ o, σ.heap o = none ∧ v = .msl o 5 0 L.length ∧ σ' = σ.set o (.cells (flat (L.map sSib))) := by
  have hne : L.map sSib ≠ [] := by simpa using h0
  refine ACalls_of Tryz.func124 rfl Tryz.ntmps124 (congrArg Array.toList Tryz.results124) (by simp only [List.length_cons, List.length_nil]; decide) ?_; simp only [envOf_cons, envOf_nil, Nat.reduceAdd]
  refine awp_seq ?_
  refine awp_region (by kernel_rfl) ?_
  (refine aL_S rfl rfl v_ ?_)
  refine aL_nil ?_
  refine awp_seq ?_
  refine awp_seq ?_
  refine awp_region (by kernel_rfl) ?_
  (refine aL_S rfl rfl v_ ?_)
  refine aL_X rfl rfl (AOp_eqNil rfl g_ v_ (by exact hne) va_ ?_)
  refine aL_nil ?_
  refine awp_cond v_ (fun hc1 => ?_) (fun hc1 => ?_)
  · replace hc1 := nm_ hc1
    cases hc1
  · replace hc1 := nm_ hc1
    refine awp_skip ?_
    refine awp_seq ?_
    refine awp_region (by kernel_rfl) ?_
    refine aL_buildSlice rfl rfl rfl g_ g_ rfl rfl h_ c2_ (by decide) ?_
    (refine aL_S rfl rfl v_ ?_)
    refine aL_X rfl rfl (AOp_copyM rfl g_ g_ va_ v_ (by exact hne) (by simp; omega) fun o7 ho7 => ?_)
    (refine aL_S rfl rfl v_ ?_)
    refine aL_nil ?_
    refine awp_ret ?_
    refine aEnd_ret v_ (Store.Wk.refl _) ?_
    exact ⟨o7, ho7, by simp, rfl⟩
theorem cloneC {L : List Sib} {t : Bool} {σ : Store} (hl : L.length ≤ 1000000) : ACalls Tryz.prog 124 [.sl 5 (L.map sSib) t] σ fun v σ' => CBq σ σ' L v := by
  by_cases h : L = []
  · subst h
    exact clone0_c.wkS fun v σ' ⟨hv, hs⟩ => ⟨v, σ', .refl _, .refl _, .inl ⟨rfl, hv, hs.symm⟩⟩
  · exact (clone1_c h hl).wkS fun v σ' ⟨o, h1, h2, h3⟩ => ⟨v, σ', .refl _, .refl _, .inr ⟨o, h1, h2, h3⟩⟩
theorem idx0_c {σ : Store} : ACalls Tryz.prog 185 [.sl 5 [] false, fGone] σ fun v σ' => v = vInt (-1) ∧ σ = σ' := by
  refine ACalls_of Tryz.func185 rfl Tryz.ntmps185 (congrArg Array.toList Tryz.results185) (by simp only [List.length_cons, List.length_nil]; decide) ?_; simp only [envOf_cons, envOf_nil, Nat.reduceAdd]
  refine awp_seq ?_
  refine awp_region (by kernel_rfl) ?_
  (refine aL_S rfl rfl v_ ?_)
  refine aL_nil ?_
  refine awp_seq ?_
  refine awp_seq ?_
  refine awp_region (by kernel_rfl) ?_
  iterate 3 (refine aL_S rfl rfl v_ ?_)
  refine aL_nil ?_
  refine awp_block ?_
  refine awp_loop_env (ι := Nat) (fun k => 0) (fun k => k = 0) (fun k => [(0, .sl 5 [] false), (1, fGone), (7, vInt 0), (8, vInt k)]) (fun k => σ) 0 ?_ ?_ ?_ ?_
  · rfl
  · exact cv_
  · exact sub_
  rintro k hk
  simp only [envL_cons, envL_nil]
  refine awp_seq ?_
  refine awp_region (by kernel_rfl) ?_
  (refine aL_S rfl rfl v_ ?_)
  refine aL_nil ?_
  refine awp_seq ?_
  refine awp_cond v_ (fun hc2 => ?_) (fun hc2 => ?_)
  · replace hc2 := nm_ hc2
    omega
  · replace hc2 := nm_ hc2
    refine awp_exit ?_
    refine aThen_exit ?_
    refine aThen_exit ?_
    refine aBlock_hit ?_
    refine awp_seq ?_
    refine awp_region (by kernel_rfl) ?_
    (refine aL_S rfl rfl v_ ?_)
    refine aL_nil ?_
    refine awp_ret ?_
    refine aEnd_ret (σ' := σ) v_ sub_ ?_
    exact ⟨rfl, rfl⟩
def live (x : Sib) : Bool := !x.gone
theorem idxM_c {o : Nat} {L : List Sib} {σ : Store} (ho : σ.heap o = some (.cells (flat (L.map sSib)))) (hl : L.length ≤ 1000000) : ACalls Tryz.prog 185 [.msl o 5 0 L.length, fGone] σ fun v σ' => (∃ r : Int, v = vInt r ∧ (r = -1 → L.filter live = L) ∧ (r ≠ -1 → ∃ j : Nat, r = j ∧ j < L.length ∧ (L.take (j + 1)).filter live = L.take j)) ∧ σ = σ' := by
  have hfl := flat_sib_len L
  refine ACalls_of Tryz.func185 rfl Tryz.ntmps185 (congrArg Array.toList Tryz.results185) (by simp only [List.length_cons, List.length_nil]; decide) ?_; simp only [envOf_cons, envOf_nil, Nat.reduceAdd]
  refine awp_seq ?_
  refine awp_region (by kernel_rfl) ?_
  (refine aL_S rfl rfl v_ ?_)
  refine aL_nil ?_
  refine awp_seq ?_
  refine awp_seq ?_
  refine awp_region (by kernel_rfl) ?_
  iterate 3 (refine aL_S rfl rfl v_ ?_)
  refine aL_nil ?_
  refine awp_block ?_
  refine awp_loop_env (ι := Nat) (fun k => L.length - k) (fun k => k ≤ L.length ∧ (L.take k).filter live = L.take k) (fun k => [(0, .msl o 5 0 L.length), (1, fGone), (7, vInt L.length), (8, vInt k)]) (fun k => σ) 0 ?_ ?_ ?_ ?_
  · exact ⟨Nat.zero_le _, rfl⟩
  · exact cv_
  · exact sub_
  rintro k ⟨hk, hf⟩
  simp only [envL_cons, envL_nil]
  refine awp_seq ?_
  refine awp_region (by kernel_rfl) ?_
  (refine aL_S rfl rfl v_ ?_)
  refine aL_nil ?_
  refine awp_seq ?_
  refine awp_cond v_ (fun hc2 => ?_) (fun hc2 => ?_)
  · replace hc2 := nm_ hc2
    refine awp_skip ?_
    refine awp_seq ?_
    refine awp_block ?_
    refine awp_seq ?_
    refine awp_region (by kernel_rfl) ?_
    iterate 2 (refine aL_S rfl rfl v_ ?_)
    refine aL_nil ?_
    refine awp_seq ?_
    obtain ⟨x, hx⟩ := get_some (l := L) (k := k) (by omega)
    have px := flat_part hx
    have R := And.intro px (And.intro ho hfl)
    refine awp_region (by kernel_rfl) ?_
    iterate 5 (refine aL_S rfl rfl v_ ?_)
    refine aL_X rfl rfl (AOp_use rfl rfl (.inr ⟨va_, rfl, rfl⟩) g_ va_ (reap1_c) ?_); rintro _ _ ⟨rfl, rfl⟩
    refine aL_nil ?_
    refine awp_cond v_ (fun hc4 => ?_) (fun hc4 => ?_)
    · replace hc4 := nm_ hc4
      refine awp_seq ?_
      refine awp_region (by kernel_rfl) ?_
      iterate 2 (refine aL_S rfl rfl v_ ?_)
      refine aL_nil ?_
      refine awp_ret ?_
      refine aEnd_ret (σ' := σ) v_ sub_ ?_
      exact ⟨⟨k, rfl, fun h => by omega, fun _ => ⟨k, rfl, by omega, by rw [take_snoc hx, List.filter_append, hf]; simp [live, hc4]⟩⟩, rfl⟩
    · replace hc4 := nm_ hc4
      refine awp_skip ?_
      refine awp_region (by kernel_rfl) ?_
      iterate 2 (refine aL_S rfl rfl v_ ?_)
      refine aL_nil ?_
      refine aNext (ι := Nat) (i := k) (k + 1) ?_ ?_ ?_ ?_
      · omega
      · exact ⟨by omega, by rw [take_snoc hx, List.filter_append, hf]; simp [live, hc4]⟩
      · exact cv_
      · exact sub_
  · replace hc2 := nm_ hc2
    refine awp_exit ?_
    refine aThen_exit ?_
    refine aThen_exit ?_
    refine aBlock_hit ?_
    refine awp_seq ?_
    refine awp_region (by kernel_rfl) ?_
    (refine aL_S rfl rfl v_ ?_)
    refine aL_nil ?_
    refine awp_ret ?_
    refine aEnd_ret (σ' := σ) v_ sub_ ?_
    exact ⟨⟨-1, rfl, fun _ => by rwa [List.take_of_length_le (by omega)] at hf, fun h => absurd rfl h⟩, rfl⟩
structure DlI (L : List Sib) (j i : Nat) (M : List Sib) : Prop where
  len : M.length = L.length
  tk : M.take i = (L.take j).filter live
  cnt : ((L.take j).filter live).length = i
  lt : i < j
  le : j ≤ L.length
  dr : M.drop j = L.drop j
theorem DlI.put {L : List Sib} {j i : Nat} {M : List Sib} {x : Sib} (h : DlI L j i M) (hx : L[j]? = some x) (hg : x.gone = false) : DlI L (j + 1) (i + 1) (M.set i x) := by
  have h1 := (List.getElem?_eq_some_iff.1 hx).1
  have hk := h.lt
  have hl := h.len
  have hf : (L.take (j + 1)).filter live = (L.take j).filter live ++ [x] := by rw [take_snoc hx, List.filter_append]; simp [live, hg]
  refine ⟨by rw [List.length_set]; exact hl, ?_, by rw [hf, List.length_append, h.cnt]; rfl, by omega, by omega, ?_⟩
  · rw [hf, ← h.tk, take_snoc (show (M.set i x)[i]? = some x by rw [List.getElem?_set_self]; omega), List.take_set_of_le (Nat.le_refl _)]
  · rw [List.drop_set_of_lt (by omega)]
    have := congrArg (List.drop 1) h.dr
    rwa [List.drop_drop, List.drop_drop] at this
theorem DlI.skip {L : List Sib} {j i : Nat} {M : List Sib} {x : Sib} (h : DlI L j i M) (hx : L[j]? = some x) (hg : x.gone = true) : DlI L (j + 1) i M := by
  have h1 := (List.getElem?_eq_some_iff.1 hx).1
  have hk := h.lt
  have hf : (L.take (j + 1)).filter live = (L.take j).filter live := by rw [take_snoc hx, List.filter_append]; simp [live, hg]
  refine ⟨h.len, by rw [hf]; exact h.tk, by rw [hf]; exact h.cnt, by omega, by omega, ?_⟩
  have := congrArg (List.drop 1) h.dr
  rwa [List.drop_drop, List.drop_drop] at this
theorem delete0_c {σ : Store} : ACalls Tryz.prog 123 [.sl 5 [] false, fGone] σ fun v σ' => v = .sl 5 [] false ∧ σ = σ' := by
  refine ACalls_of Tryz.func123 rfl Tryz.ntmps123 (congrArg Array.toList Tryz.results123) (by simp only [List.length_cons, List.length_nil]; decide) ?_; simp only [envOf_cons, envOf_nil, Nat.reduceAdd]
  refine awp_seq ?_
  refine awp_region (by kernel_rfl) ?_
  (refine aL_S rfl rfl v_ ?_)
  refine aL_nil ?_
  refine awp_seq ?_
  refine awp_region (by kernel_rfl) ?_
  iterate 2 (refine aL_S rfl rfl v_ ?_)
  refine aL_X rfl rfl (AOp_use rfl rfl (.inr ⟨rfl, rfl, rfl⟩) g_ va_ (idx0_c) ?_); rintro _ _ ⟨rfl, rfl⟩
  (refine aL_S rfl rfl v_ ?_)
  refine aL_nil ?_
  refine awp_seq ?_
  refine awp_seq ?_
  refine awp_region (by kernel_rfl) ?_
  iterate 2 (refine aL_S rfl rfl v_ ?_)
  refine aL_nil ?_
  refine awp_cond v_ (fun hc2 => ?_) (fun hc2 => ?_)
  · replace hc2 := nm_ hc2
    refine awp_seq ?_
    refine awp_region (by kernel_rfl) ?_
    iterate 2 (refine aL_S rfl rfl v_ ?_)
    refine aL_nil ?_
    refine awp_ret ?_
    refine aEnd_ret (σ' := σ) v_ sub_ ?_
    exact ⟨rfl, rfl⟩
  · replace hc2 := nm_ hc2
    first | omega | (simp at hc2; done) | cases hc2
set_option maxHeartbeats 2000000 in
theorem deleteM_c {o : Nat} {L : List Sib} {σ : Store} (ho : σ.heap o = some (.cells (flat (L.map sSib)))) (hl : L.length ≤ 1000000) :
    ACalls Tryz.prog 123 [.msl o 5 0 L.length, fGone] σ fun v σ' => ∃ zs : List AVal, v = .msl o 5 0 (L.filter live).length ∧ σ' = σ.set o (.cells (flat ((L.filter live).map sSib) ++ zs)) := by
  have hfl := flat_sib_len L
  refine ACalls_of Tryz.func123 rfl Tryz.ntmps123 (congrArg Array.toList Tryz.results123) (by simp only [List.length_cons, List.length_nil]; decide) ?_; simp only [envOf_cons, envOf_nil, Nat.reduceAdd]
  refine awp_seq ?_
  refine awp_region (by kernel_rfl) ?_
  (refine aL_S rfl rfl v_ ?_)
  refine aL_nil ?_
  refine awp_seq ?_
  refine awp_region (by kernel_rfl) ?_
  iterate 2 (refine aL_S rfl rfl v_ ?_)
  refine aL_X rfl rfl (AOp_use rfl rfl (.inr ⟨rfl, rfl, rfl⟩) g_ va_ (idxM_c ho hl) ?_); rintro _ _ ⟨⟨r, rfl, h1, h2⟩, rfl⟩
  (refine aL_S rfl rfl v_ ?_)
  refine aL_nil ?_
  refine awp_seq ?_
  refine awp_seq ?_
  refine awp_region (by kernel_rfl) ?_
  iterate 2 (refine aL_S rfl rfl v_ ?_)
  refine aL_nil ?_
  refine awp_cond v_ (fun hc2 => ?_) (fun hc2 => ?_)
  · replace hc2 := nm_ hc2
    refine awp_seq ?_
    refine awp_region (by kernel_rfl) ?_
    iterate 2 (refine aL_S rfl rfl v_ ?_)
    refine aL_nil ?_
    refine awp_ret ?_
    refine aEnd_ret v_ (Store.Wk.refl _) ?_
    exact ⟨[], by rw [h1 hc2], by rw [h1 hc2, List.append_nil, Store.set_same ho]⟩
  · replace hc2 := nm_ hc2
    obtain ⟨j0, rfl, hj0, hf0⟩ := h2 hc2
    have hI0 : DlI L (j0 + 1) j0 L := ⟨rfl, hf0.symm, by rw [hf0, List.length_take]; omega, by omega, by omega, rfl⟩
    refine awp_skip ?_
    refine awp_seq ?_
    refine awp_seq ?_
    refine awp_region (by kernel_rfl) ?_
    iterate 3 (refine aL_S rfl rfl v_ ?_)
    refine aL_nil ?_
    refine awp_block ?_
    refine awp_loop_env (ι := Nat × Nat × List Sib) (fun ⟨j, i, M⟩ => L.length - j) (fun ⟨j, i, M⟩ => DlI L j i M) (fun ⟨j, i, M⟩ => [(0, .msl o 5 0 L.length), (1, fGone), (5, vInt i), (6, vInt j)]) (fun ⟨j, i, M⟩ => (σ.set o (.cells (flat (M.map sSib))))) (j0 + 1, j0, L) ?_ ?_ ?_ ?_
    · exact hI0
    · exact cv_
    · (try dsimp only); rw [Store.set_same ho]; exact Store.Wk.refl _
    rintro ⟨j, i, M⟩ hI
    simp only [envL_cons, envL_nil]
    refine awp_seq ?_
    refine awp_seq ?_
    refine awp_region (by kernel_rfl) ?_
    iterate 4 (refine aL_S rfl rfl v_ ?_)
    refine aL_nil ?_
    refine awp_cond v_ (fun hc5 => ?_) (fun hc5 => ?_)
    · replace hc5 := nm_ hc5
      refine awp_skip ?_
      refine awp_seq ?_
      refine awp_block ?_
      refine awp_seq ?_
      have hjl : j < L.length := by omega
      obtain ⟨x, hx⟩ := get_some (l := L) (k := j) hjl
      have hMx : M[j]? = some x := by rw [drop_get hI.dr (Nat.le_refl _)]; exact hx
      have px := flat_part hMx
      have hflM := flat_sib_len M
      rw [hI.len] at hflM
      have hil := hI.lt
      have R := And.intro px hflM
      refine awp_region (by kernel_rfl) ?_
      iterate 4 (refine aL_S rfl rfl v_ ?_)
      refine aL_alloc rfl rfl rfl g_ gl_ fun o7 ho7 => ?_
      repeat (rw [none_set_iff] at ho7; obtain ⟨_, ho7⟩ := ho7)
      refine aL_store rfl rfl rfl v_ v_ h_ g_ rfl g_ c_ (by rfl) le_ v_ ?_
      refine aL_nil ?_
      refine awp_seq ?_
      refine awp_region (by kernel_rfl) ?_
      iterate 2 (refine aL_S rfl rfl v_ ?_)
      refine aL_X rfl rfl (AOp_use rfl rfl (.inr ⟨va_, rfl, rfl⟩) g_ va_ (reap1_c) ?_); rintro _ _ ⟨rfl, rfl⟩
      (refine aL_S rfl rfl v_ ?_)
      refine aL_nil ?_
      refine awp_cond v_ (fun hc8 => ?_) (fun hc8 => ?_)
      · replace hc8 := nm_ hc8
        refine awp_seq ?_
        have R := hflM
        refine awp_region (by kernel_rfl) ?_
        iterate 4 (refine aL_S rfl rfl v_ ?_)
        refine aL_store rfl rfl rfl v_ v_ h_ g_ rfl g_ c_ (by rfl) (by rw [hflM]; omega) (aput_flat (by rw [hI.len]; omega)) ?_
        refine aL_nil ?_
        refine awp_region (by kernel_rfl) ?_
        iterate 3 (refine aL_S rfl rfl v_ ?_)
        refine aL_nil ?_
        refine awp_region (by kernel_rfl) ?_
        iterate 3 (refine aL_S rfl rfl v_ ?_)
        refine aL_nil ?_
        refine aNext (ι := Nat × Nat × List Sib) (i := ⟨j, i, M⟩) (j + 1, i + 1, M.set i x) ?_ ?_ ?_ ?_
        · show L.length - (j + 1) < L.length - j; omega
        · exact hI.put hx hc8
        · exact cv_
        · exact sub_
      · replace hc8 := nm_ hc8
        refine awp_skip ?_
        refine awp_region (by kernel_rfl) ?_
        iterate 3 (refine aL_S rfl rfl v_ ?_)
        refine aL_nil ?_
        refine aNext (ι := Nat × Nat × List Sib) (i := ⟨j, i, M⟩) (j + 1, i, M) ?_ ?_ ?_ ?_
        · show L.length - (j + 1) < L.length - j; omega
        · exact hI.skip hx hc8
        · exact cv_
        · exact sub_
    · replace hc5 := nm_ hc5
      refine awp_exit ?_
      refine aThen_exit ?_
      refine aThen_exit ?_
      refine aBlock_hit ?_
      refine awp_seq ?_
      have hil := hI.lt
      have hle := hI.le
      have hflM := flat_sib_len M
      rw [hI.len] at hflM
      have hcnt := hI.cnt
      have htk := hI.tk
      rw [show j = L.length by omega, List.take_length] at hcnt htk
      refine awp_region (by kernel_rfl) ?_
      iterate 3 (refine aL_S rfl rfl v_ ?_)
      refine aL_X0 rfl rfl (AOp_clear (sz := 5) rfl g_ g_ (by rfl) (by decide) va_ h_ (by rw [hflM]; omega) fun zs hz => ?_)
      refine aL_nil ?_
      refine awp_seq ?_
      refine awp_region (by kernel_rfl) ?_
      iterate 4 (refine aL_S rfl rfl v_ ?_)
      refine aL_nil ?_
      refine awp_ret ?_
      refine aEnd_ret v_ (Store.Wk.refl _) ?_
      exact ⟨zs ++ (flat (M.map sSib)).drop (i * 5 + zs.length), by rw [hcnt]; rfl, by rw [Store.set_set, take_flat, htk]⟩
theorem deleteC {σ0 σ : Store} {L : List Sib} {a : AVal} (h : CBq σ0 σ L a) (hl : L.length ≤ 1000000) :
    ACalls Tryz.prog 123 [a, fGone] σ fun v σ' => v = .sl 5 ((L.filter live).map sSib) false ∧ σ0 = σ' := by
  rcases h with ⟨rfl, rfl, rfl⟩ | ⟨o, ho, rfl, rfl⟩
  · exact delete0_c
  · refine (deleteM_c (Store.set_get ..) hl).after ?_
    rintro κ _ _ cv hI hr ⟨zs, rfl, rfl⟩
    obtain ⟨κ', h1, h2, h3, h4⟩ := Ab.freeze hI hr (Store.set_get ..) (l := (L.filter live).map sSib) (by rw [List.take_left' (by rw [flat_sib_len])]) (by simp) (szSib _)
    rw [Store.set_set, Store.set_del ho] at h3
    exact ⟨κ', _, _, h1, h2, h3, h4, rfl, rfl⟩
def reapS (o : Obj') : Obj' × Int := if objOk o then (⟨o.ctx, o.sibs.filter live⟩, 0) else (⟨[], []⟩, 1)
theorem reap_c {o : Obj'} {σ : Store} (ho : ObjSm o) : ACalls Tryz.prog 49 [sObj o] σ fun v σ' => v = .tup [sObj (reapS o).1, vInt (reapS o).2] ∧ σ = σ' := by
  have hnc := ho.nc; have hns := ho.ns
  refine ACalls_of Tryz.func49 rfl Tryz.ntmps49 (congrArg Array.toList Tryz.results49) (by simp only [List.length_cons, List.length_nil]; decide) ?_; simp only [envOf_cons, envOf_nil, Nat.reduceAdd]
  refine awp_seq ?_
  refine awp_region (by kernel_rfl) ?_
  refine aL_box rfl rfl rfl v_ rfl g_ fun o1 ho1 => ?_
  repeat (rw [none_set_iff] at ho1; obtain ⟨_, ho1⟩ := ho1)
  refine aL_alloc rfl rfl rfl g_ gl_ fun o2 ho2 => ?_
  repeat (rw [none_set_iff] at ho2; obtain ⟨_, ho2⟩ := ho2)
  (refine aL_S rfl rfl v_ ?_)
  refine aL_nil ?_
  refine awp_seq ?_
  refine awp_seq ?_
  refine awp_region (by kernel_rfl) ?_
  (refine aL_S rfl rfl v_ ?_)
  refine aL_X rfl rfl (AOp_use rfl rfl (.inr ⟨rfl, rfl, rfl⟩) g_ va_ (oCheck_c ho) ?_); rintro _ _ ⟨rfl, rfl⟩
  (refine aL_S rfl rfl v_ ?_)
  refine aL_nil ?_
  refine awp_cond v_ (fun hc1 => ?_) (fun hc1 => ?_)
  · replace hc1 := nm_ hc1
    refine awp_seq ?_
    refine awp_region (by kernel_rfl) ?_
    (refine aL_S rfl rfl v_ ?_)
    refine aL_store rfl rfl rfl v_ v_ h_ g_ rfl g_ c_ (by rfl) le_ v_ ?_
    (refine aL_S rfl rfl v_ ?_)
    refine aL_nil ?_
    refine awp_ret ?_
    rw [show reapS o = (⟨[], []⟩, 1) from by rw [chk0] at hc1; simp [reapS, hc1]]
    exact aEnd_retW (v := .tup [sObj ⟨[], []⟩, vInt 1]) (v' := .tup [.agg [vNil, vNil], vInt 1]) va_ (.tup _ _ rfl (fun i hi hi' => by match i, hi with | 0, _ => exact .agg _ _ rfl (fun j hj hj' => by match j, hj with | 0, _ => exact .nil _ _ | 1, _ => exact .nil _ _) | 1, _ => exact .refl _)) sub_ ⟨rfl, rfl⟩
  · replace hc1 := nm_ hc1
    rw [chk0] at hc1
    have hr : reapS o = (⟨o.ctx, o.sibs.filter live⟩, 0) := by simp [reapS, hc1]
    have hok := objOk_iff.1 hc1
    have hj : joinS o.ctx [] = (o.ctx, 0) := by rw [join_ok (ctxOk_iff.2 ⟨hok.1.ctx, hok.2⟩) rfl (by simpa [room] using hok.2), join_nil hok.1.ctx]
    refine awp_skip ?_
    refine awp_seq ?_
    refine awp_region (by kernel_rfl) ?_
    iterate 2 (refine aL_S rfl rfl v_ ?_)
    refine aL_X rfl rfl (AOp_use rfl rfl (.inr ⟨rfl, rfl, rfl⟩) g_ va_ (ACalls.wkA (args := [.sl 3 (o.ctx.map sSeen) false, vNil]) (join_c (b := []) (ta := false) (tb := false) ho.ctx (fun x hx => by cases hx) (by omega) (by simp)) rfl (fun j hj hj' => by match j, hj with | 0, _ => exact .refl _ | 1, _ => exact .nil _ _)) ?_); rintro _ _ ⟨rfl, rfl⟩
    rw [hj]
    iterate 5 (refine aL_S rfl rfl v_ ?_)
    refine aL_nil ?_
    refine awp_seq ?_
    refine awp_region (by kernel_rfl) ?_
    iterate 3 (refine aL_S rfl rfl v_ ?_)
    refine aL_X rfl rfl (AOp_use rfl rfl (.inr ⟨rfl, rfl, rfl⟩) g_ va_ (cloneC (by omega)) ?_); rintro _ τ0 hC0
    refine aL_X rfl rfl (AOp_use rfl rfl (.inr ⟨rfl, rfl, rfl⟩) g_ va_ (deleteC hC0 (by omega)) ?_); rintro _ _ ⟨rfl, rfl⟩
    (refine aL_S rfl rfl v_ ?_)
    refine aL_store rfl rfl rfl v_ v_ h_ g_ rfl g_ c_ (by rfl) le_ v_ ?_
    (refine aL_S rfl rfl v_ ?_)
    refine aL_nil ?_
    refine awp_ret ?_
    refine aEnd_ret (σ' := σ) v_ sub_ ?_
    exact ⟨by rw [hr], rfl⟩
theorem rReap_c {o : Obj'} {σ : Store} (ho : ObjSm o) : ACalls Tryz.prog 50 [sObj o] σ fun v σ' => v = .tup [sObj (reapS o).1, vInt (reapS o).2] ∧ σ = σ' := by
  have hnc := ho.nc; have hns := ho.ns
  refine ACalls_of Tryz.func50 rfl Tryz.ntmps50 (congrArg Array.toList Tryz.results50) (by simp only [List.length_cons, List.length_nil]; decide) ?_; simp only [envOf_cons, envOf_nil, Nat.reduceAdd]
  refine awp_seq ?_
  refine awp_region (by kernel_rfl) ?_
  refine aL_box rfl rfl rfl v_ rfl g_ fun o1 ho1 => ?_
  repeat (rw [none_set_iff] at ho1; obtain ⟨_, ho1⟩ := ho1)
  refine aL_alloc rfl rfl rfl g_ gl_ fun o2 ho2 => ?_
  repeat (rw [none_set_iff] at ho2; obtain ⟨_, ho2⟩ := ho2)
  (refine aL_S rfl rfl v_ ?_)
  refine aL_nil ?_
  refine awp_seq ?_
  refine awp_seq ?_
  refine awp_region (by kernel_rfl) ?_
  (refine aL_S rfl rfl v_ ?_)
  refine aL_X rfl rfl (AOp_use rfl rfl (.inr ⟨rfl, rfl, rfl⟩) g_ va_ (rMay07_c ho) ?_); rintro _ _ ⟨rfl, rfl⟩
  (refine aL_S rfl rfl v_ ?_)
  refine aL_nil ?_
  refine awp_cond v_ (fun hc1 => ?_) (fun hc1 => ?_)
  · replace hc1 := nm_ hc1
    refine awp_seq ?_
    refine awp_region (by kernel_rfl) ?_
    (refine aL_S rfl rfl v_ ?_)
    refine aL_store rfl rfl rfl v_ v_ h_ g_ rfl g_ c_ (by rfl) le_ v_ ?_
    (refine aL_S rfl rfl v_ ?_)
    refine aL_nil ?_
    refine awp_ret ?_
    rw [show reapS o = (⟨[], []⟩, 1) from by simp [reapS, hc1]]
    exact aEnd_retW (v := .tup [sObj ⟨[], []⟩, vInt 1]) (v' := .tup [.agg [vNil, vNil], vInt 1]) va_ (.tup _ _ rfl (fun i hi hi' => by match i, hi with | 0, _ => exact .agg _ _ rfl (fun j hj hj' => by match j, hj with | 0, _ => exact .nil _ _ | 1, _ => exact .nil _ _) | 1, _ => exact .refl _)) sub_ ⟨rfl, rfl⟩
  · replace hc1 := nm_ hc1
    have hr : reapS o = (⟨o.ctx, o.sibs.filter live⟩, 0) := by simp [reapS, hc1]
    refine awp_skip ?_
    refine awp_seq ?_
    refine awp_region (by kernel_rfl) ?_
    refine aL_nilOwn 77 5 rfl rfl rfl (by rfl) fun k4 hk4 => ?_
    refine aL_nil ?_
    refine awp_seq ?_
    refine awp_seq ?_
    refine awp_region (by kernel_rfl) ?_
    (refine aL_S rfl rfl v_ ?_)
    refine aL_nil ?_
    refine awp_block ?_
    refine awp_loop_env (ι := Nat × Nat) (fun ⟨t, k⟩ => o.sibs.length - k) (fun ⟨t, k⟩ => k ≤ o.sibs.length ∧ σ.tok t = none) (fun ⟨t, k⟩ => [(1, .ref o1 0), (2, .ref o2 0), (4, .own t 5 (((o.sibs.take k).filter live).map sSib)), (5, vInt k)]) (fun ⟨t, k⟩ => (((σ.newTok none t (77, 5)).set o1 (.cells (sObj o).cells)).set o2 (.cells [.lit (.slice none 0 0), .lit (.slice none 0 0)]))) (k4, 0) ?_ ?_ ?_ ?_
    · exact ⟨Nat.zero_le _, hk4⟩
    · exact cv_
    · exact Store.Wk.refl _
    rintro ⟨t, k⟩ ⟨hk, ht⟩
    simp only [envL_cons, envL_nil]
    refine awp_seq ?_
    refine awp_seq ?_
    refine awp_region (by kernel_rfl) ?_
    iterate 5 (refine aL_S rfl rfl v_ ?_)
    refine aL_nil ?_
    refine awp_cond v_ (fun hc5 => ?_) (fun hc5 => ?_)
    · replace hc5 := nm_ hc5
      refine awp_skip ?_
      refine awp_seq ?_
      refine awp_block ?_
      refine awp_seq ?_
      obtain ⟨x, hx⟩ := get_some (l := o.sibs) (k := k) (by omega)
      have hlen : ((o.sibs.take k).filter live).length ≤ k := Nat.le_trans (List.length_filter_le ..) (by simp; omega)
      have R := hx
      refine awp_region (by kernel_rfl) ?_
      iterate 7 (refine aL_S rfl rfl v_ ?_)
      refine aL_nil ?_
      refine awp_cond v_ (fun hc7 => ?_) (fun hc7 => ?_)
      · replace hc7 := nm_ hc7
        have hcov : ((o.sibs.take (k + 1)).filter live).map sSib = ((o.sibs.take k).filter live).map sSib ++ [sSib x] := by rw [take_snoc hx, List.filter_append, List.map_append]; simp [live, hc7]
        have R := hx
        refine awp_region (by kernel_rfl) ?_
        iterate 6 (refine aL_S rfl rfl v_ ?_)
        refine aL_buildSlice rfl rfl rfl g_ g_ rfl rfl h_ c2_ (by decide) ?_
        refine aL_append rfl rfl rfl g_ g_ v_ h_ v_ c_ (by simp; omega) fun k31 hk31 => ?_
        (refine aL_S rfl rfl v_ ?_)
        refine aL_nil ?_
        refine awp_region (by kernel_rfl) ?_
        iterate 3 (refine aL_S rfl rfl v_ ?_)
        refine aL_nil ?_
        refine aNext (ι := Nat × Nat) (i := ⟨t, k⟩) (k31, k + 1) ?_ ?_ ?_ ?_
        · show o.sibs.length - (k + 1) < o.sibs.length - k; omega
        · exact ⟨by show k + 1 ≤ o.sibs.length; omega, (newTok_none hk31).2⟩
        · have R := hcov; exact cv_
        · exact sub_
      · replace hc7 := nm_ hc7
        have hcov : ((o.sibs.take (k + 1)).filter live).map sSib = ((o.sibs.take k).filter live).map sSib := by rw [take_snoc hx, List.filter_append, List.map_append]; simp [live, hc7]
        refine awp_skip ?_
        refine awp_region (by kernel_rfl) ?_
        iterate 3 (refine aL_S rfl rfl v_ ?_)
        refine aL_nil ?_
        refine aNext (ι := Nat × Nat) (i := ⟨t, k⟩) (t, k + 1) ?_ ?_ ?_ ?_
        · show o.sibs.length - (k + 1) < o.sibs.length - k; omega
        · exact ⟨by show k + 1 ≤ o.sibs.length; omega, ht⟩
        · have R := hcov; exact cv_
        · exact sub_
    · replace hc5 := nm_ hc5
      refine awp_exit ?_
      refine aThen_exit ?_
      refine aThen_exit ?_
      refine aBlock_hit ?_
      refine awp_seq ?_
      skip
      have hfin : (o.sibs.take k).filter live = o.sibs.filter live := by rw [List.take_of_length_le (by omega)]
      refine awp_region (by kernel_rfl) ?_
      iterate 4 (refine aL_S rfl rfl v_ ?_)
      refine aL_store rfl rfl rfl v_ v_ h_ g_ rfl g_ c_ (by rfl) le_ v_ ?_
      (refine aL_S rfl rfl v_ ?_)
      refine aL_nil ?_
      refine awp_ret ?_
      rw [hr, ← hfin]
      exact aEnd_retW (v := .tup [.agg [.sl 3 (o.ctx.map sSeen) false, .sl 5 (((o.sibs.take k).filter live).map sSib) false], vInt 0]) (v' := .tup [.agg [.sl 3 (o.ctx.map sSeen) false, .own t 5 (((o.sibs.take k).filter live).map sSib)], vInt 0]) va_ (.tup _ _ rfl (fun i hi hi' => by match i, hi with | 0, _ => exact .agg _ _ rfl (fun j hj hj' => by match j, hj with | 0, _ => exact .refl _ | 1, _ => exact .own1 _ _ _) | 1, _ => exact .refl _)) sub_ ⟨rfl, rfl⟩
end Go.Proofs.YtgpibooklhakgaaGreat
end

section
set_option linter.all false
set_option maxRecDepth 100000
namespace Go.Proofs.YtgpibooklhakgaaGreat
open Go.Ab

/-! ### objects that may be, with few parts -/
structure OkO (k : Nat) (o : Obj') : Prop where
  ok : objOk o = true
  rm : room o.ctx ≤ 480 * k
  nc : o.ctx.length ≤ 12 * k
  ns : o.sibs.length ≤ 12 * k
theorem sm_of {o : Obj'} (h : objOk o = true) (hn : o.ctx.length ≤ 1000) (hs : o.sibs.length ≤ 1000) : ObjSm o := by
  have hk := objOk_iff.1 h
  have gd := ctxOk_gd (ctxOk_iff.2 ⟨hk.1.ctx, hk.2⟩)
  refine ⟨sizes_gd gd, fun x hx => ?_, hn, hs⟩
  have h1 := (hk.1.ok x hx).1
  simp only [sibOk, Bool.and_eq_true, decide_eq_true_eq] at h1
  exact ⟨by have := nameOk_size (dotOk_iff.1 h1.1.1.1.1).1.1; omega, by omega⟩
theorem OkO.sm {k : Nat} {o : Obj'} (h : OkO k o) (hk : k ≤ 8) : ObjSm o := sm_of h.ok (by have := h.nc; omega) (by have := h.ns; omega)
theorem OkO.good {k : Nat} {o : Obj'} (h : OkO k o) : ObjG o := (objOk_iff.1 h.ok).1
theorem joinAll_len (a b : List Seen) : (joinAll a b).length ≤ a.length + b.length := by rw [joinAll, List.length_map]; exact nodesS_len a b
theorem mergeL_len (a b : Obj') : (mergeL a b).length ≤ a.sibs.length + b.sibs.length := by
  rw [mergeL, putsD_len, List.length_append]
  have h1 : (keptA a b).length ≤ a.sibs.length := List.length_filterMap_le ..
  have h2 : (keptB a b).length ≤ b.sibs.length := List.length_filterMap_le ..
  simp; omega
theorem OkO.merge {j k : Nat} {a b : Obj'} (ha : OkO j a) (hB : OkO k b) (h : j + k ≤ 8) : mergeS a b = (mergeO a b, 0) ∧ OkO (j + k) (mergeO a b) := by
  have h1 := ha.rm; have h2 := hB.rm; have h3 := ha.nc; have h4 := hB.nc; have h5 := ha.ns; have h6 := hB.ns
  obtain ⟨m1, m2⟩ := mergeS_ok ha.ok hB.ok (by omega)
  refine ⟨m1, m2, ?_, ?_, ?_⟩
  · have := join_room a.ctx b.ctx
    show room (joinAll a.ctx b.ctx) ≤ _
    omega
  · have := joinAll_len a.ctx b.ctx
    show (joinAll a.ctx b.ctx).length ≤ _
    omega
  · have := mergeL_len a b
    show (mergeL a b).length ≤ _
    omega
theorem room_bd {c : List Seen} {m : Nat} (h : ∀ x ∈ c, x.more.length ≤ m) : room c ≤ m * c.length := sum_bd h
theorem FewO.okO {o : Obj'} (h : FewO o) (hk : objOk o = true) : OkO 1 o := by
  have h1 := room_bd (m := 40) fun x hx => (h.1.2 x hx).2
  have h2 := h.1.1
  exact ⟨hk, by omega, by omega, by have := h.2.1; omega⟩
theorem mergeS_sm {a b : Obj'} (h1 : a.ctx.length + b.ctx.length ≤ 1000) (h2 : a.sibs.length + b.sibs.length ≤ 1000) : ObjSm (mergeS a b).1 := by
  have h0 : ObjSm ⟨[], []⟩ := ⟨(fun y hy => by cases hy), (fun y hy => by cases hy), by show 0 ≤ _; decide, by show 0 ≤ _; decide⟩
  unfold mergeS
  split
  · rename_i hk
    rw [Bool.and_eq_true] at hk
    split
    · rename_i hj
      have ga := objOk_iff.1 hk.1; have gb := objOk_iff.1 hk.2
      have hjj : ctxOk (joinAll a.ctx b.ctx) = true ∧ (joinS a.ctx b.ctx).1 = joinAll a.ctx b.ctx := by
        have ca : ctxOk a.ctx = true := ctxOk_iff.2 ⟨ga.1.ctx, ga.2⟩
        have cb : ctxOk b.ctx = true := ctxOk_iff.2 ⟨gb.1.ctx, gb.2⟩
        cases h : ctxOk (joinAll a.ctx b.ctx) with
        | true => exact ⟨rfl, by simp [joinS, ca, cb, h]⟩
        | false => simp [joinS, ca, cb, h] at hj
      rw [hjj.2]
      have hok : objOk (mergeO a b) = true := objOk_iff.2 ⟨merge_good ga.1 gb.1, (ctxOk_iff.1 hjj.1).2⟩
      exact sm_of hok (by have := joinAll_len a.ctx b.ctx; show (joinAll a.ctx b.ctx).length ≤ _; omega) (by have := mergeL_len a b; show (mergeL a b).length ≤ _; omega)
    · exact h0
  · exact h0
theorem reapS_sm {o : Obj'} (ho : ObjSm o) : ObjSm (reapS o).1 := by
  unfold reapS
  split
  · exact ⟨ho.ctx, fun y hy => ho.sibs y (List.mem_filter.1 hy).1, ho.nc, Nat.le_trans (List.length_filter_le ..) ho.ns⟩
  · exact ⟨(fun y hy => by cases hy), (fun y hy => by cases hy), by show 0 ≤ _; decide, by show 0 ≤ _; decide⟩
theorem newS_sm {c : List Seen} {s : Sib} (hs : SibSm s) (hn : c.length ≤ 999) : ObjSm (newS c s).1 := by
  have h0 : ObjSm ⟨[], []⟩ := ⟨(fun y hy => by cases hy), (fun y hy => by cases hy), by show 0 ≤ _; decide, by show 0 ≤ _; decide⟩
  unfold newS
  split
  · split
    · rename_i he
      have key : (∀ x ∈ (addS c s.node s.n).1, SeenSm x) ∧ (addS c s.node s.n).1.length ≤ 1000 := by
        unfold addS at he ⊢
        split
        · rename_i hd
          rw [if_pos hd] at he
          unfold joinS at he ⊢
          split
          · rename_i hk
            rw [Bool.and_eq_true] at hk
            split
            · exact ⟨joinAll_sm (ctxOk_gd hk.1) (ctxOk_gd hk.2), by have := joinAll_len c [oneS s.node s.n]; simp at this ⊢; omega⟩
            · exact ⟨(fun x hx => by cases hx), by show 0 ≤ _; decide⟩
          · exact ⟨(fun x hx => by cases hx), by show 0 ≤ _; decide⟩
        · exact ⟨(fun x hx => by cases hx), by show 0 ≤ _; decide⟩
      exact ⟨key.1, fun y hy => by rw [List.mem_singleton.1 hy]; exact hs, key.2, by show 1 ≤ _; decide⟩
    · exact h0
  · exact h0
theorem joinAll_is {a b c : List Seen} (ha : CtxG a) (hB : CtxG b) (hc : CtxG c) (h : ∀ s n, hasS c s n = (hasS a s n || hasS b s n)) : joinAll a b = c :=
  ctx_unique (join_spec ha hB).1 hc fun s n => by rw [(join_spec ha hB).2, h]

/-! ### the objects -/
def xA : Sib := ⟨B [97], 1, B [120], false, 0⟩
def xB : Sib := ⟨B [98], 1, B [121], false, 0⟩
def xD : Sib := ⟨B [97], 2, ⟨#[]⟩, true, 0⟩
def kA : Seen := ⟨B [97], 1, []⟩
def kB : Seen := ⟨B [98], 1, []⟩
def kD : Seen := ⟨B [97], 2, []⟩
def zA : Obj' := ⟨[kA], [xA]⟩
def zB : Obj' := ⟨[kB], [xB]⟩
def zC : Obj' := ⟨[kA, kB], [xA, xB]⟩
def zD : Obj' := ⟨[kD, kB], [xD]⟩
def zN : Obj' := ⟨[kD, kB], []⟩
theorem ok_A : OkO 1 zA := ⟨by decide +kernel, by decide, by decide, by decide⟩
theorem ok_B : OkO 1 zB := ⟨by decide +kernel, by decide, by decide, by decide⟩
theorem ok_C : OkO 1 zC := ⟨by decide +kernel, by decide, by decide, by decide⟩
theorem ok_D : OkO 1 zD := ⟨by decide +kernel, by decide, by decide, by decide⟩
theorem new_A : newS [] xA = (zA, 0) := by
  have hd : dotOk xA.node xA.n = true := by decide +kernel
  have h1 : (addS [] xA.node xA.n).2 = 0 := by rw [addNil, hd]; rfl
  have h2 : (addS [] xA.node xA.n).1 = [kA] := by
    have e := joinAll_one hd
    have hk : ctxOk [oneS xA.node xA.n] = true := ctxOk_one hd
    have : addS [] xA.node xA.n = ([oneS xA.node xA.n], 0) := by rw [addS, hd, if_pos rfl, joinS, hk, e, hk]; rfl
    rw [this]; rfl
  rw [newS, if_pos ⟨by decide +kernel, rfl⟩, if_pos h1, h2]; rfl
theorem new_B : newS [] xB = (zB, 0) := by
  have hd : dotOk xB.node xB.n = true := by decide +kernel
  have h1 : (addS [] xB.node xB.n).2 = 0 := by rw [addNil, hd]; rfl
  have h2 : (addS [] xB.node xB.n).1 = [kB] := by
    have e := joinAll_one hd
    have hk : ctxOk [oneS xB.node xB.n] = true := ctxOk_one hd
    have : addS [] xB.node xB.n = ([oneS xB.node xB.n], 0) := by rw [addS, hd, if_pos rfl, joinS, hk, e, hk]; rfl
    rw [this]; rfl
  rw [newS, if_pos ⟨by decide +kernel, rfl⟩, if_pos h1, h2]; rfl
theorem new_D : newS zC.ctx xD = (zD, 0) := by
  have hd : dotOk xD.node xD.n = true := by decide +kernel
  have hj : joinAll zC.ctx [oneS xD.node xD.n] = [kD, kB] := joinAll_is ok_C.good.ctx (ctxOk_iff.1 (ctxOk_one hd)).1 ok_D.good.ctx fun s n => by
    rw [Bool.eq_iff_iff]
    simp [hasS, hasX, inS, zC, kA, kB, kD, oneS, xD]
    by_cases h1 : B [97] = s <;> by_cases h2 : B [98] = s <;> simp [h1, h2] <;> omega
  have hjs : joinS zC.ctx [oneS xD.node xD.n] = ([kD, kB], 0) := by
    rw [join_ok (ctxOk_iff.2 ⟨ok_C.good.ctx, by decide⟩) (ctxOk_one hd) (by decide), hj]
  have ha : addS zC.ctx xD.node xD.n = ([kD, kB], 0) := by rw [addS, hd, if_pos rfl, hjs]
  rw [newS, if_pos ⟨by decide +kernel, by decide +kernel⟩, ha, if_pos rfl]; rfl
theorem merge_is {j k : Nat} {a b c : Obj'} (ha : OkO j a) (hB : OkO k b) (h : j + k ≤ 8) (hc : CtxG c.ctx) (h1 : ∀ s n, hasS c.ctx s n = (hasS a.ctx s n || hasS b.ctx s n)) (h2 : mergeL a b = c.sibs) : mergeS a b = (c, 0) := by
  rw [(ha.merge hB h).1, mergeO, joinAll_is ha.good.ctx hB.good.ctx hc h1, h2]
theorem merge_C : mergeS zA zB = (zC, 0) := merge_is ok_A ok_B (by decide) ok_C.good.ctx (fun s n => by simp [hasS, zA, zB, zC]) (by decide +kernel)
theorem merge_D : mergeS zB zD = (zD, 0) := merge_is ok_B ok_D (by decide) ok_D.good.ctx (fun s n => by
  rw [Bool.eq_iff_iff]
  simp [hasS, zB, zD]
  intro h
  exact .inr h) (by decide +kernel)
theorem merge_DC : mergeS zD zC = (zD, 0) := merge_is ok_D ok_C (by decide) ok_D.good.ctx (fun s n => by
  rw [Bool.eq_iff_iff]
  simp [hasS, hasX, inS, zC, zD, kA, kB, kD]
  by_cases h1 : B [97] = s <;> by_cases h2 : B [98] = s <;> simp [h1, h2] <;> omega) (by decide +kernel)
theorem merge_CD : mergeS zC zD = (zD, 0) := merge_is ok_C ok_D (by decide) ok_D.good.ctx (fun s n => by
  rw [Bool.eq_iff_iff]
  simp [hasS, hasX, inS, zC, zD, kA, kB, kD]
  by_cases h1 : B [97] = s <;> by_cases h2 : B [98] = s <;> simp [h1, h2] <;> omega) (by decide +kernel)
theorem reap_D : reapS zD = (zN, 0) := by rw [reapS, ok_D.ok]; rfl
theorem cov_DC : coversS zD zC = true := by rw [coversS, merge_DC]; decide +kernel
theorem cov_CD : coversS zC zD = false := by rw [coversS, merge_CD]; decide +kernel
set_option maxHeartbeats 4000000 in
theorem awake07_c {σ : Store} : ACalls Tryz.prog 48 [] σ fun v σ' => v = vB true ∧ σ = σ' := by
  have sA := ok_A.sm (by decide); have sB := ok_B.sm (by decide); have sC := ok_C.sm (by decide); have sD := ok_D.sm (by decide)
  have l1 : zC.sibs.length = 2 := rfl
  have l2 : zD.sibs.length = 1 := rfl
  have l3 : zN.sibs.length = 0 := rfl
  have l4 : (zD.sibs.map sSib)[0]? = some (sSib xD) := rfl
  have l5 : sizeS zA = 81 := by decide +kernel
  have l6 : decide (zA = zB) = false := by decide +kernel
  refine ACalls_of Tryz.func48 rfl Tryz.ntmps48 (congrArg Array.toList Tryz.results48) (by simp only [List.length_cons, List.length_nil]; decide) ?_; simp only [envOf_cons, envOf_nil, Nat.reduceAdd]
  refine awp_seq ?_
  refine awp_region (by kernel_rfl) ?_
  (refine aL_S rfl rfl v_ ?_)
  refine aL_nil ?_
  refine awp_seq ?_
  refine awp_region (by kernel_rfl) ?_
  iterate 2 (refine aL_S rfl rfl v_ ?_)
  refine aL_X rfl rfl (AOp_use rfl rfl (.inr ⟨rfl, rfl, rfl⟩) g_ va_ (ACalls.wkA (args := [vNil, sSib xA]) (new7_c (c := []) (t := false) (s := xA) (fun x hx => by cases hx) (by simp) (sA.sibs xA (.head _))) rfl (fun j hj hj' => by match j, hj with | 0, _ => exact .nil _ _ | 1, _ => exact .refl _)) ?_); rintro _ _ ⟨rfl, rfl⟩
  rw [new_A]
  iterate 3 (refine aL_S rfl rfl v_ ?_)
  refine aL_alloc rfl rfl rfl g_ gl_ fun o1 ho1 => ?_
  repeat (rw [none_set_iff] at ho1; obtain ⟨_, ho1⟩ := ho1)
  refine aL_store rfl rfl rfl v_ v_ h_ g_ rfl g_ c_ (by rfl) le_ v_ ?_
  (refine aL_S rfl rfl v_ ?_)
  refine aL_nil ?_
  refine awp_seq ?_
  refine awp_region (by kernel_rfl) ?_
  iterate 2 (refine aL_S rfl rfl v_ ?_)
  refine aL_X rfl rfl (AOp_use rfl rfl (.inr ⟨rfl, rfl, rfl⟩) g_ va_ (ACalls.wkA (args := [vNil, sSib xB]) (new7_c (c := []) (t := false) (s := xB) (fun x hx => by cases hx) (by simp) (sB.sibs xB (.head _))) rfl (fun j hj hj' => by match j, hj with | 0, _ => exact .nil _ _ | 1, _ => exact .refl _)) ?_); rintro _ _ ⟨rfl, rfl⟩
  rw [new_B]
  iterate 3 (refine aL_S rfl rfl v_ ?_)
  refine aL_alloc rfl rfl rfl g_ gl_ fun o3 ho3 => ?_
  repeat (rw [none_set_iff] at ho3; obtain ⟨_, ho3⟩ := ho3)
  refine aL_store rfl rfl rfl v_ v_ h_ g_ rfl g_ c_ (by rfl) le_ v_ ?_
  (refine aL_S rfl rfl v_ ?_)
  refine aL_nil ?_
  refine awp_seq ?_
  refine awp_region (by kernel_rfl) ?_
  iterate 2 (refine aL_S rfl rfl v_ ?_)
  refine aL_X rfl rfl (AOp_use rfl rfl (.inr ⟨rfl, rfl, rfl⟩) g_ va_ (merge_c sA sB) ?_); rintro _ _ ⟨rfl, rfl⟩
  rw [merge_C]
  iterate 3 (refine aL_S rfl rfl v_ ?_)
  refine aL_alloc rfl rfl rfl g_ gl_ fun o5 ho5 => ?_
  repeat (rw [none_set_iff] at ho5; obtain ⟨_, ho5⟩ := ho5)
  refine aL_store rfl rfl rfl v_ v_ h_ g_ rfl g_ c_ (by rfl) le_ v_ ?_
  (refine aL_S rfl rfl v_ ?_)
  refine aL_nil ?_
  refine awp_seq ?_
  refine awp_region (by kernel_rfl) ?_
  iterate 4 (refine aL_S rfl rfl v_ ?_)
  refine aL_X rfl rfl (AOp_use rfl rfl (.inr ⟨rfl, rfl, rfl⟩) g_ va_ (new7_c (c := zC.ctx) (s := xD) sC.ctx (by decide) (sD.sibs xD (.head _))) ?_); rintro _ _ ⟨rfl, rfl⟩
  rw [new_D]
  iterate 3 (refine aL_S rfl rfl v_ ?_)
  refine aL_alloc rfl rfl rfl g_ gl_ fun o7 ho7 => ?_
  repeat (rw [none_set_iff] at ho7; obtain ⟨_, ho7⟩ := ho7)
  refine aL_store rfl rfl rfl v_ v_ h_ g_ rfl g_ c_ (by rfl) le_ v_ ?_
  (refine aL_S rfl rfl v_ ?_)
  refine aL_nil ?_
  refine awp_seq ?_
  refine awp_region (by kernel_rfl) ?_
  iterate 2 (refine aL_S rfl rfl v_ ?_)
  refine aL_X rfl rfl (AOp_use rfl rfl (.inr ⟨rfl, rfl, rfl⟩) g_ va_ (merge_c sB sD) ?_); rintro _ _ ⟨rfl, rfl⟩
  rw [merge_D]
  iterate 3 (refine aL_S rfl rfl v_ ?_)
  refine aL_alloc rfl rfl rfl g_ gl_ fun o9 ho9 => ?_
  repeat (rw [none_set_iff] at ho9; obtain ⟨_, ho9⟩ := ho9)
  refine aL_store rfl rfl rfl v_ v_ h_ g_ rfl g_ c_ (by rfl) le_ v_ ?_
  (refine aL_S rfl rfl v_ ?_)
  refine aL_nil ?_
  refine awp_seq ?_
  refine awp_region (by kernel_rfl) ?_
  (refine aL_S rfl rfl v_ ?_)
  refine aL_X rfl rfl (AOp_use rfl rfl (.inr ⟨rfl, rfl, rfl⟩) g_ va_ (reap_c sD) ?_); rintro _ _ ⟨rfl, rfl⟩
  rw [reap_D]
  iterate 3 (refine aL_S rfl rfl v_ ?_)
  refine aL_alloc rfl rfl rfl g_ gl_ fun o11 ho11 => ?_
  repeat (rw [none_set_iff] at ho11; obtain ⟨_, ho11⟩ := ho11)
  refine aL_store rfl rfl rfl v_ v_ h_ g_ rfl g_ c_ (by rfl) le_ v_ ?_
  (refine aL_S rfl rfl v_ ?_)
  refine aL_nil ?_
  refine awp_seq ?_
  have R := And.intro l1 (And.intro l2 (And.intro l3 l4))
  refine awp_region (by kernel_rfl) ?_
  iterate 3 (refine aL_S rfl rfl v_ ?_)
  refine aL_SY (wantedA_yes rfl rfl v_ (by rfl)) rfl v_ ?_
  refine aL_SY (wantedA_yes rfl rfl v_ (by rfl)) rfl v_ ?_
  iterate 2 (refine aL_S rfl rfl v_ ?_)
  refine aL_SY (wantedA_yes rfl rfl v_ (by rfl)) rfl v_ ?_
  refine aL_SY (wantedA_yes rfl rfl v_ (by rfl)) rfl v_ ?_
  iterate 2 (refine aL_S rfl rfl v_ ?_)
  refine aL_SY (wantedA_yes rfl rfl v_ (by rfl)) rfl v_ ?_
  refine aL_SY (wantedA_yes rfl rfl v_ (by rfl)) rfl v_ ?_
  iterate 2 (refine aL_S rfl rfl v_ ?_)
  refine aL_SY (wantedA_yes rfl rfl v_ (by rfl)) rfl v_ ?_
  refine aL_SY (wantedA_yes rfl rfl v_ (by rfl)) rfl v_ ?_
  iterate 2 (refine aL_S rfl rfl v_ ?_)
  refine aL_SY (wantedA_yes rfl rfl v_ (by rfl)) rfl v_ ?_
  refine aL_SY (wantedA_yes rfl rfl v_ (by rfl)) rfl v_ ?_
  iterate 2 (refine aL_S rfl rfl v_ ?_)
  refine aL_SY (wantedA_yes rfl rfl v_ (by rfl)) rfl v_ ?_
  refine aL_SY (wantedA_yes rfl rfl v_ (by rfl)) rfl v_ ?_
  refine aL_SY (wantedA_yes rfl rfl v_ (by rfl)) rfl v_ ?_
  refine aL_SY (wantedA_yes rfl rfl v_ (by rfl)) rfl v_ ?_
  iterate 2 (refine aL_S rfl rfl v_ ?_)
  refine aL_SY (wantedA_yes rfl rfl v_ (by rfl)) rfl v_ ?_
  refine aL_SY (wantedA_yes rfl rfl v_ (by rfl)) rfl v_ ?_
  refine aL_SY (wantedA_yes rfl rfl v_ (by rfl)) rfl v_ ?_
  refine aL_SY (wantedA_yes rfl rfl v_ (by rfl)) rfl v_ ?_
  iterate 2 (refine aL_S rfl rfl v_ ?_)
  refine aL_SY (wantedA_yes rfl rfl v_ (by rfl)) rfl v_ ?_
  refine aL_SY (wantedA_yes rfl rfl v_ (by rfl)) rfl v_ ?_
  refine aL_SY (wantedA_yes rfl rfl v_ (by rfl)) rfl v_ ?_
  refine aL_SY (wantedA_yes rfl rfl v_ (by rfl)) rfl v_ ?_
  refine aL_SY (wantedA_yes rfl rfl v_ (by rfl)) rfl v_ ?_
  iterate 2 (refine aL_S rfl rfl v_ ?_)
  refine aL_SY (wantedA_yes rfl rfl v_ (by rfl)) rfl v_ ?_
  refine aL_SY (wantedA_yes rfl rfl v_ (by rfl)) rfl v_ ?_
  refine aL_SY (wantedA_yes rfl rfl v_ (by rfl)) rfl v_ ?_
  refine aL_SY (wantedA_yes rfl rfl v_ (by rfl)) rfl v_ ?_
  iterate 2 (refine aL_S rfl rfl v_ ?_)
  refine aL_SY (wantedA_yes rfl rfl v_ (by rfl)) rfl v_ ?_
  refine aL_SY (wantedA_yes rfl rfl v_ (by rfl)) rfl v_ ?_
  refine aL_XY (wantedA_yes rfl rfl v_ (by rfl)) rfl (AOp_use rfl rfl (.inr ⟨rfl, rfl, rfl⟩) g_ va_ (covers_c sD sC (by rw [merge_DC]; exact sD)) ?_); rintro _ _ ⟨rfl, rfl⟩
  rw [cov_DC]
  iterate 2 (refine aL_S rfl rfl v_ ?_)
  refine aL_SY (wantedA_yes rfl rfl v_ (by rfl)) rfl v_ ?_
  refine aL_SY (wantedA_yes rfl rfl v_ (by rfl)) rfl v_ ?_
  refine aL_XY (wantedA_yes rfl rfl v_ (by rfl)) rfl (AOp_use rfl rfl (.inr ⟨rfl, rfl, rfl⟩) g_ va_ (covers_c sC sD (by rw [merge_CD]; exact sD)) ?_); rintro _ _ ⟨rfl, rfl⟩
  rw [cov_CD]
  refine aL_SY (wantedA_yes rfl rfl v_ (by rfl)) rfl v_ ?_
  iterate 2 (refine aL_S rfl rfl v_ ?_)
  refine aL_SY (wantedA_yes rfl rfl v_ (by rfl)) rfl v_ ?_
  refine aL_XY (wantedA_yes rfl rfl v_ (by rfl)) rfl (AOp_use rfl rfl (.inr ⟨rfl, rfl, rfl⟩) g_ va_ (size_c sA) ?_); rintro _ _ ⟨rfl, rfl⟩
  rw [l5]
  refine aL_SY (wantedA_yes rfl rfl v_ (by rfl)) rfl v_ ?_
  iterate 2 (refine aL_S rfl rfl v_ ?_)
  refine aL_SY (wantedA_yes rfl rfl v_ (by rfl)) rfl v_ ?_
  refine aL_XY (wantedA_yes rfl rfl v_ (by rfl)) rfl (AOp_use rfl rfl (.inr ⟨rfl, rfl, rfl⟩) g_ va_ (oCheck_c sD) ?_); rintro _ _ ⟨rfl, rfl⟩
  rw [ok_D.ok]
  refine aL_SY (wantedA_yes rfl rfl v_ (by rfl)) rfl v_ ?_
  iterate 2 (refine aL_S rfl rfl v_ ?_)
  refine aL_SY (wantedA_yes rfl rfl v_ (by rfl)) rfl v_ ?_
  refine aL_SY (wantedA_yes rfl rfl v_ (by rfl)) rfl v_ ?_
  refine aL_XY (wantedA_yes rfl rfl v_ (by rfl)) rfl (AOp_use rfl rfl (.inr ⟨rfl, rfl, rfl⟩) g_ va_ (oSame_c sA sA) ?_); rintro _ _ ⟨rfl, rfl⟩
  iterate 2 (refine aL_S rfl rfl v_ ?_)
  refine aL_SY (wantedA_yes rfl rfl v_ (by rfl)) rfl v_ ?_
  refine aL_SY (wantedA_yes rfl rfl v_ (by rfl)) rfl v_ ?_
  refine aL_XY (wantedA_yes rfl rfl v_ (by rfl)) rfl (AOp_use rfl rfl (.inr ⟨rfl, rfl, rfl⟩) g_ va_ (oSame_c sA sB) ?_); rintro _ _ ⟨rfl, rfl⟩
  rw [l6]
  refine aL_SY (wantedA_yes rfl rfl v_ (by rfl)) rfl v_ ?_
  iterate 2 (refine aL_S rfl rfl v_ ?_)
  refine aL_nil ?_
  refine awp_ret ?_
  refine aEnd_ret (σ' := σ) v_ sub_ ?_
  exact ⟨rfl, rfl⟩
end Go.Proofs.YtgpibooklhakgaaGreat
end
