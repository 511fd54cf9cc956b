/-
  Messages held against one another; Few parts, as functions; Messages: few parts; held against one another; What is sent: leaves that another one has not, the items of places; the document's way of both; A STORE BY ITS FACTS: what was built is let go, what is known of it stays; WHAT COMES IN, READ: a value of data (numbers, bools, strings, structs, arrays, slices of these, to any depth) that the row's reading met is described by an abstract value; a call's contract gives the row's; A ROW CLEARED: the builtin 'clear' of a slice that is written; THE LIBRARY's SORT OF STRUCTS by the kit's contract; what a comparison that only looks costs there; Values sorted by their dots; The reference's contexts joined, a dot added: the same as the program's; The reference's Join and Add. Own work (an AI agent).
-/
import Derived.Test.YtbomkkjhafdhiaaGreatGF
import Derived.Test.YtbomkkjhafdhiaaGreatGD
import Derived.ProofKit
import Derived.OpenShut
import Derived.ShutString
import Derived.ChangeOld
import Derived.Below
import Derived.Test.YtbomkkjhafdhiaaGreatGE
import Derived.Shelf.SlSortCmp.WholeK

section
set_option linter.all false
set_option maxRecDepth 100000
namespace Go.Proofs.YtbomkkjhafdhiaaGreat
open Go.Ab

instance : DecidableEq Leaf := fun a b => decidable_of_iff (a.place = b.place ∧ a.digest = b.digest) (by cases a; cases b; simp)
instance : DecidableEq Itm := fun a b => decidable_of_iff (a.place = b.place ∧ a.obj = b.obj) (by cases a; cases b; simp)
instance : DecidableEq Ent := fun a b => decidable_of_iff (a.key = b.key ∧ a.n = b.n ∧ a.who = b.who ∧ a.value = b.value) (by cases a; cases b; simp)
instance : DecidableEq Msg := fun a b => decidable_of_iff (a.kind = b.kind ∧ a.frm = b.frm ∧ a.to = b.to ∧ a.num = b.num ∧ a.err = b.err ∧ a.place = b.place ∧ a.obj = b.obj ∧ a.texts = b.texts ∧ a.leaves = b.leaves ∧ a.items = b.items ∧ a.ents = b.ents) (by cases a; cases b; simp)
theorem sameTx_c {a b : List ByteArray} {ta tb : Bool} {σ : Store} (hla : a.length ≤ 1000000) (hlb : b.length ≤ 1000000) : ACalls Tryz.prog 15 [.sl 1 (a.map vStr) ta, .sl 1 (b.map vStr) tb] σ fun v σ' => v = vB (decide (a = b)) ∧ σ = σ' := by
  have hinj : ∀ x y : ByteArray, vStr x = vStr y ↔ x = y := fun x y => by cases x; cases y; simp
  refine ACalls_of Tryz.func15 rfl Tryz.ntmps15 (congrArg Array.toList Tryz.results15) (by simp only [List.length_cons, List.length_nil]; decide) ?_; simp only [envOf_cons, envOf_nil, Nat.reduceAdd]
  refine awp_seq ?_
  refine awp_region (by kernel_rfl) ?_
  (refine aL_S rfl rfl v_ ?_)
  refine aL_nil ?_
  refine awp_seq ?_
  refine awp_seq ?_
  refine awp_region (by kernel_rfl) ?_
  iterate 5 (refine aL_S rfl rfl v_ ?_)
  refine aL_nil ?_
  refine awp_cond v_ (fun hc1 => ?_) (fun hc1 => ?_)
  · replace hc1 := nm_ hc1
    refine awp_seq ?_
    refine awp_region (by kernel_rfl) ?_
    (refine aL_S rfl rfl v_ ?_)
    refine aL_nil ?_
    refine awp_ret ?_
    refine aEnd_ret (σ' := σ) v_ sub_ ?_
    exact ⟨by rw [decide_eq_false]; intro h; rw [h] at hc1; omega, rfl⟩
  · replace hc1 := nm_ hc1
    have hab : a.length = b.length := by omega
    refine awp_skip ?_
    refine awp_seq ?_
    refine awp_seq ?_
    refine awp_region (by kernel_rfl) ?_
    (refine aL_S rfl rfl v_ ?_)
    refine aL_nil ?_
    refine awp_block ?_
    refine awp_loop_env (ι := Nat) (fun k => a.length - k) (fun k => k ≤ a.length ∧ a.take k = b.take k) (fun k => [(0, .sl 1 (a.map vStr) ta), (1, .sl 1 (b.map vStr) tb), (5, vInt k)]) (fun k => σ) 0 ?_ ?_ ?_ ?_
    · exact ⟨Nat.zero_le _, rfl⟩
    · exact cv_
    · exact sub_
    rintro k ⟨hk, he⟩
    simp only [envL_cons, envL_nil]
    refine awp_seq ?_
    refine awp_seq ?_
    refine awp_region (by kernel_rfl) ?_
    iterate 5 (refine aL_S rfl rfl v_ ?_)
    refine aL_GT rfl rfl v_ rfl vg_ ?_
    refine aL_GT rfl rfl v_ rfl vg_ ?_
    refine aL_GT rfl rfl v_ rfl vg_ ?_
    refine aL_GT rfl rfl v_ rfl vg_ ?_
    (refine aL_S rfl rfl v_ ?_)
    refine aL_nil ?_
    refine awp_cond v_ (fun hc4 => ?_) (fun hc4 => ?_)
    · replace hc4 := nm_ hc4
      refine awp_skip ?_
      refine awp_seq ?_
      refine awp_block ?_
      refine awp_seq ?_
      obtain ⟨x, hx⟩ := get_some (l := a) (k := k) (by omega)
      obtain ⟨y, hy⟩ := get_some (l := b) (k := k) (by omega)
      have R := And.intro hx hy
      refine awp_draw (.op 0 0 (.op 1 0 (.op 2 0 (.op 3 0 (.op 4 0 (.op 5 0 (.op 6 0 (.op 7 0 (.op 8 0 .nil))))))))) Tryz.mixed (by kernel_rfl) ?_
      iterate 9 (refine dR_S o_ (by rfl) (by rfl) v_ ?_)
      refine dR_nil ?_
      refine awp_cond v_ (fun hc6 => ?_) (fun hc6 => ?_)
      · replace hc6 := nm_ hc6
        refine awp_seq ?_
        refine awp_region (by kernel_rfl) ?_
        (refine aL_S rfl rfl v_ ?_)
        refine aL_nil ?_
        refine awp_ret ?_
        refine aEnd_ret (σ' := σ) v_ sub_ ?_
        exact ⟨by rw [decide_eq_false]; intro h; rw [h, hy] at hx; have hyx := Option.some.inj hx; subst hyx; simp at hc6, rfl⟩
      · replace hc6 := nm_ hc6
        have hxy : x = y := by first | exact hc6 | (have h := hc6; clear hx hy R hc6; cases x; cases y; simp_all)
        refine awp_skip ?_
        refine awp_region (by kernel_rfl) ?_
        iterate 3 (refine aL_S rfl rfl v_ ?_)
        refine aL_nil ?_
        refine aNext (ι := Nat) (i := k) (k + 1) ?_ ?_ ?_ ?_
        · omega
        · exact ⟨by omega, by rw [take_snoc hx, take_snoc hy, he, hxy]⟩
        · exact cv_
        · exact sub_
    · replace hc4 := nm_ hc4
      refine awp_exit ?_
      refine aThen_exit ?_
      refine aThen_exit ?_
      refine aBlock_hit ?_
      refine awp_seq ?_
      refine awp_region (by kernel_rfl) ?_
      (refine aL_S rfl rfl v_ ?_)
      refine aL_nil ?_
      refine awp_ret ?_
      refine aEnd_ret (σ' := σ) v_ sub_ ?_
      exact ⟨by rw [decide_eq_true]; rwa [List.take_of_length_le (by omega), List.take_of_length_le (by omega)] at he, rfl⟩
theorem sameIt_c {a b : List Itm} {ta tb : Bool} {σ : Store} (hA : ∀ x ∈ a, ObjSm x.obj) (hB : ∀ x ∈ b, ObjSm x.obj) (hla : a.length ≤ 1000000) (hlb : b.length ≤ 1000000) : ACalls Tryz.prog 17 [.agg [.sl 3 (a.map sItem) ta, .lit (.slice none 0 0)], .agg [.sl 3 (b.map sItem) tb, .lit (.slice none 0 0)]] σ fun v σ' => v = vB (decide (a = b)) ∧ σ = σ' := by
  refine ACalls_of Tryz.func17 rfl Tryz.ntmps17 (congrArg Array.toList Tryz.results17) (by simp only [List.length_cons, List.length_nil]; decide) ?_; simp only [envOf_cons, envOf_nil, Nat.reduceAdd]
  refine awp_seq ?_
  refine awp_region (by kernel_rfl) ?_
  refine aL_box rfl rfl rfl v_ rfl g_ fun o2 ho2 => ?_
  repeat (rw [none_set_iff] at ho2; obtain ⟨_, ho2⟩ := ho2)
  refine aL_box rfl rfl rfl v_ rfl g_ fun o3 ho3 => ?_
  repeat (rw [none_set_iff] at ho3; obtain ⟨_, ho3⟩ := ho3)
  (refine aL_S rfl rfl v_ ?_)
  refine aL_nil ?_
  refine awp_seq ?_
  refine awp_seq ?_
  refine awp_region (by kernel_rfl) ?_
  iterate 8 (refine aL_S rfl rfl v_ ?_)
  refine aL_GF rfl rfl v_ rfl vg_ ?_
  refine aL_GF rfl rfl v_ rfl vg_ ?_
  refine aL_GF rfl rfl v_ rfl vg_ ?_
  refine aL_GF rfl rfl v_ rfl vg_ ?_
  refine aL_GF rfl rfl v_ rfl vg_ ?_
  refine aL_GF rfl rfl v_ rfl vg_ ?_
  refine aL_GF rfl rfl v_ rfl vg_ ?_
  (refine aL_S rfl rfl v_ ?_)
  refine aL_nil ?_
  refine awp_cond v_ (fun hc1 => ?_) (fun hc1 => ?_)
  · replace hc1 := nm_ hc1
    refine awp_seq ?_
    refine awp_region (by kernel_rfl) ?_
    (refine aL_S rfl rfl v_ ?_)
    refine aL_nil ?_
    refine awp_ret ?_
    refine aEnd_ret (σ' := σ) v_ sub_ ?_
    exact ⟨by rw [decide_eq_false]; intro h; rw [h] at hc1; omega, rfl⟩
  · replace hc1 := nm_ hc1
    have hab : a.length = b.length := by omega
    refine awp_skip ?_
    refine awp_seq ?_
    refine awp_seq ?_
    refine awp_region (by kernel_rfl) ?_
    (refine aL_S rfl rfl v_ ?_)
    refine aL_nil ?_
    refine awp_block ?_
    refine awp_loop_env (ι := Nat) (fun k => a.length - k) (fun k => k ≤ a.length ∧ a.take k = b.take k) (fun k => [(2, .ref o2 0), (3, .ref o3 0), (5, vInt k)]) (fun k => ((σ.set o2 (.cells [.sl 3 (a.map sItem) ta, .lit (.slice none 0 0)])).set o3 (.cells [.sl 3 (b.map sItem) tb, .lit (.slice none 0 0)]))) 0 ?_ ?_ ?_ ?_
    · exact ⟨Nat.zero_le _, rfl⟩
    · exact cv_
    · exact Store.Wk.refl _
    rintro k ⟨hk, he⟩
    simp only [envL_cons, envL_nil]
    refine awp_seq ?_
    refine awp_seq ?_
    refine awp_region (by kernel_rfl) ?_
    iterate 6 (refine aL_S rfl rfl v_ ?_)
    refine aL_GT rfl rfl v_ rfl vg_ ?_
    refine aL_GT rfl rfl v_ rfl vg_ ?_
    refine aL_GT rfl rfl v_ rfl vg_ ?_
    refine aL_GT rfl rfl v_ rfl vg_ ?_
    refine aL_GT rfl rfl v_ rfl vg_ ?_
    (refine aL_S rfl rfl v_ ?_)
    refine aL_nil ?_
    refine awp_cond v_ (fun hc4 => ?_) (fun hc4 => ?_)
    · replace hc4 := nm_ hc4
      refine awp_skip ?_
      refine awp_seq ?_
      refine awp_block ?_
      refine awp_seq ?_
      obtain ⟨x, hx⟩ := get_some (l := a) (k := k) (by omega)
      obtain ⟨y, hy⟩ := get_some (l := b) (k := k) (by omega)
      have R := And.intro hx hy
      refine awp_draw (.op 0 0 (.op 1 0 (.op 2 0 (.op 3 0 (.op 4 0 (.op 5 0 (.op 6 0 (.op 7 0 (.op 8 0 (.op 9 0 (.op 10 0 (.op 11 0 (.op 12 0 (.op 13 0 (.op 14 0 (.op 15 0 (.op 16 0 (.op 17 0 (.op 18 0 (.op 19 0 (.op 20 0 (.op 21 0 (.op 22 0 (.op 23 0 (.op 24 0 (.op 25 0 (.op 26 1 (.op 27 0 (.op 28 0 .nil))))))))))))))))))))))))))))) Tryz.mixed (by kernel_rfl) ?_
      iterate 14 (refine dR_S o_ (by rfl) (by rfl) v_ ?_)
      refine dR_GF o_ (by rfl) (by rfl) v_ (by rfl) vg_ ?_
      refine dR_GF o_ (by rfl) (by rfl) v_ (by rfl) vg_ ?_
      refine dR_GF o_ (by rfl) (by rfl) v_ (by rfl) vg_ ?_
      refine dR_GF o_ (by rfl) (by rfl) v_ (by rfl) vg_ ?_
      refine dR_GF o_ (by rfl) (by rfl) v_ (by rfl) vg_ ?_
      refine dR_GF o_ (by rfl) (by rfl) v_ (by rfl) vg_ ?_
      refine dR_GF o_ (by rfl) (by rfl) v_ (by rfl) vg_ ?_
      refine dR_GF o_ (by rfl) (by rfl) v_ (by rfl) vg_ ?_
      refine dR_GF o_ (by rfl) (by rfl) v_ (by rfl) vg_ ?_
      refine dR_GF o_ (by rfl) (by rfl) v_ (by rfl) vg_ ?_
      refine dR_GF o_ (by rfl) (by rfl) v_ (by rfl) vg_ ?_
      refine dR_GF o_ (by rfl) (by rfl) v_ (by rfl) vg_ ?_
      refine dR_GFX o_ (by rfl) (by rfl) v_ (by rfl) sub_ (fun hb => AOp_useV (by rfl) (by rfl) (.inr ⟨by rfl, by rfl, by rfl⟩) g_ cg_ (same07_f (hA x (List.mem_of_getElem? hx)) (hB y (List.mem_of_getElem? hy)))) ?_
      refine dR_GF o_ (by rfl) (by rfl) v_ (by rfl) vg_ ?_
      (refine dR_S o_ (by rfl) (by rfl) v_ ?_)
      refine dR_nil ?_
      refine awp_cond v_ (fun hc6 => ?_) (fun hc6 => ?_)
      · replace hc6 := nm_ hc6
        refine awp_seq ?_
        refine awp_region (by kernel_rfl) ?_
        (refine aL_S rfl rfl v_ ?_)
        refine aL_nil ?_
        refine awp_ret ?_
        refine aEnd_ret (σ' := σ) v_ sub_ ?_
        exact ⟨by rw [decide_eq_false]; intro h; rw [h, hy] at hx; have hyx := Option.some.inj hx; subst hyx; simp at hc6, rfl⟩
      · replace hc6 := nm_ hc6
        have hxy : x = y := by have h := hc6; clear hx hy R hc6; cases x; cases y; simp_all
        refine awp_skip ?_
        refine awp_region (by kernel_rfl) ?_
        iterate 3 (refine aL_S rfl rfl v_ ?_)
        refine aL_nil ?_
        refine aNext (ι := Nat) (i := k) (k + 1) ?_ ?_ ?_ ?_
        · omega
        · exact ⟨by omega, by rw [take_snoc hx, take_snoc hy, he, hxy]⟩
        · exact cv_
        · exact sub_
    · replace hc4 := nm_ hc4
      refine awp_exit ?_
      refine aThen_exit ?_
      refine aThen_exit ?_
      refine aBlock_hit ?_
      refine awp_seq ?_
      refine awp_seq ?_
      refine awp_region (by kernel_rfl) ?_
      (refine aL_S rfl rfl v_ ?_)
      refine aL_nil ?_
      refine awp_block ?_
      refine awp_loop_env (ι := Nat) (fun j => 0 - j) (fun j => j = 0) (fun j => [(2, .ref o2 0), (3, .ref o3 0), (6, vInt j)]) (fun j => ((σ.set o2 (.cells [.sl 3 (a.map sItem) ta, .lit (.slice none 0 0)])).set o3 (.cells [.sl 3 (b.map sItem) tb, .lit (.slice none 0 0)]))) 0 ?_ ?_ ?_ ?_
      · rfl
      · exact cv_
      · exact Store.Wk.refl _
      rintro j hj
      simp only [envL_cons, envL_nil]
      refine awp_seq ?_
      refine awp_seq ?_
      refine awp_region (by kernel_rfl) ?_
      iterate 6 (refine aL_S rfl rfl v_ ?_)
      refine aL_GT rfl rfl v_ rfl vg_ ?_
      refine aL_GT rfl rfl v_ rfl vg_ ?_
      refine aL_GT rfl rfl v_ rfl vg_ ?_
      refine aL_GT rfl rfl v_ rfl vg_ ?_
      refine aL_GT rfl rfl v_ rfl vg_ ?_
      (refine aL_S rfl rfl v_ ?_)
      refine aL_nil ?_
      refine awp_cond v_ (fun hc9 => ?_) (fun hc9 => ?_)
      · replace hc9 := nm_ hc9
        subst hj; exact absurd hc9 (by decide)
      · replace hc9 := nm_ hc9
        refine awp_exit ?_
        refine aThen_exit ?_
        refine aThen_exit ?_
        refine aBlock_hit ?_
        refine awp_seq ?_
        refine awp_region (by kernel_rfl) ?_
        (refine aL_S rfl rfl v_ ?_)
        refine aL_nil ?_
        refine awp_ret ?_
        refine aEnd_ret (σ' := σ) v_ sub_ ?_
        exact ⟨by rw [decide_eq_true]; rwa [List.take_of_length_le (by omega), List.take_of_length_le (by omega)] at he, rfl⟩
end Go.Proofs.YtbomkkjhafdhiaaGreat
end

section
set_option linter.all false
set_option maxRecDepth 100000
namespace Go.Proofs.YtbomkkjhafdhiaaGreat
open Go.Ab

theorem FewC.sm {c : List Seen} (h : FewC c) : (∀ x ∈ c, SeenSm x) ∧ c.length ≤ 1000 := ⟨fun x hx => ⟨by have := (h.2 x hx).1; omega, by have := (h.2 x hx).2; omega⟩, by have := h.1; omega⟩
theorem FewO.sm {o : Obj'} (h : FewO o) : ObjSm o := ⟨h.1.sm.1, fun x hx => ⟨by have := (h.2.2 x hx).2; omega, by have := (h.2.2 x hx).1; omega⟩, h.1.sm.2, by have := h.2.1; omega⟩
def fewCb (c : List Seen) : Bool := decide (c.length ≤ 12) && c.all fun x => decide (x.node.size ≤ 100) && decide (x.more.length ≤ 40)
theorem fewCb_iff {c : List Seen} : fewCb c = true ↔ FewC c := by simp [fewCb, FewC]
def fewOb (o : Obj') : Bool := fewCb o.ctx && decide (o.sibs.length ≤ 12) && o.sibs.all fun x => decide (x.value.size ≤ 300) && decide (x.node.size ≤ 100)
theorem fewOb_iff {o : Obj'} : fewOb o = true ↔ FewO o := by simp [fewOb, FewO, fewCb_iff, and_assoc]
theorem few07_f {o : Obj'} {σ : Store} : ACalls Tryz.prog 28 [sObj o] σ fun v σ' => v = vB (fewOb o) ∧ σ = σ' :=
  few07_c.wkS fun v σ' ⟨⟨r, hv, hr⟩, hs⟩ => ⟨v, σ', .refl _, .refl _, by rw [hv, show r = fewOb o from by rw [Bool.eq_iff_iff, hr, fewOb_iff]], hs⟩
end Go.Proofs.YtbomkkjhafdhiaaGreat
end

section
set_option linter.all false
set_option maxRecDepth 100000
namespace Go.Proofs.YtbomkkjhafdhiaaGreat
open Go.Ab

def fewIt (l : List Itm) : Bool := decide (l.length ≤ 8) && l.all fun x => decide (x.place.size ≤ 100) && fewOb x.obj
/-- a row of at most n, each of which holds: what the loop says when it ends -/
theorem few_no {α : Type} {l : List α} {n k : Nat} {x : α} {p : α → Bool} (h : l[k]? = some x) (hp : p x = false) : (decide (l.length ≤ n) && l.all p) = false := by
  rw [show l.all p = false from List.all_eq_false.2 ⟨x, List.mem_of_getElem? h, by simp [hp]⟩, Bool.and_false]
theorem few_yes {α : Type} {l : List α} {n k : Nat} {p : α → Bool} (ha : (l.take k).all p = true) (hk : k ≤ l.length) (he : l.length ≤ k ∨ n ≤ k) : decide ((l.length : Int) ≤ n) = (decide (l.length ≤ n) && l.all p) := by
  by_cases h : l.length ≤ n
  · rw [decide_eq_true (by omega), decide_eq_true h]
    have : l.take k = l := List.take_of_length_le (by omega)
    rw [this] at ha; rw [ha]; rfl
  · rw [decide_eq_false (by omega), decide_eq_false h]; rfl
theorem all_next {α : Type} {l : List α} {k : Nat} {x : α} {p : α → Bool} (h : l[k]? = some x) (hp : p x = true) (ha : (l.take k).all p = true) : (l.take (k + 1)).all p = true := by
  rw [take_snoc h, List.all_append, ha]; simp [hp]
theorem fewIt_c {l : List Itm} {t : Bool} {σ : Store} : ACalls Tryz.prog 13 [.agg [.sl 3 (l.map sItem) t, .lit (.slice none 0 0)]] σ fun v σ' => v = vB (fewIt l) ∧ σ = σ' := by
  refine ACalls_of Tryz.func13 rfl Tryz.ntmps13 (congrArg Array.toList Tryz.results13) (by simp only [List.length_cons, List.length_nil]; decide) ?_; simp only [envOf_cons, envOf_nil, Nat.reduceAdd]
  refine awp_seq ?_
  refine awp_region (by kernel_rfl) ?_
  refine aL_box rfl rfl rfl v_ rfl g_ fun o1 ho1 => ?_
  repeat (rw [none_set_iff] at ho1; obtain ⟨_, ho1⟩ := ho1)
  (refine aL_S rfl rfl v_ ?_)
  refine aL_nil ?_
  refine awp_seq ?_
  refine awp_seq ?_
  refine awp_region (by kernel_rfl) ?_
  (refine aL_S rfl rfl v_ ?_)
  refine aL_nil ?_
  refine awp_block ?_
  refine awp_loop_env (ι := Nat) (fun k => l.length - k) (fun k => k ≤ l.length ∧ k ≤ 8 ∧ (l.take k).all (fun x => decide (x.place.size ≤ 100) && fewOb x.obj) = true) (fun k => [(1, .ref o1 0), (3, vInt k)]) (fun k => (σ.set o1 (.cells [.sl 3 (l.map sItem) t, .lit (.slice none 0 0)]))) 0 ?_ ?_ ?_ ?_
  · exact ⟨Nat.zero_le _, by decide, rfl⟩
  · exact cv_
  · exact Store.Wk.refl _
  rintro k ⟨hk, hk2, ha⟩
  simp only [envL_cons, envL_nil]
  refine awp_seq ?_
  refine awp_seq ?_
  refine awp_region (by kernel_rfl) ?_
  iterate 6 (refine aL_S rfl rfl v_ ?_)
  refine aL_GT rfl rfl v_ rfl vg_ ?_
  refine aL_GT rfl rfl v_ rfl vg_ ?_
  (refine aL_S rfl rfl v_ ?_)
  refine aL_nil ?_
  refine awp_cond v_ (fun hc2 => ?_) (fun hc2 => ?_)
  · replace hc2 := nm_ hc2
    refine awp_skip ?_
    refine awp_seq ?_
    refine awp_block ?_
    refine awp_seq ?_
    obtain ⟨x, hx⟩ := get_some (l := l) (k := k) (by omega)
    have R := hx
    refine awp_region (by kernel_rfl) ?_
    iterate 9 (refine aL_S rfl rfl v_ ?_)
    refine aL_GF rfl rfl v_ rfl vg_ ?_
    refine aL_GF rfl rfl v_ rfl vg_ ?_
    refine aL_GF rfl rfl v_ rfl vg_ ?_
    refine aL_GF rfl rfl v_ rfl vg_ ?_
    refine aL_GF rfl rfl v_ rfl vg_ ?_
    refine aL_GF rfl rfl v_ rfl vg_ ?_
    refine aL_GFX rfl rfl v_ rfl (fun hb => AOp_useV (by rfl) (by rfl) (.inr ⟨by rfl, by rfl, by rfl⟩) g_ cg_ (few07_f)) ?_
    refine aL_GF rfl rfl v_ rfl vg_ ?_
    (refine aL_S rfl rfl v_ ?_)
    refine aL_nil ?_
    refine awp_cond v_ (fun hc4 => ?_) (fun hc4 => ?_)
    · replace hc4 := nm_ hc4
      refine awp_seq ?_
      refine awp_region (by kernel_rfl) ?_
      (refine aL_S rfl rfl v_ ?_)
      refine aL_nil ?_
      refine awp_ret ?_
      refine aEnd_ret (σ' := σ) v_ sub_ ?_
      exact ⟨by rw [fewIt, few_no hx (by rcases hc4 with h | h; rw [decide_eq_false (by omega)]; rfl; rw [h, Bool.and_false])], rfl⟩
    · replace hc4 := nm_ hc4
      refine awp_skip ?_
      refine awp_region (by kernel_rfl) ?_
      iterate 3 (refine aL_S rfl rfl v_ ?_)
      refine aL_nil ?_
      refine aNext (ι := Nat) (i := k) (k + 1) ?_ ?_ ?_ ?_
      · omega
      · exact ⟨by omega, by omega, all_next hx (by rw [hc4.2, decide_eq_true (by omega)]; rfl) ha⟩
      · exact cv_
      · exact sub_
  · replace hc2 := nm_ hc2
    refine awp_exit ?_
    refine aThen_exit ?_
    refine aThen_exit ?_
    refine aBlock_hit ?_
    refine awp_seq ?_
    refine awp_seq ?_
    refine awp_region (by kernel_rfl) ?_
    (refine aL_S rfl rfl v_ ?_)
    refine aL_nil ?_
    refine awp_block ?_
    refine awp_loop_env (ι := Nat) (fun j => 0 - j) (fun j => j = 0) (fun j => [(1, .ref o1 0), (4, vInt j)]) (fun j => (σ.set o1 (.cells [.sl 3 (l.map sItem) t, .lit (.slice none 0 0)]))) 0 ?_ ?_ ?_ ?_
    · rfl
    · exact cv_
    · exact Store.Wk.refl _
    rintro j hj
    simp only [envL_cons, envL_nil]
    refine awp_seq ?_
    refine awp_seq ?_
    refine awp_region (by kernel_rfl) ?_
    iterate 6 (refine aL_S rfl rfl v_ ?_)
    refine aL_GT rfl rfl v_ rfl vg_ ?_
    refine aL_GT rfl rfl v_ rfl vg_ ?_
    (refine aL_S rfl rfl v_ ?_)
    refine aL_nil ?_
    refine awp_cond v_ (fun hc7 => ?_) (fun hc7 => ?_)
    · replace hc7 := nm_ hc7
      subst hj; exact absurd hc7.1 (by decide)
    · replace hc7 := nm_ hc7
      refine awp_exit ?_
      refine aThen_exit ?_
      refine aThen_exit ?_
      refine aBlock_hit ?_
      refine awp_seq ?_
      refine awp_region (by kernel_rfl) ?_
      iterate 5 (refine aL_S rfl rfl v_ ?_)
      refine aL_GT rfl rfl v_ rfl vg_ ?_
      refine aL_GT rfl rfl v_ rfl vg_ ?_
      refine aL_GT rfl rfl v_ rfl vg_ ?_
      refine aL_GT rfl rfl v_ rfl vg_ ?_
      iterate 2 (refine aL_S rfl rfl v_ ?_)
      refine aL_nil ?_
      refine awp_ret ?_
      refine aEnd_ret (σ' := σ) v_ sub_ ?_
      exact ⟨by rw [fewIt, ← few_yes ha hk (by omega)]; first | rfl | simp, rfl⟩
end Go.Proofs.YtbomkkjhafdhiaaGreat
end

section
set_option linter.all false
set_option maxRecDepth 100000
namespace Go.Ab
theorem AOp_wk {P : Program} {o : Oper} {α : Operand → AVal} {σ : Store} {a a' : AVal} {Kk : AVal → Store → Prop} (h : AOp P o α σ fun v τ => v = a ∧ τ = σ) (hw : Wk a a') (hk : Kk a' σ) : AOp P o α σ Kk :=
  fun κ ev hI hx => (h κ ev hI hx).mono fun v w ⟨κ', b, τ, h1, h2, h3, h4, hb, hτ⟩ => by
    subst hb; subst hτ
    exact ⟨κ', a', τ, h1, h2, h3, h4.wk hw, hk⟩
end Go.Ab
namespace Go.Proofs.YtbomkkjhafdhiaaGreat
open Go.Ab
theorem indexStr_c {l : List ByteArray} {x : ByteArray} {t : Bool} {σ : Store} (hn : l.length ≤ 1000000) : ACalls Tryz.prog 48 [.sl 1 (l.map vStr) t, vStr x] σ fun v σ' => (∃ r, v = vInt r ∧ decide (0 ≤ r) = l.any (fun y => decide (y = x))) ∧ σ = σ' := by
  refine ACalls_of Tryz.func48 rfl Tryz.ntmps48 (congrArg Array.toList Tryz.results48) (by simp only [List.length_cons, List.length_nil]; decide) ?_; simp only [envOf_cons, envOf_nil, Nat.reduceAdd]
  refine awp_seq ?_
  refine awp_region (by kernel_rfl) ?_
  (refine aL_S rfl rfl v_ ?_)
  refine aL_nil ?_
  refine awp_seq ?_
  refine awp_seq ?_
  refine awp_region (by kernel_rfl) ?_
  iterate 3 (refine aL_S rfl rfl v_ ?_)
  refine aL_nil ?_
  refine awp_block ?_
  refine awp_loop_env (ι := Nat) (fun k => l.length - k) (fun k => k ≤ l.length ∧ (l.take k).any (fun y => decide (y = x)) = false) (fun k => [(0, .sl 1 (l.map vStr) t), (1, vStr x), (7, vInt l.length), (8, vInt k)]) (fun k => σ) 0 ?_ ?_ ?_ ?_
  · exact ⟨Nat.zero_le _, rfl⟩
  · exact cv_
  · exact sub_
  rintro k ⟨hk, ha⟩
  simp only [envL_cons, envL_nil]
  refine awp_seq ?_
  refine awp_region (by kernel_rfl) ?_
  (refine aL_S rfl rfl v_ ?_)
  refine aL_nil ?_
  refine awp_seq ?_
  refine awp_cond v_ (fun hc2 => ?_) (fun hc2 => ?_)
  · replace hc2 := nm_ hc2
    refine awp_skip ?_
    refine awp_seq ?_
    refine awp_block ?_
    refine awp_seq ?_
    refine awp_region (by kernel_rfl) ?_
    iterate 2 (refine aL_S rfl rfl v_ ?_)
    refine aL_nil ?_
    refine awp_seq ?_
    obtain ⟨y, hy⟩ := get_some (l := l) (k := k) (by omega)
    have R := hy
    refine awp_region (by kernel_rfl) ?_
    iterate 6 (refine aL_S rfl rfl v_ ?_)
    refine aL_nil ?_
    refine awp_cond v_ (fun hc4 => ?_) (fun hc4 => ?_)
    · replace hc4 := nm_ hc4
      refine awp_seq ?_
      refine awp_region (by kernel_rfl) ?_
      iterate 2 (refine aL_S rfl rfl v_ ?_)
      refine aL_nil ?_
      refine awp_ret ?_
      refine aEnd_ret (σ' := σ) v_ sub_ ?_
      exact ⟨⟨(k : Int), rfl, by rw [decide_eq_true (by omega)]; exact (any_yes hy (decide_eq_true hc4.symm)).symm⟩, rfl⟩
    · replace hc4 := nm_ hc4
      have hxy : y ≠ x := fun h => hc4 h.symm
      refine awp_skip ?_
      refine awp_region (by kernel_rfl) ?_
      iterate 2 (refine aL_S rfl rfl v_ ?_)
      refine aL_nil ?_
      refine aNext (ι := Nat) (i := k) (k + 1) ?_ ?_ ?_ ?_
      · omega
      · exact ⟨by omega, any_next hy (decide_eq_false hxy) ha⟩
      · exact cv_
      · exact sub_
  · replace hc2 := nm_ hc2
    refine awp_exit ?_
    refine aThen_exit ?_
    refine aThen_exit ?_
    refine aBlock_hit ?_
    refine awp_seq ?_
    refine awp_region (by kernel_rfl) ?_
    (refine aL_S rfl rfl v_ ?_)
    refine aL_nil ?_
    refine awp_ret ?_
    refine aEnd_ret (σ' := σ) v_ sub_ ?_
    exact ⟨⟨-1, rfl, (any_end (by omega) ha).symm⟩, rfl⟩
theorem containsStr_c {l : List ByteArray} {x : ByteArray} {t : Bool} {σ : Store} (hn : l.length ≤ 1000000) : ACalls Tryz.prog 26 [.sl 1 (l.map vStr) t, vStr x] σ fun v σ' => v = vB (l.any fun y => decide (y = x)) ∧ σ = σ' := by
  refine ACalls_of Tryz.func26 rfl Tryz.ntmps26 (congrArg Array.toList Tryz.results26) (by simp only [List.length_cons, List.length_nil]; decide) ?_; simp only [envOf_cons, envOf_nil, Nat.reduceAdd]
  refine awp_seq ?_
  refine awp_region (by kernel_rfl) ?_
  (refine aL_S rfl rfl v_ ?_)
  refine aL_nil ?_
  refine awp_seq ?_
  refine awp_region (by kernel_rfl) ?_
  iterate 2 (refine aL_S rfl rfl v_ ?_)
  refine aL_X rfl rfl (AOp_use rfl rfl (.inr ⟨rfl, rfl, rfl⟩) g_ va_ (indexStr_c hn) ?_); rintro _ _ ⟨⟨r, rfl, hr⟩, rfl⟩
  iterate 2 (refine aL_S rfl rfl v_ ?_)
  refine aL_nil ?_
  refine awp_ret ?_
  refine aEnd_ret (σ' := σ) v_ sub_ ?_
  exact ⟨by rw [← hr], rfl⟩
theorem indexLf_c {l : List Leaf} {x : Leaf} {t : Bool} {σ : Store} (hn : l.length ≤ 1000000) : ACalls Tryz.prog 49 [.sl 2 (l.map sLeaf) t, sLeaf x] σ fun v σ' => (∃ r, v = vInt r ∧ decide (0 ≤ r) = l.any (fun y => decide (y = x))) ∧ σ = σ' := by
  refine ACalls_of Tryz.func49 rfl Tryz.ntmps49 (congrArg Array.toList Tryz.results49) (by simp only [List.length_cons, List.length_nil]; decide) ?_; simp only [envOf_cons, envOf_nil, Nat.reduceAdd]
  refine awp_seq ?_
  refine awp_region (by kernel_rfl) ?_
  refine aL_box rfl rfl rfl v_ rfl g_ fun o3 ho3 => ?_
  repeat (rw [none_set_iff] at ho3; obtain ⟨_, ho3⟩ := ho3)
  (refine aL_S rfl rfl v_ ?_)
  refine aL_nil ?_
  refine awp_seq ?_
  refine awp_seq ?_
  refine awp_region (by kernel_rfl) ?_
  iterate 3 (refine aL_S rfl rfl v_ ?_)
  refine aL_nil ?_
  refine awp_block ?_
  refine awp_loop_env (ι := Nat) (fun k => l.length - k) (fun k => k ≤ l.length ∧ (l.take k).any (fun y => decide (y = x)) = false) (fun k => [(0, .sl 2 (l.map sLeaf) t), (3, .ref o3 0), (7, vInt l.length), (8, vInt k)]) (fun k => (σ.set o3 (.cells (sLeaf x).cells))) 0 ?_ ?_ ?_ ?_
  · exact ⟨Nat.zero_le _, rfl⟩
  · exact cv_
  · exact Store.Wk.refl _
  rintro k ⟨hk, ha⟩
  simp only [envL_cons, envL_nil]
  refine awp_seq ?_
  refine awp_region (by kernel_rfl) ?_
  (refine aL_S rfl rfl v_ ?_)
  refine aL_nil ?_
  refine awp_seq ?_
  refine awp_cond v_ (fun hc2 => ?_) (fun hc2 => ?_)
  · replace hc2 := nm_ hc2
    refine awp_skip ?_
    refine awp_seq ?_
    refine awp_block ?_
    refine awp_seq ?_
    refine awp_region (by kernel_rfl) ?_
    iterate 2 (refine aL_S rfl rfl v_ ?_)
    refine aL_nil ?_
    refine awp_seq ?_
    obtain ⟨y, hy⟩ := get_some (l := l) (k := k) (by omega)
    have R := hy
    refine awp_draw (.op 0 0 (.op 1 0 (.op 2 0 (.op 3 0 (.op 4 0 (.op 5 0 .nil)))))) Tryz.mixed (by kernel_rfl) ?_
    iterate 6 (refine dR_S o_ (by rfl) (by rfl) v_ ?_)
    refine dR_nil ?_
    refine awp_cond v_ (fun hc4 => ?_) (fun hc4 => ?_)
    · replace hc4 := nm_ hc4
      have hxy : y = x := by have h := hc4; clear hc4 hy R; cases x; cases y; simp at h ⊢; exact ⟨h.1.symm, h.2.symm⟩
      refine awp_seq ?_
      refine awp_region (by kernel_rfl) ?_
      iterate 2 (refine aL_S rfl rfl v_ ?_)
      refine aL_nil ?_
      refine awp_ret ?_
      refine aEnd_ret (σ' := σ) v_ sub_ ?_
      exact ⟨⟨(k : Int), rfl, by rw [decide_eq_true (by omega)]; exact (any_yes hy (decide_eq_true hxy)).symm⟩, rfl⟩
    · replace hc4 := nm_ hc4
      have hxy : y ≠ x := fun h => by rw [h] at hc4; simp at hc4
      refine awp_skip ?_
      refine awp_region (by kernel_rfl) ?_
      iterate 2 (refine aL_S rfl rfl v_ ?_)
      refine aL_nil ?_
      refine aNext (ι := Nat) (i := k) (k + 1) ?_ ?_ ?_ ?_
      · omega
      · exact ⟨by omega, any_next hy (decide_eq_false hxy) ha⟩
      · exact cv_
      · exact sub_
  · replace hc2 := nm_ hc2
    refine awp_exit ?_
    refine aThen_exit ?_
    refine aThen_exit ?_
    refine aBlock_hit ?_
    refine awp_seq ?_
    refine awp_region (by kernel_rfl) ?_
    (refine aL_S rfl rfl v_ ?_)
    refine aL_nil ?_
    refine awp_ret ?_
    refine aEnd_ret (σ' := σ) v_ sub_ ?_
    exact ⟨⟨-1, rfl, (any_end (by omega) ha).symm⟩, rfl⟩
theorem containsLf_c {l : List Leaf} {x : Leaf} {t : Bool} {σ : Store} (hn : l.length ≤ 1000000) : ACalls Tryz.prog 27 [.sl 2 (l.map sLeaf) t, sLeaf x] σ fun v σ' => v = vB (l.any fun y => decide (y = x)) ∧ σ = σ' := by
  refine ACalls_of Tryz.func27 rfl Tryz.ntmps27 (congrArg Array.toList Tryz.results27) (by simp only [List.length_cons, List.length_nil]; decide) ?_; simp only [envOf_cons, envOf_nil, Nat.reduceAdd]
  refine awp_seq ?_
  refine awp_region (by kernel_rfl) ?_
  refine aL_box rfl rfl rfl v_ rfl g_ fun o3 ho3 => ?_
  repeat (rw [none_set_iff] at ho3; obtain ⟨_, ho3⟩ := ho3)
  (refine aL_S rfl rfl v_ ?_)
  refine aL_nil ?_
  refine awp_seq ?_
  refine awp_region (by kernel_rfl) ?_
  iterate 2 (refine aL_S rfl rfl v_ ?_)
  refine aL_X rfl rfl (AOp_use rfl rfl (.inr ⟨rfl, rfl, rfl⟩) g_ va_ (indexLf_c (x := x) hn) ?_); rintro _ _ ⟨⟨r, rfl, hr⟩, rfl⟩
  iterate 2 (refine aL_S rfl rfl v_ ?_)
  refine aL_nil ?_
  refine awp_ret ?_
  refine aEnd_ret (σ' := σ) v_ sub_ ?_
  exact ⟨by rw [← hr], rfl⟩
def hasL (T : List Leaf) (x : Leaf) : Bool := T.any fun y => decide (y = x)
def sendS (M T : List Leaf) : List ByteArray := (M.filter fun x => !hasL T x).map Leaf.place
theorem sendS_yes {M T : List Leaf} {k : Nat} {x : Leaf} (h : M[k]? = some x) (hx : hasL T x = false) : (sendS (M.take (k + 1)) T).map vStr = (sendS (M.take k) T).map vStr ++ [vStr x.place] := by
  rw [take_snoc h, sendS, List.filter_append, List.map_append, List.map_append]; simp [sendS, hx]
theorem sendS_no {M T : List Leaf} {k : Nat} {x : Leaf} (h : M[k]? = some x) (hx : hasL T x = true) : (sendS (M.take (k + 1)) T).map vStr = (sendS (M.take k) T).map vStr := by
  rw [take_snoc h, sendS, List.filter_append, List.map_append, List.map_append]; simp [sendS, hx]
theorem sendS_len (M T : List Leaf) : (sendS M T).length ≤ M.length := by rw [sendS, List.length_map]; exact List.length_filter_le ..
theorem send_c {M T : List Leaf} {ta tb : Bool} {σ : Store} (hm : M.length ≤ 1000000) (ht : T.length ≤ 1000000) : ACalls Tryz.prog 11 [.sl 2 (M.map sLeaf) ta, .sl 2 (T.map sLeaf) tb] σ fun v σ' => v = .sl 1 ((sendS M T).map vStr) false ∧ σ = σ' := by
  refine ACalls_of Tryz.func11 rfl Tryz.ntmps11 (congrArg Array.toList Tryz.results11) (by simp only [List.length_cons, List.length_nil]; decide) ?_; simp only [envOf_cons, envOf_nil, Nat.reduceAdd]
  refine awp_seq ?_
  refine awp_region (by kernel_rfl) ?_
  (refine aL_S rfl rfl v_ ?_)
  refine aL_nil ?_
  refine awp_seq ?_
  refine awp_region (by kernel_rfl) ?_
  refine aL_nilOwn 9 1 rfl rfl rfl (by rfl) fun k5 hk5 => ?_
  refine aL_nil ?_
  refine awp_seq ?_
  refine awp_seq ?_
  refine awp_region (by kernel_rfl) ?_
  iterate 3 (refine aL_S rfl rfl v_ ?_)
  refine aL_nil ?_
  refine awp_block ?_
  refine awp_loop_env (ι := Nat × Nat) (fun ⟨tk, k⟩ => M.length - k) (fun ⟨tk, k⟩ => k ≤ M.length ∧ σ.tok tk = none) (fun ⟨tk, k⟩ => [(1, .sl 2 (T.map sLeaf) tb), (5, .own tk 1 ((sendS (M.take k) T).map vStr)), (8, .sl 2 (M.map sLeaf) ta), (9, vInt M.length), (10, vInt k)]) (fun ⟨tk, k⟩ => (σ.newTok none tk (9, 1))) (k5, 0) ?_ ?_ ?_ ?_
  · exact ⟨Nat.zero_le _, hk5⟩
  · exact cv_
  · exact Store.Wk.refl _
  rintro ⟨tk, k⟩ ⟨hk, htk⟩
  simp only [envL_cons, envL_nil]
  refine awp_seq ?_
  refine awp_region (by kernel_rfl) ?_
  (refine aL_S rfl rfl v_ ?_)
  refine aL_nil ?_
  refine awp_seq ?_
  refine awp_cond v_ (fun hc3 => ?_) (fun hc3 => ?_)
  · replace hc3 := nm_ hc3
    refine awp_skip ?_
    refine awp_seq ?_
    refine awp_block ?_
    refine awp_seq ?_
    obtain ⟨x, hx⟩ := get_some (l := M) (k := k) (by omega)
    have hlen : (sendS (M.take k) T).length ≤ k := Nat.le_trans (sendS_len _ _) (by simp; omega)
    have R := hx
    refine awp_region (by kernel_rfl) ?_
    iterate 2 (refine aL_S rfl rfl v_ ?_)
    refine aL_alloc rfl rfl rfl g_ gl_ fun o7 ho7 => ?_
    repeat (rw [none_set_iff] at ho7; obtain ⟨_, ho7⟩ := ho7)
    refine aL_store rfl rfl rfl v_ v_ h_ g_ rfl g_ c_ (by rfl) le_ v_ ?_
    refine aL_nil ?_
    refine awp_seq ?_
    refine awp_region (by kernel_rfl) ?_
    iterate 2 (refine aL_S rfl rfl v_ ?_)
    refine aL_X rfl rfl (AOp_use rfl rfl (.inr ⟨rfl, rfl, rfl⟩) g_ va_ (containsLf_c (x := x) ht) ?_); rintro _ _ ⟨rfl, rfl⟩
    (refine aL_S rfl rfl v_ ?_)
    refine aL_nil ?_
    refine awp_cond v_ (fun hc5 => ?_) (fun hc5 => ?_)
    · replace hc5 := nm_ hc5
      have hcov := sendS_yes (T := T) hx hc5
      refine awp_region (by kernel_rfl) ?_
      iterate 3 (refine aL_S rfl rfl v_ ?_)
      refine aL_buildSlice rfl rfl rfl g_ g_ rfl rfl h_ c2_ (by decide) ?_
      refine aL_append rfl rfl rfl g_ g_ v_ h_ v_ c_ (by simp; omega) fun k22 hk22 => ?_
      (refine aL_S rfl rfl v_ ?_)
      refine aL_nil ?_
      refine awp_region (by kernel_rfl) ?_
      iterate 2 (refine aL_S rfl rfl v_ ?_)
      refine aL_nil ?_
      refine aNext (ι := Nat × Nat) (i := ⟨tk, k⟩) (k22, k + 1) ?_ ?_ ?_ ?_
      · show M.length - (k + 1) < M.length - k; omega
      · exact ⟨by show k + 1 ≤ M.length; omega, (newTok_none hk22).2⟩
      · have R := hcov; exact cv_
      · exact sub_
    · replace hc5 := nm_ hc5
      have hcov := sendS_no (T := T) hx (by first | exact hc5 | simpa [hasL] using hc5)
      refine awp_skip ?_
      refine awp_region (by kernel_rfl) ?_
      iterate 2 (refine aL_S rfl rfl v_ ?_)
      refine aL_nil ?_
      refine aNext (ι := Nat × Nat) (i := ⟨tk, k⟩) (tk, k + 1) ?_ ?_ ?_ ?_
      · show M.length - (k + 1) < M.length - k; omega
      · exact ⟨by show k + 1 ≤ M.length; omega, htk⟩
      · have R := hcov; exact cv_
      · exact sub_
  · replace hc3 := nm_ hc3
    refine awp_exit ?_
    refine aThen_exit ?_
    refine aThen_exit ?_
    refine aBlock_hit ?_
    refine awp_seq ?_
    obtain rfl : k = M.length := by omega
    rw [List.take_length]
    refine awp_region (by kernel_rfl) ?_
    iterate 2 (refine aL_S rfl rfl v_ ?_)
    refine aL_nil ?_
    refine awp_ret ?_
    exact aEnd_retW (v := .sl 1 ((sendS M T).map vStr) false) (v' := .own tk 1 ((sendS M T).map vStr)) va_ (.own1 _ _ _) sub_ ⟨rfl, rfl⟩
theorem want_c {M T : List Leaf} {ta tb : Bool} {σ : Store} (hm : M.length ≤ 1000000) (ht : T.length ≤ 1000000) : ACalls Tryz.prog 12 [.sl 2 (M.map sLeaf) ta, .sl 2 (T.map sLeaf) tb] σ fun v σ' => v = .sl 1 ((sendS T M).map vStr) false ∧ σ = σ' := by
  refine ACalls_of Tryz.func12 rfl Tryz.ntmps12 (congrArg Array.toList Tryz.results12) (by simp only [List.length_cons, List.length_nil]; decide) ?_; simp only [envOf_cons, envOf_nil, Nat.reduceAdd]
  refine awp_seq ?_
  refine awp_region (by kernel_rfl) ?_
  (refine aL_S rfl rfl v_ ?_)
  refine aL_nil ?_
  refine awp_seq ?_
  refine awp_region (by kernel_rfl) ?_
  iterate 2 (refine aL_S rfl rfl v_ ?_)
  refine aL_X rfl rfl (AOp_use rfl rfl (.inr ⟨rfl, rfl, rfl⟩) g_ va_ (send_c ht hm) ?_); rintro _ _ ⟨rfl, rfl⟩
  (refine aL_S rfl rfl v_ ?_)
  refine aL_nil ?_
  refine awp_ret ?_
  refine aEnd_ret (σ' := σ) v_ sub_ ?_
  exact ⟨rfl, rfl⟩
end Go.Proofs.YtbomkkjhafdhiaaGreat
end

section
set_option linter.all false
namespace Go.Ab
theorem awp_gen {P : Program} {n : Nat} {c : Code} {Q : Exit → Env → Store → Prop} {e : Env} {σ : Store} (h : ∀ S, S = σ → awp P n c Q e S) : awp P n c Q e σ := h σ rfl
section
variable {S S0 σ : Store} {o i : Nat} {x y z : AObj}
theorem gen_get (h : S = (S0.set o x).set o y) : S.heap o = some y := by rw [h]; exact Store.set_get ..
theorem gen_keep (h : S = (S0.set o x).set o y) (ho : S0.heap o = none) (hi : S0.heap i = some z) : S.heap i = some z := by
  have hne : i ≠ o := fun hh => by rw [hh, ho] at hi; cases hi
  rw [h, Store.set_ne _ _ hne, Store.set_ne _ _ hne]; exact hi
end
end Go.Ab
end

section
set_option linter.all false
namespace Go.Ab
open Go.RowKit (Below)
open Go.ChangeShapes Go.WideShapes

/-- the shape of a type of data -/
inductive Sh where
  | int (k : IntKind)
  | bool
  | str
  | sl (g : Bool) (e : Sh)
  | unit
  | pair (a b : Sh)

def Sh.size : Sh → Nat
  | .unit => 0
  | .pair a b => a.size + b.size
  | _ => 1

/-- cells of a shape -/
def Sh.ok : Sh → List AVal → Prop
  | .int k, cs => ∃ n, cs = [.lit (.int k n)] ∧ (Lit.int k n).wf = true
  | .bool, cs => ∃ b, cs = [.lit (.bool b)]
  | .str, cs => ∃ s, cs = [.lit (.string s)] ∧ s.size ≤ maxLen
  | .sl g e, cs => ∃ l : List AVal, cs = [.sl e.size l false] ∧ l.length ≤ maxLen ∧ ∀ x ∈ l, ∃ c, e.ok c ∧ (if g then x = .agg c else c = [x])
  | .unit, cs => cs = []
  | .pair a b, cs => ∃ c d, cs = c ++ d ∧ a.ok c ∧ b.ok d

def Sh.okv (s : Sh) (g : Bool) (a : AVal) : Prop := ∃ c, s.ok c ∧ (if g then a = .agg c else c = [a])

def fieldsSh (sh : TypeId → Option Sh) (P : Program) : List Field → Nat → Option Sh
  | [], _ => some .unit
  | f :: fs, off => if f.offset = off then match sh f.type with
      | some s => if s.size = P.cellsOf f.type then (fieldsSh sh P fs (off + s.size)).map (.pair s) else none
      | none => none
    else none

def repSh (s : Sh) : Nat → Sh
  | 0 => .unit
  | n + 1 => .pair s (repSh s n)

def shapeOf (P : Program) : Nat → TypeId → Option Sh
  | 0, _ => none
  | d + 1, t => match P.underlying t with
    | some .bool => some .bool
    | some (.int k) => some (.int k)
    | some .string => some .str
    | some (.slice e) => match shapeOf P d e with
      | some s => if s.size = P.cellsOf e ∧ 0 < s.size ∧ (aggB P e = false → s.size = 1) then some (.sl (aggB P e) s) else none
      | none => none
    | some (.struct fs) => match fieldsSh (shapeOf P d) P fs.toList 0 with
      | some s => if s.size = P.cellsOf t then some s else none
      | none => none
    | some (.array n e) => match shapeOf P d e with
      | some s => if s.size = P.cellsOf e ∧ P.cellsOf t = n * s.size then some (repSh s n) else none
      | none => none
    | _ => none

theorem Sh.ok_length : ∀ {s : Sh} {cs : List AVal}, s.ok cs → cs.length = s.size
  | .int k, cs, h => by obtain ⟨n, rfl, _⟩ := h; rfl
  | .bool, cs, h => by obtain ⟨n, rfl⟩ := h; rfl
  | .str, cs, h => by obtain ⟨n, rfl, _⟩ := h; rfl
  | .sl g e, cs, h => by obtain ⟨n, rfl, _⟩ := h; rfl
  | .unit, cs, h => by obtain rfl : cs = [] := h; rfl
  | .pair a b, cs, h => by
    obtain ⟨c, d, rfl, h1, h2⟩ := h
    simp [Sh.size, Sh.ok_length h1, Sh.ok_length h2]

theorem pickList {p : Nat → AVal → Prop} : ∀ (n : Nat), (∀ i, i < n → ∃ x, p i x) → ∃ l : List AVal, l.length = n ∧ ∀ i (hi : i < l.length), p i l[i]
  | 0, _ => ⟨[], rfl, fun i hi => by simp at hi⟩
  | n + 1, h => by
    obtain ⟨l, hl, hp⟩ := pickList n fun i hi => h i (by omega)
    obtain ⟨x, hx⟩ := h n (by omega)
    refine ⟨l ++ [x], by simp [hl], fun i hi => ?_⟩
    by_cases hlt : i < l.length
    · rw [List.getElem_append_left hlt]; exact hp i hlt
    · have : i = n := by simp at hi; omega
      subst this
      rw [List.getElem_append_right (by omega)]
      simpa [hl] using hx

section
variable {H : Type} {enc : TypeId × Value → H} {P : Program} {κ : K} {held : Bool}

theorem cells?_at {w : World} {base : Nat} {a : Addr} {n : Nat} {cs : List Value} (h : w.cells? base a n = some cs) : cs.length = n ∧ ∀ i (hi : i < cs.length), w.cell? (a.add i) = some cs[i] := by
  unfold World.cells? at h
  split at h
  · have hl : cs.length = n := by
      have := mapM_len h
      simpa using this
    refine ⟨hl, fun i hi => ?_⟩
    have := mapM_at h i (by simpa [hl] using hi) hi
    simpa using this
  · cases h
where
  mapM_len {α β : Type} {f : α → Option β} : ∀ {l : List α} {r : List β}, l.mapM f = some r → r.length = l.length
    | [], r, h => by simp at h; subst h; rfl
    | x :: l, r, h => by
      rw [List.mapM_cons] at h
      obtain ⟨y, _, h2⟩ := Option.bind_eq_some_iff.1 h
      obtain ⟨ys, h3, h4⟩ := Option.bind_eq_some_iff.1 h2
      obtain rfl := Option.some.inj h4
      simp [mapM_len h3]
  mapM_at {α β : Type} {f : α → Option β} : ∀ {l : List α} {r : List β}, l.mapM f = some r → ∀ i (hi : i < l.length) (hj : i < r.length), f l[i] = some r[i]
    | [], r, h, i, hi, _ => by simp at hi
    | x :: l, r, h, i, hi, hj => by
      rw [List.mapM_cons] at h
      obtain ⟨y, h1, h2⟩ := Option.bind_eq_some_iff.1 h
      obtain ⟨ys, h3, h4⟩ := Option.bind_eq_some_iff.1 h2
      obtain rfl := Option.some.inj h4
      cases i with
      | zero => simpa using h1
      | succ i => simpa using mapM_at h3 i (by simpa using hi) (by simpa using hj)

def Reads (enc : TypeId × Value → H) (P : Program) (κ : K) (held : Bool) (d : Nat) : Prop :=
  ∀ (t : TypeId) (s : Sh) (fuel : Nat) (cs : List Value) (x : DataW H × List MemPlace), shapeOf P d t = some s → DataW.trod enc P κ.w 0 (fun _ => true) held fuel t cs = some x → ∃ av, s.ok av ∧ RvC κ av cs

theorem read_fields {d : Nat} (ih : Reads enc P κ held d) {n : Nat} {cs : List Value} : ∀ (fs : List Field) (off : Nat) (s : Sh), fieldsSh (shapeOf P d) P fs off = some s → off + s.size ≤ cs.length →
    (∀ (i : Nat) (f : Field), fs[i]? = some f → ∃ y, DataW.trod enc P κ.w 0 (fun _ => true) held n f.type ((cs.drop f.offset).take (P.cellsOf f.type)) = some y) → ∃ av, s.ok av ∧ RvC κ av ((cs.drop off).take s.size)
  | [], off, s, hs, _, _ => by
    obtain rfl := Option.some.inj hs
    exact ⟨[], rfl, by simp [Sh.size], fun i hi => by simp at hi⟩
  | f :: fs, off, s, hs, hle, hf => by
    unfold fieldsSh at hs
    split at hs
    · rename_i ho
      split at hs
      · rename_i s1 h1
        split at hs
        · rename_i hsz
          obtain ⟨s2, h2, rfl⟩ := Option.map_eq_some_iff.1 hs
          simp only [Sh.size] at hle ⊢
          obtain ⟨y, hy⟩ := hf 0 f rfl
          obtain ⟨av, ha1, ha2⟩ := ih f.type s1 n _ y h1 hy
          obtain ⟨bs, hb1, hb2⟩ := read_fields ih fs (off + s1.size) s2 h2 (by omega) fun i g hg => hf (i + 1) g (by simpa using hg)
          refine ⟨av ++ bs, ⟨av, bs, rfl, ha1, hb1⟩, ?_⟩
          have e : (cs.drop off).take (s1.size + s2.size) = (cs.drop f.offset).take (P.cellsOf f.type) ++ (cs.drop (off + s1.size)).take s2.size := by
            rw [List.take_add, ho, ← hsz, List.drop_drop]
          rw [e]
          exact ha2.append hb2
        · cases hs
      · cases hs
    · cases hs

theorem read_rep {s : Sh} {cs : List Value} : ∀ (n off : Nat), (∀ i, i < n → ∃ av, s.ok av ∧ RvC κ av ((cs.drop (off + i * s.size)).take s.size)) → ∃ av, (repSh s n).ok av ∧ RvC κ av ((cs.drop off).take (n * s.size))
  | 0, off, _ => ⟨[], rfl, by simp, fun i hi => by simp at hi⟩
  | n + 1, off, h => by
    obtain ⟨av, ha1, ha2⟩ := h 0 (by omega)
    obtain ⟨bs, hb1, hb2⟩ := read_rep n (off + s.size) fun i hi => by
      have := h (i + 1) (by omega)
      rwa [show off + (i + 1) * s.size = off + s.size + i * s.size by rw [Nat.succ_mul]; omega] at this
    refine ⟨av ++ bs, ⟨av, bs, rfl, ha1, hb1⟩, ?_⟩
    have e : (cs.drop off).take ((n + 1) * s.size) = (cs.drop (off + 0 * s.size)).take s.size ++ (cs.drop (off + s.size)).take (n * s.size) := by
      rw [show (n + 1) * s.size = s.size + n * s.size by rw [Nat.succ_mul]; omega, List.take_add, List.drop_drop]; simp
    rw [e]
    exact ha2.append hb2

theorem Sh.ok_one {d : Nat} {t : TypeId} {s : Sh} {av : List AVal} (hs : shapeOf P d t = some s) (hg : aggB P t = false) (h : s.ok av) : ∃ x, av = [x] ∧ x.cells = [x] := by
  cases d with
  | zero => cases hs
  | succ d =>
    unfold shapeOf at hs
    split at hs
    · obtain rfl := Option.some.inj hs; obtain ⟨b, rfl⟩ := h; exact ⟨_, rfl, rfl⟩
    · obtain rfl := Option.some.inj hs; obtain ⟨b, rfl, _⟩ := h; exact ⟨_, rfl, rfl⟩
    · obtain rfl := Option.some.inj hs; obtain ⟨b, rfl, _⟩ := h; exact ⟨_, rfl, rfl⟩
    · split at hs
      · split at hs
        · obtain rfl := Option.some.inj hs; obtain ⟨b, rfl, _⟩ := h; exact ⟨_, rfl, rfl⟩
        · cases hs
      · cases hs
    · rename_i fs ht; simp [aggB, ht] at hg
    · rename_i fs ht; simp [aggB, ht] at hg
    · cases hs

theorem reads (hI : ∀ b off v, κ.w.cell? ⟨b, off, none⟩ = some v → off < κ.I b) : ∀ d, Reads enc P κ held d
  | 0 => fun t s fuel cs x hs _ => by cases hs
  | d + 1 => fun t s fuel cs x hs hx => by
    have ih := reads hI d
    have hs0 := hs
    unfold shapeOf at hs
    split at hs
    · rename_i ht
      obtain rfl := Option.some.inj hs
      obtain ⟨b, rfl, _⟩ := DataW.trod_bool ht hx
      exact ⟨_, ⟨b, rfl⟩, .one (.lit _)⟩
    · rename_i k ht
      obtain rfl := Option.some.inj hs
      obtain ⟨b, rfl, _, hw⟩ := DataW.trod_int ht hx
      exact ⟨_, ⟨b, rfl, hw⟩, .one (.lit _)⟩
    · rename_i ht
      obtain rfl := Option.some.inj hs
      obtain ⟨b, rfl, _, hw⟩ := DataW.trod_string ht hx
      exact ⟨_, ⟨b, rfl, hw⟩, .one (.lit _)⟩
    · rename_i e ht
      split at hs
      · rename_i s1 h1
        split at hs
        · rename_i hc
          obtain ⟨hsz, hpos, hone⟩ := hc
          obtain rfl := Option.some.inj hs
          rcases DataW.trod_slice ht hx with ⟨rfl, _⟩ | ⟨a, len, cap, elems, rest, n, _, rfl, _, _, hl, hm, hlen, hel, hsp, _⟩
          · exact ⟨_, ⟨[], rfl, by simp, by simp⟩, .one (.slNil _ _)⟩
          · have each : ∀ i, i < cap → ∃ cs' y, κ.w.cells? 0 (a.add (i * P.cellsOf e)) (P.cellsOf e) = some cs' ∧ DataW.trod enc P κ.w 0 (fun _ => true) held n e cs' = some y := by
              intro i hi
              by_cases hil : i < len
              · have := hel i hil
                rw [List.getElem?_eq_getElem (by omega)] at this
                obtain ⟨cs', q1, q2⟩ := Option.bind_eq_some_iff.1 this
                exact ⟨cs', _, q1, q2⟩
              · obtain ⟨hr, hj⟩ := hsp rfl
                have := hj (i - len) (by omega)
                rw [show len + (i - len) = i by omega, List.getElem?_eq_getElem (by omega)] at this
                obtain ⟨cs', q1, q2⟩ := Option.bind_eq_some_iff.1 this
                exact ⟨cs', _, q1, q2⟩
            by_cases hcap : cap = 0
            · subst hcap
              obtain rfl : len = 0 := by omega
              exact ⟨_, ⟨[], rfl, by simp, by simp⟩, .one (.slE _ _ a)⟩
            · have hspot : a.spot = none := by
                obtain ⟨cs', y, q1, _⟩ := each 0 (by omega)
                obtain ⟨r1, r2⟩ := cells?_at q1
                have := r2 0 (by omega)
                rw [Nat.zero_mul] at this
                exact World.cell?_spot (by simpa [Addr.add] using this)
              obtain ⟨b, off, spot⟩ := a
              subst hspot
              have each' : ∀ i, i < len → ∃ x : AVal, x.cells.length = s1.size ∧ (∃ c, s1.ok c ∧ (if aggB P e then x = .agg c else c = [x])) ∧
                  ∀ j (hj : j < x.cells.length), ∃ v, κ.w.cell? ⟨b, off + (i * s1.size + j), none⟩ = some v ∧ Rv κ x.cells[j] v := by
                intro i hi
                obtain ⟨cs', y, q1, q2⟩ := each i (by omega)
                obtain ⟨r1, r2⟩ := cells?_at q1
                obtain ⟨av, ha, hr⟩ := ih e s1 n cs' y h1 q2
                have hal := Sh.ok_length ha
                obtain ⟨x, hxc, hxo⟩ : ∃ x : AVal, x.cells = av ∧ (∃ c, s1.ok c ∧ (if aggB P e then x = .agg c else c = [x])) := by
                  cases hg : aggB P e with
                  | true => exact ⟨.agg av, rfl, av, ha, by simp⟩
                  | false =>
                    obtain ⟨x, rfl, hx⟩ := Sh.ok_one h1 hg ha
                    exact ⟨x, hx, [x], ha, by simp⟩
                refine ⟨x, by rw [hxc]; exact hal, hxo, fun j hj => ?_⟩
                have hj' : j < cs'.length := by rw [← hr.1, ← hxc]; exact hj
                refine ⟨cs'[j], ?_, ?_⟩
                · have := r2 j hj'
                  rw [← hsz] at this
                  rw [← this]
                  simp only [Addr.add]
                  congr 1
                  by_cases h0 : i * s1.size = 0
                  · rw [if_pos h0, h0]
                    by_cases hj0 : j = 0
                    · simp [hj0]
                    · simp [hj0]
                  · rw [if_neg h0]
                    by_cases hj0 : j = 0
                    · simp [hj0]
                    · simp [hj0]; omega
                · have := hr.2 j (by rw [← hxc]; exact hj) hj'
                  simp only [hxc]
                  exact this
              obtain ⟨l, hll, hlp⟩ := pickList len each'
              have hszl : ∀ x ∈ l, x.cells.length = s1.size := fun x hx => by
                obtain ⟨i, hi, rfl⟩ := List.getElem_of_mem hx
                exact (hlp i hi).1
              refine ⟨[.sl s1.size l false], ⟨l, rfl, by omega, fun x hx => ?_⟩, .one ?_⟩
              · obtain ⟨i, hi, rfl⟩ := List.getElem_of_mem hx
                exact (hlp i hi).2.1
              · have at_ : ∀ k (hk : k < (flat l).length), ∃ v, κ.w.cell? ⟨b, off + k, none⟩ = some v ∧ Rv κ (flat l)[k] v := by
                  intro k hk
                  obtain ⟨hi, hj, e1⟩ := flat_at hszl k hk
                  obtain ⟨v, hv1, hv2⟩ := (hlp _ hi).2.2 _ hj
                  rw [show k / s1.size * s1.size + k % s1.size = k by rw [Nat.mul_comm]; exact Nat.div_add_mod k s1.size] at hv1
                  exact ⟨v, hv1, by rw [e1]; exact hv2⟩
                have := Rv.sl (κ := κ) s1.size l false b off cap (fun k => (κ.w.cell? ⟨b, off + k, none⟩).getD undef) (by omega) (by simp) hszl
                  (fun k hk => by obtain ⟨v, hv1, _⟩ := at_ k hk; exact ⟨hI _ _ _ hv1, by simp [hv1]⟩)
                  (fun k hk => by obtain ⟨v, hv1, hv2⟩ := at_ k hk; simpa [hv1] using hv2)
                rwa [hll] at this
        · cases hs
      · cases hs
    · rename_i fs ht
      split at hs
      · rename_i s1 h1
        split at hs
        · rename_i hc
          obtain rfl := Option.some.inj hs
          obtain ⟨xs, n, _, _, hcl, hxl, hf⟩ := DataW.trod_struct ht hx
          obtain ⟨av, ha, hr⟩ := read_fields (cs := cs) (n := n) ih fs.toList 0 s1 h1 (by omega) fun i f hfi => by
            have hfi' : fs[i]? = some f := by simpa using hfi
            have := hf i f hfi'
            have hlt : i < xs.length := by rw [hxl]; exact (Array.getElem?_eq_some_iff.1 hfi').1
            rw [List.getElem?_eq_getElem hlt] at this
            exact ⟨_, this⟩
          refine ⟨av, ha, ?_⟩
          rw [List.drop_zero, List.take_of_length_le (by omega)] at hr
          exact hr
        · cases hs
      · cases hs
    · rename_i n e ht
      split at hs
      · rename_i s1 h1
        split at hs
        · rename_i hc
          obtain rfl := Option.some.inj hs
          obtain ⟨xs, m, _, _, hcl, hxl, hf⟩ := DataW.trod_array ht hx
          obtain ⟨av, ha, hr⟩ := read_rep (κ := κ) (s := s1) (cs := cs) n 0 fun i hi => by
            have := hf i hi
            rw [List.getElem?_eq_getElem (by omega), ← hc.1] at this
            rw [Nat.zero_add]
            exact ih e s1 m _ _ h1 this
          refine ⟨av, ha, ?_⟩
          rw [List.drop_zero, List.take_of_length_le (by rw [hcl, hc.2]; omega)] at hr
          exact hr
        · cases hs
      · cases hs
    · cases hs

/-- an argument -/
theorem read_arg (hI : ∀ b off v, κ.w.cell? ⟨b, off, none⟩ = some v → off < κ.I b) {d base : Nat} {r : Reach} {W : World} {t : TypeId} {s : Sh} {g : Bool} {v : Value} {x : DataW H} {ps : List MemPlace} (hs : shapeOf P d t = some s) (hg : aggB P t = g)
    (hval : Value.okWide P W r base t v) (h : DataW.Trod enc P κ.w 0 (fun _ => true) held t v x ps) : ∃ a, Rv κ a v ∧ s.okv g a := by
  subst hg
  obtain ⟨fuel, hf⟩ := h
  obtain ⟨av, ha, hr⟩ := reads hI d t s fuel _ _ hs hf
  cases hg : aggB P t with
  | true =>
    have : ∃ cs, v = .agg cs := by
      unfold Value.okWide at hval
      unfold aggB at hg
      split at hval <;> simp_all
      · obtain ⟨cs, rfl, _⟩ := hval; exact ⟨cs, rfl⟩
      · obtain ⟨cs, rfl, _⟩ := hval; exact ⟨cs, rfl⟩
    obtain ⟨cs, rfl⟩ := this
    refine ⟨.agg av, .agg av cs ?_ fun i hi => ?_, av, ha, by simp⟩
    · have := hr.1; simpa [Value.cells] using this.symm
    · have hl : av.length = cs.size := by have := hr.1; simpa [Value.cells] using this
      have := hr.2 i hi (by simp [Value.cells]; omega)
      simpa [Value.cells, show i < cs.size by omega] using this
  | false =>
    obtain ⟨x, rfl, hx⟩ := Sh.ok_one hs hg ha
    have hv : v.cells = #[v] := by
      unfold Value.okWide at hval
      unfold aggB at hg
      split at hval
      · simp_all
      · simp_all
      · unfold Cell.okWide at hval
        split at hval <;> first | rfl | skip
        unfold Cell.ok at hval
        split at hval <;> first | rfl | exact hval.elim
    refine ⟨x, ?_, [x], ha, by simp⟩
    have := hr.2 0 (by simp) (by rw [hv]; simp)
    simpa [hv] using this

/-- at the beginning nothing is written -/
def kOf (W : World) : K := { w := W, base := W.heap.size, ρ := fun _ => none, τ := fun _ => none, I := fun b => match W.heap[b]? with | some (.cells c _ _) => c.size | _ => 0 }

def s0 : Store := { heap := fun _ => none, tok := fun _ => none }

theorem kOf_imm (W : World) : ∀ b off v, (kOf W).w.cell? ⟨b, off, none⟩ = some v → off < (kOf W).I b := by
  intro b off v h
  simp only [kOf, World.cell?] at *
  cases hb : W.heap[b]? with
  | none => simp [hb] at h
  | some o =>
    rw [hb] at h
    cases o <;> simp_all
    have := (Array.getElem?_eq_some_iff.1 h).1
    omega

theorem kOf_inv (W : World) (hG : Glob W W.heap.size) : Inv (kOf W) s0 where
  glob := hG
  base := Nat.le_refl _
  heap o x e := by cases e
  inj o o' x x' b e := by cases e
  tok t sz e := by cases e
  tokinj t t' sz sz' v v' b e := by cases e
  tokobj t sz v b o x e := by cases e
  frO := ⟨0, fun _ _ => rfl⟩
  frT := ⟨0, fun _ _ => rfl⟩
  frI b hb := by
    have hb' : W.heap.size ≤ b := hb
    simp [kOf, Array.getElem?_eq_none hb']

/-- A law's contract, av the row's step wants it. -/
theorem calls_of_law {f : FuncId} {av : List AVal} {vs : Array Value} {W : World} (h : ACalls P f av s0 fun v _ => v = vBool true) (hn : vs.size = av.length) (hr : ∀ i (hi : i < av.length), Rv (kOf W) av[i] (vs.getD i undef))
    (hG : Glob W W.heap.size := by intro p hp; cases hp) : Calls P f vs W (fun e w' => e = .returned (.bool true) ∧ Below W.heap.size W w') := by
  have := h (kOf W) vs (kOf_inv W hG) hn hr
  refine this.mono fun e w' ⟨cv, he, κ', a, σ', hw, hle, _, hv, ha⟩ => ?_
  subst ha
  obtain rfl := hv.litInv
  subst hw
  exact ⟨he, hle.below⟩

end

/-- a slice of numbers -/
theorem lits_of {k : IntKind} : ∀ {l : List AVal}, (∀ x ∈ l, ∃ c, (Sh.int k).ok c ∧ (if false = true then x = .agg c else c = [x])) → ∃ zs : List Int, l = zs.map fun n => .lit (.int k n)
  | [], _ => ⟨[], rfl⟩
  | x :: l, h => by
    obtain ⟨zs, rfl⟩ := lits_of fun y hy => h y (List.mem_cons_of_mem _ hy)
    obtain ⟨c, ⟨n, rfl, _⟩, e⟩ := h x (List.mem_cons_self ..)
    simp only [Bool.false_eq_true, if_false, List.cons.injEq, and_true] at e
    subst e
    exact ⟨n :: zs, rfl⟩

/-- a slice of whatever is read one by one -/
theorem list_of {α : Type} (f : α → AVal) : ∀ {l : List AVal}, (∀ x ∈ l, ∃ a, x = f a) → ∃ zs : List α, l = zs.map f
  | [], _ => ⟨[], rfl⟩
  | x :: l, h => by
    obtain ⟨zs, rfl⟩ := list_of f fun y hy => h y (List.mem_cons_of_mem _ hy)
    obtain ⟨a, rfl⟩ := h x (List.mem_cons_self ..)
    exact ⟨a :: zs, rfl⟩

end Go.Ab
end

section
set_option linter.all false
namespace Go.Ab
open Go.RowKit (Below)

section
variable {P : Program} {o : Oper} {α : Operand → AVal} {σ : Store} {Kk : AVal → Store → Prop}
theorem Store.set_same {o : Nat} {x : AObj} (h : σ.heap o = some x) : σ.set o x = σ := by
  unfold Store.set
  have : (fun k => if k = o then some x else σ.heap k) = σ.heap := by
    funext k
    split
    · rename_i hk; subst hk; exact h.symm
    · rfl
  rw [this]
theorem AOp_clear {x : Operand} {t e : TypeId} {so sz off len : Nat} {z : Value} {cs : List AVal} (ho : o.op = .call { callee := .builtin .clear, args := #[x], argTypes := #[t] }) (hse : sliceElem P t = some e) (hz : zeroOf P e = some z)
    (hzs : z.cells.size = sz) (hzo : ∀ j, j < z.cells.size → (AVal.lit z.cells[j]!).one = true) (hx : α x = .msl so sz off len) (hh : σ.heap so = some (.cells cs)) (hle : off + len * sz ≤ cs.length)
    (hk : ∀ zs : List AVal, zs.length = len * sz → Kk (.tup []) (σ.set so (.cells (aput cs off zs)))) : AOp P o α σ Kk := by
  obtain ⟨dst, op, ty, pos, after, guard⟩ := o
  obtain rfl : op = _ := ho
  intro κ ev hI hxx
  have hts : P.underlying t = some (.slice e) := by
    unfold sliceElem at hse
    split at hse
    · rename_i e' he'; obtain rfl := Option.some.inj hse; exact he'
    · cases hse
  have hv := hxx x (by simp [Op.operands, Call.operands])
  rw [hx] at hv
  obtain ⟨b, cap, hev, hb⟩ : ∃ b cap, ev x = .slice (some ⟨b, off, none⟩) len cap ∧ κ.ρ so = some b := by
    generalize ev x = u at hv
    cases hv with
    | msl _ _ _ _ b cap n el hb hlc hsh hcap => exact ⟨b, cap, rfl, hb⟩
  have hnil : ∀ κ' : K, Rv κ' (.tup []) (.tuple #[]) := fun κ' => .tup [] #[] rfl (fun i hi => by simp at hi)
  by_cases h0 : len = 0
  · subst h0
    refine upon_v (s := Builtin.clear_ #[t] ty #[ev x]) (by simp [execOp, resolve, invoke, builtin]) ⟨.tuple #[], κ.w, ?_, κ, .tup [], σ, rfl, .refl κ, hI, hnil κ, ?_⟩
    · rw [hev]; simp [Builtin.clear_, run_underlying hts]
    · have := hk [] (by simp)
      rw [aput_nil _ _ (by omega), Store.set_same hh] at this
      exact this
  · have hzl : (Builtin.zeroCells z.cells len).size = len * z.cells.size := by simp [Builtin.zeroCells]
    obtain ⟨w', h1, h2, h3⟩ := run_storeCells_obj (P := P) (b := b) (off := off) (i := so) ((Builtin.zeroCells z.cells len).toList.map .lit) (Builtin.zeroCells z.cells len).toList 0 κ σ cs hI hh hb (by simp) (fun k hk hk' => by
      rw [List.getElem_map]; exact .lit _) (fun a ha => by
      obtain ⟨c, hc, rfl⟩ := List.mem_map.1 ha
      rw [Array.mem_toList_iff] at hc
      obtain ⟨k, hk, rfl⟩ := Array.mem_iff_getElem.1 hc
      rw [hzl] at hk
      have hpos : 0 < z.cells.size := by rcases Nat.eq_zero_or_pos z.cells.size with h | h; rw [h] at hk; simp at hk; exact h
      have : (Builtin.zeroCells z.cells len)[k]'(by rw [hzl]; exact hk) = z.cells[k % z.cells.size]! := by simp [Builtin.zeroCells]
      rw [this]
      exact hzo _ (Nat.mod_lt _ hpos)) (by simp [hzl, hzs]; omega)
    refine upon_v (s := Builtin.clear_ #[t] ty #[ev x]) (by simp [execOp, resolve, invoke, builtin]) ⟨.tuple #[], w', ?_, { κ with w := w' }, .tup [], _, rfl, h2, h3, hnil _, ?_⟩
    · rw [hev]
      obtain ⟨m, rfl⟩ := Nat.exists_eq_succ_of_ne_zero h0
      simp only [Builtin.clear_, Sem.run_bind, List.getElem?_toArray, List.getElem?_cons_zero, Sem.run_pure, Result.andThen_ok, run_underlying hts, run_zeroValue' hz]
      simp only [Nat.succ_eq_add_one] at h1
      simp [h1]
    · rw [Nat.add_zero]
      exact hk _ (by simp [hzl, hzs])
end
end Go.Ab
end

section
set_option linter.all false
namespace Go.Ab
open Go.RowKit (Below)
open Go.Shelf Go.Proofs Go.Sort

section
variable {P : Program} {σ : Store}
theorem world_grown {w w' : World} (hb : Below w.heap.size w w') (hd : w.drawn ≤ w'.drawn) : ∃ q os', w' = Sort.grow (w.drewN q) os' := by
  obtain ⟨heap, tape, drawn, os, output⟩ := w'
  obtain ⟨h1, h2, h3, h4, h5⟩ := hb
  simp only at h1 h2 h3 h4 h5 hd
  subst h1; subst h2; subst h3
  refine ⟨drawn - w.drawn, heap.extract w.heap.size heap.size, ?_⟩
  unfold Sort.grow World.drewN
  have e1 : w.drawn + (drawn - w.drawn) = drawn := by omega
  have e2 : w.heap ++ heap.extract w.heap.size heap.size = heap := by
    apply Array.ext_getElem?
    intro i
    by_cases hi : i < w.heap.size
    · rw [Array.getElem?_append_left hi, h5 i hi]
    · rw [Array.getElem?_append_right (by omega), Array.getElem?_extract]
      by_cases hi' : i < heap.size
      · rw [if_pos (by omega), show w.heap.size + (i - w.heap.size) = i by omega]
      · rw [if_neg (by omega), Array.getElem?_eq_none (by omega)]
  simp only [e1, e2]
theorem cmp_lays {g : FuncId} {a b : AVal} {u v : Value} {c : Int} (h : ACalls P g [a, b] s0 fun v σ' => v = vInt c ∧ s0 = σ') (ha : ∀ κ, Rv κ a u) (hb : ∀ κ, Rv κ b v) (w : World) (hG : Glob w w.heap.size := by intro p hp; cases hp) :
    Calls P g #[u, v] w fun e w' => e = .returned (.int .i64 c) ∧ ∃ q os', w' = Sort.grow (w.drewN q) os' := by
  have := h (kOf w) #[u, v] (kOf_inv w hG) rfl (fun i hi => by
    match i, hi with
    | 0, _ => exact ha _
    | 1, _ => exact hb _)
  refine this.mono fun e w' ⟨cv, he, κ', a, σ', hw, hle, _, hv, ha⟩ => ?_
  obtain ⟨rfl, _⟩ := ha
  obtain rfl := hv.litInv
  subst hw
  exact ⟨he, world_grown hle.below hle.drawn⟩
theorem sortK_of {f : FuncId} {o k n : Nat} (F : List Value) (Q : List Value → Prop) (ho : σ.heap o = some (.cells (F.map .lit))) (extra : List AVal) (ev : List Value)
    (h : ∀ (b cap : Nat) (w : World), Glob w b → Sort.Holds id w b 0 F.toArray → b < w.heap.size → Calls P f (#[.slice (some ⟨b, 0, none⟩) n cap] ++ ev.toArray) w fun e w' => e = .returned (.tuple #[]) ∧ ∃ F' m os, Q F' ∧ F'.length = F.length ∧ w' = Sort.grow (Sort.putRow id (Sort.ahead w m) b 0 F'.toArray) os)
    (he : extra = ev.map .lit) : ACalls P f (.msl o k 0 n :: extra) σ fun v σ' => v = .tup [] ∧ ∃ F', Q F' ∧ σ' = σ.set o (.cells (F'.map .lit)) := by
  intro κ vs hI hn hv
  subst he
  obtain ⟨b, cap, e0, hb⟩ := (hv 0 (by simp)).mslInv
  have hvs : vs = #[.slice (some ⟨b, 0, none⟩) n cap] ++ ev.toArray := by
    apply Array.ext (by simpa [Nat.add_comm] using hn)
    intro i h1 h2
    have hi : i < (AVal.msl o k 0 n :: ev.map .lit).length := by rw [← hn]; exact h1
    have hr := hv i hi
    have eg : vs.getD i undef = vs[i] := by simp [h1]
    rw [eg] at hr
    cases i with
    | zero => rw [← eg, e0]; simp
    | succ i =>
      simp only [List.getElem_cons_succ, List.getElem_map] at hr
      rw [hr.litInv]
      simp [Array.getElem_append]
  obtain ⟨b', hb', hbase, hIb, c, e, hheap, hlen', hR⟩ := hI.heap o _ ho
  rw [hb] at hb'
  obtain rfl := Option.some.inj hb'
  have hlt : b < κ.w.heap.size := (Array.getElem?_eq_some_iff.1 hheap).1
  have hH : Sort.Holds id κ.w b 0 F.toArray := holds_of id F.toArray hheap (by simpa using hlen') fun j hj => by
    have hj' : j < F.length := by simpa using hj
    have h1 := hR j (by simpa using hj')
    simp only [List.getElem_map] at h1
    rw [h1.litInv]
    simp [hj']
  rw [hvs]
  refine (h b cap κ.w (fun p hp => ⟨Nat.lt_of_lt_of_le (hI.glob p hp).1 hbase, (hI.glob p hp).2⟩) hH hlt).mono fun ex w' ⟨he, F', m, os, hQ, hlen, hw⟩ => ⟨_, he, ?_⟩
  have key := hI.rowed ho hb m (Sort.putCells id 0 F'.toArray) os (fun c => putCells_size id 0 _ c) (cs' := F'.map .lit) (fun c hc _ => ⟨by simpa [hlen] using hc, fun i hi => by
    have hi' : i < F'.length := by simpa using hi
    rw [putCells_at id F'.toArray c i (by simpa using hi') (by simp at hc ⊢; omega)]
    simp [hi']
    exact .lit _⟩)
  rw [hw]
  exact postNil (κ' := { κ with w := Ab.rowed κ.w m b (Sort.putCells id 0 F'.toArray) os }) key.1 key.2 ⟨rfl, F', hQ, rfl⟩
theorem flat_flatK {α : Type} [Inhabited α] (s : α → AVal) (enc : α → List Value) {k : Nat} (hs : ∀ x, (s x).cells = (enc x).map .lit) (hk : ∀ x, (enc x).length = k) (L : List α) : flat (L.map s) = ((flatK enc k L.toArray).toList).map .lit := by
  have hsz : ∀ y ∈ L.map s, y.cells.length = k := fun y hy => by
    obtain ⟨x, _, rfl⟩ := List.mem_map.1 hy
    rw [hs, List.length_map, hk]
  have hlen := flat_length hsz
  rw [List.length_map] at hlen
  apply List.ext_getElem (by simp [hlen])
  intro i h1 h2
  obtain ⟨hi, hj, e⟩ := flat_at hsz i h1
  rw [e]
  have hi' : i / k < L.length := by simpa using hi
  have hmod : i % k < k := by
    simp only [List.getElem_map, hs, List.length_map, hk] at hj
    exact hj
  simp only [List.getElem_map, hs, Array.getElem_toList]
  have h3 : i < L.toArray.size * k := by simpa [hlen] using h1
  have := get_flatK enc k L.toArray i h3
  rw [getElem!_pos (flatK enc k L.toArray) i (by simpa using h3)] at this
  rw [this]
  simp [hi', hk, hmod]
theorem perm_of {α : Type} [Inhabited α] {d d' : Array α} (h : Sort.PermIn 0 d.size d d') : d'.toList.Perm d.toList := by
  obtain ⟨h1, _, h2⟩ := h
  have e1 : (d'.extract 0 d.size).toList = d'.toList := by rw [← h1]; simp
  have e2 : (d.extract 0 d.size).toList = d.toList := by simp
  rw [e1, e2] at h2
  exact h2
theorem sorted_of {α : Type} [Inhabited α] {lt : α → α → Bool} {d : Array α} {n : Nat} (hn : d.size = n) (h : Sort.SortedIn lt 0 n d) : d.toList.Pairwise fun x y => lt y x = false := by
  rw [List.pairwise_iff_getElem]
  intro i j hi hj hij
  have := h i j (Nat.zero_le _) hij (by simp at hj; omega)
  simp at hi hj
  simpa [hi, hj] using this
end
end Go.Ab
end

section
set_option linter.all false
set_option maxRecDepth 100000
namespace Go.Proofs
open Go.Shelf
def sortF_ren : Go.Shelf.Ren := ⟨(fun n => match n with | 6 => 40 | 14 => 84 | 15 => 85 | 20 => 120 | 21 => 121 | 22 => 122 | 23 => 123 | 24 => 124 | 25 => 125 | 26 => 126 | 27 => 127 | 28 => 128 | 29 => 129 | 46 => 155 | 47 => 156 | 48 => 157 | 49 => 158 | 50 => 159 | 57 => 177 | _ => 0), (fun n => match n with | 0 => 0 | 3 => 3 | 4 => 4 | 5 => 5 | 9 => 9 | 22 => 31 | 24 => 75 | 25 => 78 | 39 => 128 | 45 => 158 | 46 => 159 | 50 => 123 | 53 => 103 | 55 => 166 | 66 => 190 | 70 => 194 | 76 => 206 | 77 => 207 | _ => 0), (fun n => match n with  | _ => 0)⟩
theorem sortF : SlLaysF0.n6 Tryz.prog sortF_ren := {
  mixed := Tryz.mixed
  f6 := ⟨ "slices.SortFunc[[]pantler/api.Sib,pantler/api.Sib]", by decide, by kernel_rfl⟩
  f14 := ⟨ "slices.pdqsortCmpFunc[pantler/api.Sib]", by decide, by kernel_rfl⟩
  f15 := by kernel_rfl
  f20 := ⟨ "slices.insertionSortCmpFunc[pantler/api.Sib]", by decide, by kernel_rfl⟩
  f21 := ⟨ "slices.heapSortCmpFunc[pantler/api.Sib]", by decide, by kernel_rfl⟩
  f22 := ⟨ "slices.breakPatternsCmpFunc[pantler/api.Sib]", by decide, by kernel_rfl⟩
  f23 := ⟨ "slices.choosePivotCmpFunc[pantler/api.Sib]", by decide, by kernel_rfl⟩
  f24 := ⟨ "slices.reverseRangeCmpFunc[pantler/api.Sib]", by decide, by kernel_rfl⟩
  f25 := ⟨ "slices.partialInsertionSortCmpFunc[pantler/api.Sib]", by decide, by kernel_rfl⟩
  f26 := ⟨ "slices.partitionEqualCmpFunc[pantler/api.Sib]", by decide, by kernel_rfl⟩
  f27 := ⟨ "slices.partitionCmpFunc[pantler/api.Sib]", by decide, by kernel_rfl⟩
  f28 := by kernel_rfl
  f29 := by kernel_rfl
  f46 := ⟨ "slices.siftDownCmpFunc[pantler/api.Sib]", by decide, by kernel_rfl⟩
  f47 := by kernel_rfl
  f48 := by kernel_rfl
  f49 := ⟨ "slices.medianAdjacentCmpFunc[pantler/api.Sib]", by decide, by kernel_rfl⟩
  f50 := ⟨ "slices.medianCmpFunc[pantler/api.Sib]", by decide, by kernel_rfl⟩
  f57 := ⟨ "slices.order2CmpFunc[pantler/api.Sib]", by decide, by kernel_rfl⟩
  t0 := Tryz.underlying0
  a0 := Tryz.isAgg0
  z0 := Tryz.sizeOf0
  v0 := Tryz.zeroValue0
  t3 := Tryz.underlying3
  a3 := Tryz.isAgg3
  z3 := Tryz.sizeOf3
  v3 := Tryz.zeroValue3
  t4 := Tryz.underlying4
  a4 := Tryz.isAgg4
  z4 := Tryz.sizeOf4
  v4 := Tryz.zeroValue4
  t5 := Tryz.underlying5
  a5 := Tryz.isAgg5
  z5 := Tryz.sizeOf5
  v5 := Tryz.zeroValue5
  t9 := Tryz.underlying9
  a9 := Tryz.isAgg9
  z9 := Tryz.sizeOf9
  v9 := Tryz.zeroValue9
  t22 := Tryz.underlying31
  a22 := Tryz.isAgg31
  z22 := Tryz.sizeOf31
  v22 := Tryz.zeroValue31
  t25 := Tryz.underlying78
  a25 := Tryz.isAgg78
  z25 := Tryz.sizeOf78
  v25 := Tryz.zeroValue78
  t39 := Tryz.underlying128
  a39 := Tryz.isAgg128
  z39 := Tryz.sizeOf128
  v39 := Tryz.zeroValue128
  t45 := Tryz.underlying158
  a45 := Tryz.isAgg158
  z45 := Tryz.sizeOf158
  v45 := Tryz.zeroValue158
  t46 := Tryz.underlying159
  a46 := Tryz.isAgg159
  z46 := Tryz.sizeOf159
  v46 := Tryz.zeroValue159
  t50 := Tryz.underlying123
  a50 := Tryz.isAgg123
  z50 := Tryz.sizeOf123
  v50 := Tryz.zeroValue123
  t53 := Tryz.underlying103
  a53 := Tryz.isAgg103
  z53 := Tryz.sizeOf103
  v53 := Tryz.zeroValue103
  t55 := Tryz.underlying166
  a55 := Tryz.isAgg166
  z55 := Tryz.sizeOf166
  v55 := Tryz.zeroValue166
  t66 := Tryz.underlying190
  a66 := Tryz.isAgg190
  z66 := Tryz.sizeOf190
  v66 := Tryz.zeroValue190
  t70 := Tryz.underlying194
  a70 := Tryz.isAgg194
  z70 := Tryz.sizeOf194
  v70 := Tryz.zeroValue194
  t76 := Tryz.underlying206
  a76 := Tryz.isAgg206
  z76 := Tryz.sizeOf206
  v76 := Tryz.zeroValue206
  t77 := Tryz.underlying207
  a77 := Tryz.isAgg207
  z77 := Tryz.sizeOf207
  v77 := Tryz.zeroValue207 }

end Go.Proofs
namespace Go.Proofs.YtbomkkjhafdhiaaGreat
open Go.Ab Go.Shelf Go.Sort
instance : Inhabited Sib := ⟨⟨.empty, 0, .empty, false, 0⟩⟩
def encV (x : Sib) : List Value := [.string x.node, .int .i64 x.n, .string x.value, .bool x.gone, .int .i64 x.time]
theorem cells_enc (x : Sib) : (sSib x).cells = (encV x).map .lit := rfl
def cfD (x y : Sib) : Int := cmpD x.node x.n y.node y.n
theorem ltOf_cfD (x y : Sib) : ltOf cfD x y = lessX x y := by
  unfold ltOf cfD lessX
  rw [Bool.eq_iff_iff, decide_eq_true_eq, cmpD_less]
theorem lessX_irrefl (x : Sib) : lessX x x = false := lessD_irrefl _ _
theorem swoD : SWO (ltOf cfD) where
  irrefl x := by rw [ltOf_cfD, lessX_irrefl]
  trans x y z h1 h2 := by rw [ltOf_cfD] at *; exact lessD_trans h1 h2
  ntrans x y z h1 h2 := by
    rw [ltOf_cfD] at *
    cases h : lessX x z with
    | false => rfl
    | true =>
      by_cases e : x.node = y.node ∧ x.n = y.n
      · have : lessX y z = true := by unfold lessX at h ⊢; rw [← e.1, ← e.2]; exact h
        rw [this] at h2; cases h2
      · have k := lessD_tri h1 e
        have : lessX y z = true := lessD_trans k h
        rw [this] at h2; cases h2
theorem rv_sib5 (κ : K) (x : Sib) : Rv κ (sSib x) (.agg (encV x).toArray) := .agg _ _ rfl (fun i hi => by
  match i, hi with
  | 0, _ => exact .lit _
  | 1, _ => exact .lit _
  | 2, _ => exact .lit _
  | 3, _ => exact .lit _
  | 4, _ => exact .lit _)
theorem sortFunc_c {o : Nat} {L : List Sib} {σ : Store} (ho : σ.heap o = some (.cells (flat (L.map sSib)))) (hl : L.length ≤ 1000000000) :
    ACalls Tryz.prog 40 [.msl o 5 0 L.length, .lit (.func (.func 41) #[] #[])] σ fun v σ' => v = .tup [] ∧ ∃ L' : List Sib, L'.Perm L ∧ L'.Pairwise (fun x y => lessX y x = false) ∧ σ' = σ.set o (.cells (flat (L'.map sSib))) := by
  have e1 : ∀ M : List Sib, flat (M.map sSib) = (flatK encV 5 M.toArray).toList.map .lit := fun M => flat_flatK sSib encV cells_enc (fun _ => rfl) M
  rw [e1] at ho
  refine (sortK_of (P := Tryz.prog) (σ := σ) (f := 40) (o := o) (k := 5) (n := L.length) (flatK encV 5 L.toArray).toList
    (fun F' => ∃ L' : List Sib, L'.Perm L ∧ L'.Pairwise (fun x y => lessX y x = false) ∧ F' = (flatK encV 5 L'.toArray).toList) ho [.lit (.func (.func 41) #[] #[])] [.func (.func 41) #[] #[]] (fun b cap w hG hH hb => ?_) rfl).wkS fun v σ' ⟨hv, F', ⟨L', h1, h2, h3⟩, h4⟩ => ⟨v, σ', .refl _, .refl _, hv, L', h1, h2, by rw [h4, h3, e1]⟩
  have hcmp : CmpLays Tryz.prog 41 #[] encV 5 cfD b 0 L.toArray.size w := fun m os dk _ x y => by
    have := cmp_lays (P := Tryz.prog) (g := 41) (order_c (x := x) (y := y) (σ := s0)) (fun κ => rv_sib5 κ x) (fun κ => rv_sib5 κ y) (sortWorldK encV 5 w b 0 m dk os)
    exact this
  have key := AnyQ.slices_SortFunc sortF 5 Tryz.isAgg75 Tryz.sizeOf75 encV (fun _ => rfl) (fun x v hv => by simp [encV] at hv; rcases hv with rfl | rfl | rfl | rfl | rfl <;> rfl) cfD swoD 41 #[] b 0 cap L.toArray w (fun args w => run_callFunc (by kernel_rfl) args w) hcmp (by simpa [HoldsK] using hH) hb (by simp; omega)
  have key2 : Calls Tryz.prog 40 (#[.slice (some ⟨b, 0, none⟩) L.length cap] ++ #[.func (.func 41) #[] #[]]) w _ := key
  refine key2.mono fun e w' ⟨he, d', n, os, hp, hs, hw⟩ => ⟨he, (flatK encV 5 d').toList, n, os, ⟨d'.toList, ?_, ?_, by simp⟩, ?_, ?_⟩
  · exact perm_of hp
  · exact (sorted_of (n := L.toArray.size) hp.1 hs).imp fun {a b} h => by rw [ltOf_cfD] at h; exact h
  · simp [hp.1]
  · rw [hw]; simp [sortWorldK, putRowK]
end Go.Proofs.YtbomkkjhafdhiaaGreat
end

section
set_option linter.all false
set_option maxRecDepth 100000
namespace Go.Proofs.YtbomkkjhafdhiaaGreat
open Go.Ab

theorem get_if {α : Type} [Inhabited α] (l : List α) (k : Nat) : ∃ x : α, k < l.length → l[k]? = some x := by
  by_cases h : k < l.length
  · exact ⟨l[k], fun _ => List.getElem?_eq_getElem h⟩
  · exact ⟨default, fun h' => absurd h' h⟩
end Go.Proofs.YtbomkkjhafdhiaaGreat
end

section
set_option linter.all false
set_option maxRecDepth 100000
namespace Go.Proofs.YtbomkkjhafdhiaaGreat
open Go.Ab

structure NodesI (a b : List Seen) (i k : Nat) (out : List ByteArray) : Prop where
  ri : RiseN out
  mem : ∀ s, s ∈ out ↔ (∃ x ∈ a.take i, x.node = s) ∨ ∃ x ∈ b.take k, x.node = s
  ha : ∀ s ∈ out, ∀ x ∈ a.drop i, sLt s x.node = true
  hb : ∀ s ∈ out, ∀ x ∈ b.drop k, sLt s x.node = true
theorem NodesI.swap {a b : List Seen} {i k : Nat} {out : List ByteArray} (h : NodesI a b i k out) : NodesI b a k i out := ⟨h.ri, fun s => by rw [h.mem, Or.comm], h.hb, h.ha⟩
theorem riseX_drop {a : List Seen} (ra : RiseX a) {i : Nat} {x : Seen} (hx : a[i]? = some x) : ∀ y ∈ a.drop (i + 1), sLt x.node y.node = true := by
  have h1 : RiseX (a.drop i) := List.Pairwise.sublist (List.drop_sublist i a) ra
  rw [drop_cons hx] at h1
  exact (List.pairwise_cons.1 h1).1
theorem NodesI.s1 {a b : List Seen} {i k : Nat} {out : List ByteArray} (h : NodesI a b i k out) (ra : RiseX a) {x : Seen} (hx : a[i]? = some x) (hlt : ∀ y ∈ b.drop k, sLt x.node y.node = true) : NodesI a b (i + 1) k (out ++ [x.node]) := by
  have hd := drop_cons hx
  have hxs : ∀ s ∈ out, sLt s x.node = true := fun s hs => h.ha s hs x (by rw [hd]; exact .head _)
  refine ⟨?_, fun s => ?_, fun s hs y hy => ?_, fun s hs y hy => ?_⟩
  · refine List.pairwise_append.2 ⟨h.ri, List.pairwise_singleton _ _, fun s hs t ht => ?_⟩
    rw [List.mem_singleton.1 ht]; exact hxs s hs
  · rw [List.mem_append, h.mem, List.mem_singleton, take_snoc hx]
    constructor
    · rintro ((⟨y, hy, e⟩ | ⟨y, hy, e⟩) | rfl)
      · exact .inl ⟨y, List.mem_append.2 (.inl hy), e⟩
      · exact .inr ⟨y, hy, e⟩
      · exact .inl ⟨x, List.mem_append.2 (.inr (List.mem_singleton.2 rfl)), rfl⟩
    · rintro (⟨y, hy, e⟩ | ⟨y, hy, e⟩)
      · rcases List.mem_append.1 hy with hy | hy
        · exact .inl (.inl ⟨y, hy, e⟩)
        · right; rw [← e, List.mem_singleton.1 hy]
      · exact .inl (.inr ⟨y, hy, e⟩)
  · rcases List.mem_append.1 hs with hs | hs
    · exact h.ha s hs y (by rw [hd]; exact .tail _ hy)
    · rw [List.mem_singleton.1 hs]; exact riseX_drop ra hx y hy
  · rcases List.mem_append.1 hs with hs | hs
    · exact h.hb s hs y hy
    · rw [List.mem_singleton.1 hs]; exact hlt y hy
theorem NodesI.s3 {a b : List Seen} {i k : Nat} {out : List ByteArray} (h : NodesI a b i k out) (ra : RiseX a) (rb : RiseX b) {x y : Seen} (hx : a[i]? = some x) (hy : b[k]? = some y) (e : x.node = y.node) : NodesI a b (i + 1) (k + 1) (out ++ [x.node]) := by
  have hd := drop_cons hx
  have hd' := drop_cons hy
  have hxs : ∀ s ∈ out, sLt s x.node = true := fun s hs => h.ha s hs x (by rw [hd]; exact .head _)
  refine ⟨?_, fun s => ?_, fun s hs z hz => ?_, fun s hs z hz => ?_⟩
  · refine List.pairwise_append.2 ⟨h.ri, List.pairwise_singleton _ _, fun s hs t ht => ?_⟩
    rw [List.mem_singleton.1 ht]; exact hxs s hs
  · rw [List.mem_append, h.mem, List.mem_singleton, take_snoc hx, take_snoc hy]
    constructor
    · rintro ((⟨z, hz, e⟩ | ⟨z, hz, e⟩) | rfl)
      · exact .inl ⟨z, List.mem_append.2 (.inl hz), e⟩
      · exact .inr ⟨z, List.mem_append.2 (.inl hz), e⟩
      · exact .inl ⟨x, List.mem_append.2 (.inr (List.mem_singleton.2 rfl)), rfl⟩
    · rintro (⟨z, hz, e'⟩ | ⟨z, hz, e'⟩)
      · rcases List.mem_append.1 hz with hz | hz
        · exact .inl (.inl ⟨z, hz, e'⟩)
        · right; rw [← e', List.mem_singleton.1 hz]
      · rcases List.mem_append.1 hz with hz | hz
        · exact .inl (.inr ⟨z, hz, e'⟩)
        · right; rw [← e', List.mem_singleton.1 hz, e]
  · rcases List.mem_append.1 hs with hs | hs
    · exact h.ha s hs z (by rw [hd]; exact .tail _ hz)
    · rw [List.mem_singleton.1 hs]; exact riseX_drop ra hx z hz
  · rcases List.mem_append.1 hs with hs | hs
    · exact h.hb s hs z (by rw [hd']; exact .tail _ hz)
    · rw [List.mem_singleton.1 hs, e]; exact riseX_drop rb hy z hz
instance : Inhabited Seen := ⟨⟨.empty, 0, []⟩⟩
end Go.Proofs.YtbomkkjhafdhiaaGreat
end
