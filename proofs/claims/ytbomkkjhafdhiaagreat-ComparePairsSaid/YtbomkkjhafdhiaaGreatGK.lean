/-
  An object's digest; What a row of items has at a place; two rows merged, plainly; Two rows that tell each other what differs end alike, plainly; Leaves of items; ComparePairs. Own work (an AI agent).
-/
import Derived.Test.YtbomkkjhafdhiaaGreatGF
import Derived.Test.YtbomkkjhafdhiaaGreatGJ
import Derived.Test.YtbomkkjhafdhiaaGreatGI

section
set_option linter.all false
set_option maxRecDepth 100000
namespace Go.Proofs.YtbomkkjhafdhiaaGreat
open Go.Ab
theorem objB_le {x : Obj'} (hx : ObjSm x) : (objB x).length ≤ 900000000000 := by
  have hle := ctxB_le hx.ctx hx.nc
  have hle2 := sibsB_le hx.sibs hx.ns
  simp only [objB, ctxB, listB, List.length_append, beI_length]; omega
def digS (o : Obj') : ByteArray := B (shaS (objB o))
theorem wDigest_c {o : Obj'} {σ : Store} (ho : ObjSm o) : ACalls Tryz.prog 16 [sObj o] σ fun v σ' => v = vStr (digS o) ∧ σ = σ' := by
  have hl := objB_le ho
  refine ACalls_of Tryz.func16 rfl Tryz.ntmps16 (congrArg Array.toList Tryz.results16) (by simp only [List.length_cons, List.length_nil]; decide) ?_; simp only [envOf_cons, envOf_nil, Nat.reduceAdd]
  refine awp_seq ?_
  refine awp_region (by kernel_rfl) ?_
  refine aL_box rfl rfl rfl v_ rfl g_ fun o1 ho1 => ?_
  repeat (rw [none_set_iff] at ho1; obtain ⟨_, ho1⟩ := ho1)
  (refine aL_S rfl rfl v_ ?_)
  refine aL_nil ?_
  refine awp_seq ?_
  refine awp_region (by kernel_rfl) ?_
  (refine aL_S rfl rfl v_ ?_)
  refine aL_X rfl rfl (AOp_use rfl rfl (.inr ⟨rfl, rfl, rfl⟩) g_ va_ (raw_c ho) ?_); rintro _ _ ⟨rfl, rfl⟩
  refine aL_X rfl rfl (AOp_use rfl rfl (.inr ⟨rfl, rfl, rfl⟩) g_ va_ (sum_c (s := B (objB o)) (by rw [B_size]; exact hl)) ?_); rintro _ _ ⟨rfl, rfl⟩
  (refine aL_S rfl rfl v_ ?_)
  refine aL_nil ?_
  refine awp_ret ?_
  refine aEnd_ret (σ' := σ) v_ sub_ ?_
  exact ⟨by rw [digS, Lb_B], rfl⟩
end Go.Proofs.YtbomkkjhafdhiaaGreat
end

section
set_option linter.all false
set_option maxRecDepth 100000
namespace Go.Proofs.YtbomkkjhafdhiaaGreat
open Go.Ab
theorem mgG_all {Q : Itm → Prop} : ∀ (k : Nat) (l os : List Itm), l.length + os.length ≤ k → (∀ x ∈ l, Q x) → (∀ x ∈ os, Q x) → (∀ x ∈ l, ∀ y ∈ os, Q ⟨x.place, (mergeS x.obj y.obj).1⟩) → ∀ z ∈ (mgG l os).1, Q z
  | k, [], os, _, _, h2, _ => by rw [mgG_nil]; exact h2
  | k, a :: l, [], _, h1, _, _ => by rw [mgG_nil2]; exact h1
  | 0, a :: l, b :: os, hk, _, _, _ => by simp at hk
  | k + 1, a :: l, b :: os, hk, h1, h2, h3 => by
    have i1 := mgG_all k l (b :: os) (by simp at hk ⊢; omega) (fun x hx => h1 x (.tail _ hx)) h2 fun x hx y hy => h3 x (.tail _ hx) y hy
    have i2 := mgG_all k (a :: l) os (by simp at hk ⊢; omega) h1 (fun x hx => h2 x (.tail _ hx)) fun x hx y hy => h3 x hx y (.tail _ hy)
    have i3 := mgG_all k l os (by simp at hk ⊢; omega) (fun x hx => h1 x (.tail _ hx)) (fun x hx => h2 x (.tail _ hx)) fun x hx y hy => h3 x (.tail _ hx) y (.tail _ hy)
    have cons : ∀ {x : Itm} {m : List Itm}, Q x → (∀ y ∈ m, Q y) → ∀ y ∈ x :: m, Q y := fun hx hm y hy => by
      rcases List.mem_cons.1 hy with rfl | hy
      · exact hx
      · exact hm y hy
    rw [mgG]
    split
    · split
      · exact cons (h1 a (.head _)) i1
      · exact fun x hx => (List.not_mem_nil hx).elim
    · split
      · split
        · exact cons (h2 b (.head _)) i2
        · exact fun x hx => (List.not_mem_nil hx).elim
      · split
        · exact fun x hx => (List.not_mem_nil hx).elim
        · split
          · exact cons (h3 a (.head _) b (.head _)) i3
          · exact fun x hx => (List.not_mem_nil hx).elim
/-- what a row has at a place -/
def lkAt : List Itm → ByteArray → Option Obj'
  | [], _ => none
  | x :: l, p => if x.place = p then some x.obj else lkAt l p
theorem lkAt_cons (x : Itm) (l : List Itm) (p : ByteArray) : lkAt (x :: l) p = if x.place = p then some x.obj else lkAt l p := rfl
theorem look_none : ∀ {l : List Itm} {p : ByteArray}, (∀ x ∈ l, x.place ≠ p) → lkAt l p = none
  | [], _, _ => rfl
  | x :: l, p, h => by rw [lkAt_cons, if_neg (h x (.head _))]; exact look_none fun y hy => h y (.tail _ hy)
theorem look_low {l : List Itm} {p : ByteArray} (h : ∀ x ∈ l, sLt p x.place = true) : lkAt l p = none := look_none fun x hx => (sLt_ne (h x hx)).symm
theorem rise_head {a : Itm} {l : List Itm} (h : RiseIt (a :: l)) : (∀ x ∈ l, sLt a.place x.place = true) ∧ RiseIt l := List.pairwise_cons.1 h
theorem rise_low {a : Itm} {l : List Itm} {p : ByteArray} (h : RiseIt (a :: l)) (hp : sLt p a.place = true) : ∀ x ∈ a :: l, sLt p x.place = true := fun x hx => by
  rcases List.mem_cons.1 hx with rfl | hx
  · exact hp
  · exact sLt_trans hp ((rise_head h).1 x hx)
theorem look_ext : ∀ {l m : List Itm}, RiseIt l → RiseIt m → (∀ p, lkAt l p = lkAt m p) → l = m
  | [], [], _, _, _ => rfl
  | [], y :: m, _, _, h => by have := h y.place; rw [lkAt_cons, if_pos rfl] at this; cases this
  | x :: l, [], _, _, h => by have := h x.place; rw [lkAt_cons, if_pos rfl] at this; cases this
  | x :: l, y :: m, hl, hm, h => by
    have hx := h x.place
    have hy := h y.place
    rw [lkAt_cons, if_pos rfl] at hx
    rw [lkAt_cons y, if_pos rfl] at hy
    cases h1 : sLt x.place y.place with
    | true => rw [look_low (rise_low hm h1)] at hx; cases hx
    | false =>
      cases h2 : sLt y.place x.place with
      | true => rw [look_low (rise_low hl h2)] at hy; cases hy
      | false =>
        have he : x.place = y.place := by
          by_cases he : x.place = y.place
          · exact he
          · have := sLt_tri h1 he; rw [h2] at this; cases this
        rw [lkAt_cons, if_pos he.symm] at hx
        have ho : x.obj = y.obj := Option.some.inj hx
        have ih : l = m := look_ext (rise_head hl).2 (rise_head hm).2 fun p => by
          have hp := h p
          rw [lkAt_cons, lkAt_cons] at hp
          by_cases hxp : x.place = p
          · subst hxp
            rw [look_low (rise_head hl).1, look_low (by rw [he]; exact (rise_head hm).1)]
          · rw [if_neg hxp, if_neg (by rw [← he]; exact hxp)] at hp; exact hp
        rw [ih]
        have : x = y := by cases x; cases y; simp_all
        rw [this]
/-- what two have, together -/
def om : Option Obj' → Option Obj' → Option Obj'
  | some a, some b => some (mergeO a b)
  | some a, none => some a
  | none, r => r
theorem om_none (a : Option Obj') : om a none = a := by cases a <;> rfl
structure OkI (k : Nat) (l : List Itm) : Prop where
  rise : RiseIt l
  it : ∀ x ∈ l, placeOk x.place = true ∧ OkO k x.obj
theorem OkO.up {j k : Nat} {o : Obj'} (h : OkO j o) (hk : j ≤ k) : OkO k o := ⟨h.ok, by have := h.rm; omega, by have := h.nc; omega, by have := h.ns; omega⟩
theorem OkI.tail {k : Nat} {a : Itm} {l : List Itm} (h : OkI k (a :: l)) : OkI k l := ⟨(rise_head h.rise).2, fun x hx => h.it x (.tail _ hx)⟩
theorem mg_spec {j k : Nat} (hjk : j + k ≤ 8) : ∀ (n : Nat) (l os : List Itm), l.length + os.length ≤ n → OkI j l → OkI k os → (mgG l os).2.2 = 0 ∧ OkI (j + k) (mgG l os).1 ∧ ∀ p, lkAt (mgG l os).1 p = om (lkAt l p) (lkAt os p)
  | n, [], os, _, _, ho => by
    rw [mgG_nil]
    exact ⟨rfl, ⟨ho.rise, fun x hx => ⟨(ho.it x hx).1, (ho.it x hx).2.up (by omega)⟩⟩, fun p => rfl⟩
  | n, a :: l, [], _, hl, _ => by
    rw [mgG_nil2]
    exact ⟨rfl, ⟨hl.rise, fun x hx => ⟨(hl.it x hx).1, (hl.it x hx).2.up (by omega)⟩⟩, fun p => by rw [show lkAt [] p = none from rfl, om_none]⟩
  | 0, a :: l, b :: os, hn, _, _ => by simp at hn
  | n + 1, a :: l, b :: os, hn, hl, ho => by
    have oa := hl.it a (.head _); have ob := ho.it b (.head _)
    have mk : ∀ (c : Itm) (r : List Itm), placeOk c.place = true → OkO (j + k) c.obj → OkI (j + k) r → (∀ x ∈ r, sLt c.place x.place = true) → OkI (j + k) (c :: r) := fun c r h1 h2 h3 h4 =>
      ⟨List.pairwise_cons.2 ⟨h4, h3.rise⟩, fun x hx => by
        rcases List.mem_cons.1 hx with rfl | hx
        · exact ⟨h1, h2⟩
        · exact h3.it x hx⟩
    have bnd : ∀ (q : ByteArray) (l' os' : List Itm), (∀ x ∈ l', sLt q x.place = true) → (∀ x ∈ os', sLt q x.place = true) → ∀ z ∈ (mgG l' os').1, sLt q z.place = true := fun q l' os' h1 h2 => mgG_all (Q := fun z => sLt q z.place = true) _ l' os' (Nat.le_refl _) h1 h2 fun x hx y hy => h1 x hx
    cases hab : sLt a.place b.place with
    | true =>
      obtain ⟨i1, i2, i3⟩ := mg_spec hjk n l (b :: os) (by simp at hn ⊢; omega) hl.tail ho
      have e : mgG (a :: l) (b :: os) = (a :: (mgG l (b :: os)).1, (mgG l (b :: os)).2.1, 0) := by rw [mgG, if_pos hab, if_pos i1]
      rw [e]
      refine ⟨rfl, mk a _ oa.1 (oa.2.up (by omega)) i2 (bnd _ _ _ (rise_head hl.rise).1 (rise_low ho.rise hab)), fun p => ?_⟩
      show lkAt (a :: _) p = _
      rw [lkAt_cons, lkAt_cons]
      by_cases hp : a.place = p
      · rw [if_pos hp, if_pos hp, ← hp, look_low (rise_low ho.rise hab)]; rfl
      · rw [if_neg hp, if_neg hp, i3]
    | false =>
      cases hba : sLt b.place a.place with
      | true =>
        obtain ⟨i1, i2, i3⟩ := mg_spec hjk n (a :: l) os (by simp at hn ⊢; omega) hl ho.tail
        have e : mgG (a :: l) (b :: os) = (b :: (mgG (a :: l) os).1, b :: (mgG (a :: l) os).2.1, 0) := by rw [mgG, if_neg (by simp [hab]), if_pos hba, if_pos i1]
        rw [e]
        refine ⟨rfl, mk b _ ob.1 (ob.2.up (by omega)) i2 (bnd _ _ _ (rise_low hl.rise hba) (rise_head ho.rise).1), fun p => ?_⟩
        show lkAt (b :: _) p = _
        rw [lkAt_cons, lkAt_cons b]
        by_cases hp : b.place = p
        · rw [if_pos hp, if_pos hp, ← hp, look_low (rise_low hl.rise hba)]; rfl
        · rw [if_neg hp, if_neg hp, i3]
      | false =>
        have he : a.place = b.place := by
          by_cases h : a.place = b.place
          · exact h
          · have := sLt_tri hab h; rw [this] at hba; cases hba
        obtain ⟨i1, i2, i3⟩ := mg_spec hjk n l os (by simp at hn ⊢; omega) hl.tail ho.tail
        obtain ⟨m1, m2⟩ := oa.2.merge ob.2 hjk
        have e : mgG (a :: l) (b :: os) = (⟨a.place, mergeO a.obj b.obj⟩ :: (mgG l os).1, (if mergeO a.obj b.obj = a.obj then (mgG l os).2.1 else ⟨a.place, mergeO a.obj b.obj⟩ :: (mgG l os).2.1), 0) := by
          rw [mgG, if_neg (by simp [hab]), if_neg (by simp [hba]), if_neg (by rw [m1]; simp), if_pos i1, m1]
        rw [e]
        refine ⟨rfl, mk _ _ oa.1 m2 i2 (bnd _ _ _ (rise_head hl.rise).1 (by rw [he]; exact (rise_head ho.rise).1)), fun p => ?_⟩
        show lkAt (_ :: _) p = _
        rw [lkAt_cons, lkAt_cons, lkAt_cons b]
        by_cases hp : a.place = p
        · rw [if_pos hp, if_pos hp, if_pos (by rw [← he]; exact hp)]; rfl
        · rw [if_neg hp, if_neg hp, if_neg (by rw [← he]; exact hp), i3]
theorem upGo_of {α : Type} {ok : α → Bool} {key : α → ByteArray} : ∀ {l : List α} {pv : Option ByteArray}, (∀ p, pv = some p → ∀ x ∈ l, sLt p (key x) = true) → (l.Pairwise fun a b => sLt (key a) (key b) = true) → (∀ x ∈ l, ok x = true) → upGo ok key pv l = true
  | [], _, _, _, _ => rfl
  | x :: l, pv, h1, h2, h3 => by
    obtain ⟨h4, h5⟩ := List.pairwise_cons.1 h2
    have ih := upGo_of (ok := ok) (key := key) (l := l) (pv := some (key x)) (fun p hp y hy => by rw [← Option.some.inj hp]; exact h4 y hy) h5 fun y hy => h3 y (.tail _ hy)
    have ha : aheadOk pv (key x) = true := by
      cases pv with
      | none => rfl
      | some p => exact h1 p rfl x (.head _)
    simp only [upGo, h3 x (.head _), ha, ih, Bool.and_self]
theorem OkI.ok {k : Nat} {l : List Itm} (h : OkI k l) : itemsOk l = true := upGo_of (fun p hp => by cases hp) h.rise fun x hx => by rw [(h.it x hx).1, (h.it x hx).2.ok]; rfl
theorem itemsOk_OkI {l : List Itm} (h : itemsOk l = true) (hf : fewIt l = true) : OkI 1 l := by
  obtain ⟨h1, h2⟩ := itemsOk_rise h
  exact ⟨h1, fun x hx => ⟨(h2 x hx).1, ((fewIt_sm hf).2.2 x hx).okO (h2 x hx).2⟩⟩
end Go.Proofs.YtbomkkjhafdhiaaGreat
end

section
set_option linter.all false
set_option maxRecDepth 100000
namespace Go.Proofs.YtbomkkjhafdhiaaGreat
open Go.Ab
def leafOf (x : Itm) : Leaf := ⟨x.place, digS x.obj⟩
def lvS (l : List Itm) : List Leaf := l.map leafOf
theorem lkAt_iff {l : List Itm} (hr : RiseIt l) {p : ByteArray} {o : Obj'} : lkAt l p = some o ↔ ∃ x ∈ l, x.place = p ∧ x.obj = o := by
  induction l with
  | nil => simp [lkAt]
  | cons a l ih =>
    obtain ⟨h1, h2⟩ := rise_head hr
    rw [lkAt_cons]
    by_cases hp : a.place = p
    · rw [if_pos hp]
      constructor
      · intro h; exact ⟨a, .head _, hp, Option.some.inj h⟩
      · rintro ⟨x, hx, e1, e2⟩
        rcases List.mem_cons.1 hx with rfl | hx
        · rw [e2]
        · have := sLt_ne (h1 x hx); rw [hp, e1] at this; exact absurd rfl this
    · rw [if_neg hp, ih h2]
      constructor
      · rintro ⟨x, hx, h⟩; exact ⟨x, .tail _ hx, h⟩
      · rintro ⟨x, hx, e1, e2⟩
        rcases List.mem_cons.1 hx with rfl | hx
        · exact absurd e1 hp
        · exact ⟨x, hx, e1, e2⟩
theorem has_lv {l : List Itm} (hr : RiseIt l) {x : Itm} : hasL (lvS l) (leafOf x) = true ↔ ∃ o, lkAt l x.place = some o ∧ digS o = digS x.obj := by
  unfold hasL lvS
  rw [List.any_eq_true]
  constructor
  · rintro ⟨y, hy, h⟩
    obtain ⟨z, hz, rfl⟩ := List.mem_map.1 hy
    have h' : leafOf z = leafOf x := by simpa using h
    have e1 : z.place = x.place := congrArg Leaf.place h'
    have e2 : digS z.obj = digS x.obj := congrArg Leaf.digest h'
    exact ⟨z.obj, (lkAt_iff hr).2 ⟨z, hz, e1, rfl⟩, e2⟩
  · rintro ⟨o, ho, hd⟩
    obtain ⟨z, hz, e1, e2⟩ := (lkAt_iff hr).1 ho
    refine ⟨leafOf z, List.mem_map_of_mem hz, ?_⟩
    have : leafOf z = leafOf x := by unfold leafOf; rw [e1, e2, hd]
    simpa using this
theorem mem_send {a b : List Itm} (ha : RiseIt a) (hb : RiseIt b) {p : ByteArray} : p ∈ sendS (lvS a) (lvS b) ↔ ∃ o, lkAt a p = some o ∧ ¬ ∃ o', lkAt b p = some o' ∧ digS o' = digS o := by
  unfold sendS
  rw [List.mem_map]
  constructor
  · rintro ⟨y, hy, rfl⟩
    obtain ⟨h1, h2⟩ := List.mem_filter.1 hy
    obtain ⟨x, hx, rfl⟩ := List.mem_map.1 h1
    refine ⟨x.obj, (lkAt_iff ha).2 ⟨x, hx, rfl, rfl⟩, fun h => ?_⟩
    have := (has_lv (x := x) hb).2 h
    rw [this] at h2; simp at h2
  · rintro ⟨o, ho, hn⟩
    obtain ⟨x, hx, rfl, rfl⟩ := (lkAt_iff ha).1 ho
    refine ⟨leafOf x, List.mem_filter.2 ⟨List.mem_map_of_mem hx, ?_⟩, rfl⟩
    cases h : hasL (lvS b) (leafOf x) with
    | false => rfl
    | true => exact absurd ((has_lv hb).1 h) hn
theorem isP_iff {ps : List ByteArray} {x : Itm} : isP ps x = true ↔ x.place ∈ ps := by
  unfold isP
  rw [List.any_eq_true]
  constructor
  · rintro ⟨p, hp, h⟩; rw [← of_decide_eq_true h]; exact hp
  · intro h; exact ⟨x.place, h, decide_eq_true rfl⟩
theorem items_rise {l : List Itm} {ps : List ByteArray} (h : RiseIt l) : RiseIt (itemsOf l ps) := List.Pairwise.sublist List.filter_sublist h
theorem lk_items {l : List Itm} {ps : List ByteArray} (h : RiseIt l) {p : ByteArray} (hp : p ∈ ps) : lkAt (itemsOf l ps) p = lkAt l p := by
  cases hl : lkAt l p with
  | none =>
    refine look_none fun x hx => ?_
    intro e
    have := (lkAt_iff h).2 ⟨x, (List.mem_filter.1 hx).1, e, rfl⟩
    rw [hl] at this; cases this
  | some o =>
    obtain ⟨x, hx, e1, e2⟩ := (lkAt_iff h).1 hl
    exact (lkAt_iff (items_rise h)).2 ⟨x, List.mem_filter.2 ⟨hx, isP_iff.2 (by rw [e1]; exact hp)⟩, e1, e2⟩
theorem lk_items0 {l : List Itm} {ps : List ByteArray} {p : ByteArray} (hp : p ∉ ps) : lkAt (itemsOf l ps) p = none := look_none fun x hx e => hp (by rw [← e]; exact isP_iff.1 (List.mem_filter.1 hx).2)
theorem OkI.items {k : Nat} {l : List Itm} {ps : List ByteArray} (h : OkI k l) : OkI k (itemsOf l ps) := ⟨items_rise h.rise, fun x hx => h.it x (List.mem_filter.1 hx).1⟩
theorem OkI.good {k : Nat} {l : List Itm} (h : OkI k l) {p : ByteArray} {o : Obj'} (ho : lkAt l p = some o) : ObjG o := by
  obtain ⟨x, hx, _, rfl⟩ := (lkAt_iff h.rise).1 ho
  exact (h.it x hx).2.good
/-- what both have then -/
theorem pairs {a b : List Itm} (ha : OkI 1 a) (hb : OkI 1 b) (hc : ∀ x ∈ a, ∀ y ∈ b, digS x.obj = digS y.obj → x.obj = y.obj) :
    (mgG b (itemsOf a (sendS (lvS a) (lvS b)))).2.2 = 0 ∧ (mgG a (itemsOf b (sendS (lvS b) (lvS a)))).2.2 = 0 ∧ (mgG b (itemsOf a (sendS (lvS a) (lvS b)))).1 = (mgG a (itemsOf b (sendS (lvS b) (lvS a)))).1 ∧ OkI 2 (mgG b (itemsOf a (sendS (lvS a) (lvS b)))).1 := by
  obtain ⟨c1, c2, c3⟩ := mg_spec (j := 1) (k := 1) (by decide) _ b (itemsOf a (sendS (lvS a) (lvS b))) (Nat.le_refl _) hb ha.items
  obtain ⟨d1, d2, d3⟩ := mg_spec (j := 1) (k := 1) (by decide) _ a (itemsOf b (sendS (lvS b) (lvS a))) (Nat.le_refl _) ha hb.items
  refine ⟨c1, d1, look_ext c2.rise d2.rise fun p => ?_, c2⟩
  rw [c3, d3]
  have sA := mem_send (p := p) ha.rise hb.rise
  have sB := mem_send (p := p) hb.rise ha.rise
  cases hA : lkAt a p with
  | none =>
    have n1 : p ∉ sendS (lvS a) (lvS b) := fun h => by obtain ⟨o, ho, _⟩ := sA.1 h; rw [hA] at ho; cases ho
    rw [lk_items0 n1, om_none]
    cases hB : lkAt b p with
    | none =>
      have n2 : p ∉ sendS (lvS b) (lvS a) := fun h => by obtain ⟨o, ho, _⟩ := sB.1 h; rw [hB] at ho; cases ho
      rw [lk_items0 n2]; rfl
    | some ob =>
      have y2 : p ∈ sendS (lvS b) (lvS a) := sB.2 ⟨ob, hB, fun ⟨o', ho', _⟩ => by rw [hA] at ho'; cases ho'⟩
      rw [lk_items hb.rise y2, hB]; rfl
  | some oa =>
    cases hB : lkAt b p with
    | none =>
      have y1 : p ∈ sendS (lvS a) (lvS b) := sA.2 ⟨oa, hA, fun ⟨o', ho', _⟩ => by rw [hB] at ho'; cases ho'⟩
      have n2 : p ∉ sendS (lvS b) (lvS a) := fun h => by obtain ⟨o, ho, _⟩ := sB.1 h; rw [hB] at ho; cases ho
      rw [lk_items ha.rise y1, hA, lk_items0 n2, om_none]; rfl
    | some ob =>
      by_cases hd : digS oa = digS ob
      · have n1 : p ∉ sendS (lvS a) (lvS b) := fun h => by obtain ⟨o, ho, hn⟩ := sA.1 h; rw [hA] at ho; cases ho; exact hn ⟨ob, hB, hd.symm⟩
        have n2 : p ∉ sendS (lvS b) (lvS a) := fun h => by obtain ⟨o, ho, hn⟩ := sB.1 h; rw [hB] at ho; cases ho; exact hn ⟨oa, hA, hd⟩
        rw [lk_items0 n1, lk_items0 n2, om_none, om_none]
        obtain ⟨x, hx, _, e2⟩ := (lkAt_iff ha.rise).1 hA
        obtain ⟨y, hy, _, f2⟩ := (lkAt_iff hb.rise).1 hB
        have := hc x hx y hy (by rw [e2, f2]; exact hd)
        rw [← e2, ← f2, this]
      · have y1 : p ∈ sendS (lvS a) (lvS b) := sA.2 ⟨oa, hA, fun ⟨o', ho', hh⟩ => by rw [hB] at ho'; cases ho'; exact hd hh.symm⟩
        have y2 : p ∈ sendS (lvS b) (lvS a) := sB.2 ⟨ob, hB, fun ⟨o', ho', hh⟩ => by rw [hA] at ho'; cases ho'; exact hd hh⟩
        rw [lk_items ha.rise y1, hA, lk_items hb.rise y2, hB]
        show some (mergeO ob oa) = some (mergeO oa ob)
        rw [merge_comm (hb.good hB) (ha.good hA)]
theorem send_self (l : List Itm) : sendS (lvS l) (lvS l) = [] := by
  unfold sendS
  rw [List.filter_eq_nil_iff.2 fun x hx => ?_]; rfl
  have : hasL (lvS l) x = true := by unfold hasL; rw [List.any_eq_true]; exact ⟨x, hx, decide_eq_true rfl⟩
  simp [this]
end Go.Proofs.YtbomkkjhafdhiaaGreat
end

section
set_option linter.all false
set_option maxRecDepth 100000
namespace Go.Proofs.YtbomkkjhafdhiaaGreat
open Go.Ab
theorem lvS_snoc {l : List Itm} {k : Nat} {x : Itm} (h : l[k]? = some x) : (lvS (l.take (k + 1))).map sLeaf = (lvS (l.take k)).map sLeaf ++ [sLeaf (leafOf x)] := by
  rw [take_snoc h]; simp [lvS]
theorem leaves_c {l : List Itm} {t : Bool} {σ : Store} (hs : ∀ x ∈ l, ObjSm x.obj) (hn : l.length ≤ 100000) : ACalls Tryz.prog 7 [.sl 3 (l.map sItem) t] σ fun v σ' => v = .sl 2 ((lvS l).map sLeaf) false ∧ σ = σ' := by
  refine ACalls_of Tryz.func7 rfl Tryz.ntmps7 (congrArg Array.toList Tryz.results7) (by simp only [List.length_cons, List.length_nil]; decide) ?_; simp only [envOf_cons, envOf_nil, Nat.reduceAdd]
  refine awp_seq ?_
  refine awp_region (by kernel_rfl) ?_
  (refine aL_S rfl rfl v_ ?_)
  refine aL_nil ?_
  refine awp_seq ?_
  refine awp_region (by kernel_rfl) ?_
  refine aL_nilOwn 28 2 rfl rfl rfl (by rfl) fun k3 hk3 => ?_
  refine aL_nil ?_
  refine awp_seq ?_
  refine awp_seq ?_
  refine awp_region (by kernel_rfl) ?_
  iterate 3 (refine aL_S rfl rfl v_ ?_)
  refine aL_nil ?_
  refine awp_block ?_
  refine awp_loop_env (ι := Nat × Nat) (fun ⟨tk, k⟩ => l.length - k) (fun ⟨tk, k⟩ => k ≤ l.length ∧ σ.tok tk = none) (fun ⟨tk, k⟩ => [(3, .own tk 2 ((lvS (l.take k)).map sLeaf)), (6, .sl 3 (l.map sItem) t), (7, vInt l.length), (8, vInt k)]) (fun ⟨tk, k⟩ => (σ.newTok none tk (28, 2))) (k3, 0) ?_ ?_ ?_ ?_
  · exact ⟨Nat.zero_le _, hk3⟩
  · exact cv_
  · exact Store.Wk.refl _
  rintro ⟨tk, k⟩ ⟨hk, htk⟩
  simp only [envL_cons, envL_nil]
  refine awp_seq ?_
  refine awp_region (by kernel_rfl) ?_
  (refine aL_S rfl rfl v_ ?_)
  refine aL_nil ?_
  refine awp_seq ?_
  refine awp_cond v_ (fun hc3 => ?_) (fun hc3 => ?_)
  · replace hc3 := nm_ hc3
    refine awp_skip ?_
    refine awp_seq ?_
    refine awp_block ?_
    refine awp_seq ?_
    obtain ⟨x, hx⟩ := get_some (l := l) (k := k) (by omega)
    have sx := hs x (List.mem_of_getElem? hx)
    have hcv := lvS_snoc hx
    have hll : ((lvS (l.take k)).map sLeaf).length ≤ 100000 := by simp [lvS]; omega
    have R := hx
    refine awp_region (by kernel_rfl) ?_
    iterate 2 (refine aL_S rfl rfl v_ ?_)
    refine aL_alloc rfl rfl rfl g_ gl_ fun o5 ho5 => ?_
    (try simp only [Store.newTok_heap] at ho5); repeat (rw [none_set_iff] at ho5; obtain ⟨_, ho5⟩ := ho5)
    refine aL_store rfl rfl rfl v_ v_ h_ g_ rfl g_ c_ (by rfl) le_ v_ ?_
    refine aL_nil ?_
    refine awp_draw (.op 0 0 (.op 1 0 (.op 2 0 (.op 3 0 (.op 4 0 (.op 5 1 (.op 6 0 (.op 7 1 (.op 8 2 (.op 9 0 .nil)))))))))) Tryz.mixed (by kernel_rfl) ?_
    iterate 5 (refine dR_S o_ (by rfl) (by rfl) v_ ?_)
    refine dR_X o_ (by rfl) (by rfl) (AOp_use (by rfl) (by rfl) (.inr ⟨by rfl, by rfl, by rfl⟩) g_ va_ (wDigest_c sx) ?_); rintro _ _ ⟨rfl, rfl⟩; refine ⟨sub_, ?_⟩
    (refine dR_S o_ (by rfl) (by rfl) v_ ?_)
    refine dR_X o_ (by rfl) (by rfl) (AOp_buildSlice' (by rfl) g_ g_ (by rfl) (by rfl) h_ c2_ (by decide) ⟨sub_, ?_⟩)
    refine dR_T o_ (by rfl) (by rfl) (AOp_appendS (by rfl) g_ g_ (.inl ⟨_, va_, h_, rfl⟩) (.inl ⟨⟨_, g_⟩, .inl v_, c_⟩) (by simp [lvS]; omega) fun k20 hk20 => ?_)
    (refine dR_S o_ (by rfl) (by rfl) v_ ?_)
    refine dR_nil ?_
    have t20 : σ.tok k20 = none := (newTok_none hk20).2
    refine awp_region (by kernel_rfl) ?_
    iterate 2 (refine aL_S rfl rfl v_ ?_)
    refine aL_nil ?_
    refine aNext (ι := Nat × Nat) (i := ⟨tk, k⟩) (k20, k + 1) ?_ ?_ ?_ ?_
    · show l.length - (k + 1) < l.length - k; omega
    · exact ⟨by show k + 1 ≤ l.length; omega, t20⟩
    · have R := hcv; exact cv_
    · exact sub_
  · replace hc3 := nm_ hc3
    refine awp_exit ?_
    refine aThen_exit ?_
    refine aThen_exit ?_
    refine aBlock_hit ?_
    refine awp_seq ?_
    obtain rfl : k = l.length := by omega
    rw [List.take_length]
    refine awp_region (by kernel_rfl) ?_
    iterate 2 (refine aL_S rfl rfl v_ ?_)
    refine aL_nil ?_
    refine awp_ret ?_
    exact aEnd_retW (v := .sl 2 ((lvS l).map sLeaf) false) (v' := .own tk 2 ((lvS l).map sLeaf)) va_ (.own1 _ _ _) sub_ ⟨rfl, rfl⟩
def pP : ByteArray := ⟨#[112, 47, 112]⟩
/-- no pair of these ends alike but is the same -/
def NoC (a b : List Itm) (i k : Nat) : Prop := ∀ m n x y, a[m]? = some x → b[n]? = some y → (m < i ∨ (m = i ∧ n < k)) → digS x.obj = digS y.obj → x.obj = y.obj
theorem NoC.next {a b : List Itm} {i k : Nat} {x y : Itm} (h : NoC a b i k) (hx : a[i]? = some x) (hy : b[k]? = some y) (hxy : digS x.obj = digS y.obj → x.obj = y.obj) : NoC a b i (k + 1) := fun m n u w hu hw hmn => by
  rcases hmn with h1 | ⟨h1, h2⟩
  · exact h m n u w hu hw (.inl h1)
  · rcases Nat.lt_or_ge n k with h3 | h3
    · exact h m n u w hu hw (.inr ⟨h1, h3⟩)
    · obtain rfl : n = k := by omega
      subst h1
      rw [hx] at hu; rw [hy] at hw
      obtain rfl := Option.some.inj hu
      obtain rfl := Option.some.inj hw
      exact hxy
theorem NoC.row {a b : List Itm} {i k : Nat} (h : NoC a b i k) (hk : b.length ≤ k) : NoC a b (i + 1) 0 := fun m n u w hu hw hmn => by
  rcases hmn with h1 | ⟨_, h2⟩
  · rcases Nat.lt_or_ge m i with h3 | h3
    · exact h m n u w hu hw (.inl h3)
    · exact h m n u w hu hw (.inr ⟨by omega, Nat.lt_of_lt_of_le (List.getElem?_eq_some_iff.1 hw).1 hk⟩)
  · omega
theorem NoC.all {a b : List Itm} (h : NoC a b a.length 0) : ∀ x ∈ a, ∀ y ∈ b, digS x.obj = digS y.obj → x.obj = y.obj := fun x hx y hy => by
  obtain ⟨m, hm, e⟩ := List.mem_iff_getElem.1 hx
  obtain ⟨n, hn, f⟩ := List.mem_iff_getElem.1 hy
  exact h m n x y (by rw [List.getElem?_eq_getElem hm, e]) (by rw [List.getElem?_eq_getElem hn, f]) (.inl hm)
set_option maxHeartbeats 4000000 in
theorem comparePairs_c {a b : List Itm} {σ : Store} : ACalls Tryz.prog 3 [.sl 3 (a.map sItem) false, .sl 3 (b.map sItem) false] σ fun v σ' => v = vB true ∧ σ = σ' := by
  refine ACalls_of Tryz.func3 rfl Tryz.ntmps3 (congrArg Array.toList Tryz.results3) (by simp only [List.length_cons, List.length_nil]; decide) ?_; simp only [envOf_cons, envOf_nil, Nat.reduceAdd]
  refine awp_seq ?_
  refine awp_region (by kernel_rfl) ?_
  (refine aL_S rfl rfl v_ ?_)
  refine aL_nil ?_
  refine awp_seq ?_
  refine awp_seq ?_
  refine awp_region (by kernel_rfl) ?_
  (refine aL_S rfl rfl v_ ?_)
  refine aL_X rfl rfl (AOp_use rfl rfl (.inr ⟨rfl, rfl, rfl⟩) g_ va_ (few29_c) ?_); rintro _ _ ⟨rfl, rfl⟩
  iterate 2 (refine aL_S rfl rfl v_ ?_)
  refine aL_GF rfl rfl v_ rfl vg_ ?_
  refine aL_GFX rfl rfl v_ rfl (fun hb => AOp_useV (by rfl) (by rfl) (.inr ⟨by rfl, by rfl, by rfl⟩) g_ cg_ (few29_c)) ?_
  refine aL_GF rfl rfl v_ rfl vg_ ?_
  iterate 2 (refine aL_S rfl rfl v_ ?_)
  refine aL_GF rfl rfl v_ rfl vg_ ?_
  refine aL_GFX rfl rfl v_ rfl (fun hb => AOp_useV (by rfl) (by rfl) (.inr ⟨by rfl, by rfl, by rfl⟩) g_ cg_ (rMay29_c (fewIt_sm (by simpa using (show fewIt a = true from by simp_all))).2.1 (by have := (fewIt_sm (show fewIt a = true from by simp_all)).1; omega))) ?_
  refine aL_GF rfl rfl v_ rfl vg_ ?_
  iterate 2 (refine aL_S rfl rfl v_ ?_)
  refine aL_GF rfl rfl v_ rfl vg_ ?_
  refine aL_GFX rfl rfl v_ rfl (fun hb => AOp_useV (by rfl) (by rfl) (.inr ⟨by rfl, by rfl, by rfl⟩) g_ cg_ (rMay29_c (fewIt_sm (show fewIt b = true from by simp_all)).2.1 (by have := (fewIt_sm (show fewIt b = true from by simp_all)).1; omega))) ?_
  refine aL_GF rfl rfl v_ rfl vg_ ?_
  (refine aL_S rfl rfl v_ ?_)
  refine aL_nil ?_
  refine awp_cond v_ (fun hc1 => ?_) (fun hc1 => ?_)
  · replace hc1 := nm_ hc1
    refine awp_seq ?_
    refine awp_region (by kernel_rfl) ?_
    refine aL_X rfl rfl (AOp_use rfl rfl (.inr ⟨rfl, rfl, rfl⟩) g_ va_ (awake29_c) ?_); rintro _ _ ⟨rfl, rfl⟩
    (refine aL_S rfl rfl v_ ?_)
    refine aL_nil ?_
    refine awp_ret ?_
    refine aEnd_ret (σ' := σ) v_ sub_ ?_
    first | exact ⟨rfl, rfl⟩ | exact ⟨by simp [p4.ok], rfl⟩
  · replace hc1 := nm_ hc1
    obtain ⟨⟨f1, f2⟩, o1, o2⟩ : (fewIt a = true ∧ fewIt b = true) ∧ itemsOk a = true ∧ itemsOk b = true := by simp_all
    obtain ⟨na, sa, fa⟩ := fewIt_sm f1
    obtain ⟨nb, sb, fb⟩ := fewIt_sm f2
    have hla : (lvS a).length = a.length := by simp [lvS]
    have hlb : (lvS b).length = b.length := by simp [lvS]
    refine awp_skip ?_
    refine awp_seq ?_
    refine awp_region (by kernel_rfl) ?_
    (refine aL_S rfl rfl v_ ?_)
    refine aL_X rfl rfl (AOp_use rfl rfl (.inr ⟨rfl, rfl, rfl⟩) g_ va_ (leaves_c (fun x hx => (sa x hx).obj) (by omega)) ?_); rintro _ _ ⟨rfl, rfl⟩
    (refine aL_S rfl rfl v_ ?_)
    refine aL_X rfl rfl (AOp_use rfl rfl (.inr ⟨rfl, rfl, rfl⟩) g_ va_ (leaves_c (fun x hx => (sb x hx).obj) (by omega)) ?_); rintro _ _ ⟨rfl, rfl⟩
    iterate 2 (refine aL_S rfl rfl v_ ?_)
    refine aL_nil ?_
    refine awp_seq ?_
    refine awp_seq ?_
    refine awp_region (by kernel_rfl) ?_
    (refine aL_S rfl rfl v_ ?_)
    refine aL_nil ?_
    refine awp_block ?_
    refine awp_loop_env (ι := Nat) (fun i => a.length - i) (fun i => i ≤ a.length ∧ NoC a b i 0) (fun i => [(0, .sl 3 (a.map sItem) false), (1, .sl 3 (b.map sItem) false), (5, .sl 2 ((lvS a).map sLeaf) false), (6, .sl 2 ((lvS b).map sLeaf) false), (7, vInt i)]) (fun i => σ) 0 ?_ ?_ ?_ ?_
    · exact ⟨Nat.zero_le _, fun m n x y _ _ h => by omega⟩
    · exact cv_
    · exact sub_
    rintro i ⟨hi, hA⟩
    simp only [envL_cons, envL_nil]
    refine awp_seq ?_
    refine awp_seq ?_
    have R := hla
    refine awp_region (by kernel_rfl) ?_
    iterate 5 (refine aL_S rfl rfl v_ ?_)
    refine aL_GT rfl rfl v_ rfl vg_ ?_
    refine aL_GT rfl rfl v_ rfl vg_ ?_
    refine aL_GT rfl rfl v_ rfl vg_ ?_
    refine aL_GT rfl rfl v_ rfl vg_ ?_
    (refine aL_S rfl rfl v_ ?_)
    refine aL_nil ?_
    refine awp_cond v_ (fun hc5 => ?_) (fun hc5 => ?_)
    · replace hc5 := nm_ hc5
      refine awp_skip ?_
      refine awp_seq ?_
      refine awp_block ?_
      refine awp_seq ?_
      refine awp_region (by kernel_rfl) ?_
      (refine aL_S rfl rfl v_ ?_)
      refine aL_nil ?_
      refine awp_block ?_
      refine awp_loop_env (ι := Nat) (fun k => b.length - k) (fun k => k ≤ b.length ∧ NoC a b i k) (fun k => [(0, .sl 3 (a.map sItem) false), (1, .sl 3 (b.map sItem) false), (5, .sl 2 ((lvS a).map sLeaf) false), (6, .sl 2 ((lvS b).map sLeaf) false), (7, vInt i), (8, vInt k)]) (fun k => σ) 0 ?_ ?_ ?_ ?_
      · exact ⟨Nat.zero_le _, hA⟩
      · exact cv_
      · exact sub_
      rintro k ⟨hk, hB⟩
      simp only [envL_cons, envL_nil]
      refine awp_seq ?_
      refine awp_seq ?_
      have R := hlb
      refine awp_region (by kernel_rfl) ?_
      iterate 5 (refine aL_S rfl rfl v_ ?_)
      refine aL_GT rfl rfl v_ rfl vg_ ?_
      refine aL_GT rfl rfl v_ rfl vg_ ?_
      refine aL_GT rfl rfl v_ rfl vg_ ?_
      refine aL_GT rfl rfl v_ rfl vg_ ?_
      (refine aL_S rfl rfl v_ ?_)
      refine aL_nil ?_
      refine awp_cond v_ (fun hc8 => ?_) (fun hc8 => ?_)
      · replace hc8 := nm_ hc8
        obtain ⟨x, hx⟩ := get_some (l := a) (k := i) (by omega)
        obtain ⟨y, hy⟩ := get_some (l := b) (k := k) (by omega)
        have hlx : (lvS a)[i]? = some (leafOf x) := by simp [lvS, hx]
        have hly : (lvS b)[k]? = some (leafOf y) := by simp [lvS, hy]
        have hd1 : (leafOf x).digest = digS x.obj := rfl
        have hd2 : (leafOf y).digest = digS y.obj := rfl
        refine awp_skip ?_
        refine awp_seq ?_
        refine awp_block ?_
        refine awp_seq_mid (ι := Unit) (fun _ => True) (fun _ => [(0, .sl 3 (a.map sItem) false), (1, .sl 3 (b.map sItem) false), (5, .sl 2 ((lvS a).map sLeaf) false), (6, .sl 2 ((lvS b).map sLeaf) false), (7, vInt i), (8, vInt k), (90, vB (decide (digS x.obj = digS y.obj) && !decide ([⟨pP, x.obj⟩] = ([⟨pP, y.obj⟩] : List Itm))))]) (fun _ => σ) ?_ ?_
        · have R := And.intro hx (And.intro hy (And.intro hlx (And.intro hly (And.intro hd1 hd2))))
          refine awp_draw (.op 0 0 (.op 1 0 (.op 2 0 (.op 3 0 (.op 4 0 (.op 5 0 (.op 6 0 (.op 7 0 (.op 8 0 (.op 9 0 (.op 10 0 (.op 11 0 (.op 12 0 (.op 13 0 (.op 14 0 (.op 15 0 (.op 16 0 (.op 17 0 (.op 19 0 (.op 20 0 (.op 21 0 (.op 22 0 (.op 23 0 (.op 24 0 (.alt 18 1 (.op 25 1 (.op 26 1 (.op 27 0 (.op 28 0 .nil)))) (.op 25 1 (.op 18 1 (.op 26 1 (.op 27 0 (.op 28 0 .nil)))))))))))))))))))))))))))))) Tryz.mixed (by kernel_rfl) ?_
          iterate 12 (refine dR_S o_ (by rfl) (by rfl) v_ ?_)
          refine dR_GT o_ (by rfl) (by rfl) v_ (by rfl) vg_ ?_
          refine dR_GT o_ (by rfl) (by rfl) v_ (by rfl) vg_ ?_
          refine dR_GT o_ (by rfl) (by rfl) v_ (by rfl) vg_ ?_
          refine dR_GT o_ (by rfl) (by rfl) v_ (by rfl) vg_ ?_
          refine dR_GT o_ (by rfl) (by rfl) v_ (by rfl) vg_ ?_
          refine dR_GT o_ (by rfl) (by rfl) v_ (by rfl) vg_ ?_
          refine dR_GT o_ (by rfl) (by rfl) v_ (by rfl) vg_ ?_
          refine dR_GT o_ (by rfl) (by rfl) v_ (by rfl) vg_ ?_
          refine dR_GT o_ (by rfl) (by rfl) v_ (by rfl) vg_ ?_
          refine dR_GT o_ (by rfl) (by rfl) v_ (by rfl) vg_ ?_
          refine dR_GT o_ (by rfl) (by rfl) v_ (by rfl) vg_ ?_
          refine dR_GT o_ (by rfl) (by rfl) v_ (by rfl) vg_ ?_
          refine dR_alt ?_ ?_
          · refine dR_GTX o_ (by rfl) (by rfl) v_ (by rfl) (a := .sl 3 [sItem ⟨pP, x.obj⟩] true) sub_ (fun hb => AOp_buildSlice' (l := [sItem ⟨pP, x.obj⟩]) (by rfl) g_ g_ (by rfl) (by rfl) vh_ (by simp [go_sem, hb, AVal.one, AVal.cells, AVal.solid]) (by decide) ⟨rfl, rfl⟩) ?_
            refine dR_GTX o_ (by rfl) (by rfl) v_ (by rfl) (a := .sl 3 [sItem ⟨pP, y.obj⟩] true) sub_ (fun hb => AOp_buildSlice' (l := [sItem ⟨pP, y.obj⟩]) (by rfl) g_ g_ (by rfl) (by rfl) vh_ (by simp [go_sem, hb, AVal.one, AVal.cells, AVal.solid]) (by decide) ⟨rfl, rfl⟩) ?_
            refine dR_GTX o_ (by rfl) (by rfl) v_ (by rfl) sub_ (fun hb => AOp_useV (by rfl) (by rfl) (.inr ⟨by rfl, by rfl, by rfl⟩) g_ cg_ (same29_c (a := [⟨pP, x.obj⟩]) (b := [⟨pP, y.obj⟩]) (fun z hz => by rw [List.mem_singleton.1 hz]; exact (sa x (List.mem_of_getElem? hx)).obj) (fun z hz => by rw [List.mem_singleton.1 hz]; exact (sb y (List.mem_of_getElem? hy)).obj) (by simp) (by simp))) ?_
            refine dR_GT o_ (by rfl) (by rfl) v_ (by rfl) vg_ ?_
            (refine dR_S o_ (by rfl) (by rfl) v_ ?_)
            refine dR_nil ?_
            refine ⟨(), ?_, ?_, ?_⟩
            · trivial
            · exact cv_
            · exact sub_
          refine dR_GTX o_ (by rfl) (by rfl) v_ (by rfl) (a := .sl 3 [sItem ⟨pP, y.obj⟩] true) sub_ (fun hb => AOp_buildSlice' (l := [sItem ⟨pP, y.obj⟩]) (by rfl) g_ g_ (by rfl) (by rfl) vh_ (by simp [go_sem, hb, AVal.one, AVal.cells, AVal.solid]) (by decide) ⟨rfl, rfl⟩) ?_
          refine dR_GTX o_ (by rfl) (by rfl) v_ (by rfl) (a := .sl 3 [sItem ⟨pP, x.obj⟩] true) sub_ (fun hb => AOp_buildSlice' (l := [sItem ⟨pP, x.obj⟩]) (by rfl) g_ g_ (by rfl) (by rfl) vh_ (by simp [go_sem, hb, AVal.one, AVal.cells, AVal.solid]) (by decide) ⟨rfl, rfl⟩) ?_
          refine dR_GTX o_ (by rfl) (by rfl) v_ (by rfl) sub_ (fun hb => AOp_useV (by rfl) (by rfl) (.inr ⟨by rfl, by rfl, by rfl⟩) g_ cg_ (same29_c (a := [⟨pP, x.obj⟩]) (b := [⟨pP, y.obj⟩]) (fun z hz => by rw [List.mem_singleton.1 hz]; exact (sa x (List.mem_of_getElem? hx)).obj) (fun z hz => by rw [List.mem_singleton.1 hz]; exact (sb y (List.mem_of_getElem? hy)).obj) (by simp) (by simp))) ?_
          refine dR_GT o_ (by rfl) (by rfl) v_ (by rfl) vg_ ?_
          (refine dR_S o_ (by rfl) (by rfl) v_ ?_)
          refine dR_nil ?_
          refine ⟨(), ?_, ?_, ?_⟩
          · trivial
          · exact cv_
          · exact sub_
        · rintro _ -
          simp only [envL_cons, envL_nil]
          refine awp_cond v_ (fun hc10 => ?_) (fun hc10 => ?_)
          · replace hc10 := nm_ hc10
            refine awp_seq ?_
            refine awp_region (by kernel_rfl) ?_
            refine aL_X rfl rfl (AOp_use rfl rfl (.inr ⟨rfl, rfl, rfl⟩) g_ va_ (awake29_c) ?_); rintro _ _ ⟨rfl, rfl⟩
            (refine aL_S rfl rfl v_ ?_)
            refine aL_nil ?_
            refine awp_ret ?_
            refine aEnd_ret (σ' := σ) v_ sub_ ?_
            first | exact ⟨rfl, rfl⟩ | exact ⟨by simp [p4.ok], rfl⟩
          · replace hc10 := nm_ hc10
            have hxy : digS x.obj = digS y.obj → x.obj = y.obj := fun h => by simpa [h] using hc10
            refine awp_skip ?_
            refine awp_region (by kernel_rfl) ?_
            iterate 3 (refine aL_S rfl rfl v_ ?_)
            refine aL_nil ?_
            refine aNext (ι := Nat) (i := k) (k + 1) ?_ ?_ ?_ ?_
            · omega
            · exact ⟨by omega, hB.next hx hy hxy⟩
            · exact cv_
            · exact sub_
      · replace hc8 := nm_ hc8
        refine awp_exit ?_
        refine aThen_exit ?_
        refine aThen_exit ?_
        refine aBlock_hit ?_
        refine awp_region (by kernel_rfl) ?_
        iterate 3 (refine aL_S rfl rfl v_ ?_)
        refine aL_nil ?_
        refine aNext (ι := Nat) (i := i) (i + 1) ?_ ?_ ?_ ?_
        · omega
        · exact ⟨by omega, hB.row (by omega)⟩
        · exact cv_
        · exact sub_
    · replace hc5 := nm_ hc5
      refine awp_exit ?_
      refine aThen_exit ?_
      refine aThen_exit ?_
      refine aBlock_hit ?_
      refine awp_seq ?_
      obtain rfl : i = a.length := by omega
      have kA := itemsOk_OkI o1 f1
      have kB := itemsOk_OkI o2 f2
      obtain ⟨p1, p2, p3, p4⟩ := pairs kA kB hA.all
      have iA := kA.items (ps := sendS (lvS a) (lvS b))
      have iB := kB.items (ps := sendS (lvS b) (lvS a))
      have m1 : mergeI b (itemsOf a (sendS (lvS a) (lvS b))) = mgG b (itemsOf a (sendS (lvS a) (lvS b))) := by rw [mergeI, o2, iA.ok]; rfl
      have m2 : mergeI a (itemsOf b (sendS (lvS b) (lvS a))) = mgG a (itemsOf b (sendS (lvS b) (lvS a))) := by rw [mergeI, o1, iB.ok]; rfl
      have sA : ∀ x ∈ itemsOf a (sendS (lvS a) (lvS b)), ItemSm x := fun x hx => sa x (List.mem_filter.1 hx).1
      have sB : ∀ x ∈ itemsOf b (sendS (lvS b) (lvS a)), ItemSm x := fun x hx => sb x (List.mem_filter.1 hx).1
      have hM1 : ∀ x ∈ b, ∀ y ∈ itemsOf a (sendS (lvS a) (lvS b)), ObjSm (mergeS x.obj y.obj).1 := fun x hx y hy => (fb x hx).merge_sm (fa y (List.mem_filter.1 hy).1)
      have hM2 : ∀ x ∈ a, ∀ y ∈ itemsOf b (sendS (lvS b) (lvS a)), ObjSm (mergeS x.obj y.obj).1 := fun x hx y hy => (fa x hx).merge_sm (fb y (List.mem_filter.1 hy).1)
      have nS1 := sendS_len (lvS a) (lvS b)
      have nS2 := sendS_len (lvS b) (lvS a)
      have nI1 := itemsOf_len a (sendS (lvS a) (lvS b))
      have nI2 := itemsOf_len b (sendS (lvS b) (lvS a))
      obtain ⟨c, hc⟩ : ∃ c, (mgG b (itemsOf a (sendS (lvS a) (lvS b)))).1 = c := ⟨_, rfl⟩
      have hd : (mgG a (itemsOf b (sendS (lvS b) (lvS a)))).1 = c := by rw [← p3, hc]
      rw [hc] at p4
      have sc : ∀ x ∈ c, ItemSm x := by
        rw [← hc]
        exact mgG_all (Q := ItemSm) _ b _ (Nat.le_refl _) sb sA fun x hx y hy => ⟨(sb x hx).place, hM1 x hx y hy⟩
      have nc : c.length ≤ 1000 := by
        have := (mgG_sm (n := 0) _ b (itemsOf a (sendS (lvS a) (lvS b))) (Nat.le_refl _) (fun x hx => (sb x hx).obj) (fun x hx => (sA x hx).obj) fun x hx y hy => hM1 x hx y hy).2.2.1
        rw [hc] at this; omega
      refine awp_region (by kernel_rfl) ?_
      iterate 4 (refine aL_S rfl rfl v_ ?_)
      refine aL_X rfl rfl (AOp_use rfl rfl (.inr ⟨rfl, rfl, rfl⟩) g_ va_ (send_c (by omega) (by omega)) ?_); rintro _ _ ⟨rfl, rfl⟩
      refine aL_X rfl rfl (AOp_use rfl rfl (.inr ⟨rfl, rfl, rfl⟩) g_ va_ (items_c (by omega) (by omega)) ?_); rintro _ _ ⟨rfl, rfl⟩
      refine aL_X rfl rfl (AOp_use rfl rfl (.inr ⟨rfl, rfl, rfl⟩) g_ va_ (merge29_c sb sA hM1 (by omega) (by omega)) ?_); rintro _ _ ⟨rfl, rfl⟩
      rw [m1, p1, hc]
      iterate 7 (refine aL_S rfl rfl v_ ?_)
      refine aL_nil ?_
      refine awp_seq ?_
      refine awp_region (by kernel_rfl) ?_
      iterate 4 (refine aL_S rfl rfl v_ ?_)
      refine aL_X rfl rfl (AOp_use rfl rfl (.inr ⟨rfl, rfl, rfl⟩) g_ va_ (want_c (by omega) (by omega)) ?_); rintro _ _ ⟨rfl, rfl⟩
      refine aL_X rfl rfl (AOp_use rfl rfl (.inr ⟨rfl, rfl, rfl⟩) g_ va_ (items_c (by omega) (by omega)) ?_); rintro _ _ ⟨rfl, rfl⟩
      refine aL_X rfl rfl (AOp_use rfl rfl (.inr ⟨rfl, rfl, rfl⟩) g_ va_ (merge29_c sa sB hM2 (by omega) (by omega)) ?_); rintro _ _ ⟨rfl, rfl⟩
      rw [m2, p2, hd]
      iterate 7 (refine aL_S rfl rfl v_ ?_)
      refine aL_nil ?_
      refine awp_seq ?_
      refine awp_seq ?_
      refine awp_region (by kernel_rfl) ?_
      iterate 3 (refine aL_S rfl rfl v_ ?_)
      refine aL_GF rfl rfl v_ rfl vg_ ?_
      refine aL_GF rfl rfl v_ rfl vg_ ?_
      iterate 2 (refine aL_S rfl rfl v_ ?_)
      refine aL_GF rfl rfl v_ rfl vg_ ?_
      refine aL_GF rfl rfl v_ rfl vg_ ?_
      refine aL_GFX rfl rfl v_ rfl (fun hb => AOp_useV (by rfl) (by rfl) (.inr ⟨by rfl, by rfl, by rfl⟩) g_ cg_ (same29_c (fun x hx => (sc x hx).obj) (fun x hx => (sc x hx).obj) (by omega) (by omega))) ?_
      refine aL_GF rfl rfl v_ rfl vg_ ?_
      (refine aL_S rfl rfl v_ ?_)
      refine aL_nil ?_
      refine awp_cond v_ (fun hc14 => ?_) (fun hc14 => ?_)
      · replace hc14 := nm_ hc14
        simp at hc14
      · replace hc14 := nm_ hc14
        refine awp_skip ?_
        refine awp_seq ?_
        refine awp_region (by kernel_rfl) ?_
        (refine aL_S rfl rfl v_ ?_)
        refine aL_X rfl rfl (AOp_use rfl rfl (.inr ⟨rfl, rfl, rfl⟩) g_ va_ (leaves_c (fun x hx => (sc x hx).obj) (by omega)) ?_); rintro _ _ ⟨rfl, rfl⟩
        (refine aL_S rfl rfl v_ ?_)
        refine aL_X rfl rfl (AOp_use rfl rfl (.inr ⟨rfl, rfl, rfl⟩) g_ va_ (leaves_c (fun x hx => (sc x hx).obj) (by omega)) ?_); rintro _ _ ⟨rfl, rfl⟩
        refine aL_X rfl rfl (AOp_use rfl rfl (.inr ⟨rfl, rfl, rfl⟩) g_ va_ (send_c (by simp [lvS]; omega) (by simp [lvS]; omega)) ?_); rintro _ _ ⟨rfl, rfl⟩
        rw [send_self]
        iterate 3 (refine aL_S rfl rfl v_ ?_)
        refine aL_GT rfl rfl v_ rfl vg_ ?_
        refine aL_GTX rfl rfl v_ rfl (fun hb => AOp_useV (by rfl) (by rfl) (.inr ⟨by rfl, by rfl, by rfl⟩) g_ cg_ (rMay29_c sc (by omega))) ?_
        iterate 2 (refine aL_S rfl rfl v_ ?_)
        refine aL_GTX rfl rfl v_ rfl (fun hb => AOp_useV (by rfl) (by rfl) (.inr ⟨by rfl, by rfl, by rfl⟩) g_ cg_ (awake29_c)) ?_
        iterate 2 (refine aL_S rfl rfl v_ ?_)
        refine aL_nil ?_
        refine awp_ret ?_
        refine aEnd_ret (σ' := σ) v_ sub_ ?_
        first | exact ⟨rfl, rfl⟩ | exact ⟨by simp [p4.ok], rfl⟩
end Go.Proofs.YtbomkkjhafdhiaaGreat
end
