/-
  Items merged, whichever came first, plainly: what a place has is what all have of it, together; ListerOrder. Own work (an AI agent).
-/
import Derived.Test.YtdgnelnipnjhjaaGreatGJ

section
set_option linter.all false
set_option maxRecDepth 100000
namespace Go.Proofs.YtdgnelnipnjhjaaGreat
open Go.Ab
/-- what a row has at a place -/
def lkAt : List Itm → ByteArray → Option Obj'
  | [], _ => none
  | x :: l, p => if x.place = p then some x.obj else lkAt l p
theorem lkAt_cons (x : Itm) (l : List Itm) (p : ByteArray) : lkAt (x :: l) p = if x.place = p then some x.obj else lkAt l p := rfl
theorem look_none : ∀ {l : List Itm} {p : ByteArray}, (∀ x ∈ l, x.place ≠ p) → lkAt l p = none
  | [], _, _ => rfl
  | x :: l, p, h => by rw [lkAt_cons, if_neg (h x (.head _))]; exact look_none fun y hy => h y (.tail _ hy)
theorem look_low {l : List Itm} {p : ByteArray} (h : ∀ x ∈ l, sLt p x.place = true) : lkAt l p = none := look_none fun x hx => (sLt_ne (h x hx)).symm
theorem rise_head {a : Itm} {l : List Itm} (h : RiseIt (a :: l)) : (∀ x ∈ l, sLt a.place x.place = true) ∧ RiseIt l := List.pairwise_cons.1 h
theorem rise_low {a : Itm} {l : List Itm} {p : ByteArray} (h : RiseIt (a :: l)) (hp : sLt p a.place = true) : ∀ x ∈ a :: l, sLt p x.place = true := fun x hx => by
  rcases List.mem_cons.1 hx with rfl | hx
  · exact hp
  · exact sLt_trans hp ((rise_head h).1 x hx)
theorem look_ext : ∀ {l m : List Itm}, RiseIt l → RiseIt m → (∀ p, lkAt l p = lkAt m p) → l = m
  | [], [], _, _, _ => rfl
  | [], y :: m, _, _, h => by have := h y.place; rw [lkAt_cons, if_pos rfl] at this; cases this
  | x :: l, [], _, _, h => by have := h x.place; rw [lkAt_cons, if_pos rfl] at this; cases this
  | x :: l, y :: m, hl, hm, h => by
    have hx := h x.place
    have hy := h y.place
    rw [lkAt_cons, if_pos rfl] at hx
    rw [lkAt_cons y, if_pos rfl] at hy
    cases h1 : sLt x.place y.place with
    | true => rw [look_low (rise_low hm h1)] at hx; cases hx
    | false =>
      cases h2 : sLt y.place x.place with
      | true => rw [look_low (rise_low hl h2)] at hy; cases hy
      | false =>
        have he : x.place = y.place := by
          by_cases he : x.place = y.place
          · exact he
          · have := sLt_tri h1 he; rw [h2] at this; cases this
        rw [lkAt_cons, if_pos he.symm] at hx
        have ho : x.obj = y.obj := Option.some.inj hx
        have ih : l = m := look_ext (rise_head hl).2 (rise_head hm).2 fun p => by
          have hp := h p
          rw [lkAt_cons, lkAt_cons] at hp
          by_cases hxp : x.place = p
          · subst hxp
            rw [look_low (rise_head hl).1, look_low (by rw [he]; exact (rise_head hm).1)]
          · rw [if_neg hxp, if_neg (by rw [← he]; exact hxp)] at hp; exact hp
        rw [ih]
        have : x = y := by cases x; cases y; simp_all
        rw [this]
/-- what two have, together -/
def om : Option Obj' → Option Obj' → Option Obj'
  | some a, some b => some (mergeO a b)
  | some a, none => some a
  | none, r => r
theorem om_none (a : Option Obj') : om a none = a := by cases a <;> rfl
structure OkI (k : Nat) (l : List Itm) : Prop where
  rise : RiseIt l
  it : ∀ x ∈ l, placeOk x.place = true ∧ OkO k x.obj
theorem OkO.up {j k : Nat} {o : Obj'} (h : OkO j o) (hk : j ≤ k) : OkO k o := ⟨h.ok, by have := h.rm; omega, by have := h.nc; omega, by have := h.ns; omega⟩
theorem OkI.tail {k : Nat} {a : Itm} {l : List Itm} (h : OkI k (a :: l)) : OkI k l := ⟨(rise_head h.rise).2, fun x hx => h.it x (.tail _ hx)⟩
theorem look_mem {l : List Itm} {p : ByteArray} {o : Obj'} : lkAt l p = some o → ∃ x ∈ l, x.obj = o := by
  induction l with
  | nil => intro h; cases h
  | cons a l ih =>
    intro h
    rw [lkAt_cons] at h
    split at h
    · exact ⟨a, .head _, Option.some.inj h⟩
    · obtain ⟨x, hx, e⟩ := ih h; exact ⟨x, .tail _ hx, e⟩
theorem mg_spec {j k : Nat} (hjk : j + k ≤ 8) : ∀ (n : Nat) (l os : List Itm), l.length + os.length ≤ n → OkI j l → OkI k os → (mgG l os).2.2 = 0 ∧ OkI (j + k) (mgG l os).1 ∧ ∀ p, lkAt (mgG l os).1 p = om (lkAt l p) (lkAt os p)
  | n, [], os, _, _, ho => by
    rw [mgG_nil]
    exact ⟨rfl, ⟨ho.rise, fun x hx => ⟨(ho.it x hx).1, (ho.it x hx).2.up (by omega)⟩⟩, fun p => rfl⟩
  | n, a :: l, [], _, hl, _ => by
    rw [mgG_nil2]
    exact ⟨rfl, ⟨hl.rise, fun x hx => ⟨(hl.it x hx).1, (hl.it x hx).2.up (by omega)⟩⟩, fun p => by rw [show lkAt [] p = none from rfl, om_none]⟩
  | 0, a :: l, b :: os, hn, _, _ => by simp at hn
  | n + 1, a :: l, b :: os, hn, hl, ho => by
    have oa := hl.it a (.head _); have ob := ho.it b (.head _)
    have mk : ∀ (c : Itm) (r : List Itm), placeOk c.place = true → OkO (j + k) c.obj → OkI (j + k) r → (∀ x ∈ r, sLt c.place x.place = true) → OkI (j + k) (c :: r) := fun c r h1 h2 h3 h4 =>
      ⟨List.pairwise_cons.2 ⟨h4, h3.rise⟩, fun x hx => by
        rcases List.mem_cons.1 hx with rfl | hx
        · exact ⟨h1, h2⟩
        · exact h3.it x hx⟩
    have bnd : ∀ (q : ByteArray) (l' os' : List Itm), (∀ x ∈ l', sLt q x.place = true) → (∀ x ∈ os', sLt q x.place = true) → ∀ z ∈ (mgG l' os').1, sLt q z.place = true := fun q l' os' h1 h2 => mgG_all (Q := fun z => sLt q z.place = true) _ l' os' (Nat.le_refl _) h1 h2 fun x hx y hy => h1 x hx
    cases hab : sLt a.place b.place with
    | true =>
      obtain ⟨i1, i2, i3⟩ := mg_spec hjk n l (b :: os) (by simp at hn ⊢; omega) hl.tail ho
      have e : mgG (a :: l) (b :: os) = (a :: (mgG l (b :: os)).1, (mgG l (b :: os)).2.1, 0) := by rw [mgG, if_pos hab, if_pos i1]
      rw [e]
      refine ⟨rfl, mk a _ oa.1 (oa.2.up (by omega)) i2 (bnd _ _ _ (rise_head hl.rise).1 (rise_low ho.rise hab)), fun p => ?_⟩
      show lkAt (a :: _) p = _
      rw [lkAt_cons, lkAt_cons]
      by_cases hp : a.place = p
      · rw [if_pos hp, if_pos hp, ← hp, look_low (rise_low ho.rise hab)]; rfl
      · rw [if_neg hp, if_neg hp, i3]
    | false =>
      cases hba : sLt b.place a.place with
      | true =>
        obtain ⟨i1, i2, i3⟩ := mg_spec hjk n (a :: l) os (by simp at hn ⊢; omega) hl ho.tail
        have e : mgG (a :: l) (b :: os) = (b :: (mgG (a :: l) os).1, b :: (mgG (a :: l) os).2.1, 0) := by rw [mgG, if_neg (by simp [hab]), if_pos hba, if_pos i1]
        rw [e]
        refine ⟨rfl, mk b _ ob.1 (ob.2.up (by omega)) i2 (bnd _ _ _ (rise_low hl.rise hba) (rise_head ho.rise).1), fun p => ?_⟩
        show lkAt (b :: _) p = _
        rw [lkAt_cons, lkAt_cons b]
        by_cases hp : b.place = p
        · rw [if_pos hp, if_pos hp, ← hp, look_low (rise_low hl.rise hba)]; rfl
        · rw [if_neg hp, if_neg hp, i3]
      | false =>
        have he : a.place = b.place := by
          by_cases h : a.place = b.place
          · exact h
          · have := sLt_tri hab h; rw [this] at hba; cases hba
        obtain ⟨i1, i2, i3⟩ := mg_spec hjk n l os (by simp at hn ⊢; omega) hl.tail ho.tail
        obtain ⟨m1, m2⟩ := oa.2.merge ob.2 hjk
        have e : mgG (a :: l) (b :: os) = (⟨a.place, mergeO a.obj b.obj⟩ :: (mgG l os).1, (if mergeO a.obj b.obj = a.obj then (mgG l os).2.1 else ⟨a.place, mergeO a.obj b.obj⟩ :: (mgG l os).2.1), 0) := by
          rw [mgG, if_neg (by simp [hab]), if_neg (by simp [hba]), if_neg (by rw [m1]; simp), if_pos i1, m1]
        rw [e]
        refine ⟨rfl, mk _ _ oa.1 m2 i2 (bnd _ _ _ (rise_head hl.rise).1 (by rw [he]; exact (rise_head ho.rise).1)), fun p => ?_⟩
        show lkAt (_ :: _) p = _
        rw [lkAt_cons, lkAt_cons, lkAt_cons b]
        by_cases hp : a.place = p
        · rw [if_pos hp, if_pos hp, if_pos (by rw [← he]; exact hp)]; rfl
        · rw [if_neg hp, if_neg hp, if_neg (by rw [← he]; exact hp), i3]
/-! ### in any order -/
def GO : Type := { o : Option Obj' // ∀ x, o = some x → ObjG x }
theorem om_good {a b : Option Obj'} (ha : ∀ x, a = some x → ObjG x) (hB : ∀ x, b = some x → ObjG x) : ∀ x, om a b = some x → ObjG x := by
  intro x hx
  cases a with
  | none => exact hB x hx
  | some a =>
    cases b with
    | none => exact ha x hx
    | some b => rw [← Option.some.inj hx]; exact merge_good (ha a rfl) (hB b rfl)
def gm (a b : GO) : GO := ⟨om a.1 b.1, om_good a.2 b.2⟩
theorem gm_comm (z x y : GO) : gm (gm z x) y = gm (gm z y) x := by
  apply Subtype.ext
  show om (om z.1 x.1) y.1 = om (om z.1 y.1) x.1
  obtain ⟨z, hz⟩ := z; obtain ⟨x, hx⟩ := x; obtain ⟨y, hy⟩ := y
  cases z with
  | none =>
    cases x with
    | none => cases y <;> rfl
    | some x =>
      cases y with
      | none => rfl
      | some y => show some _ = some _; rw [merge_comm (hx x rfl) (hy y rfl)]
  | some z =>
    cases x with
    | none => cases y <;> rfl
    | some x =>
      cases y with
      | none => rfl
      | some y =>
        show some _ = some _
        have gz := hz z rfl; have gx := hx x rfl; have gy := hy y rfl
        rw [merge_assoc gz gx gy, merge_comm gx gy, ← merge_assoc gz gy gx]
theorem gm_rev (l : List GO) (z : GO) : l.reverse.foldl gm z = l.foldl gm z := by
  refine List.Perm.foldl_eq' (List.reverse_perm l) (fun x _ y _ z => gm_comm z x y) z
/-! ### all answers -/
theorem upGo_of {α : Type} {ok : α → Bool} {key : α → ByteArray} : ∀ {l : List α} {pv : Option ByteArray}, (∀ p, pv = some p → ∀ x ∈ l, sLt p (key x) = true) → (l.Pairwise fun a b => sLt (key a) (key b) = true) → (∀ x ∈ l, ok x = true) → upGo ok key pv l = true
  | [], _, _, _, _ => rfl
  | x :: l, pv, h1, h2, h3 => by
    obtain ⟨h4, h5⟩ := List.pairwise_cons.1 h2
    have ih := upGo_of (ok := ok) (key := key) (l := l) (pv := some (key x)) (fun p hp y hy => by rw [← Option.some.inj hp]; exact h4 y hy) h5 fun y hy => h3 y (.tail _ hy)
    have ha : aheadOk pv (key x) = true := by
      cases pv with
      | none => rfl
      | some p => exact h1 p rfl x (.head _)
    simp only [upGo, h3 x (.head _), ha, ih, Bool.and_self]
theorem OkI.ok {k : Nat} {l : List Itm} (h : OkI k l) : itemsOk l = true := upGo_of (fun p hp => by cases hp) h.rise fun x hx => by rw [(h.it x hx).1, (h.it x hx).2.ok]; rfl
theorem itemsOk_OkI {l : List Itm} (h : itemsOk l = true) (hf : fewIt l = true) : OkI 1 l := by
  obtain ⟨h1, h2⟩ := itemsOk_rise h
  exact ⟨h1, fun x hx => ⟨(h2 x hx).1, ((fewIt_sm hf).2.2 x hx).okO (h2 x hx).2⟩⟩
def good (a : Act') : Bool := decide (a.kind = 1) && itemsOk a.items
def goL (a : Act') (p : ByteArray) : GO := ⟨if good a then lkAt a.items p else none, fun x hx => by
  split at hx
  · rename_i hg
    simp only [good, Bool.and_eq_true] at hg
    obtain ⟨y, hy, e⟩ := look_mem hx
    rw [← e]
    exact (objOk_iff.1 ((itemsOk_rise hg.2).2 y hy).2).1
  · cases hx⟩
def g0 : GO := ⟨none, fun x hx => by cases hx⟩
structure Iv (done : List Act') (s : Ls) : Prop where
  rep : s.rep = done.map Act'.node
  ref : s.ref = done.any fun a => !good a
  ok : OkI done.length s.all
  lk : ∀ p, lkAt s.all p = ((done.map fun a => goL a p).foldl gm g0).1
theorem Iv.nil : Iv [] ⟨[], false, []⟩ := ⟨rfl, rfl, ⟨.nil, fun x hx => (List.not_mem_nil hx).elim⟩, fun p => rfl⟩
theorem Iv.step {nd : List ByteArray} {done : List Act'} {s : Ls} {a : Act'} (h : Iv done s) (hn : done.length + 1 ≤ 8) (hf : fewIt a.items = true) (h1 : hasN nd a.node = true) (h2 : hasN (done.map Act'.node) a.node = false) : Iv (done ++ [a]) (doSt nd a s) := by
  have hfr : freshB nd s.rep a.node = true := by rw [freshB, h1, h.rep, h2]; rfl
  have up : OkI (done ++ [a]).length s.all := ⟨h.ok.rise, fun x hx => ⟨(h.ok.it x hx).1, (h.ok.it x hx).2.up (by simp)⟩⟩
  cases hg : good a with
  | true =>
    have hg' := hg
    simp only [good, Bool.and_eq_true, decide_eq_true_eq] at hg'
    obtain ⟨m1, m2, m3⟩ := mg_spec hn _ s.all a.items (Nat.le_refl _) h.ok (itemsOk_OkI hg'.2 hf)
    have e : mergeI s.all a.items = mgG s.all a.items := by rw [mergeI, h.ok.ok, hg'.2]; rfl
    rw [do_yes hfr hg'.1 (by rw [e]; exact m1), e]
    refine ⟨by rw [h.rep]; simp, by rw [h.ref]; simp [hg], by simpa using m2, fun p => ?_⟩
    rw [m3, h.lk, List.map_append, List.foldl_append]
    show _ = om _ (goL a p).1
    rw [show (goL a p).1 = lkAt a.items p from by show (if good a then _ else _) = _; rw [hg, if_pos rfl]]
  | false =>
    have hb : a.kind ≠ 1 ∨ (mergeI s.all a.items).2.2 ≠ 0 := by
      by_cases hk : a.kind = 1
      · right
        have : itemsOk a.items = false := by simpa [good, hk] using hg
        rw [mergeI, this, Bool.and_false, if_neg (by simp)]; simp
      · exact .inl hk
    rw [do_ref hfr hb]
    refine ⟨by rw [h.rep]; simp, by simp [hg], up, fun p => ?_⟩
    show lkAt s.all p = _
    rw [h.lk, List.map_append, List.foldl_append]
    show _ = om _ (goL a p).1
    rw [show (goL a p).1 = none from by show (if good a then _ else _) = _; rw [hg, if_neg (by simp)], om_none]
theorem hasN_iff {l : List ByteArray} {x : ByteArray} : hasN l x = true ↔ x ∈ l := by
  simp only [hasN, List.any_eq_true, decide_eq_true_eq]
  exact ⟨fun ⟨y, hy, e⟩ => e ▸ hy, fun h => ⟨x, h, rfl⟩⟩
theorem Iv.both {l : List Act'} {s t : Ls} (h : Iv l s) (k : Iv l.reverse t) : stS (l.map Act'.node) s = stS (l.map Act'.node) t ∧ stS (l.map Act'.node) s ≠ 0 ∧ s.all = t.all := by
  have e1 : s.ref = t.ref := by rw [h.ref, k.ref, List.any_reverse]
  have e2 : ∀ r : Ls, (∀ x ∈ l.map Act'.node, x ∈ r.rep) → stS (l.map Act'.node) r = if r.ref then 2 else 1 := fun r hr => by
    have : (l.map Act'.node).any (fun x => !hasN r.rep x) = false := by
      rw [List.any_eq_false]
      intro x hx
      simp [hasN_iff.2 (hr x hx)]
    rw [stS, this]; rfl
  have a1 := e2 s fun x hx => by rw [h.rep]; exact hx
  have a2 := e2 t fun x hx => by rw [k.rep, List.map_reverse]; exact List.mem_reverse.2 hx
  refine ⟨by rw [a1, a2, e1], by rw [a1]; split <;> decide, look_ext h.ok.rise k.ok.rise fun p => ?_⟩
  rw [h.lk, k.lk, List.map_reverse, gm_rev]
end Go.Proofs.YtdgnelnipnjhjaaGreat
end

section
set_option linter.all false
set_option maxRecDepth 100000
namespace Go.Proofs.YtdgnelnipnjhjaaGreat
open Go.Ab
def names (l : List Act') : List ByteArray := l.map Act'.node
theorem names_snoc {l : List Act'} {i : Nat} {x : Act'} (h : l[i]? = some x) : (names (l.take (i + 1))).map vStr = (names (l.take i)).map vStr ++ [vStr x.node] := by
  rw [take_snoc h, names, List.map_append, List.map_append]; rfl
/-- all names are unlike -/
def Apt (l : List Act') : Prop := (names l).Pairwise (· ≠ ·)
theorem Apt.snoc {l : List Act'} {i : Nat} {x : Act'} (h : Apt (l.take i)) (hx : l[i]? = some x) (hn : hasN (names (l.take i)) x.node = false) : Apt (l.take (i + 1)) := by
  unfold Apt names at *
  rw [take_snoc hx, List.map_append]
  refine List.pairwise_append.2 ⟨h, List.pairwise_singleton _ _, fun a ha b hb => ?_⟩
  obtain rfl := List.mem_singleton.1 hb
  intro he
  subst he
  have := hasN_iff.2 ha
  rw [hn] at this; cases this
theorem Apt.new {l : List Act'} {i : Nat} {x : Act'} (h : Apt l) (hx : l[i]? = some x) : hasN (names (l.take i)) x.node = false := by
  cases hh : hasN (names (l.take i)) x.node with
  | false => rfl
  | true =>
    have hm := hasN_iff.1 hh
    have h2 : Apt (l.take (i + 1)) := by
      unfold Apt names at *
      rw [List.map_take]
      exact h.sublist (List.take_sublist ..)
    unfold Apt names at h2
    rw [take_snoc hx, List.map_append] at h2
    exact absurd rfl ((List.pairwise_append.1 h2).2.2 _ hm _ (.head _))
theorem Apt.rev {l : List Act'} (h : Apt l) : Apt l.reverse := by
  unfold Apt names at *
  rw [List.map_reverse]
  exact List.pairwise_reverse.2 (h.imp fun hab => Ne.symm hab)
theorem names_mem {l : List Act'} {x : Act'} (hx : x ∈ l) : hasN (names l) x.node = true := hasN_iff.2 (List.mem_map.2 ⟨x, hx, rfl⟩)
theorem Iv.next {l L : List Act'} {i : Nat} {x : Act'} {s : Ls} (h : Iv (l.take i) s) (hx : l[i]? = some x) (h8 : l.length ≤ 8) (hf : fewIt x.items = true) (ha : Apt l) (hm : x ∈ L) : Iv (l.take (i + 1)) (doSt (names L) x s) := by
  have hi := (List.getElem?_eq_some_iff.1 hx).1
  rw [take_snoc hx]
  exact h.step (by rw [List.length_take]; omega) hf (names_mem hm) (ha.new hx)
set_option maxHeartbeats 4000000 in
theorem listerOrder_c {b : ByteArray} {l : List Act'} {σ : Store} : ACalls Tryz.prog 8 [vStr b, .sl 3 (l.map sAct) false] σ fun v σ' => v = vB true ∧ σ = σ' := by
  refine ACalls_of Tryz.func8 rfl Tryz.ntmps8 (congrArg Array.toList Tryz.results8) (by simp only [List.length_cons, List.length_nil]; decide) ?_; simp only [envOf_cons, envOf_nil, Nat.reduceAdd]
  refine awp_seq ?_
  refine awp_region (by kernel_rfl) ?_
  (refine aL_S rfl rfl v_ ?_)
  refine aL_nil ?_
  refine awp_seq ?_
  refine awp_seq ?_
  refine awp_region (by kernel_rfl) ?_
  iterate 4 (refine aL_S rfl rfl v_ ?_)
  refine aL_GF rfl rfl v_ rfl vg_ ?_
  refine aL_GFX rfl rfl v_ rfl (fun hb => AOp_useV (by rfl) (by rfl) (.inr ⟨by rfl, by rfl, by rfl⟩) g_ cg_ (few38_c)) ?_
  refine aL_GF rfl rfl v_ rfl vg_ ?_
  (refine aL_S rfl rfl v_ ?_)
  refine aL_nil ?_
  refine awp_cond v_ (fun hc1 => ?_) (fun hc1 => ?_)
  · replace hc1 := nm_ hc1
    refine awp_seq ?_
    refine awp_region (by kernel_rfl) ?_
    refine aL_X rfl rfl (AOp_use rfl rfl (.inr ⟨rfl, rfl, rfl⟩) g_ va_ (awake38_c) ?_); rintro _ _ ⟨rfl, rfl⟩
    (refine aL_S rfl rfl v_ ?_)
    refine aL_nil ?_
    refine awp_ret ?_
    refine aEnd_ret (σ' := σ) v_ sub_ ?_
    exact ⟨rfl, rfl⟩
  · replace hc1 := nm_ hc1
    obtain ⟨hl8, hit⟩ := fewAct_it hc1.2
    refine awp_skip ?_
    refine awp_seq ?_
    refine awp_region (by kernel_rfl) ?_
    refine aL_nilOwn 9 1 rfl rfl rfl (by rfl) fun k5 hk5 => ?_
    refine aL_nil ?_
    refine awp_seq ?_
    refine awp_seq ?_
    refine awp_region (by kernel_rfl) ?_
    (refine aL_S rfl rfl v_ ?_)
    refine aL_nil ?_
    refine awp_block ?_
    refine awp_loop_env (ι := Nat × Nat) (fun ⟨tk, i⟩ => l.length - i) (fun ⟨tk, i⟩ => i ≤ l.length ∧ σ.tok tk = none ∧ Apt (l.take i)) (fun ⟨tk, i⟩ => [(0, vStr b), (1, .sl 3 (l.map sAct) false), (5, .own tk 1 ((names (l.take i)).map vStr)), (6, vInt i)]) (fun ⟨tk, i⟩ => (σ.newTok none tk pStr)) (k5, 0) ?_ ?_ ?_ ?_
    · exact ⟨Nat.zero_le _, hk5, .nil⟩
    · exact cv_
    · exact Store.Wk.refl _
    rintro ⟨tk, i⟩ ⟨hi, htk, hap⟩
    simp only [envL_cons, envL_nil]
    refine awp_seq ?_
    refine awp_seq ?_
    refine awp_region (by kernel_rfl) ?_
    iterate 4 (refine aL_S rfl rfl v_ ?_)
    refine aL_nil ?_
    refine awp_cond v_ (fun hc5 => ?_) (fun hc5 => ?_)
    · replace hc5 := nm_ hc5
      refine awp_skip ?_
      refine awp_seq ?_
      refine awp_block ?_
      refine awp_seq ?_
      refine awp_seq ?_
      obtain ⟨x, hx⟩ := get_some (l := l) (k := i) (by omega)
      have hcov := names_snoc hx
      have hlen : (names (l.take i)).length ≤ 8 := by rw [names, List.length_map, List.length_take]; omega
      have R := hx
      refine awp_region (by kernel_rfl) ?_
      iterate 6 (refine aL_S rfl rfl v_ ?_)
      refine aL_X rfl rfl (AOp_use rfl rfl (.inr ⟨rfl, rfl, rfl⟩) g_ va_ (rInO_c (s := x.node) (by omega)) ?_); rintro _ _ ⟨rfl, rfl⟩
      refine aL_nil ?_
      refine awp_cond v_ (fun hc7 => ?_) (fun hc7 => ?_)
      · replace hc7 := nm_ hc7
        refine awp_seq ?_
        refine awp_region (by kernel_rfl) ?_
        refine aL_X rfl rfl (AOp_use rfl rfl (.inr ⟨rfl, rfl, rfl⟩) g_ va_ (awake38_c) ?_); rintro _ _ ⟨rfl, rfl⟩
        (refine aL_S rfl rfl v_ ?_)
        refine aL_nil ?_
        refine awp_ret ?_
        refine aEnd_ret (σ' := σ) v_ sub_ ?_
        exact ⟨rfl, rfl⟩
      · replace hc7 := nm_ hc7
        refine awp_skip ?_
        have R := hx
        refine awp_region (by kernel_rfl) ?_
        iterate 6 (refine aL_S rfl rfl v_ ?_)
        refine aL_buildSlice rfl rfl rfl g_ g_ rfl rfl h_ c2_ (by decide) ?_
        refine aL_append rfl rfl rfl g_ g_ v_ h_ v_ c_ (by simp; omega) fun k40 hk40 => ?_
        (refine aL_S rfl rfl v_ ?_)
        refine aL_nil ?_
        refine awp_region (by kernel_rfl) ?_
        iterate 3 (refine aL_S rfl rfl v_ ?_)
        refine aL_nil ?_
        refine aNext (ι := Nat × Nat) (i := ⟨tk, i⟩) (k40, i + 1) ?_ ?_ ?_ ?_
        · show l.length - (i + 1) < l.length - i; omega
        · exact ⟨by show i + 1 ≤ l.length; omega, (newTok_none hk40).2, hap.snoc hx hc7⟩
        · have R := hcov; exact cv_
        · exact sub_
    · replace hc5 := nm_ hc5
      refine awp_exit ?_
      refine aThen_exit ?_
      refine aThen_exit ?_
      refine aBlock_hit ?_
      refine awp_seq ?_
      obtain rfl : i = l.length := by omega
      rw [List.take_length] at hap ⊢
      have hlen : (names l).length ≤ 8 := by rw [names, List.length_map]; omega
      have sb : SubX [] σ (σ.newTok none tk pStr) := subx_newTok htk subx_refl
      refine awp_region (by kernel_rfl) ?_
      iterate 2 (refine aL_S rfl rfl v_ ?_)
      refine aL_X rfl rfl (AOp_use rfl rfl (.inr ⟨rfl, rfl, rfl⟩) g_ va_ (ACalls.wkA (args := [vStr b, .own tk 1 ((names l).map vStr)]) (lNew_c (b := b) (nd := names l) (t := false) (by omega)) rfl (fun j hj hj' => by match j, hj with | 0, _ => exact .refl _ | 1, _ => exact .own1 _ _ _)) ?_); rintro _ τ1 ⟨m1, g1, hm1, hg1, hgm1, rfl, rfl⟩
      have hL : L1 σ (((σ.newTok none tk pStr).set m1 (.map (kvR []))).set g1 (lsO b (names l) m1 false [])) g1 m1 b (names l) ⟨[], false, []⟩ := L1.new sb hm1 hg1 hgm1
      have hs := hL.sub (x := .map (kvR [])) (y := lsO b (names l) m1 false []) sb
      iterate 2 (refine aL_S rfl rfl v_ ?_)
      refine aL_X rfl rfl (AOp_use rfl rfl (.inr ⟨rfl, rfl, rfl⟩) g_ va_ (ACalls.wkA (args := [vStr b, .own tk 1 ((names l).map vStr)]) (lNew_c (b := b) (nd := names l) (t := false) (by omega)) rfl (fun j hj hj' => by match j, hj with | 0, _ => exact .refl _ | 1, _ => exact .own1 _ _ _)) ?_); rintro _ τ2 ⟨m2, g2, hm2, hg2, hgm2, rfl, rfl⟩
      iterate 2 (refine aL_S rfl rfl v_ ?_)
      refine aL_nil ?_
      skip
      refine awp_gen fun S0 hS => ?_
      have a1 := ne_of_heap hL.hg hg2; have a2 := ne_of_heap hL.hg hm2; have a3 := ne_of_heap hL.hm hg2; have a4 := ne_of_heap hL.hm hm2
      have hL2 : L1 σ S0 g2 m2 b (names l) ⟨[], false, []⟩ := by rw [hS]; exact L1.new hs hm2 hg2 hgm2
      have hL1 : L1 σ S0 g1 m1 b (names l) ⟨[], false, []⟩ := by rw [hS]; exact (hL.keep a2 a4).keep a1 a3
      have hs0 : SubX [] σ S0 := by rw [hS]; exact hL2.sub hs
      clear hS
      refine awp_seq ?_
      refine awp_seq ?_
      refine awp_region (by kernel_rfl) ?_
      (refine aL_S rfl rfl v_ ?_)
      refine aL_nil ?_
      refine awp_block ?_
      refine awp_loop_env (ι := Store × Nat × Ls × Ls) (fun ⟨S, i, s, t⟩ => l.length - i) (fun ⟨S, i, s, t⟩ => i ≤ l.length ∧ L1 σ S g1 m1 b (names l) s ∧ L1 σ S g2 m2 b (names l) t ∧ Iv (l.take i) s ∧ Iv (l.reverse.take i) t ∧ SzL i s.all ∧ SzL i t.all ∧ SubX [] σ S) (fun ⟨S, i, s, t⟩ => [(1, .sl 3 (l.map sAct) false), (7, .ref g1 0), (8, .ref g2 0), (9, vInt i)]) (fun ⟨S, i, s, t⟩ => S) (S0, 0, ⟨[], false, []⟩, ⟨[], false, []⟩) ?_ ?_ ?_ ?_
      · exact ⟨Nat.zero_le _, hL1, hL2, .nil, .nil, SzL.nil, SzL.nil, hs0⟩
      · exact cv_
      · exact Store.Wk.refl _
      rintro ⟨S, i, s, t⟩ ⟨hi, hA, hB, ia, ib, za, zb, hs⟩
      simp only [envL_cons, envL_nil]
      refine awp_seq ?_
      refine awp_seq ?_
      refine awp_region (by kernel_rfl) ?_
      iterate 4 (refine aL_S rfl rfl v_ ?_)
      refine aL_nil ?_
      refine awp_cond v_ (fun hc12 => ?_) (fun hc12 => ?_)
      · replace hc12 := nm_ hc12
        refine awp_skip ?_
        refine awp_seq ?_
        refine awp_block ?_
        refine awp_seq ?_
        obtain ⟨x, hx⟩ := get_some (l := l) (k := i) (by omega)
        have hxf := hit x (List.mem_of_getElem? hx)
        obtain ⟨x8, xs, _⟩ := fewIt_sm hxf
        obtain ⟨y, hyr⟩ := get_some (l := l.reverse) (k := i) (by rw [List.length_reverse]; omega)
        have hym : y ∈ l := List.mem_reverse.1 (List.mem_of_getElem? hyr)
        have hyf := hit y hym
        obtain ⟨y8, ys, _⟩ := fewIt_sm hyf
        have hy : l[l.length - 1 - i]? = some y := by rw [← hyr, List.getElem?_reverse (by omega)]
        have hidx : ((l.length : Int) - 1 - (i : Int)).toNat = l.length - 1 - i := by omega
        have zal := za.len; have zbl := zb.len
        have hMa := za.hM hxf (by omega)
        have hMb := zb.hM hyf (by omega)
        have R := hx
        refine awp_region (by kernel_rfl) ?_
        iterate 5 (refine aL_S rfl rfl v_ ?_)
        refine aL_X rfl rfl (AOp_use rfl rfl (.inr ⟨rfl, rfl, rfl⟩) g_ va_ (do_c (s := s) (a := x) hA.hg hA.hm (by omega) za.sm xs hMa (by omega) (by omega)) ?_); rintro _ τ3 ⟨rfl, rfl⟩
        refine aL_nil ?_
        skip
        refine awp_gen fun S1 hS => ?_
        have hA1 : L1 σ S1 g1 m1 b (names l) (doSt (names l) x s) := by rw [hS]; exact hA.step
        have hB1 : L1 σ S1 g2 m2 b (names l) t := by rw [hS]; exact (hB.keep (Ne.symm a3) (Ne.symm a4)).keep (Ne.symm a1) (Ne.symm a2)
        have hs1 : SubX [] σ S1 := by rw [hS]; exact hA.sub hs
        clear hS
        have R := And.intro hidx hy
        refine awp_region (by kernel_rfl) ?_
        iterate 9 (refine aL_S rfl rfl v_ ?_)
        refine aL_X rfl rfl (AOp_use rfl rfl (.inr ⟨rfl, rfl, rfl⟩) g_ va_ (do_c (s := t) (a := y) hB1.hg hB1.hm (by omega) zb.sm ys hMb (by omega) (by omega)) ?_); rintro _ τ4 ⟨rfl, rfl⟩
        refine aL_nil ?_
        skip
        refine q_gen fun S2 hS => ?_
        have hB2 : L1 σ S2 g2 m2 b (names l) (doSt (names l) y t) := by rw [hS]; exact hB1.step
        have hA2 : L1 σ S2 g1 m1 b (names l) (doSt (names l) x s) := by rw [hS]; exact (hA1.keep a2 a4).keep a1 a3
        have hs2 : SubX [] σ S2 := by rw [hS]; exact hB1.sub hs1
        clear hS
        refine awp_region (by kernel_rfl) ?_
        iterate 3 (refine aL_S rfl rfl v_ ?_)
        refine aL_nil ?_
        refine aNext (ι := Store × Nat × Ls × Ls) (i := ⟨S, i, s, t⟩) (S2, i + 1, doSt (names l) x s, doSt (names l) y t) ?_ ?_ ?_ ?_
        · show l.length - (i + 1) < l.length - i; omega
        · exact ⟨by show i + 1 ≤ l.length; omega, hA2, hB2, ia.next hx hl8 hxf hap (List.mem_of_getElem? hx), ib.next hyr (by rw [List.length_reverse]; exact hl8) hyf hap.rev hym, za.do hxf (by omega), zb.do hyf (by omega), hs2⟩
        · exact cv_
        · exact Store.Wk.refl _
      · replace hc12 := nm_ hc12
        refine awp_exit ?_
        refine aThen_exit ?_
        refine aThen_exit ?_
        refine aBlock_hit ?_
        refine awp_seq ?_
        obtain rfl : i = l.length := by omega
        rw [List.take_length] at ia
        rw [List.take_of_length_le (by rw [List.length_reverse]; exact Nat.le_refl _)] at ib
        obtain ⟨e1, e2, e3⟩ := ia.both ib
        replace e1 : stS (names l) t = stS (names l) s := e1.symm
        replace e2 : stS (names l) s ≠ 0 := e2
        have e4 : keysS b (names l) t = keysS b (names l) s := by rw [keysS, keysS, e1, e3]
        have zal := za.len; have zbl := zb.len
        have e5 : (keysS b (names l) s).length ≤ 100 := by
          rw [keysS]; split
          · have := keysA_len b s.all; omega
          · exact Nat.zero_le _
        refine awp_region (by kernel_rfl) ?_
        (refine aL_S rfl rfl v_ ?_)
        refine aL_X rfl rfl (AOp_use rfl rfl (.inr ⟨rfl, rfl, rfl⟩) g_ va_ (state_c (s := s) hA.hg hA.hm (by omega)) ?_); rintro _ _ ⟨rfl, rfl⟩
        (refine aL_S rfl rfl v_ ?_)
        refine aL_X rfl rfl (AOp_use rfl rfl (.inr ⟨rfl, rfl, rfl⟩) g_ va_ (state_c (s := t) hB.hg hB.hm (by omega)) ?_); rintro _ _ ⟨rfl, rfl⟩
        rw [e1]
        iterate 2 (refine aL_S rfl rfl v_ ?_)
        refine aL_GT rfl rfl v_ rfl vg_ ?_
        refine aL_GTX rfl rfl v_ rfl (fun hb => AOp_useV (by rfl) (by rfl) (.inr ⟨by rfl, by rfl, by rfl⟩) g_ cg_ (state_c (s := s) hA.hg hA.hm (by omega))) ?_
        refine aL_GT rfl rfl v_ rfl vg_ ?_
        iterate 2 (refine aL_S rfl rfl v_ ?_)
        refine aL_GT rfl rfl v_ rfl vg_ ?_
        refine aL_GTX rfl rfl v_ rfl (fun hb => AOp_useV (by rfl) (by rfl) (.inr ⟨by rfl, by rfl, by rfl⟩) g_ cg_ (keys_c (s := s) hA.hg hA.hm (by omega) za.sm (by omega))) ?_
        refine aL_GT rfl rfl v_ rfl vg_ ?_
        refine aL_GTX rfl rfl v_ rfl (fun hb => AOp_useV (by rfl) (by rfl) (.inr ⟨by rfl, by rfl, by rfl⟩) g_ cg_ (keys_c (s := t) hB.hg hB.hm (by omega) zb.sm (by omega))) ?_
        rw [e4]
        refine aL_GTX rfl rfl v_ rfl (fun hb => AOp_useV (by rfl) (by rfl) (.inr ⟨by rfl, by rfl, by rfl⟩) g_ cg_ (sameTx_c (a := keysS b (names l) s) (b := keysS b (names l) s) (by omega) (by omega))) ?_
        iterate 2 (refine aL_S rfl rfl v_ ?_)
        refine aL_GTX rfl rfl v_ rfl (fun hb => AOp_useV (by rfl) (by rfl) (.inr ⟨by rfl, by rfl, by rfl⟩) g_ cg_ (awake38_c)) ?_
        iterate 2 (refine aL_S rfl rfl v_ ?_)
        refine aL_nil ?_
        refine awp_ret ?_
        exact aEnd_ret va_ (subx_start hs) ⟨by simp [e2], rfl⟩
end Go.Proofs.YtdgnelnipnjhjaaGreat
end
