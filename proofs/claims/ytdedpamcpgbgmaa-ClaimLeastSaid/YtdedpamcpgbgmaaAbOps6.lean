/-
  SLICES MADE, TAKEN FOR GOOD, COPIED TO BE WRITTEN. Own work (an AI agent).
-/
import Derived.Test.YtdedpamcpgbgmaaAbOps5
import Derived.Deep.OwnRows
import Derived.Laws.Cover3
set_option linter.all false
namespace Go.Ab
open Go.RowKit (Below)

section
variable {P : Program} {o : Oper} {α : Operand → AVal} {σ : Store} {Kk : AVal → Store → Prop}

theorem AOp_makeSlice {t e : TypeId} {n by_ : Nat} {x y : Operand} {z : Value} {k1 k2 : IntKind} (ho : o.op = .makeSlice t x y) (hse : sliceElem P t = some e) (hte : appInfo P e = some (1, by_)) (hz : zeroOf P e = some z) (hz1 : z.cells = #[z])
    (hx : α x = .lit (.int k1 n)) (hy : α y = .lit (.int k2 n)) (hn : by_ * n ≤ 281474976710656) (hk : ∀ i, σ.heap i = none → Kk (.msl i 1 0 n) (σ.set i (.cells (List.replicate n (.lit z))))) : AOp P o α σ Kk := by
  obtain ⟨dst, op, ty, pos, after, guard⟩ := o
  obtain rfl : op = _ := ho
  intro κ ev hI hxx
  obtain ⟨i, z', hi, hz', hisz, hiby, hzs, hsz, hby⟩ := appInfo_spec hte
  have hts : P.underlying t = some (.slice e) := by
    unfold sliceElem at hse
    split at hse
    · rename_i e' he'; obtain rfl := Option.some.inj hse; exact he'
    · cases hse
  have hvx := hxx x (by simp [Op.operands])
  have hvy := hxx y (by simp [Op.operands])
  rw [hx] at hvx
  rw [hy] at hvy
  have ezz : z' = z := by
    unfold zeroOf at hz
    rw [hi] at hz
    simpa [hz'] using hz
  subst ezz
  have h63 : n ≤ 9223372036854775807 := by
    have : n ≤ by_ * n := Nat.le_mul_of_pos_left _ hby
    omega
  have hrun := run_make_row' (P := P) t e z' by_ hts (by rw [hi]; simp [hz', hisz, hiby]) hz1 k1 k2 n hn h63 κ.w
  obtain ⟨oi, hoi, hfree⟩ := hI.fresh
  have hsize : (madeCells #[z'] n).size = n := by simp [madeCells]
  obtain ⟨κ', hw, hle, hρ, hI'⟩ := hI.alloc oi hoi (.cells (List.replicate n (.lit z'))) (.cells (madeCells #[z'] n) e) fun κ' hle hh _ => ⟨_, e, hh, by rw [hsize]; simp, fun j hj => by
    have hj' : j < n := by simpa using hj
    have : (madeCells #[z'] n).getD j undef = z' := by simp [madeCells, hj', Nat.mod_one]
    rw [this, List.getElem_replicate]
    exact .lit _⟩
  have hheap : κ'.w.heap[κ.w.heap.size]? = some (.cells (madeCells #[z'] n) e (0, 0)) := by rw [hw]; exact heap_alloc_new _ _
  refine upon_v rfl ⟨_, _, by rw [hvx.litInv, hvy.litInv]; exact hrun, κ', .msl oi 1 0 n, _, hw, hle, hI', .msl oi 1 0 n κ.w.heap.size n n e hρ (Nat.le_refl _) (by unfold World.shape?; rw [hheap]; simp [hsize]) (by omega), hk oi hfree⟩

/-- A slice that is not written any more: what it holds is for good. -/
theorem freeze {κ : K} (hI : Inv κ σ) {so sz len : Nat} {cs l : List AVal} {v : Value} (hv : Rv κ (.msl so sz 0 len) v) (hh : σ.heap so = some (.cells cs)) (hl : cs.take (len * sz) = flat l) (hn : l.length = len) (hs : ∀ x ∈ l, x.cells.length = sz) :
    ∃ κ', κ'.w = κ.w ∧ κ.Le κ' ∧ Inv κ' (σ.del so) ∧ Rv κ' (.sl sz l false) v := by
  subst hn
  have hfl := flat_length hs
  generalize v = u at hv
  cases hv with
  | msl _ _ _ _ b cap n el hb hlc hsh hcap =>
  obtain ⟨b', hb', hbase, hIb, c, el', hheap, hcl, hcv⟩ := hI.heap so _ hh
  rw [hb] at hb'
  obtain rfl := Option.some.inj hb'
  have hlen : l.length * sz ≤ cs.length := by
    have := congrArg List.length hl
    rw [List.length_take, hfl] at this
    omega
  have hle : κ.Le { κ with I := fun k => if k = b then l.length * sz else κ.I k } :=
    ⟨rfl, Below.refl _ _, fun _ _ h => h, fun _ _ h => h, fun _ _ h => h, fun k => by
      show _ ≤ (if k = b then _ else _)
      split
      · rename_i hk; rw [hk, hIb]; exact Nat.zero_le _
      · exact Nat.le_refl _, fun _ _ _ _ h => h⟩
  refine ⟨{ κ with I := fun k => if k = b then l.length * sz else κ.I k }, rfl, hle, ?_, ?_⟩
  · have hne : ∀ i x, (σ.del so).heap i = some x → i ≠ so ∧ σ.heap i = some x := fun i x hx => by
      by_cases hi : i = so
      · rw [hi, Store.del_get] at hx; cases hx
      · rw [Store.del_ne _ hi] at hx; exact ⟨hi, hx⟩
    refine ⟨hI.base, fun i x hx => ?_, fun i i' x x' k hx hx' => hI.inj i i' x x' k (hne _ _ hx).2 (hne _ _ hx').2, fun t q ht => ?_, fun t t' q q' u u' k => hI.tokinj t t' q q' u u' k, fun t q u k i x ht hu hk hx => hI.tokobj t q u k i x ht hu hk (hne _ _ hx).2, hI.frO, hI.frT, fun k hk => ?_⟩
    · obtain ⟨hi, hx'⟩ := hne _ _ hx
      obtain ⟨k, hk, hkb, hkI, hR⟩ := hI.heap i x hx'
      have hkne : k ≠ b := fun hh' => hi (hI.inj i so x _ b hx' hh (by rw [hk, hh']) hb)
      exact ⟨k, hk, hkb, by show (if k = b then _ else _) = _; rw [if_neg hkne]; exact hkI, hR.mono hle rfl⟩
    · obtain ⟨u, hu, hok⟩ := hI.tok t q ht
      refine ⟨u, hu, hok.mono hle fun k hk => ⟨rfl, ?_⟩⟩
      show (if k = b then _ else _) = _
      rw [if_neg (fun hh' => hI.tokobj t q u k so _ ht hu hk hh (by rw [hb, hh']))]
    · show (if k = b then _ else _) = _
      have : b < κ.w.heap.size := (Array.getElem?_eq_some_iff.1 hheap).1
      have hk' : κ.w.heap.size ≤ k := hk
      rw [if_neg (by omega)]
      exact hI.frI k hk
  · refine .sl sz l false b 0 cap (fun k => c.getD k undef) hlc (by simp) hs (fun k hk => ?_) (fun k hk => ?_)
    · refine ⟨?_, ?_⟩
      · show _ < (if b = b then _ else _)
        rw [if_pos rfl]; omega
      · show κ.w.cell? _ = _
        rw [cell_of_row _ _ _ _ _ _ hheap]
        simp [show k < c.size by omega]
    · have e1 : (flat l)[k] = cs[k]'(by omega) := by
        have h1 : (cs.take (l.length * sz))[k]? = (flat l)[k]? := by rw [hl]
        rw [List.getElem?_take, if_pos (by omega), List.getElem?_eq_getElem hk, List.getElem?_eq_getElem (show k < cs.length by omega)] at h1
        exact (Option.some.inj h1).symm
      rw [e1]
      exact (hcv k (by omega)).mono hle

theorem AOp_freeze {x : Operand} {so sz len : Nat} {cs l : List AVal} (ho : o.op = .assign x ∨ o.op = .move x) (hx : α x = .msl so sz 0 len) (hh : σ.heap so = some (.cells cs)) (hl : cs.take (len * sz) = flat l) (hn : l.length = len) (hs : ∀ x ∈ l, x.cells.length = sz)
    (hk : Kk (.sl sz l false) (σ.del so)) : AOp P o α σ Kk := by
  intro κ ev hI hxx
  have hv := hxx x (by rcases ho with ho | ho <;> (rw [ho]; simp [Op.operands]))
  rw [hx] at hv
  have he : (execOp ev o).run P κ.w = .ok (.value (ev x)) κ.w := by
    obtain ⟨dst, op, ty, pos, after, guard⟩ := o
    rcases ho with ho | ho <;> (obtain rfl : op = _ := ho; simp [execOp])
  rw [he]
  obtain ⟨κ', h1, h2, h3, h4⟩ := freeze hI hv hh hl hn hs
  exact ⟨κ', .sl sz l false, _, h1, h2, h3, h4, hk⟩

/-- append to a slice of nothing that has no room: a copy, to be written -/
theorem AOp_copyM {s x : Operand} {t e : TypeId} {sz by_ : Nat} {l2 : List AVal}
    (ho : o.op = .call { callee := .builtin .append, args := #[s, x], argTypes := #[t, t] }) (hse : sliceElem P t = some e) (hte : appInfo P e = some (sz, by_))
    (hs : α s = .sl sz [] true) (hx : slOf (α x) = some (sz, l2)) (hne : l2 ≠ []) (hlen : l2.length * by_ ≤ 140737488355328)
    (hk : ∀ o', σ.heap o' = none → Kk (.msl o' sz 0 l2.length) (σ.set o' (.cells (flat l2)))) : AOp P o α σ Kk := by
  obtain ⟨dst, op, ty, pos, after, guard⟩ := o
  obtain rfl : op = .call { callee := .builtin .append, args := #[s, x], argTypes := #[t, t] } := ho
  intro κ ev hI hxx
  obtain ⟨i, z, hi, hz, hisz, hiby, hzs, hsz, hby⟩ := appInfo_spec hte
  subst hisz
  subst hiby
  have hts : P.underlying t = some (.slice e) := by
    unfold sliceElem at hse
    split at hse
    · rename_i e' he'; obtain rfl := Option.some.inj hse; exact he'
    · cases hse
  have hvs := hxx s (by simp [Op.operands, Call.operands])
  have hvx := hxx x (by simp [Op.operands, Call.operands])
  have hm : 0 < l2.length := List.length_pos_iff.2 hne
  have hle47 : l2.length ≤ 140737488355328 := Nat.le_trans (Nat.le_mul_of_pos_right _ hby) hlen
  obtain ⟨ad, cap2, vs, hevx, hl2sz, hvsr, hcu⟩ : ∃ ad cap2 vs, ev x = .slice (some ad) l2.length cap2 ∧ (∀ y ∈ l2, y.cells.length = i.size) ∧ RvC κ (flat l2) vs ∧ ∀ j u, vs[j]? = some u → κ.w.cell? (ad.add j) = some u := by
    obtain ⟨a, cap, us2, hev, hsz', hr, hc⟩ := sl_vals (slOf_rv hx hvx)
    rcases hc with ⟨_, h0, _⟩ | ⟨ad, rfl, hcu⟩
    · exact absurd h0 hne
    · exact ⟨ad, cap, us2, hev, hsz', hr, hcu⟩
  have hfl2 : vs.length = l2.length * i.size := by rw [← hvsr.1, flat_length hl2sz]
  obtain ⟨o', ho', hfr⟩ := hI.fresh
  have hd := hI.drew
  have fresh : ∀ (cap' : Nat), l2.length ≤ cap' → Post κ Kk (.slice (some ⟨κ.w.heap.size, 0, none⟩) l2.length cap') (κ.w.drew.alloc (.cells (vs.toArray ++ Builtin.zeroCells z.cells (cap' - l2.length)) e)) := by
    intro cap' hcap
    have hsize : (vs.toArray ++ Builtin.zeroCells z.cells (cap' - l2.length)).size = cap' * i.size := by
      simp only [Array.size_append, List.size_toArray, size_zeroCells, hzs, hfl2, ← Nat.add_mul]
      congr 1; omega
    obtain ⟨κ', hw, hle, hρ, hI'⟩ := hd.2.alloc o' ho' (.cells (flat l2)) (.cells (vs.toArray ++ Builtin.zeroCells z.cells (cap' - l2.length)) e) fun κ' hle hh _ => by
      refine ⟨_, e, hh, ?_, fun j hj => ?_⟩
      · rw [hsize, hvsr.1, hfl2]; exact Nat.mul_le_mul_right _ hcap
      · have hj' : j < vs.length := by rw [← hvsr.1]; exact hj
        have e1 : (vs.toArray ++ Builtin.zeroCells z.cells (cap' - l2.length)).getD j undef = vs[j] := by
          simp only [Array.getD_eq_getD_getElem?]
          rw [Array.getElem?_append_left (by simpa using hj')]
          simp [hj']
        rw [e1]
        exact (hvsr.2 j hj hj').mono (hd.1.trans hle)
    have hheap : κ'.w.heap[κ.w.heap.size]? = some (.cells (vs.toArray ++ Builtin.zeroCells z.cells (cap' - l2.length)) e (0, 0)) := by
      rw [hw]; exact Go.heap_alloc_new κ.w.drew _
    exact ⟨κ', .msl o' i.size 0 l2.length, _, hw, hd.1.trans hle, hI', .msl o' i.size 0 _ κ.w.heap.size cap' _ e hρ hcap (by unfold World.shape?; rw [hheap]) (by rw [hsize]; omega), hk o' hfr⟩
  refine upon_v (s := Builtin.append_ #[t, t] ty #[ev s, ev x]) (by simp [execOp, resolve, invoke, builtin]) ?_
  rw [hs] at hvs
  have hnil : (ev s = .slice none 0 0) ∨ ∃ b, ev s = .slice (some b) 0 0 := by
    rcases hvs.slInv with ⟨a, h1, h2⟩ | ⟨b, off, cap, vals, h1, hcap, htt, _⟩
    · cases a with
      | none => exact .inl h1
      | some b => exact .inr ⟨b, h1⟩
    · right
      have := htt rfl
      simp at this
      subst this
      exact ⟨_, h1⟩
  rw [hevx]
  rcases hnil with h0 | ⟨b, h0⟩
  · rw [h0]
    have hr := run_append_nil (P := P) κ.w t ty e i z hts hi hz ad l2.length cap2 vs hfl2 hcu hm (by omega) (by omega)
    exact ⟨_, _, hr, fresh _ (grownCap_ge _ _ _ _)⟩
  · rw [h0]
    have hr := run_append_grow (P := P) κ.w t ty e i z hts hi hz b 0 0 [] (by simp) (by simp) ad l2.length cap2 vs hfl2 hcu (by omega) (by omega) (growslice_fits (by omega) (by simpa using hlen))
    simp only [Nat.zero_add] at hr
    refine ⟨_, _, hr, ?_⟩
    have := fresh (grownCap κ.w l2.length 0 e) (grownCap_ge _ _ _ _)
    simpa using this

/-- is a slice nil, of which there is something? no -/
theorem AOp_eqNil {t yt : TypeId} {x y : Operand} {sz e : Nat} {l : List AVal} (ho : o.op = .binOp .eql t x y yt) (hse : sliceElem P t = some e) (hx : slOf (α x) = some (sz, l)) (hl : l ≠ []) (hy : α y = .lit (.slice none 0 0)) (hk : Kk (.lit (.bool false)) σ) : AOp P o α σ Kk := by
  obtain ⟨dst, op, ty, pos, after, guard⟩ := o
  obtain rfl : op = _ := ho
  intro κ ev hI hxx
  have hvx := hxx x (by simp [Op.operands])
  have hvy := hxx y (by simp [Op.operands])
  rw [hy] at hvy
  have hts : P.underlying t = some (.slice e) := by
    unfold sliceElem at hse
    split at hse
    · rename_i e' he'; obtain rfl := Option.some.inj hse; exact he'
    · cases hse
  obtain ⟨a, cap, us, hev, _, _, hc⟩ := sl_vals (slOf_rv hx hvx)
  rcases hc with ⟨_, h0, _⟩ | ⟨ad, rfl, _⟩
  · exact absurd h0 hl
  · have hb : (binOp .eql t (ev x) (ev y)).run P κ.w = .ok (.bool false) κ.w := by
      have e1 : binOp .eql t (ev x) (ev y) = (do pure (.bool (← Op.equal t (ev x) (ev y)))) := by
        rw [hev, hvy.litInv]
        rfl
      rw [e1, hev, hvy.litInv]
      simp only [Sem.run_bind, run_equal_slice_nil κ.w t e (some ad) l.length cap hts, Result.andThen_ok, Sem.run_pure]
      rfl
    have hg : (eqGuard .eql t x y (ev x) (ev y)).run P κ.w = .ok () κ.w := run_eqGuard_other (by rintro u v ⟨h1, _⟩; rw [hev] at h1; cases h1) (by intro h1; rw [hev] at h1; cases h1)
    refine upon_v (s := do eqGuard .eql t x y (ev x) (ev y); binOp .eql t (ev x) (ev y)) (by simp [execOp]) ⟨.bool false, κ.w, ?_, κ, .lit (.bool false), σ, rfl, .refl κ, hI, .lit _, hk⟩
    simp only [Sem.run_bind, hg, Result.andThen_ok, hb]

end
end Go.Ab
