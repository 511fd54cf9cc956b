/-
  The program's values of two objects: the greater one, where a dot's value stands, what another object lets be; The reference's objects merged; The library's sort and compaction of values, of a row that grew; objects merged; Values of one dot taken once: the library's CompactFunc, of a row that is written; The program's objects merged; Objects: covering, size, one write's object; the program's and the reference's; Objects without values that are gone: the library's Clone and DeleteFunc; Rows with something put in, in the abstract: what slices.Insert and a binary search need. Own work (an AI agent).
-/
import Derived.Test.YtbcgkbdacijoiaaGreatGG
import Derived.Test.YtbcgkbdacijoiaaGreatGF
import Derived.Shelf.SlSortCmp.NoneTotal
import Derived.Test.YtbcgkbdacijoiaaGreatGD

section
set_option linter.all false
set_option maxRecDepth 100000
namespace Go.Proofs.YtbcgkbdacijoiaaGreat
open Go.Ab

end Go.Proofs.YtbcgkbdacijoiaaGreat
end

section
set_option linter.all false
set_option maxRecDepth 100000
namespace Go.Proofs.YtbcgkbdacijoiaaGreat
open Go.Ab

end Go.Proofs.YtbcgkbdacijoiaaGreat
end

section
set_option linter.all false
set_option maxRecDepth 100000
namespace Go.Proofs.YtbcgkbdacijoiaaGreat
open Go.Ab Go.Shelf Go.Proofs

theorem keeps_pos {L : List Sib} {k : Nat} {x y : Sib} (hk : 0 < k) (hx : L[k]? = some x) (hy : L[k - 1]? = some y) : Lib.compactUpTo L.toArray (k + 1) = Lib.compactUpTo L.toArray k ++ (if x = y then [] else [x]) := by
  have h1 := (List.getElem?_eq_some_iff.1 hx).1
  have h2 := (List.getElem?_eq_some_iff.1 hy).1
  have e1 : L.toArray[k]! = x := by
    have := (List.getElem?_eq_some_iff.1 hx).2
    simp [h1, this]
  have e2 : L.toArray[k - 1]! = y := by
    have := (List.getElem?_eq_some_iff.1 hy).2
    simp [h2, this]
  rw [Lib.compactUpTo_succ]
  congr 1
  simp only [Lib.keeps, e1, e2]
  by_cases h : x = y
  · simp [h, show k ≠ 0 by omega]
  · simp [h]
end Go.Proofs.YtbcgkbdacijoiaaGreat
end

section
set_option linter.all false
set_option maxRecDepth 100000
namespace Go.Proofs.YtbcgkbdacijoiaaGreat
open Go.Ab

structure CmI (L : List Sib) (j : Nat) (kk : Nat) (M : List Sib) : Prop where
  len : M.length = L.length
  tk : M.take kk = Lib.compactUpTo L.toArray j
  cnt : (Lib.compactUpTo L.toArray j).length = kk
  lt : kk < j
  le : j ≤ L.length
  dr : M.drop (j - 1) = L.drop (j - 1)
theorem CmI.put {L : List Sib} {j kk : Nat} {M : List Sib} {x y : Sib} (h : CmI L j kk M) (hx : L[j]? = some x) (hy : L[j - 1]? = some y) (hn : x ≠ y) : CmI L (j + 1) (kk + 1) (M.set kk x) := by
  have h1 := (List.getElem?_eq_some_iff.1 hx).1
  have hk := h.lt
  have hs := keeps_pos (by omega) hx hy
  rw [if_neg hn] at hs
  have hl := h.len
  refine ⟨by rw [List.length_set]; exact h.len, ?_, by rw [hs, List.length_append, h.cnt]; rfl, by omega, by omega, ?_⟩
  · rw [hs, ← h.tk]
    rw [take_snoc (show (M.set kk x)[kk]? = some x by rw [List.getElem?_set_self]; omega), List.take_set_of_le (Nat.le_refl _)]
  · rw [Nat.add_sub_cancel, List.drop_set_of_lt (by omega)]
    have := congrArg (List.drop 1) h.dr
    rwa [List.drop_drop, List.drop_drop, show j - 1 + 1 = j by omega] at this
theorem CmI.skip {L : List Sib} {j kk : Nat} {M : List Sib} {x : Sib} (h : CmI L j kk M) (hx : L[j]? = some x) (hy : L[j - 1]? = some x) : CmI L (j + 1) kk M := by
  have h1 := (List.getElem?_eq_some_iff.1 hx).1
  have hk := h.lt
  have hs := keeps_pos (by omega) hx hy
  rw [if_pos rfl, List.append_nil] at hs
  refine ⟨h.len, by rw [hs]; exact h.tk, by rw [hs]; exact h.cnt, by omega, by omega, ?_⟩
  have := congrArg (List.drop 1) h.dr
  rwa [List.drop_drop, List.drop_drop, show j - 1 + 1 = j by omega] at this
end Go.Proofs.YtbcgkbdacijoiaaGreat
end

section
set_option linter.all false
set_option maxRecDepth 100000
namespace Go.Proofs.YtbcgkbdacijoiaaGreat
open Go.Ab

end Go.Proofs.YtbcgkbdacijoiaaGreat
end

section
set_option linter.all false
set_option maxRecDepth 100000
namespace Go.Proofs.YtbcgkbdacijoiaaGreat
open Go.Ab

def fSeen (x : Seen) : Nat := 16 + 16 * x.more.length
def fSib (x : Sib) : Nat := 64 + x.value.size
def sizeS (o : Obj') : Nat := (o.ctx.map fSeen).sum + (o.sibs.map fSib).sum
theorem sum_bd {α : Type} {f : α → Nat} {c : Nat} : ∀ {l : List α}, (∀ x ∈ l, f x ≤ c) → (l.map f).sum ≤ c * l.length
  | [], _ => by simp
  | x :: l, h => by
    have h1 := sum_bd (l := l) fun y hy => h y (.tail _ hy)
    have h2 := h x (.head _)
    simp only [List.map_cons, List.sum_cons, List.length_cons, Nat.mul_add, Nat.mul_one]; omega
theorem sum_snoc {α : Type} {f : α → Nat} {l : List α} {k : Nat} {x : α} (hx : l[k]? = some x) : ((l.take (k + 1)).map f).sum = ((l.take k).map f).sum + f x := by
  rw [take_snoc hx, List.map_append, List.sum_append]; simp
theorem size_bds {o : Obj'} (ho : ObjSm o) (i j : Nat) : ((o.ctx.take i).map fSeen).sum ≤ 16000016000 ∧ ((o.sibs.take j).map fSib).sum ≤ 1000064000 := by
  have h1 := sum_bd (f := fSeen) (c := 16000016) (l := o.ctx.take i) fun x hx => by have := (ho.ctx x (List.mem_of_mem_take hx)).more; unfold fSeen; omega
  have h2 := sum_bd (f := fSib) (c := 1000064) (l := o.sibs.take j) fun x hx => by have := (ho.sibs x (List.mem_of_mem_take hx)).value; unfold fSib; omega
  have h3 := ho.nc; have h4 := ho.ns
  rw [List.length_take] at h1 h2
  refine ⟨Nat.le_trans h1 (Nat.le_trans (Nat.mul_le_mul_left _ (show min i o.ctx.length ≤ 1000 by omega)) (by decide)), Nat.le_trans h2 (Nat.le_trans (Nat.mul_le_mul_left _ (show min j o.sibs.length ≤ 1000 by omega)) (by decide))⟩
theorem size_c {o : Obj'} {σ : Store} (ho : ObjSm o) : ACalls Tryz.prog 146 [sObj o] σ fun v σ' => v = vInt (sizeS o) ∧ σ = σ' := by
  have hnc := ho.nc; have hns := ho.ns
  refine ACalls_of Tryz.func146 rfl Tryz.ntmps146 (congrArg Array.toList Tryz.results146) (by simp only [List.length_cons, List.length_nil]; decide) ?_; simp only [envOf_cons, envOf_nil, Nat.reduceAdd]
  refine awp_seq ?_
  refine awp_region (by kernel_rfl) ?_
  refine aL_box rfl rfl rfl v_ rfl g_ fun o1 ho1 => ?_
  repeat (rw [none_set_iff] at ho1; obtain ⟨_, ho1⟩ := ho1)
  (refine aL_S rfl rfl v_ ?_)
  refine aL_nil ?_
  refine awp_seq ?_
  refine awp_region (by kernel_rfl) ?_
  (refine aL_S rfl rfl v_ ?_)
  refine aL_nil ?_
  refine awp_seq ?_
  refine awp_seq ?_
  refine awp_region (by kernel_rfl) ?_
  iterate 4 (refine aL_S rfl rfl v_ ?_)
  refine aL_nil ?_
  refine awp_block ?_
  refine awp_loop_env (ι := Nat) (fun k => o.ctx.length - k) (fun k => k ≤ o.ctx.length) (fun k => [(1, .ref o1 0), (3, vInt (((o.ctx.take k).map fSeen).sum : Nat)), (9, .sl 3 (o.ctx.map sSeen) false), (10, vInt o.ctx.length), (11, vInt k)]) (fun k => (σ.set o1 (.cells (sObj o).cells))) 0 ?_ ?_ ?_ ?_
  · exact Nat.zero_le _
  · exact cv_
  · exact Store.Wk.refl _
  rintro k hk
  simp only [envL_cons, envL_nil]
  refine awp_seq ?_
  refine awp_region (by kernel_rfl) ?_
  (refine aL_S rfl rfl v_ ?_)
  refine aL_nil ?_
  refine awp_seq ?_
  refine awp_cond v_ (fun hc3 => ?_) (fun hc3 => ?_)
  · replace hc3 := nm_ hc3
    refine awp_skip ?_
    refine awp_seq ?_
    refine awp_block ?_
    refine awp_seq ?_
    obtain ⟨x, hx⟩ := get_some (l := o.ctx) (k := k) (by omega)
    have hb := (size_bds ho k 0).1
    have hxm := (ho.ctx x (List.mem_of_getElem? hx)).more
    have hs : (((o.ctx.take k).map fSeen).sum : Int) + (16 + 16 * (x.more.length : Int)) = ((((o.ctx.take (k + 1)).map fSeen).sum : Nat) : Int) := by rw [sum_snoc hx]; simp [fSeen]
    have R := hx
    refine awp_region (by kernel_rfl) ?_
    iterate 2 (refine aL_S rfl rfl v_ ?_)
    refine aL_alloc rfl rfl rfl g_ gl_ fun o5 ho5 => ?_
    repeat (rw [none_set_iff] at ho5; obtain ⟨_, ho5⟩ := ho5)
    refine aL_store rfl rfl rfl v_ v_ h_ g_ rfl g_ c_ (by rfl) le_ v_ ?_
    refine aL_nil ?_
    have R := hs
    refine awp_region (by kernel_rfl) ?_
    iterate 8 (refine aL_S rfl rfl v_ ?_)
    refine aL_nil ?_
    refine awp_region (by kernel_rfl) ?_
    iterate 2 (refine aL_S rfl rfl v_ ?_)
    refine aL_nil ?_
    refine aNext (ι := Nat) (i := k) (k + 1) ?_ ?_ ?_ ?_
    · omega
    · show k + 1 ≤ o.ctx.length; omega
    · have R := hs; exact cv_
    · exact sub_
  · replace hc3 := nm_ hc3
    refine awp_exit ?_
    refine aThen_exit ?_
    refine aThen_exit ?_
    refine aBlock_hit ?_
    refine awp_seq ?_
    refine awp_seq ?_
    have hfull : o.ctx.take k = o.ctx := List.take_of_length_le (by omega)
    have hb1 := (size_bds ho k 0).1
    rw [hfull] at hb1 ⊢
    refine awp_region (by kernel_rfl) ?_
    iterate 4 (refine aL_S rfl rfl v_ ?_)
    refine aL_nil ?_
    have hz : (((o.ctx.map fSeen).sum + ((o.sibs.take 0).map fSib).sum : Nat) : Int) = ((o.ctx.map fSeen).sum : Nat) := by simp
    refine awp_block ?_
    refine awp_loop_env (ι := Nat) (fun k => o.sibs.length - k) (fun k => k ≤ o.sibs.length) (fun k => [(3, vInt (((o.ctx.map fSeen).sum + ((o.sibs.take k).map fSib).sum : Nat))), (24, .sl 5 (o.sibs.map sSib) false), (25, vInt o.sibs.length), (26, vInt k)]) (fun k => (σ.set o1 (.cells (sObj o).cells))) 0 ?_ ?_ ?_ ?_
    · exact Nat.zero_le _
    · have R := hz; exact cv_
    · exact Store.Wk.refl _
    rintro k hk
    simp only [envL_cons, envL_nil]
    refine awp_seq ?_
    refine awp_region (by kernel_rfl) ?_
    (refine aL_S rfl rfl v_ ?_)
    refine aL_nil ?_
    refine awp_seq ?_
    refine awp_cond v_ (fun hc8 => ?_) (fun hc8 => ?_)
    · replace hc8 := nm_ hc8
      refine awp_skip ?_
      refine awp_seq ?_
      refine awp_block ?_
      refine awp_seq ?_
      obtain ⟨x, hx⟩ := get_some (l := o.sibs) (k := k) (by omega)
      have hb := (size_bds ho 0 k).2
      have hxm := (ho.sibs x (List.mem_of_getElem? hx)).value
      have hs : (((o.ctx.map fSeen).sum + ((o.sibs.take k).map fSib).sum : Nat) : Int) + (64 + (x.value.size : Int)) = (((o.ctx.map fSeen).sum + ((o.sibs.take (k + 1)).map fSib).sum : Nat) : Int) := by rw [sum_snoc hx]; simp [fSib]; omega
      have R := hx
      refine awp_region (by kernel_rfl) ?_
      iterate 2 (refine aL_S rfl rfl v_ ?_)
      refine aL_alloc rfl rfl rfl g_ gl_ fun o7 ho7 => ?_
      repeat (rw [none_set_iff] at ho7; obtain ⟨_, ho7⟩ := ho7)
      refine aL_store rfl rfl rfl v_ v_ h_ g_ rfl g_ c_ (by rfl) le_ v_ ?_
      refine aL_nil ?_
      have R := hs
      refine awp_region (by kernel_rfl) ?_
      iterate 7 (refine aL_S rfl rfl v_ ?_)
      refine aL_nil ?_
      refine awp_region (by kernel_rfl) ?_
      iterate 2 (refine aL_S rfl rfl v_ ?_)
      refine aL_nil ?_
      refine aNext (ι := Nat) (i := k) (k + 1) ?_ ?_ ?_ ?_
      · omega
      · show k + 1 ≤ o.sibs.length; omega
      · have R := hs; exact cv_
      · exact sub_
    · replace hc8 := nm_ hc8
      refine awp_exit ?_
      refine aThen_exit ?_
      refine aThen_exit ?_
      refine aBlock_hit ?_
      refine awp_seq ?_
      have hfull2 : o.sibs.take k = o.sibs := List.take_of_length_le (by omega)
      rw [hfull2]
      refine awp_region (by kernel_rfl) ?_
      iterate 2 (refine aL_S rfl rfl v_ ?_)
      refine aL_nil ?_
      refine awp_ret ?_
      refine aEnd_ret (σ' := σ) v_ sub_ ?_
      exact ⟨rfl, rfl⟩
end Go.Proofs.YtbcgkbdacijoiaaGreat
end

section
set_option linter.all false
set_option maxRecDepth 100000
namespace Go.Ab
open Go.RowKit (Below)
section
variable {P : Program} {o : Oper} {α : Operand → AVal} {σ : Store} {Kk : AVal → Store → Prop}
theorem sl0_val {κ : K} {sz : Nat} {tight : Bool} {v : Value} (h : Rv κ (.sl sz [] tight) v) : ∃ a cap, v = .slice a 0 cap ∧ Rv κ (.sl sz [] false) v := by
  generalize hl : ([] : List AVal) = l at h
  cases h with
  | slNil => exact ⟨_, _, rfl, .slNil _ _⟩
  | slE => exact ⟨_, _, rfl, .slE _ _ _⟩
  | sl _ _ _ b off cap vals hcap ht hsz hc hv => subst hl; exact ⟨_, _, rfl, .sl sz [] false b off cap vals hcap (by simp) hsz hc hv⟩
/-- an empty slice held against nil: either way -/
theorem AOp_eqNil0 {t yt : TypeId} {x y : Operand} {sz e : Nat} {tight : Bool} (ho : o.op = .binOp .eql t x y yt) (hse : sliceElem P t = some e) (hx : α x = .sl sz [] tight) (hy : α y = .lit (.slice none 0 0)) (hk : ∀ b, Kk (.lit (.bool b)) σ) : AOp P o α σ Kk := by
  obtain ⟨dst, op, ty, pos, after, guard⟩ := o
  obtain rfl : op = _ := ho
  intro κ ev hI hxx
  have hvx := hxx x (by simp [Op.operands])
  have hvy := hxx y (by simp [Op.operands])
  rw [hx] at hvx
  rw [hy] at hvy
  have hts : P.underlying t = some (.slice e) := by
    unfold sliceElem at hse
    split at hse
    · rename_i e' he'; obtain rfl := Option.some.inj hse; exact he'
    · cases hse
  obtain ⟨a, cap, hev, _⟩ := sl0_val hvx
  have hb : (binOp .eql t (ev x) (ev y)).run P κ.w = .ok (.bool a.isNone) κ.w := by
    have e1 : binOp .eql t (ev x) (ev y) = (do pure (.bool (← Op.equal t (ev x) (ev y)))) := by
      rw [hev, hvy.litInv]
      rfl
    rw [e1, hev, hvy.litInv]
    simp only [Sem.run_bind, run_equal_slice_nil κ.w t e a 0 cap hts, Result.andThen_ok, Sem.run_pure]
  have hg : (eqGuard .eql t x y (ev x) (ev y)).run P κ.w = .ok () κ.w := run_eqGuard_other (by rintro u v ⟨h1, _⟩; rw [hev] at h1; cases h1) (by intro h1; rw [hev] at h1; cases h1)
  refine upon_v (s := do eqGuard .eql t x y (ev x) (ev y); binOp .eql t (ev x) (ev y)) (by simp [execOp]) ⟨.bool a.isNone, κ.w, ?_, κ, .lit (.bool a.isNone), σ, rfl, .refl κ, hI, .lit _, hk _⟩
  simp only [Sem.run_bind, hg, Result.andThen_ok, hb]
end
end Go.Ab
namespace Go.Proofs.YtbcgkbdacijoiaaGreat
open Go.Ab

def live (x : Sib) : Bool := !x.gone
structure DlI (L : List Sib) (j i : Nat) (M : List Sib) : Prop where
  len : M.length = L.length
  tk : M.take i = (L.take j).filter live
  cnt : ((L.take j).filter live).length = i
  lt : i < j
  le : j ≤ L.length
  dr : M.drop j = L.drop j
theorem DlI.put {L : List Sib} {j i : Nat} {M : List Sib} {x : Sib} (h : DlI L j i M) (hx : L[j]? = some x) (hg : x.gone = false) : DlI L (j + 1) (i + 1) (M.set i x) := by
  have h1 := (List.getElem?_eq_some_iff.1 hx).1
  have hk := h.lt
  have hl := h.len
  have hf : (L.take (j + 1)).filter live = (L.take j).filter live ++ [x] := by rw [take_snoc hx, List.filter_append]; simp [live, hg]
  refine ⟨by rw [List.length_set]; exact hl, ?_, by rw [hf, List.length_append, h.cnt]; rfl, by omega, by omega, ?_⟩
  · rw [hf, ← h.tk, take_snoc (show (M.set i x)[i]? = some x by rw [List.getElem?_set_self]; omega), List.take_set_of_le (Nat.le_refl _)]
  · rw [List.drop_set_of_lt (by omega)]
    have := congrArg (List.drop 1) h.dr
    rwa [List.drop_drop, List.drop_drop] at this
theorem DlI.skip {L : List Sib} {j i : Nat} {M : List Sib} {x : Sib} (h : DlI L j i M) (hx : L[j]? = some x) (hg : x.gone = true) : DlI L (j + 1) i M := by
  have h1 := (List.getElem?_eq_some_iff.1 hx).1
  have hk := h.lt
  have hf : (L.take (j + 1)).filter live = (L.take j).filter live := by rw [take_snoc hx, List.filter_append]; simp [live, hg]
  refine ⟨h.len, by rw [hf]; exact h.tk, by rw [hf]; exact h.cnt, by omega, by omega, ?_⟩
  have := congrArg (List.drop 1) h.dr
  rwa [List.drop_drop, List.drop_drop] at this
end Go.Proofs.YtbcgkbdacijoiaaGreat
end

section
set_option linter.all false
set_option maxRecDepth 100000
namespace Go.Ab
section
variable {P : Program} {o : Oper} {α : Operand → AVal} {σ : Store} {Kk : AVal → Store → Prop}
/-- nothing, appended to nothing, stays without room -/
theorem AOp_append00T {s x : Operand} {t e : TypeId} {sz by_ : Nat} {t1 t2 : Bool}
    (ho : o.op = .call { callee := .builtin .append, args := #[s, x], argTypes := #[t, t] }) (hse : sliceElem P t = some e) (hte : appInfo P e = some (sz, by_))
    (hs : α s = .sl sz [] t1) (hx : α x = .sl sz [] t2) (hk : Kk (.sl sz [] t1) σ) : AOp P o α σ Kk := by
  obtain ⟨dst, op, ty, pos, after, guard⟩ := o
  obtain rfl : op = .call { callee := .builtin .append, args := #[s, x], argTypes := #[t, t] } := ho
  intro κ ev hI hxx
  obtain ⟨i, z, hi, hz, hisz, hiby, hzs, hsz, hby⟩ := appInfo_spec hte
  have hts := sliceElem_und hse
  have hvs := hxx s (by simp [Op.operands, Call.operands])
  have hvx := hxx x (by simp [Op.operands, Call.operands])
  have hsrc0 : ASrc P sz t (α x) [] := ASrc_sl hts (by rw [hx]; rfl) (by simp)
  obtain ⟨vs, _, hvsr, hsrc⟩ := hsrc0.spec hvx
  have hv0 : vs = [] := List.eq_nil_of_length_eq_zero (by rw [← hvsr.1]; rfl)
  subst hv0
  rw [hs] at hvs
  obtain ⟨a, cap, hev, hw⟩ := sl0_val hvs
  refine upon_v (s := Builtin.append_ #[t, t] ty #[ev s, ev x]) (by simp [execOp, resolve, invoke, builtin]) ⟨ev s, κ.w, ?_, κ, .sl sz [] t1, σ, rfl, .refl κ, hI, hvs, hk⟩
  rw [hev]
  exact run_append_zero hts hi hisz hsrc a 0 cap (Nat.zero_le _)
end
section
variable {P : Program} {ops : Array Oper} {s0 : Store} {Kk : Env → Store → Prop} {o : Oper} {i : Nat} {r : DT} {e : Env} {σ : Store}
/-- under a guard, whatever the store is -/
theorem dR_AGT {d j dj : Nat} {a : AVal} {b : Bool} (ho : ops[i]? = some o) (hg : o.guard = some (j, true)) (hj : (ops[j]?).bind (·.dst) = some dj) (he : e dj = .lit (.bool b)) (hd : o.dst = some d) (ha : ∀ s, b = true → aval P o.op (aev e) s = some a)
    (h : dRun P ops s0 Kk r (upd e d (gval b a)) σ) : dRun P ops s0 Kk (.any i r) e σ := by
  have hw := wantedA_is hg hj he
  cases b with
  | true => exact ⟨o, a, ho, fun s => .inl ⟨hw, ha s rfl⟩, by rw [hd]; exact h⟩
  | false => exact ⟨o, .lit undef, ho, fun s => .inr ⟨hw, rfl⟩, by rw [hd]; exact h⟩
end
end Go.Ab
namespace Go.Proofs.YtbcgkbdacijoiaaGreat
open Go.Ab
instance : Inhabited Itm := ⟨⟨ByteArray.empty, ⟨[], []⟩⟩⟩
instance : Inhabited Mnt := ⟨⟨ByteArray.empty, 0⟩⟩
theorem al_ {p : Prop} (h : p := by simp [go_sem, alow, ahigh, abound]) : p := h
theorem szMnt (l : List Mnt) : ∀ y ∈ l.map sMnt, y.cells.length = 2 := lits_sz sMnt (fun x => rfl) l
theorem oneMnt (l : List Mnt) : ∀ y ∈ l.map sMnt, ∀ c ∈ y.cells, c.one = true := lits_one sMnt (fun x c hc => by simp [AVal.cells] at hc; rcases hc with rfl | rfl <;> rfl) l
/-- what is put in where there is room, and what was there moved on -/
theorem put_new {A D X W : List AVal} (hw : W.length = X.length + D.length) : aput (aput (A ++ W) A.length X) (A.length + X.length) D = A ++ (X ++ D) := by
  unfold aput
  rw [List.take_left, List.drop_append, List.drop_of_length_le (Nat.le_add_right _ _), List.nil_append, show A.length + X.length - A.length = X.length by omega]
  have e1 : (A ++ X ++ W.drop X.length).take (A.length + X.length) = A ++ X := List.take_left' (by simp)
  have e2 : (A ++ X ++ W.drop X.length).drop (A.length + X.length + D.length) = [] := List.drop_of_length_le (by simp; omega)
  rw [e1, e2, List.append_nil, List.append_assoc]
theorem put_room {A D X W : List AVal} (hw : W.length = X.length) : aput (aput (A ++ D ++ W) (A.length + X.length) D) A.length X = A ++ (X ++ D) := by
  have e0 : aput (A ++ D ++ W) (A.length + X.length) D = A ++ ((D ++ W).take X.length ++ D) := by
    unfold aput
    rw [List.append_assoc A D W, List.take_append, List.take_of_length_le (Nat.le_add_right _ _), show A.length + X.length - A.length = X.length by omega, List.drop_of_length_le (by simp; omega), List.append_nil, List.append_assoc]
  rw [e0]
  unfold aput
  rw [List.take_left, List.drop_append, List.drop_of_length_le (Nat.le_add_right _ _), List.nil_append, show A.length + X.length - A.length = X.length by omega, List.drop_left' (by simp; omega), List.append_assoc]
theorem del_fresh {σ : Store} {ov o' : Nat} (h : (σ.del ov).heap o' = none) : o' = ov ∨ σ.heap o' = none := by
  rcases Nat.decEq o' ov with hh | hh
  · rw [Store.del_ne _ hh] at h; exact .inr h
  · exact .inl hh
theorem subx_del {σ : Store} {ov o' : Nat} {l : List Nat} {y : AObj} (h : (σ.del ov).heap o' = none) : SubX (ov :: l) σ ((σ.del ov).set o' y) := ⟨fun i x hi hx => by
  have hi' : i ≠ ov := fun hh => hi (by rw [hh]; exact .head _)
  have h2 : (σ.del ov).heap i = some x := by rw [Store.del_ne _ hi']; exact hx
  rw [Store.set_ne _ _ (fun hh => by rw [hh, h] at h2; cases h2)]; exact h2, fun t n ht => by rw [Store.set_tok]; exact ht⟩
theorem subx_del2 {σ : Store} {o ov o' : Nat} {y : AObj} (h : (σ.del ov).heap o' = none) : SubX [o, ov] σ (((σ.del ov).delO (some o)).set o' y) := ⟨fun i x hi hx => by
  have hi' : i ≠ ov := fun hh => hi (by rw [hh]; exact .tail _ (.head _))
  have hio : i ≠ o := fun hh => hi (by rw [hh]; exact .head _)
  have h2 : (σ.del ov).heap i = some x := by rw [Store.del_ne _ hi']; exact hx
  rw [Store.set_ne _ _ (fun hh => by rw [hh, h] at h2; cases h2)]
  show ((σ.del ov).del o).heap i = some x
  rw [Store.del_ne _ hio]; exact h2, fun t n ht => by rw [Store.set_tok]; exact ht⟩
theorem set_old {σ : Store} {o i : Nat} {x y : AObj} (ho : σ.heap o = none) (h : σ.heap i = some y) : (σ.set o x).heap i = some y := by
  rw [Store.set_ne _ _ (fun hh => by rw [hh, ho] at h; cases h)]; exact h
theorem set_old2 {σ : Store} {o p i : Nat} {x z y : AObj} (ho : σ.heap o = none) (hp : (σ.set o x).heap p = none) (h : σ.heap i = some y) : ((σ.set o x).set p z).heap i = some y := set_old hp (set_old ho h)
theorem notmem1 {S : Store} {o i : Nat} {y : AObj} (ho : S.heap o = none) (h : S.heap i = some y) : i ∉ [o] := fun hh => by rw [List.mem_singleton.1 hh, ho] at h; cases h
theorem notmem2 {S : Store} {o p i : Nat} {x y : AObj} (ho : S.heap o = none) (hp : (S.set o x).heap p = none) (h : S.heap i = some y) : i ∉ [o, p] := fun hh => by
  rcases List.mem_cons.1 hh with e | e
  · rw [e, ho] at h; cases h
  · have h2 := set_old (x := x) ho h
    rw [List.mem_singleton.1 e, hp] at h2; cases h2
theorem ins_end {σ S τ : Store} {l : List Nat} {o' : Nat} (hS : ∀ i y, σ.heap i = some y → i ∉ l ∧ S.heap i = some y) (ht : ∀ t n, σ.tok t = some n → S.tok t = some n) (ho' : o' ∈ l ∨ S.heap o' = none) (hs : SubX l S τ) : σ.Wk (τ.del o') := Store.Sub.wk ⟨fun i y hy => by
  obtain ⟨h1, h2⟩ := hS i y hy
  have hne : i ≠ o' := fun hh => by
    rcases ho' with h | h
    · exact h1 (by rw [hh]; exact h)
    · rw [hh, h] at h2; cases h2
  rw [Store.del_ne _ hne]; exact hs.1 i y h1 h2, fun t n h => hs.2 t n (ht t n h)⟩
def LoK {α : Type} (key : α → ByteArray) (l : List α) (s : ByteArray) (i : Nat) : Prop := ∀ m y, m < i → l[m]? = some y → sLt (key y) s = true
def HiK {α : Type} (key : α → ByteArray) (l : List α) (s : ByteArray) (j : Nat) : Prop := ∀ m y, j ≤ m → l[m]? = some y → sLt (key y) s = false
theorem riseK_get {α : Type} {key : α → ByteArray} {l : List α} (h : RiseK key l) {i j : Nat} {x y : α} (hij : i < j) (hx : l[i]? = some x) (hy : l[j]? = some y) : sLt (key x) (key y) = true := by
  obtain ⟨hi, rfl⟩ := List.getElem?_eq_some_iff.1 hx
  obtain ⟨hj, rfl⟩ := List.getElem?_eq_some_iff.1 hy
  exact List.pairwise_iff_getElem.1 h i j hi hj hij
theorem loK_next {α : Type} {key : α → ByteArray} {l : List α} {s : ByteArray} {k : Nat} {x : α} (h : RiseK key l) (hx : l[k]? = some x) (hlt : cmpS (key x) s < 0) : LoK key l s (k + 1) := fun m y hm hy => by
  have hlt' := cmpS_neg.1 hlt
  rcases Nat.lt_or_eq_of_le (Nat.le_of_lt_succ hm) with h1 | h1
  · exact sLt_trans (riseK_get h h1 hy hx) hlt'
  · rw [h1, hx] at hy; obtain rfl := Option.some.inj hy; exact hlt'
theorem hiK_next {α : Type} {key : α → ByteArray} {l : List α} {s : ByteArray} {k : Nat} {x : α} (h : RiseK key l) (hx : l[k]? = some x) (hge : 0 ≤ cmpS (key x) s) : HiK key l s k := fun m y hm hy => by
  have hge' : sLt (key x) s = false := by
    cases hh : sLt (key x) s with
    | false => rfl
    | true => have := cmpS_neg.2 hh; omega
  rcases Nat.lt_or_eq_of_le hm with h1 | h1
  · cases hk : sLt (key y) s with
    | false => rfl
    | true => rw [sLt_trans (riseK_get h h1 hx hy) hk] at hge'; cases hge'
  · rw [← h1, hx] at hy; obtain rfl := Option.some.inj hy; exact hge'
theorem lohiK {α : Type} {key : α → ByteArray} {l : List α} {s : ByteArray} {k : Nat} (hk : k ≤ l.length) (h1 : LoK key l s k) (h2 : HiK key l s k) : lowK key s l = k := lowK_eq h1 hk fun y hy => h2 k y (Nat.le_refl _) hy
/-- whether what is at a place is it -/
def atK {α : Type} (key : α → ByteArray) (l : List α) (s : ByteArray) : Bool := (l[lowK key s l]?).any fun y => decide (key y = s)
theorem atK_of {α : Type} {key : α → ByteArray} {l : List α} {s : ByteArray} {k : Nat} {x : α} (hk : lowK key s l = k) (hx : k < l.length → l[k]? = some x) : (decide (k < l.length) && decide (cmpS (key x) s = 0)) = atK key l s := by
  unfold atK
  rw [hk]
  by_cases h : k < l.length
  · rw [hx h, decide_eq_true h, Bool.true_and]
    simp only [Option.any_some, decide_eq_decide]
    exact cmpS_zero
  · rw [decide_eq_false h, Bool.false_and, List.getElem?_eq_none (by omega)]; rfl
theorem atK_lt {α : Type} {key : α → ByteArray} {l : List α} {s : ByteArray} (h : atK key l s = true) : lowK key s l < l.length := by
  unfold atK at h
  by_cases hl : lowK key s l < l.length
  · exact hl
  · rw [List.getElem?_eq_none (by omega)] at h; cases h
theorem insK_yes {α : Type} {key : α → ByteArray} {x : α} {l : List α} (hr : RiseK key l) (h : atK key l (key x) = true) : insK key x l = l.set (lowK key (key x) l) x := by
  have h' : (l[lowK key (key x) l]?).any (fun y => decide (key y = key x)) = true := h
  rw [insK_at hr, if_pos h']
theorem insK_no {α : Type} {key : α → ByteArray} {x : α} {l : List α} (hr : RiseK key l) (h : atK key l (key x) = false) : insK key x l = l.take (lowK key (key x) l) ++ x :: l.drop (lowK key (key x) l) := by
  have h' : ¬ (l[lowK key (key x) l]?).any (fun y => decide (key y = key x)) = true := by unfold atK at h; rw [h]; simp
  rw [insK_at hr, if_neg h']
end Go.Proofs.YtbcgkbdacijoiaaGreat
end
