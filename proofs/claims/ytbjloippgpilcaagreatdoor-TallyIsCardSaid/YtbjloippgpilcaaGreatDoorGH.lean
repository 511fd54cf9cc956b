/-
  The deeds of one lane: the library's Clone and DeleteFunc. Own work (an AI agent).
-/
import Derived.Test.YtbjloippgpilcaaGreatDoorGG
import Derived.Test.YtbjloippgpilcaaGreatDoorGE

section
set_option linter.all false
set_option maxRecDepth 100000
namespace Go.Ab
open Go.RowKit (Below)
section
variable {P : Program} {o : Oper} {α : Operand → AVal} {σ : Store} {Kk : AVal → Store → Prop}
theorem sl0_val {κ : K} {sz : Nat} {tight : Bool} {v : Value} (h : Rv κ (.sl sz [] tight) v) : ∃ a cap, v = .slice a 0 cap ∧ Rv κ (.sl sz [] false) v := by
  generalize hl : ([] : List AVal) = l at h
  cases h with
  | slNil => exact ⟨_, _, rfl, .slNil _ _⟩
  | slE => exact ⟨_, _, rfl, .slE _ _ _⟩
  | sl _ _ _ b off cap vals hcap ht hsz hc hv => subst hl; exact ⟨_, _, rfl, .sl sz [] false b off cap vals hcap (by simp) hsz hc hv⟩
/-- an empty slice held against nil: either way -/
theorem AOp_eqNil0 {t yt : TypeId} {x y : Operand} {sz e : Nat} {tight : Bool} (ho : o.op = .binOp .eql t x y yt) (hse : sliceElem P t = some e) (hx : α x = .sl sz [] tight) (hy : α y = .lit (.slice none 0 0)) (hk : ∀ b, Kk (.lit (.bool b)) σ) : AOp P o α σ Kk := by
  obtain ⟨dst, op, ty, pos, after, guard⟩ := o
  obtain rfl : op = _ := ho
  intro κ ev hI hxx
  have hvx := hxx x (by simp [Op.operands])
  have hvy := hxx y (by simp [Op.operands])
  rw [hx] at hvx
  rw [hy] at hvy
  have hts : P.underlying t = some (.slice e) := by
    unfold sliceElem at hse
    split at hse
    · rename_i e' he'; obtain rfl := Option.some.inj hse; exact he'
    · cases hse
  obtain ⟨a, cap, hev, _⟩ := sl0_val hvx
  have hb : (binOp .eql t (ev x) (ev y)).run P κ.w = .ok (.bool a.isNone) κ.w := by
    have e1 : binOp .eql t (ev x) (ev y) = (do pure (.bool (← Op.equal t (ev x) (ev y)))) := by
      rw [hev, hvy.litInv]
      rfl
    rw [e1, hev, hvy.litInv]
    simp only [Sem.run_bind, run_equal_slice_nil κ.w t e a 0 cap hts, Result.andThen_ok, Sem.run_pure]
  have hg : (eqGuard .eql t x y (ev x) (ev y)).run P κ.w = .ok () κ.w := run_eqGuard_other (by rintro u v ⟨h1, _⟩; rw [hev] at h1; cases h1) (by intro h1; rw [hev] at h1; cases h1)
  refine upon_v (s := do eqGuard .eql t x y (ev x) (ev y); binOp .eql t (ev x) (ev y)) (by simp [execOp]) ⟨.bool a.isNone, κ.w, ?_, κ, .lit (.bool a.isNone), σ, rfl, .refl κ, hI, .lit _, hk _⟩
  simp only [Sem.run_bind, hg, Result.andThen_ok, hb]
/-- nothing, appended to nothing -/
theorem AOp_append00 {s x : Operand} {t e : TypeId} {sz by_ : Nat} {t1 t2 : Bool}
    (ho : o.op = .call { callee := .builtin .append, args := #[s, x], argTypes := #[t, t] }) (hse : sliceElem P t = some e) (hte : appInfo P e = some (sz, by_))
    (hs : α s = .sl sz [] t1) (hx : α x = .sl sz [] t2) (hk : Kk (.sl sz [] false) σ) : AOp P o α σ Kk := by
  obtain ⟨dst, op, ty, pos, after, guard⟩ := o
  obtain rfl : op = .call { callee := .builtin .append, args := #[s, x], argTypes := #[t, t] } := ho
  intro κ ev hI hxx
  obtain ⟨i, z, hi, hz, hisz, hiby, hzs, hsz, hby⟩ := appInfo_spec hte
  have hts : P.underlying t = some (.slice e) := by
    unfold sliceElem at hse
    split at hse
    · rename_i e' he'; obtain rfl := Option.some.inj hse; exact he'
    · cases hse
  have hvs := hxx s (by simp [Op.operands, Call.operands])
  have hvx := hxx x (by simp [Op.operands, Call.operands])
  have hsrc0 : ASrc P sz t (α x) [] := ASrc_sl hts (by rw [hx]; rfl) (by simp)
  obtain ⟨vs, _, hvsr, hsrc⟩ := hsrc0.spec hvx
  have hv0 : vs = [] := List.eq_nil_of_length_eq_zero (by rw [← hvsr.1]; rfl)
  subst hv0
  rw [hs] at hvs
  obtain ⟨a, cap, hev, hw⟩ := sl0_val hvs
  refine upon_v (s := Builtin.append_ #[t, t] ty #[ev s, ev x]) (by simp [execOp, resolve, invoke, builtin]) ⟨ev s, κ.w, ?_, κ, .sl sz [] false, σ, rfl, .refl κ, hI, hw, hk⟩
  rw [hev]
  exact run_append_zero hts hi hisz hsrc a 0 cap (Nat.zero_le _)
end
end Go.Ab
namespace Go.Proofs.YtbjloippgpilcaaGreatDoor
open Go.Ab

theorem szDeed (L : List Deed) : ∀ y ∈ L.map sDeed, y.cells.length = 20 := fun y hy => by
  obtain ⟨x, _, rfl⟩ := List.mem_map.1 hy
  rfl
theorem flat_deed_len (L : List Deed) : (flat (L.map sDeed)).length = L.length * 20 := by rw [flat_length (szDeed L), List.length_map]
theorem flat_partD : ∀ {L : List Deed} {j : Nat} {x : Deed}, L[j]? = some x → ((flat (L.map sDeed)).drop (j * 20)).take 20 = [vStr x.node, vStr x.lane, vInt x.op, vInt x.bgn, vInt x.fin, vInt x.tick, vInt x.kind, vStr x.token, vStr x.bucket, vStr x.key, vStr x.value, .sl 3 (x.cctx.map sSeen) false, vInt x.ctime, .lit (.bool x.done), vInt x.err, .sl 5 (x.sibs.map sSib) false, .sl 3 (x.actx.map sSeen) false, .sl 1 (x.keys.map vStr) false, vStr x.dnode, vInt x.dn]
  | [], j, x, h => by simp at h
  | y :: L, 0, x, h => by
    simp only [List.getElem?_cons_zero, Option.some.injEq] at h
    subst h
    rfl
  | y :: L, j + 1, x, h => by
    rw [List.map_cons, flat_cons, show (j + 1) * 20 = 20 + j * 20 by omega, ← List.drop_drop]
    exact flat_partD (L := L) (j := j) h
theorem aput_flatD {M : List Deed} {j : Nat} {x : Deed} (hj : j < M.length) : aput (flat (M.map sDeed)) (j * 20) [vStr x.node, vStr x.lane, vInt x.op, vInt x.bgn, vInt x.fin, vInt x.tick, vInt x.kind, vStr x.token, vStr x.bucket, vStr x.key, vStr x.value, .sl 3 (x.cctx.map sSeen) false, vInt x.ctime, .lit (.bool x.done), vInt x.err, .sl 5 (x.sibs.map sSib) false, .sl 3 (x.actx.map sSeen) false, .sl 1 (x.keys.map vStr) false, vStr x.dnode, vInt x.dn] = flat ((M.set j x).map sDeed) := by
  have e : M.set j x = M.take j ++ x :: M.drop (j + 1) := by rw [List.set_eq_take_append_cons_drop, if_pos hj]
  have e2 : M = M.take j ++ M[j] :: M.drop (j + 1) := by rw [List.getElem_cons_drop hj, List.take_append_drop]
  have hl : (flat ((M.take j).map sDeed)).length = j * 20 := by rw [flat_deed_len, List.length_take, Nat.min_eq_left (by omega)]
  rw [e]
  conv => lhs; rw [e2]
  unfold aput
  rw [List.map_append, List.map_cons, flat_append, flat_cons, List.map_append, List.map_cons, flat_append, flat_cons, List.take_left' hl, List.drop_append, List.drop_of_length_le (by rw [hl]; simp), hl, show j * 20 + [vStr x.node, vStr x.lane, vInt x.op, vInt x.bgn, vInt x.fin, vInt x.tick, vInt x.kind, vStr x.token, vStr x.bucket, vStr x.key, vStr x.value, .sl 3 (x.cctx.map sSeen) false, vInt x.ctime, .lit (.bool x.done), vInt x.err, .sl 5 (x.sibs.map sSib) false, .sl 3 (x.actx.map sSeen) false, .sl 1 (x.keys.map vStr) false, vStr x.dnode, vInt x.dn].length - j * 20 = 20 by rw [show [vStr x.node, vStr x.lane, vInt x.op, vInt x.bgn, vInt x.fin, vInt x.tick, vInt x.kind, vStr x.token, vStr x.bucket, vStr x.key, vStr x.value, .sl 3 (x.cctx.map sSeen) false, vInt x.ctime, .lit (.bool x.done), vInt x.err, .sl 5 (x.sibs.map sSib) false, .sl 3 (x.actx.map sSeen) false, .sl 1 (x.keys.map vStr) false, vStr x.dnode, vInt x.dn].length = 20 from rfl]; omega]
  simp [AVal.cells]
theorem take_flatD {M : List Deed} {j : Nat} {zs : List AVal} : aput (flat (M.map sDeed)) (j * 20) zs = flat ((M.take j).map sDeed) ++ (zs ++ (flat (M.map sDeed)).drop (j * 20 + zs.length)) := by
  unfold aput
  rw [List.append_assoc, List.map_take, flat_take (szDeed M)]
theorem drop_get {α : Type} {M L : List α} {j : Nat} (h : M.drop j = L.drop j) {k : Nat} (hk : j ≤ k) : M[k]? = L[k]? := by
  have := congrArg (fun l => l[k - j]?) h
  simp only [List.getElem?_drop] at this
  rwa [show j + (k - j) = k by omega] at this

abbrev fOwn (b : Nat) : AVal := .fn (.func 25) [] [.ref b 0]
def isL (s : ByteArray) (d : Deed) : Bool := decide (d.lane = s)
theorem own1_c {x : Deed} {b : Nat} {s : ByteArray} {σ : Store} (hb : σ.heap b = some (.cells [vStr s])) : ACalls Tryz.prog 25 [sDeed x, .ref b 0] σ fun v σ' => v = vB (!isL s x) ∧ σ = σ' := by
  refine ACalls_of Tryz.func25 rfl Tryz.ntmps25 (congrArg Array.toList Tryz.results25) (by simp only [List.length_cons, List.length_nil]; decide) ?_; simp only [envOf_cons, envOf_nil, Nat.reduceAdd]
  refine awp_seq ?_
  have R := hb
  refine awp_region (by kernel_rfl) ?_
  refine aL_box rfl rfl rfl v_ rfl g_ fun o2 ho2 => ?_
  repeat (rw [none_set_iff] at ho2; obtain ⟨_, ho2⟩ := ho2)
  (refine aL_S rfl rfl v_ ?_)
  refine aL_nil ?_
  have nb := ne_of_heap hb ho2
  refine awp_seq ?_
  have R := hb
  refine awp_region (by kernel_rfl) ?_
  iterate 5 (refine aL_S rfl rfl v_ ?_)
  refine aL_nil ?_
  refine awp_ret ?_
  refine aEnd_ret (σ' := σ) v_ sub_ ?_
  exact ⟨by simp [isL], rfl⟩
def CBd (σ0 σ : Store) (L : List Deed) (v : AVal) : Prop := (L = [] ∧ v = .sl 20 [] false ∧ σ = σ0) ∨ ∃ o, σ0.heap o = none ∧ v = .msl o 20 0 L.length ∧ σ = σ0.set o (.cells (flat (L.map sDeed)))
theorem clone0_c {t : Bool} {σ : Store} : ACalls Tryz.prog 24 [.sl 20 [] t] σ fun v σ' => v = .sl 20 [] false ∧ σ = σ' := by
  refine ACalls_of Tryz.func24 rfl Tryz.ntmps24 (congrArg Array.toList Tryz.results24) (by simp only [List.length_cons, List.length_nil]; decide) ?_; simp only [envOf_cons, envOf_nil, Nat.reduceAdd]
  refine awp_seq ?_
  refine awp_region (by kernel_rfl) ?_
  (refine aL_S rfl rfl v_ ?_)
  refine aL_nil ?_
  refine awp_seq ?_
  refine awp_seq ?_
  refine awp_region (by kernel_rfl) ?_
  (refine aL_S rfl rfl v_ ?_)
  refine aL_X rfl rfl (AOp_eqNil0 rfl g_ va_ va_ fun b => ?_)
  refine aL_nil ?_
  refine awp_cond v_ (fun hc1 => ?_) (fun hc1 => ?_)
  · replace hc1 := nm_ hc1
    refine awp_seq ?_
    refine awp_region (by kernel_rfl) ?_
    (refine aL_S rfl rfl v_ ?_)
    refine aL_nil ?_
    refine awp_ret ?_
    exact aEnd_retW (v := .sl 20 [] false) (v' := vNil) va_ (.nil _ _) sub_ ⟨rfl, rfl⟩
  · replace hc1 := nm_ hc1
    refine awp_skip ?_
    refine awp_seq ?_
    refine awp_region (by kernel_rfl) ?_
    refine aL_buildSlice rfl rfl rfl g_ g_ rfl rfl h_ c2_ (by decide) ?_
    (refine aL_S rfl rfl v_ ?_)
    refine aL_X rfl rfl (AOp_append00 rfl g_ g_ va_ va_ ?_)
    (refine aL_S rfl rfl v_ ?_)
    refine aL_nil ?_
    refine awp_ret ?_
    refine aEnd_ret (σ' := σ) v_ sub_ ?_
    exact ⟨rfl, rfl⟩
theorem clone1_c {L : List Deed} {t : Bool} {σ : Store} (h0 : L ≠ []) (hl : L.length ≤ 1000000) : ACalls Tryz.prog 24 [.sl 20 (L.map sDeed) t] σ fun v σ' => ∃ o, σ.heap o = none ∧ v = .msl o 20 0 L.length ∧ σ' = σ.set o (.cells (flat (L.map sDeed))) := by
  have hne : L.map sDeed ≠ [] := by simpa using h0
  refine ACalls_of Tryz.func24 rfl Tryz.ntmps24 (congrArg Array.toList Tryz.results24) (by simp only [List.length_cons, List.length_nil]; decide) ?_; simp only [envOf_cons, envOf_nil, Nat.reduceAdd]
  refine awp_seq ?_
  refine awp_region (by kernel_rfl) ?_
  (refine aL_S rfl rfl v_ ?_)
  refine aL_nil ?_
  refine awp_seq ?_
  refine awp_seq ?_
  refine awp_region (by kernel_rfl) ?_
  (refine aL_S rfl rfl v_ ?_)
  refine aL_X rfl rfl (AOp_eqNil rfl g_ v_ (by exact hne) va_ ?_)
  refine aL_nil ?_
  refine awp_cond v_ (fun hc1 => ?_) (fun hc1 => ?_)
  · replace hc1 := nm_ hc1
    cases hc1
  · replace hc1 := nm_ hc1
    refine awp_skip ?_
    refine awp_seq ?_
    refine awp_region (by kernel_rfl) ?_
    refine aL_buildSlice rfl rfl rfl g_ g_ rfl rfl h_ c2_ (by decide) ?_
    (refine aL_S rfl rfl v_ ?_)
    refine aL_X rfl rfl (AOp_copyM rfl g_ g_ va_ v_ (by exact hne) (by simp; omega) fun o7 ho7 => ?_)
    (refine aL_S rfl rfl v_ ?_)
    refine aL_nil ?_
    refine awp_ret ?_
    refine aEnd_ret v_ (Store.Wk.refl _) ?_
    exact ⟨o7, ho7, by simp, rfl⟩
theorem cloneC {L : List Deed} {t : Bool} {σ : Store} (hl : L.length ≤ 1000000) : ACalls Tryz.prog 24 [.sl 20 (L.map sDeed) t] σ fun v σ' => CBd σ σ' L v := by
  by_cases h : L = []
  · subst h
    exact clone0_c.wkS fun v σ' ⟨hv, hs⟩ => ⟨v, σ', .refl _, .refl _, .inl ⟨rfl, hv, hs.symm⟩⟩
  · exact (clone1_c h hl).wkS fun v σ' ⟨o, h1, h2, h3⟩ => ⟨v, σ', .refl _, .refl _, .inr ⟨o, h1, h2, h3⟩⟩
theorem idx0_c {b : Nat} {σ : Store} : ACalls Tryz.prog 40 [.sl 20 [] false, fOwn b] σ fun v σ' => v = vInt (-1) ∧ σ = σ' := by
  refine ACalls_of Tryz.func40 rfl Tryz.ntmps40 (congrArg Array.toList Tryz.results40) (by simp only [List.length_cons, List.length_nil]; decide) ?_; simp only [envOf_cons, envOf_nil, Nat.reduceAdd]
  refine awp_seq ?_
  refine awp_region (by kernel_rfl) ?_
  (refine aL_S rfl rfl v_ ?_)
  refine aL_nil ?_
  refine awp_seq ?_
  refine awp_seq ?_
  refine awp_region (by kernel_rfl) ?_
  iterate 3 (refine aL_S rfl rfl v_ ?_)
  refine aL_nil ?_
  refine awp_block ?_
  refine awp_loop_env (ι := Nat) (fun k => 0) (fun k => k = 0) (fun k => [(0, .sl 20 [] false), (1, fOwn b), (7, vInt 0), (8, vInt k)]) (fun k => σ) 0 ?_ ?_ ?_ ?_
  · rfl
  · exact cv_
  · exact sub_
  rintro k hk
  simp only [envL_cons, envL_nil]
  refine awp_seq ?_
  refine awp_region (by kernel_rfl) ?_
  (refine aL_S rfl rfl v_ ?_)
  refine aL_nil ?_
  refine awp_seq ?_
  refine awp_cond v_ (fun hc2 => ?_) (fun hc2 => ?_)
  · replace hc2 := nm_ hc2
    omega
  · replace hc2 := nm_ hc2
    refine awp_exit ?_
    refine aThen_exit ?_
    refine aThen_exit ?_
    refine aBlock_hit ?_
    refine awp_seq ?_
    refine awp_region (by kernel_rfl) ?_
    (refine aL_S rfl rfl v_ ?_)
    refine aL_nil ?_
    refine awp_ret ?_
    refine aEnd_ret (σ' := σ) v_ sub_ ?_
    exact ⟨rfl, rfl⟩
theorem idxM_c {o b : Nat} {s : ByteArray} {L : List Deed} {σ : Store} (hb : σ.heap b = some (.cells [vStr s])) (ho : σ.heap o = some (.cells (flat (L.map sDeed)))) (hl : L.length ≤ 1000000) : ACalls Tryz.prog 40 [.msl o 20 0 L.length, fOwn b] σ fun v σ' => (∃ r : Int, v = vInt r ∧ (r = -1 → L.filter (isL s) = L) ∧ (r ≠ -1 → ∃ j : Nat, r = j ∧ j < L.length ∧ (L.take (j + 1)).filter (isL s) = L.take j)) ∧ σ = σ' := by
  have hfl := flat_deed_len L
  refine ACalls_of Tryz.func40 rfl Tryz.ntmps40 (congrArg Array.toList Tryz.results40) (by simp only [List.length_cons, List.length_nil]; decide) ?_; simp only [envOf_cons, envOf_nil, Nat.reduceAdd]
  refine awp_seq ?_
  refine awp_region (by kernel_rfl) ?_
  (refine aL_S rfl rfl v_ ?_)
  refine aL_nil ?_
  refine awp_seq ?_
  refine awp_seq ?_
  refine awp_region (by kernel_rfl) ?_
  iterate 3 (refine aL_S rfl rfl v_ ?_)
  refine aL_nil ?_
  refine awp_block ?_
  refine awp_loop_env (ι := Nat) (fun k => L.length - k) (fun k => k ≤ L.length ∧ (L.take k).filter (isL s) = L.take k) (fun k => [(0, .msl o 20 0 L.length), (1, fOwn b), (7, vInt L.length), (8, vInt k)]) (fun k => σ) 0 ?_ ?_ ?_ ?_
  · exact ⟨Nat.zero_le _, rfl⟩
  · exact cv_
  · exact sub_
  rintro k ⟨hk, hf⟩
  simp only [envL_cons, envL_nil]
  refine awp_seq ?_
  refine awp_region (by kernel_rfl) ?_
  (refine aL_S rfl rfl v_ ?_)
  refine aL_nil ?_
  refine awp_seq ?_
  refine awp_cond v_ (fun hc2 => ?_) (fun hc2 => ?_)
  · replace hc2 := nm_ hc2
    refine awp_skip ?_
    refine awp_seq ?_
    refine awp_block ?_
    refine awp_seq ?_
    refine awp_region (by kernel_rfl) ?_
    iterate 2 (refine aL_S rfl rfl v_ ?_)
    refine aL_nil ?_
    refine awp_seq ?_
    obtain ⟨x, hx⟩ := get_some (l := L) (k := k) (by omega)
    have px := flat_partD hx
    have R := And.intro px (And.intro ho hfl)
    refine awp_region (by kernel_rfl) ?_
    iterate 5 (refine aL_S rfl rfl v_ ?_)
    refine aL_X rfl rfl (AOp_use rfl rfl (.inl v_) g_ va_ (own1_c hb) ?_); rintro _ _ ⟨rfl, rfl⟩
    refine aL_nil ?_
    refine awp_cond v_ (fun hc4 => ?_) (fun hc4 => ?_)
    · replace hc4 := nm_ hc4
      refine awp_seq ?_
      refine awp_region (by kernel_rfl) ?_
      iterate 2 (refine aL_S rfl rfl v_ ?_)
      refine aL_nil ?_
      refine awp_ret ?_
      refine aEnd_ret (σ' := σ) v_ sub_ ?_
      exact ⟨⟨k, rfl, fun h => by omega, fun _ => ⟨k, rfl, by omega, by rw [take_snoc hx, List.filter_append, hf]; simp [hc4]⟩⟩, rfl⟩
    · replace hc4 := nm_ hc4
      refine awp_skip ?_
      refine awp_region (by kernel_rfl) ?_
      iterate 2 (refine aL_S rfl rfl v_ ?_)
      refine aL_nil ?_
      refine aNext (ι := Nat) (i := k) (k + 1) ?_ ?_ ?_ ?_
      · omega
      · exact ⟨by omega, by rw [take_snoc hx, List.filter_append, hf]; simp [hc4]⟩
      · exact cv_
      · exact sub_
  · replace hc2 := nm_ hc2
    refine awp_exit ?_
    refine aThen_exit ?_
    refine aThen_exit ?_
    refine aBlock_hit ?_
    refine awp_seq ?_
    refine awp_region (by kernel_rfl) ?_
    (refine aL_S rfl rfl v_ ?_)
    refine aL_nil ?_
    refine awp_ret ?_
    refine aEnd_ret (σ' := σ) v_ sub_ ?_
    exact ⟨⟨-1, rfl, fun _ => by rwa [List.take_of_length_le (by omega)] at hf, fun h => absurd rfl h⟩, rfl⟩
structure DlI (s : ByteArray) (L : List Deed) (j i : Nat) (M : List Deed) : Prop where
  len : M.length = L.length
  tk : M.take i = (L.take j).filter (isL s)
  cnt : ((L.take j).filter (isL s)).length = i
  lt : i < j
  le : j ≤ L.length
  dr : M.drop j = L.drop j
theorem DlI.put {s : ByteArray} {L : List Deed} {j i : Nat} {M : List Deed} {x : Deed} (h : DlI s L j i M) (hx : L[j]? = some x) (hg : isL s x = true) : DlI s L (j + 1) (i + 1) (M.set i x) := by
  have h1 := (List.getElem?_eq_some_iff.1 hx).1
  have hk := h.lt
  have hl := h.len
  have hf : (L.take (j + 1)).filter (isL s) = (L.take j).filter (isL s) ++ [x] := by rw [take_snoc hx, List.filter_append]; simp [hg]
  refine ⟨by rw [List.length_set]; exact hl, ?_, by rw [hf, List.length_append, h.cnt]; rfl, by omega, by omega, ?_⟩
  · rw [hf, ← h.tk, take_snoc (show (M.set i x)[i]? = some x by rw [List.getElem?_set_self]; omega), List.take_set_of_le (Nat.le_refl _)]
  · rw [List.drop_set_of_lt (by omega)]
    have := congrArg (List.drop 1) h.dr
    rwa [List.drop_drop, List.drop_drop] at this
theorem DlI.skip {s : ByteArray} {L : List Deed} {j i : Nat} {M : List Deed} {x : Deed} (h : DlI s L j i M) (hx : L[j]? = some x) (hg : isL s x = false) : DlI s L (j + 1) i M := by
  have h1 := (List.getElem?_eq_some_iff.1 hx).1
  have hk := h.lt
  have hf : (L.take (j + 1)).filter (isL s) = (L.take j).filter (isL s) := by rw [take_snoc hx, List.filter_append]; simp [hg]
  refine ⟨h.len, by rw [hf]; exact h.tk, by rw [hf]; exact h.cnt, by omega, by omega, ?_⟩
  have := congrArg (List.drop 1) h.dr
  rwa [List.drop_drop, List.drop_drop] at this
theorem delete0_c {b : Nat} {σ : Store} : ACalls Tryz.prog 23 [.sl 20 [] false, fOwn b] σ fun v σ' => v = .sl 20 [] false ∧ σ = σ' := by
  refine ACalls_of Tryz.func23 rfl Tryz.ntmps23 (congrArg Array.toList Tryz.results23) (by simp only [List.length_cons, List.length_nil]; decide) ?_; simp only [envOf_cons, envOf_nil, Nat.reduceAdd]
  refine awp_seq ?_
  refine awp_region (by kernel_rfl) ?_
  (refine aL_S rfl rfl v_ ?_)
  refine aL_nil ?_
  refine awp_seq ?_
  refine awp_region (by kernel_rfl) ?_
  iterate 2 (refine aL_S rfl rfl v_ ?_)
  refine aL_X rfl rfl (AOp_use rfl rfl (.inr ⟨rfl, rfl, rfl⟩) g_ va_ (idx0_c) ?_); rintro _ _ ⟨rfl, rfl⟩
  (refine aL_S rfl rfl v_ ?_)
  refine aL_nil ?_
  refine awp_seq ?_
  refine awp_seq ?_
  refine awp_region (by kernel_rfl) ?_
  iterate 2 (refine aL_S rfl rfl v_ ?_)
  refine aL_nil ?_
  refine awp_cond v_ (fun hc2 => ?_) (fun hc2 => ?_)
  · replace hc2 := nm_ hc2
    refine awp_seq ?_
    refine awp_region (by kernel_rfl) ?_
    iterate 2 (refine aL_S rfl rfl v_ ?_)
    refine aL_nil ?_
    refine awp_ret ?_
    refine aEnd_ret (σ' := σ) v_ sub_ ?_
    exact ⟨rfl, rfl⟩
  · replace hc2 := nm_ hc2
    first | omega | (simp at hc2; done) | cases hc2
set_option maxHeartbeats 2000000 in
theorem deleteM_c {o b : Nat} {s : ByteArray} {L : List Deed} {σ : Store} (hb : σ.heap b = some (.cells [vStr s])) (hbo : b ≠ o) (ho : σ.heap o = some (.cells (flat (L.map sDeed)))) (hl : L.length ≤ 1000000) :
    ACalls Tryz.prog 23 [.msl o 20 0 L.length, fOwn b] σ fun v σ' => ∃ zs : List AVal, v = .msl o 20 0 (L.filter (isL s)).length ∧ σ' = σ.set o (.cells (flat ((L.filter (isL s)).map sDeed) ++ zs)) := by
  have hfl := flat_deed_len L
  refine ACalls_of Tryz.func23 rfl Tryz.ntmps23 (congrArg Array.toList Tryz.results23) (by simp only [List.length_cons, List.length_nil]; decide) ?_; simp only [envOf_cons, envOf_nil, Nat.reduceAdd]
  refine awp_seq ?_
  refine awp_region (by kernel_rfl) ?_
  (refine aL_S rfl rfl v_ ?_)
  refine aL_nil ?_
  refine awp_seq ?_
  refine awp_region (by kernel_rfl) ?_
  iterate 2 (refine aL_S rfl rfl v_ ?_)
  refine aL_X rfl rfl (AOp_use rfl rfl (.inr ⟨rfl, rfl, rfl⟩) g_ va_ (idxM_c hb ho hl) ?_); rintro _ _ ⟨⟨r, rfl, h1, h2⟩, rfl⟩
  (refine aL_S rfl rfl v_ ?_)
  refine aL_nil ?_
  refine awp_seq ?_
  refine awp_seq ?_
  refine awp_region (by kernel_rfl) ?_
  iterate 2 (refine aL_S rfl rfl v_ ?_)
  refine aL_nil ?_
  refine awp_cond v_ (fun hc2 => ?_) (fun hc2 => ?_)
  · replace hc2 := nm_ hc2
    refine awp_seq ?_
    refine awp_region (by kernel_rfl) ?_
    iterate 2 (refine aL_S rfl rfl v_ ?_)
    refine aL_nil ?_
    refine awp_ret ?_
    refine aEnd_ret v_ (Store.Wk.refl _) ?_
    exact ⟨[], by rw [h1 hc2], by rw [h1 hc2, List.append_nil, Store.set_same ho]⟩
  · replace hc2 := nm_ hc2
    obtain ⟨j0, rfl, hj0, hf0⟩ := h2 hc2
    have hI0 : DlI s L (j0 + 1) j0 L := ⟨rfl, hf0.symm, by rw [hf0, List.length_take]; omega, by omega, by omega, rfl⟩
    refine awp_skip ?_
    refine awp_seq ?_
    refine awp_seq ?_
    refine awp_region (by kernel_rfl) ?_
    iterate 3 (refine aL_S rfl rfl v_ ?_)
    refine aL_nil ?_
    refine awp_block ?_
    refine awp_loop_env (ι := Nat × Nat × List Deed) (fun ⟨j, i, M⟩ => L.length - j) (fun ⟨j, i, M⟩ => DlI s L j i M) (fun ⟨j, i, M⟩ => [(0, .msl o 20 0 L.length), (1, fOwn b), (5, vInt i), (6, vInt j)]) (fun ⟨j, i, M⟩ => (σ.set o (.cells (flat (M.map sDeed))))) (j0 + 1, j0, L) ?_ ?_ ?_ ?_
    · exact hI0
    · exact cv_
    · (try dsimp only); rw [Store.set_same ho]; exact Store.Wk.refl _
    rintro ⟨j, i, M⟩ hI
    simp only [envL_cons, envL_nil]
    refine awp_seq ?_
    refine awp_seq ?_
    refine awp_region (by kernel_rfl) ?_
    iterate 4 (refine aL_S rfl rfl v_ ?_)
    refine aL_nil ?_
    refine awp_cond v_ (fun hc5 => ?_) (fun hc5 => ?_)
    · replace hc5 := nm_ hc5
      refine awp_skip ?_
      refine awp_seq ?_
      refine awp_block ?_
      refine awp_seq ?_
      have hjl : j < L.length := by omega
      obtain ⟨x, hx⟩ := get_some (l := L) (k := j) hjl
      have hMx : M[j]? = some x := by rw [drop_get hI.dr (Nat.le_refl _)]; exact hx
      have px := flat_partD hMx
      have hflM := flat_deed_len M
      rw [hI.len] at hflM
      have hil := hI.lt
      have R := And.intro px hflM
      refine awp_region (by kernel_rfl) ?_
      iterate 4 (refine aL_S rfl rfl v_ ?_)
      refine aL_alloc rfl rfl rfl g_ gl_ fun o7 ho7 => ?_
      repeat (rw [none_set_iff] at ho7; obtain ⟨_, ho7⟩ := ho7)
      refine aL_store rfl rfl rfl v_ v_ h_ g_ rfl g_ c_ (by rfl) le_ v_ ?_
      refine aL_nil ?_
      refine awp_seq ?_
      have nb7 := ne_of_heap hb ho7
      refine awp_region (by kernel_rfl) ?_
      iterate 2 (refine aL_S rfl rfl v_ ?_)
      refine aL_X rfl rfl (AOp_use rfl rfl (.inl v_) g_ va_ (own1_c (s := s) (by simp (disch := omega) only [Store.set_ne, hb])) ?_); rintro _ _ ⟨rfl, rfl⟩
      (refine aL_S rfl rfl v_ ?_)
      refine aL_nil ?_
      refine awp_cond v_ (fun hc8 => ?_) (fun hc8 => ?_)
      · replace hc8 := nm_ hc8
        refine awp_seq ?_
        have R := hflM
        refine awp_region (by kernel_rfl) ?_
        iterate 4 (refine aL_S rfl rfl v_ ?_)
        refine aL_store rfl rfl rfl v_ v_ h_ g_ rfl g_ c_ (by rfl) (by rw [hflM]; omega) (aput_flatD (by rw [hI.len]; omega)) ?_
        refine aL_nil ?_
        refine awp_region (by kernel_rfl) ?_
        iterate 3 (refine aL_S rfl rfl v_ ?_)
        refine aL_nil ?_
        refine awp_region (by kernel_rfl) ?_
        iterate 3 (refine aL_S rfl rfl v_ ?_)
        refine aL_nil ?_
        refine aNext (ι := Nat × Nat × List Deed) (i := ⟨j, i, M⟩) (j + 1, i + 1, M.set i x) ?_ ?_ ?_ ?_
        · show L.length - (j + 1) < L.length - j; omega
        · exact hI.put hx (by simpa using hc8)
        · exact cv_
        · exact sub_
      · replace hc8 := nm_ hc8
        refine awp_skip ?_
        refine awp_region (by kernel_rfl) ?_
        iterate 3 (refine aL_S rfl rfl v_ ?_)
        refine aL_nil ?_
        refine aNext (ι := Nat × Nat × List Deed) (i := ⟨j, i, M⟩) (j + 1, i, M) ?_ ?_ ?_ ?_
        · show L.length - (j + 1) < L.length - j; omega
        · exact hI.skip hx (by simpa using hc8)
        · exact cv_
        · exact sub_
    · replace hc5 := nm_ hc5
      refine awp_exit ?_
      refine aThen_exit ?_
      refine aThen_exit ?_
      refine aBlock_hit ?_
      refine awp_seq ?_
      have hil := hI.lt
      have hle := hI.le
      have hflM := flat_deed_len M
      rw [hI.len] at hflM
      have hcnt := hI.cnt
      have htk := hI.tk
      rw [show j = L.length by omega, List.take_length] at hcnt htk
      refine awp_region (by kernel_rfl) ?_
      iterate 3 (refine aL_S rfl rfl v_ ?_)
      refine aL_X0 rfl rfl (AOp_clear (sz := 20) rfl g_ g_ (by rfl) (by decide) va_ h_ (by rw [hflM]; omega) fun zs hz => ?_)
      refine aL_nil ?_
      refine awp_seq ?_
      refine awp_region (by kernel_rfl) ?_
      iterate 4 (refine aL_S rfl rfl v_ ?_)
      refine aL_nil ?_
      refine awp_ret ?_
      refine aEnd_ret v_ (Store.Wk.refl _) ?_
      exact ⟨zs ++ (flat (M.map sDeed)).drop (i * 20 + zs.length), by rw [hcnt]; rfl, by rw [Store.set_set, take_flatD, htk]⟩
theorem deleteC {σ0 σ : Store} {b : Nat} {s : ByteArray} {L : List Deed} {a : AVal} (hb : σ0.heap b = some (.cells [vStr s])) (h : CBd σ0 σ L a) (hl : L.length ≤ 1000000) :
    ACalls Tryz.prog 23 [a, fOwn b] σ fun v σ' => v = .sl 20 ((own L s).map sDeed) false ∧ σ0 = σ' := by
  rcases h with ⟨rfl, rfl, rfl⟩ | ⟨o, ho, rfl, rfl⟩
  · exact delete0_c
  · have hbo : b ≠ o := ne_of_heap hb ho
    refine (deleteM_c (s := s) (by rw [Store.set_ne _ _ hbo]; exact hb) hbo (Store.set_get ..) hl).after ?_
    rintro κ _ _ cv hI hr ⟨zs, rfl, rfl⟩
    obtain ⟨κ', h1, h2, h3, h4⟩ := Ab.freeze hI hr (Store.set_get ..) (l := (L.filter (isL s)).map sDeed) (by rw [List.take_left' (by rw [flat_deed_len])]) (by simp) (szDeed _)
    rw [Store.set_set, Store.set_del ho] at h3
    exact ⟨κ', _, _, h1, h2, h3, h4, rfl, rfl⟩
end Go.Proofs.YtbjloippgpilcaaGreatDoor
end
