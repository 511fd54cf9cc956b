/-
  Whether an object may be; The reference's May, Same and Few; Books and registries: whether they may be, on both sides; WHAT IS KNOWN OF WRITES, plainly: rows that rise, each node's dots as a set, contexts joined; OBJECTS MERGED, plainly: per dot nothing is known, a value, or that it is replaced; merging is the greater of these; Objects held against one another, as functions; ITEMS MERGED, plainly: two rows that rise, gone through side by side; and the document's way, each put in its place; GUARDED OPERATIONS BEHIND ONE THAT WRITES, in a drawn region; slices.Concat of items; Registries: whether they may be, on both sides. Messages: whether they may be; Messages: whether they may be, on both sides. Own work (an AI agent).
-/
import Derived.Test.YtbcgkbdacijoiaaGreatGE
import Derived.Test.YtbcgkbdacijoiaaGreatGD

section
set_option linter.all false
set_option maxRecDepth 100000
namespace Go.Proofs.YtbcgkbdacijoiaaGreat
open Go.Ab

def oneS (s : ByteArray) (n : Int) : Seen := if n = 1 then ⟨s, 1, []⟩ else ⟨s, 0, [n]⟩
def dotOk (s : ByteArray) (n : Int) : Bool := nameOk s && decide (1 ≤ n) && decide (n ≤ 9007199254740992)
def addS (c : List Seen) (s : ByteArray) (n : Int) : List Seen × Int := if dotOk s n then joinS c [oneS s n] else ([], 1)
theorem oneS_node (s : ByteArray) (n : Int) : (oneS s n).node = s := by unfold oneS; split <;> rfl
theorem dotOk_yes {s : ByteArray} {n : Int} (h : (nameOk s = true ∧ 1 ≤ n) ∧ n ≤ 9007199254740992) : dotOk s n = true := by simp [dotOk, h.1.1, h.1.2, h.2]
theorem dotOk_no {s : ByteArray} {n : Int} (h : (nameOk s = false ∨ n < 1) ∨ 9007199254740992 < n) : dotOk s n = false := by
  unfold dotOk
  rcases h with (h | h) | h
  · rw [h]; rfl
  · rw [decide_eq_false (show ¬ 1 ≤ n by omega)]; simp
  · rw [decide_eq_false (show ¬ n ≤ 9007199254740992 by omega)]; simp
theorem dotOk_iff {s : ByteArray} {n : Int} : dotOk s n = true ↔ (nameOk s = true ∧ 1 ≤ n) ∧ n ≤ 9007199254740992 := by simp [dotOk]
theorem nameOk_size {s : ByteArray} (h : nameOk s = true) : s.size ≤ 16 := by
  simp only [nameOk, Bool.and_eq_true, decide_eq_true_eq] at h
  exact h.1.2
theorem add_c {c : List Seen} {s : ByteArray} {n : Int} {t : Bool} {σ : Store} (hA : ∀ x ∈ c, SeenSm x) (hn : c.length ≤ 100000) (hs : s.size ≤ 1000000) :
    ACalls Tryz.prog 230 [.sl 3 (c.map sSeen) t, sDot s n] σ fun v σ' => v = .tup [.sl 3 ((addS c s n).1.map sSeen) false, vInt (addS c s n).2] ∧ σ = σ' := by
  have hon := oneS_node s n
  have hsm : ∀ x ∈ [oneS s n], SeenSm x := fun x hx => by
    obtain rfl := List.mem_singleton.1 hx
    refine ⟨by rw [hon]; exact hs, ?_⟩
    unfold oneS; split <;> simp
  refine ACalls_of Tryz.func230 rfl Tryz.ntmps230 (congrArg Array.toList Tryz.results230) (by simp only [List.length_cons, List.length_nil]; decide) ?_; simp only [envOf_cons, envOf_nil, Nat.reduceAdd]
  refine awp_seq ?_
  refine awp_region (by kernel_rfl) ?_
  refine aL_box rfl rfl rfl v_ rfl g_ fun o3 ho3 => ?_
  repeat (rw [none_set_iff] at ho3; obtain ⟨_, ho3⟩ := ho3)
  iterate 2 (refine aL_S rfl rfl v_ ?_)
  refine aL_nil ?_
  refine awp_seq ?_
  refine awp_seq ?_
  refine awp_region (by kernel_rfl) ?_
  iterate 2 (refine aL_S rfl rfl v_ ?_)
  refine aL_X rfl rfl (AOp_use rfl rfl (.inr ⟨rfl, rfl, rfl⟩) g_ va_ (nameIs_c (by omega)) ?_); rintro _ _ ⟨rfl, rfl⟩
  iterate 2 (refine aL_S rfl rfl v_ ?_)
  refine aL_GF rfl rfl v_ rfl vg_ ?_
  refine aL_GF rfl rfl v_ rfl vg_ ?_
  refine aL_GF rfl rfl v_ rfl vg_ ?_
  iterate 2 (refine aL_S rfl rfl v_ ?_)
  refine aL_GF rfl rfl v_ rfl vg_ ?_
  refine aL_GF rfl rfl v_ rfl vg_ ?_
  refine aL_GF rfl rfl v_ rfl vg_ ?_
  (refine aL_S rfl rfl v_ ?_)
  refine aL_nil ?_
  refine awp_cond v_ (fun hc1 => ?_) (fun hc1 => ?_)
  · replace hc1 := nm_ hc1
    refine awp_seq ?_
    refine awp_region (by kernel_rfl) ?_
    iterate 2 (refine aL_S rfl rfl v_ ?_)
    refine aL_nil ?_
    refine awp_ret ?_
    rw [show addS c s n = ([], 1) from by rw [addS, dotOk_no hc1]; rfl]
    exact aEnd_retW (v := .tup [.sl 3 [] false, vInt 1]) (v' := .tup [vNil, vInt 1]) va_ (.tup _ _ rfl (fun i hi hi' => by match i, hi with | 0, _ => exact .nil _ _ | 1, _ => exact .refl _)) sub_ ⟨rfl, rfl⟩
  · replace hc1 := nm_ hc1
    have hd := dotOk_yes hc1
    have haj : addS c s n = joinS c [oneS s n] := by rw [addS, hd]; rfl
    refine awp_skip ?_
    refine awp_seq ?_
    refine awp_region (by kernel_rfl) ?_
    iterate 3 (refine aL_S rfl rfl v_ ?_)
    refine aL_alloc rfl rfl rfl g_ gl_ fun o6 ho6 => ?_
    repeat (rw [none_set_iff] at ho6; obtain ⟨_, ho6⟩ := ho6)
    refine aL_store rfl rfl rfl v_ v_ h_ g_ rfl g_ c_ (by rfl) le_ v_ ?_
    refine aL_nil ?_
    refine awp_seq ?_
    refine awp_seq ?_
    refine awp_region (by kernel_rfl) ?_
    iterate 3 (refine aL_S rfl rfl v_ ?_)
    refine aL_nil ?_
    refine awp_cond v_ (fun hc4 => ?_) (fun hc4 => ?_)
    · replace hc4 := nm_ hc4
      refine awp_region (by kernel_rfl) ?_
      (refine aL_S rfl rfl v_ ?_)
      refine aL_store rfl rfl rfl v_ v_ h_ g_ rfl g_ c_ (by rfl) le_ v_ ?_
      refine aL_nil ?_
      refine awp_wkCells o6 [.lit (.string (oneS s n).node), vInt (oneS s n).base, .sl 1 ((oneS s n).more.map vInt) false] h_ (by rw [show oneS s n = ⟨s, 1, []⟩ from if_pos hc4]; exact ⟨.refl _, .refl _, .nil _ _, trivial⟩) ?_
      refine awp_seq ?_
      refine awp_region (by kernel_rfl) ?_
      iterate 2 (refine aL_S rfl rfl v_ ?_)
      refine aL_buildSlice rfl rfl rfl g_ g_ rfl rfl h_ c2_ (by decide) ?_
      refine aL_X rfl rfl (AOp_use rfl rfl (.inr ⟨rfl, rfl, rfl⟩) g_ va_ (join_c (b := [oneS s n]) hA hsm hn (by simp)) ?_); rintro _ _ ⟨rfl, rfl⟩
      iterate 4 (refine aL_S rfl rfl v_ ?_)
      refine aL_nil ?_
      refine awp_ret ?_
      refine aEnd_ret (σ' := σ) v_ sub_ ?_
      exact ⟨by rw [haj], rfl⟩
    · replace hc4 := nm_ hc4
      refine awp_region (by kernel_rfl) ?_
      iterate 2 (refine aL_S rfl rfl v_ ?_)
      refine aL_buildSlice rfl rfl rfl g_ g_ rfl rfl h_ c2_ (by decide) ?_
      (refine aL_S rfl rfl v_ ?_)
      refine aL_store rfl rfl rfl v_ v_ h_ g_ rfl g_ c_ (by rfl) le_ v_ ?_
      refine aL_nil ?_
      refine awp_wkCells o6 [.lit (.string (oneS s n).node), vInt (oneS s n).base, .sl 1 ((oneS s n).more.map vInt) false] h_ (by rw [show oneS s n = ⟨s, 0, [n]⟩ from if_neg hc4]; exact ⟨.refl _, .refl _, .sl1 _ _ _, trivial⟩) ?_
      refine awp_seq ?_
      refine awp_region (by kernel_rfl) ?_
      iterate 2 (refine aL_S rfl rfl v_ ?_)
      refine aL_buildSlice rfl rfl rfl g_ g_ rfl rfl h_ c2_ (by decide) ?_
      refine aL_X rfl rfl (AOp_use rfl rfl (.inr ⟨rfl, rfl, rfl⟩) g_ va_ (join_c (b := [oneS s n]) hA hsm hn (by simp)) ?_); rintro _ _ ⟨rfl, rfl⟩
      iterate 4 (refine aL_S rfl rfl v_ ?_)
      refine aL_nil ?_
      refine awp_ret ?_
      refine aEnd_ret (σ' := σ) v_ sub_ ?_
      exact ⟨by rw [haj], rfl⟩
theorem compact_one {α : Type} [DecidableEq α] [Inhabited α] (x : α) : Lib.compact [x] = [x] := by
  simp [Lib.compact, Lib.compactUpTo, List.range_succ, Lib.keeps]
theorem ctxOk_one {s : ByteArray} {n : Int} (h : dotOk s n = true) : ctxOk [oneS s n] = true := by
  obtain ⟨⟨h1, h2⟩, h3⟩ := dotOk_iff.1 h
  unfold ctxOk ctxGo ctxGo
  unfold oneS
  split
  · simp [seenOk, seenHd, h1, riseOk, aheadOk]
  · simp [seenOk, seenHd, h1, riseOk, aheadOk, h3]; omega
theorem both_one {s : ByteArray} {n : Int} (h : dotOk s n = true) : bothS (seen0 s) (oneS s n) = oneS s n := by
  obtain ⟨⟨h1, h2⟩, h3⟩ := dotOk_iff.1 h
  have e : ∀ l : List Int, l.length ≤ 1 → onceI l = l := fun l hl => by
    match l, hl with
    | [], _ => simp [onceI, sortII, Lib.compact, Lib.compactUpTo]
    | [x], _ => simp [onceI, sortII, compact_one]
  unfold bothS bothF
  rw [e _ (by unfold oneS seen0; split <;> simp)]
  unfold oneS seen0
  split
  · rename_i h; simp; omega
  · rename_i h
    have h0 : 0 < n := by omega
    simp [bstep, h, h0]
theorem joinAll_one {s : ByteArray} {n : Int} (h : dotOk s n = true) : joinAll [] [oneS s n] = [oneS s n] := by
  have e : nodesS [] [oneS s n] = [s] := by simp [nodesS, sortSS, compactL, compact_one, oneS_node, B_Lb]
  unfold joinAll
  rw [e]
  have e2 : ofS [oneS s n] s = oneS s n := by simp [ofS, oneS_node]
  have e1 : ofS [] s = seen0 s := rfl
  rw [List.map_cons, List.map_nil, e1, e2, both_one h]
theorem addNil (s : ByteArray) (n : Int) : (addS [] s n).2 = if dotOk s n then 0 else 1 := by
  unfold addS
  cases h : dotOk s n with
  | false => rfl
  | true => simp [joinS, joinAll_one h, ctxOk_one h, show ctxOk [] = true from rfl]
theorem dec_chk (b : Bool) : decide ((if b = true then (0 : Int) else 1) = 0) = b := by cases b <;> rfl
theorem dec_nat (m k : Nat) : decide ((m : Int) ≤ (k : Int)) = decide (m ≤ k) := by
  by_cases h : m ≤ k
  · rw [decide_eq_true h, decide_eq_true (by omega)]
  · rw [decide_eq_false h, decide_eq_false (by omega)]
theorem dec256 (m : Nat) : decide ((m : Int) ≤ 256) = decide (m ≤ 256) := dec_nat m 256
def sibOk (x : Sib) : Bool := dotOk x.node x.n && decide (x.value.size ≤ 256) && (!x.gone || decide (x.value = ⟨#[]⟩)) && decide (0 ≤ x.time) && decide (x.time ≤ 9007199254740992)
theorem isSib_c {x : Sib} {σ : Store} (hx : SibSm x) : ACalls Tryz.prog 157 [sSib x] σ fun v σ' => v = vB (sibOk x) ∧ σ = σ' := by
  have h1 := hx.node; have h2 := hx.value
  have hsz : (if dotOk x.node x.n = true then (0 : Int) else 1) = 0 ↔ dotOk x.node x.n = true := chk0
  refine ACalls_of Tryz.func157 rfl Tryz.ntmps157 (congrArg Array.toList Tryz.results157) (by simp only [List.length_cons, List.length_nil]; decide) ?_; simp only [envOf_cons, envOf_nil, Nat.reduceAdd]
  refine awp_seq ?_
  refine awp_region (by kernel_rfl) ?_
  refine aL_box rfl rfl rfl v_ rfl g_ fun o1 ho1 => ?_
  repeat (rw [none_set_iff] at ho1; obtain ⟨_, ho1⟩ := ho1)
  (refine aL_S rfl rfl v_ ?_)
  refine aL_nil ?_
  refine awp_seq ?_
  refine awp_region (by kernel_rfl) ?_
  iterate 2 (refine aL_S rfl rfl v_ ?_)
  refine aL_X rfl rfl (AOp_use rfl rfl (.inr ⟨rfl, rfl, rfl⟩) g_ va_ (ACalls.wkA (args := [vNil, sDot x.node x.n]) (add_c (c := []) (t := false) (s := x.node) (n := x.n) (fun _ h => by cases h) (by simp) (by omega)) rfl (fun j hj hj' => by match j, hj with | 0, _ => exact .nil _ _ | 1, _ => exact .refl _)) ?_); rintro _ _ ⟨rfl, rfl⟩
  rw [addNil]
  iterate 5 (refine aL_S rfl rfl v_ ?_)
  refine aL_nil ?_
  refine awp_seq ?_
  refine awp_region (by kernel_rfl) ?_
  iterate 3 (refine aL_S rfl rfl v_ ?_)
  refine aL_GT rfl rfl v_ rfl vg_ ?_
  refine aL_GT rfl rfl v_ rfl vg_ ?_
  refine aL_GT rfl rfl v_ rfl vg_ ?_
  refine aL_GT rfl rfl v_ rfl vg_ ?_
  iterate 2 (refine aL_S rfl rfl v_ ?_)
  refine aL_GT rfl rfl v_ rfl vg_ ?_
  refine aL_GT rfl rfl v_ rfl vg_ ?_
  refine aL_GT rfl rfl v_ rfl vg_ ?_
  refine aL_GT rfl rfl v_ rfl vg_ ?_
  refine aL_GGF rfl rfl v_ rfl vg_ ?_
  refine aL_GGF rfl rfl v_ rfl vg_ ?_
  refine aL_GGF rfl rfl v_ rfl vg_ ?_
  refine aL_GT rfl rfl v_ rfl vg_ ?_
  iterate 2 (refine aL_S rfl rfl v_ ?_)
  refine aL_GT rfl rfl v_ rfl vg_ ?_
  refine aL_GT rfl rfl v_ rfl vg_ ?_
  refine aL_GT rfl rfl v_ rfl vg_ ?_
  iterate 2 (refine aL_S rfl rfl v_ ?_)
  refine aL_GT rfl rfl v_ rfl vg_ ?_
  refine aL_GT rfl rfl v_ rfl vg_ ?_
  refine aL_GT rfl rfl v_ rfl vg_ ?_
  iterate 2 (refine aL_S rfl rfl v_ ?_)
  refine aL_nil ?_
  refine awp_ret ?_
  refine aEnd_ret (σ' := σ) v_ sub_ ?_
  refine ⟨?_, rfl⟩
  rw [dec_chk, dec256]; rfl
def aheadD (pv : Option Sib) (x : Sib) : Bool := match pv with | none => true | some p => lessD p.node p.n x.node x.n
def sibsGo (c : List Seen) : Option Sib → List Sib → Bool
  | _, [] => true
  | pv, x :: l => sibOk x && hasS c x.node x.n && aheadD pv x && sibsGo c (some x) l
def objOk (o : Obj') : Bool := ctxOk o.ctx && sibsGo o.ctx none o.sibs
def pvSib (c : List Sib) (k : Nat) : Option Sib := if k = 0 then none else c[k - 1]?
theorem pvSib_next {c : List Sib} {k : Nat} {x : Sib} (h : c[k]? = some x) : pvSib c (k + 1) = some x := by simp [pvSib, h]
theorem pvSib_prev (c : List Sib) (k : Nat) (hk : k < c.length) : ∃ y : Sib, (0 < k → c[((k : Int) - 1).toNat]? = some y) ∧ ∀ x, aheadD (pvSib c k) x = (decide (k = 0) || lessD y.node y.n x.node x.n) := by
  by_cases h0 : k = 0
  · subst h0
    exact ⟨⟨.empty, 0, .empty, false, 0⟩, fun h => by omega, fun s => rfl⟩
  · obtain ⟨y, hy⟩ := get_some (l := c) (k := k - 1) (by omega)
    have e : ((k : Int) - 1).toNat = k - 1 := by omega
    exact ⟨y, fun _ => by rw [e]; exact hy, fun s => by simp [pvSib, h0, hy, aheadD]⟩
theorem sibs_no {a h b r s : Bool} {k : Nat} (hb : b = (decide (k = 0) || s)) (hh : (a = false ∨ h = false) ∨ 0 < (k : Int) ∧ s = false) : (a && h && b && r) = false := by
  rcases hh with (hh | hh) | ⟨h1, h2⟩
  · rw [hh]; rfl
  · rw [hh]; simp
  · rw [hb, h2, decide_eq_false (show ¬ k = 0 by omega)]; simp
theorem sibs_yes {a h b r s : Bool} {k : Nat} (hb : b = (decide (k = 0) || s)) (hh : (a = true ∧ h = true) ∧ ((k : Int) ≤ 0 ∨ s = true)) : (a && h && b && r) = r := by
  obtain ⟨⟨h1, h2⟩, h3⟩ := hh
  have : b = true := by
    rw [hb]
    rcases h3 with h | h
    · rw [decide_eq_true (show k = 0 by omega)]; rfl
    · rw [h]; simp
  rw [h1, h2, this]; rfl
theorem cmp_less {s : ByteArray} {n : Int} {s' : ByteArray} {n' : Int} : (0 ≤ cmpD s n s' n') ↔ lessD s n s' n' = false := by
  rw [← Bool.not_eq_true, ← cmpD_less]; omega
theorem cmp_less' {s : ByteArray} {n : Int} {s' : ByteArray} {n' : Int} : (cmpD s n s' n' < 0) ↔ lessD s n s' n' = true := cmpD_less s n s' n'
theorem oCheck_c {o : Obj'} {σ : Store} (ho : ObjSm o) : ACalls Tryz.prog 80 [sObj o] σ fun v σ' => v = vInt (if objOk o then 0 else 1) ∧ σ = σ' := by
  have hnc := ho.nc; have hns := ho.ns
  refine ACalls_of Tryz.func80 rfl Tryz.ntmps80 (congrArg Array.toList Tryz.results80) (by simp only [List.length_cons, List.length_nil]; decide) ?_; simp only [envOf_cons, envOf_nil, Nat.reduceAdd]
  refine awp_seq ?_
  refine awp_region (by kernel_rfl) ?_
  refine aL_box rfl rfl rfl v_ rfl g_ fun o1 ho1 => ?_
  repeat (rw [none_set_iff] at ho1; obtain ⟨_, ho1⟩ := ho1)
  (refine aL_S rfl rfl v_ ?_)
  refine aL_nil ?_
  refine awp_seq ?_
  refine awp_seq ?_
  refine awp_region (by kernel_rfl) ?_
  iterate 2 (refine aL_S rfl rfl v_ ?_)
  refine aL_X rfl rfl (AOp_use rfl rfl (.inr ⟨rfl, rfl, rfl⟩) g_ va_ (check_c ho.ctx (by omega)) ?_); rintro _ _ ⟨rfl, rfl⟩
  (refine aL_S rfl rfl v_ ?_)
  refine aL_nil ?_
  refine awp_cond v_ (fun hc1 => ?_) (fun hc1 => ?_)
  · replace hc1 := nm_ hc1
    skip
    have hf : objOk o = false := by
      rw [chk0] at hc1
      simp [objOk, hc1]
    refine awp_seq ?_
    refine awp_region (by kernel_rfl) ?_
    (refine aL_S rfl rfl v_ ?_)
    refine aL_nil ?_
    refine awp_ret ?_
    refine aEnd_ret (σ' := σ) v_ sub_ ?_
    exact ⟨by rw [hf]; rfl, rfl⟩
  · replace hc1 := nm_ hc1
    rw [chk0] at hc1
    have hob : objOk o = sibsGo o.ctx none o.sibs := by simp [objOk, hc1]
    refine awp_skip ?_
    refine awp_seq ?_
    refine awp_seq ?_
    refine awp_region (by kernel_rfl) ?_
    iterate 4 (refine aL_S rfl rfl v_ ?_)
    refine aL_nil ?_
    refine awp_block ?_
    refine awp_loop_env (ι := Nat) (fun k => o.sibs.length - k) (fun k => k ≤ o.sibs.length ∧ sibsGo o.ctx (pvSib o.sibs k) (o.sibs.drop k) = sibsGo o.ctx none o.sibs) (fun k => [(1, .ref o1 0), (10, .sl 5 (o.sibs.map sSib) false), (11, vInt o.sibs.length), (12, vInt k)]) (fun k => (σ.set o1 (.cells (sObj o).cells))) 0 ?_ ?_ ?_ ?_
    · exact ⟨Nat.zero_le _, rfl⟩
    · exact cv_
    · exact Store.Wk.refl _
    rintro k ⟨hk, hr⟩
    simp only [envL_cons, envL_nil]
    refine awp_seq ?_
    refine awp_region (by kernel_rfl) ?_
    (refine aL_S rfl rfl v_ ?_)
    refine aL_nil ?_
    refine awp_seq ?_
    refine awp_cond v_ (fun hc4 => ?_) (fun hc4 => ?_)
    · replace hc4 := nm_ hc4
      refine awp_skip ?_
      refine awp_seq ?_
      refine awp_block ?_
      refine awp_seq ?_
      obtain ⟨x, hxk⟩ := get_some (l := o.sibs) (k := k) (by omega)
      have hsx := ho.sibs x (List.mem_of_getElem? hxk)
      obtain ⟨y, hy, hah⟩ := pvSib_prev o.sibs k (by omega)
      have hst : sibsGo o.ctx (pvSib o.sibs k) (o.sibs.drop k) = (sibOk x && hasS o.ctx x.node x.n && aheadD (pvSib o.sibs k) x && sibsGo o.ctx (some x) (o.sibs.drop (k + 1))) := by rw [drop_cons hxk]; rfl
      have R := hxk
      refine awp_region (by kernel_rfl) ?_
      iterate 3 (refine aL_S rfl rfl v_ ?_)
      refine aL_alloc rfl rfl rfl g_ gl_ fun o4 ho4 => ?_
      repeat (rw [none_set_iff] at ho4; obtain ⟨_, ho4⟩ := ho4)
      (refine aL_S rfl rfl v_ ?_)
      refine aL_store rfl rfl rfl v_ v_ h_ g_ rfl g_ c_ (by rfl) le_ v_ ?_
      refine aL_nil ?_
      refine awp_seq ?_
      have R := hy
      refine awp_draw (.op 0 0 (.op 1 1 (.op 2 0 (.op 3 0 (.op 4 0 (.op 5 0 (.op 6 0 (.op 7 0 (.op 8 1 (.op 9 0 (.op 10 0 (.op 11 0 (.op 12 0 (.op 13 0 (.op 14 0 (.op 15 0 (.op 16 0 (.op 17 0 (.op 18 0 (.op 19 0 (.op 20 0 (.op 21 0 (.op 22 1 (.op 23 0 (.op 24 0 (.op 25 0 .nil)))))))))))))))))))))))))) Tryz.mixed (by kernel_rfl) ?_
      (refine dR_S o_ (by rfl) (by rfl) v_ ?_)
      refine dR_X o_ (by rfl) (by rfl) (AOp_use (by rfl) (by rfl) (.inr ⟨by rfl, by rfl, by rfl⟩) g_ va_ (isSib_c hsx) ?_); rintro _ _ ⟨rfl, rfl⟩; refine ⟨sub_, ?_⟩
      iterate 2 (refine dR_S o_ (by rfl) (by rfl) v_ ?_)
      refine dR_GF o_ (by rfl) (by rfl) v_ (by rfl) vg_ ?_
      refine dR_GF o_ (by rfl) (by rfl) v_ (by rfl) vg_ ?_
      refine dR_GF o_ (by rfl) (by rfl) v_ (by rfl) vg_ ?_
      refine dR_GF o_ (by rfl) (by rfl) v_ (by rfl) vg_ ?_
      refine dR_GFX o_ (by rfl) (by rfl) v_ (by rfl) sub_ (fun hb => AOp_useV (by rfl) (by rfl) (.inr ⟨by rfl, by rfl, by rfl⟩) g_ cg_ (has_c ho.ctx (by omega))) ?_
      refine dR_GF o_ (by rfl) (by rfl) v_ (by rfl) vg_ ?_
      iterate 2 (refine dR_S o_ (by rfl) (by rfl) v_ ?_)
      refine dR_GF o_ (by rfl) (by rfl) v_ (by rfl) vg_ ?_
      refine dR_GF o_ (by rfl) (by rfl) v_ (by rfl) vg_ ?_
      refine dR_GF o_ (by rfl) (by rfl) v_ (by rfl) vg_ ?_
      refine dR_GGT o_ (by rfl) (by rfl) v_ (by rfl) vg_ ?_
      refine dR_GGT o_ (by rfl) (by rfl) v_ (by rfl) vg_ ?_
      refine dR_GGT o_ (by rfl) (by rfl) v_ (by rfl) vg_ ?_
      refine dR_GGT o_ (by rfl) (by rfl) v_ (by rfl) vg_ ?_
      refine dR_GGT o_ (by rfl) (by rfl) v_ (by rfl) vg_ ?_
      refine dR_GGT o_ (by rfl) (by rfl) v_ (by rfl) vg_ ?_
      refine dR_GGT o_ (by rfl) (by rfl) v_ (by rfl) vg_ ?_
      refine dR_GGTX o_ (by rfl) (by rfl) v_ (by rfl) sub_ (fun hb => AOp_useV (by rfl) (by rfl) (.inr ⟨by rfl, by rfl, by rfl⟩) g_ cg_ (order_c)) ?_
      refine dR_GGT o_ (by rfl) (by rfl) v_ (by rfl) vg_ ?_
      refine dR_GF o_ (by rfl) (by rfl) v_ (by rfl) vg_ ?_
      (refine dR_S o_ (by rfl) (by rfl) v_ ?_)
      refine dR_nil ?_
      refine awp_cond v_ (fun hc6 => ?_) (fun hc6 => ?_)
      · replace hc6 := nm_ hc6
        refine awp_seq ?_
        refine awp_region (by kernel_rfl) ?_
        (refine aL_S rfl rfl v_ ?_)
        refine aL_nil ?_
        refine awp_ret ?_
        refine aEnd_ret (σ' := σ) v_ sub_ ?_
        refine ⟨?_, rfl⟩
        rw [cmp_less] at hc6
        rw [hob, ← hr, hst, sibs_no (hah _) hc6]; rfl
      · replace hc6 := nm_ hc6
        rw [cmp_less'] at hc6
        have hnx : sibsGo o.ctx (pvSib o.sibs (k + 1)) (o.sibs.drop (k + 1)) = sibsGo o.ctx none o.sibs := by rw [pvSib_next hxk, ← hr, hst, sibs_yes (hah _) hc6]
        refine awp_skip ?_
        refine awp_region (by kernel_rfl) ?_
        iterate 2 (refine aL_S rfl rfl v_ ?_)
        refine aL_nil ?_
        refine aNext (ι := Nat) (i := k) (k + 1) ?_ ?_ ?_ ?_
        · omega
        · exact ⟨by omega, hnx⟩
        · exact cv_
        · exact sub_
    · replace hc4 := nm_ hc4
      refine awp_exit ?_
      refine aThen_exit ?_
      refine aThen_exit ?_
      refine aBlock_hit ?_
      refine awp_seq ?_
      refine awp_region (by kernel_rfl) ?_
      (refine aL_S rfl rfl v_ ?_)
      refine aL_nil ?_
      refine awp_ret ?_
      refine aEnd_ret (σ' := σ) v_ sub_ ?_
      refine ⟨?_, rfl⟩
      rw [hob, ← hr, List.drop_eq_nil_of_le (by omega)]; rfl
theorem rIsDot_c {s : ByteArray} {n : Int} {σ : Store} (hs : s.size ≤ 1000000) : ACalls Tryz.prog 193 [sDot s n] σ fun v σ' => v = vB (dotOk s n) ∧ σ = σ' := by
  refine ACalls_of Tryz.func193 rfl Tryz.ntmps193 (congrArg Array.toList Tryz.results193) (by simp only [List.length_cons, List.length_nil]; decide) ?_; simp only [envOf_cons, envOf_nil, Nat.reduceAdd]
  refine awp_seq ?_
  refine awp_region (by kernel_rfl) ?_
  refine aL_box rfl rfl rfl v_ rfl g_ fun o1 ho1 => ?_
  repeat (rw [none_set_iff] at ho1; obtain ⟨_, ho1⟩ := ho1)
  (refine aL_S rfl rfl v_ ?_)
  refine aL_nil ?_
  refine awp_seq ?_
  refine awp_region (by kernel_rfl) ?_
  iterate 2 (refine aL_S rfl rfl v_ ?_)
  refine aL_X rfl rfl (AOp_use rfl rfl (.inr ⟨rfl, rfl, rfl⟩) g_ va_ (rIs_c (by omega)) ?_); rintro _ _ ⟨rfl, rfl⟩
  (refine aL_S rfl rfl v_ ?_)
  refine aL_GT rfl rfl v_ rfl vg_ ?_
  refine aL_GT rfl rfl v_ rfl vg_ ?_
  refine aL_GT rfl rfl v_ rfl vg_ ?_
  iterate 2 (refine aL_S rfl rfl v_ ?_)
  refine aL_GT rfl rfl v_ rfl vg_ ?_
  refine aL_GT rfl rfl v_ rfl vg_ ?_
  refine aL_GT rfl rfl v_ rfl vg_ ?_
  iterate 2 (refine aL_S rfl rfl v_ ?_)
  refine aL_nil ?_
  refine awp_ret ?_
  refine aEnd_ret (σ' := σ) v_ sub_ ?_
  exact ⟨rfl, rfl⟩
theorem rIsSib_c {x : Sib} {σ : Store} (hx : SibSm x) : ACalls Tryz.prog 115 [sSib x] σ fun v σ' => v = vB (sibOk x) ∧ σ = σ' := by
  have h1 := hx.node; have h2 := hx.value
  refine ACalls_of Tryz.func115 rfl Tryz.ntmps115 (congrArg Array.toList Tryz.results115) (by simp only [List.length_cons, List.length_nil]; decide) ?_; simp only [envOf_cons, envOf_nil, Nat.reduceAdd]
  refine awp_seq ?_
  refine awp_region (by kernel_rfl) ?_
  refine aL_box rfl rfl rfl v_ rfl g_ fun o1 ho1 => ?_
  repeat (rw [none_set_iff] at ho1; obtain ⟨_, ho1⟩ := ho1)
  (refine aL_S rfl rfl v_ ?_)
  refine aL_nil ?_
  refine awp_seq ?_
  refine awp_region (by kernel_rfl) ?_
  iterate 2 (refine aL_S rfl rfl v_ ?_)
  refine aL_X rfl rfl (AOp_use rfl rfl (.inr ⟨rfl, rfl, rfl⟩) g_ va_ (rIsDot_c (by omega)) ?_); rintro _ _ ⟨rfl, rfl⟩
  (refine aL_S rfl rfl v_ ?_)
  refine aL_GT rfl rfl v_ rfl vg_ ?_
  refine aL_GT rfl rfl v_ rfl vg_ ?_
  refine aL_GT rfl rfl v_ rfl vg_ ?_
  refine aL_GT rfl rfl v_ rfl vg_ ?_
  iterate 2 (refine aL_S rfl rfl v_ ?_)
  refine aL_GT rfl rfl v_ rfl vg_ ?_
  refine aL_GT rfl rfl v_ rfl vg_ ?_
  refine aL_GT rfl rfl v_ rfl vg_ ?_
  refine aL_GT rfl rfl v_ rfl vg_ ?_
  refine aL_GGF rfl rfl v_ rfl vg_ ?_
  refine aL_GGF rfl rfl v_ rfl vg_ ?_
  refine aL_GGF rfl rfl v_ rfl vg_ ?_
  refine aL_GT rfl rfl v_ rfl vg_ ?_
  iterate 2 (refine aL_S rfl rfl v_ ?_)
  refine aL_GT rfl rfl v_ rfl vg_ ?_
  refine aL_GT rfl rfl v_ rfl vg_ ?_
  refine aL_GT rfl rfl v_ rfl vg_ ?_
  iterate 2 (refine aL_S rfl rfl v_ ?_)
  refine aL_GT rfl rfl v_ rfl vg_ ?_
  refine aL_GT rfl rfl v_ rfl vg_ ?_
  refine aL_GT rfl rfl v_ rfl vg_ ?_
  iterate 2 (refine aL_S rfl rfl v_ ?_)
  refine aL_nil ?_
  refine awp_ret ?_
  refine aEnd_ret (σ' := σ) v_ sub_ ?_
  refine ⟨?_, rfl⟩
  rw [dec256]; rfl
end Go.Proofs.YtbcgkbdacijoiaaGreat
end

section
set_option linter.all false
set_option maxRecDepth 100000
namespace Go.Proofs.YtbcgkbdacijoiaaGreat
open Go.Ab

theorem sameInts_c {a b : List Int} {ta tb : Bool} {σ : Store} (ha : a.length ≤ 1000000) (hb : b.length ≤ 1000000) : ACalls Tryz.prog 126 [.sl 1 (a.map vInt) ta, .sl 1 (b.map vInt) tb] σ fun v σ' => v = vB (decide (a = b)) ∧ σ = σ' := by
  refine ACalls_of Tryz.func126 rfl Tryz.ntmps126 (congrArg Array.toList Tryz.results126) (by simp only [List.length_cons, List.length_nil]; decide) ?_; simp only [envOf_cons, envOf_nil, Nat.reduceAdd]
  refine awp_seq ?_
  refine awp_region (by kernel_rfl) ?_
  (refine aL_S rfl rfl v_ ?_)
  refine aL_nil ?_
  refine awp_seq ?_
  refine awp_seq ?_
  refine awp_region (by kernel_rfl) ?_
  iterate 5 (refine aL_S rfl rfl v_ ?_)
  refine aL_nil ?_
  refine awp_cond v_ (fun hc1 => ?_) (fun hc1 => ?_)
  · replace hc1 := nm_ hc1
    refine awp_seq ?_
    refine awp_region (by kernel_rfl) ?_
    (refine aL_S rfl rfl v_ ?_)
    refine aL_nil ?_
    refine awp_ret ?_
    refine aEnd_ret (σ' := σ) v_ sub_ ?_
    exact ⟨by rw [decide_eq_false]; intro h; rw [h] at hc1; omega, rfl⟩
  · replace hc1 := nm_ hc1
    refine awp_skip ?_
    refine awp_seq ?_
    refine awp_seq ?_
    refine awp_region (by kernel_rfl) ?_
    (refine aL_S rfl rfl v_ ?_)
    refine aL_nil ?_
    refine awp_block ?_
    refine awp_loop_env (ι := Nat) (fun k => a.length - k) (fun k => k ≤ a.length ∧ a.take k = b.take k) (fun k => [(0, .sl 1 (a.map vInt) ta), (1, .sl 1 (b.map vInt) tb), (5, vInt k)]) (fun k => σ) 0 ?_ ?_ ?_ ?_
    · exact ⟨Nat.zero_le _, rfl⟩
    · exact cv_
    · exact sub_
    rintro k ⟨hk, he⟩
    simp only [envL_cons, envL_nil]
    refine awp_seq ?_
    refine awp_seq ?_
    refine awp_region (by kernel_rfl) ?_
    iterate 5 (refine aL_S rfl rfl v_ ?_)
    refine aL_GT rfl rfl v_ rfl vg_ ?_
    refine aL_GT rfl rfl v_ rfl vg_ ?_
    refine aL_GT rfl rfl v_ rfl vg_ ?_
    refine aL_GT rfl rfl v_ rfl vg_ ?_
    (refine aL_S rfl rfl v_ ?_)
    refine aL_nil ?_
    refine awp_cond v_ (fun hc4 => ?_) (fun hc4 => ?_)
    · replace hc4 := nm_ hc4
      refine awp_skip ?_
      refine awp_seq ?_
      refine awp_block ?_
      refine awp_seq ?_
      obtain ⟨x, hx⟩ := get_some (l := a) (k := k) (by omega)
      obtain ⟨y, hy⟩ := get_some (l := b) (k := k) (by omega)
      have R := And.intro hx hy
      refine awp_draw (.op 0 0 (.op 1 0 (.op 2 0 (.op 3 0 (.op 4 0 (.op 5 0 (.op 6 0 (.op 7 0 (.op 8 0 .nil))))))))) Tryz.mixed (by kernel_rfl) ?_
      iterate 9 (refine dR_S o_ (by rfl) (by rfl) v_ ?_)
      refine dR_nil ?_
      refine awp_cond v_ (fun hc6 => ?_) (fun hc6 => ?_)
      · replace hc6 := nm_ hc6
        refine awp_seq ?_
        refine awp_region (by kernel_rfl) ?_
        (refine aL_S rfl rfl v_ ?_)
        refine aL_nil ?_
        refine awp_ret ?_
        refine aEnd_ret (σ' := σ) v_ sub_ ?_
        exact ⟨by rw [decide_eq_false]; intro h; rw [h, hy] at hx; exact hc6 (Option.some.inj hx).symm, rfl⟩
      · replace hc6 := nm_ hc6
        refine awp_skip ?_
        refine awp_region (by kernel_rfl) ?_
        iterate 3 (refine aL_S rfl rfl v_ ?_)
        refine aL_nil ?_
        refine aNext (ι := Nat) (i := k) (k + 1) ?_ ?_ ?_ ?_
        · omega
        · exact ⟨by omega, by rw [take_snoc hx, take_snoc hy, he, hc6]⟩
        · exact cv_
        · exact sub_
    · replace hc4 := nm_ hc4
      refine awp_exit ?_
      refine aThen_exit ?_
      refine aThen_exit ?_
      refine aBlock_hit ?_
      refine awp_seq ?_
      refine awp_region (by kernel_rfl) ?_
      (refine aL_S rfl rfl v_ ?_)
      refine aL_nil ?_
      refine awp_ret ?_
      refine aEnd_ret (σ' := σ) v_ sub_ ?_
      exact ⟨by rw [decide_eq_true]; rwa [List.take_of_length_le (by omega), List.take_of_length_le (by omega)] at he, rfl⟩
theorem rMay07_c {o : Obj'} {σ : Store} (ho : ObjSm o) : ACalls Tryz.prog 85 [sObj o] σ fun v σ' => v = vB (objOk o) ∧ σ = σ' := by
  have hnc := ho.nc; have hns := ho.ns
  refine ACalls_of Tryz.func85 rfl Tryz.ntmps85 (congrArg Array.toList Tryz.results85) (by simp only [List.length_cons, List.length_nil]; decide) ?_; simp only [envOf_cons, envOf_nil, Nat.reduceAdd]
  refine awp_seq ?_
  refine awp_region (by kernel_rfl) ?_
  refine aL_box rfl rfl rfl v_ rfl g_ fun o1 ho1 => ?_
  repeat (rw [none_set_iff] at ho1; obtain ⟨_, ho1⟩ := ho1)
  (refine aL_S rfl rfl v_ ?_)
  refine aL_nil ?_
  refine awp_seq ?_
  refine awp_seq ?_
  refine awp_region (by kernel_rfl) ?_
  iterate 2 (refine aL_S rfl rfl v_ ?_)
  refine aL_X rfl rfl (AOp_use rfl rfl (.inr ⟨rfl, rfl, rfl⟩) g_ va_ (rMay06_c ho.ctx (by omega)) ?_); rintro _ _ ⟨rfl, rfl⟩
  (refine aL_S rfl rfl v_ ?_)
  refine aL_nil ?_
  refine awp_cond v_ (fun hc1 => ?_) (fun hc1 => ?_)
  · replace hc1 := nm_ hc1
    skip
    have hf : objOk o = false := by simp [objOk, hc1]
    refine awp_seq ?_
    refine awp_region (by kernel_rfl) ?_
    (refine aL_S rfl rfl v_ ?_)
    refine aL_nil ?_
    refine awp_ret ?_
    refine aEnd_ret (σ' := σ) v_ sub_ ?_
    exact ⟨by rw [hf], rfl⟩
  · replace hc1 := nm_ hc1
    have hob : objOk o = sibsGo o.ctx none o.sibs := by simp [objOk, hc1]
    refine awp_skip ?_
    refine awp_seq ?_
    refine awp_seq ?_
    refine awp_region (by kernel_rfl) ?_
    (refine aL_S rfl rfl v_ ?_)
    refine aL_nil ?_
    refine awp_block ?_
    refine awp_loop_env (ι := Nat) (fun k => o.sibs.length - k) (fun k => k ≤ o.sibs.length ∧ sibsGo o.ctx (pvSib o.sibs k) (o.sibs.drop k) = sibsGo o.ctx none o.sibs) (fun k => [(1, .ref o1 0), (3, vInt k)]) (fun k => (σ.set o1 (.cells (sObj o).cells))) 0 ?_ ?_ ?_ ?_
    · exact ⟨Nat.zero_le _, rfl⟩
    · exact cv_
    · exact Store.Wk.refl _
    rintro k ⟨hk, hr⟩
    simp only [envL_cons, envL_nil]
    refine awp_seq ?_
    refine awp_seq ?_
    refine awp_region (by kernel_rfl) ?_
    iterate 5 (refine aL_S rfl rfl v_ ?_)
    refine aL_nil ?_
    refine awp_cond v_ (fun hc4 => ?_) (fun hc4 => ?_)
    · replace hc4 := nm_ hc4
      refine awp_skip ?_
      refine awp_seq ?_
      refine awp_block ?_
      refine awp_seq ?_
      obtain ⟨x, hxk⟩ := get_some (l := o.sibs) (k := k) (by omega)
      have hsx := ho.sibs x (List.mem_of_getElem? hxk)
      obtain ⟨y, hy, hah⟩ := pvSib_prev o.sibs k (by omega)
      have hst : sibsGo o.ctx (pvSib o.sibs k) (o.sibs.drop k) = (sibOk x && hasS o.ctx x.node x.n && aheadD (pvSib o.sibs k) x && sibsGo o.ctx (some x) (o.sibs.drop (k + 1))) := by rw [drop_cons hxk]; rfl
      have R := hxk
      refine awp_region (by kernel_rfl) ?_
      iterate 5 (refine aL_S rfl rfl v_ ?_)
      refine aL_alloc rfl rfl rfl g_ gl_ fun o4 ho4 => ?_
      repeat (rw [none_set_iff] at ho4; obtain ⟨_, ho4⟩ := ho4)
      refine aL_store rfl rfl rfl v_ v_ h_ g_ rfl g_ c_ (by rfl) le_ v_ ?_
      refine aL_nil ?_
      refine awp_seq ?_
      have R := hy
      refine awp_draw (.op 0 0 (.op 1 1 (.op 2 0 (.op 3 0 (.op 4 0 (.op 5 0 (.op 6 0 (.op 7 0 (.op 8 1 (.op 9 0 (.op 10 0 (.op 11 0 (.op 12 0 (.op 13 0 (.op 14 0 (.op 15 0 (.op 16 0 (.op 17 0 (.op 18 0 (.op 19 0 (.op 20 0 (.op 21 0 (.op 22 0 (.op 23 0 (.op 24 1 (.op 25 0 (.op 26 0 (.op 27 0 .nil)))))))))))))))))))))))))))) Tryz.mixed (by kernel_rfl) ?_
      (refine dR_S o_ (by rfl) (by rfl) v_ ?_)
      refine dR_X o_ (by rfl) (by rfl) (AOp_use (by rfl) (by rfl) (.inr ⟨by rfl, by rfl, by rfl⟩) g_ va_ (rIsSib_c hsx) ?_); rintro _ _ ⟨rfl, rfl⟩; refine ⟨sub_, ?_⟩
      iterate 2 (refine dR_S o_ (by rfl) (by rfl) v_ ?_)
      refine dR_GF o_ (by rfl) (by rfl) v_ (by rfl) vg_ ?_
      refine dR_GF o_ (by rfl) (by rfl) v_ (by rfl) vg_ ?_
      refine dR_GF o_ (by rfl) (by rfl) v_ (by rfl) vg_ ?_
      refine dR_GF o_ (by rfl) (by rfl) v_ (by rfl) vg_ ?_
      refine dR_GFX o_ (by rfl) (by rfl) v_ (by rfl) sub_ (fun hb => AOp_useV (by rfl) (by rfl) (.inr ⟨by rfl, by rfl, by rfl⟩) g_ cg_ (rHas_c ho.ctx (by omega))) ?_
      refine dR_GF o_ (by rfl) (by rfl) v_ (by rfl) vg_ ?_
      iterate 2 (refine dR_S o_ (by rfl) (by rfl) v_ ?_)
      refine dR_GF o_ (by rfl) (by rfl) v_ (by rfl) vg_ ?_
      refine dR_GF o_ (by rfl) (by rfl) v_ (by rfl) vg_ ?_
      refine dR_GF o_ (by rfl) (by rfl) v_ (by rfl) vg_ ?_
      refine dR_GGT o_ (by rfl) (by rfl) v_ (by rfl) vg_ ?_
      refine dR_GGT o_ (by rfl) (by rfl) v_ (by rfl) vg_ ?_
      refine dR_GGT o_ (by rfl) (by rfl) v_ (by rfl) vg_ ?_
      refine dR_GGT o_ (by rfl) (by rfl) v_ (by rfl) vg_ ?_
      refine dR_GGT o_ (by rfl) (by rfl) v_ (by rfl) vg_ ?_
      refine dR_GGT o_ (by rfl) (by rfl) v_ (by rfl) vg_ ?_
      refine dR_GGT o_ (by rfl) (by rfl) v_ (by rfl) vg_ ?_
      refine dR_GGT o_ (by rfl) (by rfl) v_ (by rfl) vg_ ?_
      refine dR_GGT o_ (by rfl) (by rfl) v_ (by rfl) vg_ ?_
      refine dR_GGTX o_ (by rfl) (by rfl) v_ (by rfl) sub_ (fun hb => AOp_useV (by rfl) (by rfl) (.inr ⟨by rfl, by rfl, by rfl⟩) g_ cg_ (rLess_c)) ?_
      refine dR_GGT o_ (by rfl) (by rfl) v_ (by rfl) vg_ ?_
      refine dR_GF o_ (by rfl) (by rfl) v_ (by rfl) vg_ ?_
      (refine dR_S o_ (by rfl) (by rfl) v_ ?_)
      refine dR_nil ?_
      refine awp_cond v_ (fun hc7 => ?_) (fun hc7 => ?_)
      · replace hc7 := nm_ hc7
        refine awp_seq ?_
        refine awp_region (by kernel_rfl) ?_
        (refine aL_S rfl rfl v_ ?_)
        refine aL_nil ?_
        refine awp_ret ?_
        refine aEnd_ret (σ' := σ) v_ sub_ ?_
        refine ⟨?_, rfl⟩
        rw [hob, ← hr, hst, sibs_no (hah _) hc7]
      · replace hc7 := nm_ hc7
        have hnx : sibsGo o.ctx (pvSib o.sibs (k + 1)) (o.sibs.drop (k + 1)) = sibsGo o.ctx none o.sibs := by rw [pvSib_next hxk, ← hr, hst, sibs_yes (hah _) hc7]
        refine awp_skip ?_
        refine awp_region (by kernel_rfl) ?_
        iterate 3 (refine aL_S rfl rfl v_ ?_)
        refine aL_nil ?_
        refine aNext (ι := Nat) (i := k) (k + 1) ?_ ?_ ?_ ?_
        · omega
        · exact ⟨by omega, hnx⟩
        · exact cv_
        · exact sub_
    · replace hc4 := nm_ hc4
      refine awp_exit ?_
      refine aThen_exit ?_
      refine aThen_exit ?_
      refine aBlock_hit ?_
      refine awp_seq ?_
      refine awp_region (by kernel_rfl) ?_
      (refine aL_S rfl rfl v_ ?_)
      refine aL_nil ?_
      refine awp_ret ?_
      refine aEnd_ret (σ' := σ) v_ sub_ ?_
      refine ⟨?_, rfl⟩
      rw [hob, ← hr, List.drop_eq_nil_of_le (by omega)]; rfl
theorem sameSibs_c {a b : List Sib} {ta tb : Bool} {σ : Store} (hla : a.length ≤ 1000000) (hlb : b.length ≤ 1000000) : ACalls Tryz.prog 20 [.sl 5 (a.map sSib) ta, .sl 5 (b.map sSib) tb] σ fun v σ' => (∃ r, v = vB r ∧ (r = true ↔ a = b)) ∧ σ = σ' := by
  refine ACalls_of Tryz.func20 rfl Tryz.ntmps20 (congrArg Array.toList Tryz.results20) (by simp only [List.length_cons, List.length_nil]; decide) ?_; simp only [envOf_cons, envOf_nil, Nat.reduceAdd]
  refine awp_seq ?_
  refine awp_region (by kernel_rfl) ?_
  (refine aL_S rfl rfl v_ ?_)
  refine aL_nil ?_
  refine awp_seq ?_
  refine awp_seq ?_
  refine awp_region (by kernel_rfl) ?_
  iterate 5 (refine aL_S rfl rfl v_ ?_)
  refine aL_nil ?_
  refine awp_cond v_ (fun hc1 => ?_) (fun hc1 => ?_)
  · replace hc1 := nm_ hc1
    refine awp_seq ?_
    refine awp_region (by kernel_rfl) ?_
    (refine aL_S rfl rfl v_ ?_)
    refine aL_nil ?_
    refine awp_ret ?_
    refine aEnd_ret (σ' := σ) v_ sub_ ?_
    exact ⟨⟨false, rfl, by simp; intro h; rw [h] at hc1; omega⟩, rfl⟩
  · replace hc1 := nm_ hc1
    refine awp_skip ?_
    refine awp_seq ?_
    refine awp_seq ?_
    refine awp_region (by kernel_rfl) ?_
    (refine aL_S rfl rfl v_ ?_)
    refine aL_nil ?_
    refine awp_block ?_
    refine awp_loop_env (ι := Nat) (fun k => a.length - k) (fun k => k ≤ a.length ∧ a.take k = b.take k) (fun k => [(0, .sl 5 (a.map sSib) ta), (1, .sl 5 (b.map sSib) tb), (5, vInt k)]) (fun k => σ) 0 ?_ ?_ ?_ ?_
    · exact ⟨Nat.zero_le _, rfl⟩
    · exact cv_
    · exact sub_
    rintro k ⟨hk, he⟩
    simp only [envL_cons, envL_nil]
    refine awp_seq ?_
    refine awp_seq ?_
    refine awp_region (by kernel_rfl) ?_
    iterate 5 (refine aL_S rfl rfl v_ ?_)
    refine aL_GT rfl rfl v_ rfl vg_ ?_
    refine aL_GT rfl rfl v_ rfl vg_ ?_
    refine aL_GT rfl rfl v_ rfl vg_ ?_
    refine aL_GT rfl rfl v_ rfl vg_ ?_
    (refine aL_S rfl rfl v_ ?_)
    refine aL_nil ?_
    refine awp_cond v_ (fun hc4 => ?_) (fun hc4 => ?_)
    · replace hc4 := nm_ hc4
      refine awp_skip ?_
      refine awp_seq ?_
      refine awp_block ?_
      refine awp_seq ?_
      obtain ⟨x, hx⟩ := get_some (l := a) (k := k) (by omega)
      obtain ⟨y, hy⟩ := get_some (l := b) (k := k) (by omega)
      have R := And.intro hx hy
      refine awp_draw (.op 0 0 (.op 1 0 (.op 2 0 (.op 3 0 (.op 4 0 (.op 5 0 (.op 6 0 (.op 7 0 (.op 8 0 .nil))))))))) Tryz.mixed (by kernel_rfl) ?_
      iterate 9 (refine dR_S o_ (by rfl) (by rfl) v_ ?_)
      refine dR_nil ?_
      refine awp_cond v_ (fun hc6 => ?_) (fun hc6 => ?_)
      · replace hc6 := nm_ hc6
        refine awp_seq ?_
        refine awp_region (by kernel_rfl) ?_
        (refine aL_S rfl rfl v_ ?_)
        refine aL_nil ?_
        refine awp_ret ?_
        refine aEnd_ret (σ' := σ) v_ sub_ ?_
        exact ⟨⟨false, rfl, by simp; intro h; rw [h, hy] at hx; obtain rfl := Option.some.inj hx; simp at hc6⟩, rfl⟩
      · replace hc6 := nm_ hc6
        have hxy : x = y := by cases x; cases y; simp at hc6 ⊢; exact ⟨hc6.1.1, hc6.1.2, hc6.2.1, hc6.2.2.1, hc6.2.2.2⟩
        refine awp_skip ?_
        refine awp_region (by kernel_rfl) ?_
        iterate 3 (refine aL_S rfl rfl v_ ?_)
        refine aL_nil ?_
        refine aNext (ι := Nat) (i := k) (k + 1) ?_ ?_ ?_ ?_
        · omega
        · exact ⟨by omega, by rw [take_snoc hx, take_snoc hy, he, hxy]⟩
        · exact cv_
        · exact sub_
    · replace hc4 := nm_ hc4
      refine awp_exit ?_
      refine aThen_exit ?_
      refine aThen_exit ?_
      refine aBlock_hit ?_
      refine awp_seq ?_
      refine awp_region (by kernel_rfl) ?_
      (refine aL_S rfl rfl v_ ?_)
      refine aL_nil ?_
      refine awp_ret ?_
      refine aEnd_ret (σ' := σ) v_ sub_ ?_
      exact ⟨⟨true, rfl, by simp; rwa [List.take_of_length_le (by omega), List.take_of_length_le (by omega)] at he⟩, rfl⟩
theorem same06_c {a b : List Seen} {ta tb : Bool} {σ : Store} (hA : ∀ x ∈ a, SeenSm x) (hB : ∀ x ∈ b, SeenSm x) (hla : a.length ≤ 1000000) (hlb : b.length ≤ 1000000) : ACalls Tryz.prog 64 [.sl 3 (a.map sSeen) ta, .sl 3 (b.map sSeen) tb] σ fun v σ' => (∃ r, v = vB r ∧ (r = true ↔ a = b)) ∧ σ = σ' := by
  refine ACalls_of Tryz.func64 rfl Tryz.ntmps64 (congrArg Array.toList Tryz.results64) (by simp only [List.length_cons, List.length_nil]; decide) ?_; simp only [envOf_cons, envOf_nil, Nat.reduceAdd]
  refine awp_seq ?_
  refine awp_region (by kernel_rfl) ?_
  (refine aL_S rfl rfl v_ ?_)
  refine aL_nil ?_
  refine awp_seq ?_
  refine awp_seq ?_
  refine awp_region (by kernel_rfl) ?_
  iterate 5 (refine aL_S rfl rfl v_ ?_)
  refine aL_nil ?_
  refine awp_cond v_ (fun hc1 => ?_) (fun hc1 => ?_)
  · replace hc1 := nm_ hc1
    refine awp_seq ?_
    refine awp_region (by kernel_rfl) ?_
    (refine aL_S rfl rfl v_ ?_)
    refine aL_nil ?_
    refine awp_ret ?_
    refine aEnd_ret (σ' := σ) v_ sub_ ?_
    exact ⟨⟨false, rfl, by simp; intro h; rw [h] at hc1; omega⟩, rfl⟩
  · replace hc1 := nm_ hc1
    refine awp_skip ?_
    refine awp_seq ?_
    refine awp_seq ?_
    refine awp_region (by kernel_rfl) ?_
    (refine aL_S rfl rfl v_ ?_)
    refine aL_nil ?_
    refine awp_block ?_
    refine awp_loop_env (ι := Nat) (fun k => a.length - k) (fun k => k ≤ a.length ∧ a.take k = b.take k) (fun k => [(0, .sl 3 (a.map sSeen) ta), (1, .sl 3 (b.map sSeen) tb), (5, vInt k)]) (fun k => σ) 0 ?_ ?_ ?_ ?_
    · exact ⟨Nat.zero_le _, rfl⟩
    · exact cv_
    · exact sub_
    rintro k ⟨hk, he⟩
    simp only [envL_cons, envL_nil]
    refine awp_seq ?_
    refine awp_seq ?_
    refine awp_region (by kernel_rfl) ?_
    iterate 5 (refine aL_S rfl rfl v_ ?_)
    refine aL_GT rfl rfl v_ rfl vg_ ?_
    refine aL_GT rfl rfl v_ rfl vg_ ?_
    refine aL_GT rfl rfl v_ rfl vg_ ?_
    refine aL_GT rfl rfl v_ rfl vg_ ?_
    (refine aL_S rfl rfl v_ ?_)
    refine aL_nil ?_
    refine awp_cond v_ (fun hc4 => ?_) (fun hc4 => ?_)
    · replace hc4 := nm_ hc4
      refine awp_skip ?_
      refine awp_seq ?_
      refine awp_block ?_
      refine awp_seq ?_
      obtain ⟨x, hx⟩ := get_some (l := a) (k := k) (by omega)
      obtain ⟨y, hy⟩ := get_some (l := b) (k := k) (by omega)
      have hsx := (hA x (List.mem_of_getElem? hx)).more
      have hsy := (hB y (List.mem_of_getElem? hy)).more
      have R := And.intro hx hy
      refine awp_draw (.op 0 0 (.op 1 0 (.op 2 0 (.op 3 0 (.op 4 0 (.op 5 0 (.op 6 0 (.op 7 0 (.op 8 0 (.op 9 0 (.op 10 0 (.op 11 0 (.op 12 0 (.op 13 0 (.op 14 0 (.op 15 0 (.op 16 0 (.op 17 0 (.op 18 0 (.op 19 0 (.op 20 0 (.op 21 0 (.op 22 0 (.op 23 0 (.op 24 0 (.op 25 0 (.op 26 0 (.op 27 0 (.op 28 0 (.op 29 0 (.op 30 0 (.op 31 0 (.op 32 0 (.op 33 0 (.op 34 0 (.op 35 1 (.op 36 0 (.op 37 0 .nil)))))))))))))))))))))))))))))))))))))) Tryz.mixed (by kernel_rfl) ?_
      iterate 12 (refine dR_S o_ (by rfl) (by rfl) v_ ?_)
      refine dR_GF o_ (by rfl) (by rfl) v_ (by rfl) vg_ ?_
      refine dR_GF o_ (by rfl) (by rfl) v_ (by rfl) vg_ ?_
      refine dR_GF o_ (by rfl) (by rfl) v_ (by rfl) vg_ ?_
      refine dR_GF o_ (by rfl) (by rfl) v_ (by rfl) vg_ ?_
      refine dR_GF o_ (by rfl) (by rfl) v_ (by rfl) vg_ ?_
      refine dR_GF o_ (by rfl) (by rfl) v_ (by rfl) vg_ ?_
      refine dR_GF o_ (by rfl) (by rfl) v_ (by rfl) vg_ ?_
      refine dR_GF o_ (by rfl) (by rfl) v_ (by rfl) vg_ ?_
      refine dR_GF o_ (by rfl) (by rfl) v_ (by rfl) vg_ ?_
      refine dR_GF o_ (by rfl) (by rfl) v_ (by rfl) vg_ ?_
      refine dR_GF o_ (by rfl) (by rfl) v_ (by rfl) vg_ ?_
      iterate 2 (refine dR_S o_ (by rfl) (by rfl) v_ ?_)
      refine dR_GF o_ (by rfl) (by rfl) v_ (by rfl) vg_ ?_
      refine dR_GF o_ (by rfl) (by rfl) v_ (by rfl) vg_ ?_
      refine dR_GF o_ (by rfl) (by rfl) v_ (by rfl) vg_ ?_
      refine dR_GF o_ (by rfl) (by rfl) v_ (by rfl) vg_ ?_
      refine dR_GF o_ (by rfl) (by rfl) v_ (by rfl) vg_ ?_
      refine dR_GF o_ (by rfl) (by rfl) v_ (by rfl) vg_ ?_
      refine dR_GF o_ (by rfl) (by rfl) v_ (by rfl) vg_ ?_
      refine dR_GF o_ (by rfl) (by rfl) v_ (by rfl) vg_ ?_
      refine dR_GF o_ (by rfl) (by rfl) v_ (by rfl) vg_ ?_
      refine dR_GF o_ (by rfl) (by rfl) v_ (by rfl) vg_ ?_
      refine dR_GFX o_ (by rfl) (by rfl) v_ (by rfl) sub_ (fun hb => AOp_useV (by rfl) (by rfl) (.inr ⟨by rfl, by rfl, by rfl⟩) g_ cg_ (sameInts_c hsx hsy)) ?_
      refine dR_GF o_ (by rfl) (by rfl) v_ (by rfl) vg_ ?_
      (refine dR_S o_ (by rfl) (by rfl) v_ ?_)
      refine dR_nil ?_
      refine awp_cond v_ (fun hc6 => ?_) (fun hc6 => ?_)
      · replace hc6 := nm_ hc6
        refine awp_seq ?_
        refine awp_region (by kernel_rfl) ?_
        (refine aL_S rfl rfl v_ ?_)
        refine aL_nil ?_
        refine awp_ret ?_
        refine aEnd_ret (σ' := σ) v_ sub_ ?_
        exact ⟨⟨false, rfl, by simp; intro h; rw [h, hy] at hx; obtain rfl := Option.some.inj hx; simp at hc6⟩, rfl⟩
      · replace hc6 := nm_ hc6
        have hxy : x = y := by cases x; cases y; simp at hc6 ⊢; exact ⟨hc6.1.1, hc6.1.2, hc6.2⟩
        refine awp_skip ?_
        refine awp_region (by kernel_rfl) ?_
        iterate 3 (refine aL_S rfl rfl v_ ?_)
        refine aL_nil ?_
        refine aNext (ι := Nat) (i := k) (k + 1) ?_ ?_ ?_ ?_
        · omega
        · exact ⟨by omega, by rw [take_snoc hx, take_snoc hy, he, hxy]⟩
        · exact cv_
        · exact sub_
    · replace hc4 := nm_ hc4
      refine awp_exit ?_
      refine aThen_exit ?_
      refine aThen_exit ?_
      refine aBlock_hit ?_
      refine awp_seq ?_
      refine awp_region (by kernel_rfl) ?_
      (refine aL_S rfl rfl v_ ?_)
      refine aL_nil ?_
      refine awp_ret ?_
      refine aEnd_ret (σ' := σ) v_ sub_ ?_
      exact ⟨⟨true, rfl, by simp; rwa [List.take_of_length_le (by omega), List.take_of_length_le (by omega)] at he⟩, rfl⟩
theorem obj_eq {a b : Obj'} : a = b ↔ a.ctx = b.ctx ∧ a.sibs = b.sibs := by cases a; cases b; simp
def sibsEq : List Sib → List Sib → Bool
  | [], [] => true
  | x :: a, y :: b => decide (x.node = y.node) && decide (x.n = y.n) && decide (x.value = y.value) && decide (x.gone = y.gone) && decide (x.time = y.time) && sibsEq a b
  | _, _ => false
theorem sibsEq_iff : ∀ {a b : List Sib}, sibsEq a b = true ↔ a = b
  | [], [] => by simp [sibsEq]
  | [], _ :: _ => by simp [sibsEq]
  | _ :: _, [] => by simp [sibsEq]
  | x :: a, y :: b => by
    cases x; cases y
    simp [sibsEq, sibsEq_iff (a := a) (b := b), and_assoc]
theorem sameSibs_f {a b : List Sib} {ta tb : Bool} {σ : Store} (hla : a.length ≤ 1000000) (hlb : b.length ≤ 1000000) : ACalls Tryz.prog 20 [.sl 5 (a.map sSib) ta, .sl 5 (b.map sSib) tb] σ fun v σ' => v = vB (sibsEq a b) ∧ σ = σ' :=
  (sameSibs_c hla hlb).wkS fun v σ' ⟨⟨r, hv, hr⟩, hs⟩ => ⟨v, σ', .refl _, .refl _, by rw [hv, show r = sibsEq a b from by rw [Bool.eq_iff_iff, hr, sibsEq_iff]], hs⟩
theorem same07_c {a b : Obj'} {σ : Store} (hA : ObjSm a) (hB : ObjSm b) : ACalls Tryz.prog 18 [sObj a, sObj b] σ fun v σ' => (∃ r, v = vB r ∧ (r = true ↔ a = b)) ∧ σ = σ' := by
  have n1 := hA.nc; have n2 := hA.ns; have n3 := hB.nc; have n4 := hB.ns
  refine ACalls_of Tryz.func18 rfl Tryz.ntmps18 (congrArg Array.toList Tryz.results18) (by simp only [List.length_cons, List.length_nil]; decide) ?_; simp only [envOf_cons, envOf_nil, Nat.reduceAdd]
  refine awp_seq ?_
  refine awp_region (by kernel_rfl) ?_
  refine aL_box rfl rfl rfl v_ rfl g_ fun o2 ho2 => ?_
  repeat (rw [none_set_iff] at ho2; obtain ⟨_, ho2⟩ := ho2)
  refine aL_box rfl rfl rfl v_ rfl g_ fun o3 ho3 => ?_
  repeat (rw [none_set_iff] at ho3; obtain ⟨_, ho3⟩ := ho3)
  (refine aL_S rfl rfl v_ ?_)
  refine aL_nil ?_
  refine awp_seq ?_
  refine awp_region (by kernel_rfl) ?_
  iterate 4 (refine aL_S rfl rfl v_ ?_)
  refine aL_X rfl rfl (AOp_use rfl rfl (.inr ⟨rfl, rfl, rfl⟩) g_ va_ (same06_c hA.ctx hB.ctx (by omega) (by omega)) ?_); rintro _ _ ⟨⟨r, rfl, h1⟩, rfl⟩
  (refine aL_S rfl rfl v_ ?_)
  refine aL_GT rfl rfl v_ rfl vg_ ?_
  refine aL_GT rfl rfl v_ rfl vg_ ?_
  refine aL_GT rfl rfl v_ rfl vg_ ?_
  refine aL_GT rfl rfl v_ rfl vg_ ?_
  refine aL_GTX rfl rfl v_ rfl (fun hb => AOp_useV (by rfl) (by rfl) (.inr ⟨by rfl, by rfl, by rfl⟩) g_ cg_ (sameSibs_f (by omega) (by omega))) ?_
  iterate 2 (refine aL_S rfl rfl v_ ?_)
  refine aL_nil ?_
  refine awp_ret ?_
  refine aEnd_ret (σ' := σ) v_ sub_ ?_
  refine ⟨⟨_, rfl, ?_⟩, rfl⟩
  rw [Bool.and_eq_true, h1, sibsEq_iff, obj_eq]
/-- few parts, of few bytes -/
def FewC (c : List Seen) : Prop := c.length ≤ 12 ∧ ∀ x ∈ c, x.node.size ≤ 100 ∧ x.more.length ≤ 40
def FewO (o : Obj') : Prop := FewC o.ctx ∧ o.sibs.length ≤ 12 ∧ ∀ x ∈ o.sibs, x.value.size ≤ 300 ∧ x.node.size ≤ 100
theorem few06_c {c : List Seen} {t : Bool} {σ : Store} : ACalls Tryz.prog 74 [.sl 3 (c.map sSeen) t] σ fun v σ' => (∃ r, v = vB r ∧ (r = true ↔ FewC c)) ∧ σ = σ' := by
  refine ACalls_of Tryz.func74 rfl Tryz.ntmps74 (congrArg Array.toList Tryz.results74) (by simp only [List.length_cons, List.length_nil]; decide) ?_; simp only [envOf_cons, envOf_nil, Nat.reduceAdd]
  refine awp_seq ?_
  refine awp_region (by kernel_rfl) ?_
  (refine aL_S rfl rfl v_ ?_)
  refine aL_nil ?_
  refine awp_seq ?_
  refine awp_seq ?_
  refine awp_region (by kernel_rfl) ?_
  (refine aL_S rfl rfl v_ ?_)
  refine aL_nil ?_
  refine awp_block ?_
  refine awp_loop_env (ι := Nat) (fun k => c.length - k) (fun k => k ≤ c.length ∧ k ≤ 12 ∧ ∀ j x, j < k → c[j]? = some x → x.node.size ≤ 100 ∧ x.more.length ≤ 40) (fun k => [(0, .sl 3 (c.map sSeen) t), (3, vInt k)]) (fun k => σ) 0 ?_ ?_ ?_ ?_
  · exact ⟨Nat.zero_le _, by decide, fun j x h => by omega⟩
  · exact cv_
  · exact sub_
  rintro k ⟨hk, hk2, ha⟩
  simp only [envL_cons, envL_nil]
  refine awp_seq ?_
  refine awp_seq ?_
  refine awp_region (by kernel_rfl) ?_
  iterate 5 (refine aL_S rfl rfl v_ ?_)
  refine aL_GT rfl rfl v_ rfl vg_ ?_
  refine aL_GT rfl rfl v_ rfl vg_ ?_
  (refine aL_S rfl rfl v_ ?_)
  refine aL_nil ?_
  refine awp_cond v_ (fun hc2 => ?_) (fun hc2 => ?_)
  · replace hc2 := nm_ hc2
    refine awp_skip ?_
    refine awp_seq ?_
    refine awp_block ?_
    refine awp_seq ?_
    obtain ⟨x, hx⟩ := get_some (l := c) (k := k) (by omega)
    have R := hx
    refine awp_region (by kernel_rfl) ?_
    iterate 8 (refine aL_S rfl rfl v_ ?_)
    refine aL_GF rfl rfl v_ rfl vg_ ?_
    refine aL_GF rfl rfl v_ rfl vg_ ?_
    refine aL_GF rfl rfl v_ rfl vg_ ?_
    refine aL_GF rfl rfl v_ rfl vg_ ?_
    refine aL_GF rfl rfl v_ rfl vg_ ?_
    refine aL_GF rfl rfl v_ rfl vg_ ?_
    refine aL_GF rfl rfl v_ rfl vg_ ?_
    (refine aL_S rfl rfl v_ ?_)
    refine aL_nil ?_
    refine awp_cond v_ (fun hc4 => ?_) (fun hc4 => ?_)
    · replace hc4 := nm_ hc4
      refine awp_seq ?_
      refine awp_region (by kernel_rfl) ?_
      (refine aL_S rfl rfl v_ ?_)
      refine aL_nil ?_
      refine awp_ret ?_
      refine aEnd_ret (σ' := σ) v_ sub_ ?_
      exact ⟨⟨false, rfl, (fun h => by cases h), fun h => by have := h.2 x (List.mem_of_getElem? hx); omega⟩, rfl⟩
    · replace hc4 := nm_ hc4
      refine awp_skip ?_
      refine awp_region (by kernel_rfl) ?_
      iterate 3 (refine aL_S rfl rfl v_ ?_)
      refine aL_nil ?_
      refine aNext (ι := Nat) (i := k) (k + 1) ?_ ?_ ?_ ?_
      · omega
      · exact ⟨by omega, by omega, fun j y hj hy => by rcases Nat.lt_or_eq_of_le (Nat.le_of_lt_succ hj) with h | h; exact ha j y h hy; rw [h, hx] at hy; obtain rfl := Option.some.inj hy; omega⟩
      · exact cv_
      · exact sub_
  · replace hc2 := nm_ hc2
    refine awp_exit ?_
    refine aThen_exit ?_
    refine aThen_exit ?_
    refine aBlock_hit ?_
    refine awp_seq ?_
    refine awp_region (by kernel_rfl) ?_
    iterate 4 (refine aL_S rfl rfl v_ ?_)
    refine aL_nil ?_
    refine awp_ret ?_
    refine aEnd_ret (σ' := σ) v_ sub_ ?_
    exact ⟨⟨_, rfl, (fun h => by
    have h12 : c.length ≤ 12 := by rw [decide_eq_true_eq] at h; omega
    exact ⟨h12, fun x hx => by
      obtain ⟨j, hj⟩ := List.mem_iff_getElem?.1 hx
      have := (List.getElem?_eq_some_iff.1 hj).1
      exact ha j x (by omega) hj⟩), fun h => by have := h.1; rw [decide_eq_true_eq]; omega⟩, rfl⟩
theorem few07_c {o : Obj'} {σ : Store} : ACalls Tryz.prog 28 [sObj o] σ fun v σ' => (∃ r, v = vB r ∧ (r = true ↔ FewO o)) ∧ σ = σ' := by
  refine ACalls_of Tryz.func28 rfl Tryz.ntmps28 (congrArg Array.toList Tryz.results28) (by simp only [List.length_cons, List.length_nil]; decide) ?_; simp only [envOf_cons, envOf_nil, Nat.reduceAdd]
  refine awp_seq ?_
  refine awp_region (by kernel_rfl) ?_
  refine aL_box rfl rfl rfl v_ rfl g_ fun o1 ho1 => ?_
  repeat (rw [none_set_iff] at ho1; obtain ⟨_, ho1⟩ := ho1)
  (refine aL_S rfl rfl v_ ?_)
  refine aL_nil ?_
  refine awp_seq ?_
  refine awp_seq ?_
  refine awp_region (by kernel_rfl) ?_
  (refine aL_S rfl rfl v_ ?_)
  refine aL_nil ?_
  refine awp_block ?_
  refine awp_loop_env (ι := Nat) (fun k => o.sibs.length - k) (fun k => k ≤ o.sibs.length ∧ k ≤ 12 ∧ ∀ j x, j < k → o.sibs[j]? = some x → x.value.size ≤ 300 ∧ x.node.size ≤ 100) (fun k => [(1, .ref o1 0), (3, vInt k)]) (fun k => (σ.set o1 (.cells (sObj o).cells))) 0 ?_ ?_ ?_ ?_
  · exact ⟨Nat.zero_le _, by decide, fun j x h => by omega⟩
  · exact cv_
  · exact Store.Wk.refl _
  rintro k ⟨hk, hk2, ha⟩
  simp only [envL_cons, envL_nil]
  refine awp_seq ?_
  refine awp_seq ?_
  refine awp_region (by kernel_rfl) ?_
  iterate 6 (refine aL_S rfl rfl v_ ?_)
  refine aL_GT rfl rfl v_ rfl vg_ ?_
  refine aL_GT rfl rfl v_ rfl vg_ ?_
  (refine aL_S rfl rfl v_ ?_)
  refine aL_nil ?_
  refine awp_cond v_ (fun hc2 => ?_) (fun hc2 => ?_)
  · replace hc2 := nm_ hc2
    refine awp_skip ?_
    refine awp_seq ?_
    refine awp_block ?_
    refine awp_seq ?_
    obtain ⟨x, hx⟩ := get_some (l := o.sibs) (k := k) (by omega)
    have R := hx
    refine awp_region (by kernel_rfl) ?_
    iterate 9 (refine aL_S rfl rfl v_ ?_)
    refine aL_GF rfl rfl v_ rfl vg_ ?_
    refine aL_GF rfl rfl v_ rfl vg_ ?_
    refine aL_GF rfl rfl v_ rfl vg_ ?_
    refine aL_GF rfl rfl v_ rfl vg_ ?_
    refine aL_GF rfl rfl v_ rfl vg_ ?_
    refine aL_GF rfl rfl v_ rfl vg_ ?_
    refine aL_GF rfl rfl v_ rfl vg_ ?_
    refine aL_GF rfl rfl v_ rfl vg_ ?_
    refine aL_GF rfl rfl v_ rfl vg_ ?_
    (refine aL_S rfl rfl v_ ?_)
    refine aL_nil ?_
    refine awp_cond v_ (fun hc4 => ?_) (fun hc4 => ?_)
    · replace hc4 := nm_ hc4
      refine awp_seq ?_
      refine awp_region (by kernel_rfl) ?_
      (refine aL_S rfl rfl v_ ?_)
      refine aL_nil ?_
      refine awp_ret ?_
      refine aEnd_ret (σ' := σ) v_ sub_ ?_
      exact ⟨⟨false, rfl, (fun h => by cases h), fun h => by have := h.2.2 x (List.mem_of_getElem? hx); omega⟩, rfl⟩
    · replace hc4 := nm_ hc4
      refine awp_skip ?_
      refine awp_region (by kernel_rfl) ?_
      iterate 3 (refine aL_S rfl rfl v_ ?_)
      refine aL_nil ?_
      refine aNext (ι := Nat) (i := k) (k + 1) ?_ ?_ ?_ ?_
      · omega
      · exact ⟨by omega, by omega, fun j y hj hy => by rcases Nat.lt_or_eq_of_le (Nat.le_of_lt_succ hj) with h | h; exact ha j y h hy; rw [h, hx] at hy; obtain rfl := Option.some.inj hy; omega⟩
      · exact cv_
      · exact sub_
  · replace hc2 := nm_ hc2
    refine awp_exit ?_
    refine aThen_exit ?_
    refine aThen_exit ?_
    refine aBlock_hit ?_
    refine awp_seq ?_
    refine awp_region (by kernel_rfl) ?_
    iterate 2 (refine aL_S rfl rfl v_ ?_)
    refine aL_X rfl rfl (AOp_use rfl rfl (.inr ⟨rfl, rfl, rfl⟩) g_ va_ (few06_c) ?_); rintro _ _ ⟨⟨r, rfl, hr⟩, rfl⟩
    (refine aL_S rfl rfl v_ ?_)
    refine aL_GT rfl rfl v_ rfl vg_ ?_
    refine aL_GT rfl rfl v_ rfl vg_ ?_
    refine aL_GT rfl rfl v_ rfl vg_ ?_
    refine aL_GT rfl rfl v_ rfl vg_ ?_
    iterate 2 (refine aL_S rfl rfl v_ ?_)
    refine aL_nil ?_
    refine awp_ret ?_
    refine aEnd_ret (σ' := σ) v_ sub_ ?_
    refine ⟨⟨_, rfl, (fun h => ?_), fun h => ?_⟩, rfl⟩
    rotate_left
    · rw [Bool.and_eq_true, decide_eq_true_eq]; exact ⟨hr.2 h.1, by have := h.2.1; omega⟩
    rw [Bool.and_eq_true, decide_eq_true_eq] at h
    have h12 : o.sibs.length ≤ 12 := by omega
    refine ⟨hr.1 h.1, h12, fun x hx => ?_⟩
    obtain ⟨j, hj⟩ := List.mem_iff_getElem?.1 hx
    have := (List.getElem?_eq_some_iff.1 hj).1
    exact ha j x (by omega) hj
end Go.Proofs.YtbcgkbdacijoiaaGreat
end

section
set_option linter.all false
set_option maxRecDepth 100000
namespace Go.Proofs.YtbcgkbdacijoiaaGreat
open Go.Ab

def upGo {α : Type} (ok : α → Bool) (key : α → ByteArray) : Option ByteArray → List α → Bool
  | _, [] => true
  | pv, x :: l => ok x && aheadOk pv (key x) && upGo ok key (some (key x)) l
theorem upGo_and {α : Type} {f g : α → Bool} {key : α → ByteArray} : ∀ {pv : Option ByteArray} {l : List α}, upGo (fun x => f x && g x) key pv l = (upGo f key pv l && l.all g)
  | _, [] => rfl
  | pv, x :: l => by
    simp only [upGo, List.all_cons, upGo_and (l := l)]
    cases f x <;> cases g x <;> cases aheadOk pv (key x) <;> simp
def pvK {α : Type} (key : α → ByteArray) (c : List α) (k : Nat) : Option ByteArray := if k = 0 then none else (c[k - 1]?).map key
theorem pvK_next {α : Type} {key : α → ByteArray} {c : List α} {k : Nat} {x : α} (h : c[k]? = some x) : pvK key c (k + 1) = some (key x) := by simp [pvK, h]
theorem pvK_prev {α : Type} (key : α → ByteArray) (c : List α) (k : Nat) (hk : k < c.length) : ∃ y : α, (0 < k → c[((k : Int) - 1).toNat]? = some y) ∧ ∀ s, aheadOk (pvK key c k) s = (decide (k = 0) || sLt (key y) s) := by
  by_cases h0 : k = 0
  · subst h0
    obtain ⟨y, hy⟩ := get_some hk
    exact ⟨y, fun h => by omega, fun s => rfl⟩
  · obtain ⟨y, hy⟩ := get_some (l := c) (k := k - 1) (by omega)
    have e : ((k : Int) - 1).toNat = k - 1 := by omega
    exact ⟨y, fun _ => by rw [e]; exact hy, fun s => by simp [pvK, h0, hy, aheadOk]⟩
theorem up_no {a b r s : Bool} {k : Nat} (hb : b = (decide (k = 0) || s)) (h : a = false ∨ 0 < (k : Int) ∧ s = false) : (a && b && r) = false := by
  rcases h with h | ⟨h, h'⟩
  · rw [h]; rfl
  · rw [hb, h', decide_eq_false (show ¬ k = 0 by omega)]; simp
theorem up_yes {a b r s : Bool} {k : Nat} (hb : b = (decide (k = 0) || s)) (h : a = true ∧ ((k : Int) ≤ 0 ∨ s = true)) : (a && b && r) = r := by
  obtain ⟨h1, h2⟩ := h
  have : b = true := by
    rw [hb]
    rcases h2 with h | h
    · rw [decide_eq_true (show k = 0 by omega)]; rfl
    · rw [h]; simp
  rw [h1, this]; rfl
def itemsOk (l : List Itm) : Bool := upGo (fun x => placeOk x.place && objOk x.obj) Itm.place none l
theorem itemPlace_c {x : Itm} {σ : Store} : ACalls Tryz.prog 148 [sItem x] σ fun v σ' => v = vStr x.place ∧ σ = σ' := by
  refine ACalls_of Tryz.func148 rfl Tryz.ntmps148 (congrArg Array.toList Tryz.results148) (by simp only [List.length_cons, List.length_nil]; decide) ?_; simp only [envOf_cons, envOf_nil, Nat.reduceAdd]
  refine awp_seq ?_
  refine awp_region (by kernel_rfl) ?_
  refine aL_box rfl rfl rfl v_ rfl g_ fun o1 ho1 => ?_
  repeat (rw [none_set_iff] at ho1; obtain ⟨_, ho1⟩ := ho1)
  (refine aL_S rfl rfl v_ ?_)
  refine aL_nil ?_
  refine awp_seq ?_
  refine awp_region (by kernel_rfl) ?_
  iterate 3 (refine aL_S rfl rfl v_ ?_)
  refine aL_nil ?_
  refine awp_ret ?_
  refine aEnd_ret (σ' := σ) v_ sub_ ?_
  exact ⟨rfl, rfl⟩
theorem riseI_c {l : List Itm} {t : Bool} {σ : Store} (hx : ∀ x ∈ l, x.place.size ≤ 1000000) (hn : l.length ≤ 1000000) : ACalls Tryz.prog 147 [.sl 3 (l.map sItem) t, .lit (.func (.func 148) #[] #[])] σ fun v σ' => v = vB (upGo (fun x => placeOk x.place) Itm.place none l) ∧ σ = σ' := by
  refine ACalls_of Tryz.func147 rfl Tryz.ntmps147 (congrArg Array.toList Tryz.results147) (by simp only [List.length_cons, List.length_nil]; decide) ?_; simp only [envOf_cons, envOf_nil, Nat.reduceAdd]
  refine awp_seq ?_
  refine awp_region (by kernel_rfl) ?_
  (refine aL_S rfl rfl v_ ?_)
  refine aL_nil ?_
  refine awp_seq ?_
  refine awp_seq ?_
  refine awp_region (by kernel_rfl) ?_
  iterate 3 (refine aL_S rfl rfl v_ ?_)
  refine aL_nil ?_
  refine awp_block ?_
  refine awp_loop_env (ι := Nat) (fun k => l.length - k) (fun k => k ≤ l.length ∧ upGo (fun x => placeOk x.place) Itm.place (pvK Itm.place l k) (l.drop k) = upGo (fun x => placeOk x.place) Itm.place none l) (fun k => [(0, .sl 3 (l.map sItem) t), (1, .lit (.func (.func 148) #[] #[])), (7, .sl 3 (l.map sItem) t), (8, vInt l.length), (9, vInt k)]) (fun k => σ) 0 ?_ ?_ ?_ ?_
  · exact ⟨Nat.zero_le _, rfl⟩
  · exact cv_
  · exact sub_
  rintro k ⟨hk, hr⟩
  simp only [envL_cons, envL_nil]
  refine awp_seq ?_
  refine awp_region (by kernel_rfl) ?_
  (refine aL_S rfl rfl v_ ?_)
  refine aL_nil ?_
  refine awp_seq ?_
  refine awp_cond v_ (fun hc2 => ?_) (fun hc2 => ?_)
  · replace hc2 := nm_ hc2
    refine awp_skip ?_
    refine awp_seq ?_
    refine awp_block ?_
    refine awp_seq ?_
    obtain ⟨x, hxk⟩ := get_some (l := l) (k := k) (by omega)
    have hsx := hx x (List.mem_of_getElem? hxk)
    obtain ⟨y, hy, hah⟩ := pvK_prev Itm.place l k (by omega)
    have hst : upGo (fun x => placeOk x.place) Itm.place (pvK Itm.place l k) (l.drop k) = (placeOk x.place && aheadOk (pvK Itm.place l k) x.place && upGo (fun x => placeOk x.place) Itm.place (some x.place) (l.drop (k + 1))) := by rw [drop_cons hxk]; rfl
    have R := hxk
    refine awp_region (by kernel_rfl) ?_
    iterate 3 (refine aL_S rfl rfl v_ ?_)
    refine aL_alloc rfl rfl rfl g_ gl_ fun o6 ho6 => ?_
    repeat (rw [none_set_iff] at ho6; obtain ⟨_, ho6⟩ := ho6)
    (refine aL_S rfl rfl v_ ?_)
    refine aL_store rfl rfl rfl v_ v_ h_ g_ rfl g_ c_ (by rfl) le_ v_ ?_
    refine aL_nil ?_
    refine awp_seq ?_
    have R := hy
    refine awp_draw (.op 0 0 (.op 1 0 (.op 2 1 (.op 3 1 (.op 4 0 (.op 5 0 (.op 6 0 (.op 7 0 (.op 8 0 (.op 9 0 (.op 10 0 (.op 11 0 (.op 12 0 (.op 13 0 (.op 14 0 (.op 16 0 (.op 17 0 (.op 15 1 (.op 18 1 (.op 19 0 (.op 20 0 (.op 21 0 .nil)))))))))))))))))))))) Tryz.mixed (by kernel_rfl) ?_
    iterate 2 (refine dR_S o_ (by rfl) (by rfl) v_ ?_)
    refine dR_X o_ (by rfl) (by rfl) (AOp_use (by rfl) (by rfl) (.inr ⟨va_, by rfl, by rfl⟩) g_ va_ (itemPlace_c) ?_); rintro _ _ ⟨rfl, rfl⟩; refine ⟨sub_, ?_⟩
    refine dR_X o_ (by rfl) (by rfl) (AOp_use (by rfl) (by rfl) (.inr ⟨by rfl, by rfl, by rfl⟩) g_ va_ (isPlace_c (by omega)) ?_); rintro _ _ ⟨rfl, rfl⟩; refine ⟨sub_, ?_⟩
    iterate 2 (refine dR_S o_ (by rfl) (by rfl) v_ ?_)
    refine dR_GF o_ (by rfl) (by rfl) v_ (by rfl) vg_ ?_
    refine dR_GF o_ (by rfl) (by rfl) v_ (by rfl) vg_ ?_
    refine dR_GF o_ (by rfl) (by rfl) v_ (by rfl) vg_ ?_
    refine dR_GGT o_ (by rfl) (by rfl) v_ (by rfl) vg_ ?_
    refine dR_GGT o_ (by rfl) (by rfl) v_ (by rfl) vg_ ?_
    refine dR_GGT o_ (by rfl) (by rfl) v_ (by rfl) vg_ ?_
    refine dR_GGT o_ (by rfl) (by rfl) v_ (by rfl) vg_ ?_
    refine dR_GGT o_ (by rfl) (by rfl) v_ (by rfl) vg_ ?_
    refine dR_GGT o_ (by rfl) (by rfl) v_ (by rfl) vg_ ?_
    refine dR_GGT o_ (by rfl) (by rfl) v_ (by rfl) vg_ ?_
    refine dR_GGT o_ (by rfl) (by rfl) v_ (by rfl) vg_ ?_
    refine dR_GGTX o_ (by rfl) (by rfl) v_ (by rfl) sub_ (fun hb => AOp_useV (by rfl) (by rfl) (.inr ⟨vh_, by rfl, by rfl⟩) g_ cg_ (itemPlace_c)) ?_
    refine dR_GGTX o_ (by rfl) (by rfl) v_ (by rfl) sub_ (fun hb => AOp_useV (by rfl) (by rfl) (.inr ⟨vh_, by rfl, by rfl⟩) g_ cg_ (itemPlace_c)) ?_
    refine dR_GGT o_ (by rfl) (by rfl) v_ (by rfl) vg_ ?_
    refine dR_GF o_ (by rfl) (by rfl) v_ (by rfl) vg_ ?_
    (refine dR_S o_ (by rfl) (by rfl) v_ ?_)
    refine dR_nil ?_
    refine awp_cond v_ (fun hc4 => ?_) (fun hc4 => ?_)
    · replace hc4 := nm_ hc4
      refine awp_seq ?_
      refine awp_region (by kernel_rfl) ?_
      (refine aL_S rfl rfl v_ ?_)
      refine aL_nil ?_
      refine awp_ret ?_
      refine aEnd_ret (σ' := σ) v_ sub_ ?_
      refine ⟨?_, rfl⟩
      rw [← hr, hst, up_no (hah _) hc4]
    · replace hc4 := nm_ hc4
      have hnx : upGo (fun x => placeOk x.place) Itm.place (pvK Itm.place l (k + 1)) (l.drop (k + 1)) = upGo (fun x => placeOk x.place) Itm.place none l := by rw [pvK_next hxk, ← hr, hst, up_yes (hah _) hc4]
      refine awp_skip ?_
      refine awp_region (by kernel_rfl) ?_
      iterate 2 (refine aL_S rfl rfl v_ ?_)
      refine aL_nil ?_
      refine aNext (ι := Nat) (i := k) (k + 1) ?_ ?_ ?_ ?_
      · omega
      · exact ⟨by omega, hnx⟩
      · exact cv_
      · exact sub_
  · replace hc2 := nm_ hc2
    refine awp_exit ?_
    refine aThen_exit ?_
    refine aThen_exit ?_
    refine aBlock_hit ?_
    refine awp_seq ?_
    refine awp_region (by kernel_rfl) ?_
    (refine aL_S rfl rfl v_ ?_)
    refine aL_nil ?_
    refine awp_ret ?_
    refine aEnd_ret (σ' := σ) v_ sub_ ?_
    refine ⟨?_, rfl⟩
    rw [← hr, List.drop_eq_nil_of_le (by omega)]; rfl
theorem checkI1_c {x : Itm} {σ : Store} (hx : ObjSm x.obj) : ACalls Tryz.prog 152 [sItem x] σ fun v σ' => v = vB (!objOk x.obj) ∧ σ = σ' := by
  refine ACalls_of Tryz.func152 rfl Tryz.ntmps152 (congrArg Array.toList Tryz.results152) (by simp only [List.length_cons, List.length_nil]; decide) ?_; simp only [envOf_cons, envOf_nil, Nat.reduceAdd]
  refine awp_seq ?_
  refine awp_region (by kernel_rfl) ?_
  refine aL_box rfl rfl rfl v_ rfl g_ fun o1 ho1 => ?_
  repeat (rw [none_set_iff] at ho1; obtain ⟨_, ho1⟩ := ho1)
  (refine aL_S rfl rfl v_ ?_)
  refine aL_nil ?_
  refine awp_seq ?_
  refine awp_region (by kernel_rfl) ?_
  iterate 2 (refine aL_S rfl rfl v_ ?_)
  refine aL_X rfl rfl (AOp_use rfl rfl (.inr ⟨rfl, rfl, rfl⟩) g_ va_ (oCheck_c hx) ?_); rintro _ _ ⟨rfl, rfl⟩
  iterate 2 (refine aL_S rfl rfl v_ ?_)
  refine aL_nil ?_
  refine awp_ret ?_
  refine aEnd_ret (σ' := σ) v_ sub_ ?_
  refine ⟨?_, rfl⟩
  cases objOk x.obj <;> rfl
theorem indexI_c {l : List Itm} {t : Bool} {σ : Store} (hx : ∀ x ∈ l, ObjSm x.obj) (hn : l.length ≤ 1000000) : ACalls Tryz.prog 142 [.sl 3 (l.map sItem) t, .lit (.func (.func 152) #[] #[])] σ fun v σ' => (∃ r, v = vInt r ∧ decide (0 ≤ r) = l.any (fun x => !objOk x.obj)) ∧ σ = σ' := by
  refine ACalls_of Tryz.func142 rfl Tryz.ntmps142 (congrArg Array.toList Tryz.results142) (by simp only [List.length_cons, List.length_nil]; decide) ?_; simp only [envOf_cons, envOf_nil, Nat.reduceAdd]
  refine awp_seq ?_
  refine awp_region (by kernel_rfl) ?_
  (refine aL_S rfl rfl v_ ?_)
  refine aL_nil ?_
  refine awp_seq ?_
  refine awp_seq ?_
  refine awp_region (by kernel_rfl) ?_
  iterate 3 (refine aL_S rfl rfl v_ ?_)
  refine aL_nil ?_
  refine awp_block ?_
  refine awp_loop_env (ι := Nat) (fun k => l.length - k) (fun k => k ≤ l.length ∧ (l.take k).any (fun x => !objOk x.obj) = false) (fun k => [(0, .sl 3 (l.map sItem) t), (1, .lit (.func (.func 152) #[] #[])), (7, vInt l.length), (8, vInt k)]) (fun k => σ) 0 ?_ ?_ ?_ ?_
  · exact ⟨Nat.zero_le _, rfl⟩
  · exact cv_
  · exact sub_
  rintro k ⟨hk, ha⟩
  simp only [envL_cons, envL_nil]
  refine awp_seq ?_
  refine awp_region (by kernel_rfl) ?_
  (refine aL_S rfl rfl v_ ?_)
  refine aL_nil ?_
  refine awp_seq ?_
  refine awp_cond v_ (fun hc2 => ?_) (fun hc2 => ?_)
  · replace hc2 := nm_ hc2
    refine awp_skip ?_
    refine awp_seq ?_
    refine awp_block ?_
    refine awp_seq ?_
    obtain ⟨x, hxk⟩ := get_some (l := l) (k := k) (by omega)
    have hsx := hx x (List.mem_of_getElem? hxk)
    refine awp_region (by kernel_rfl) ?_
    iterate 2 (refine aL_S rfl rfl v_ ?_)
    refine aL_nil ?_
    refine awp_seq ?_
    have R := hxk
    refine awp_region (by kernel_rfl) ?_
    iterate 5 (refine aL_S rfl rfl v_ ?_)
    refine aL_X rfl rfl (AOp_use rfl rfl (.inr ⟨va_, rfl, rfl⟩) g_ va_ (checkI1_c hsx) ?_); rintro _ _ ⟨rfl, rfl⟩
    refine aL_nil ?_
    refine awp_cond v_ (fun hc4 => ?_) (fun hc4 => ?_)
    · replace hc4 := nm_ hc4
      refine awp_seq ?_
      refine awp_region (by kernel_rfl) ?_
      iterate 2 (refine aL_S rfl rfl v_ ?_)
      refine aL_nil ?_
      refine awp_ret ?_
      refine aEnd_ret (σ' := σ) v_ sub_ ?_
      exact ⟨⟨(k : Int), rfl, by rw [decide_eq_true (by omega)]; exact (any_yes hxk (by simpa using hc4)).symm⟩, rfl⟩
    · replace hc4 := nm_ hc4
      refine awp_skip ?_
      refine awp_region (by kernel_rfl) ?_
      iterate 2 (refine aL_S rfl rfl v_ ?_)
      refine aL_nil ?_
      refine aNext (ι := Nat) (i := k) (k + 1) ?_ ?_ ?_ ?_
      · omega
      · exact ⟨by omega, any_next hxk (by simpa using hc4) ha⟩
      · exact cv_
      · exact sub_
  · replace hc2 := nm_ hc2
    refine awp_exit ?_
    refine aThen_exit ?_
    refine aThen_exit ?_
    refine aBlock_hit ?_
    refine awp_seq ?_
    refine awp_region (by kernel_rfl) ?_
    (refine aL_S rfl rfl v_ ?_)
    refine aL_nil ?_
    refine awp_ret ?_
    refine aEnd_ret (σ' := σ) v_ sub_ ?_
    exact ⟨⟨-1, rfl, (any_end (by omega) ha).symm⟩, rfl⟩
theorem containsI_c {l : List Itm} {t : Bool} {σ : Store} (hx : ∀ x ∈ l, ObjSm x.obj) (hn : l.length ≤ 1000000) : ACalls Tryz.prog 151 [.sl 3 (l.map sItem) t, .lit (.func (.func 152) #[] #[])] σ fun v σ' => v = vB (l.any fun x => !objOk x.obj) ∧ σ = σ' := by
  refine ACalls_of Tryz.func151 rfl Tryz.ntmps151 (congrArg Array.toList Tryz.results151) (by simp only [List.length_cons, List.length_nil]; decide) ?_; simp only [envOf_cons, envOf_nil, Nat.reduceAdd]
  refine awp_seq ?_
  refine awp_region (by kernel_rfl) ?_
  (refine aL_S rfl rfl v_ ?_)
  refine aL_nil ?_
  refine awp_seq ?_
  refine awp_region (by kernel_rfl) ?_
  iterate 2 (refine aL_S rfl rfl v_ ?_)
  refine aL_X rfl rfl (AOp_use rfl rfl (.inr ⟨rfl, rfl, rfl⟩) g_ va_ (indexI_c hx hn) ?_); rintro _ _ ⟨⟨r, rfl, hr⟩, rfl⟩
  iterate 2 (refine aL_S rfl rfl v_ ?_)
  refine aL_nil ?_
  refine awp_ret ?_
  refine aEnd_ret (σ' := σ) v_ sub_ ?_
  exact ⟨by rw [← hr], rfl⟩
end Go.Proofs.YtbcgkbdacijoiaaGreat
end

section
set_option linter.all false
set_option maxRecDepth 100000
namespace Go.Proofs.YtbcgkbdacijoiaaGreat
open Go.Ab

/-! ### rows that rise -/
/-! ### numbers, once each, rising -/
/-! ### names, once each, rising -/
def RiseN (l : List ByteArray) : Prop := l.Pairwise fun x y => sLt x y = true
/-! ### a node's dots -/
structure SeenCn (x : Seen) : Prop where
  lo : 0 ≤ x.base
  hi : x.base ≤ 9007199254740992
  rise : x.more.Pairwise (· < ·)
  ab : ∀ n ∈ x.more, x.base + 1 < n ∧ n ≤ 9007199254740992
/-! ### contexts -/
def RiseX (c : List Seen) : Prop := c.Pairwise fun x y => sLt x.node y.node = true
def room (c : List Seen) : Nat := (c.map fun x => x.more.length).sum
structure CtxG (c : List Seen) : Prop where
  rise : RiseX c
  ok : ∀ x ∈ c, seenOk x = true
end Go.Proofs.YtbcgkbdacijoiaaGreat
end

section
set_option linter.all false
set_option maxRecDepth 100000
namespace Go.Proofs.YtbcgkbdacijoiaaGreat
open Go.Ab

/-! ### dots in order -/
def lessX (x y : Sib) : Bool := lessD x.node x.n y.node y.n
def Dot (x y : Sib) : Prop := x.node = y.node ∧ x.n = y.n
theorem Dot.symm {x y : Sib} (h : Dot x y) : Dot y x := ⟨h.1.symm, h.2.symm⟩
def RiseD (l : List Sib) : Prop := l.Pairwise fun x y => lessX x y = true
/-! ### the greater of two values of one dot -/
/-! ### where a dot's value stands -/
/-! ### what two objects come to -/
structure ObjG (o : Obj') : Prop where
  ctx : CtxG o.ctx
  rise : RiseD o.sibs
  ok : ∀ x ∈ o.sibs, sibOk x = true ∧ hasS o.ctx x.node x.n = true
inductive St where
  | un
  | rep
  | val (x : Sib)
end Go.Proofs.YtbcgkbdacijoiaaGreat
end

section
set_option linter.all false
set_option maxRecDepth 100000
namespace Go.Proofs.YtbcgkbdacijoiaaGreat
open Go.Ab
instance : DecidableEq Seen := fun a b => decidable_of_iff (a.node = b.node ∧ a.base = b.base ∧ a.more = b.more) (by cases a; cases b; simp)
instance : DecidableEq Sib := fun a b => decidable_of_iff (a.node = b.node ∧ a.n = b.n ∧ a.value = b.value ∧ a.gone = b.gone ∧ a.time = b.time) (by cases a; cases b; simp)
instance : DecidableEq Obj' := fun a b => decidable_of_iff (a.ctx = b.ctx ∧ a.sibs = b.sibs) (by cases a; cases b; simp)
theorem dec_of {p : Prop} [Decidable p] {r : Bool} (h : r = true ↔ p) : r = decide p := by rw [Bool.eq_iff_iff, h, decide_eq_true_eq]
theorem same07_f {a b : Obj'} {σ : Store} (hA : ObjSm a) (hB : ObjSm b) : ACalls Tryz.prog 18 [sObj a, sObj b] σ fun v σ' => v = vB (decide (a = b)) ∧ σ = σ' :=
  (same07_c hA hB).wkS fun v σ' ⟨⟨r, hv, hr⟩, hs⟩ => ⟨v, σ', .refl _, .refl _, by rw [hv, dec_of hr], hs⟩
end Go.Proofs.YtbcgkbdacijoiaaGreat
end

section
set_option linter.all false
set_option maxRecDepth 100000
namespace Go.Proofs.YtbcgkbdacijoiaaGreat
open Go.Ab

theorem upGo_rise {α : Type} {ok : α → Bool} {key : α → ByteArray} : ∀ {l : List α} {pv : Option ByteArray}, upGo ok key pv l = true → (∀ p, pv = some p → ∀ x ∈ l, sLt p (key x) = true) ∧ (l.Pairwise fun a b => sLt (key a) (key b) = true) ∧ ∀ x ∈ l, ok x = true
  | [], _, _ => ⟨fun _ _ x hx => (List.not_mem_nil hx).elim, List.Pairwise.nil, fun x hx => (List.not_mem_nil hx).elim⟩
  | x :: l, pv, h => by
    simp only [upGo, Bool.and_eq_true] at h
    obtain ⟨⟨h1, h2⟩, h3⟩ := h
    obtain ⟨g1, g2, g3⟩ := upGo_rise h3
    refine ⟨fun p hp y hy => ?_, List.pairwise_cons.2 ⟨fun y hy => g1 _ rfl y hy, g2⟩, fun y hy => ?_⟩
    · subst hp
      have h4 : sLt p (key x) = true := h2
      rcases List.mem_cons.1 hy with rfl | hy
      · exact h4
      · exact sLt_trans h4 (g1 _ rfl y hy)
    · rcases List.mem_cons.1 hy with rfl | hy
      · exact h1
      · exact g3 y hy
/-! ### the document's way -/
end Go.Proofs.YtbcgkbdacijoiaaGreat
end

section
set_option linter.all false
namespace Go.Ab
section
variable {P : Program} {ops : Array Oper} {s0 : Store} {Kk : Env → Store → Prop} {o : Oper} {i : Nat} {r : DT} {e : Env} {σ : Store}
end
end Go.Ab
end

section
set_option linter.all false
set_option maxRecDepth 100000
namespace Go.Proofs.YtbcgkbdacijoiaaGreat
open Go.Ab
theorem oneItm (l : List Itm) : ∀ y ∈ l.map sItem, ∀ c ∈ y.cells, c.one = true := lits_one sItem (fun x c hc => by simp [AVal.cells] at hc; rcases hc with rfl | rfl | rfl <;> rfl) l
theorem szItm (l : List Itm) : ∀ y ∈ l.map sItem, y.cells.length = 3 := lits_sz sItem (fun x => rfl) l
@[reducible] def slI (L : List Itm) : AVal := .sl 3 (L.map sItem) false
end Go.Proofs.YtbcgkbdacijoiaaGreat
end

section
set_option linter.all false
set_option maxRecDepth 100000
namespace Go.Proofs.YtbcgkbdacijoiaaGreat
open Go.Ab

end Go.Proofs.YtbcgkbdacijoiaaGreat
end

section
set_option linter.all false
set_option maxRecDepth 100000
namespace Go.Proofs.YtbcgkbdacijoiaaGreat
open Go.Ab

end Go.Proofs.YtbcgkbdacijoiaaGreat
end
