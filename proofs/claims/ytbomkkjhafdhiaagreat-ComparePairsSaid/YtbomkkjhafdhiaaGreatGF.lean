/-
  Whether an object may be; The reference's May, Same and Few; Books and registries: whether they may be, on both sides; WHAT IS KNOWN OF WRITES, plainly: rows that rise, each node's dots as a set, contexts joined; OBJECTS MERGED, plainly: per dot nothing is known, a value, or that it is replaced; merging is the greater of these; Objects held against one another, as functions; ITEMS MERGED, plainly: two rows that rise, gone through side by side; and the document's way, each put in its place; GUARDED OPERATIONS BEHIND ONE THAT WRITES, in a drawn region; slices.Concat of items; Registries: whether they may be, on both sides. Messages: whether they may be; Messages: whether they may be, on both sides. Own work (an AI agent).
-/
import Derived.Test.YtbomkkjhafdhiaaGreatGE
import Derived.Test.YtbomkkjhafdhiaaGreatGD

section
set_option linter.all false
set_option maxRecDepth 100000
namespace Go.Proofs.YtbomkkjhafdhiaaGreat
open Go.Ab

def oneS (s : ByteArray) (n : Int) : Seen := if n = 1 then ⟨s, 1, []⟩ else ⟨s, 0, [n]⟩
def dotOk (s : ByteArray) (n : Int) : Bool := nameOk s && decide (1 ≤ n) && decide (n ≤ 9007199254740992)
def addS (c : List Seen) (s : ByteArray) (n : Int) : List Seen × Int := if dotOk s n then joinS c [oneS s n] else ([], 1)
theorem oneS_node (s : ByteArray) (n : Int) : (oneS s n).node = s := by unfold oneS; split <;> rfl
theorem dotOk_yes {s : ByteArray} {n : Int} (h : (nameOk s = true ∧ 1 ≤ n) ∧ n ≤ 9007199254740992) : dotOk s n = true := by simp [dotOk, h.1.1, h.1.2, h.2]
theorem dotOk_no {s : ByteArray} {n : Int} (h : (nameOk s = false ∨ n < 1) ∨ 9007199254740992 < n) : dotOk s n = false := by
  unfold dotOk
  rcases h with (h | h) | h
  · rw [h]; rfl
  · rw [decide_eq_false (show ¬ 1 ≤ n by omega)]; simp
  · rw [decide_eq_false (show ¬ n ≤ 9007199254740992 by omega)]; simp
theorem dotOk_iff {s : ByteArray} {n : Int} : dotOk s n = true ↔ (nameOk s = true ∧ 1 ≤ n) ∧ n ≤ 9007199254740992 := by simp [dotOk]
theorem nameOk_size {s : ByteArray} (h : nameOk s = true) : s.size ≤ 16 := by
  simp only [nameOk, Bool.and_eq_true, decide_eq_true_eq] at h
  exact h.1.2
theorem add_c {c : List Seen} {s : ByteArray} {n : Int} {t : Bool} {σ : Store} (hA : ∀ x ∈ c, SeenSm x) (hn : c.length ≤ 100000) (hs : s.size ≤ 1000000) :
    ACalls Tryz.prog 108 [.sl 3 (c.map sSeen) t, sDot s n] σ fun v σ' => v = .tup [.sl 3 ((addS c s n).1.map sSeen) false, vInt (addS c s n).2] ∧ σ = σ' := by
  have hon := oneS_node s n
  have hsm : ∀ x ∈ [oneS s n], SeenSm x := fun x hx => by
    obtain rfl := List.mem_singleton.1 hx
    refine ⟨by rw [hon]; exact hs, ?_⟩
    unfold oneS; split <;> simp
  refine ACalls_of Tryz.func108 rfl Tryz.ntmps108 (congrArg Array.toList Tryz.results108) (by simp only [List.length_cons, List.length_nil]; decide) ?_; simp only [envOf_cons, envOf_nil, Nat.reduceAdd]
  refine awp_seq ?_
  refine awp_region (by kernel_rfl) ?_
  refine aL_box rfl rfl rfl v_ rfl g_ fun o3 ho3 => ?_
  repeat (rw [none_set_iff] at ho3; obtain ⟨_, ho3⟩ := ho3)
  iterate 2 (refine aL_S rfl rfl v_ ?_)
  refine aL_nil ?_
  refine awp_seq ?_
  refine awp_seq ?_
  refine awp_region (by kernel_rfl) ?_
  iterate 2 (refine aL_S rfl rfl v_ ?_)
  refine aL_X rfl rfl (AOp_use rfl rfl (.inr ⟨rfl, rfl, rfl⟩) g_ va_ (nameIs_c (by omega)) ?_); rintro _ _ ⟨rfl, rfl⟩
  iterate 2 (refine aL_S rfl rfl v_ ?_)
  refine aL_GF rfl rfl v_ rfl vg_ ?_
  refine aL_GF rfl rfl v_ rfl vg_ ?_
  refine aL_GF rfl rfl v_ rfl vg_ ?_
  iterate 2 (refine aL_S rfl rfl v_ ?_)
  refine aL_GF rfl rfl v_ rfl vg_ ?_
  refine aL_GF rfl rfl v_ rfl vg_ ?_
  refine aL_GF rfl rfl v_ rfl vg_ ?_
  (refine aL_S rfl rfl v_ ?_)
  refine aL_nil ?_
  refine awp_cond v_ (fun hc1 => ?_) (fun hc1 => ?_)
  · replace hc1 := nm_ hc1
    refine awp_seq ?_
    refine awp_region (by kernel_rfl) ?_
    iterate 2 (refine aL_S rfl rfl v_ ?_)
    refine aL_nil ?_
    refine awp_ret ?_
    rw [show addS c s n = ([], 1) from by rw [addS, dotOk_no hc1]; rfl]
    exact aEnd_retW (v := .tup [.sl 3 [] false, vInt 1]) (v' := .tup [vNil, vInt 1]) va_ (.tup _ _ rfl (fun i hi hi' => by match i, hi with | 0, _ => exact .nil _ _ | 1, _ => exact .refl _)) sub_ ⟨rfl, rfl⟩
  · replace hc1 := nm_ hc1
    have hd := dotOk_yes hc1
    have haj : addS c s n = joinS c [oneS s n] := by rw [addS, hd]; rfl
    refine awp_skip ?_
    refine awp_seq ?_
    refine awp_region (by kernel_rfl) ?_
    iterate 3 (refine aL_S rfl rfl v_ ?_)
    refine aL_alloc rfl rfl rfl g_ gl_ fun o6 ho6 => ?_
    repeat (rw [none_set_iff] at ho6; obtain ⟨_, ho6⟩ := ho6)
    refine aL_store rfl rfl rfl v_ v_ h_ g_ rfl g_ c_ (by rfl) le_ v_ ?_
    refine aL_nil ?_
    refine awp_seq ?_
    refine awp_seq ?_
    refine awp_region (by kernel_rfl) ?_
    iterate 3 (refine aL_S rfl rfl v_ ?_)
    refine aL_nil ?_
    refine awp_cond v_ (fun hc4 => ?_) (fun hc4 => ?_)
    · replace hc4 := nm_ hc4
      refine awp_region (by kernel_rfl) ?_
      (refine aL_S rfl rfl v_ ?_)
      refine aL_store rfl rfl rfl v_ v_ h_ g_ rfl g_ c_ (by rfl) le_ v_ ?_
      refine aL_nil ?_
      refine awp_wkCells o6 [.lit (.string (oneS s n).node), vInt (oneS s n).base, .sl 1 ((oneS s n).more.map vInt) false] h_ (by rw [show oneS s n = ⟨s, 1, []⟩ from if_pos hc4]; exact ⟨.refl _, .refl _, .nil _ _, trivial⟩) ?_
      refine awp_seq ?_
      refine awp_region (by kernel_rfl) ?_
      iterate 2 (refine aL_S rfl rfl v_ ?_)
      refine aL_buildSlice rfl rfl rfl g_ g_ rfl rfl h_ c2_ (by decide) ?_
      refine aL_X rfl rfl (AOp_use rfl rfl (.inr ⟨rfl, rfl, rfl⟩) g_ va_ (join_c (b := [oneS s n]) hA hsm hn (by simp)) ?_); rintro _ _ ⟨rfl, rfl⟩
      iterate 4 (refine aL_S rfl rfl v_ ?_)
      refine aL_nil ?_
      refine awp_ret ?_
      refine aEnd_ret (σ' := σ) v_ sub_ ?_
      exact ⟨by rw [haj], rfl⟩
    · replace hc4 := nm_ hc4
      refine awp_region (by kernel_rfl) ?_
      iterate 2 (refine aL_S rfl rfl v_ ?_)
      refine aL_buildSlice rfl rfl rfl g_ g_ rfl rfl h_ c2_ (by decide) ?_
      (refine aL_S rfl rfl v_ ?_)
      refine aL_store rfl rfl rfl v_ v_ h_ g_ rfl g_ c_ (by rfl) le_ v_ ?_
      refine aL_nil ?_
      refine awp_wkCells o6 [.lit (.string (oneS s n).node), vInt (oneS s n).base, .sl 1 ((oneS s n).more.map vInt) false] h_ (by rw [show oneS s n = ⟨s, 0, [n]⟩ from if_neg hc4]; exact ⟨.refl _, .refl _, .sl1 _ _ _, trivial⟩) ?_
      refine awp_seq ?_
      refine awp_region (by kernel_rfl) ?_
      iterate 2 (refine aL_S rfl rfl v_ ?_)
      refine aL_buildSlice rfl rfl rfl g_ g_ rfl rfl h_ c2_ (by decide) ?_
      refine aL_X rfl rfl (AOp_use rfl rfl (.inr ⟨rfl, rfl, rfl⟩) g_ va_ (join_c (b := [oneS s n]) hA hsm hn (by simp)) ?_); rintro _ _ ⟨rfl, rfl⟩
      iterate 4 (refine aL_S rfl rfl v_ ?_)
      refine aL_nil ?_
      refine awp_ret ?_
      refine aEnd_ret (σ' := σ) v_ sub_ ?_
      exact ⟨by rw [haj], rfl⟩
theorem compact_one {α : Type} [DecidableEq α] [Inhabited α] (x : α) : Lib.compact [x] = [x] := by
  simp [Lib.compact, Lib.compactUpTo, List.range_succ, Lib.keeps]
theorem ctxOk_one {s : ByteArray} {n : Int} (h : dotOk s n = true) : ctxOk [oneS s n] = true := by
  obtain ⟨⟨h1, h2⟩, h3⟩ := dotOk_iff.1 h
  unfold ctxOk ctxGo ctxGo
  unfold oneS
  split
  · simp [seenOk, seenHd, h1, riseOk, aheadOk]
  · simp [seenOk, seenHd, h1, riseOk, aheadOk, h3]; omega
theorem both_one {s : ByteArray} {n : Int} (h : dotOk s n = true) : bothS (seen0 s) (oneS s n) = oneS s n := by
  obtain ⟨⟨h1, h2⟩, h3⟩ := dotOk_iff.1 h
  have e : ∀ l : List Int, l.length ≤ 1 → onceI l = l := fun l hl => by
    match l, hl with
    | [], _ => simp [onceI, sortII, Lib.compact, Lib.compactUpTo]
    | [x], _ => simp [onceI, sortII, compact_one]
  unfold bothS bothF
  rw [e _ (by unfold oneS seen0; split <;> simp)]
  unfold oneS seen0
  split
  · rename_i h; simp; omega
  · rename_i h
    have h0 : 0 < n := by omega
    simp [bstep, h, h0]
theorem joinAll_one {s : ByteArray} {n : Int} (h : dotOk s n = true) : joinAll [] [oneS s n] = [oneS s n] := by
  have e : nodesS [] [oneS s n] = [s] := by simp [nodesS, sortSS, compactL, compact_one, oneS_node, B_Lb]
  unfold joinAll
  rw [e]
  have e2 : ofS [oneS s n] s = oneS s n := by simp [ofS, oneS_node]
  have e1 : ofS [] s = seen0 s := rfl
  rw [List.map_cons, List.map_nil, e1, e2, both_one h]
theorem addNil (s : ByteArray) (n : Int) : (addS [] s n).2 = if dotOk s n then 0 else 1 := by
  unfold addS
  cases h : dotOk s n with
  | false => rfl
  | true => simp [joinS, joinAll_one h, ctxOk_one h, show ctxOk [] = true from rfl]
theorem dec_chk (b : Bool) : decide ((if b = true then (0 : Int) else 1) = 0) = b := by cases b <;> rfl
theorem dec_nat (m k : Nat) : decide ((m : Int) ≤ (k : Int)) = decide (m ≤ k) := by
  by_cases h : m ≤ k
  · rw [decide_eq_true h, decide_eq_true (by omega)]
  · rw [decide_eq_false h, decide_eq_false (by omega)]
theorem dec256 (m : Nat) : decide ((m : Int) ≤ 256) = decide (m ≤ 256) := dec_nat m 256
def sibOk (x : Sib) : Bool := dotOk x.node x.n && decide (x.value.size ≤ 256) && (!x.gone || decide (x.value = ⟨#[]⟩)) && decide (0 ≤ x.time) && decide (x.time ≤ 9007199254740992)
theorem isSib_c {x : Sib} {σ : Store} (hx : SibSm x) : ACalls Tryz.prog 74 [sSib x] σ fun v σ' => v = vB (sibOk x) ∧ σ = σ' := by
  have h1 := hx.node; have h2 := hx.value
  have hsz : (if dotOk x.node x.n = true then (0 : Int) else 1) = 0 ↔ dotOk x.node x.n = true := chk0
  refine ACalls_of Tryz.func74 rfl Tryz.ntmps74 (congrArg Array.toList Tryz.results74) (by simp only [List.length_cons, List.length_nil]; decide) ?_; simp only [envOf_cons, envOf_nil, Nat.reduceAdd]
  refine awp_seq ?_
  refine awp_region (by kernel_rfl) ?_
  refine aL_box rfl rfl rfl v_ rfl g_ fun o1 ho1 => ?_
  repeat (rw [none_set_iff] at ho1; obtain ⟨_, ho1⟩ := ho1)
  (refine aL_S rfl rfl v_ ?_)
  refine aL_nil ?_
  refine awp_seq ?_
  refine awp_region (by kernel_rfl) ?_
  iterate 2 (refine aL_S rfl rfl v_ ?_)
  refine aL_X rfl rfl (AOp_use rfl rfl (.inr ⟨rfl, rfl, rfl⟩) g_ va_ (ACalls.wkA (args := [vNil, sDot x.node x.n]) (add_c (c := []) (t := false) (s := x.node) (n := x.n) (fun _ h => by cases h) (by simp) (by omega)) rfl (fun j hj hj' => by match j, hj with | 0, _ => exact .nil _ _ | 1, _ => exact .refl _)) ?_); rintro _ _ ⟨rfl, rfl⟩
  rw [addNil]
  iterate 5 (refine aL_S rfl rfl v_ ?_)
  refine aL_nil ?_
  refine awp_seq ?_
  refine awp_region (by kernel_rfl) ?_
  iterate 3 (refine aL_S rfl rfl v_ ?_)
  refine aL_GT rfl rfl v_ rfl vg_ ?_
  refine aL_GT rfl rfl v_ rfl vg_ ?_
  refine aL_GT rfl rfl v_ rfl vg_ ?_
  refine aL_GT rfl rfl v_ rfl vg_ ?_
  iterate 2 (refine aL_S rfl rfl v_ ?_)
  refine aL_GT rfl rfl v_ rfl vg_ ?_
  refine aL_GT rfl rfl v_ rfl vg_ ?_
  refine aL_GT rfl rfl v_ rfl vg_ ?_
  refine aL_GT rfl rfl v_ rfl vg_ ?_
  refine aL_GGF rfl rfl v_ rfl vg_ ?_
  refine aL_GGF rfl rfl v_ rfl vg_ ?_
  refine aL_GGF rfl rfl v_ rfl vg_ ?_
  refine aL_GT rfl rfl v_ rfl vg_ ?_
  iterate 2 (refine aL_S rfl rfl v_ ?_)
  refine aL_GT rfl rfl v_ rfl vg_ ?_
  refine aL_GT rfl rfl v_ rfl vg_ ?_
  refine aL_GT rfl rfl v_ rfl vg_ ?_
  iterate 2 (refine aL_S rfl rfl v_ ?_)
  refine aL_GT rfl rfl v_ rfl vg_ ?_
  refine aL_GT rfl rfl v_ rfl vg_ ?_
  refine aL_GT rfl rfl v_ rfl vg_ ?_
  iterate 2 (refine aL_S rfl rfl v_ ?_)
  refine aL_nil ?_
  refine awp_ret ?_
  refine aEnd_ret (σ' := σ) v_ sub_ ?_
  refine ⟨?_, rfl⟩
  rw [dec_chk, dec256]; rfl
def aheadD (pv : Option Sib) (x : Sib) : Bool := match pv with | none => true | some p => lessD p.node p.n x.node x.n
def sibsGo (c : List Seen) : Option Sib → List Sib → Bool
  | _, [] => true
  | pv, x :: l => sibOk x && hasS c x.node x.n && aheadD pv x && sibsGo c (some x) l
def objOk (o : Obj') : Bool := ctxOk o.ctx && sibsGo o.ctx none o.sibs
def pvSib (c : List Sib) (k : Nat) : Option Sib := if k = 0 then none else c[k - 1]?
theorem pvSib_next {c : List Sib} {k : Nat} {x : Sib} (h : c[k]? = some x) : pvSib c (k + 1) = some x := by simp [pvSib, h]
theorem pvSib_prev (c : List Sib) (k : Nat) (hk : k < c.length) : ∃ y : Sib, (0 < k → c[((k : Int) - 1).toNat]? = some y) ∧ ∀ x, aheadD (pvSib c k) x = (decide (k = 0) || lessD y.node y.n x.node x.n) := by
  by_cases h0 : k = 0
  · subst h0
    exact ⟨⟨.empty, 0, .empty, false, 0⟩, fun h => by omega, fun s => rfl⟩
  · obtain ⟨y, hy⟩ := get_some (l := c) (k := k - 1) (by omega)
    have e : ((k : Int) - 1).toNat = k - 1 := by omega
    exact ⟨y, fun _ => by rw [e]; exact hy, fun s => by simp [pvSib, h0, hy, aheadD]⟩
theorem sibs_no {a h b r s : Bool} {k : Nat} (hb : b = (decide (k = 0) || s)) (hh : (a = false ∨ h = false) ∨ 0 < (k : Int) ∧ s = false) : (a && h && b && r) = false := by
  rcases hh with (hh | hh) | ⟨h1, h2⟩
  · rw [hh]; rfl
  · rw [hh]; simp
  · rw [hb, h2, decide_eq_false (show ¬ k = 0 by omega)]; simp
theorem sibs_yes {a h b r s : Bool} {k : Nat} (hb : b = (decide (k = 0) || s)) (hh : (a = true ∧ h = true) ∧ ((k : Int) ≤ 0 ∨ s = true)) : (a && h && b && r) = r := by
  obtain ⟨⟨h1, h2⟩, h3⟩ := hh
  have : b = true := by
    rw [hb]
    rcases h3 with h | h
    · rw [decide_eq_true (show k = 0 by omega)]; rfl
    · rw [h]; simp
  rw [h1, h2, this]; rfl
theorem cmp_less {s : ByteArray} {n : Int} {s' : ByteArray} {n' : Int} : (0 ≤ cmpD s n s' n') ↔ lessD s n s' n' = false := by
  rw [← Bool.not_eq_true, ← cmpD_less]; omega
theorem cmp_less' {s : ByteArray} {n : Int} {s' : ByteArray} {n' : Int} : (cmpD s n s' n' < 0) ↔ lessD s n s' n' = true := cmpD_less s n s' n'
theorem oCheck_c {o : Obj'} {σ : Store} (ho : ObjSm o) : ACalls Tryz.prog 36 [sObj o] σ fun v σ' => v = vInt (if objOk o then 0 else 1) ∧ σ = σ' := by
  have hnc := ho.nc; have hns := ho.ns
  refine ACalls_of Tryz.func36 rfl Tryz.ntmps36 (congrArg Array.toList Tryz.results36) (by simp only [List.length_cons, List.length_nil]; decide) ?_; simp only [envOf_cons, envOf_nil, Nat.reduceAdd]
  refine awp_seq ?_
  refine awp_region (by kernel_rfl) ?_
  refine aL_box rfl rfl rfl v_ rfl g_ fun o1 ho1 => ?_
  repeat (rw [none_set_iff] at ho1; obtain ⟨_, ho1⟩ := ho1)
  (refine aL_S rfl rfl v_ ?_)
  refine aL_nil ?_
  refine awp_seq ?_
  refine awp_seq ?_
  refine awp_region (by kernel_rfl) ?_
  iterate 2 (refine aL_S rfl rfl v_ ?_)
  refine aL_X rfl rfl (AOp_use rfl rfl (.inr ⟨rfl, rfl, rfl⟩) g_ va_ (check_c ho.ctx (by omega)) ?_); rintro _ _ ⟨rfl, rfl⟩
  (refine aL_S rfl rfl v_ ?_)
  refine aL_nil ?_
  refine awp_cond v_ (fun hc1 => ?_) (fun hc1 => ?_)
  · replace hc1 := nm_ hc1
    skip
    have hf : objOk o = false := by
      rw [chk0] at hc1
      simp [objOk, hc1]
    refine awp_seq ?_
    refine awp_region (by kernel_rfl) ?_
    (refine aL_S rfl rfl v_ ?_)
    refine aL_nil ?_
    refine awp_ret ?_
    refine aEnd_ret (σ' := σ) v_ sub_ ?_
    exact ⟨by rw [hf]; rfl, rfl⟩
  · replace hc1 := nm_ hc1
    rw [chk0] at hc1
    have hob : objOk o = sibsGo o.ctx none o.sibs := by simp [objOk, hc1]
    refine awp_skip ?_
    refine awp_seq ?_
    refine awp_seq ?_
    refine awp_region (by kernel_rfl) ?_
    iterate 4 (refine aL_S rfl rfl v_ ?_)
    refine aL_nil ?_
    refine awp_block ?_
    refine awp_loop_env (ι := Nat) (fun k => o.sibs.length - k) (fun k => k ≤ o.sibs.length ∧ sibsGo o.ctx (pvSib o.sibs k) (o.sibs.drop k) = sibsGo o.ctx none o.sibs) (fun k => [(1, .ref o1 0), (10, .sl 5 (o.sibs.map sSib) false), (11, vInt o.sibs.length), (12, vInt k)]) (fun k => (σ.set o1 (.cells (sObj o).cells))) 0 ?_ ?_ ?_ ?_
    · exact ⟨Nat.zero_le _, rfl⟩
    · exact cv_
    · exact Store.Wk.refl _
    rintro k ⟨hk, hr⟩
    simp only [envL_cons, envL_nil]
    refine awp_seq ?_
    refine awp_region (by kernel_rfl) ?_
    (refine aL_S rfl rfl v_ ?_)
    refine aL_nil ?_
    refine awp_seq ?_
    refine awp_cond v_ (fun hc4 => ?_) (fun hc4 => ?_)
    · replace hc4 := nm_ hc4
      refine awp_skip ?_
      refine awp_seq ?_
      refine awp_block ?_
      refine awp_seq ?_
      obtain ⟨x, hxk⟩ := get_some (l := o.sibs) (k := k) (by omega)
      have hsx := ho.sibs x (List.mem_of_getElem? hxk)
      obtain ⟨y, hy, hah⟩ := pvSib_prev o.sibs k (by omega)
      have hst : sibsGo o.ctx (pvSib o.sibs k) (o.sibs.drop k) = (sibOk x && hasS o.ctx x.node x.n && aheadD (pvSib o.sibs k) x && sibsGo o.ctx (some x) (o.sibs.drop (k + 1))) := by rw [drop_cons hxk]; rfl
      have R := hxk
      refine awp_region (by kernel_rfl) ?_
      iterate 3 (refine aL_S rfl rfl v_ ?_)
      refine aL_alloc rfl rfl rfl g_ gl_ fun o4 ho4 => ?_
      repeat (rw [none_set_iff] at ho4; obtain ⟨_, ho4⟩ := ho4)
      (refine aL_S rfl rfl v_ ?_)
      refine aL_store rfl rfl rfl v_ v_ h_ g_ rfl g_ c_ (by rfl) le_ v_ ?_
      refine aL_nil ?_
      refine awp_seq ?_
      have R := hy
      refine awp_draw (.op 0 0 (.op 1 1 (.op 2 0 (.op 3 0 (.op 4 0 (.op 5 0 (.op 6 0 (.op 7 0 (.op 8 1 (.op 9 0 (.op 10 0 (.op 11 0 (.op 12 0 (.op 13 0 (.op 14 0 (.op 15 0 (.op 16 0 (.op 17 0 (.op 18 0 (.op 19 0 (.op 20 0 (.op 21 0 (.op 22 1 (.op 23 0 (.op 24 0 (.op 25 0 .nil)))))))))))))))))))))))))) Tryz.mixed (by kernel_rfl) ?_
      (refine dR_S o_ (by rfl) (by rfl) v_ ?_)
      refine dR_X o_ (by rfl) (by rfl) (AOp_use (by rfl) (by rfl) (.inr ⟨by rfl, by rfl, by rfl⟩) g_ va_ (isSib_c hsx) ?_); rintro _ _ ⟨rfl, rfl⟩; refine ⟨sub_, ?_⟩
      iterate 2 (refine dR_S o_ (by rfl) (by rfl) v_ ?_)
      refine dR_GF o_ (by rfl) (by rfl) v_ (by rfl) vg_ ?_
      refine dR_GF o_ (by rfl) (by rfl) v_ (by rfl) vg_ ?_
      refine dR_GF o_ (by rfl) (by rfl) v_ (by rfl) vg_ ?_
      refine dR_GF o_ (by rfl) (by rfl) v_ (by rfl) vg_ ?_
      refine dR_GFX o_ (by rfl) (by rfl) v_ (by rfl) sub_ (fun hb => AOp_useV (by rfl) (by rfl) (.inr ⟨by rfl, by rfl, by rfl⟩) g_ cg_ (has_c ho.ctx (by omega))) ?_
      refine dR_GF o_ (by rfl) (by rfl) v_ (by rfl) vg_ ?_
      iterate 2 (refine dR_S o_ (by rfl) (by rfl) v_ ?_)
      refine dR_GF o_ (by rfl) (by rfl) v_ (by rfl) vg_ ?_
      refine dR_GF o_ (by rfl) (by rfl) v_ (by rfl) vg_ ?_
      refine dR_GF o_ (by rfl) (by rfl) v_ (by rfl) vg_ ?_
      refine dR_GGT o_ (by rfl) (by rfl) v_ (by rfl) vg_ ?_
      refine dR_GGT o_ (by rfl) (by rfl) v_ (by rfl) vg_ ?_
      refine dR_GGT o_ (by rfl) (by rfl) v_ (by rfl) vg_ ?_
      refine dR_GGT o_ (by rfl) (by rfl) v_ (by rfl) vg_ ?_
      refine dR_GGT o_ (by rfl) (by rfl) v_ (by rfl) vg_ ?_
      refine dR_GGT o_ (by rfl) (by rfl) v_ (by rfl) vg_ ?_
      refine dR_GGT o_ (by rfl) (by rfl) v_ (by rfl) vg_ ?_
      refine dR_GGTX o_ (by rfl) (by rfl) v_ (by rfl) sub_ (fun hb => AOp_useV (by rfl) (by rfl) (.inr ⟨by rfl, by rfl, by rfl⟩) g_ cg_ (order_c)) ?_
      refine dR_GGT o_ (by rfl) (by rfl) v_ (by rfl) vg_ ?_
      refine dR_GF o_ (by rfl) (by rfl) v_ (by rfl) vg_ ?_
      (refine dR_S o_ (by rfl) (by rfl) v_ ?_)
      refine dR_nil ?_
      refine awp_cond v_ (fun hc6 => ?_) (fun hc6 => ?_)
      · replace hc6 := nm_ hc6
        refine awp_seq ?_
        refine awp_region (by kernel_rfl) ?_
        (refine aL_S rfl rfl v_ ?_)
        refine aL_nil ?_
        refine awp_ret ?_
        refine aEnd_ret (σ' := σ) v_ sub_ ?_
        refine ⟨?_, rfl⟩
        rw [cmp_less] at hc6
        rw [hob, ← hr, hst, sibs_no (hah _) hc6]; rfl
      · replace hc6 := nm_ hc6
        rw [cmp_less'] at hc6
        have hnx : sibsGo o.ctx (pvSib o.sibs (k + 1)) (o.sibs.drop (k + 1)) = sibsGo o.ctx none o.sibs := by rw [pvSib_next hxk, ← hr, hst, sibs_yes (hah _) hc6]
        refine awp_skip ?_
        refine awp_region (by kernel_rfl) ?_
        iterate 2 (refine aL_S rfl rfl v_ ?_)
        refine aL_nil ?_
        refine aNext (ι := Nat) (i := k) (k + 1) ?_ ?_ ?_ ?_
        · omega
        · exact ⟨by omega, hnx⟩
        · exact cv_
        · exact sub_
    · replace hc4 := nm_ hc4
      refine awp_exit ?_
      refine aThen_exit ?_
      refine aThen_exit ?_
      refine aBlock_hit ?_
      refine awp_seq ?_
      refine awp_region (by kernel_rfl) ?_
      (refine aL_S rfl rfl v_ ?_)
      refine aL_nil ?_
      refine awp_ret ?_
      refine aEnd_ret (σ' := σ) v_ sub_ ?_
      refine ⟨?_, rfl⟩
      rw [hob, ← hr, List.drop_eq_nil_of_le (by omega)]; rfl
theorem rIsDot_c {s : ByteArray} {n : Int} {σ : Store} (hs : s.size ≤ 1000000) : ACalls Tryz.prog 92 [sDot s n] σ fun v σ' => v = vB (dotOk s n) ∧ σ = σ' := by
  refine ACalls_of Tryz.func92 rfl Tryz.ntmps92 (congrArg Array.toList Tryz.results92) (by simp only [List.length_cons, List.length_nil]; decide) ?_; simp only [envOf_cons, envOf_nil, Nat.reduceAdd]
  refine awp_seq ?_
  refine awp_region (by kernel_rfl) ?_
  refine aL_box rfl rfl rfl v_ rfl g_ fun o1 ho1 => ?_
  repeat (rw [none_set_iff] at ho1; obtain ⟨_, ho1⟩ := ho1)
  (refine aL_S rfl rfl v_ ?_)
  refine aL_nil ?_
  refine awp_seq ?_
  refine awp_region (by kernel_rfl) ?_
  iterate 2 (refine aL_S rfl rfl v_ ?_)
  refine aL_X rfl rfl (AOp_use rfl rfl (.inr ⟨rfl, rfl, rfl⟩) g_ va_ (rIs_c (by omega)) ?_); rintro _ _ ⟨rfl, rfl⟩
  (refine aL_S rfl rfl v_ ?_)
  refine aL_GT rfl rfl v_ rfl vg_ ?_
  refine aL_GT rfl rfl v_ rfl vg_ ?_
  refine aL_GT rfl rfl v_ rfl vg_ ?_
  iterate 2 (refine aL_S rfl rfl v_ ?_)
  refine aL_GT rfl rfl v_ rfl vg_ ?_
  refine aL_GT rfl rfl v_ rfl vg_ ?_
  refine aL_GT rfl rfl v_ rfl vg_ ?_
  iterate 2 (refine aL_S rfl rfl v_ ?_)
  refine aL_nil ?_
  refine awp_ret ?_
  refine aEnd_ret (σ' := σ) v_ sub_ ?_
  exact ⟨rfl, rfl⟩
theorem rIsSib_c {x : Sib} {σ : Store} (hx : SibSm x) : ACalls Tryz.prog 53 [sSib x] σ fun v σ' => v = vB (sibOk x) ∧ σ = σ' := by
  have h1 := hx.node; have h2 := hx.value
  refine ACalls_of Tryz.func53 rfl Tryz.ntmps53 (congrArg Array.toList Tryz.results53) (by simp only [List.length_cons, List.length_nil]; decide) ?_; simp only [envOf_cons, envOf_nil, Nat.reduceAdd]
  refine awp_seq ?_
  refine awp_region (by kernel_rfl) ?_
  refine aL_box rfl rfl rfl v_ rfl g_ fun o1 ho1 => ?_
  repeat (rw [none_set_iff] at ho1; obtain ⟨_, ho1⟩ := ho1)
  (refine aL_S rfl rfl v_ ?_)
  refine aL_nil ?_
  refine awp_seq ?_
  refine awp_region (by kernel_rfl) ?_
  iterate 2 (refine aL_S rfl rfl v_ ?_)
  refine aL_X rfl rfl (AOp_use rfl rfl (.inr ⟨rfl, rfl, rfl⟩) g_ va_ (rIsDot_c (by omega)) ?_); rintro _ _ ⟨rfl, rfl⟩
  (refine aL_S rfl rfl v_ ?_)
  refine aL_GT rfl rfl v_ rfl vg_ ?_
  refine aL_GT rfl rfl v_ rfl vg_ ?_
  refine aL_GT rfl rfl v_ rfl vg_ ?_
  refine aL_GT rfl rfl v_ rfl vg_ ?_
  iterate 2 (refine aL_S rfl rfl v_ ?_)
  refine aL_GT rfl rfl v_ rfl vg_ ?_
  refine aL_GT rfl rfl v_ rfl vg_ ?_
  refine aL_GT rfl rfl v_ rfl vg_ ?_
  refine aL_GT rfl rfl v_ rfl vg_ ?_
  refine aL_GGF rfl rfl v_ rfl vg_ ?_
  refine aL_GGF rfl rfl v_ rfl vg_ ?_
  refine aL_GGF rfl rfl v_ rfl vg_ ?_
  refine aL_GT rfl rfl v_ rfl vg_ ?_
  iterate 2 (refine aL_S rfl rfl v_ ?_)
  refine aL_GT rfl rfl v_ rfl vg_ ?_
  refine aL_GT rfl rfl v_ rfl vg_ ?_
  refine aL_GT rfl rfl v_ rfl vg_ ?_
  iterate 2 (refine aL_S rfl rfl v_ ?_)
  refine aL_GT rfl rfl v_ rfl vg_ ?_
  refine aL_GT rfl rfl v_ rfl vg_ ?_
  refine aL_GT rfl rfl v_ rfl vg_ ?_
  iterate 2 (refine aL_S rfl rfl v_ ?_)
  refine aL_nil ?_
  refine awp_ret ?_
  refine aEnd_ret (σ' := σ) v_ sub_ ?_
  refine ⟨?_, rfl⟩
  rw [dec256]; rfl
end Go.Proofs.YtbomkkjhafdhiaaGreat
end

section
set_option linter.all false
set_option maxRecDepth 100000
namespace Go.Proofs.YtbomkkjhafdhiaaGreat
open Go.Ab

theorem sameInts_c {a b : List Int} {ta tb : Bool} {σ : Store} (ha : a.length ≤ 1000000) (hb : b.length ≤ 1000000) : ACalls Tryz.prog 104 [.sl 1 (a.map vInt) ta, .sl 1 (b.map vInt) tb] σ fun v σ' => v = vB (decide (a = b)) ∧ σ = σ' := by
  refine ACalls_of Tryz.func104 rfl Tryz.ntmps104 (congrArg Array.toList Tryz.results104) (by simp only [List.length_cons, List.length_nil]; decide) ?_; simp only [envOf_cons, envOf_nil, Nat.reduceAdd]
  refine awp_seq ?_
  refine awp_region (by kernel_rfl) ?_
  (refine aL_S rfl rfl v_ ?_)
  refine aL_nil ?_
  refine awp_seq ?_
  refine awp_seq ?_
  refine awp_region (by kernel_rfl) ?_
  iterate 5 (refine aL_S rfl rfl v_ ?_)
  refine aL_nil ?_
  refine awp_cond v_ (fun hc1 => ?_) (fun hc1 => ?_)
  · replace hc1 := nm_ hc1
    refine awp_seq ?_
    refine awp_region (by kernel_rfl) ?_
    (refine aL_S rfl rfl v_ ?_)
    refine aL_nil ?_
    refine awp_ret ?_
    refine aEnd_ret (σ' := σ) v_ sub_ ?_
    exact ⟨by rw [decide_eq_false]; intro h; rw [h] at hc1; omega, rfl⟩
  · replace hc1 := nm_ hc1
    refine awp_skip ?_
    refine awp_seq ?_
    refine awp_seq ?_
    refine awp_region (by kernel_rfl) ?_
    (refine aL_S rfl rfl v_ ?_)
    refine aL_nil ?_
    refine awp_block ?_
    refine awp_loop_env (ι := Nat) (fun k => a.length - k) (fun k => k ≤ a.length ∧ a.take k = b.take k) (fun k => [(0, .sl 1 (a.map vInt) ta), (1, .sl 1 (b.map vInt) tb), (5, vInt k)]) (fun k => σ) 0 ?_ ?_ ?_ ?_
    · exact ⟨Nat.zero_le _, rfl⟩
    · exact cv_
    · exact sub_
    rintro k ⟨hk, he⟩
    simp only [envL_cons, envL_nil]
    refine awp_seq ?_
    refine awp_seq ?_
    refine awp_region (by kernel_rfl) ?_
    iterate 5 (refine aL_S rfl rfl v_ ?_)
    refine aL_GT rfl rfl v_ rfl vg_ ?_
    refine aL_GT rfl rfl v_ rfl vg_ ?_
    refine aL_GT rfl rfl v_ rfl vg_ ?_
    refine aL_GT rfl rfl v_ rfl vg_ ?_
    (refine aL_S rfl rfl v_ ?_)
    refine aL_nil ?_
    refine awp_cond v_ (fun hc4 => ?_) (fun hc4 => ?_)
    · replace hc4 := nm_ hc4
      refine awp_skip ?_
      refine awp_seq ?_
      refine awp_block ?_
      refine awp_seq ?_
      obtain ⟨x, hx⟩ := get_some (l := a) (k := k) (by omega)
      obtain ⟨y, hy⟩ := get_some (l := b) (k := k) (by omega)
      have R := And.intro hx hy
      refine awp_draw (.op 0 0 (.op 1 0 (.op 2 0 (.op 3 0 (.op 4 0 (.op 5 0 (.op 6 0 (.op 7 0 (.op 8 0 .nil))))))))) Tryz.mixed (by kernel_rfl) ?_
      iterate 9 (refine dR_S o_ (by rfl) (by rfl) v_ ?_)
      refine dR_nil ?_
      refine awp_cond v_ (fun hc6 => ?_) (fun hc6 => ?_)
      · replace hc6 := nm_ hc6
        refine awp_seq ?_
        refine awp_region (by kernel_rfl) ?_
        (refine aL_S rfl rfl v_ ?_)
        refine aL_nil ?_
        refine awp_ret ?_
        refine aEnd_ret (σ' := σ) v_ sub_ ?_
        exact ⟨by rw [decide_eq_false]; intro h; rw [h, hy] at hx; exact hc6 (Option.some.inj hx).symm, rfl⟩
      · replace hc6 := nm_ hc6
        refine awp_skip ?_
        refine awp_region (by kernel_rfl) ?_
        iterate 3 (refine aL_S rfl rfl v_ ?_)
        refine aL_nil ?_
        refine aNext (ι := Nat) (i := k) (k + 1) ?_ ?_ ?_ ?_
        · omega
        · exact ⟨by omega, by rw [take_snoc hx, take_snoc hy, he, hc6]⟩
        · exact cv_
        · exact sub_
    · replace hc4 := nm_ hc4
      refine awp_exit ?_
      refine aThen_exit ?_
      refine aThen_exit ?_
      refine aBlock_hit ?_
      refine awp_seq ?_
      refine awp_region (by kernel_rfl) ?_
      (refine aL_S rfl rfl v_ ?_)
      refine aL_nil ?_
      refine awp_ret ?_
      refine aEnd_ret (σ' := σ) v_ sub_ ?_
      exact ⟨by rw [decide_eq_true]; rwa [List.take_of_length_le (by omega), List.take_of_length_le (by omega)] at he, rfl⟩
theorem rMay07_c {o : Obj'} {σ : Store} (ho : ObjSm o) : ACalls Tryz.prog 30 [sObj o] σ fun v σ' => v = vB (objOk o) ∧ σ = σ' := by
  have hnc := ho.nc; have hns := ho.ns
  refine ACalls_of Tryz.func30 rfl Tryz.ntmps30 (congrArg Array.toList Tryz.results30) (by simp only [List.length_cons, List.length_nil]; decide) ?_; simp only [envOf_cons, envOf_nil, Nat.reduceAdd]
  refine awp_seq ?_
  refine awp_region (by kernel_rfl) ?_
  refine aL_box rfl rfl rfl v_ rfl g_ fun o1 ho1 => ?_
  repeat (rw [none_set_iff] at ho1; obtain ⟨_, ho1⟩ := ho1)
  (refine aL_S rfl rfl v_ ?_)
  refine aL_nil ?_
  refine awp_seq ?_
  refine awp_seq ?_
  refine awp_region (by kernel_rfl) ?_
  iterate 2 (refine aL_S rfl rfl v_ ?_)
  refine aL_X rfl rfl (AOp_use rfl rfl (.inr ⟨rfl, rfl, rfl⟩) g_ va_ (rMay06_c ho.ctx (by omega)) ?_); rintro _ _ ⟨rfl, rfl⟩
  (refine aL_S rfl rfl v_ ?_)
  refine aL_nil ?_
  refine awp_cond v_ (fun hc1 => ?_) (fun hc1 => ?_)
  · replace hc1 := nm_ hc1
    skip
    have hf : objOk o = false := by simp [objOk, hc1]
    refine awp_seq ?_
    refine awp_region (by kernel_rfl) ?_
    (refine aL_S rfl rfl v_ ?_)
    refine aL_nil ?_
    refine awp_ret ?_
    refine aEnd_ret (σ' := σ) v_ sub_ ?_
    exact ⟨by rw [hf], rfl⟩
  · replace hc1 := nm_ hc1
    have hob : objOk o = sibsGo o.ctx none o.sibs := by simp [objOk, hc1]
    refine awp_skip ?_
    refine awp_seq ?_
    refine awp_seq ?_
    refine awp_region (by kernel_rfl) ?_
    (refine aL_S rfl rfl v_ ?_)
    refine aL_nil ?_
    refine awp_block ?_
    refine awp_loop_env (ι := Nat) (fun k => o.sibs.length - k) (fun k => k ≤ o.sibs.length ∧ sibsGo o.ctx (pvSib o.sibs k) (o.sibs.drop k) = sibsGo o.ctx none o.sibs) (fun k => [(1, .ref o1 0), (3, vInt k)]) (fun k => (σ.set o1 (.cells (sObj o).cells))) 0 ?_ ?_ ?_ ?_
    · exact ⟨Nat.zero_le _, rfl⟩
    · exact cv_
    · exact Store.Wk.refl _
    rintro k ⟨hk, hr⟩
    simp only [envL_cons, envL_nil]
    refine awp_seq ?_
    refine awp_seq ?_
    refine awp_region (by kernel_rfl) ?_
    iterate 5 (refine aL_S rfl rfl v_ ?_)
    refine aL_nil ?_
    refine awp_cond v_ (fun hc4 => ?_) (fun hc4 => ?_)
    · replace hc4 := nm_ hc4
      refine awp_skip ?_
      refine awp_seq ?_
      refine awp_block ?_
      refine awp_seq ?_
      obtain ⟨x, hxk⟩ := get_some (l := o.sibs) (k := k) (by omega)
      have hsx := ho.sibs x (List.mem_of_getElem? hxk)
      obtain ⟨y, hy, hah⟩ := pvSib_prev o.sibs k (by omega)
      have hst : sibsGo o.ctx (pvSib o.sibs k) (o.sibs.drop k) = (sibOk x && hasS o.ctx x.node x.n && aheadD (pvSib o.sibs k) x && sibsGo o.ctx (some x) (o.sibs.drop (k + 1))) := by rw [drop_cons hxk]; rfl
      have R := hxk
      refine awp_region (by kernel_rfl) ?_
      iterate 5 (refine aL_S rfl rfl v_ ?_)
      refine aL_alloc rfl rfl rfl g_ gl_ fun o4 ho4 => ?_
      repeat (rw [none_set_iff] at ho4; obtain ⟨_, ho4⟩ := ho4)
      refine aL_store rfl rfl rfl v_ v_ h_ g_ rfl g_ c_ (by rfl) le_ v_ ?_
      refine aL_nil ?_
      refine awp_seq ?_
      have R := hy
      refine awp_draw (.op 0 0 (.op 1 1 (.op 2 0 (.op 3 0 (.op 4 0 (.op 5 0 (.op 6 0 (.op 7 0 (.op 8 1 (.op 9 0 (.op 10 0 (.op 11 0 (.op 12 0 (.op 13 0 (.op 14 0 (.op 15 0 (.op 16 0 (.op 17 0 (.op 18 0 (.op 19 0 (.op 20 0 (.op 21 0 (.op 22 0 (.op 23 0 (.op 24 1 (.op 25 0 (.op 26 0 (.op 27 0 .nil)))))))))))))))))))))))))))) Tryz.mixed (by kernel_rfl) ?_
      (refine dR_S o_ (by rfl) (by rfl) v_ ?_)
      refine dR_X o_ (by rfl) (by rfl) (AOp_use (by rfl) (by rfl) (.inr ⟨by rfl, by rfl, by rfl⟩) g_ va_ (rIsSib_c hsx) ?_); rintro _ _ ⟨rfl, rfl⟩; refine ⟨sub_, ?_⟩
      iterate 2 (refine dR_S o_ (by rfl) (by rfl) v_ ?_)
      refine dR_GF o_ (by rfl) (by rfl) v_ (by rfl) vg_ ?_
      refine dR_GF o_ (by rfl) (by rfl) v_ (by rfl) vg_ ?_
      refine dR_GF o_ (by rfl) (by rfl) v_ (by rfl) vg_ ?_
      refine dR_GF o_ (by rfl) (by rfl) v_ (by rfl) vg_ ?_
      refine dR_GFX o_ (by rfl) (by rfl) v_ (by rfl) sub_ (fun hb => AOp_useV (by rfl) (by rfl) (.inr ⟨by rfl, by rfl, by rfl⟩) g_ cg_ (rHas_c ho.ctx (by omega))) ?_
      refine dR_GF o_ (by rfl) (by rfl) v_ (by rfl) vg_ ?_
      iterate 2 (refine dR_S o_ (by rfl) (by rfl) v_ ?_)
      refine dR_GF o_ (by rfl) (by rfl) v_ (by rfl) vg_ ?_
      refine dR_GF o_ (by rfl) (by rfl) v_ (by rfl) vg_ ?_
      refine dR_GF o_ (by rfl) (by rfl) v_ (by rfl) vg_ ?_
      refine dR_GGT o_ (by rfl) (by rfl) v_ (by rfl) vg_ ?_
      refine dR_GGT o_ (by rfl) (by rfl) v_ (by rfl) vg_ ?_
      refine dR_GGT o_ (by rfl) (by rfl) v_ (by rfl) vg_ ?_
      refine dR_GGT o_ (by rfl) (by rfl) v_ (by rfl) vg_ ?_
      refine dR_GGT o_ (by rfl) (by rfl) v_ (by rfl) vg_ ?_
      refine dR_GGT o_ (by rfl) (by rfl) v_ (by rfl) vg_ ?_
      refine dR_GGT o_ (by rfl) (by rfl) v_ (by rfl) vg_ ?_
      refine dR_GGT o_ (by rfl) (by rfl) v_ (by rfl) vg_ ?_
      refine dR_GGT o_ (by rfl) (by rfl) v_ (by rfl) vg_ ?_
      refine dR_GGTX o_ (by rfl) (by rfl) v_ (by rfl) sub_ (fun hb => AOp_useV (by rfl) (by rfl) (.inr ⟨by rfl, by rfl, by rfl⟩) g_ cg_ (rLess_c)) ?_
      refine dR_GGT o_ (by rfl) (by rfl) v_ (by rfl) vg_ ?_
      refine dR_GF o_ (by rfl) (by rfl) v_ (by rfl) vg_ ?_
      (refine dR_S o_ (by rfl) (by rfl) v_ ?_)
      refine dR_nil ?_
      refine awp_cond v_ (fun hc7 => ?_) (fun hc7 => ?_)
      · replace hc7 := nm_ hc7
        refine awp_seq ?_
        refine awp_region (by kernel_rfl) ?_
        (refine aL_S rfl rfl v_ ?_)
        refine aL_nil ?_
        refine awp_ret ?_
        refine aEnd_ret (σ' := σ) v_ sub_ ?_
        refine ⟨?_, rfl⟩
        rw [hob, ← hr, hst, sibs_no (hah _) hc7]
      · replace hc7 := nm_ hc7
        have hnx : sibsGo o.ctx (pvSib o.sibs (k + 1)) (o.sibs.drop (k + 1)) = sibsGo o.ctx none o.sibs := by rw [pvSib_next hxk, ← hr, hst, sibs_yes (hah _) hc7]
        refine awp_skip ?_
        refine awp_region (by kernel_rfl) ?_
        iterate 3 (refine aL_S rfl rfl v_ ?_)
        refine aL_nil ?_
        refine aNext (ι := Nat) (i := k) (k + 1) ?_ ?_ ?_ ?_
        · omega
        · exact ⟨by omega, hnx⟩
        · exact cv_
        · exact sub_
    · replace hc4 := nm_ hc4
      refine awp_exit ?_
      refine aThen_exit ?_
      refine aThen_exit ?_
      refine aBlock_hit ?_
      refine awp_seq ?_
      refine awp_region (by kernel_rfl) ?_
      (refine aL_S rfl rfl v_ ?_)
      refine aL_nil ?_
      refine awp_ret ?_
      refine aEnd_ret (σ' := σ) v_ sub_ ?_
      refine ⟨?_, rfl⟩
      rw [hob, ← hr, List.drop_eq_nil_of_le (by omega)]; rfl
theorem sameSibs_c {a b : List Sib} {ta tb : Bool} {σ : Store} (hla : a.length ≤ 1000000) (hlb : b.length ≤ 1000000) : ACalls Tryz.prog 62 [.sl 5 (a.map sSib) ta, .sl 5 (b.map sSib) tb] σ fun v σ' => (∃ r, v = vB r ∧ (r = true ↔ a = b)) ∧ σ = σ' := by
  refine ACalls_of Tryz.func62 rfl Tryz.ntmps62 (congrArg Array.toList Tryz.results62) (by simp only [List.length_cons, List.length_nil]; decide) ?_; simp only [envOf_cons, envOf_nil, Nat.reduceAdd]
  refine awp_seq ?_
  refine awp_region (by kernel_rfl) ?_
  (refine aL_S rfl rfl v_ ?_)
  refine aL_nil ?_
  refine awp_seq ?_
  refine awp_seq ?_
  refine awp_region (by kernel_rfl) ?_
  iterate 5 (refine aL_S rfl rfl v_ ?_)
  refine aL_nil ?_
  refine awp_cond v_ (fun hc1 => ?_) (fun hc1 => ?_)
  · replace hc1 := nm_ hc1
    refine awp_seq ?_
    refine awp_region (by kernel_rfl) ?_
    (refine aL_S rfl rfl v_ ?_)
    refine aL_nil ?_
    refine awp_ret ?_
    refine aEnd_ret (σ' := σ) v_ sub_ ?_
    exact ⟨⟨false, rfl, by simp; intro h; rw [h] at hc1; omega⟩, rfl⟩
  · replace hc1 := nm_ hc1
    refine awp_skip ?_
    refine awp_seq ?_
    refine awp_seq ?_
    refine awp_region (by kernel_rfl) ?_
    (refine aL_S rfl rfl v_ ?_)
    refine aL_nil ?_
    refine awp_block ?_
    refine awp_loop_env (ι := Nat) (fun k => a.length - k) (fun k => k ≤ a.length ∧ a.take k = b.take k) (fun k => [(0, .sl 5 (a.map sSib) ta), (1, .sl 5 (b.map sSib) tb), (5, vInt k)]) (fun k => σ) 0 ?_ ?_ ?_ ?_
    · exact ⟨Nat.zero_le _, rfl⟩
    · exact cv_
    · exact sub_
    rintro k ⟨hk, he⟩
    simp only [envL_cons, envL_nil]
    refine awp_seq ?_
    refine awp_seq ?_
    refine awp_region (by kernel_rfl) ?_
    iterate 5 (refine aL_S rfl rfl v_ ?_)
    refine aL_GT rfl rfl v_ rfl vg_ ?_
    refine aL_GT rfl rfl v_ rfl vg_ ?_
    refine aL_GT rfl rfl v_ rfl vg_ ?_
    refine aL_GT rfl rfl v_ rfl vg_ ?_
    (refine aL_S rfl rfl v_ ?_)
    refine aL_nil ?_
    refine awp_cond v_ (fun hc4 => ?_) (fun hc4 => ?_)
    · replace hc4 := nm_ hc4
      refine awp_skip ?_
      refine awp_seq ?_
      refine awp_block ?_
      refine awp_seq ?_
      obtain ⟨x, hx⟩ := get_some (l := a) (k := k) (by omega)
      obtain ⟨y, hy⟩ := get_some (l := b) (k := k) (by omega)
      have R := And.intro hx hy
      refine awp_draw (.op 0 0 (.op 1 0 (.op 2 0 (.op 3 0 (.op 4 0 (.op 5 0 (.op 6 0 (.op 7 0 (.op 8 0 .nil))))))))) Tryz.mixed (by kernel_rfl) ?_
      iterate 9 (refine dR_S o_ (by rfl) (by rfl) v_ ?_)
      refine dR_nil ?_
      refine awp_cond v_ (fun hc6 => ?_) (fun hc6 => ?_)
      · replace hc6 := nm_ hc6
        refine awp_seq ?_
        refine awp_region (by kernel_rfl) ?_
        (refine aL_S rfl rfl v_ ?_)
        refine aL_nil ?_
        refine awp_ret ?_
        refine aEnd_ret (σ' := σ) v_ sub_ ?_
        exact ⟨⟨false, rfl, by simp; intro h; rw [h, hy] at hx; obtain rfl := Option.some.inj hx; simp at hc6⟩, rfl⟩
      · replace hc6 := nm_ hc6
        have hxy : x = y := by cases x; cases y; simp at hc6 ⊢; exact ⟨hc6.1.1, hc6.1.2, hc6.2.1, hc6.2.2.1, hc6.2.2.2⟩
        refine awp_skip ?_
        refine awp_region (by kernel_rfl) ?_
        iterate 3 (refine aL_S rfl rfl v_ ?_)
        refine aL_nil ?_
        refine aNext (ι := Nat) (i := k) (k + 1) ?_ ?_ ?_ ?_
        · omega
        · exact ⟨by omega, by rw [take_snoc hx, take_snoc hy, he, hxy]⟩
        · exact cv_
        · exact sub_
    · replace hc4 := nm_ hc4
      refine awp_exit ?_
      refine aThen_exit ?_
      refine aThen_exit ?_
      refine aBlock_hit ?_
      refine awp_seq ?_
      refine awp_region (by kernel_rfl) ?_
      (refine aL_S rfl rfl v_ ?_)
      refine aL_nil ?_
      refine awp_ret ?_
      refine aEnd_ret (σ' := σ) v_ sub_ ?_
      exact ⟨⟨true, rfl, by simp; rwa [List.take_of_length_le (by omega), List.take_of_length_le (by omega)] at he⟩, rfl⟩
theorem same06_c {a b : List Seen} {ta tb : Bool} {σ : Store} (hA : ∀ x ∈ a, SeenSm x) (hB : ∀ x ∈ b, SeenSm x) (hla : a.length ≤ 1000000) (hlb : b.length ≤ 1000000) : ACalls Tryz.prog 61 [.sl 3 (a.map sSeen) ta, .sl 3 (b.map sSeen) tb] σ fun v σ' => (∃ r, v = vB r ∧ (r = true ↔ a = b)) ∧ σ = σ' := by
  refine ACalls_of Tryz.func61 rfl Tryz.ntmps61 (congrArg Array.toList Tryz.results61) (by simp only [List.length_cons, List.length_nil]; decide) ?_; simp only [envOf_cons, envOf_nil, Nat.reduceAdd]
  refine awp_seq ?_
  refine awp_region (by kernel_rfl) ?_
  (refine aL_S rfl rfl v_ ?_)
  refine aL_nil ?_
  refine awp_seq ?_
  refine awp_seq ?_
  refine awp_region (by kernel_rfl) ?_
  iterate 5 (refine aL_S rfl rfl v_ ?_)
  refine aL_nil ?_
  refine awp_cond v_ (fun hc1 => ?_) (fun hc1 => ?_)
  · replace hc1 := nm_ hc1
    refine awp_seq ?_
    refine awp_region (by kernel_rfl) ?_
    (refine aL_S rfl rfl v_ ?_)
    refine aL_nil ?_
    refine awp_ret ?_
    refine aEnd_ret (σ' := σ) v_ sub_ ?_
    exact ⟨⟨false, rfl, by simp; intro h; rw [h] at hc1; omega⟩, rfl⟩
  · replace hc1 := nm_ hc1
    refine awp_skip ?_
    refine awp_seq ?_
    refine awp_seq ?_
    refine awp_region (by kernel_rfl) ?_
    (refine aL_S rfl rfl v_ ?_)
    refine aL_nil ?_
    refine awp_block ?_
    refine awp_loop_env (ι := Nat) (fun k => a.length - k) (fun k => k ≤ a.length ∧ a.take k = b.take k) (fun k => [(0, .sl 3 (a.map sSeen) ta), (1, .sl 3 (b.map sSeen) tb), (5, vInt k)]) (fun k => σ) 0 ?_ ?_ ?_ ?_
    · exact ⟨Nat.zero_le _, rfl⟩
    · exact cv_
    · exact sub_
    rintro k ⟨hk, he⟩
    simp only [envL_cons, envL_nil]
    refine awp_seq ?_
    refine awp_seq ?_
    refine awp_region (by kernel_rfl) ?_
    iterate 5 (refine aL_S rfl rfl v_ ?_)
    refine aL_GT rfl rfl v_ rfl vg_ ?_
    refine aL_GT rfl rfl v_ rfl vg_ ?_
    refine aL_GT rfl rfl v_ rfl vg_ ?_
    refine aL_GT rfl rfl v_ rfl vg_ ?_
    (refine aL_S rfl rfl v_ ?_)
    refine aL_nil ?_
    refine awp_cond v_ (fun hc4 => ?_) (fun hc4 => ?_)
    · replace hc4 := nm_ hc4
      refine awp_skip ?_
      refine awp_seq ?_
      refine awp_block ?_
      refine awp_seq ?_
      obtain ⟨x, hx⟩ := get_some (l := a) (k := k) (by omega)
      obtain ⟨y, hy⟩ := get_some (l := b) (k := k) (by omega)
      have hsx := (hA x (List.mem_of_getElem? hx)).more
      have hsy := (hB y (List.mem_of_getElem? hy)).more
      have R := And.intro hx hy
      refine awp_draw (.op 0 0 (.op 1 0 (.op 2 0 (.op 3 0 (.op 4 0 (.op 5 0 (.op 6 0 (.op 7 0 (.op 8 0 (.op 9 0 (.op 10 0 (.op 11 0 (.op 12 0 (.op 13 0 (.op 14 0 (.op 15 0 (.op 16 0 (.op 17 0 (.op 18 0 (.op 19 0 (.op 20 0 (.op 21 0 (.op 22 0 (.op 23 0 (.op 24 0 (.op 25 0 (.op 26 0 (.op 27 0 (.op 28 0 (.op 29 0 (.op 30 0 (.op 31 0 (.op 32 0 (.op 33 0 (.op 34 0 (.op 35 1 (.op 36 0 (.op 37 0 .nil)))))))))))))))))))))))))))))))))))))) Tryz.mixed (by kernel_rfl) ?_
      iterate 12 (refine dR_S o_ (by rfl) (by rfl) v_ ?_)
      refine dR_GF o_ (by rfl) (by rfl) v_ (by rfl) vg_ ?_
      refine dR_GF o_ (by rfl) (by rfl) v_ (by rfl) vg_ ?_
      refine dR_GF o_ (by rfl) (by rfl) v_ (by rfl) vg_ ?_
      refine dR_GF o_ (by rfl) (by rfl) v_ (by rfl) vg_ ?_
      refine dR_GF o_ (by rfl) (by rfl) v_ (by rfl) vg_ ?_
      refine dR_GF o_ (by rfl) (by rfl) v_ (by rfl) vg_ ?_
      refine dR_GF o_ (by rfl) (by rfl) v_ (by rfl) vg_ ?_
      refine dR_GF o_ (by rfl) (by rfl) v_ (by rfl) vg_ ?_
      refine dR_GF o_ (by rfl) (by rfl) v_ (by rfl) vg_ ?_
      refine dR_GF o_ (by rfl) (by rfl) v_ (by rfl) vg_ ?_
      refine dR_GF o_ (by rfl) (by rfl) v_ (by rfl) vg_ ?_
      iterate 2 (refine dR_S o_ (by rfl) (by rfl) v_ ?_)
      refine dR_GF o_ (by rfl) (by rfl) v_ (by rfl) vg_ ?_
      refine dR_GF o_ (by rfl) (by rfl) v_ (by rfl) vg_ ?_
      refine dR_GF o_ (by rfl) (by rfl) v_ (by rfl) vg_ ?_
      refine dR_GF o_ (by rfl) (by rfl) v_ (by rfl) vg_ ?_
      refine dR_GF o_ (by rfl) (by rfl) v_ (by rfl) vg_ ?_
      refine dR_GF o_ (by rfl) (by rfl) v_ (by rfl) vg_ ?_
      refine dR_GF o_ (by rfl) (by rfl) v_ (by rfl) vg_ ?_
      refine dR_GF o_ (by rfl) (by rfl) v_ (by rfl) vg_ ?_
      refine dR_GF o_ (by rfl) (by rfl) v_ (by rfl) vg_ ?_
      refine dR_GF o_ (by rfl) (by rfl) v_ (by rfl) vg_ ?_
      refine dR_GFX o_ (by rfl) (by rfl) v_ (by rfl) sub_ (fun hb => AOp_useV (by rfl) (by rfl) (.inr ⟨by rfl, by rfl, by rfl⟩) g_ cg_ (sameInts_c hsx hsy)) ?_
      refine dR_GF o_ (by rfl) (by rfl) v_ (by rfl) vg_ ?_
      (refine dR_S o_ (by rfl) (by rfl) v_ ?_)
      refine dR_nil ?_
      refine awp_cond v_ (fun hc6 => ?_) (fun hc6 => ?_)
      · replace hc6 := nm_ hc6
        refine awp_seq ?_
        refine awp_region (by kernel_rfl) ?_
        (refine aL_S rfl rfl v_ ?_)
        refine aL_nil ?_
        refine awp_ret ?_
        refine aEnd_ret (σ' := σ) v_ sub_ ?_
        exact ⟨⟨false, rfl, by simp; intro h; rw [h, hy] at hx; obtain rfl := Option.some.inj hx; simp at hc6⟩, rfl⟩
      · replace hc6 := nm_ hc6
        have hxy : x = y := by cases x; cases y; simp at hc6 ⊢; exact ⟨hc6.1.1, hc6.1.2, hc6.2⟩
        refine awp_skip ?_
        refine awp_region (by kernel_rfl) ?_
        iterate 3 (refine aL_S rfl rfl v_ ?_)
        refine aL_nil ?_
        refine aNext (ι := Nat) (i := k) (k + 1) ?_ ?_ ?_ ?_
        · omega
        · exact ⟨by omega, by rw [take_snoc hx, take_snoc hy, he, hxy]⟩
        · exact cv_
        · exact sub_
    · replace hc4 := nm_ hc4
      refine awp_exit ?_
      refine aThen_exit ?_
      refine aThen_exit ?_
      refine aBlock_hit ?_
      refine awp_seq ?_
      refine awp_region (by kernel_rfl) ?_
      (refine aL_S rfl rfl v_ ?_)
      refine aL_nil ?_
      refine awp_ret ?_
      refine aEnd_ret (σ' := σ) v_ sub_ ?_
      exact ⟨⟨true, rfl, by simp; rwa [List.take_of_length_le (by omega), List.take_of_length_le (by omega)] at he⟩, rfl⟩
theorem obj_eq {a b : Obj'} : a = b ↔ a.ctx = b.ctx ∧ a.sibs = b.sibs := by cases a; cases b; simp
def sibsEq : List Sib → List Sib → Bool
  | [], [] => true
  | x :: a, y :: b => decide (x.node = y.node) && decide (x.n = y.n) && decide (x.value = y.value) && decide (x.gone = y.gone) && decide (x.time = y.time) && sibsEq a b
  | _, _ => false
theorem sibsEq_iff : ∀ {a b : List Sib}, sibsEq a b = true ↔ a = b
  | [], [] => by simp [sibsEq]
  | [], _ :: _ => by simp [sibsEq]
  | _ :: _, [] => by simp [sibsEq]
  | x :: a, y :: b => by
    cases x; cases y
    simp [sibsEq, sibsEq_iff (a := a) (b := b), and_assoc]
theorem sameSibs_f {a b : List Sib} {ta tb : Bool} {σ : Store} (hla : a.length ≤ 1000000) (hlb : b.length ≤ 1000000) : ACalls Tryz.prog 62 [.sl 5 (a.map sSib) ta, .sl 5 (b.map sSib) tb] σ fun v σ' => v = vB (sibsEq a b) ∧ σ = σ' :=
  (sameSibs_c hla hlb).wkS fun v σ' ⟨⟨r, hv, hr⟩, hs⟩ => ⟨v, σ', .refl _, .refl _, by rw [hv, show r = sibsEq a b from by rw [Bool.eq_iff_iff, hr, sibsEq_iff]], hs⟩
theorem same07_c {a b : Obj'} {σ : Store} (hA : ObjSm a) (hB : ObjSm b) : ACalls Tryz.prog 33 [sObj a, sObj b] σ fun v σ' => (∃ r, v = vB r ∧ (r = true ↔ a = b)) ∧ σ = σ' := by
  have n1 := hA.nc; have n2 := hA.ns; have n3 := hB.nc; have n4 := hB.ns
  refine ACalls_of Tryz.func33 rfl Tryz.ntmps33 (congrArg Array.toList Tryz.results33) (by simp only [List.length_cons, List.length_nil]; decide) ?_; simp only [envOf_cons, envOf_nil, Nat.reduceAdd]
  refine awp_seq ?_
  refine awp_region (by kernel_rfl) ?_
  refine aL_box rfl rfl rfl v_ rfl g_ fun o2 ho2 => ?_
  repeat (rw [none_set_iff] at ho2; obtain ⟨_, ho2⟩ := ho2)
  refine aL_box rfl rfl rfl v_ rfl g_ fun o3 ho3 => ?_
  repeat (rw [none_set_iff] at ho3; obtain ⟨_, ho3⟩ := ho3)
  (refine aL_S rfl rfl v_ ?_)
  refine aL_nil ?_
  refine awp_seq ?_
  refine awp_region (by kernel_rfl) ?_
  iterate 4 (refine aL_S rfl rfl v_ ?_)
  refine aL_X rfl rfl (AOp_use rfl rfl (.inr ⟨rfl, rfl, rfl⟩) g_ va_ (same06_c hA.ctx hB.ctx (by omega) (by omega)) ?_); rintro _ _ ⟨⟨r, rfl, h1⟩, rfl⟩
  (refine aL_S rfl rfl v_ ?_)
  refine aL_GT rfl rfl v_ rfl vg_ ?_
  refine aL_GT rfl rfl v_ rfl vg_ ?_
  refine aL_GT rfl rfl v_ rfl vg_ ?_
  refine aL_GT rfl rfl v_ rfl vg_ ?_
  refine aL_GTX rfl rfl v_ rfl (fun hb => AOp_useV (by rfl) (by rfl) (.inr ⟨by rfl, by rfl, by rfl⟩) g_ cg_ (sameSibs_f (by omega) (by omega))) ?_
  iterate 2 (refine aL_S rfl rfl v_ ?_)
  refine aL_nil ?_
  refine awp_ret ?_
  refine aEnd_ret (σ' := σ) v_ sub_ ?_
  refine ⟨⟨_, rfl, ?_⟩, rfl⟩
  rw [Bool.and_eq_true, h1, sibsEq_iff, obj_eq]
/-- few parts, of few bytes -/
def FewC (c : List Seen) : Prop := c.length ≤ 12 ∧ ∀ x ∈ c, x.node.size ≤ 100 ∧ x.more.length ≤ 40
def FewO (o : Obj') : Prop := FewC o.ctx ∧ o.sibs.length ≤ 12 ∧ ∀ x ∈ o.sibs, x.value.size ≤ 300 ∧ x.node.size ≤ 100
theorem few06_c {c : List Seen} {t : Bool} {σ : Store} : ACalls Tryz.prog 50 [.sl 3 (c.map sSeen) t] σ fun v σ' => (∃ r, v = vB r ∧ (r = true ↔ FewC c)) ∧ σ = σ' := by
  refine ACalls_of Tryz.func50 rfl Tryz.ntmps50 (congrArg Array.toList Tryz.results50) (by simp only [List.length_cons, List.length_nil]; decide) ?_; simp only [envOf_cons, envOf_nil, Nat.reduceAdd]
  refine awp_seq ?_
  refine awp_region (by kernel_rfl) ?_
  (refine aL_S rfl rfl v_ ?_)
  refine aL_nil ?_
  refine awp_seq ?_
  refine awp_seq ?_
  refine awp_region (by kernel_rfl) ?_
  (refine aL_S rfl rfl v_ ?_)
  refine aL_nil ?_
  refine awp_block ?_
  refine awp_loop_env (ι := Nat) (fun k => c.length - k) (fun k => k ≤ c.length ∧ k ≤ 12 ∧ ∀ j x, j < k → c[j]? = some x → x.node.size ≤ 100 ∧ x.more.length ≤ 40) (fun k => [(0, .sl 3 (c.map sSeen) t), (3, vInt k)]) (fun k => σ) 0 ?_ ?_ ?_ ?_
  · exact ⟨Nat.zero_le _, by decide, fun j x h => by omega⟩
  · exact cv_
  · exact sub_
  rintro k ⟨hk, hk2, ha⟩
  simp only [envL_cons, envL_nil]
  refine awp_seq ?_
  refine awp_seq ?_
  refine awp_region (by kernel_rfl) ?_
  iterate 5 (refine aL_S rfl rfl v_ ?_)
  refine aL_GT rfl rfl v_ rfl vg_ ?_
  refine aL_GT rfl rfl v_ rfl vg_ ?_
  (refine aL_S rfl rfl v_ ?_)
  refine aL_nil ?_
  refine awp_cond v_ (fun hc2 => ?_) (fun hc2 => ?_)
  · replace hc2 := nm_ hc2
    refine awp_skip ?_
    refine awp_seq ?_
    refine awp_block ?_
    refine awp_seq ?_
    obtain ⟨x, hx⟩ := get_some (l := c) (k := k) (by omega)
    have R := hx
    refine awp_region (by kernel_rfl) ?_
    iterate 8 (refine aL_S rfl rfl v_ ?_)
    refine aL_GF rfl rfl v_ rfl vg_ ?_
    refine aL_GF rfl rfl v_ rfl vg_ ?_
    refine aL_GF rfl rfl v_ rfl vg_ ?_
    refine aL_GF rfl rfl v_ rfl vg_ ?_
    refine aL_GF rfl rfl v_ rfl vg_ ?_
    refine aL_GF rfl rfl v_ rfl vg_ ?_
    refine aL_GF rfl rfl v_ rfl vg_ ?_
    (refine aL_S rfl rfl v_ ?_)
    refine aL_nil ?_
    refine awp_cond v_ (fun hc4 => ?_) (fun hc4 => ?_)
    · replace hc4 := nm_ hc4
      refine awp_seq ?_
      refine awp_region (by kernel_rfl) ?_
      (refine aL_S rfl rfl v_ ?_)
      refine aL_nil ?_
      refine awp_ret ?_
      refine aEnd_ret (σ' := σ) v_ sub_ ?_
      exact ⟨⟨false, rfl, (fun h => by cases h), fun h => by have := h.2 x (List.mem_of_getElem? hx); omega⟩, rfl⟩
    · replace hc4 := nm_ hc4
      refine awp_skip ?_
      refine awp_region (by kernel_rfl) ?_
      iterate 3 (refine aL_S rfl rfl v_ ?_)
      refine aL_nil ?_
      refine aNext (ι := Nat) (i := k) (k + 1) ?_ ?_ ?_ ?_
      · omega
      · exact ⟨by omega, by omega, fun j y hj hy => by rcases Nat.lt_or_eq_of_le (Nat.le_of_lt_succ hj) with h | h; exact ha j y h hy; rw [h, hx] at hy; obtain rfl := Option.some.inj hy; omega⟩
      · exact cv_
      · exact sub_
  · replace hc2 := nm_ hc2
    refine awp_exit ?_
    refine aThen_exit ?_
    refine aThen_exit ?_
    refine aBlock_hit ?_
    refine awp_seq ?_
    refine awp_region (by kernel_rfl) ?_
    iterate 4 (refine aL_S rfl rfl v_ ?_)
    refine aL_nil ?_
    refine awp_ret ?_
    refine aEnd_ret (σ' := σ) v_ sub_ ?_
    exact ⟨⟨_, rfl, (fun h => by
    have h12 : c.length ≤ 12 := by rw [decide_eq_true_eq] at h; omega
    exact ⟨h12, fun x hx => by
      obtain ⟨j, hj⟩ := List.mem_iff_getElem?.1 hx
      have := (List.getElem?_eq_some_iff.1 hj).1
      exact ha j x (by omega) hj⟩), fun h => by have := h.1; rw [decide_eq_true_eq]; omega⟩, rfl⟩
theorem few07_c {o : Obj'} {σ : Store} : ACalls Tryz.prog 28 [sObj o] σ fun v σ' => (∃ r, v = vB r ∧ (r = true ↔ FewO o)) ∧ σ = σ' := by
  refine ACalls_of Tryz.func28 rfl Tryz.ntmps28 (congrArg Array.toList Tryz.results28) (by simp only [List.length_cons, List.length_nil]; decide) ?_; simp only [envOf_cons, envOf_nil, Nat.reduceAdd]
  refine awp_seq ?_
  refine awp_region (by kernel_rfl) ?_
  refine aL_box rfl rfl rfl v_ rfl g_ fun o1 ho1 => ?_
  repeat (rw [none_set_iff] at ho1; obtain ⟨_, ho1⟩ := ho1)
  (refine aL_S rfl rfl v_ ?_)
  refine aL_nil ?_
  refine awp_seq ?_
  refine awp_seq ?_
  refine awp_region (by kernel_rfl) ?_
  (refine aL_S rfl rfl v_ ?_)
  refine aL_nil ?_
  refine awp_block ?_
  refine awp_loop_env (ι := Nat) (fun k => o.sibs.length - k) (fun k => k ≤ o.sibs.length ∧ k ≤ 12 ∧ ∀ j x, j < k → o.sibs[j]? = some x → x.value.size ≤ 300 ∧ x.node.size ≤ 100) (fun k => [(1, .ref o1 0), (3, vInt k)]) (fun k => (σ.set o1 (.cells (sObj o).cells))) 0 ?_ ?_ ?_ ?_
  · exact ⟨Nat.zero_le _, by decide, fun j x h => by omega⟩
  · exact cv_
  · exact Store.Wk.refl _
  rintro k ⟨hk, hk2, ha⟩
  simp only [envL_cons, envL_nil]
  refine awp_seq ?_
  refine awp_seq ?_
  refine awp_region (by kernel_rfl) ?_
  iterate 6 (refine aL_S rfl rfl v_ ?_)
  refine aL_GT rfl rfl v_ rfl vg_ ?_
  refine aL_GT rfl rfl v_ rfl vg_ ?_
  (refine aL_S rfl rfl v_ ?_)
  refine aL_nil ?_
  refine awp_cond v_ (fun hc2 => ?_) (fun hc2 => ?_)
  · replace hc2 := nm_ hc2
    refine awp_skip ?_
    refine awp_seq ?_
    refine awp_block ?_
    refine awp_seq ?_
    obtain ⟨x, hx⟩ := get_some (l := o.sibs) (k := k) (by omega)
    have R := hx
    refine awp_region (by kernel_rfl) ?_
    iterate 9 (refine aL_S rfl rfl v_ ?_)
    refine aL_GF rfl rfl v_ rfl vg_ ?_
    refine aL_GF rfl rfl v_ rfl vg_ ?_
    refine aL_GF rfl rfl v_ rfl vg_ ?_
    refine aL_GF rfl rfl v_ rfl vg_ ?_
    refine aL_GF rfl rfl v_ rfl vg_ ?_
    refine aL_GF rfl rfl v_ rfl vg_ ?_
    refine aL_GF rfl rfl v_ rfl vg_ ?_
    refine aL_GF rfl rfl v_ rfl vg_ ?_
    refine aL_GF rfl rfl v_ rfl vg_ ?_
    (refine aL_S rfl rfl v_ ?_)
    refine aL_nil ?_
    refine awp_cond v_ (fun hc4 => ?_) (fun hc4 => ?_)
    · replace hc4 := nm_ hc4
      refine awp_seq ?_
      refine awp_region (by kernel_rfl) ?_
      (refine aL_S rfl rfl v_ ?_)
      refine aL_nil ?_
      refine awp_ret ?_
      refine aEnd_ret (σ' := σ) v_ sub_ ?_
      exact ⟨⟨false, rfl, (fun h => by cases h), fun h => by have := h.2.2 x (List.mem_of_getElem? hx); omega⟩, rfl⟩
    · replace hc4 := nm_ hc4
      refine awp_skip ?_
      refine awp_region (by kernel_rfl) ?_
      iterate 3 (refine aL_S rfl rfl v_ ?_)
      refine aL_nil ?_
      refine aNext (ι := Nat) (i := k) (k + 1) ?_ ?_ ?_ ?_
      · omega
      · exact ⟨by omega, by omega, fun j y hj hy => by rcases Nat.lt_or_eq_of_le (Nat.le_of_lt_succ hj) with h | h; exact ha j y h hy; rw [h, hx] at hy; obtain rfl := Option.some.inj hy; omega⟩
      · exact cv_
      · exact sub_
  · replace hc2 := nm_ hc2
    refine awp_exit ?_
    refine aThen_exit ?_
    refine aThen_exit ?_
    refine aBlock_hit ?_
    refine awp_seq ?_
    refine awp_region (by kernel_rfl) ?_
    iterate 2 (refine aL_S rfl rfl v_ ?_)
    refine aL_X rfl rfl (AOp_use rfl rfl (.inr ⟨rfl, rfl, rfl⟩) g_ va_ (few06_c) ?_); rintro _ _ ⟨⟨r, rfl, hr⟩, rfl⟩
    (refine aL_S rfl rfl v_ ?_)
    refine aL_GT rfl rfl v_ rfl vg_ ?_
    refine aL_GT rfl rfl v_ rfl vg_ ?_
    refine aL_GT rfl rfl v_ rfl vg_ ?_
    refine aL_GT rfl rfl v_ rfl vg_ ?_
    iterate 2 (refine aL_S rfl rfl v_ ?_)
    refine aL_nil ?_
    refine awp_ret ?_
    refine aEnd_ret (σ' := σ) v_ sub_ ?_
    refine ⟨⟨_, rfl, (fun h => ?_), fun h => ?_⟩, rfl⟩
    rotate_left
    · rw [Bool.and_eq_true, decide_eq_true_eq]; exact ⟨hr.2 h.1, by have := h.2.1; omega⟩
    rw [Bool.and_eq_true, decide_eq_true_eq] at h
    have h12 : o.sibs.length ≤ 12 := by omega
    refine ⟨hr.1 h.1, h12, fun x hx => ?_⟩
    obtain ⟨j, hj⟩ := List.mem_iff_getElem?.1 hx
    have := (List.getElem?_eq_some_iff.1 hj).1
    exact ha j x (by omega) hj
end Go.Proofs.YtbomkkjhafdhiaaGreat
end

section
set_option linter.all false
set_option maxRecDepth 100000
namespace Go.Proofs.YtbomkkjhafdhiaaGreat
open Go.Ab

def upGo {α : Type} (ok : α → Bool) (key : α → ByteArray) : Option ByteArray → List α → Bool
  | _, [] => true
  | pv, x :: l => ok x && aheadOk pv (key x) && upGo ok key (some (key x)) l
theorem upGo_and {α : Type} {f g : α → Bool} {key : α → ByteArray} : ∀ {pv : Option ByteArray} {l : List α}, upGo (fun x => f x && g x) key pv l = (upGo f key pv l && l.all g)
  | _, [] => rfl
  | pv, x :: l => by
    simp only [upGo, List.all_cons, upGo_and (l := l)]
    cases f x <;> cases g x <;> cases aheadOk pv (key x) <;> simp
def pvK {α : Type} (key : α → ByteArray) (c : List α) (k : Nat) : Option ByteArray := if k = 0 then none else (c[k - 1]?).map key
theorem pvK_next {α : Type} {key : α → ByteArray} {c : List α} {k : Nat} {x : α} (h : c[k]? = some x) : pvK key c (k + 1) = some (key x) := by simp [pvK, h]
theorem pvK_prev {α : Type} (key : α → ByteArray) (c : List α) (k : Nat) (hk : k < c.length) : ∃ y : α, (0 < k → c[((k : Int) - 1).toNat]? = some y) ∧ ∀ s, aheadOk (pvK key c k) s = (decide (k = 0) || sLt (key y) s) := by
  by_cases h0 : k = 0
  · subst h0
    obtain ⟨y, hy⟩ := get_some hk
    exact ⟨y, fun h => by omega, fun s => rfl⟩
  · obtain ⟨y, hy⟩ := get_some (l := c) (k := k - 1) (by omega)
    have e : ((k : Int) - 1).toNat = k - 1 := by omega
    exact ⟨y, fun _ => by rw [e]; exact hy, fun s => by simp [pvK, h0, hy, aheadOk]⟩
theorem up_no {a b r s : Bool} {k : Nat} (hb : b = (decide (k = 0) || s)) (h : a = false ∨ 0 < (k : Int) ∧ s = false) : (a && b && r) = false := by
  rcases h with h | ⟨h, h'⟩
  · rw [h]; rfl
  · rw [hb, h', decide_eq_false (show ¬ k = 0 by omega)]; simp
theorem up_yes {a b r s : Bool} {k : Nat} (hb : b = (decide (k = 0) || s)) (h : a = true ∧ ((k : Int) ≤ 0 ∨ s = true)) : (a && b && r) = r := by
  obtain ⟨h1, h2⟩ := h
  have : b = true := by
    rw [hb]
    rcases h2 with h | h
    · rw [decide_eq_true (show k = 0 by omega)]; rfl
    · rw [h]; simp
  rw [h1, this]; rfl
def itemsOk (l : List Itm) : Bool := upGo (fun x => placeOk x.place && objOk x.obj) Itm.place none l
theorem itemPlace_c {x : Itm} {σ : Store} : ACalls Tryz.prog 64 [sItem x] σ fun v σ' => v = vStr x.place ∧ σ = σ' := by
  refine ACalls_of Tryz.func64 rfl Tryz.ntmps64 (congrArg Array.toList Tryz.results64) (by simp only [List.length_cons, List.length_nil]; decide) ?_; simp only [envOf_cons, envOf_nil, Nat.reduceAdd]
  refine awp_seq ?_
  refine awp_region (by kernel_rfl) ?_
  refine aL_box rfl rfl rfl v_ rfl g_ fun o1 ho1 => ?_
  repeat (rw [none_set_iff] at ho1; obtain ⟨_, ho1⟩ := ho1)
  (refine aL_S rfl rfl v_ ?_)
  refine aL_nil ?_
  refine awp_seq ?_
  refine awp_region (by kernel_rfl) ?_
  iterate 3 (refine aL_S rfl rfl v_ ?_)
  refine aL_nil ?_
  refine awp_ret ?_
  refine aEnd_ret (σ' := σ) v_ sub_ ?_
  exact ⟨rfl, rfl⟩
theorem riseI_c {l : List Itm} {t : Bool} {σ : Store} (hx : ∀ x ∈ l, x.place.size ≤ 1000000) (hn : l.length ≤ 1000000) : ACalls Tryz.prog 63 [.sl 3 (l.map sItem) t, .lit (.func (.func 64) #[] #[])] σ fun v σ' => v = vB (upGo (fun x => placeOk x.place) Itm.place none l) ∧ σ = σ' := by
  refine ACalls_of Tryz.func63 rfl Tryz.ntmps63 (congrArg Array.toList Tryz.results63) (by simp only [List.length_cons, List.length_nil]; decide) ?_; simp only [envOf_cons, envOf_nil, Nat.reduceAdd]
  refine awp_seq ?_
  refine awp_region (by kernel_rfl) ?_
  (refine aL_S rfl rfl v_ ?_)
  refine aL_nil ?_
  refine awp_seq ?_
  refine awp_seq ?_
  refine awp_region (by kernel_rfl) ?_
  iterate 3 (refine aL_S rfl rfl v_ ?_)
  refine aL_nil ?_
  refine awp_block ?_
  refine awp_loop_env (ι := Nat) (fun k => l.length - k) (fun k => k ≤ l.length ∧ upGo (fun x => placeOk x.place) Itm.place (pvK Itm.place l k) (l.drop k) = upGo (fun x => placeOk x.place) Itm.place none l) (fun k => [(0, .sl 3 (l.map sItem) t), (1, .lit (.func (.func 64) #[] #[])), (7, .sl 3 (l.map sItem) t), (8, vInt l.length), (9, vInt k)]) (fun k => σ) 0 ?_ ?_ ?_ ?_
  · exact ⟨Nat.zero_le _, rfl⟩
  · exact cv_
  · exact sub_
  rintro k ⟨hk, hr⟩
  simp only [envL_cons, envL_nil]
  refine awp_seq ?_
  refine awp_region (by kernel_rfl) ?_
  (refine aL_S rfl rfl v_ ?_)
  refine aL_nil ?_
  refine awp_seq ?_
  refine awp_cond v_ (fun hc2 => ?_) (fun hc2 => ?_)
  · replace hc2 := nm_ hc2
    refine awp_skip ?_
    refine awp_seq ?_
    refine awp_block ?_
    refine awp_seq ?_
    obtain ⟨x, hxk⟩ := get_some (l := l) (k := k) (by omega)
    have hsx := hx x (List.mem_of_getElem? hxk)
    obtain ⟨y, hy, hah⟩ := pvK_prev Itm.place l k (by omega)
    have hst : upGo (fun x => placeOk x.place) Itm.place (pvK Itm.place l k) (l.drop k) = (placeOk x.place && aheadOk (pvK Itm.place l k) x.place && upGo (fun x => placeOk x.place) Itm.place (some x.place) (l.drop (k + 1))) := by rw [drop_cons hxk]; rfl
    have R := hxk
    refine awp_region (by kernel_rfl) ?_
    iterate 3 (refine aL_S rfl rfl v_ ?_)
    refine aL_alloc rfl rfl rfl g_ gl_ fun o6 ho6 => ?_
    repeat (rw [none_set_iff] at ho6; obtain ⟨_, ho6⟩ := ho6)
    (refine aL_S rfl rfl v_ ?_)
    refine aL_store rfl rfl rfl v_ v_ h_ g_ rfl g_ c_ (by rfl) le_ v_ ?_
    refine aL_nil ?_
    refine awp_seq ?_
    have R := hy
    refine awp_draw (.op 0 0 (.op 1 0 (.op 2 1 (.op 3 1 (.op 4 0 (.op 5 0 (.op 6 0 (.op 7 0 (.op 8 0 (.op 9 0 (.op 10 0 (.op 11 0 (.op 12 0 (.op 13 0 (.op 14 0 (.op 16 0 (.op 17 0 (.op 15 1 (.op 18 1 (.op 19 0 (.op 20 0 (.op 21 0 .nil)))))))))))))))))))))) Tryz.mixed (by kernel_rfl) ?_
    iterate 2 (refine dR_S o_ (by rfl) (by rfl) v_ ?_)
    refine dR_X o_ (by rfl) (by rfl) (AOp_use (by rfl) (by rfl) (.inr ⟨va_, by rfl, by rfl⟩) g_ va_ (itemPlace_c) ?_); rintro _ _ ⟨rfl, rfl⟩; refine ⟨sub_, ?_⟩
    refine dR_X o_ (by rfl) (by rfl) (AOp_use (by rfl) (by rfl) (.inr ⟨by rfl, by rfl, by rfl⟩) g_ va_ (isPlace_c (by omega)) ?_); rintro _ _ ⟨rfl, rfl⟩; refine ⟨sub_, ?_⟩
    iterate 2 (refine dR_S o_ (by rfl) (by rfl) v_ ?_)
    refine dR_GF o_ (by rfl) (by rfl) v_ (by rfl) vg_ ?_
    refine dR_GF o_ (by rfl) (by rfl) v_ (by rfl) vg_ ?_
    refine dR_GF o_ (by rfl) (by rfl) v_ (by rfl) vg_ ?_
    refine dR_GGT o_ (by rfl) (by rfl) v_ (by rfl) vg_ ?_
    refine dR_GGT o_ (by rfl) (by rfl) v_ (by rfl) vg_ ?_
    refine dR_GGT o_ (by rfl) (by rfl) v_ (by rfl) vg_ ?_
    refine dR_GGT o_ (by rfl) (by rfl) v_ (by rfl) vg_ ?_
    refine dR_GGT o_ (by rfl) (by rfl) v_ (by rfl) vg_ ?_
    refine dR_GGT o_ (by rfl) (by rfl) v_ (by rfl) vg_ ?_
    refine dR_GGT o_ (by rfl) (by rfl) v_ (by rfl) vg_ ?_
    refine dR_GGT o_ (by rfl) (by rfl) v_ (by rfl) vg_ ?_
    refine dR_GGTX o_ (by rfl) (by rfl) v_ (by rfl) sub_ (fun hb => AOp_useV (by rfl) (by rfl) (.inr ⟨vh_, by rfl, by rfl⟩) g_ cg_ (itemPlace_c)) ?_
    refine dR_GGTX o_ (by rfl) (by rfl) v_ (by rfl) sub_ (fun hb => AOp_useV (by rfl) (by rfl) (.inr ⟨vh_, by rfl, by rfl⟩) g_ cg_ (itemPlace_c)) ?_
    refine dR_GGT o_ (by rfl) (by rfl) v_ (by rfl) vg_ ?_
    refine dR_GF o_ (by rfl) (by rfl) v_ (by rfl) vg_ ?_
    (refine dR_S o_ (by rfl) (by rfl) v_ ?_)
    refine dR_nil ?_
    refine awp_cond v_ (fun hc4 => ?_) (fun hc4 => ?_)
    · replace hc4 := nm_ hc4
      refine awp_seq ?_
      refine awp_region (by kernel_rfl) ?_
      (refine aL_S rfl rfl v_ ?_)
      refine aL_nil ?_
      refine awp_ret ?_
      refine aEnd_ret (σ' := σ) v_ sub_ ?_
      refine ⟨?_, rfl⟩
      rw [← hr, hst, up_no (hah _) hc4]
    · replace hc4 := nm_ hc4
      have hnx : upGo (fun x => placeOk x.place) Itm.place (pvK Itm.place l (k + 1)) (l.drop (k + 1)) = upGo (fun x => placeOk x.place) Itm.place none l := by rw [pvK_next hxk, ← hr, hst, up_yes (hah _) hc4]
      refine awp_skip ?_
      refine awp_region (by kernel_rfl) ?_
      iterate 2 (refine aL_S rfl rfl v_ ?_)
      refine aL_nil ?_
      refine aNext (ι := Nat) (i := k) (k + 1) ?_ ?_ ?_ ?_
      · omega
      · exact ⟨by omega, hnx⟩
      · exact cv_
      · exact sub_
  · replace hc2 := nm_ hc2
    refine awp_exit ?_
    refine aThen_exit ?_
    refine aThen_exit ?_
    refine aBlock_hit ?_
    refine awp_seq ?_
    refine awp_region (by kernel_rfl) ?_
    (refine aL_S rfl rfl v_ ?_)
    refine aL_nil ?_
    refine awp_ret ?_
    refine aEnd_ret (σ' := σ) v_ sub_ ?_
    refine ⟨?_, rfl⟩
    rw [← hr, List.drop_eq_nil_of_le (by omega)]; rfl
theorem rise0_c {σ : Store} : ACalls Tryz.prog 65 [.lit (.slice none 0 0), .lit (.func (.func 66) #[] #[])] σ fun v σ' => v = vB true ∧ σ = σ' := by
  refine ACalls_of Tryz.func65 rfl Tryz.ntmps65 (congrArg Array.toList Tryz.results65) (by simp only [List.length_cons, List.length_nil]; decide) ?_; simp only [envOf_cons, envOf_nil, Nat.reduceAdd]
  refine awp_seq ?_
  refine awp_region (by kernel_rfl) ?_
  (refine aL_S rfl rfl v_ ?_)
  refine aL_nil ?_
  refine awp_seq ?_
  refine awp_seq ?_
  refine awp_region (by kernel_rfl) ?_
  iterate 3 (refine aL_S rfl rfl v_ ?_)
  refine aL_nil ?_
  refine awp_block ?_
  refine awp_loop_env (ι := Nat) (fun k => 0 - k) (fun k => k = 0) (fun k => [(0, .lit (.slice none 0 0)), (1, .lit (.func (.func 66) #[] #[])), (7, .lit (.slice none 0 0)), (8, vInt 0), (9, vInt k)]) (fun k => σ) 0 ?_ ?_ ?_ ?_
  · rfl
  · exact cv_
  · exact sub_
  rintro k hk
  simp only [envL_cons, envL_nil]
  refine awp_seq ?_
  refine awp_region (by kernel_rfl) ?_
  (refine aL_S rfl rfl v_ ?_)
  refine aL_nil ?_
  refine awp_seq ?_
  refine awp_cond v_ (fun hc2 => ?_) (fun hc2 => ?_)
  · replace hc2 := nm_ hc2
    subst hk; exact absurd hc2 (by decide)
  · replace hc2 := nm_ hc2
    refine awp_exit ?_
    refine aThen_exit ?_
    refine aThen_exit ?_
    refine aBlock_hit ?_
    refine awp_seq ?_
    refine awp_region (by kernel_rfl) ?_
    (refine aL_S rfl rfl v_ ?_)
    refine aL_nil ?_
    refine awp_ret ?_
    refine aEnd_ret (σ' := σ) v_ sub_ ?_
    exact ⟨rfl, rfl⟩
theorem checkI1_c {x : Itm} {σ : Store} (hx : ObjSm x.obj) : ACalls Tryz.prog 68 [sItem x] σ fun v σ' => v = vB (!objOk x.obj) ∧ σ = σ' := by
  refine ACalls_of Tryz.func68 rfl Tryz.ntmps68 (congrArg Array.toList Tryz.results68) (by simp only [List.length_cons, List.length_nil]; decide) ?_; simp only [envOf_cons, envOf_nil, Nat.reduceAdd]
  refine awp_seq ?_
  refine awp_region (by kernel_rfl) ?_
  refine aL_box rfl rfl rfl v_ rfl g_ fun o1 ho1 => ?_
  repeat (rw [none_set_iff] at ho1; obtain ⟨_, ho1⟩ := ho1)
  (refine aL_S rfl rfl v_ ?_)
  refine aL_nil ?_
  refine awp_seq ?_
  refine awp_region (by kernel_rfl) ?_
  iterate 2 (refine aL_S rfl rfl v_ ?_)
  refine aL_X rfl rfl (AOp_use rfl rfl (.inr ⟨rfl, rfl, rfl⟩) g_ va_ (oCheck_c hx) ?_); rintro _ _ ⟨rfl, rfl⟩
  iterate 2 (refine aL_S rfl rfl v_ ?_)
  refine aL_nil ?_
  refine awp_ret ?_
  refine aEnd_ret (σ' := σ) v_ sub_ ?_
  refine ⟨?_, rfl⟩
  cases objOk x.obj <;> rfl
theorem indexI_c {l : List Itm} {t : Bool} {σ : Store} (hx : ∀ x ∈ l, ObjSm x.obj) (hn : l.length ≤ 1000000) : ACalls Tryz.prog 47 [.sl 3 (l.map sItem) t, .lit (.func (.func 68) #[] #[])] σ fun v σ' => (∃ r, v = vInt r ∧ decide (0 ≤ r) = l.any (fun x => !objOk x.obj)) ∧ σ = σ' := by
  refine ACalls_of Tryz.func47 rfl Tryz.ntmps47 (congrArg Array.toList Tryz.results47) (by simp only [List.length_cons, List.length_nil]; decide) ?_; simp only [envOf_cons, envOf_nil, Nat.reduceAdd]
  refine awp_seq ?_
  refine awp_region (by kernel_rfl) ?_
  (refine aL_S rfl rfl v_ ?_)
  refine aL_nil ?_
  refine awp_seq ?_
  refine awp_seq ?_
  refine awp_region (by kernel_rfl) ?_
  iterate 3 (refine aL_S rfl rfl v_ ?_)
  refine aL_nil ?_
  refine awp_block ?_
  refine awp_loop_env (ι := Nat) (fun k => l.length - k) (fun k => k ≤ l.length ∧ (l.take k).any (fun x => !objOk x.obj) = false) (fun k => [(0, .sl 3 (l.map sItem) t), (1, .lit (.func (.func 68) #[] #[])), (7, vInt l.length), (8, vInt k)]) (fun k => σ) 0 ?_ ?_ ?_ ?_
  · exact ⟨Nat.zero_le _, rfl⟩
  · exact cv_
  · exact sub_
  rintro k ⟨hk, ha⟩
  simp only [envL_cons, envL_nil]
  refine awp_seq ?_
  refine awp_region (by kernel_rfl) ?_
  (refine aL_S rfl rfl v_ ?_)
  refine aL_nil ?_
  refine awp_seq ?_
  refine awp_cond v_ (fun hc2 => ?_) (fun hc2 => ?_)
  · replace hc2 := nm_ hc2
    refine awp_skip ?_
    refine awp_seq ?_
    refine awp_block ?_
    refine awp_seq ?_
    obtain ⟨x, hxk⟩ := get_some (l := l) (k := k) (by omega)
    have hsx := hx x (List.mem_of_getElem? hxk)
    refine awp_region (by kernel_rfl) ?_
    iterate 2 (refine aL_S rfl rfl v_ ?_)
    refine aL_nil ?_
    refine awp_seq ?_
    have R := hxk
    refine awp_region (by kernel_rfl) ?_
    iterate 5 (refine aL_S rfl rfl v_ ?_)
    refine aL_X rfl rfl (AOp_use rfl rfl (.inr ⟨va_, rfl, rfl⟩) g_ va_ (checkI1_c hsx) ?_); rintro _ _ ⟨rfl, rfl⟩
    refine aL_nil ?_
    refine awp_cond v_ (fun hc4 => ?_) (fun hc4 => ?_)
    · replace hc4 := nm_ hc4
      refine awp_seq ?_
      refine awp_region (by kernel_rfl) ?_
      iterate 2 (refine aL_S rfl rfl v_ ?_)
      refine aL_nil ?_
      refine awp_ret ?_
      refine aEnd_ret (σ' := σ) v_ sub_ ?_
      exact ⟨⟨(k : Int), rfl, by rw [decide_eq_true (by omega)]; exact (any_yes hxk (by simpa using hc4)).symm⟩, rfl⟩
    · replace hc4 := nm_ hc4
      refine awp_skip ?_
      refine awp_region (by kernel_rfl) ?_
      iterate 2 (refine aL_S rfl rfl v_ ?_)
      refine aL_nil ?_
      refine aNext (ι := Nat) (i := k) (k + 1) ?_ ?_ ?_ ?_
      · omega
      · exact ⟨by omega, any_next hxk (by simpa using hc4) ha⟩
      · exact cv_
      · exact sub_
  · replace hc2 := nm_ hc2
    refine awp_exit ?_
    refine aThen_exit ?_
    refine aThen_exit ?_
    refine aBlock_hit ?_
    refine awp_seq ?_
    refine awp_region (by kernel_rfl) ?_
    (refine aL_S rfl rfl v_ ?_)
    refine aL_nil ?_
    refine awp_ret ?_
    refine aEnd_ret (σ' := σ) v_ sub_ ?_
    exact ⟨⟨-1, rfl, (any_end (by omega) ha).symm⟩, rfl⟩
theorem containsI_c {l : List Itm} {t : Bool} {σ : Store} (hx : ∀ x ∈ l, ObjSm x.obj) (hn : l.length ≤ 1000000) : ACalls Tryz.prog 67 [.sl 3 (l.map sItem) t, .lit (.func (.func 68) #[] #[])] σ fun v σ' => v = vB (l.any fun x => !objOk x.obj) ∧ σ = σ' := by
  refine ACalls_of Tryz.func67 rfl Tryz.ntmps67 (congrArg Array.toList Tryz.results67) (by simp only [List.length_cons, List.length_nil]; decide) ?_; simp only [envOf_cons, envOf_nil, Nat.reduceAdd]
  refine awp_seq ?_
  refine awp_region (by kernel_rfl) ?_
  (refine aL_S rfl rfl v_ ?_)
  refine aL_nil ?_
  refine awp_seq ?_
  refine awp_region (by kernel_rfl) ?_
  iterate 2 (refine aL_S rfl rfl v_ ?_)
  refine aL_X rfl rfl (AOp_use rfl rfl (.inr ⟨rfl, rfl, rfl⟩) g_ va_ (indexI_c hx hn) ?_); rintro _ _ ⟨⟨r, rfl, hr⟩, rfl⟩
  iterate 2 (refine aL_S rfl rfl v_ ?_)
  refine aL_nil ?_
  refine awp_ret ?_
  refine aEnd_ret (σ' := σ) v_ sub_ ?_
  exact ⟨by rw [← hr], rfl⟩
theorem index0_c {σ : Store} : ACalls Tryz.prog 106 [.lit (.slice none 0 0), .lit (.func (.func 70) #[] #[])] σ fun v σ' => v = vInt (-1) ∧ σ = σ' := by
  refine ACalls_of Tryz.func106 rfl Tryz.ntmps106 (congrArg Array.toList Tryz.results106) (by simp only [List.length_cons, List.length_nil]; decide) ?_; simp only [envOf_cons, envOf_nil, Nat.reduceAdd]
  refine awp_seq ?_
  refine awp_region (by kernel_rfl) ?_
  (refine aL_S rfl rfl v_ ?_)
  refine aL_nil ?_
  refine awp_seq ?_
  refine awp_seq ?_
  refine awp_region (by kernel_rfl) ?_
  iterate 3 (refine aL_S rfl rfl v_ ?_)
  refine aL_nil ?_
  refine awp_block ?_
  refine awp_loop_env (ι := Nat) (fun k => 0 - k) (fun k => k = 0) (fun k => [(0, .lit (.slice none 0 0)), (1, .lit (.func (.func 70) #[] #[])), (7, vInt 0), (8, vInt k)]) (fun k => σ) 0 ?_ ?_ ?_ ?_
  · rfl
  · exact cv_
  · exact sub_
  rintro k hk
  simp only [envL_cons, envL_nil]
  refine awp_seq ?_
  refine awp_region (by kernel_rfl) ?_
  (refine aL_S rfl rfl v_ ?_)
  refine aL_nil ?_
  refine awp_seq ?_
  refine awp_cond v_ (fun hc2 => ?_) (fun hc2 => ?_)
  · replace hc2 := nm_ hc2
    subst hk; exact absurd hc2 (by decide)
  · replace hc2 := nm_ hc2
    refine awp_exit ?_
    refine aThen_exit ?_
    refine aThen_exit ?_
    refine aBlock_hit ?_
    refine awp_seq ?_
    refine awp_region (by kernel_rfl) ?_
    (refine aL_S rfl rfl v_ ?_)
    refine aL_nil ?_
    refine awp_ret ?_
    refine aEnd_ret (σ' := σ) v_ sub_ ?_
    exact ⟨rfl, rfl⟩
theorem contains0_c {σ : Store} : ACalls Tryz.prog 69 [.lit (.slice none 0 0), .lit (.func (.func 70) #[] #[])] σ fun v σ' => v = vB false ∧ σ = σ' := by
  refine ACalls_of Tryz.func69 rfl Tryz.ntmps69 (congrArg Array.toList Tryz.results69) (by simp only [List.length_cons, List.length_nil]; decide) ?_; simp only [envOf_cons, envOf_nil, Nat.reduceAdd]
  refine awp_seq ?_
  refine awp_region (by kernel_rfl) ?_
  (refine aL_S rfl rfl v_ ?_)
  refine aL_nil ?_
  refine awp_seq ?_
  refine awp_region (by kernel_rfl) ?_
  iterate 2 (refine aL_S rfl rfl v_ ?_)
  refine aL_X rfl rfl (AOp_use rfl rfl (.inr ⟨rfl, rfl, rfl⟩) g_ va_ (index0_c) ?_); rintro _ _ ⟨rfl, rfl⟩
  iterate 2 (refine aL_S rfl rfl v_ ?_)
  refine aL_nil ?_
  refine awp_ret ?_
  refine aEnd_ret (σ' := σ) v_ sub_ ?_
  exact ⟨rfl, rfl⟩
theorem bookCheck_c {l : List Itm} {t : Bool} {σ : Store} (hx : ∀ x ∈ l, ItemSm x) (hn : l.length ≤ 1000000) : ACalls Tryz.prog 34 [.agg [.sl 3 (l.map sItem) t, .lit (.slice none 0 0)]] σ fun v σ' => v = vInt (if itemsOk l then 0 else 1) ∧ σ = σ' := by
  have hob : itemsOk l = (upGo (fun x => placeOk x.place) Itm.place none l && l.all fun x => objOk x.obj) := upGo_and
  have hna : (l.all fun x => objOk x.obj) = !(l.any fun x => !objOk x.obj) := by rw [List.not_any_eq_all_not]; simp
  rw [hna] at hob
  refine ACalls_of Tryz.func34 rfl Tryz.ntmps34 (congrArg Array.toList Tryz.results34) (by simp only [List.length_cons, List.length_nil]; decide) ?_; simp only [envOf_cons, envOf_nil, Nat.reduceAdd]
  refine awp_seq ?_
  refine awp_region (by kernel_rfl) ?_
  refine aL_box rfl rfl rfl v_ rfl g_ fun o1 ho1 => ?_
  repeat (rw [none_set_iff] at ho1; obtain ⟨_, ho1⟩ := ho1)
  (refine aL_S rfl rfl v_ ?_)
  refine aL_nil ?_
  refine awp_seq ?_
  refine awp_region (by kernel_rfl) ?_
  iterate 2 (refine aL_S rfl rfl v_ ?_)
  refine aL_X rfl rfl (AOp_use rfl rfl (.inr ⟨rfl, rfl, rfl⟩) g_ va_ (riseI_c (fun x h => (hx x h).place) hn) ?_); rintro _ _ ⟨rfl, rfl⟩
  iterate 2 (refine aL_S rfl rfl v_ ?_)
  refine aL_GF rfl rfl v_ rfl vg_ ?_
  refine aL_GF rfl rfl v_ rfl vg_ ?_
  refine aL_GFX rfl rfl v_ rfl (fun hb => AOp_useV (by rfl) (by rfl) (.inr ⟨by rfl, by rfl, by rfl⟩) g_ cg_ (rise0_c)) ?_
  refine aL_GF rfl rfl v_ rfl vg_ ?_
  iterate 2 (refine aL_S rfl rfl v_ ?_)
  refine aL_nil ?_
  refine awp_seq ?_
  refine awp_region (by kernel_rfl) ?_
  iterate 2 (refine aL_S rfl rfl v_ ?_)
  refine aL_GF rfl rfl v_ rfl vg_ ?_
  refine aL_GF rfl rfl v_ rfl vg_ ?_
  refine aL_GFX rfl rfl v_ rfl (fun hb => AOp_useV (by rfl) (by rfl) (.inr ⟨by rfl, by rfl, by rfl⟩) g_ cg_ (containsI_c (fun x h => (hx x h).obj) hn)) ?_
  iterate 2 (refine aL_S rfl rfl v_ ?_)
  refine aL_nil ?_
  refine awp_seq ?_
  refine awp_seq ?_
  refine awp_region (by kernel_rfl) ?_
  iterate 2 (refine aL_S rfl rfl v_ ?_)
  refine aL_GF rfl rfl v_ rfl vg_ ?_
  refine aL_GF rfl rfl v_ rfl vg_ ?_
  refine aL_GFX rfl rfl v_ rfl (fun hb => AOp_useV (by rfl) (by rfl) (.inr ⟨by rfl, by rfl, by rfl⟩) g_ cg_ (contains0_c)) ?_
  (refine aL_S rfl rfl v_ ?_)
  refine aL_nil ?_
  refine awp_cond v_ (fun hc3 => ?_) (fun hc3 => ?_)
  · replace hc3 := nm_ hc3
    refine awp_seq ?_
    refine awp_region (by kernel_rfl) ?_
    (refine aL_S rfl rfl v_ ?_)
    refine aL_nil ?_
    refine awp_ret ?_
    refine aEnd_ret (σ' := σ) v_ sub_ ?_
    refine ⟨?_, rfl⟩
    rw [hob]
    rcases hc3 with h | h <;> simp [h]
  · replace hc3 := nm_ hc3
    refine awp_skip ?_
    refine awp_seq ?_
    refine awp_region (by kernel_rfl) ?_
    (refine aL_S rfl rfl v_ ?_)
    refine aL_nil ?_
    refine awp_ret ?_
    refine aEnd_ret (σ' := σ) v_ sub_ ?_
    refine ⟨?_, rfl⟩
    rw [hob]; simp [hc3]
theorem rMay27_c {l : List Itm} {t : Bool} {σ : Store} (hx : ∀ x ∈ l, ItemSm x) (hn : l.length ≤ 1000000) : ACalls Tryz.prog 14 [.agg [.sl 3 (l.map sItem) t, .lit (.slice none 0 0)]] σ fun v σ' => v = vB (itemsOk l) ∧ σ = σ' := by
  refine ACalls_of Tryz.func14 rfl Tryz.ntmps14 (congrArg Array.toList Tryz.results14) (by simp only [List.length_cons, List.length_nil]; decide) ?_; simp only [envOf_cons, envOf_nil, Nat.reduceAdd]
  refine awp_seq ?_
  refine awp_region (by kernel_rfl) ?_
  refine aL_box rfl rfl rfl v_ rfl g_ fun o1 ho1 => ?_
  repeat (rw [none_set_iff] at ho1; obtain ⟨_, ho1⟩ := ho1)
  (refine aL_S rfl rfl v_ ?_)
  refine aL_nil ?_
  refine awp_seq ?_
  refine awp_seq ?_
  refine awp_region (by kernel_rfl) ?_
  (refine aL_S rfl rfl v_ ?_)
  refine aL_nil ?_
  refine awp_block ?_
  refine awp_loop_env (ι := Nat) (fun k => l.length - k) (fun k => k ≤ l.length ∧ upGo (fun x => placeOk x.place && objOk x.obj) Itm.place (pvK Itm.place l k) (l.drop k) = itemsOk l) (fun k => [(1, .ref o1 0), (3, vInt k)]) (fun k => (σ.set o1 (.cells [.sl 3 (l.map sItem) t, .lit (.slice none 0 0)]))) 0 ?_ ?_ ?_ ?_
  · exact ⟨Nat.zero_le _, rfl⟩
  · exact cv_
  · exact Store.Wk.refl _
  rintro k ⟨hk, hr⟩
  simp only [envL_cons, envL_nil]
  refine awp_seq ?_
  refine awp_seq ?_
  refine awp_region (by kernel_rfl) ?_
  iterate 5 (refine aL_S rfl rfl v_ ?_)
  refine aL_nil ?_
  refine awp_cond v_ (fun hc2 => ?_) (fun hc2 => ?_)
  · replace hc2 := nm_ hc2
    refine awp_skip ?_
    refine awp_seq ?_
    refine awp_block ?_
    refine awp_seq ?_
    obtain ⟨x, hxk⟩ := get_some (l := l) (k := k) (by omega)
    have hsx := hx x (List.mem_of_getElem? hxk)
    have hpl := hsx.place
    obtain ⟨y, hy, hah⟩ := pvK_prev Itm.place l k (by omega)
    have hst : upGo (fun x => placeOk x.place && objOk x.obj) Itm.place (pvK Itm.place l k) (l.drop k) = ((placeOk x.place && objOk x.obj) && aheadOk (pvK Itm.place l k) x.place && upGo (fun x => placeOk x.place && objOk x.obj) Itm.place (some x.place) (l.drop (k + 1))) := by rw [drop_cons hxk]; rfl
    have R := hxk
    refine awp_region (by kernel_rfl) ?_
    iterate 5 (refine aL_S rfl rfl v_ ?_)
    refine aL_alloc rfl rfl rfl g_ gl_ fun o4 ho4 => ?_
    repeat (rw [none_set_iff] at ho4; obtain ⟨_, ho4⟩ := ho4)
    refine aL_store rfl rfl rfl v_ v_ h_ g_ rfl g_ c_ (by rfl) le_ v_ ?_
    refine aL_nil ?_
    refine awp_seq ?_
    have R := hy
    refine awp_draw (.op 0 0 (.op 1 0 (.op 2 1 (.op 3 0 (.op 4 0 (.op 5 0 (.op 6 0 (.op 7 1 (.op 8 0 (.op 9 0 (.op 10 0 (.op 11 0 (.op 12 0 (.op 13 0 (.op 14 0 (.op 15 0 (.op 16 0 (.op 17 0 (.op 18 0 (.op 19 0 (.op 20 0 (.op 21 0 (.op 22 0 (.op 23 0 (.op 24 0 (.op 25 0 .nil)))))))))))))))))))))))))) Tryz.mixed (by kernel_rfl) ?_
    iterate 2 (refine dR_S o_ (by rfl) (by rfl) v_ ?_)
    refine dR_X o_ (by rfl) (by rfl) (AOp_use (by rfl) (by rfl) (.inr ⟨by rfl, by rfl, by rfl⟩) g_ va_ (rIsPlace_c (by omega)) ?_); rintro _ _ ⟨rfl, rfl⟩; refine ⟨sub_, ?_⟩
    iterate 2 (refine dR_S o_ (by rfl) (by rfl) v_ ?_)
    refine dR_GF o_ (by rfl) (by rfl) v_ (by rfl) vg_ ?_
    refine dR_GF o_ (by rfl) (by rfl) v_ (by rfl) vg_ ?_
    refine dR_GFX o_ (by rfl) (by rfl) v_ (by rfl) sub_ (fun hb => AOp_useV (by rfl) (by rfl) (.inr ⟨by rfl, by rfl, by rfl⟩) g_ cg_ (rMay07_c hsx.obj)) ?_
    refine dR_GF o_ (by rfl) (by rfl) v_ (by rfl) vg_ ?_
    iterate 2 (refine dR_S o_ (by rfl) (by rfl) v_ ?_)
    refine dR_GF o_ (by rfl) (by rfl) v_ (by rfl) vg_ ?_
    refine dR_GF o_ (by rfl) (by rfl) v_ (by rfl) vg_ ?_
    refine dR_GF o_ (by rfl) (by rfl) v_ (by rfl) vg_ ?_
    refine dR_GGT o_ (by rfl) (by rfl) v_ (by rfl) vg_ ?_
    refine dR_GGT o_ (by rfl) (by rfl) v_ (by rfl) vg_ ?_
    refine dR_GGT o_ (by rfl) (by rfl) v_ (by rfl) vg_ ?_
    refine dR_GGT o_ (by rfl) (by rfl) v_ (by rfl) vg_ ?_
    refine dR_GGT o_ (by rfl) (by rfl) v_ (by rfl) vg_ ?_
    refine dR_GGT o_ (by rfl) (by rfl) v_ (by rfl) vg_ ?_
    refine dR_GGT o_ (by rfl) (by rfl) v_ (by rfl) vg_ ?_
    refine dR_GGT o_ (by rfl) (by rfl) v_ (by rfl) vg_ ?_
    refine dR_GGT o_ (by rfl) (by rfl) v_ (by rfl) vg_ ?_
    refine dR_GGT o_ (by rfl) (by rfl) v_ (by rfl) vg_ ?_
    refine dR_GF o_ (by rfl) (by rfl) v_ (by rfl) vg_ ?_
    (refine dR_S o_ (by rfl) (by rfl) v_ ?_)
    refine dR_nil ?_
    refine awp_cond v_ (fun hc5 => ?_) (fun hc5 => ?_)
    · replace hc5 := nm_ hc5
      refine awp_seq ?_
      refine awp_region (by kernel_rfl) ?_
      (refine aL_S rfl rfl v_ ?_)
      refine aL_nil ?_
      refine awp_ret ?_
      refine aEnd_ret (σ' := σ) v_ sub_ ?_
      refine ⟨?_, rfl⟩
      rw [← hr, hst, up_no (hah _) (by rcases hc5 with (h | h) | h; exact .inl (by simp [h]); exact .inl (by simp [h]); exact .inr h)]
    · replace hc5 := nm_ hc5
      have hnx : upGo (fun x => placeOk x.place && objOk x.obj) Itm.place (pvK Itm.place l (k + 1)) (l.drop (k + 1)) = itemsOk l := by rw [pvK_next hxk, ← hr, hst, up_yes (hah _) ⟨by simp [hc5], hc5.2⟩]
      refine awp_skip ?_
      refine awp_region (by kernel_rfl) ?_
      iterate 3 (refine aL_S rfl rfl v_ ?_)
      refine aL_nil ?_
      refine aNext (ι := Nat) (i := k) (k + 1) ?_ ?_ ?_ ?_
      · omega
      · exact ⟨by omega, hnx⟩
      · exact cv_
      · exact sub_
  · replace hc2 := nm_ hc2
    refine awp_exit ?_
    refine aThen_exit ?_
    refine aThen_exit ?_
    refine aBlock_hit ?_
    refine awp_seq ?_
    refine awp_seq ?_
    refine awp_region (by kernel_rfl) ?_
    (refine aL_S rfl rfl v_ ?_)
    refine aL_nil ?_
    refine awp_block ?_
    refine awp_loop_env (ι := Nat) (fun j => 0 - j) (fun j => j = 0) (fun j => [(1, .ref o1 0), (5, vInt j)]) (fun j => (σ.set o1 (.cells [.sl 3 (l.map sItem) t, .lit (.slice none 0 0)]))) 0 ?_ ?_ ?_ ?_
    · rfl
    · exact cv_
    · exact Store.Wk.refl _
    rintro j hj
    simp only [envL_cons, envL_nil]
    refine awp_seq ?_
    refine awp_seq ?_
    refine awp_region (by kernel_rfl) ?_
    iterate 5 (refine aL_S rfl rfl v_ ?_)
    refine aL_nil ?_
    refine awp_cond v_ (fun hc8 => ?_) (fun hc8 => ?_)
    · replace hc8 := nm_ hc8
      subst hj; exact absurd hc8 (by decide)
    · replace hc8 := nm_ hc8
      refine awp_exit ?_
      refine aThen_exit ?_
      refine aThen_exit ?_
      refine aBlock_hit ?_
      refine awp_seq ?_
      refine awp_region (by kernel_rfl) ?_
      (refine aL_S rfl rfl v_ ?_)
      refine aL_nil ?_
      refine awp_ret ?_
      refine aEnd_ret (σ' := σ) v_ sub_ ?_
      refine ⟨?_, rfl⟩
      rw [← hr, List.drop_eq_nil_of_le (by omega)]; rfl
end Go.Proofs.YtbomkkjhafdhiaaGreat
end

section
set_option linter.all false
set_option maxRecDepth 100000
namespace Go.Proofs.YtbomkkjhafdhiaaGreat
open Go.Ab

/-! ### rows that rise -/
theorem rise_unique {α : Type} {r : α → α → Prop} (irr : ∀ a, ¬ r a a) (tr : ∀ a b c, r a b → r b c → r a c) : ∀ {l m : List α}, l.Pairwise r → m.Pairwise r → (∀ x, x ∈ l ↔ x ∈ m) → l = m
  | [], [], _, _, _ => rfl
  | [], y :: m, _, _, h => absurd ((h y).2 (.head _)) (by simp)
  | x :: l, [], _, _, h => absurd ((h x).1 (.head _)) (by simp)
  | x :: l, y :: m, hl, hm, h => by
    rw [List.pairwise_cons] at hl hm
    have hxy : x = y := by
      rcases List.mem_cons.1 ((h x).1 (.head _)) with e | e
      · exact e
      · rcases List.mem_cons.1 ((h y).2 (.head _)) with e' | e'
        · exact e'.symm
        · exact absurd (tr _ _ _ (hm.1 x e) (hl.1 y e')) (irr _)
    subst hxy
    rw [rise_unique irr tr hl.2 hm.2 fun z => ?_]
    constructor
    · intro hz
      rcases List.mem_cons.1 ((h z).1 (.tail _ hz)) with e | e
      · subst e; exact absurd (hl.1 _ hz) (irr _)
      · exact e
    · intro hz
      rcases List.mem_cons.1 ((h z).2 (.tail _ hz)) with e | e
      · subst e; exact absurd (hm.1 _ hz) (irr _)
      · exact e

theorem compactUpTo_spec {α : Type} [Inhabited α] [DecidableEq α] {r : α → α → Prop} (tr : ∀ a b c, r a b → r b c → r a c) (zs : List α) (hs : zs.Pairwise fun x y => x = y ∨ r x y) :
    ∀ m, m ≤ zs.length → (Lib.compactUpTo zs.toArray m).Pairwise r ∧ (∀ x, x ∈ Lib.compactUpTo zs.toArray m ↔ x ∈ zs.take m) ∧ (∀ x ∈ Lib.compactUpTo zs.toArray m, ∀ y, zs[m - 1]? = some y → x = y ∨ r x y)
  | 0, _ => by simp [Lib.compactUpTo]
  | m + 1, hm => by
    obtain ⟨h1, h2, h3⟩ := compactUpTo_spec tr zs hs m (by omega)
    have hz : zs[m]? = some zs[m] := List.getElem?_eq_getElem (by omega)
    have hz' : zs.toArray[m]! = zs[m] := by simp [show m < zs.length by omega]
    rw [Lib.compactUpTo_succ, hz']
    have ht : zs.take (m + 1) = zs.take m ++ [zs[m]] := by rw [List.take_succ_eq_append_getElem (by omega)]
    have e1 : ∀ y, zs[m + 1 - 1]? = some y → y = zs[m] := fun y hy => by rw [Nat.add_sub_cancel, hz] at hy; exact (Option.some.inj hy).symm
    by_cases hk : m = 0
    · subst hk
      have : Lib.keeps zs.toArray 0 = true := by simp [Lib.keeps]
      rw [this, ht]
      have hn : Lib.compactUpTo zs.toArray 0 = [] := by simp [Lib.compactUpTo]
      rw [hn]
      refine ⟨by simp, by simp, fun x hx y hy => ?_⟩
      have := e1 y hy
      simp at hx; subst hx; left; exact this.symm
    · have hp : zs[m - 1]? = some zs[m - 1] := List.getElem?_eq_getElem (by omega)
      have hp' : zs.toArray[m - 1]! = zs[m - 1] := by simp [show m - 1 < zs.length by omega]
      have hord := List.pairwise_iff_getElem.1 hs (m - 1) m (by omega) (by omega) (by omega)
      by_cases he : zs[m] = zs[m - 1]
      · have : Lib.keeps zs.toArray m = false := by simp only [Lib.keeps, hz', hp']; simp [hk, he]
        rw [this]
        simp only [Bool.false_eq_true, if_false, List.append_nil]
        refine ⟨h1, fun x => ?_, fun x hx y hy => ?_⟩
        · rw [h2 x, ht, List.mem_append, List.mem_singleton]
          constructor
          · exact .inl
          · rintro (h | h)
            · exact h
            · rw [h, he]; exact List.mem_take_iff_getElem.2 ⟨m - 1, by omega, rfl⟩
        · rw [e1 y hy, he]; exact h3 x hx _ hp
      · have : Lib.keeps zs.toArray m = true := by simp only [Lib.keeps, hz', hp']; simp [he]
        rw [this]
        simp only [if_true]
        have hlt : r zs[m - 1] zs[m] := by
          rcases hord with h | h
          · exact absurd h.symm he
          · exact h
        have hall : ∀ x ∈ Lib.compactUpTo zs.toArray m, r x zs[m] := fun x hx => by
          rcases h3 x hx _ hp with h | h
          · rw [h]; exact hlt
          · exact tr _ _ _ h hlt
        refine ⟨?_, fun x => ?_, fun x hx y hy => ?_⟩
        · rw [List.pairwise_append]
          exact ⟨h1, List.pairwise_singleton _ _, fun x hx y hy => by rw [List.mem_singleton.1 hy]; exact hall x hx⟩
        · rw [List.mem_append, h2 x, ht, List.mem_append]
        · rw [e1 y hy]
          rcases List.mem_append.1 hx with h | h
          · exact .inr (hall x h)
          · exact .inl (List.mem_singleton.1 h)
theorem compact_spec {α : Type} [Inhabited α] [DecidableEq α] {r : α → α → Prop} (tr : ∀ a b c, r a b → r b c → r a c) (zs : List α) (hs : zs.Pairwise fun x y => x = y ∨ r x y) :
    (Lib.compact zs).Pairwise r ∧ ∀ x, x ∈ Lib.compact zs ↔ x ∈ zs := by
  obtain ⟨h1, h2, _⟩ := compactUpTo_spec tr zs hs zs.length (Nat.le_refl _)
  rw [List.take_length] at h2
  exact ⟨h1, h2⟩

/-! ### numbers, once each, rising -/
theorem onceI_rise (l : List Int) : (onceI l).Pairwise (· < ·) ∧ ∀ x, x ∈ onceI l ↔ x ∈ l := by
  have hs : (sortII l).Pairwise fun x y : Int => x = y ∨ x < y := by
    have := List.pairwise_mergeSort (le := fun x y : Int => decide (x ≤ y)) (fun a b c h1 h2 => by simp at *; omega) (fun a b => by simp; omega) l
    exact this.imp fun h => by simp at h; omega
  obtain ⟨h1, h2⟩ := compact_spec (r := fun x y : Int => x < y) (fun a b c h1 h2 => Int.lt_trans h1 h2) (sortII l) hs
  exact ⟨h1, fun x => by rw [onceI, h2]; unfold sortII; exact List.mem_mergeSort⟩
/-! ### names, once each, rising -/
def RiseN (l : List ByteArray) : Prop := l.Pairwise fun x y => sLt x y = true
theorem onceN_rise (ss : List ByteArray) : RiseN (compactL (sortSS ss)) ∧ ∀ s, s ∈ compactL (sortSS ss) ↔ s ∈ ss := by
  have e : (sortSS ss).map Lb = (ss.map Lb).mergeSort fun x y => decide (x ≤ y) := by
    unfold sortSS
    rw [List.map_map]
    conv => rhs; rw [← List.map_id ((ss.map Lb).mergeSort fun x y => decide (x ≤ y))]
    apply List.map_congr_left; intro x _; exact Lb_B x
  have hs : ((sortSS ss).map Lb).Pairwise fun x y : List UInt8 => x = y ∨ x < y := by
    rw [e]
    have := List.pairwise_mergeSort (le := fun x y : List UInt8 => decide (x ≤ y)) (fun a b c h1 h2 => by simp only [decide_eq_true_eq] at *; exact List.le_trans h1 h2) (fun a b => by simp only [Bool.or_eq_true, decide_eq_true_eq]; exact List.le_total a b) (ss.map Lb)
    exact this.imp fun {a b} h => by
      simp only [decide_eq_true_eq] at h
      by_cases hlt : a < b
      · exact .inr hlt
      · exact .inl (List.le_antisymm h (List.not_lt.1 hlt))
  obtain ⟨h1, h2⟩ := compact_spec (r := fun x y : List UInt8 => x < y) (fun a b c h1 h2 => List.lt_trans h1 h2) _ hs
  refine ⟨?_, fun s => ?_⟩
  · unfold RiseN compactL
    rw [List.pairwise_map]
    exact h1.imp fun h => by rw [sLt_def, Lb_B, Lb_B]; exact decide_eq_true h
  · unfold compactL
    rw [List.mem_map]
    constructor
    · rintro ⟨l, hl, rfl⟩
      have := (h2 l).1 hl
      rw [e, List.mem_mergeSort] at this
      obtain ⟨t, ht, rfl⟩ := List.mem_map.1 this
      rw [B_Lb]; exact ht
    · intro hs'
      exact ⟨Lb s, (h2 _).2 (by rw [e, List.mem_mergeSort]; exact List.mem_map.2 ⟨s, hs', rfl⟩), B_Lb s⟩
/-! ### a node's dots -/
def Kn (x : Seen) (n : Int) : Prop := (0 < n ∧ n ≤ x.base) ∨ n ∈ x.more
theorem inS_iff {l : List Int} {n : Int} : inS l n = true ↔ n ∈ l := by simp [inS]
theorem hasX_iff {x : Seen} {s : ByteArray} {n : Int} : hasX x s n = true ↔ x.node = s ∧ Kn x n := by
  simp [hasX, Kn, inS_iff]
theorem hasS_iff {c : List Seen} {s : ByteArray} {n : Int} : hasS c s n = true ↔ ∃ x ∈ c, x.node = s ∧ Kn x n := by
  simp [hasS, hasX_iff]
theorem riseOk_iff : ∀ {l : List Int} {z : Int}, riseOk z l = true ↔ l.Pairwise (· < ·) ∧ ∀ n ∈ l, z < n ∧ n ≤ 9007199254740992
  | [], z => by simp [riseOk]
  | m :: l, z => by
    simp only [riseOk, Bool.and_eq_true, decide_eq_true_eq, riseOk_iff (l := l), List.pairwise_cons, List.mem_cons]
    constructor
    · rintro ⟨⟨h1, h2⟩, h3, h4⟩
      exact ⟨⟨fun n hn => (h4 n hn).1, h3⟩, fun n hn => by rcases hn with rfl | hn; exact ⟨h1, h2⟩; have := h4 n hn; omega⟩
    · rintro ⟨⟨h1, h2⟩, h3⟩
      exact ⟨h3 m (.inl rfl), h2, fun n hn => ⟨h1 n hn, (h3 n (.inr hn)).2⟩⟩
structure SeenCn (x : Seen) : Prop where
  lo : 0 ≤ x.base
  hi : x.base ≤ 9007199254740992
  rise : x.more.Pairwise (· < ·)
  ab : ∀ n ∈ x.more, x.base + 1 < n ∧ n ≤ 9007199254740992
theorem seenOk_iff {x : Seen} : seenOk x = true ↔ nameOk x.node = true ∧ SeenCn x ∧ ∃ n, Kn x n := by
  simp only [seenOk, seenHd, Bool.and_eq_true, decide_eq_true_eq, riseOk_iff, Bool.not_eq_true', Bool.and_eq_false_iff, decide_eq_false_iff_not]
  constructor
  · rintro ⟨⟨⟨⟨h1, h2⟩, h3⟩, h4⟩, h5, h6⟩
    refine ⟨h1, ⟨h2, h3, h5, h6⟩, ?_⟩
    by_cases h0 : x.base = 0
    · rcases h4 with h | h
      · exact absurd h0 h
      · cases hm : x.more with
        | nil => rw [hm] at h; exact absurd rfl h
        | cons a l => exact ⟨a, .inr (by rw [hm]; exact .head _)⟩
    · exact ⟨1, .inl ⟨by omega, by omega⟩⟩
  · rintro ⟨h1, ⟨h2, h3, h4, h5⟩, n, hn⟩
    refine ⟨⟨⟨⟨h1, h2⟩, h3⟩, ?_⟩, h4, h5⟩
    by_cases h0 : x.base = 0
    · right
      rcases hn with h | h
      · omega
      · exact fun hh => by rw [List.length_eq_zero_iff.1 hh] at h; cases h
    · exact .inl h0
theorem cn_pos {x : Seen} (h : SeenCn x) {n : Int} (hn : Kn x n) : 0 < n ∧ n ≤ 9007199254740992 := by
  rcases hn with hn | hn
  · have := h.hi; omega
  · have := h.ab n hn; have := h.lo; omega
theorem cn_base {x y : Seen} (hx : SeenCn x) (hy : SeenCn y) (h : ∀ n, Kn x n → Kn y n) : x.base ≤ y.base := by
  by_cases hb : x.base ≤ y.base
  · exact hb
  · have h1 : Kn x (y.base + 1) := .inl ⟨by have := hy.lo; omega, by omega⟩
    rcases h _ h1 with h2 | h2
    · omega
    · have := (hy.ab _ h2).1; omega
theorem cn_unique {x y : Seen} (hx : SeenCn x) (hy : SeenCn y) (hn : x.node = y.node) (h : ∀ n, Kn x n ↔ Kn y n) : x = y := by
  have hb : x.base = y.base := Int.le_antisymm (cn_base hx hy fun n => (h n).1) (cn_base hy hx fun n => (h n).2)
  have hm : x.more = y.more := rise_unique (r := fun x y : Int => x < y) (fun a => Int.lt_irrefl a) (fun a b c h1 h2 => Int.lt_trans h1 h2) hx.rise hy.rise fun n => by
    constructor
    · intro hn
      have h1 := (hx.ab n hn).1
      rcases (h n).1 (.inr hn) with h2 | h2
      · omega
      · exact h2
    · intro hn
      have h1 := (hy.ab n hn).1
      rcases (h n).2 (.inr hn) with h2 | h2
      · omega
      · exact h2
  cases x; cases y; simp at hn hb hm ⊢; exact ⟨hn, hb, hm⟩
theorem bfold_spec : ∀ (L : List Int) (b : Int) (rest : List Int), L.Pairwise (· < ·) → (∀ n ∈ L, 0 < n ∧ n ≤ 9007199254740992) → 0 ≤ b → b ≤ 9007199254740992 → rest.Pairwise (· < ·) → (∀ m ∈ rest, b + 1 < m ∧ m ≤ 9007199254740992) → (∀ m ∈ rest, ∀ n ∈ L, m < n) →
    0 ≤ (L.foldl bstep (b, rest)).1 ∧ (L.foldl bstep (b, rest)).1 ≤ 9007199254740992 ∧ (L.foldl bstep (b, rest)).2.Pairwise (· < ·) ∧ (∀ m ∈ (L.foldl bstep (b, rest)).2, (L.foldl bstep (b, rest)).1 + 1 < m ∧ m ≤ 9007199254740992) ∧
    ∀ n, ((0 < n ∧ n ≤ (L.foldl bstep (b, rest)).1) ∨ n ∈ (L.foldl bstep (b, rest)).2) ↔ ((0 < n ∧ n ≤ b) ∨ n ∈ rest ∨ n ∈ L)
  | [], b, rest, _, _, h3, h4, h5, h6, _ => ⟨h3, h4, h5, h6, fun n => by simp⟩
  | k :: L, b, rest, h1, h2, h3, h4, h5, h6, h7 => by
    rw [List.pairwise_cons] at h1
    have hk := h2 k (.head _)
    rw [List.foldl_cons]
    by_cases c1 : k = b + 1
    · have hr : rest = [] := by
        cases rest with
        | nil => rfl
        | cons m r => have := (h6 m (.head _)).1; have := h7 m (.head _) k (.head _); omega
      subst hr
      have e : bstep (b, []) k = (k, []) := by simp [bstep, c1]
      rw [e]
      obtain ⟨g1, g2, g3, g4, g5⟩ := bfold_spec L k [] h1.2 (fun n hn => h2 n (.tail _ hn)) (by omega) hk.2 .nil (fun m hm => by cases hm) (fun m hm => by cases hm)
      refine ⟨g1, g2, g3, g4, fun n => ?_⟩
      rw [g5 n]
      simp only [List.not_mem_nil, false_or, List.mem_cons]
      constructor
      · rintro (h | h)
        · by_cases hn : n = k
          · exact .inr (.inl hn)
          · left; omega
        · exact .inr (.inr h)
      · rintro (h | h | h)
        · left; omega
        · left; omega
        · exact .inr h
    · by_cases c2 : b < k
      · have e : bstep (b, rest) k = (b, rest ++ [k]) := by simp [bstep, c1, c2]
        rw [e]
        obtain ⟨g1, g2, g3, g4, g5⟩ := bfold_spec L b (rest ++ [k]) h1.2 (fun n hn => h2 n (.tail _ hn)) h3 h4 (by
            rw [List.pairwise_append]
            exact ⟨h5, List.pairwise_singleton _ _, fun x hx y hy => by rw [List.mem_singleton.1 hy]; exact h7 x hx k (.head _)⟩) (fun m hm => by
            rcases List.mem_append.1 hm with h | h
            · exact h6 m h
            · rw [List.mem_singleton.1 h]; omega) (fun m hm n hn => by
            rcases List.mem_append.1 hm with h | h
            · exact h7 m h n (.tail _ hn)
            · rw [List.mem_singleton.1 h]; exact h1.1 n hn)
        refine ⟨g1, g2, g3, g4, fun n => ?_⟩
        rw [g5 n]
        simp only [List.mem_append, List.mem_singleton, List.mem_cons, or_assoc, List.not_mem_nil, false_or]
      · have e : bstep (b, rest) k = (b, rest) := by simp [bstep, c1, c2]
        rw [e]
        obtain ⟨g1, g2, g3, g4, g5⟩ := bfold_spec L b rest h1.2 (fun n hn => h2 n (.tail _ hn)) h3 h4 h5 h6 (fun m hm n hn => h7 m hm n (.tail _ hn))
        refine ⟨g1, g2, g3, g4, fun n => ?_⟩
        rw [g5 n, List.mem_cons]
        constructor
        · rintro (h | h | h)
          · exact .inl h
          · exact .inr (.inl h)
          · exact .inr (.inr (.inr h))
        · rintro (h | h | h | h)
          · exact .inl h
          · exact .inr (.inl h)
          · left; omega
          · exact .inr (.inr h)
theorem both_spec {a b : Seen} (ha : SeenCn a) (hb : SeenCn b) : (bothS a b).node = a.node ∧ SeenCn (bothS a b) ∧ ∀ n, Kn (bothS a b) n ↔ Kn a n ∨ Kn b n := by
  obtain ⟨o1, o2⟩ := onceI_rise (a.more ++ b.more)
  have hpos : ∀ n ∈ onceI (a.more ++ b.more), 0 < n ∧ n ≤ 9007199254740992 := fun n hn => by
    rw [o2, List.mem_append] at hn
    rcases hn with h | h
    · exact cn_pos ha (.inr h)
    · exact cn_pos hb (.inr h)
  have l1 := ha.lo; have l2 := hb.lo; have u1 := ha.hi; have u2 := hb.hi
  obtain ⟨g1, g2, g3, g4, g5⟩ := bfold_spec (onceI (a.more ++ b.more)) (max a.base b.base) [] o1 hpos (by omega) (by omega) .nil (fun m hm => by cases hm) (fun m hm => by cases hm)
  refine ⟨rfl, ⟨g1, g2, g3, g4⟩, fun n => ?_⟩
  have := g5 n
  unfold Kn bothS bothF
  rw [this, o2, List.mem_append]
  simp only [List.not_mem_nil, false_or]
  constructor
  · rintro (h | h | h)
    · by_cases hh : n ≤ a.base
      · exact .inl (.inl ⟨h.1, hh⟩)
      · exact .inr (.inl ⟨h.1, by omega⟩)
    · exact .inl (.inr h)
    · exact .inr (.inr h)
  · rintro ((h | h) | (h | h))
    · left; omega
    · exact .inr (.inl h)
    · left; omega
    · exact .inr (.inr h)

/-! ### contexts -/
def RiseX (c : List Seen) : Prop := c.Pairwise fun x y => sLt x.node y.node = true
def room (c : List Seen) : Nat := (c.map fun x => x.more.length).sum
structure CtxG (c : List Seen) : Prop where
  rise : RiseX c
  ok : ∀ x ∈ c, seenOk x = true
theorem ctxGo_iff : ∀ {l : List Seen} {pv : Option ByteArray} {rm : Int}, 0 ≤ rm → (ctxGo pv rm l = true ↔ (∀ p, pv = some p → ∀ x ∈ l, sLt p x.node = true) ∧ CtxG l ∧ (room l : Int) ≤ rm)
  | [], pv, rm, h => by simp [ctxGo, room, CtxG.mk, h]; exact ⟨.nil, fun x hx => by cases hx⟩
  | x :: l, pv, rm, h => by
    simp only [ctxGo, Bool.and_eq_true, decide_eq_true_eq]
    have e : (room (x :: l) : Int) = x.more.length + room l := by simp [room]
    constructor
    · rintro ⟨⟨⟨h1, h2⟩, h3⟩, h4⟩
      obtain ⟨g1, g2, g3⟩ := (ctxGo_iff (l := l) (pv := some x.node) (rm := rm - x.more.length) (by omega)).1 h4
      refine ⟨fun p hp y hy => ?_, ⟨List.pairwise_cons.2 ⟨fun y hy => g1 _ rfl y hy, g2.rise⟩, fun y hy => ?_⟩, by omega⟩
      · subst hp
        have h5 : sLt p x.node = true := h2
        rcases List.mem_cons.1 hy with rfl | hy
        · exact h5
        · exact sLt_trans h5 (g1 _ rfl y hy)
      · rcases List.mem_cons.1 hy with rfl | hy
        · exact h1
        · exact g2.ok y hy
    · rintro ⟨h1, ⟨h2, h3⟩, h4⟩
      have hp := List.pairwise_cons.1 h2
      refine ⟨⟨⟨h3 x (.head _), ?_⟩, by omega⟩, (ctxGo_iff (l := l) (pv := some x.node) (rm := rm - x.more.length) (by omega)).2 ⟨fun p hp' y hy => by cases hp'; exact hp.1 y hy, ⟨hp.2, fun y hy => h3 y (.tail _ hy)⟩, by omega⟩⟩
      cases pv with
      | none => rfl
      | some p => exact h1 p rfl x (.head _)
theorem ctxOk_iff {c : List Seen} : ctxOk c = true ↔ CtxG c ∧ room c ≤ 4096 := by
  unfold ctxOk
  rw [ctxGo_iff (by decide)]
  constructor
  · rintro ⟨_, h1, h2⟩; exact ⟨h1, by omega⟩
  · rintro ⟨h1, h2⟩; exact ⟨(fun p hp => by cases hp), h1, by omega⟩
theorem seen0_cn (s : ByteArray) : SeenCn (seen0 s) := ⟨Int.le_refl 0, by show (0 : Int) ≤ _; decide, .nil, fun n hn => by cases hn⟩
theorem seen0_kn (s : ByteArray) (n : Int) : ¬ Kn (seen0 s) n := by rintro (⟨h1, h2⟩ | h); exact absurd h2 (by show ¬ n ≤ 0; omega); cases h
theorem riseX_one {c : List Seen} (h : RiseX c) {x y : Seen} (hx : x ∈ c) (hy : y ∈ c) (e : x.node = y.node) : x = y := by
  induction c with
  | nil => cases hx
  | cons z c ih =>
    have hp := List.pairwise_cons.1 h
    rcases List.mem_cons.1 hx with h1 | h1 <;> rcases List.mem_cons.1 hy with h2 | h2
    · rw [h1, h2]
    · exact absurd (h1 ▸ e) (sLt_ne (hp.1 y h2))
    · exact absurd (h2 ▸ e.symm) (sLt_ne (hp.1 x h1))
    · exact ih hp.2 h1 h2
theorem ofS_mem {c : List Seen} (h : RiseX c) {x : Seen} (hx : x ∈ c) : ofS c x.node = x := by
  unfold ofS
  split
  · rename_i y hy
    exact riseX_one h (List.mem_of_find?_eq_some hy) hx (by simpa using List.find?_some hy)
  · rename_i hy
    have := List.find?_eq_none.1 hy x hx
    simp at this
theorem ofS_not {c : List Seen} {s : ByteArray} (h : ∀ x ∈ c, x.node ≠ s) : ofS c s = seen0 s := by
  unfold ofS
  rw [List.find?_eq_none.2 fun x hx => by simpa using h x hx]
theorem ofS_spec {c : List Seen} (h : CtxG c) (s : ByteArray) : SeenCn (ofS c s) ∧ ∀ n, Kn (ofS c s) n ↔ hasS c s n = true := by
  by_cases hx : ∃ x ∈ c, x.node = s
  · obtain ⟨x, hx, rfl⟩ := hx
    rw [ofS_mem h.rise hx]
    refine ⟨(seenOk_iff.1 (h.ok x hx)).2.1, fun n => ?_⟩
    rw [hasS_iff]
    exact ⟨fun hn => ⟨x, hx, rfl, hn⟩, fun ⟨y, hy, e, hn⟩ => by rw [← riseX_one h.rise hy hx e]; exact hn⟩
  · have hx' : ∀ x ∈ c, x.node ≠ s := fun x hxc e => hx ⟨x, hxc, e⟩
    rw [ofS_not hx']
    refine ⟨seen0_cn s, fun n => ⟨fun hn => absurd hn (seen0_kn s n), fun hn => ?_⟩⟩
    obtain ⟨y, hy, e, _⟩ := hasS_iff.1 hn
    exact absurd e (hx' y hy)
theorem ctx_unique {a b : List Seen} (ha : CtxG a) (hb : CtxG b) (h : ∀ s n, hasS a s n = hasS b s n) : a = b := by
  have key : ∀ {a b : List Seen}, CtxG a → CtxG b → (∀ s n, hasS a s n = hasS b s n) → ∀ x ∈ a, x ∈ b := fun {a b} ha hb h x hx => by
    obtain ⟨_, hcx, n, hn⟩ := seenOk_iff.1 (ha.ok x hx)
    have h1 : hasS a x.node n = true := hasS_iff.2 ⟨x, hx, rfl, hn⟩
    rw [h] at h1
    obtain ⟨y, hy, e, _⟩ := hasS_iff.1 h1
    have hcy := (seenOk_iff.1 (hb.ok y hy)).2.1
    have : x = y := cn_unique hcx hcy e.symm fun m => by
      have e1 := (ofS_spec ha x.node).2 m
      have e2 := (ofS_spec hb x.node).2 m
      rw [ofS_mem ha.rise hx] at e1
      rw [← e, ofS_mem hb.rise hy, e] at e2
      rw [e1, e2, h]
    rw [this]; exact hy
  exact rise_unique (r := fun x y : Seen => sLt x.node y.node = true) (fun x => by rw [sLt_irrefl]; simp) (fun x y z h1 h2 => sLt_trans h1 h2) ha.rise hb.rise fun x => ⟨key ha hb h x, key hb ha (fun s n => (h s n).symm) x⟩
theorem nodesS_spec (a b : List Seen) : RiseN (nodesS a b) ∧ ∀ s, s ∈ nodesS a b ↔ ∃ x ∈ a ++ b, x.node = s := by
  obtain ⟨h1, h2⟩ := onceN_rise ((a ++ b).map (·.node))
  exact ⟨h1, fun s => by rw [nodesS, h2, List.mem_map]⟩
theorem join_node {a b : List Seen} (s : ByteArray) : (bothS (ofS a s) (ofS b s)).node = s := ofS_node a s
theorem hasS_name {c : List Seen} {s : ByteArray} {n : Int} (hc : CtxG c) (h : hasS c s n = true) : nameOk s = true ∧ 0 < n ∧ n ≤ 9007199254740992 := by
  obtain ⟨x, hx, rfl, hn⟩ := hasS_iff.1 h
  obtain ⟨h1, h2, _⟩ := seenOk_iff.1 (hc.ok x hx)
  exact ⟨h1, cn_pos h2 hn⟩
theorem join_spec {a b : List Seen} (ha : CtxG a) (hb : CtxG b) : CtxG (joinAll a b) ∧ ∀ s n, hasS (joinAll a b) s n = (hasS a s n || hasS b s n) := by
  obtain ⟨h1, h2⟩ := nodesS_spec a b
  have sp := fun s => both_spec (ofS_spec ha s).1 (ofS_spec hb s).1
  have hk : ∀ s n, Kn (bothS (ofS a s) (ofS b s)) n ↔ hasS a s n = true ∨ hasS b s n = true := fun s n => by
    rw [(sp s).2.2 n, (ofS_spec ha s).2, (ofS_spec hb s).2]
  refine ⟨⟨?_, fun x hx => ?_⟩, fun s n => ?_⟩
  · unfold RiseX joinAll
    rw [List.pairwise_map]
    exact h1.imp fun h => by rw [join_node, join_node]; exact h
  · obtain ⟨s, hs, rfl⟩ := List.mem_map.1 hx
    obtain ⟨y, hy, rfl⟩ := (h2 s).1 hs
    have hyn : ∃ n, hasS a y.node n = true ∨ hasS b y.node n = true := by
      rcases List.mem_append.1 hy with h | h
      · obtain ⟨_, _, n, hn⟩ := seenOk_iff.1 (ha.ok y h); exact ⟨n, .inl (hasS_iff.2 ⟨y, h, rfl, hn⟩)⟩
      · obtain ⟨_, _, n, hn⟩ := seenOk_iff.1 (hb.ok y h); exact ⟨n, .inr (hasS_iff.2 ⟨y, h, rfl, hn⟩)⟩
    obtain ⟨n, hn⟩ := hyn
    refine seenOk_iff.2 ⟨?_, (sp _).2.1, n, (hk _ n).2 hn⟩
    rw [join_node]
    rcases hn with h | h
    · exact (hasS_name ha h).1
    · exact (hasS_name hb h).1
  · rw [Bool.eq_iff_iff, Bool.or_eq_true]
    constructor
    · intro h
      obtain ⟨x, hx, e, hn⟩ := hasS_iff.1 h
      obtain ⟨t, ht, rfl⟩ := List.mem_map.1 hx
      rw [join_node] at e
      subst e
      exact (hk _ n).1 hn
    · intro h
      have hs : s ∈ nodesS a b := by
        rw [h2]
        rcases h with h | h
        · obtain ⟨x, hx, e, _⟩ := hasS_iff.1 h; exact ⟨x, List.mem_append.2 (.inl hx), e⟩
        · obtain ⟨x, hx, e, _⟩ := hasS_iff.1 h; exact ⟨x, List.mem_append.2 (.inr hx), e⟩
      exact hasS_iff.2 ⟨_, List.mem_map.2 ⟨s, hs, rfl⟩, join_node s, (hk s n).2 h⟩
/-- how many are told one by one -/
theorem sum_at {s : ByteArray} {L : Nat} : ∀ {N : List ByteArray}, RiseN N → (N.map fun t => if s = t then L else 0).sum ≤ L
  | [], _ => by simp
  | t :: N, h => by
    have hp := List.pairwise_cons.1 h
    by_cases e : s = t
    · subst e
      have : (N.map fun t => if s = t then L else 0).sum = 0 := by
        rw [List.map_congr_left (g := fun _ => 0) fun x hx => if_neg (sLt_ne (hp.1 x hx))]
        clear hp h
        induction N with
        | nil => rfl
        | cons _ _ ih => simpa using ih
      simp [this]
    · have := sum_at (s := s) (L := L) hp.2
      simp only [List.map_cons, List.sum_cons, if_neg e]; omega
theorem sum_le {α : Type} {f g : α → Nat} : ∀ {l : List α}, (∀ x ∈ l, f x ≤ g x) → (l.map f).sum ≤ (l.map g).sum
  | [], _ => by simp
  | x :: l, h => by
    have := sum_le (l := l) fun y hy => h y (.tail _ hy)
    have := h x (.head _)
    simp only [List.map_cons, List.sum_cons]; omega
theorem sum_add {α : Type} (f g : α → Nat) : ∀ (l : List α), (l.map fun x => f x + g x).sum = (l.map f).sum + (l.map g).sum
  | [] => rfl
  | x :: l => by have := sum_add f g l; simp only [List.map_cons, List.sum_cons]; omega
theorem sum_of {N : List ByteArray} (hN : RiseN N) : ∀ (c : List Seen), (N.map fun s => (ofS c s).more.length).sum ≤ room c
  | [] => by
    have : (N.map fun s => (ofS [] s).more.length) = N.map fun _ => 0 := List.map_congr_left fun s _ => rfl
    rw [this]
    clear this hN
    induction N with
    | nil => simp [room]
    | cons _ _ ih => simpa using ih
  | x :: c => by
    have h1 := sum_of hN c
    have h2 : (N.map fun s => (ofS (x :: c) s).more.length).sum ≤ (N.map fun s => (if x.node = s then x.more.length else 0) + (ofS c s).more.length).sum := by
      refine sum_le fun s _ => ?_
      by_cases e : x.node = s
      · have : ofS (x :: c) s = x := by unfold ofS; rw [List.find?_cons_of_pos (by simpa using e)]
        rw [this, if_pos e]; omega
      · have : ofS (x :: c) s = ofS c s := by unfold ofS; rw [List.find?_cons_of_neg (by simpa using e)]
        rw [this]; omega
    rw [sum_add] at h2
    have h3 := sum_at (s := x.node) (L := x.more.length) hN
    have e : room (x :: c) = x.more.length + room c := by simp [room]
    omega
theorem join_room (a b : List Seen) : room (joinAll a b) ≤ room a + room b := by
  obtain ⟨h1, _⟩ := nodesS_spec a b
  have h2 : room (joinAll a b) ≤ ((nodesS a b).map fun s => (ofS a s).more.length + (ofS b s).more.length).sum := by
    unfold room joinAll
    rw [List.map_map]
    exact sum_le fun s _ => bothS_len _ _
  rw [sum_add] at h2
  have := sum_of h1 a
  have := sum_of h1 b
  omega
theorem join_ok {a b : List Seen} (ha : ctxOk a = true) (hb : ctxOk b = true) (h : room a + room b ≤ 4096) : joinS a b = (joinAll a b, 0) := by
  have h1 := ctxOk_iff.1 ha; have h2 := ctxOk_iff.1 hb
  have : ctxOk (joinAll a b) = true := ctxOk_iff.2 ⟨(join_spec h1.1 h2.1).1, Nat.le_trans (join_room a b) h⟩
  simp [joinS, ha, hb, this]
end Go.Proofs.YtbomkkjhafdhiaaGreat
end

section
set_option linter.all false
set_option maxRecDepth 100000
namespace Go.Proofs.YtbomkkjhafdhiaaGreat
open Go.Ab

/-! ### dots in order -/
theorem lessD_irrefl (s : ByteArray) (n : Int) : lessD s n s n = false := by simp [lessD, sLt_irrefl]
theorem lessD_trans {s t u : ByteArray} {k m n : Int} (h1 : lessD s k t m = true) (h2 : lessD t m u n = true) : lessD s k u n = true := by
  simp only [lessD, Bool.or_eq_true, Bool.and_eq_true, decide_eq_true_eq] at *
  rcases h1 with h1 | ⟨rfl, h1⟩ <;> rcases h2 with h2 | ⟨rfl, h2⟩
  · exact .inl (sLt_trans h1 h2)
  · exact .inl h1
  · exact .inl h2
  · exact .inr ⟨rfl, by omega⟩
theorem lessD_tri {s t : ByteArray} {k m : Int} (h : lessD s k t m = false) (hn : ¬ (s = t ∧ k = m)) : lessD t m s k = true := by
  simp only [lessD, Bool.or_eq_true, Bool.and_eq_true, decide_eq_true_eq, Bool.or_eq_false_iff, Bool.and_eq_false_iff, decide_eq_false_iff_not] at *
  obtain ⟨h1, h2⟩ := h
  by_cases e : s = t
  · subst e
    right; refine ⟨rfl, ?_⟩
    rcases h2 with h2 | h2
    · exact absurd rfl h2
    · have : k ≠ m := fun hh => hn ⟨rfl, hh⟩
      omega
  · exact .inl (sLt_tri h1 e)
theorem lessD_ne {s t : ByteArray} {k m : Int} (h : lessD s k t m = true) : ¬ (s = t ∧ k = m) := by
  rintro ⟨rfl, rfl⟩; rw [lessD_irrefl] at h; cases h
def lessX (x y : Sib) : Bool := lessD x.node x.n y.node y.n
def Dot (x y : Sib) : Prop := x.node = y.node ∧ x.n = y.n
theorem Dot.symm {x y : Sib} (h : Dot x y) : Dot y x := ⟨h.1.symm, h.2.symm⟩
def RiseD (l : List Sib) : Prop := l.Pairwise fun x y => lessX x y = true
def Uq (l : List Sib) : Prop := ∀ x ∈ l, ∀ y ∈ l, Dot x y → x = y
theorem RiseD.uq : ∀ {l : List Sib}, RiseD l → Uq l
  | [], _ => fun x hx => by cases hx
  | z :: l, h => fun x hx y hy e => by
    have hp := List.pairwise_cons.1 h
    rcases List.mem_cons.1 hx with h1 | h1 <;> rcases List.mem_cons.1 hy with h2 | h2
    · rw [h1, h2]
    · exact absurd (h1 ▸ e) (lessD_ne (hp.1 y h2))
    · exact absurd (h2 ▸ e.symm) (lessD_ne (hp.1 x h1))
    · exact RiseD.uq hp.2 x h1 y h2 e
theorem riseD_unique {l m : List Sib} (hl : RiseD l) (hm : RiseD m) (h : ∀ x, x ∈ l ↔ x ∈ m) : l = m :=
  rise_unique (r := fun x y : Sib => lessX x y = true) (fun x => by unfold lessX; rw [lessD_irrefl]; simp) (fun x y z h1 h2 => lessD_trans h1 h2) hl hm h

/-! ### the greater of two values of one dot -/
def ltV (x y : Sib) : Bool := decide (x.time < y.time) || (decide (x.time = y.time) && (sLt x.value y.value || (decide (x.value = y.value) && (!x.gone && y.gone))))
def grS (x y : Sib) : Sib := if ltV x y then y else x
theorem ltV_iff {x y : Sib} : ltV x y = true ↔ x.time < y.time ∨ (x.time = y.time ∧ (sLt x.value y.value = true ∨ (x.value = y.value ∧ x.gone = false ∧ y.gone = true))) := by simp [ltV]
theorem ltV_irrefl (x : Sib) : ltV x x = false := by
  rw [← Bool.not_eq_true, ltV_iff, sLt_irrefl]
  rintro (h | ⟨_, h | ⟨_, h1, h2⟩⟩)
  · omega
  · cases h
  · rw [h1] at h2; cases h2
theorem ltV_trans {x y z : Sib} (h1 : ltV x y = true) (h2 : ltV y z = true) : ltV x z = true := by
  rw [ltV_iff] at *
  rcases h1 with h1 | ⟨e1, h1⟩ <;> rcases h2 with h2 | ⟨e2, h2⟩
  · left; omega
  · left; omega
  · left; omega
  · right
    refine ⟨e1.trans e2, ?_⟩
    rcases h1 with h1 | ⟨v1, g1, k1⟩ <;> rcases h2 with h2 | ⟨v2, g2, k2⟩
    · exact .inl (sLt_trans h1 h2)
    · left; rw [← v2]; exact h1
    · left; rw [v1]; exact h2
    · rw [k1] at g2; cases g2
theorem ltV_tri {x y : Sib} (h1 : ltV x y = false) (h2 : ltV y x = false) (hd : Dot x y) : x = y := by
  rw [← Bool.not_eq_true, ltV_iff, not_or, not_and, not_or] at h1 h2
  have ht : x.time = y.time := by omega
  have a1 := h1.2 ht; have a2 := h2.2 ht.symm
  have hv : x.value = y.value := by
    by_cases e : x.value = y.value
    · exact e
    · exact absurd (sLt_tri (by simpa using a1.1) e) a2.1
  have hg : x.gone = y.gone := by
    have b1 := a1.2; have b2 := a2.2
    cases h : x.gone <;> cases k : y.gone <;> simp [hv, h, k] at b1 b2 ⊢
  cases x; cases y; simp [Dot] at *; exact ⟨hd.1, hd.2, hv, hg, ht⟩
theorem grS_comm {x y : Sib} (hd : Dot x y) : grS x y = grS y x := by
  unfold grS
  cases h : ltV x y <;> cases k : ltV y x
  · simp; exact ltV_tri h k hd
  · simp
  · simp
  · have := ltV_trans h k; rw [ltV_irrefl] at this; cases this
theorem grS_dot {x y : Sib} (hd : Dot x y) : Dot (grS x y) x := by unfold grS; split; exact hd.symm; exact ⟨rfl, rfl⟩
theorem grS_or (x y : Sib) : grS x y = x ∨ grS x y = y := by unfold grS; split <;> simp
/-! ### where a dot's value stands -/
def isDot (s : ByteArray) (n : Int) (x : Sib) : Bool := decide (x.node = s) && decide (x.n = n)
def fnd (l : List Sib) (s : ByteArray) (n : Int) : Option Sib := l.find? (isDot s n)
theorem isDot_iff {s : ByteArray} {n : Int} {x : Sib} : isDot s n x = true ↔ x.node = s ∧ x.n = n := by simp [isDot]
theorem fnd_mem {l : List Sib} {s : ByteArray} {n : Int} {x : Sib} (h : fnd l s n = some x) : x ∈ l ∧ x.node = s ∧ x.n = n := ⟨List.mem_of_find?_eq_some h, isDot_iff.1 (List.find?_some h)⟩
theorem fnd_none {l : List Sib} {s : ByteArray} {n : Int} : fnd l s n = none ↔ ∀ x ∈ l, ¬ (x.node = s ∧ x.n = n) := by
  unfold fnd
  rw [List.find?_eq_none]
  exact ⟨fun h x hx hh => h x hx (isDot_iff.2 hh), fun h x hx hh => h x hx (isDot_iff.1 hh)⟩
theorem fnd_uq {l : List Sib} (hu : Uq l) {x : Sib} (hx : x ∈ l) : fnd l x.node x.n = some x := by
  cases h : fnd l x.node x.n with
  | none => exact absurd ⟨rfl, rfl⟩ (fnd_none.1 h x hx)
  | some y => obtain ⟨h1, h2⟩ := fnd_mem h; rw [hu y h1 x hx h2]
theorem fnd_eq {l m : List Sib} (hl : Uq l) (hm : ∀ x, x ∈ l ↔ x ∈ m) (s : ByteArray) (n : Int) : fnd l s n = fnd m s n := by
  cases h : fnd l s n with
  | none => exact (fnd_none.2 fun x hx => fnd_none.1 h x ((hm x).2 hx)).symm
  | some x =>
    obtain ⟨h1, rfl, rfl⟩ := fnd_mem h
    have hm' : Uq m := fun y hy z hz e => hl y ((hm y).2 hy) z ((hm z).2 hz) e
    exact (fnd_uq hm' ((hm x).1 h1)).symm
theorem fnd_map {f : Sib → Option Sib} (hf : ∀ x y, f x = some y → Dot y x) {s : ByteArray} {n : Int} : ∀ {l : List Sib}, RiseD l → fnd (l.filterMap f) s n = (fnd l s n).bind f
  | [], _ => rfl
  | x :: l, h => by
    have hp := List.pairwise_cons.1 h
    have ih := fnd_map hf (s := s) (n := n) (l := l) hp.2
    by_cases hd : isDot s n x = true
    · have e : fnd (x :: l) s n = some x := by unfold fnd; rw [List.find?_cons_of_pos hd]
      rw [e]
      cases hx : f x with
      | some y =>
        rw [List.filterMap_cons_some hx]
        have hy : isDot s n y = true := by
          have h1 := hf x y hx; have h2 := isDot_iff.1 hd
          exact isDot_iff.2 ⟨h1.1.trans h2.1, h1.2.trans h2.2⟩
        unfold fnd; rw [List.find?_cons_of_pos hy]; exact hx.symm
      | none =>
        rw [List.filterMap_cons_none hx, ih]
        have : fnd l s n = none := fnd_none.2 fun y hy hh => by
          have h2 := isDot_iff.1 hd
          exact lessD_ne (hp.1 y hy) ⟨h2.1.trans hh.1.symm, h2.2.trans hh.2.symm⟩
        rw [this]; exact hx.symm
    · have e : fnd (x :: l) s n = fnd l s n := by unfold fnd; rw [List.find?_cons_of_neg hd]
      rw [e, ← ih]
      cases hx : f x with
      | some y =>
        rw [List.filterMap_cons_some hx]
        have hy : ¬ isDot s n y = true := fun hh => hd (by
          have h1 := hf x y hx; have h2 := isDot_iff.1 hh
          exact isDot_iff.2 ⟨h1.1.symm.trans h2.1, h1.2.symm.trans h2.2⟩)
        unfold fnd; rw [List.find?_cons_of_neg hy]
      | none => rw [List.filterMap_cons_none hx]
theorem rise_map {f : Sib → Option Sib} (hf : ∀ x y, f x = some y → Dot y x) {l : List Sib} (h : RiseD l) : RiseD (l.filterMap f) := by
  unfold RiseD
  rw [List.pairwise_filterMap]
  exact h.imp fun {x y} hxy u hu v hv => by
    have h1 := hf x u hu; have h2 := hf y v hv
    show lessD u.node u.n v.node v.n = true
    rw [h1.1, h1.2, h2.1, h2.2]; exact hxy

/-! ### what two objects come to -/
def keptF (b : Obj') (x : Sib) : Option Sib := match fnd b.sibs x.node x.n with
  | some y => some (grS x y)
  | none => if hasS b.ctx x.node x.n then none else some x
def keptG (a : Obj') (x : Sib) : Option Sib := if (fnd a.sibs x.node x.n).isNone && !hasS a.ctx x.node x.n then some x else none
def keptA (a b : Obj') : List Sib := a.sibs.filterMap (keptF b)
def keptB (a b : Obj') : List Sib := b.sibs.filterMap (keptG a)
def putD : List Sib → Sib → List Sib
  | [], s => [s]
  | y :: l, s => if lessX y s then y :: putD l s else s :: y :: l
def mergeL (a b : Obj') : List Sib := (keptA a b ++ keptB a b).foldl putD []
def mergeO (a b : Obj') : Obj' := ⟨joinAll a.ctx b.ctx, mergeL a b⟩
theorem keptF_dot {b : Obj'} (x y : Sib) (h : keptF b x = some y) : Dot y x := by
  unfold keptF at h
  split at h
  · rename_i z hz
    obtain rfl := Option.some.inj h
    have := (fnd_mem hz).2
    exact grS_dot (x := x) (y := z) ⟨this.1.symm, this.2.symm⟩
  · split at h
    · cases h
    · obtain rfl := Option.some.inj h; exact ⟨rfl, rfl⟩
theorem keptG_eq {a : Obj'} {x y : Sib} (h : keptG a x = some y) : y = x ∧ fnd a.sibs x.node x.n = none ∧ hasS a.ctx x.node x.n = false := by
  unfold keptG at h
  split at h
  · rename_i hh
    simp only [Bool.and_eq_true, Option.isNone_iff_eq_none, Bool.not_eq_true'] at hh
    exact ⟨(Option.some.inj h).symm, hh⟩
  · cases h
theorem keptG_dot {a : Obj'} (x y : Sib) (h : keptG a x = some y) : Dot y x := by rw [(keptG_eq h).1]; exact ⟨rfl, rfl⟩
theorem putD_mem {s x : Sib} : ∀ {l : List Sib}, x ∈ putD l s ↔ x = s ∨ x ∈ l
  | [] => by simp [putD]
  | y :: l => by
    unfold putD
    split
    · rw [List.mem_cons, putD_mem (l := l), List.mem_cons]
      constructor
      · rintro (h | h | h)
        · exact .inr (.inl h)
        · exact .inl h
        · exact .inr (.inr h)
      · rintro (h | h | h)
        · exact .inr (.inl h)
        · exact .inl h
        · exact .inr (.inr h)
    · rw [List.mem_cons]
theorem putD_rise {s : Sib} : ∀ {l : List Sib}, RiseD l → (∀ x ∈ l, ¬ Dot x s) → RiseD (putD l s)
  | [], _, _ => List.pairwise_singleton _ _
  | y :: l, h, hn => by
    have hp := List.pairwise_cons.1 h
    unfold putD
    split
    · rename_i hy
      refine List.pairwise_cons.2 ⟨fun z hz => ?_, putD_rise hp.2 fun x hx => hn x (.tail _ hx)⟩
      rcases putD_mem.1 hz with rfl | hz
      · exact hy
      · exact hp.1 z hz
    · rename_i hy
      have hsy : lessX s y = true := lessD_tri (by simpa [lessX] using hy) (hn y (.head _))
      refine List.pairwise_cons.2 ⟨fun z hz => ?_, h⟩
      rcases List.mem_cons.1 hz with rfl | hz
      · exact hsy
      · exact lessD_trans hsy (hp.1 z hz)
theorem puts_spec : ∀ {M l : List Sib}, RiseD l → M.Pairwise (fun x y => ¬ Dot x y) → (∀ x ∈ l, ∀ y ∈ M, ¬ Dot x y) → RiseD (M.foldl putD l) ∧ ∀ x, x ∈ M.foldl putD l ↔ x ∈ l ∨ x ∈ M
  | [], l, h, _, _ => ⟨h, fun x => by simp⟩
  | s :: M, l, h, hM, hx => by
    have hp := List.pairwise_cons.1 hM
    obtain ⟨h1, h2⟩ := puts_spec (M := M) (putD_rise h fun x hxl => hx x hxl s (.head _)) hp.2 (fun x hxl y hy => by
      rcases putD_mem.1 hxl with rfl | hxl
      · exact hp.1 y hy
      · exact hx x hxl y (.tail _ hy))
    refine ⟨h1, fun x => ?_⟩
    rw [List.foldl_cons, h2, putD_mem, List.mem_cons]
    constructor
    · rintro ((h | h) | h)
      · exact .inr (.inl h)
      · exact .inl h
      · exact .inr (.inr h)
    · rintro (h | h | h)
      · exact .inl (.inr h)
      · exact .inl (.inl h)
      · exact .inr h
structure ObjG (o : Obj') : Prop where
  ctx : CtxG o.ctx
  rise : RiseD o.sibs
  ok : ∀ x ∈ o.sibs, sibOk x = true ∧ hasS o.ctx x.node x.n = true
theorem kept_apart {a b : Obj'} (ha : RiseD a.sibs) (hb : RiseD b.sibs) : (keptA a b ++ keptB a b).Pairwise fun x y => ¬ Dot x y := by
  rw [List.pairwise_append]
  refine ⟨(rise_map keptF_dot ha).imp fun h => lessD_ne h, (rise_map keptG_dot hb).imp fun h => lessD_ne h, fun x hx y hy hd => ?_⟩
  obtain ⟨u, hu, hux⟩ := List.mem_filterMap.1 hx
  obtain ⟨v, hv, hvy⟩ := List.mem_filterMap.1 hy
  have h1 := keptF_dot u x hux
  obtain ⟨rfl, h2, _⟩ := keptG_eq hvy
  exact fnd_none.1 h2 u hu ⟨h1.1.symm.trans hd.1, h1.2.symm.trans hd.2⟩
theorem mergeL_spec {a b : Obj'} (ha : RiseD a.sibs) (hb : RiseD b.sibs) : RiseD (mergeL a b) ∧ ∀ x, x ∈ mergeL a b ↔ x ∈ keptA a b ++ keptB a b := by
  obtain ⟨h1, h2⟩ := puts_spec (M := keptA a b ++ keptB a b) (l := []) .nil (kept_apart ha hb) (fun x hx => by cases hx)
  exact ⟨h1, fun x => by rw [mergeL, h2]; simp⟩
theorem fnd_merge {a b : Obj'} (ha : RiseD a.sibs) (hb : RiseD b.sibs) (s : ByteArray) (n : Int) : fnd (mergeL a b) s n = ((fnd a.sibs s n).bind (keptF b)).or ((fnd b.sibs s n).bind (keptG a)) := by
  obtain ⟨h1, h2⟩ := mergeL_spec ha hb
  rw [fnd_eq h1.uq h2, ← fnd_map keptF_dot ha, ← fnd_map keptG_dot hb]
  exact List.find?_append
inductive St where
  | un
  | rep
  | val (x : Sib)
def mg : St → St → St
  | .un, t => t
  | s, .un => s
  | .val x, .val y => .val (grS x y)
  | _, _ => .rep
def look (o : Obj') (s : ByteArray) (n : Int) : St := match fnd o.sibs s n with
  | some x => .val x
  | none => if hasS o.ctx s n then .rep else .un
theorem look_has {o : Obj'} (ho : ObjG o) (s : ByteArray) (n : Int) : hasS o.ctx s n = true ↔ look o s n ≠ .un := by
  unfold look
  cases h : fnd o.sibs s n with
  | some x =>
    obtain ⟨h1, rfl, rfl⟩ := fnd_mem h
    simp [(ho.ok x h1).2]
  | none => cases hh : hasS o.ctx s n <;> simp
theorem look_val {o : Obj'} (ho : ObjG o) {s : ByteArray} {n : Int} {x : Sib} : look o s n = .val x ↔ x ∈ o.sibs ∧ x.node = s ∧ x.n = n := by
  unfold look
  constructor
  · intro h
    split at h
    · rename_i y hy
      obtain rfl := St.val.inj h
      exact fnd_mem hy
    · split at h <;> cases h
  · rintro ⟨h1, rfl, rfl⟩
    rw [fnd_uq ho.rise.uq h1]
theorem merge_good {a b : Obj'} (ha : ObjG a) (hb : ObjG b) : ObjG (mergeO a b) := by
  obtain ⟨h1, h2⟩ := mergeL_spec ha.rise hb.rise
  obtain ⟨j1, j2⟩ := join_spec ha.ctx hb.ctx
  refine ⟨j1, h1, fun x hx => ?_⟩
  show sibOk x = true ∧ hasS (joinAll a.ctx b.ctx) x.node x.n = true
  rw [j2]
  rcases List.mem_append.1 ((h2 x).1 hx) with h | h
  · obtain ⟨u, hu, hux⟩ := List.mem_filterMap.1 h
    have hd := keptF_dot u x hux
    have hk := ha.ok u hu
    refine ⟨?_, by rw [hd.1, hd.2, hk.2]; rfl⟩
    unfold keptF at hux
    split at hux
    · rename_i z hz
      obtain rfl := Option.some.inj hux
      rcases grS_or u z with e | e
      · rw [e]; exact hk.1
      · rw [e]; exact (hb.ok z (fnd_mem hz).1).1
    · split at hux
      · cases hux
      · obtain rfl := Option.some.inj hux; exact hk.1
  · obtain ⟨u, hu, hux⟩ := List.mem_filterMap.1 h
    obtain ⟨rfl, _, _⟩ := keptG_eq hux
    have hk := hb.ok x hu
    exact ⟨hk.1, by rw [hk.2, Bool.or_true]⟩
theorem look_merge {a b : Obj'} (ha : ObjG a) (hb : ObjG b) (s : ByteArray) (n : Int) : look (mergeO a b) s n = mg (look a s n) (look b s n) := by
  obtain ⟨_, j2⟩ := join_spec ha.ctx hb.ctx
  unfold look
  rw [show (mergeO a b).sibs = mergeL a b from rfl, show (mergeO a b).ctx = joinAll a.ctx b.ctx from rfl, fnd_merge ha.rise hb.rise, j2]
  cases h1 : fnd a.sibs s n with
  | some x =>
    obtain ⟨m1, rfl, rfl⟩ := fnd_mem h1
    have ka := (ha.ok x m1).2
    cases h2 : fnd b.sibs x.node x.n with
    | some y => simp [keptF, h2, mg]
    | none => cases h3 : hasS b.ctx x.node x.n <;> simp [keptF, h2, h3, ka, mg]
  | none =>
    cases h2 : fnd b.sibs s n with
    | some y =>
      obtain ⟨m2, rfl, rfl⟩ := fnd_mem h2
      have kb := (hb.ok y m2).2
      cases h3 : hasS a.ctx y.node y.n <;> simp [keptG, h1, h3, kb, mg]
    | none => cases h3 : hasS a.ctx s n <;> cases h4 : hasS b.ctx s n <;> simp [mg]
theorem obj_unique {a b : Obj'} (ha : ObjG a) (hb : ObjG b) (h : ∀ s n, look a s n = look b s n) : a = b := by
  have hc : a.ctx = b.ctx := ctx_unique ha.ctx hb.ctx fun s n => by rw [Bool.eq_iff_iff, look_has ha, look_has hb, h]
  have hs : a.sibs = b.sibs := riseD_unique ha.rise hb.rise fun x => by
    have h1 := look_val ha (s := x.node) (n := x.n) (x := x)
    have h2 := look_val hb (s := x.node) (n := x.n) (x := x)
    rw [h] at h1
    simp only [and_true] at h1 h2
    rw [← h1, ← h2]
  rw [obj_eq]; exact ⟨hc, hs⟩
def Fits (s t : St) : Prop := ∀ x y, s = .val x → t = .val y → Dot x y
theorem look_fits {a b : Obj'} (s : ByteArray) (n : Int) : Fits (look a s n) (look b s n) := by
  have key : ∀ {o : Obj'} {x : Sib}, look o s n = .val x → x.node = s ∧ x.n = n := fun {o x} h => by
    unfold look at h
    split at h
    · rename_i y hy
      obtain rfl := St.val.inj h
      exact (fnd_mem hy).2
    · split at h <;> cases h
  intro x y hx hy
  have h1 := key hx; have h2 := key hy
  exact ⟨h1.1.trans h2.1.symm, h1.2.trans h2.2.symm⟩
theorem mg_comm {s t : St} (h : Fits s t) : mg s t = mg t s := by
  cases s <;> cases t <;> simp [mg]
  exact grS_comm (h _ _ rfl rfl)
theorem merge_comm {a b : Obj'} (ha : ObjG a) (hb : ObjG b) : mergeO a b = mergeO b a :=
  obj_unique (merge_good ha hb) (merge_good hb ha) fun s n => by rw [look_merge ha hb, look_merge hb ha, mg_comm (look_fits s n)]
theorem sibsGo_iff {c : List Seen} : ∀ {l : List Sib} {pv : Option Sib}, sibsGo c pv l = true ↔ (∀ p, pv = some p → ∀ x ∈ l, lessX p x = true) ∧ RiseD l ∧ ∀ x ∈ l, sibOk x = true ∧ hasS c x.node x.n = true
  | [], pv => by simp [sibsGo]; exact .nil
  | x :: l, pv => by
    simp only [sibsGo, Bool.and_eq_true, sibsGo_iff (l := l) (pv := some x)]
    constructor
    · rintro ⟨⟨⟨h1, h2⟩, h3⟩, h4, h5, h6⟩
      refine ⟨fun p hp y hy => ?_, List.pairwise_cons.2 ⟨fun y hy => h4 _ rfl y hy, h5⟩, fun y hy => ?_⟩
      · subst hp
        have h7 : lessX p x = true := h3
        rcases List.mem_cons.1 hy with rfl | hy
        · exact h7
        · exact lessD_trans h7 (h4 _ rfl y hy)
      · rcases List.mem_cons.1 hy with rfl | hy
        · exact ⟨h1, h2⟩
        · exact h6 y hy
    · rintro ⟨h1, h2, h3⟩
      have hp := List.pairwise_cons.1 h2
      refine ⟨⟨h3 x (.head _), ?_⟩, (fun p hp' y hy => by cases hp'; exact hp.1 y hy), hp.2, fun y hy => h3 y (.tail _ hy)⟩
      cases pv with
      | none => rfl
      | some p => exact h1 p rfl x (.head _)
theorem objOk_iff {o : Obj'} : objOk o = true ↔ ObjG o ∧ room o.ctx ≤ 4096 := by
  simp only [objOk, Bool.and_eq_true, ctxOk_iff, sibsGo_iff]
  constructor
  · rintro ⟨⟨h1, h2⟩, _, h3, h4⟩; exact ⟨⟨h1, h3, h4⟩, h2⟩
  · rintro ⟨⟨h1, h2, h3⟩, h4⟩; exact ⟨⟨h1, h4⟩, (fun p hp => by cases hp), h2, h3⟩
def mergeS (a b : Obj') : Obj' × Int := if objOk a && objOk b then (if (joinS a.ctx b.ctx).2 = 0 then (⟨(joinS a.ctx b.ctx).1, mergeL a b⟩, 0) else (⟨[], []⟩, (joinS a.ctx b.ctx).2)) else (⟨[], []⟩, 1)
theorem mergeS_ok {a b : Obj'} (ha : objOk a = true) (hb : objOk b = true) (h : room a.ctx + room b.ctx ≤ 4096) : mergeS a b = (mergeO a b, 0) ∧ objOk (mergeO a b) = true := by
  have h1 := objOk_iff.1 ha; have h2 := objOk_iff.1 hb
  have hj := join_ok (ctxOk_iff.2 ⟨h1.1.ctx, h1.2⟩) (ctxOk_iff.2 ⟨h2.1.ctx, h2.2⟩) h
  refine ⟨by simp [mergeS, ha, hb, hj, mergeO], objOk_iff.2 ⟨merge_good h1.1 h2.1, Nat.le_trans (join_room _ _) h⟩⟩
end Go.Proofs.YtbomkkjhafdhiaaGreat
end

section
set_option linter.all false
set_option maxRecDepth 100000
namespace Go.Proofs.YtbomkkjhafdhiaaGreat
open Go.Ab
instance : DecidableEq Seen := fun a b => decidable_of_iff (a.node = b.node ∧ a.base = b.base ∧ a.more = b.more) (by cases a; cases b; simp)
instance : DecidableEq Sib := fun a b => decidable_of_iff (a.node = b.node ∧ a.n = b.n ∧ a.value = b.value ∧ a.gone = b.gone ∧ a.time = b.time) (by cases a; cases b; simp)
instance : DecidableEq Obj' := fun a b => decidable_of_iff (a.ctx = b.ctx ∧ a.sibs = b.sibs) (by cases a; cases b; simp)
theorem dec_of {p : Prop} [Decidable p] {r : Bool} (h : r = true ↔ p) : r = decide p := by rw [Bool.eq_iff_iff, h, decide_eq_true_eq]
theorem same07_f {a b : Obj'} {σ : Store} (hA : ObjSm a) (hB : ObjSm b) : ACalls Tryz.prog 33 [sObj a, sObj b] σ fun v σ' => v = vB (decide (a = b)) ∧ σ = σ' :=
  (same07_c hA hB).wkS fun v σ' ⟨⟨r, hv, hr⟩, hs⟩ => ⟨v, σ', .refl _, .refl _, by rw [hv, dec_of hr], hs⟩
end Go.Proofs.YtbomkkjhafdhiaaGreat
end

section
set_option linter.all false
set_option maxRecDepth 100000
namespace Go.Proofs.YtbomkkjhafdhiaaGreat
open Go.Ab

def RiseIt (l : List Itm) : Prop := l.Pairwise fun a b => sLt a.place b.place = true
theorem upGo_rise {α : Type} {ok : α → Bool} {key : α → ByteArray} : ∀ {l : List α} {pv : Option ByteArray}, upGo ok key pv l = true → (∀ p, pv = some p → ∀ x ∈ l, sLt p (key x) = true) ∧ (l.Pairwise fun a b => sLt (key a) (key b) = true) ∧ ∀ x ∈ l, ok x = true
  | [], _, _ => ⟨fun _ _ x hx => (List.not_mem_nil hx).elim, List.Pairwise.nil, fun x hx => (List.not_mem_nil hx).elim⟩
  | x :: l, pv, h => by
    simp only [upGo, Bool.and_eq_true] at h
    obtain ⟨⟨h1, h2⟩, h3⟩ := h
    obtain ⟨g1, g2, g3⟩ := upGo_rise h3
    refine ⟨fun p hp y hy => ?_, List.pairwise_cons.2 ⟨fun y hy => g1 _ rfl y hy, g2⟩, fun y hy => ?_⟩
    · subst hp
      have h4 : sLt p (key x) = true := h2
      rcases List.mem_cons.1 hy with rfl | hy
      · exact h4
      · exact sLt_trans h4 (g1 _ rfl y hy)
    · rcases List.mem_cons.1 hy with rfl | hy
      · exact h1
      · exact g3 y hy
theorem itemsOk_rise {l : List Itm} (h : itemsOk l = true) : RiseIt l ∧ ∀ x ∈ l, placeOk x.place = true ∧ objOk x.obj = true := by
  obtain ⟨_, h2, h3⟩ := upGo_rise h
  exact ⟨h2, fun x hx => by have := h3 x hx; rwa [Bool.and_eq_true] at this⟩

/-- both rows gone through side by side: what comes out, what of it is changed, and why not -/
def mgG : List Itm → List Itm → List Itm × List Itm × Int
  | [], os => (os, os, 0)
  | a :: l, [] => (a :: l, [], 0)
  | a :: l, b :: os =>
    if sLt a.place b.place = true then (if (mgG l (b :: os)).2.2 = 0 then (a :: (mgG l (b :: os)).1, (mgG l (b :: os)).2.1, 0) else ([], [], (mgG l (b :: os)).2.2))
    else if sLt b.place a.place = true then (if (mgG (a :: l) os).2.2 = 0 then (b :: (mgG (a :: l) os).1, b :: (mgG (a :: l) os).2.1, 0) else ([], [], (mgG (a :: l) os).2.2))
    else if (mergeS a.obj b.obj).2 ≠ 0 then ([], [], (mergeS a.obj b.obj).2)
    else (if (mgG l os).2.2 = 0 then (⟨a.place, (mergeS a.obj b.obj).1⟩ :: (mgG l os).1, (if (mergeS a.obj b.obj).1 = a.obj then (mgG l os).2.1 else ⟨a.place, (mergeS a.obj b.obj).1⟩ :: (mgG l os).2.1), 0) else ([], [], (mgG l os).2.2))
termination_by l os => l.length + os.length
theorem mgG_nil (os : List Itm) : mgG [] os = (os, os, 0) := by rw [mgG]
theorem mgG_nil2 (l : List Itm) : mgG l [] = (l, [], 0) := by
  cases l with
  | nil => rw [mgG]
  | cons a l => rw [mgG]
/-- what was gathered, and what comes of the rest -/
def mgC (out ch : List Itm) (r : List Itm × List Itm × Int) : List Itm × List Itm × Int := if r.2.2 = 0 then (out ++ r.1, ch ++ r.2.1, 0) else ([], [], r.2.2)
theorem mgC_low {out ch l os : List Itm} {a b : Itm} (h : sLt a.place b.place = true) : mgC out ch (mgG (a :: l) (b :: os)) = mgC (out ++ [a]) ch (mgG l (b :: os)) := by
  rw [mgG, if_pos h]
  unfold mgC
  split
  · rename_i h0
    rw [if_pos rfl]; simp
  · rfl
theorem mgC_high {out ch l os : List Itm} {a b : Itm} (h : sLt a.place b.place = false) (h' : sLt b.place a.place = true) : mgC out ch (mgG (a :: l) (b :: os)) = mgC (out ++ [b]) (ch ++ [b]) (mgG (a :: l) os) := by
  rw [mgG, if_neg (by simp [h]), if_pos h']
  unfold mgC
  split
  · rename_i h0
    rw [if_pos rfl]; simp
  · rfl
theorem mgC_err {out ch l os : List Itm} {a b : Itm} (h : a.place = b.place) (he : (mergeS a.obj b.obj).2 ≠ 0) : mgC out ch (mgG (a :: l) (b :: os)) = ([], [], (mergeS a.obj b.obj).2) := by
  rw [mgG, if_neg (by rw [h, sLt_irrefl]; simp), if_neg (by rw [h, sLt_irrefl]; simp), if_pos he]
  unfold mgC
  rw [if_neg he]
theorem mgC_eq {out ch l os : List Itm} {a b : Itm} (h : a.place = b.place) (he : (mergeS a.obj b.obj).2 = 0) :
    mgC out ch (mgG (a :: l) (b :: os)) = mgC (out ++ [⟨a.place, (mergeS a.obj b.obj).1⟩]) (if (mergeS a.obj b.obj).1 = a.obj then ch else ch ++ [⟨a.place, (mergeS a.obj b.obj).1⟩]) (mgG l os) := by
  rw [mgG, if_neg (by rw [h, sLt_irrefl]; simp), if_neg (by rw [h, sLt_irrefl]; simp), if_neg (by simp [he])]
  unfold mgC
  by_cases h0 : (mgG l os).2.2 = 0
  · rw [if_pos h0, if_pos rfl, if_pos h0]
    split <;> simp
  · rw [if_neg h0, if_neg h0, if_neg h0]
def mergeI (l os : List Itm) : List Itm × List Itm × Int := if itemsOk l && itemsOk os then mgG l os else ([], [], 1)

/-! ### the document's way -/
theorem mgG_err : ∀ (n : Nat) (l os : List Itm), l.length + os.length ≤ n → (mgG l os).2.2 ≠ 0 → mgG l os = ([], [], (mgG l os).2.2) := by
  intro n
  induction n with
  | zero =>
    intro l os hn h
    obtain rfl : l = [] := List.eq_nil_of_length_eq_zero (by omega)
    rw [mgG_nil] at h; exact absurd rfl h
  | succ n ih =>
    intro l os hn h
    match l, os with
    | [], os => rw [mgG_nil] at h; exact absurd rfl h
    | a :: l, [] => rw [mgG_nil2] at h; exact absurd rfl h
    | a :: l, b :: os =>
      rw [mgG] at h ⊢
      split
      · split
        · rename_i h1 h2; rw [if_pos h1, if_pos h2] at h; exact absurd rfl h
        · rfl
      · split
        · split
          · rename_i h0 h1 h2; rw [if_neg h0, if_pos h1, if_pos h2] at h; exact absurd rfl h
          · rfl
        · split
          · rfl
          · split
            · rename_i h0 h1 h2 h3; rw [if_neg h0, if_neg h1, if_neg h2, if_pos h3] at h; exact absurd rfl h
            · rfl
end Go.Proofs.YtbomkkjhafdhiaaGreat
end

section
set_option linter.all false
namespace Go.Ab
section
variable {P : Program} {ops : Array Oper} {s0 : Store} {Kk : Env → Store → Prop} {o : Oper} {i : Nat} {r : DT} {e : Env} {σ : Store}
end
end Go.Ab
end

section
set_option linter.all false
set_option maxRecDepth 100000
namespace Go.Proofs.YtbomkkjhafdhiaaGreat
open Go.Ab
theorem oneItm (l : List Itm) : ∀ y ∈ l.map sItem, ∀ c ∈ y.cells, c.one = true := lits_one sItem (fun x c hc => by simp [AVal.cells] at hc; rcases hc with rfl | rfl | rfl <;> rfl) l
theorem szItm (l : List Itm) : ∀ y ∈ l.map sItem, y.cells.length = 3 := lits_sz sItem (fun x => rfl) l
@[reducible] def slI (L : List Itm) : AVal := .sl 3 (L.map sItem) false
theorem growItm_c {n : Nat} {σ : Store} (hn : n ≤ 1000000000) : ACalls Tryz.prog 46 [vNil, vInt n] σ fun v σ' => CBp σ σ' 3 [] v := by
  refine ACalls_of Tryz.func46 rfl Tryz.ntmps46 (congrArg Array.toList Tryz.results46) (by simp only [List.length_cons, List.length_nil]; decide) ?_; simp only [envOf_cons, envOf_nil, Nat.reduceAdd]
  refine awp_seq ?_
  refine awp_region (by kernel_rfl) ?_
  (refine aL_S rfl rfl v_ ?_)
  refine aL_nil ?_
  refine awp_seq ?_
  refine awp_seq ?_
  refine awp_region (by kernel_rfl) ?_
  iterate 2 (refine aL_S rfl rfl v_ ?_)
  refine aL_nil ?_
  refine awp_cond v_ (fun hc1 => ?_) (fun hc1 => ?_)
  · replace hc1 := nm_ hc1
    omega
  · replace hc1 := nm_ hc1
    refine awp_skip ?_
    refine awp_seq ?_
    refine awp_seq ?_
    refine awp_region (by kernel_rfl) ?_
    iterate 2 (refine aL_S rfl rfl v_ ?_)
    refine aL_X rfl rfl (AOp_capNil rfl g_ va_ ?_)
    iterate 5 (refine aL_S rfl rfl v_ ?_)
    refine aL_nil ?_
    refine awp_seq ?_
    refine awp_region (by kernel_rfl) ?_
    iterate 2 (refine aL_S rfl rfl v_ ?_)
    refine aL_nil ?_
    refine awp_cond v_ (fun hc4 => ?_) (fun hc4 => ?_)
    · replace hc4 := nm_ hc4
      refine awp_region (by kernel_rfl) ?_
      iterate 2 (refine aL_S rfl rfl v_ ?_)
      refine aL_X rfl rfl (AOp_capNil rfl g_ va_ ?_)
      iterate 2 (refine aL_S rfl rfl v_ ?_)
      refine aL_X rfl rfl (AOp_appendMake (n := n) rfl g_ g_ g_ va_ va_ (by omega) (by omega) fun o22 ho22 => ?_)
      iterate 4 (refine aL_S rfl rfl v_ ?_)
      refine aL_nil ?_
      refine awp_seq ?_
      refine awp_region (by kernel_rfl) ?_
      iterate 2 (refine aL_S rfl rfl v_ ?_)
      refine aL_nil ?_
      refine awp_ret ?_
      refine aEnd_ret v_ (Store.Wk.refl _) ?_
      exact .inr ⟨o22, ho22, rfl, rfl⟩
    · replace hc4 := nm_ hc4
      refine awp_skip ?_
      refine awp_seq ?_
      refine awp_region (by kernel_rfl) ?_
      iterate 2 (refine aL_S rfl rfl v_ ?_)
      refine aL_nil ?_
      refine awp_ret ?_
      refine aEnd_ret v_ (Store.Wk.refl _) ?_
      exact .inl ⟨rfl, rfl, rfl⟩
theorem flatten_take {α : Type} {Ls : List (List α)} {k : Nat} {x : List α} (h : Ls[k]? = some x) : (Ls.take (k + 1)).flatten = (Ls.take k).flatten ++ x := by rw [take_snoc h, List.flatten_append]; simp
theorem flatten_le {α : Type} (Ls : List (List α)) (k : Nat) : (Ls.take k).flatten.length ≤ Ls.flatten.length := by
  conv => rhs; rw [← List.take_append_drop k Ls, List.flatten_append, List.length_append]
  omega
theorem concatItm_c {Ls : List (List Itm)} {tt : Bool} {σ : Store} (hb : Ls.flatten.length ≤ 10000000) (hn : Ls.length ≤ 10) :
    ACalls Tryz.prog 22 [.sl 1 (Ls.map slI) tt] σ fun v σ' => CBp σ σ' 3 (Ls.flatten.map sItem) v := by
  have hle := fun k => flatten_le Ls k
  refine ACalls_of Tryz.func22 rfl Tryz.ntmps22 (congrArg Array.toList Tryz.results22) (by simp only [List.length_cons, List.length_nil]; decide) ?_; simp only [envOf_cons, envOf_nil, Nat.reduceAdd]
  refine awp_seq ?_
  refine awp_region (by kernel_rfl) ?_
  (refine aL_S rfl rfl v_ ?_)
  refine aL_nil ?_
  refine awp_seq ?_
  refine awp_region (by kernel_rfl) ?_
  (refine aL_S rfl rfl v_ ?_)
  refine aL_nil ?_
  refine awp_seq ?_
  refine awp_seq ?_
  refine awp_region (by kernel_rfl) ?_
  iterate 3 (refine aL_S rfl rfl v_ ?_)
  refine aL_nil ?_
  refine awp_block ?_
  refine awp_loop_env (ι := Nat) (fun k => Ls.length - k) (fun k => k ≤ Ls.length) (fun k => [(0, .sl 1 (Ls.map slI) tt), (3, vInt ((Ls.take k).flatten.length : Int)), (9, .sl 1 (Ls.map slI) tt), (10, vInt Ls.length), (11, vInt k)]) (fun k => σ) 0 ?_ ?_ ?_ ?_
  · exact Nat.zero_le _
  · exact cv_
  · exact sub_
  rintro k hk
  simp only [envL_cons, envL_nil]
  refine awp_seq ?_
  refine awp_region (by kernel_rfl) ?_
  (refine aL_S rfl rfl v_ ?_)
  refine aL_nil ?_
  refine awp_seq ?_
  refine awp_cond v_ (fun hc3 => ?_) (fun hc3 => ?_)
  · replace hc3 := nm_ hc3
    refine awp_skip ?_
    refine awp_seq ?_
    refine awp_block ?_
    refine awp_seq ?_
    obtain ⟨x, hx⟩ := get_some (l := Ls) (k := k) (by omega)
    have hcov : (((Ls.take (k + 1)).flatten.length : Nat) : Int) = ((Ls.take k).flatten.length : Int) + (x.length : Int) := by rw [flatten_take hx, List.length_append]; omega
    have hk1 := hle k; have hk2 := hle (k + 1)
    have R := hx
    refine awp_region (by kernel_rfl) ?_
    iterate 3 (refine aL_S rfl rfl v_ ?_)
    refine aL_nil ?_
    refine awp_seq ?_
    refine awp_region (by kernel_rfl) ?_
    iterate 5 (refine aL_S rfl rfl v_ ?_)
    refine aL_nil ?_
    refine awp_seq ?_
    refine awp_region (by kernel_rfl) ?_
    iterate 2 (refine aL_S rfl rfl v_ ?_)
    refine aL_nil ?_
    refine awp_cond v_ (fun hc6 => ?_) (fun hc6 => ?_)
    · replace hc6 := nm_ hc6
      omega
    · replace hc6 := nm_ hc6
      refine awp_skip ?_
      refine awp_region (by kernel_rfl) ?_
      iterate 2 (refine aL_S rfl rfl v_ ?_)
      refine aL_nil ?_
      refine aNext (ι := Nat) (i := k) (k + 1) ?_ ?_ ?_ ?_
      · omega
      · exact (by omega)
      · have R := hcov; exact cv_
      · exact sub_
  · replace hc3 := nm_ hc3
    refine awp_exit ?_
    refine aThen_exit ?_
    refine aThen_exit ?_
    refine aBlock_hit ?_
    refine awp_seq ?_
    obtain rfl : k = Ls.length := by omega
    rw [List.take_length]
    refine awp_region (by kernel_rfl) ?_
    (refine aL_S rfl rfl v_ ?_)
    refine aL_X rfl rfl (AOp_use rfl rfl (.inr ⟨rfl, rfl, rfl⟩) g_ va_ (growItm_c (n := Ls.flatten.length) (by omega)) ?_); rintro _ τ0 hC0
    rename_i b0
    (refine aL_S rfl rfl v_ ?_)
    refine aL_nil ?_
    refine awp_seq ?_
    refine awp_seq ?_
    refine awp_region (by kernel_rfl) ?_
    iterate 3 (refine aL_S rfl rfl v_ ?_)
    refine aL_nil ?_
    refine awp_block ?_
    refine awp_loop_env (ι := Store × AVal × Nat) (fun ⟨τ, b, k⟩ => Ls.length - k) (fun ⟨τ, b, k⟩ => k ≤ Ls.length ∧ CBp σ τ 3 ((Ls.take k).flatten.map sItem) b) (fun ⟨τ, b, k⟩ => [(6, b), (25, .sl 1 (Ls.map slI) tt), (26, vInt Ls.length), (27, vInt k)]) (fun ⟨τ, b, k⟩ => τ) (τ0, b0, 0) ?_ ?_ ?_ ?_
    · exact ⟨Nat.zero_le _, hC0⟩
    · exact cv_
    · exact Store.Wk.refl _
    rintro ⟨τ, b, k⟩ ⟨hk, hC⟩
    simp only [envL_cons, envL_nil]
    refine awp_seq ?_
    refine awp_region (by kernel_rfl) ?_
    (refine aL_S rfl rfl v_ ?_)
    refine aL_nil ?_
    refine awp_seq ?_
    refine awp_cond v_ (fun hc11 => ?_) (fun hc11 => ?_)
    · replace hc11 := nm_ hc11
      refine awp_skip ?_
      refine awp_seq ?_
      refine awp_block ?_
      refine awp_seq ?_
      obtain ⟨x, hx⟩ := get_some (l := Ls) (k := k) (by omega)
      have hk1 := hle k; have hk2 := hle (k + 1)
      rw [flatten_take hx, List.length_append] at hk2
      have R := hx
      refine awp_region (by kernel_rfl) ?_
      iterate 3 (refine aL_S rfl rfl v_ ?_)
      refine aL_nil ?_
      refine awp_region (by kernel_rfl) ?_
      iterate 2 (refine aL_S rfl rfl v_ ?_)
      refine aL_X rfl rfl (AOp_appendC rfl g_ g_ hC va_ (szItm _) va_ (oneItm _) (by simp only [List.length_append, List.length_map]; omega) fun a' σ' hC' => ?_)
      (refine aL_S rfl rfl v_ ?_)
      refine aL_nil ?_
      refine awp_region (by kernel_rfl) ?_
      iterate 2 (refine aL_S rfl rfl v_ ?_)
      refine aL_nil ?_
      refine aNext (ι := Store × AVal × Nat) (i := ⟨τ, b, k⟩) (σ', a', k + 1) ?_ ?_ ?_ ?_
      · show Ls.length - (k + 1) < Ls.length - k; omega
      · exact ⟨by show k + 1 ≤ Ls.length; omega, by rw [flatten_take hx, List.map_append]; exact hC'⟩
      · exact cv_
      · exact Store.Wk.refl _
    · replace hc11 := nm_ hc11
      refine awp_exit ?_
      refine aThen_exit ?_
      refine aThen_exit ?_
      refine aBlock_hit ?_
      refine awp_seq ?_
      obtain rfl : k = Ls.length := by omega
      rw [List.take_length] at hC
      refine awp_region (by kernel_rfl) ?_
      iterate 2 (refine aL_S rfl rfl v_ ?_)
      refine aL_nil ?_
      refine awp_ret ?_
      refine aEnd_ret v_ (Store.Wk.refl _) ?_
      exact hC
end Go.Proofs.YtbomkkjhafdhiaaGreat
end

section
set_option linter.all false
set_option maxRecDepth 100000
namespace Go.Proofs.YtbomkkjhafdhiaaGreat
open Go.Ab

end Go.Proofs.YtbomkkjhafdhiaaGreat
end

section
set_option linter.all false
set_option maxRecDepth 100000
namespace Go.Proofs.YtbomkkjhafdhiaaGreat
open Go.Ab

end Go.Proofs.YtbomkkjhafdhiaaGreat
end
