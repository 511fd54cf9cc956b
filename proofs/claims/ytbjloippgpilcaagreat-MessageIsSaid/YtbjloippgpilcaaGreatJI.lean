/-
  Messages of bytes, on both sides; What must come, whatever the arguments are: Message. Own work (an AI agent).
-/
import Derived.Test.YtbjloippgpilcaaGreatJG
import Derived.Test.YtbjloippgpilcaaGreatJE
import Derived.Test.YtbjloippgpilcaaGreatJD
import Derived.Test.YtbjloippgpilcaaGreatJB
import Derived.Test.YtbjloippgpilcaaGreatJC
import Derived.Test.YtbjloippgpilcaaGreatJH

section
set_option linter.all false
set_option maxRecDepth 100000
namespace Go.Proofs.YtbjloippgpilcaaGreat
open Go.Ab

def msg0 : Msg := ⟨0, ⟨#[]⟩, ⟨#[]⟩, 0, 0, ⟨#[]⟩, ⟨[], []⟩, [], [], [], []⟩
def mofOk (s : List UInt8) : Bool := (rdMsg (s, true)).2.2 && decide ((rdMsg (s, true)).2.1 = []) && msgOk (rdMsg (s, true)).1 && decide (msgB (rdMsg (s, true)).1 = s)
def mofW (s : List UInt8) : Msg × Int := if mofOk s then ((rdMsg (s, true)).1, 0) else (msg0, 3)
theorem msg0_wk : Wk (.agg [.lit (.int .i64 0), .lit (.string ⟨#[]⟩), .lit (.string ⟨#[]⟩), .lit (.int .i64 0), .lit (.int .i64 0), .lit (.string ⟨#[]⟩), .lit (.slice none 0 0), .lit (.slice none 0 0), .lit (.slice none 0 0), .lit (.slice none 0 0), .lit (.slice none 0 0), .lit (.slice none 0 0)]) (sMsg msg0) := .agg _ _ rfl (fun j hj hj' => by match j, hj with | 0, _ => exact .refl _ | 1, _ => exact .refl _ | 2, _ => exact .refl _ | 3, _ => exact .refl _ | 4, _ => exact .refl _ | 5, _ => exact .refl _ | 6, _ => exact .nil _ _ | 7, _ => exact .nil _ _ | 8, _ => exact .nil _ _ | 9, _ => exact .nil _ _ | 10, _ => exact .nil _ _ | 11, _ => exact .nil _ _)
set_option maxHeartbeats 1000000 in
theorem mOf_g {s : List UInt8} {σ : Store} (hsm : (rdMsg (s, true)).2.2 = true → MsgSm (rdMsg (s, true)).1) : ACalls Tryz.prog 12 [vStr (B s)] σ fun v σ' => v = .tup [sMsg (mofW s).1, vInt (mofW s).2] ∧ σ = σ' := by
  have hdef : mofOk s = ((rdMsg (s, true)).2.2 && decide ((rdMsg (s, true)).2.1 = []) && msgOk (rdMsg (s, true)).1 && decide (msgB (rdMsg (s, true)).1 = s)) := rfl
  obtain ⟨o, ho⟩ : ∃ o, (rdMsg (s, true)).1 = o := ⟨_, rfl⟩
  obtain ⟨y, hy⟩ : ∃ y, (rdMsg (s, true)).2 = y := ⟨_, rfl⟩
  rw [ho, hy] at hsm
  rw [ho, hy] at hdef
  have hof : mofW s = if mofOk s then (o, 0) else (msg0, 3) := by rw [mofW, ho]
  refine ACalls_of Tryz.func12 rfl Tryz.ntmps12 (congrArg Array.toList Tryz.results12) (by simp only [List.length_cons, List.length_nil]; decide) ?_; simp only [envOf_cons, envOf_nil, Nat.reduceAdd]
  refine awp_seq ?_
  refine awp_region (by kernel_rfl) ?_
  refine aL_alloc rfl rfl rfl g_ gl_ fun o2 ho2 => ?_
  repeat (rw [none_set_iff] at ho2; obtain ⟨_, ho2⟩ := ho2)
  (refine aL_S rfl rfl v_ ?_)
  refine aL_nil ?_
  refine awp_seq ?_
  refine awp_region (by kernel_rfl) ?_
  (refine aL_S rfl rfl v_ ?_)
  refine aL_X rfl rfl (AOp_use rfl rfl (.inr ⟨rfl, rfl, rfl⟩) g_ va_ (new_c) ?_); rintro _ _ ⟨r, hr, rfl, rfl⟩
  (refine aL_S rfl rfl v_ ?_)
  refine aL_nil ?_
  refine awp_seq ?_
  refine awp_region (by kernel_rfl) ?_
  (refine aL_S rfl rfl v_ ?_)
  refine aL_X rfl rfl (AOp_use rfl rfl (.inr ⟨rfl, rfl, rfl⟩) g_ va_ (mread_c (x := (s, true)) (Store.set_get ..)) ?_); rintro _ τ ⟨rfl, g1, g2⟩
  rw [ho]
  rw [hy] at g1
  have n2 : o2 ≠ r := Ne.symm (fun hh => by rw [hh, Store.set_get] at hr; cases hr)
  have t2 := keep g2 (i := o2) (x := .cells [.lit (.int .i64 0), .lit (.string ⟨#[]⟩), .lit (.string ⟨#[]⟩), .lit (.int .i64 0), .lit (.int .i64 0), .lit (.string ⟨#[]⟩), .lit (.slice none 0 0), .lit (.slice none 0 0), .lit (.slice none 0 0), .lit (.slice none 0 0), .lit (.slice none 0 0), .lit (.slice none 0 0)]) (by rw [Store.set_ne _ _ n2]; exact Store.set_get ..) (by simpa using n2)
  refine aL_alloc rfl rfl rfl g_ gl_ fun o5 ho5 => ?_
  repeat (rw [none_set_iff] at ho5; obtain ⟨_, ho5⟩ := ho5)
  refine aL_store rfl rfl rfl v_ v_ h_ g_ rfl g_ c_ (by rfl) le_ v_ ?_
  refine aL_nil ?_
  skip
  have n25 := ne_of_heap t2 ho5
  have hrσ : σ.heap r = none := by rwa [Store.set_ne _ _ (Ne.symm n2)] at hr
  have st : SubX [] σ τ := ⟨fun i x _ hx => by
    have h1 : i ≠ r := fun hh => by rw [hh, hrσ] at hx; cases hx
    have h2 : i ≠ o2 := fun hh => by rw [hh, ho2] at hx; cases hx
    exact g2.1 i x (by simpa using h1) (by rw [Store.set_ne _ _ h1, Store.set_ne _ _ h2]; exact hx), fun t n ht => g2.2 t n ht⟩
  have n5σ : σ.heap o5 = none := SubX.noObj st ho5 (by simp)
  have n5 := ne_of_heap g1 ho5
  refine awp_seq ?_
  refine awp_seq ?_
  refine awp_region (by kernel_rfl) ?_
  (refine aL_S rfl rfl v_ ?_)
  refine aL_X rfl rfl (AOp_use rfl rfl (.inr ⟨rfl, rfl, rfl⟩) g_ va_ (rdDone_c (x := y) (by simp (disch := omega) only [Store.set_ne, g1])) ?_); rintro _ _ ⟨rfl, rfl⟩
  iterate 2 (refine aL_S rfl rfl v_ ?_)
  refine aL_GF rfl rfl v_ rfl vg_ ?_
  refine aL_GFX rfl rfl v_ rfl (fun hb => AOp_useV (by rfl) (by rfl) (.inr ⟨by rfl, by rfl, by rfl⟩) g_ cg_ (mCheck_c (hsm (by have h := hb; simp at h; exact h.1)))) ?_
  refine aL_GF rfl rfl v_ rfl vg_ ?_
  iterate 2 (refine aL_S rfl rfl v_ ?_)
  refine aL_GF rfl rfl v_ rfl vg_ ?_
  refine aL_GFX rfl rfl v_ rfl (fun hb => AOp_useV (by rfl) (by rfl) (.inr ⟨by rfl, by rfl, by rfl⟩) g_ cg_ (mBytes_c (hsm (by have h := hb; simp at h; exact h.1.1)))) ?_
  refine aL_GF rfl rfl v_ rfl vg_ ?_
  refine aL_GF rfl rfl v_ rfl vg_ ?_
  (refine aL_S rfl rfl v_ ?_)
  refine aL_nil ?_
  refine awp_cond v_ (fun hc3 => ?_) (fun hc3 => ?_)
  · replace hc3 := nm_ hc3
    skip
    have hfl : mofOk s = false := by
      rw [chk0] at hc3
      rw [hdef]
      rcases hc3 with ((h | h) | h) | h
      · simp [h]
      · simp [h]
      · simp [Bool.eq_false_iff.2 h]
      · rw [B_eq_iff] at h; simp [h]
    refine awp_seq ?_
    have R := t2
    refine awp_region (by kernel_rfl) ?_
    (refine aL_S rfl rfl v_ ?_)
    refine aL_store rfl rfl rfl v_ v_ h_ g_ rfl g_ c_ (by rfl) le_ v_ ?_
    (refine aL_S rfl rfl v_ ?_)
    refine aL_nil ?_
    refine awp_ret ?_
    rw [hof, hfl]
    exact aEnd_retW (v := .tup [sMsg msg0, vInt 3]) (v' := .tup [.agg [.lit (.int .i64 0), .lit (.string ⟨#[]⟩), .lit (.string ⟨#[]⟩), .lit (.int .i64 0), .lit (.int .i64 0), .lit (.string ⟨#[]⟩), .lit (.slice none 0 0), .lit (.slice none 0 0), .lit (.slice none 0 0), .lit (.slice none 0 0), .lit (.slice none 0 0), .lit (.slice none 0 0)], vInt 3]) va_ (.tup _ _ rfl (fun i hi hi' => by match i, hi with | 0, _ => exact msg0_wk | 1, _ => exact .refl _)) (subx_start (subx_new ho2 (subx_new n5σ (subx_new n5σ st)))) ⟨rfl, rfl⟩
  · replace hc3 := nm_ hc3
    skip
    have htr : mofOk s = true := by
      rw [chk0, B_eq_iff] at hc3
      rw [hdef]; simp [hc3.1.1.1, hc3.1.1.2, hc3.1.2, hc3.2]
    refine awp_skip ?_
    refine awp_seq ?_
    have R := t2
    refine awp_region (by kernel_rfl) ?_
    (refine aL_S rfl rfl v_ ?_)
    refine aL_store rfl rfl rfl v_ v_ h_ g_ rfl g_ c_ (by rfl) le_ v_ ?_
    (refine aL_S rfl rfl v_ ?_)
    refine aL_nil ?_
    refine awp_ret ?_
    rw [hof, htr]
    exact aEnd_ret (σ' := σ) va_ (subx_start (subx_new ho2 (subx_new n5σ (subx_new n5σ st)))) ⟨rfl, rfl⟩
end Go.Proofs.YtbjloippgpilcaaGreat
end

section
set_option linter.all false
set_option maxRecDepth 100000
namespace Go.Proofs.YtbjloippgpilcaaGreat
open Go.Ab

def mA : Msg := ⟨3, ⟨#[110, 49]⟩, ⟨#[110, 50]⟩, 3, 0, ⟨#[98, 47, 107]⟩, ⟨[], []⟩, [], [], [], []⟩
theorem mA_ok : msgOk mA = true := by decide +kernel
theorem msg0_no : msgOk msg0 = false := by decide +kernel
theorem mA_len : 30 < (msgB mA).length ∧ (msgB mA).length < 100 := by decide +kernel
theorem mA_sm : MsgSm mA := msgB_sm (by have := mA_len; omega)
theorem msg0_sm : MsgSm msg0 := msgB_sm (by decide +kernel)
theorem mA_read (r : List UInt8) : rdMsg (msgB mA ++ r, true) = (mA, r, true) := rdMsg_app (msgOk_rt mA_ok mA_sm (by decide)) r
theorem mA_of : mofW (msgB mA) = (mA, 0) := by
  have h := mA_read []
  rw [List.append_nil] at h
  simp [mofW, mofOk, h, mA_ok]
theorem mA_of2 : mofW (msgB mA ++ [120]) = (msg0, 3) := by simp [mofW, mofOk, mA_read]
theorem mOf_c {s : List UInt8} {σ : Store} (hs : s.length ≤ 4000) : ACalls Tryz.prog 12 [vStr (B s)] σ fun v σ' => v = .tup [sMsg (mofW s).1, vInt (mofW s).2] ∧ σ = σ' := mOf_g (rdMsg_sm hs)
theorem mofW_sm {s : List UInt8} (hs : s.length ≤ 4000) : MsgSm (mofW s).1 := by
  have h2 := rdMsg_sm hs
  have e : mofOk s = ((rdMsg (s, true)).2.2 && decide ((rdMsg (s, true)).2.1 = []) && msgOk (rdMsg (s, true)).1 && decide (msgB (rdMsg (s, true)).1 = s)) := rfl
  have e2 : mofW s = if mofOk s then ((rdMsg (s, true)).1, 0) else (msg0, 3) := rfl
  generalize rdMsg (s, true) = q at h2 e e2
  rw [e2]
  cases hk : mofOk s with
  | false => exact msg0_sm
  | true =>
    rw [hk] at e
    have e' := e.symm
    simp only [Bool.and_eq_true] at e'
    exact h2 e'.1.1.1
set_option maxHeartbeats 1000000 in
theorem awake32_c {σ : Store} : ACalls Tryz.prog 10 [] σ fun v σ' => v = vB true ∧ σ = σ' := by
  have hl := mA_len
  have hsz := B_size (msgB mA)
  have hadd : astr .add (B (msgB mA)) ⟨#[120]⟩ = some (.string (B (msgB mA ++ [120]))) := astr_addB _ [120] (by simp; omega)
  refine ACalls_of Tryz.func10 rfl Tryz.ntmps10 (congrArg Array.toList Tryz.results10) (by simp only [List.length_cons, List.length_nil]; decide) ?_; simp only [envOf_cons, envOf_nil, Nat.reduceAdd]
  refine awp_seq ?_
  refine awp_region (by kernel_rfl) ?_
  (refine aL_S rfl rfl v_ ?_)
  refine aL_nil ?_
  refine awp_seq ?_
  refine awp_region (by kernel_rfl) ?_
  (refine aL_S rfl rfl v_ ?_)
  refine aL_alloc rfl rfl rfl g_ gl_ fun o1 ho1 => ?_
  repeat (rw [none_set_iff] at ho1; obtain ⟨_, ho1⟩ := ho1)
  refine aL_store rfl rfl rfl v_ v_ h_ g_ rfl g_ c_ (by rfl) le_ v_ ?_
  refine aL_nil ?_
  refine awp_wkCells o1 (sMsg mA).cells h_ ?_ ?_
  · exact ⟨.refl _, .refl _, .refl _, .refl _, .refl _, .refl _, .nil _ _, .nil _ _, .nil _ _, .nil _ _, .nil _ _, .nil _ _, trivial⟩
  refine awp_seq ?_
  refine awp_region (by kernel_rfl) ?_
  (refine aL_S rfl rfl v_ ?_)
  refine aL_X rfl rfl (AOp_use rfl rfl (.inr ⟨rfl, rfl, rfl⟩) g_ va_ (mBytes_c mA_sm) ?_); rintro _ _ ⟨rfl, rfl⟩
  (refine aL_S rfl rfl v_ ?_)
  refine aL_nil ?_
  refine awp_seq ?_
  refine awp_region (by kernel_rfl) ?_
  (refine aL_S rfl rfl v_ ?_)
  refine aL_X rfl rfl (AOp_use rfl rfl (.inr ⟨rfl, rfl, rfl⟩) g_ va_ (mOf_c (s := msgB mA) (by omega)) ?_); rintro _ _ ⟨rfl, rfl⟩
  rw [mA_of]
  iterate 3 (refine aL_S rfl rfl v_ ?_)
  refine aL_alloc rfl rfl rfl g_ gl_ fun o3 ho3 => ?_
  repeat (rw [none_set_iff] at ho3; obtain ⟨_, ho3⟩ := ho3)
  refine aL_store rfl rfl rfl v_ v_ h_ g_ rfl g_ c_ (by rfl) le_ v_ ?_
  (refine aL_S rfl rfl v_ ?_)
  refine aL_nil ?_
  refine awp_seq ?_
  have R := hadd
  refine awp_region (by kernel_rfl) ?_
  iterate 2 (refine aL_S rfl rfl v_ ?_)
  refine aL_X rfl rfl (AOp_use rfl rfl (.inr ⟨rfl, rfl, rfl⟩) g_ va_ (mOf_c (s := msgB mA ++ [120]) (by simp; omega)) ?_); rintro _ _ ⟨rfl, rfl⟩
  rw [mA_of2]
  iterate 3 (refine aL_S rfl rfl v_ ?_)
  refine aL_alloc rfl rfl rfl g_ gl_ fun o5 ho5 => ?_
  repeat (rw [none_set_iff] at ho5; obtain ⟨_, ho5⟩ := ho5)
  refine aL_store rfl rfl rfl v_ v_ h_ g_ rfl g_ c_ (by rfl) le_ v_ ?_
  (refine aL_S rfl rfl v_ ?_)
  refine aL_nil ?_
  refine awp_seq ?_
  refine awp_region (by kernel_rfl) ?_
  iterate 4 (refine aL_S rfl rfl v_ ?_)
  refine aL_SY (wantedA_yes rfl rfl v_ (by rfl)) rfl v_ ?_
  refine aL_SY (wantedA_yes rfl rfl v_ (by rfl)) rfl v_ ?_
  refine aL_XY (wantedA_yes rfl rfl v_ (by rfl)) rfl (AOp_use rfl rfl (.inr ⟨rfl, rfl, rfl⟩) g_ va_ (sameM_c mA_sm mA_sm) ?_); rintro _ _ ⟨rfl, rfl⟩
  iterate 2 (refine aL_S rfl rfl v_ ?_)
  refine aL_SY (wantedA_yes rfl rfl v_ (by rfl)) rfl v_ ?_
  refine aL_SY (wantedA_yes rfl rfl v_ (by rfl)) rfl v_ ?_
  iterate 2 (refine aL_S rfl rfl v_ ?_)
  refine aL_SY (wantedA_yes rfl rfl v_ (by rfl)) rfl v_ ?_
  refine aL_SY (wantedA_yes rfl rfl v_ (by rfl)) rfl v_ ?_
  iterate 2 (refine aL_S rfl rfl v_ ?_)
  refine aL_SY (wantedA_yes rfl rfl v_ (by rfl)) rfl v_ ?_
  refine aL_XY (wantedA_yes rfl rfl v_ (by rfl)) rfl (AOp_use rfl rfl (.inr ⟨rfl, rfl, rfl⟩) g_ va_ (mCheck_c mA_sm) ?_); rintro _ _ ⟨rfl, rfl⟩
  rw [mA_ok]
  refine aL_SY (wantedA_yes rfl rfl v_ (by rfl)) rfl v_ ?_
  iterate 2 (refine aL_S rfl rfl v_ ?_)
  refine aL_SY (wantedA_yes rfl rfl v_ (by rfl)) rfl v_ ?_
  refine aL_XY (wantedA_yes rfl rfl v_ (by rfl)) rfl (AOp_use rfl rfl (.inr ⟨rfl, rfl, rfl⟩) g_ va_ (ACalls.wkA (args := [.agg [.lit (.int .i64 0), .lit (.string ⟨#[]⟩), .lit (.string ⟨#[]⟩), .lit (.int .i64 0), .lit (.int .i64 0), .lit (.string ⟨#[]⟩), .lit (.slice none 0 0), .lit (.slice none 0 0), .lit (.slice none 0 0), .lit (.slice none 0 0), .lit (.slice none 0 0), .lit (.slice none 0 0)]]) (mCheck_c msg0_sm) rfl (fun j hj hj' => by match j, hj with | 0, _ => exact msg0_wk)) ?_); rintro _ _ ⟨rfl, rfl⟩
  rw [msg0_no]
  refine aL_SY (wantedA_yes rfl rfl v_ (by rfl)) rfl v_ ?_
  iterate 2 (refine aL_S rfl rfl v_ ?_)
  refine aL_nil ?_
  refine awp_ret ?_
  refine aEnd_ret (σ' := σ) v_ sub_ ?_
  exact ⟨rfl, rfl⟩
end Go.Proofs.YtbjloippgpilcaaGreat
end
