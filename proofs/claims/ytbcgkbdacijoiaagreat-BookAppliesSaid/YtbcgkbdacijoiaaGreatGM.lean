/-
  What is read of bytes: the program's reader; What the program's values are; What is read of bytes: numbers, texts, lists; Contexts and objects read of bytes: the program's; What is read of bytes: the reference's reader; Contexts and objects read of bytes: the reference's; What is written as bytes: the program's writer; Contexts and objects as bytes: what the program writes; Names: the program's, and the reference's; Whether a context may be: the program's Check, the reference's May. Own work (an AI agent).
-/
import Derived.Test.YtbcgkbdacijoiaaGreatGD
import Derived.Laws.RangeString
import Derived.Laws.RangeAny

section
set_option linter.all false
set_option maxRecDepth 100000
namespace Go.Proofs.YtbcgkbdacijoiaaGreat
open Go.Ab

abbrev Rd := List UInt8 × Bool
abbrev rdO (x : Rd) : AObj := .cells [vStr (B x.1), vBool x.2]
def rdTake (x : Rd) (n : Nat) : List UInt8 × Rd := if x.2 = true ∧ n ≤ x.1.length then (x.1.take n, x.1.drop n, true) else ([], x.1, false)
theorem rdTake_yes {x : Rd} {n : Nat} (h : x.2 = true) (h' : n ≤ x.1.length) : rdTake x n = (x.1.take n, x.1.drop n, true) := if_pos ⟨h, h'⟩
theorem rdTake_no {x : Rd} {n : Nat} (h : x.2 = false ∨ x.1.length < n) : rdTake x n = ([], x.1, false) := if_neg fun hh => by rcases h with h | h; rw [hh.1] at h; cases h; omega

theorem bad_c {o : Nat} {s : List UInt8} {g : Bool} {σ : Store} (ho : σ.heap o = some (.cells [vStr (B s), vBool g])) : ACalls Tryz.prog 247 [.ref o 0] σ fun v σ' => v = vBool (!g) ∧ σ = σ' := by
  refine ACalls_of Tryz.func247 rfl Tryz.ntmps247 (congrArg Array.toList Tryz.results247) (by simp only [List.length_cons, List.length_nil]; decide) ?_; simp only [envOf_cons, envOf_nil, Nat.reduceAdd]
  refine awp_seq ?_
  have R := ho
  refine awp_region (by kernel_rfl) ?_
  (refine aL_S rfl rfl v_ ?_)
  refine aL_nil ?_
  refine awp_seq ?_
  have R := ho
  refine awp_region (by kernel_rfl) ?_
  iterate 3 (refine aL_S rfl rfl v_ ?_)
  refine aL_GF rfl rfl v_ rfl vg_ ?_
  refine aL_GF rfl rfl v_ rfl vg_ ?_
  refine aL_GF rfl rfl v_ rfl vg_ ?_
  refine aL_GF rfl rfl v_ rfl vg_ ?_
  refine aL_GF rfl rfl v_ rfl vg_ ?_
  iterate 2 (refine aL_S rfl rfl v_ ?_)
  refine aL_nil ?_
  refine awp_ret ?_
  refine aEnd_ret (σ' := σ) v_ sub_ ?_
  exact ⟨rfl, rfl⟩

theorem spoil_c {o : Nat} {s : List UInt8} {g : Bool} {σ : Store} (ho : σ.heap o = some (.cells [vStr (B s), vBool g])) : ACalls Tryz.prog 291 [.ref o 0] σ fun v σ' => v = .tup [] ∧ σ' = σ.set o (.cells [vStr (B s), vBool false]) := by
  refine ACalls_of Tryz.func291 rfl Tryz.ntmps291 (congrArg Array.toList Tryz.results291) (by simp only [List.length_cons, List.length_nil]; decide) ?_; simp only [envOf_cons, envOf_nil, Nat.reduceAdd]
  refine awp_seq ?_
  have R := ho
  refine awp_region (by kernel_rfl) ?_
  iterate 2 (refine aL_S rfl rfl v_ ?_)
  refine aL_nil ?_
  refine awp_cond v_ (fun hc0 => ?_) (fun hc0 => ?_)
  · replace hc0 := nm_ hc0
    have R := ho
    refine awp_region (by kernel_rfl) ?_
    iterate 3 (refine aL_S rfl rfl v_ ?_)
    refine aL_store rfl rfl rfl v_ v_ h_ g_ rfl g_ c_ (by rfl) le_ v_ ?_
    refine aL_nil ?_
    refine aEnd_nor v_ (Store.Wk.refl _) ?_
    exact ⟨rfl, rfl⟩
  · replace hc0 := nm_ hc0
    simp at hc0

theorem take_c {o n : Nat} {s : List UInt8} {g : Bool} {σ : Store} (ho : σ.heap o = some (.cells [vStr (B s), vBool g])) : ACalls Tryz.prog 242 [.ref o 0, vInt n] σ fun v σ' => v = vStr (B (rdTake (s, g) n).1) ∧ σ' = σ.set o (rdO (rdTake (s, g) n).2) := by
  refine ACalls_of Tryz.func242 rfl Tryz.ntmps242 (congrArg Array.toList Tryz.results242) (by simp only [List.length_cons, List.length_nil]; decide) ?_; simp only [envOf_cons, envOf_nil, Nat.reduceAdd]
  refine awp_seq ?_
  have R := And.intro ho B_size
  refine awp_region (by kernel_rfl) ?_
  (refine aL_S rfl rfl v_ ?_)
  refine aL_nil ?_
  refine awp_seq ?_
  refine awp_seq ?_
  have R := And.intro ho B_size
  refine awp_region (by kernel_rfl) ?_
  iterate 3 (refine aL_S rfl rfl v_ ?_)
  refine aL_GF rfl rfl v_ rfl vg_ ?_
  refine aL_GF rfl rfl v_ rfl vg_ ?_
  refine aL_GF rfl rfl v_ rfl vg_ ?_
  refine aL_GF rfl rfl v_ rfl vg_ ?_
  refine aL_GF rfl rfl v_ rfl vg_ ?_
  iterate 2 (refine aL_S rfl rfl v_ ?_)
  refine aL_GF rfl rfl v_ rfl vg_ ?_
  refine aL_GF rfl rfl v_ rfl vg_ ?_
  refine aL_GF rfl rfl v_ rfl vg_ ?_
  refine aL_GF rfl rfl v_ rfl vg_ ?_
  refine aL_GF rfl rfl v_ rfl vg_ ?_
  refine aL_GF rfl rfl v_ rfl vg_ ?_
  refine aL_GF rfl rfl v_ rfl vg_ ?_
  (refine aL_S rfl rfl v_ ?_)
  refine aL_nil ?_
  refine awp_cond v_ (fun hc1 => ?_) (fun hc1 => ?_)
  · replace hc1 := nm_ hc1
    refine awp_seq ?_
    have R := And.intro ho B_size
    refine awp_region (by kernel_rfl) ?_
    (refine aL_S rfl rfl v_ ?_)
    refine aL_X rfl rfl (AOp_use rfl rfl (.inr ⟨rfl, rfl, rfl⟩) g_ va_ (spoil_c ho) ?_); rintro _ _ ⟨rfl, rfl⟩
    refine aL_nil ?_
    refine awp_seq ?_
    have R := And.intro ho B_size
    refine awp_region (by kernel_rfl) ?_
    (refine aL_S rfl rfl v_ ?_)
    refine aL_nil ?_
    refine awp_ret ?_
    refine aEnd_ret v_ (Store.Wk.refl _) ?_
    rw [rdTake_no (by rcases hc1 with h | h; exact .inl h; exact .inr (by simpa using h))]; exact ⟨rfl, rfl⟩
  · replace hc1 := nm_ hc1
    refine awp_skip ?_
    refine awp_seq ?_
    have R := And.intro ho B_size
    refine awp_region (by kernel_rfl) ?_
    iterate 7 (refine aL_S rfl rfl v_ ?_)
    refine aL_nil ?_
    refine awp_seq ?_
    have R := And.intro ho B_size
    refine awp_region (by kernel_rfl) ?_
    iterate 9 (refine aL_S rfl rfl v_ ?_)
    refine aL_store rfl rfl rfl v_ v_ h_ g_ rfl g_ c_ (by rfl) le_ v_ ?_
    refine aL_nil ?_
    refine awp_seq ?_
    have R := And.intro ho B_size
    refine awp_region (by kernel_rfl) ?_
    iterate 2 (refine aL_S rfl rfl v_ ?_)
    refine aL_nil ?_
    refine awp_ret ?_
    refine aEnd_ret v_ (Store.Wk.refl _) ?_
    rw [rdTake_yes hc1.1 (by simpa using hc1.2), hc1.1]
    refine ⟨by rw [extract_B, Lb_B]; rfl, ?_⟩
    rw [extract_B, Lb_B, List.take_length]

theorem rdTake_len {x : Rd} {n : Nat} : (rdTake x n).1.length ≤ n := by
  unfold rdTake; split <;> simp
  omega
def rdNum (x : Rd) (n : Nat) : Int × Rd := (rdI (rdTake x n).1, (rdTake x n).2)

theorem number_c {o n : Nat} {s : List UInt8} {g : Bool} {σ : Store} (ho : σ.heap o = some (.cells [vStr (B s), vBool g])) (hn : n ≤ 8) : ACalls Tryz.prog 241 [.ref o 0, vInt n] σ fun v σ' => v = vInt (rdNum (s, g) n).1 ∧ σ' = σ.set o (rdO (rdNum (s, g) n).2) := by
  obtain ⟨r, hr⟩ : ∃ r, (rdTake (s, g) n).1 = r := ⟨_, rfl⟩
  have hl := rdTake_len (x := (s, g)) (n := n)
  rw [hr] at hl
  refine ACalls_of Tryz.func241 rfl Tryz.ntmps241 (congrArg Array.toList Tryz.results241) (by simp only [List.length_cons, List.length_nil]; decide) ?_; simp only [envOf_cons, envOf_nil, Nat.reduceAdd]
  refine awp_seq ?_
  refine awp_region (by kernel_rfl) ?_
  (refine aL_S rfl rfl v_ ?_)
  refine aL_nil ?_
  refine awp_seq ?_
  refine awp_region (by kernel_rfl) ?_
  (refine aL_S rfl rfl v_ ?_)
  refine aL_nil ?_
  refine awp_seq ?_
  refine awp_seq ?_
  have R := And.intro hr B_size
  refine awp_region (by kernel_rfl) ?_
  iterate 2 (refine aL_S rfl rfl v_ ?_)
  refine aL_X rfl rfl (AOp_use rfl rfl (.inr ⟨rfl, rfl, rfl⟩) g_ va_ (take_c ho) ?_); rintro _ _ ⟨rfl, rfl⟩
  refine aL_bytesOf rfl rfl rfl g_ g_ g_ v_ ?_
  iterate 2 (refine aL_S rfl rfl v_ ?_)
  refine aL_nil ?_
  refine awp_block ?_
  refine awp_loop_env (ι := Nat) (fun k => r.length - k) (fun k => k ≤ r.length) (fun k => [(5, vInt (rdI (r.take k))), (11, .sl 1 (bytesL (B r)) false), (12, vInt r.length), (13, vInt k)]) (fun k => σ.set o (rdO (rdNum (s, g) n).2)) 0 ?_ ?_ ?_ ?_
  · exact Nat.zero_le _
  · have R := And.intro hr (And.intro B_size bytesL_length); exact cv_
  · exact Store.Wk.refl _
  rintro k hk
  simp only [envL_cons, envL_nil]
  refine awp_seq ?_
  refine awp_region (by kernel_rfl) ?_
  (refine aL_S rfl rfl v_ ?_)
  refine aL_nil ?_
  refine awp_seq ?_
  refine awp_cond v_ (fun hc3 => ?_) (fun hc3 => ?_)
  · replace hc3 := nm_ hc3
    refine awp_skip ?_
    refine awp_seq ?_
    refine awp_block ?_
    refine awp_seq ?_
    obtain ⟨c, hc⟩ : ∃ c, r[k]? = some c := ⟨r[k]'(by omega), List.getElem?_eq_getElem _⟩
    have hb := bytes_at hc
    have hlt : c.toNat < 256 := c.toNat_lt
    have hst : bOr .i64 (IntKind.i64.wrap (rdI (r.take k) * 2 ^ 8)) (c.toNat : Int) = rdI (r.take (k + 1)) := by rw [take_snoc hc]; exact rdI_snoc _ _
    have R := hb
    refine awp_region (by kernel_rfl) ?_
    iterate 3 (refine aL_S rfl rfl v_ ?_)
    refine aL_nil ?_
    refine awp_region (by kernel_rfl) ?_
    iterate 6 (refine aL_S rfl rfl v_ ?_)
    refine aL_nil ?_
    refine awp_region (by kernel_rfl) ?_
    iterate 2 (refine aL_S rfl rfl v_ ?_)
    refine aL_nil ?_
    refine aNext (ι := Nat) (i := k) (k + 1) ?_ ?_ ?_ ?_
    · omega
    · omega
    · have R := hst; exact cv_
    · exact Store.Wk.refl _
  · replace hc3 := nm_ hc3
    refine awp_exit ?_
    refine aThen_exit ?_
    refine aThen_exit ?_
    refine aBlock_hit ?_
    refine awp_seq ?_
    refine awp_region (by kernel_rfl) ?_
    iterate 2 (refine aL_S rfl rfl v_ ?_)
    refine aL_nil ?_
    refine awp_ret ?_
    refine aEnd_ret v_ (Store.Wk.refl _) ?_
    rw [List.take_of_length_le (by omega)]
    exact ⟨by rw [← hr]; rfl, rfl⟩
end Go.Proofs.YtbcgkbdacijoiaaGreat
end

section
set_option linter.all false
namespace Go.Ab
structure Seen where
  node : ByteArray
  base : Int
  more : List Int
structure Sib where
  node : ByteArray
  n : Int
  value : ByteArray
  gone : Bool
  time : Int
structure Obj' where
  ctx : List Seen
  sibs : List Sib
@[reducible] def sSeen (x : Seen) : AVal := .agg [.lit (.string x.node), vInt x.base, .sl 1 (x.more.map vInt) false]
@[reducible] def sSib (x : Sib) : AVal := .agg [.lit (.string x.node), vInt x.n, .lit (.string x.value), .lit (.bool x.gone), vInt x.time]
@[reducible] def sObj (x : Obj') : AVal := .agg [.sl 3 (x.ctx.map sSeen) false, .sl 5 (x.sibs.map sSib) false]
end Go.Ab
end

section
set_option linter.all false
set_option maxRecDepth 100000
namespace Go.Proofs.YtbcgkbdacijoiaaGreat
open Go.Ab

theorem bad_x {o : Nat} {x : Rd} {σ : Store} (ho : σ.heap o = some (rdO x)) : ACalls Tryz.prog 247 [.ref o 0] σ fun v σ' => v = vBool (!x.2) ∧ σ = σ' := bad_c ho
theorem take_x {o n : Nat} {x : Rd} {σ : Store} (ho : σ.heap o = some (rdO x)) : ACalls Tryz.prog 242 [.ref o 0, vInt n] σ fun v σ' => v = vStr (B (rdTake x n).1) ∧ σ' = σ.set o (rdO (rdTake x n).2) := take_c ho
theorem number_x {o n : Nat} {x : Rd} {σ : Store} (ho : σ.heap o = some (rdO x)) (hn : n ≤ 8) : ACalls Tryz.prog 241 [.ref o 0, vInt n] σ fun v σ' => v = vInt (rdNum x n).1 ∧ σ' = σ.set o (rdO (rdNum x n).2) := number_c ho hn

theorem new_c {s : List UInt8} {σ : Store} : ACalls Tryz.prog 170 [vStr (B s)] σ fun v σ' => ∃ o, σ.heap o = none ∧ v = .ref o 0 ∧ σ' = σ.set o (rdO (s, true)) := by
  refine ACalls_of Tryz.func170 rfl Tryz.ntmps170 (congrArg Array.toList Tryz.results170) (by simp only [List.length_cons, List.length_nil]; decide) ?_; simp only [envOf_cons, envOf_nil, Nat.reduceAdd]
  refine awp_seq ?_
  refine awp_region (by kernel_rfl) ?_
  (refine aL_S rfl rfl v_ ?_)
  refine aL_nil ?_
  refine awp_seq ?_
  refine awp_region (by kernel_rfl) ?_
  iterate 2 (refine aL_S rfl rfl v_ ?_)
  refine aL_box rfl rfl rfl v_ rfl g_ fun o5 ho5 => ?_
  repeat (rw [none_set_iff] at ho5; obtain ⟨_, ho5⟩ := ho5)
  (refine aL_S rfl rfl v_ ?_)
  refine aL_nil ?_
  refine awp_ret ?_
  refine aEnd_ret v_ (Store.Wk.refl _) ?_
  exact ⟨o5, ho5, rfl, rfl⟩
theorem rdByte_c {o : Nat} {x : Rd} {σ : Store} (ho : σ.heap o = some (rdO x)) : ACalls Tryz.prog 171 [.ref o 0] σ fun v σ' => v = vInt (rdNum x 1).1 ∧ σ' = σ.set o (rdO (rdNum x 1).2) := by
  refine ACalls_of Tryz.func171 rfl Tryz.ntmps171 (congrArg Array.toList Tryz.results171) (by simp only [List.length_cons, List.length_nil]; decide) ?_; simp only [envOf_cons, envOf_nil, Nat.reduceAdd]
  refine awp_seq ?_
  refine awp_region (by kernel_rfl) ?_
  (refine aL_S rfl rfl v_ ?_)
  refine aL_nil ?_
  refine awp_seq ?_
  refine awp_region (by kernel_rfl) ?_
  (refine aL_S rfl rfl v_ ?_)
  refine aL_X rfl rfl (AOp_use rfl rfl (.inr ⟨rfl, rfl, rfl⟩) g_ va_ (number_x (n := 1) ho (by decide)) ?_); rintro _ _ ⟨rfl, rfl⟩
  (refine aL_S rfl rfl v_ ?_)
  refine aL_nil ?_
  refine awp_ret ?_
  refine aEnd_ret v_ (Store.Wk.refl _) ?_
  exact ⟨rfl, rfl⟩
theorem rdInt_c {o : Nat} {x : Rd} {σ : Store} (ho : σ.heap o = some (rdO x)) : ACalls Tryz.prog 177 [.ref o 0] σ fun v σ' => v = vInt (rdNum x 8).1 ∧ σ' = σ.set o (rdO (rdNum x 8).2) := by
  refine ACalls_of Tryz.func177 rfl Tryz.ntmps177 (congrArg Array.toList Tryz.results177) (by simp only [List.length_cons, List.length_nil]; decide) ?_; simp only [envOf_cons, envOf_nil, Nat.reduceAdd]
  refine awp_seq ?_
  refine awp_region (by kernel_rfl) ?_
  (refine aL_S rfl rfl v_ ?_)
  refine aL_nil ?_
  refine awp_seq ?_
  refine awp_region (by kernel_rfl) ?_
  (refine aL_S rfl rfl v_ ?_)
  refine aL_X rfl rfl (AOp_use rfl rfl (.inr ⟨rfl, rfl, rfl⟩) g_ va_ (number_x (n := 8) ho (by decide)) ?_); rintro _ _ ⟨rfl, rfl⟩
  (refine aL_S rfl rfl v_ ?_)
  refine aL_nil ?_
  refine awp_ret ?_
  refine aEnd_ret v_ (Store.Wk.refl _) ?_
  exact ⟨rfl, rfl⟩

def rdCnt (x : Rd) (m : Nat) : Nat × Rd := if m < natB (rdTake x 4).1 then (0, (rdTake x 4).2.1, false) else (natB (rdTake x 4).1, (rdTake x 4).2)
theorem rdCnt_le (x : Rd) (m : Nat) : (rdCnt x m).1 ≤ m := by unfold rdCnt; split; exact Nat.zero_le _; omega
theorem rdNum4 (x : Rd) : (rdNum x 4).1 = natB (rdTake x 4).1 := rdI_small _ (Nat.le_trans rdTake_len (by decide))
theorem rdCount_c {o m : Nat} {x : Rd} {σ : Store} (ho : σ.heap o = some (rdO x)) : ACalls Tryz.prog 243 [.ref o 0, vInt m] σ fun v σ' => v = vInt (rdCnt x m).1 ∧ σ' = σ.set o (rdO (rdCnt x m).2) := by
  have h4 := rdNum4 x
  refine ACalls_of Tryz.func243 rfl Tryz.ntmps243 (congrArg Array.toList Tryz.results243) (by simp only [List.length_cons, List.length_nil]; decide) ?_; simp only [envOf_cons, envOf_nil, Nat.reduceAdd]
  refine awp_seq ?_
  refine awp_region (by kernel_rfl) ?_
  (refine aL_S rfl rfl v_ ?_)
  refine aL_nil ?_
  refine awp_seq ?_
  refine awp_region (by kernel_rfl) ?_
  (refine aL_S rfl rfl v_ ?_)
  refine aL_X rfl rfl (AOp_use rfl rfl (.inr ⟨rfl, rfl, rfl⟩) g_ va_ (number_x (n := 4) ho (by decide)) ?_); rintro _ _ ⟨rfl, rfl⟩
  (refine aL_S rfl rfl v_ ?_)
  refine aL_nil ?_
  refine awp_seq ?_
  refine awp_seq ?_
  have R := h4
  refine awp_region (by kernel_rfl) ?_
  iterate 3 (refine aL_S rfl rfl v_ ?_)
  refine aL_nil ?_
  refine awp_cond v_ (fun hc2 => ?_) (fun hc2 => ?_)
  · replace hc2 := nm_ hc2
    refine awp_seq ?_
    refine awp_region (by kernel_rfl) ?_
    (refine aL_S rfl rfl v_ ?_)
    refine aL_X rfl rfl (AOp_use rfl rfl (.inr ⟨rfl, rfl, rfl⟩) g_ va_ (spoil_c (s := (rdTake x 4).2.1) (g := (rdTake x 4).2.2) (Store.set_get ..)) ?_); rintro _ _ ⟨rfl, rfl⟩
    refine aL_nil ?_
    refine awp_seq ?_
    refine awp_region (by kernel_rfl) ?_
    (refine aL_S rfl rfl v_ ?_)
    refine aL_nil ?_
    refine awp_ret ?_
    refine aEnd_ret v_ (Store.Wk.refl _) ?_
    rw [rdCnt, if_pos (by omega), Store.set_set]; exact ⟨rfl, rfl⟩
  · replace hc2 := nm_ hc2
    refine awp_skip ?_
    refine awp_seq ?_
    refine awp_region (by kernel_rfl) ?_
    iterate 2 (refine aL_S rfl rfl v_ ?_)
    refine aL_nil ?_
    refine awp_ret ?_
    refine aEnd_ret v_ (Store.Wk.refl _) ?_
    rw [rdCnt, if_neg (by omega)]; exact ⟨rfl, rfl⟩
def rdText (x : Rd) : List UInt8 × Rd := rdTake (rdCnt x 1048576).2 (rdCnt x 1048576).1
theorem rdText_c {o : Nat} {x : Rd} {σ : Store} (ho : σ.heap o = some (rdO x)) : ACalls Tryz.prog 172 [.ref o 0] σ fun v σ' => v = vStr (B (rdText x).1) ∧ σ' = σ.set o (rdO (rdText x).2) := by
  refine ACalls_of Tryz.func172 rfl Tryz.ntmps172 (congrArg Array.toList Tryz.results172) (by simp only [List.length_cons, List.length_nil]; decide) ?_; simp only [envOf_cons, envOf_nil, Nat.reduceAdd]
  refine awp_seq ?_
  refine awp_region (by kernel_rfl) ?_
  (refine aL_S rfl rfl v_ ?_)
  refine aL_nil ?_
  refine awp_seq ?_
  refine awp_region (by kernel_rfl) ?_
  iterate 2 (refine aL_S rfl rfl v_ ?_)
  refine aL_X rfl rfl (AOp_use rfl rfl (.inr ⟨rfl, rfl, rfl⟩) g_ va_ (rdCount_c (m := 1048576) ho) ?_); rintro _ _ ⟨rfl, rfl⟩
  refine aL_X rfl rfl (AOp_use rfl rfl (.inr ⟨rfl, rfl, rfl⟩) g_ va_ (take_x (Store.set_get ..)) ?_); rintro _ _ ⟨rfl, rfl⟩
  (refine aL_S rfl rfl v_ ?_)
  refine aL_nil ?_
  refine awp_ret ?_
  refine aEnd_ret v_ (Store.Wk.refl _) ?_
  rw [Store.set_set]; exact ⟨rfl, rfl⟩
theorem rdDone_c {o : Nat} {x : Rd} {σ : Store} (ho : σ.heap o = some (rdO x)) : ACalls Tryz.prog 175 [.ref o 0] σ fun v σ' => v = vBool (x.2 && decide (x.1 = [])) ∧ σ = σ' := by
  obtain ⟨s, g⟩ := x
  have he : (B s = ⟨#[]⟩) ↔ s = [] := by rw [show (⟨#[]⟩ : ByteArray) = B [] from rfl, B_eq_iff]
  refine ACalls_of Tryz.func175 rfl Tryz.ntmps175 (congrArg Array.toList Tryz.results175) (by simp only [List.length_cons, List.length_nil]; decide) ?_; simp only [envOf_cons, envOf_nil, Nat.reduceAdd]
  refine awp_seq ?_
  have R := And.intro ho he
  refine awp_region (by kernel_rfl) ?_
  (refine aL_S rfl rfl v_ ?_)
  refine aL_nil ?_
  refine awp_seq ?_
  have R := And.intro ho he
  refine awp_region (by kernel_rfl) ?_
  (refine aL_S rfl rfl v_ ?_)
  refine aL_X rfl rfl (AOp_use rfl rfl (.inr ⟨rfl, rfl, rfl⟩) g_ va_ (bad_c ho) ?_); rintro _ _ ⟨rfl, rfl⟩
  iterate 2 (refine aL_S rfl rfl v_ ?_)
  refine aL_GT rfl rfl v_ rfl vg_ ?_
  refine aL_GT rfl rfl v_ rfl vg_ ?_
  refine aL_GT rfl rfl v_ rfl vg_ ?_
  refine aL_GT rfl rfl v_ rfl vg_ ?_
  refine aL_GT rfl rfl v_ rfl vg_ ?_
  iterate 2 (refine aL_S rfl rfl v_ ?_)
  refine aL_nil ?_
  refine awp_ret ?_
  refine aEnd_ret (σ' := σ) v_ sub_ ?_
  exact ⟨by cases g <;> simp [he], rfl⟩

/-! ### lists -/
def rdMany {α : Type} (f : Rd → α × Rd) : Nat → Rd → List α × Rd
  | 0, x => ([], x)
  | n + 1, x => if x.2 then ((f x).1 :: (rdMany f n (f x).2).1, (rdMany f n (f x).2).2) else ([], x)
theorem rdMany_bad {α : Type} (f : Rd → α × Rd) {n : Nat} {x : Rd} (h : x.2 = false) : rdMany f n x = ([], x) := by
  cases n with
  | zero => rfl
  | succ n => rw [rdMany, h]; rfl
def rdSev {α : Type} (f : Rd → α × Rd) (x : Rd) : List α × Rd :=
  let r := rdMany f (rdCnt x 65536).1 (rdCnt x 65536).2
  if r.2.2 then r else ([], r.2)
theorem SubX.trans {l : List Nat} {a b c : Store} (h : SubX l a b) (k : SubX l b c) : SubX l a c := ⟨fun i x hi hx => k.1 i x hi (h.1 i x hi hx), fun t n ht => k.2 t n (h.2 t n ht)⟩
theorem SubX.self {o : Nat} {σ : Store} {x : AObj} : SubX [o] σ (σ.set o x) := subx_in (.head _) subx_refl
theorem SubX.newTok {l : List Nat} {a b : Store} (h : SubX l a b) {old : Option Nat} {k : Nat} {p : TypeId × Nat} (ho : ∀ j, old = some j → a.tok j = none) (hk : b.tok k = none) : SubX l a (b.newTok old k p) := ⟨h.1, fun t n ht => by
  have h1 := h.2 t n ht
  simp only [Store.newTok]
  rw [if_neg (fun hh => by rw [hh, hk] at h1; cases h1), if_neg (fun hh => by rw [ho t hh.symm] at ht; cases ht)]
  exact h1⟩
theorem SubX.noTok {l : List Nat} {a b : Store} (h : SubX l a b) {k : Nat} (hk : b.tok k = none) : a.tok k = none := by
  cases ht : a.tok k with
  | none => rfl
  | some n => have := h.2 k n ht; rw [hk] at this; cases this

theorem sevInt_c {o G : Nat} {x : Rd} {σ : Store} {fs cp : List AVal} {f : Rd → Int × Rd} (Kp : Store → Prop) (hgo : isGo Tryz.prog G = true) (hK : ∀ τ τ', Kp τ → SubX [o] τ τ' → Kp τ') (ho : σ.heap o = some (rdO x)) (hKσ : Kp σ)
    (hf : ∀ τ y, τ.heap o = some (rdO y) → Kp τ → ACalls Tryz.prog G (fs ++ [] ++ cp) τ fun v τ' => v = vInt (f y).1 ∧ τ'.heap o = some (rdO (f y).2) ∧ SubX [o] τ τ') :
    ACalls Tryz.prog 294 [.ref o 0, .fn (.func G) fs cp] σ fun v σ' => v = .sl 1 ((rdSev f x).1.map vInt) false ∧ σ'.heap o = some (rdO (rdSev f x).2) ∧ SubX [o] σ σ' := by
  obtain ⟨N, hN⟩ : ∃ N, (rdCnt x 65536).1 = N := ⟨_, rfl⟩
  obtain ⟨x0, hx0⟩ : ∃ x0, (rdCnt x 65536).2 = x0 := ⟨_, rfl⟩
  have hNb : N ≤ 65536 := by rw [← hN]; exact rdCnt_le _ _
  refine ACalls_of Tryz.func294 rfl Tryz.ntmps294 (congrArg Array.toList Tryz.results294) (by simp only [List.length_cons, List.length_nil]; decide) ?_; simp only [envOf_cons, envOf_nil, Nat.reduceAdd]
  refine awp_seq ?_
  refine awp_region (by kernel_rfl) ?_
  (refine aL_S rfl rfl v_ ?_)
  refine aL_nil ?_
  refine awp_seq ?_
  refine awp_region (by kernel_rfl) ?_
  refine aL_nilOwn 3 1 rfl rfl rfl (by rfl) fun k5 hk5 => ?_
  refine aL_nil ?_
  refine awp_seq ?_
  refine awp_seq ?_
  have R := And.intro hN hx0
  refine awp_region (by kernel_rfl) ?_
  (refine aL_S rfl rfl v_ ?_)
  refine aL_X rfl rfl (AOp_use rfl rfl (.inr ⟨rfl, rfl, rfl⟩) g_ va_ (rdCount_c (m := 65536) ho) ?_); rintro _ _ ⟨rfl, rfl⟩
  (refine aL_S rfl rfl v_ ?_)
  refine aL_nil ?_
  refine awp_block ?_
  refine awp_loop_env (ι := Store × Nat × List Int × Rd × Nat) (fun ⟨τ, n, L, y, k⟩ => n) (fun ⟨τ, n, L, y, k⟩ => rdMany f N x0 = (L ++ (rdMany f n y).1, (rdMany f n y).2) ∧ L.length + n ≤ 65536 ∧ τ.heap o = some (rdO y) ∧ SubX [o] σ τ ∧ τ.tok k = some (3, 1) ∧ σ.tok k = none) (fun ⟨τ, n, L, y, k⟩ => [(0, .ref o 0), (1, .fn (.func G) fs cp), (5, .own k 1 (L.map vInt)), (6, vInt n)]) (fun ⟨τ, n, L, y, k⟩ => τ) ((σ.newTok none k5 (3, 1)).set o (rdO x0), N, [], x0, k5) ?_ ?_ ?_ ?_
  · exact ⟨rfl, by simpa using hNb, Store.set_get .., SubX.trans (subx_newTok hk5 subx_refl) SubX.self, by rw [Store.set_tok]; exact Store.newTok_get .., hk5⟩
  · have R := hN; exact cv_
  · rw [hx0]; exact Store.Wk.refl _
  rintro ⟨τ, n, L, y, k⟩ ⟨h1, h2, h3, h4, h5, h6⟩
  simp only [envL_cons, envL_nil]
  refine awp_seq ?_
  refine awp_seq ?_
  have R := h3
  refine awp_region (by kernel_rfl) ?_
  iterate 3 (refine aL_S rfl rfl v_ ?_)
  refine aL_GT rfl rfl v_ rfl vg_ ?_
  refine aL_GTX rfl rfl v_ rfl (fun hb => AOp_useV (by rfl) (by rfl) (.inr ⟨by rfl, by rfl, by rfl⟩) g_ cg_ (bad_x h3)) ?_
  refine aL_GT rfl rfl v_ rfl vg_ ?_
  (refine aL_S rfl rfl v_ ?_)
  refine aL_nil ?_
  refine awp_cond v_ (fun hc3 => ?_) (fun hc3 => ?_)
  · replace hc3 := nm_ hc3
    refine awp_skip ?_
    refine awp_seq ?_
    refine awp_block ?_
    have hn0 : 0 < n ∧ y.2 = true := by simpa using hc3
    have hn1 : n = (n - 1) + 1 := by omega
    have hn2 : (n : Int) - 1 = ((n - 1 : Nat) : Int) := by omega
    have hy := hn0.2
    refine awp_region (by kernel_rfl) ?_
    iterate 2 (refine aL_S rfl rfl v_ ?_)
    refine aL_X rfl rfl (AOp_use rfl rfl (.inl v_) g_ va_ (hf _ _ h3 (hK _ _ hKσ h4)) ?_); rintro _ υ ⟨rfl, hu1, hu2⟩
    refine aL_buildSlice rfl rfl rfl g_ g_ rfl rfl h_ c2_ (by decide) ?_
    have R := hu2.2 _ _ h5
    refine aL_append rfl rfl rfl g_ g_ v_ h_ v_ c_ (by simp; omega) fun k22 hk22 => ?_
    (refine aL_S rfl rfl v_ ?_)
    refine aL_nil ?_
    refine awp_region (by kernel_rfl) ?_
    iterate 3 (refine aL_S rfl rfl v_ ?_)
    refine aL_nil ?_
    refine aNext (ι := Store × Nat × List Int × Rd × Nat) (i := ⟨τ, n, L, y, k⟩) (υ.newTok (some k) k22 (3, 1), n - 1, L ++ [(f y).1], (f y).2, k22) ?_ ?_ ?_ ?_
    · show n - 1 < n; omega
    · exact ⟨by rw [h1, hn1, rdMany, hy]; simp, by simp; omega, hu1, SubX.newTok (SubX.trans h4 hu2) (fun j hj => by cases hj; exact h6) hk22, Store.newTok_get .., SubX.noTok (SubX.trans h4 hu2) hk22⟩
    · have R := hn2; exact cv_
    · exact Store.Wk.refl _
  · replace hc3 := nm_ hc3
    refine awp_exit ?_
    refine aThen_exit ?_
    refine aThen_exit ?_
    refine aBlock_hit ?_
    refine awp_seq ?_
    refine awp_seq ?_
    skip
    have hs : rdSev f x = if y.2 then (L ++ (rdMany f n y).1, (rdMany f n y).2) else ([], y) := by
      unfold rdSev
      rw [hN, hx0]
      dsimp only
      rw [h1]
      cases hy : y.2 with
      | false => rw [rdMany_bad f hy]; simp [hy]
      | true =>
        have : n = 0 := by rw [hy] at hc3; simp at hc3; omega
        subst this
        simp [rdMany, hy]
    refine awp_region (by kernel_rfl) ?_
    (refine aL_S rfl rfl v_ ?_)
    refine aL_X rfl rfl (AOp_use rfl rfl (.inr ⟨rfl, rfl, rfl⟩) g_ va_ (bad_x h3) ?_); rintro _ _ ⟨rfl, rfl⟩
    refine aL_nil ?_
    refine awp_cond v_ (fun hc6 => ?_) (fun hc6 => ?_)
    · replace hc6 := nm_ hc6
      refine awp_seq ?_
      refine awp_region (by kernel_rfl) ?_
      (refine aL_S rfl rfl v_ ?_)
      refine aL_nil ?_
      refine awp_ret ?_
      rw [hc6] at hs
      refine aEnd_retW (v := .sl 1 ((rdSev f x).1.map vInt) false) (v' := .lit (.slice none 0 0)) (σ' := τ) va_ ?_ (Store.Wk.refl _) ⟨rfl, ?_, h4⟩
      · rw [hs]; exact .nil _ _
      · rw [hs]; exact h3
    · replace hc6 := nm_ hc6
      refine awp_skip ?_
      refine awp_seq ?_
      refine awp_region (by kernel_rfl) ?_
      iterate 2 (refine aL_S rfl rfl v_ ?_)
      refine aL_nil ?_
      refine awp_ret ?_
      rw [hc6] at hs
      have hn : n = 0 := by rw [hc6] at hc3; simp at hc3; omega
      subst hn
      refine aEnd_retW (v := .sl 1 ((rdSev f x).1.map vInt) false) (v' := .own k 1 (L.map vInt)) (σ' := τ) va_ ?_ (Store.Wk.refl _) ⟨rfl, ?_, h4⟩
      · rw [hs]; simp [rdMany]; exact .own1 _ _ _
      · rw [hs]; exact h3
theorem sevSeen_c {o G : Nat} {x : Rd} {σ : Store} {fs cp : List AVal} {f : Rd → Seen × Rd} (Kp : Store → Prop) (hgo : isGo Tryz.prog G = true) (hK : ∀ τ τ', Kp τ → SubX [o] τ τ' → Kp τ') (ho : σ.heap o = some (rdO x)) (hKσ : Kp σ)
    (hf : ∀ τ y, τ.heap o = some (rdO y) → Kp τ → ACalls Tryz.prog G (fs ++ [] ++ cp) τ fun v τ' => v = sSeen (f y).1 ∧ τ'.heap o = some (rdO (f y).2) ∧ SubX [o] τ τ') :
    ACalls Tryz.prog 292 [.ref o 0, .fn (.func G) fs cp] σ fun v σ' => v = .sl 3 ((rdSev f x).1.map sSeen) false ∧ σ'.heap o = some (rdO (rdSev f x).2) ∧ SubX [o] σ σ' := by
  obtain ⟨N, hN⟩ : ∃ N, (rdCnt x 65536).1 = N := ⟨_, rfl⟩
  obtain ⟨x0, hx0⟩ : ∃ x0, (rdCnt x 65536).2 = x0 := ⟨_, rfl⟩
  have hNb : N ≤ 65536 := by rw [← hN]; exact rdCnt_le _ _
  refine ACalls_of Tryz.func292 rfl Tryz.ntmps292 (congrArg Array.toList Tryz.results292) (by simp only [List.length_cons, List.length_nil]; decide) ?_; simp only [envOf_cons, envOf_nil, Nat.reduceAdd]
  refine awp_seq ?_
  refine awp_region (by kernel_rfl) ?_
  (refine aL_S rfl rfl v_ ?_)
  refine aL_nil ?_
  refine awp_seq ?_
  refine awp_region (by kernel_rfl) ?_
  refine aL_nilOwn 119 3 rfl rfl rfl (by rfl) fun k5 hk5 => ?_
  refine aL_nil ?_
  refine awp_seq ?_
  refine awp_seq ?_
  have R := And.intro hN hx0
  refine awp_region (by kernel_rfl) ?_
  (refine aL_S rfl rfl v_ ?_)
  refine aL_X rfl rfl (AOp_use rfl rfl (.inr ⟨rfl, rfl, rfl⟩) g_ va_ (rdCount_c (m := 65536) ho) ?_); rintro _ _ ⟨rfl, rfl⟩
  (refine aL_S rfl rfl v_ ?_)
  refine aL_nil ?_
  refine awp_block ?_
  refine awp_loop_env (ι := Store × Nat × List Seen × Rd × Nat) (fun ⟨τ, n, L, y, k⟩ => n) (fun ⟨τ, n, L, y, k⟩ => rdMany f N x0 = (L ++ (rdMany f n y).1, (rdMany f n y).2) ∧ L.length + n ≤ 65536 ∧ τ.heap o = some (rdO y) ∧ SubX [o] σ τ ∧ τ.tok k = some (119, 3) ∧ σ.tok k = none) (fun ⟨τ, n, L, y, k⟩ => [(0, .ref o 0), (1, .fn (.func G) fs cp), (5, .own k 3 (L.map sSeen)), (6, vInt n)]) (fun ⟨τ, n, L, y, k⟩ => τ) ((σ.newTok none k5 (119, 3)).set o (rdO x0), N, [], x0, k5) ?_ ?_ ?_ ?_
  · exact ⟨rfl, by simpa using hNb, Store.set_get .., SubX.trans (subx_newTok hk5 subx_refl) SubX.self, by rw [Store.set_tok]; exact Store.newTok_get .., hk5⟩
  · have R := hN; exact cv_
  · rw [hx0]; exact Store.Wk.refl _
  rintro ⟨τ, n, L, y, k⟩ ⟨h1, h2, h3, h4, h5, h6⟩
  simp only [envL_cons, envL_nil]
  refine awp_seq ?_
  refine awp_seq ?_
  have R := h3
  refine awp_region (by kernel_rfl) ?_
  iterate 3 (refine aL_S rfl rfl v_ ?_)
  refine aL_GT rfl rfl v_ rfl vg_ ?_
  refine aL_GTX rfl rfl v_ rfl (fun hb => AOp_useV (by rfl) (by rfl) (.inr ⟨by rfl, by rfl, by rfl⟩) g_ cg_ (bad_x h3)) ?_
  refine aL_GT rfl rfl v_ rfl vg_ ?_
  (refine aL_S rfl rfl v_ ?_)
  refine aL_nil ?_
  refine awp_cond v_ (fun hc3 => ?_) (fun hc3 => ?_)
  · replace hc3 := nm_ hc3
    refine awp_skip ?_
    refine awp_seq ?_
    refine awp_block ?_
    have hn0 : 0 < n ∧ y.2 = true := by simpa using hc3
    have hn1 : n = (n - 1) + 1 := by omega
    have hn2 : (n : Int) - 1 = ((n - 1 : Nat) : Int) := by omega
    have hy := hn0.2
    refine awp_region (by kernel_rfl) ?_
    iterate 2 (refine aL_S rfl rfl v_ ?_)
    refine aL_X rfl rfl (AOp_use rfl rfl (.inl v_) g_ va_ (hf _ _ h3 (hK _ _ hKσ h4)) ?_); rintro _ υ ⟨rfl, hu1, hu2⟩
    refine aL_buildSlice rfl rfl rfl g_ g_ rfl rfl h_ c2_ (by decide) ?_
    have R := hu2.2 _ _ h5
    refine aL_append rfl rfl rfl g_ g_ v_ h_ v_ c_ (by simp; omega) fun k22 hk22 => ?_
    (refine aL_S rfl rfl v_ ?_)
    refine aL_nil ?_
    refine awp_region (by kernel_rfl) ?_
    iterate 3 (refine aL_S rfl rfl v_ ?_)
    refine aL_nil ?_
    refine aNext (ι := Store × Nat × List Seen × Rd × Nat) (i := ⟨τ, n, L, y, k⟩) (υ.newTok (some k) k22 (119, 3), n - 1, L ++ [(f y).1], (f y).2, k22) ?_ ?_ ?_ ?_
    · show n - 1 < n; omega
    · exact ⟨by rw [h1, hn1, rdMany, hy]; simp, by simp; omega, hu1, SubX.newTok (SubX.trans h4 hu2) (fun j hj => by cases hj; exact h6) hk22, Store.newTok_get .., SubX.noTok (SubX.trans h4 hu2) hk22⟩
    · have R := hn2; exact cv_
    · exact Store.Wk.refl _
  · replace hc3 := nm_ hc3
    refine awp_exit ?_
    refine aThen_exit ?_
    refine aThen_exit ?_
    refine aBlock_hit ?_
    refine awp_seq ?_
    refine awp_seq ?_
    skip
    have hs : rdSev f x = if y.2 then (L ++ (rdMany f n y).1, (rdMany f n y).2) else ([], y) := by
      unfold rdSev
      rw [hN, hx0]
      dsimp only
      rw [h1]
      cases hy : y.2 with
      | false => rw [rdMany_bad f hy]; simp [hy]
      | true =>
        have : n = 0 := by rw [hy] at hc3; simp at hc3; omega
        subst this
        simp [rdMany, hy]
    refine awp_region (by kernel_rfl) ?_
    (refine aL_S rfl rfl v_ ?_)
    refine aL_X rfl rfl (AOp_use rfl rfl (.inr ⟨rfl, rfl, rfl⟩) g_ va_ (bad_x h3) ?_); rintro _ _ ⟨rfl, rfl⟩
    refine aL_nil ?_
    refine awp_cond v_ (fun hc6 => ?_) (fun hc6 => ?_)
    · replace hc6 := nm_ hc6
      refine awp_seq ?_
      refine awp_region (by kernel_rfl) ?_
      (refine aL_S rfl rfl v_ ?_)
      refine aL_nil ?_
      refine awp_ret ?_
      rw [hc6] at hs
      refine aEnd_retW (v := .sl 3 ((rdSev f x).1.map sSeen) false) (v' := .lit (.slice none 0 0)) (σ' := τ) va_ ?_ (Store.Wk.refl _) ⟨rfl, ?_, h4⟩
      · rw [hs]; exact .nil _ _
      · rw [hs]; exact h3
    · replace hc6 := nm_ hc6
      refine awp_skip ?_
      refine awp_seq ?_
      refine awp_region (by kernel_rfl) ?_
      iterate 2 (refine aL_S rfl rfl v_ ?_)
      refine aL_nil ?_
      refine awp_ret ?_
      rw [hc6] at hs
      have hn : n = 0 := by rw [hc6] at hc3; simp at hc3; omega
      subst hn
      refine aEnd_retW (v := .sl 3 ((rdSev f x).1.map sSeen) false) (v' := .own k 3 (L.map sSeen)) (σ' := τ) va_ ?_ (Store.Wk.refl _) ⟨rfl, ?_, h4⟩
      · rw [hs]; simp [rdMany]; exact .own1 _ _ _
      · rw [hs]; exact h3
theorem sevSib_c {o G : Nat} {x : Rd} {σ : Store} {fs cp : List AVal} {f : Rd → Sib × Rd} (Kp : Store → Prop) (hgo : isGo Tryz.prog G = true) (hK : ∀ τ τ', Kp τ → SubX [o] τ τ' → Kp τ') (ho : σ.heap o = some (rdO x)) (hKσ : Kp σ)
    (hf : ∀ τ y, τ.heap o = some (rdO y) → Kp τ → ACalls Tryz.prog G (fs ++ [] ++ cp) τ fun v τ' => v = sSib (f y).1 ∧ τ'.heap o = some (rdO (f y).2) ∧ SubX [o] τ τ') :
    ACalls Tryz.prog 245 [.ref o 0, .fn (.func G) fs cp] σ fun v σ' => v = .sl 5 ((rdSev f x).1.map sSib) false ∧ σ'.heap o = some (rdO (rdSev f x).2) ∧ SubX [o] σ σ' := by
  obtain ⟨N, hN⟩ : ∃ N, (rdCnt x 65536).1 = N := ⟨_, rfl⟩
  obtain ⟨x0, hx0⟩ : ∃ x0, (rdCnt x 65536).2 = x0 := ⟨_, rfl⟩
  have hNb : N ≤ 65536 := by rw [← hN]; exact rdCnt_le _ _
  refine ACalls_of Tryz.func245 rfl Tryz.ntmps245 (congrArg Array.toList Tryz.results245) (by simp only [List.length_cons, List.length_nil]; decide) ?_; simp only [envOf_cons, envOf_nil, Nat.reduceAdd]
  refine awp_seq ?_
  refine awp_region (by kernel_rfl) ?_
  (refine aL_S rfl rfl v_ ?_)
  refine aL_nil ?_
  refine awp_seq ?_
  refine awp_region (by kernel_rfl) ?_
  refine aL_nilOwn 102 5 rfl rfl rfl (by rfl) fun k5 hk5 => ?_
  refine aL_nil ?_
  refine awp_seq ?_
  refine awp_seq ?_
  have R := And.intro hN hx0
  refine awp_region (by kernel_rfl) ?_
  (refine aL_S rfl rfl v_ ?_)
  refine aL_X rfl rfl (AOp_use rfl rfl (.inr ⟨rfl, rfl, rfl⟩) g_ va_ (rdCount_c (m := 65536) ho) ?_); rintro _ _ ⟨rfl, rfl⟩
  (refine aL_S rfl rfl v_ ?_)
  refine aL_nil ?_
  refine awp_block ?_
  refine awp_loop_env (ι := Store × Nat × List Sib × Rd × Nat) (fun ⟨τ, n, L, y, k⟩ => n) (fun ⟨τ, n, L, y, k⟩ => rdMany f N x0 = (L ++ (rdMany f n y).1, (rdMany f n y).2) ∧ L.length + n ≤ 65536 ∧ τ.heap o = some (rdO y) ∧ SubX [o] σ τ ∧ τ.tok k = some (102, 5) ∧ σ.tok k = none) (fun ⟨τ, n, L, y, k⟩ => [(0, .ref o 0), (1, .fn (.func G) fs cp), (5, .own k 5 (L.map sSib)), (6, vInt n)]) (fun ⟨τ, n, L, y, k⟩ => τ) ((σ.newTok none k5 (102, 5)).set o (rdO x0), N, [], x0, k5) ?_ ?_ ?_ ?_
  · exact ⟨rfl, by simpa using hNb, Store.set_get .., SubX.trans (subx_newTok hk5 subx_refl) SubX.self, by rw [Store.set_tok]; exact Store.newTok_get .., hk5⟩
  · have R := hN; exact cv_
  · rw [hx0]; exact Store.Wk.refl _
  rintro ⟨τ, n, L, y, k⟩ ⟨h1, h2, h3, h4, h5, h6⟩
  simp only [envL_cons, envL_nil]
  refine awp_seq ?_
  refine awp_seq ?_
  have R := h3
  refine awp_region (by kernel_rfl) ?_
  iterate 3 (refine aL_S rfl rfl v_ ?_)
  refine aL_GT rfl rfl v_ rfl vg_ ?_
  refine aL_GTX rfl rfl v_ rfl (fun hb => AOp_useV (by rfl) (by rfl) (.inr ⟨by rfl, by rfl, by rfl⟩) g_ cg_ (bad_x h3)) ?_
  refine aL_GT rfl rfl v_ rfl vg_ ?_
  (refine aL_S rfl rfl v_ ?_)
  refine aL_nil ?_
  refine awp_cond v_ (fun hc3 => ?_) (fun hc3 => ?_)
  · replace hc3 := nm_ hc3
    refine awp_skip ?_
    refine awp_seq ?_
    refine awp_block ?_
    have hn0 : 0 < n ∧ y.2 = true := by simpa using hc3
    have hn1 : n = (n - 1) + 1 := by omega
    have hn2 : (n : Int) - 1 = ((n - 1 : Nat) : Int) := by omega
    have hy := hn0.2
    refine awp_region (by kernel_rfl) ?_
    iterate 2 (refine aL_S rfl rfl v_ ?_)
    refine aL_X rfl rfl (AOp_use rfl rfl (.inl v_) g_ va_ (hf _ _ h3 (hK _ _ hKσ h4)) ?_); rintro _ υ ⟨rfl, hu1, hu2⟩
    refine aL_buildSlice rfl rfl rfl g_ g_ rfl rfl h_ c2_ (by decide) ?_
    have R := hu2.2 _ _ h5
    refine aL_append rfl rfl rfl g_ g_ v_ h_ v_ c_ (by simp; omega) fun k22 hk22 => ?_
    (refine aL_S rfl rfl v_ ?_)
    refine aL_nil ?_
    refine awp_region (by kernel_rfl) ?_
    iterate 3 (refine aL_S rfl rfl v_ ?_)
    refine aL_nil ?_
    refine aNext (ι := Store × Nat × List Sib × Rd × Nat) (i := ⟨τ, n, L, y, k⟩) (υ.newTok (some k) k22 (102, 5), n - 1, L ++ [(f y).1], (f y).2, k22) ?_ ?_ ?_ ?_
    · show n - 1 < n; omega
    · exact ⟨by rw [h1, hn1, rdMany, hy]; simp, by simp; omega, hu1, SubX.newTok (SubX.trans h4 hu2) (fun j hj => by cases hj; exact h6) hk22, Store.newTok_get .., SubX.noTok (SubX.trans h4 hu2) hk22⟩
    · have R := hn2; exact cv_
    · exact Store.Wk.refl _
  · replace hc3 := nm_ hc3
    refine awp_exit ?_
    refine aThen_exit ?_
    refine aThen_exit ?_
    refine aBlock_hit ?_
    refine awp_seq ?_
    refine awp_seq ?_
    skip
    have hs : rdSev f x = if y.2 then (L ++ (rdMany f n y).1, (rdMany f n y).2) else ([], y) := by
      unfold rdSev
      rw [hN, hx0]
      dsimp only
      rw [h1]
      cases hy : y.2 with
      | false => rw [rdMany_bad f hy]; simp [hy]
      | true =>
        have : n = 0 := by rw [hy] at hc3; simp at hc3; omega
        subst this
        simp [rdMany, hy]
    refine awp_region (by kernel_rfl) ?_
    (refine aL_S rfl rfl v_ ?_)
    refine aL_X rfl rfl (AOp_use rfl rfl (.inr ⟨rfl, rfl, rfl⟩) g_ va_ (bad_x h3) ?_); rintro _ _ ⟨rfl, rfl⟩
    refine aL_nil ?_
    refine awp_cond v_ (fun hc6 => ?_) (fun hc6 => ?_)
    · replace hc6 := nm_ hc6
      refine awp_seq ?_
      refine awp_region (by kernel_rfl) ?_
      (refine aL_S rfl rfl v_ ?_)
      refine aL_nil ?_
      refine awp_ret ?_
      rw [hc6] at hs
      refine aEnd_retW (v := .sl 5 ((rdSev f x).1.map sSib) false) (v' := .lit (.slice none 0 0)) (σ' := τ) va_ ?_ (Store.Wk.refl _) ⟨rfl, ?_, h4⟩
      · rw [hs]; exact .nil _ _
      · rw [hs]; exact h3
    · replace hc6 := nm_ hc6
      refine awp_skip ?_
      refine awp_seq ?_
      refine awp_region (by kernel_rfl) ?_
      iterate 2 (refine aL_S rfl rfl v_ ?_)
      refine aL_nil ?_
      refine awp_ret ?_
      rw [hc6] at hs
      have hn : n = 0 := by rw [hc6] at hc3; simp at hc3; omega
      subst hn
      refine aEnd_retW (v := .sl 5 ((rdSev f x).1.map sSib) false) (v' := .own k 5 (L.map sSib)) (σ' := τ) va_ ?_ (Store.Wk.refl _) ⟨rfl, ?_, h4⟩
      · rw [hs]; simp [rdMany]; exact .own1 _ _ _
      · rw [hs]; exact h3
end Go.Proofs.YtbcgkbdacijoiaaGreat
end

section
set_option linter.all false
set_option maxRecDepth 100000
namespace Go.Proofs.YtbcgkbdacijoiaaGreat
open Go.Ab

def rdI8 (x : Rd) : Int × Rd := rdNum x 8
def rdSeen (x : Rd) : Seen × Rd :=
  let a := rdText x; let b := rdNum a.2 8; let c := rdSev rdI8 b.2
  (⟨B a.1, b.1, c.1⟩, c.2)
def rdCtx (x : Rd) : List Seen × Rd := rdSev rdSeen x
def rdSib (x : Rd) : Sib × Rd :=
  let a := rdText x; let b := rdNum a.2 8; let c := rdText b.2; let d := rdNum c.2 1; let e := rdNum d.2 8
  (⟨B a.1, b.1, B c.1, !decide (d.1 = 0), e.1⟩, e.2)
def rdObj (x : Rd) : Obj' × Rd :=
  let c := rdCtx x; let l := rdSev rdSib c.2
  if l.2.2 then (⟨c.1, l.1⟩, l.2) else (⟨[], []⟩, l.2)

theorem keep {l : List Nat} {a b : Store} {i : Nat} {x : AObj} (h : SubX l a b) (hx : a.heap i = some x) (hi : i ∉ l) : b.heap i = some x := h.1 i x hi hx
theorem rdInt_m {o : Nat} {x : Rd} {σ : Store} (ho : σ.heap o = some (rdO x)) : ACalls Tryz.prog 177 ([.ref o 0] ++ [] ++ []) σ fun v σ' => v = vInt (rdI8 x).1 ∧ σ'.heap o = some (rdO (rdI8 x).2) ∧ SubX [o] σ σ' :=
  (rdInt_c ho).mono fun v τ ⟨h1, h2⟩ => ⟨h1, by rw [h2]; exact Store.set_get .., by rw [h2]; exact SubX.self⟩

theorem readSeen_c {o ob : Nat} {x : Rd} {σ : Store} (ho : σ.heap o = some (rdO x)) (hb : σ.heap ob = some (.cells [.ref o 0])) : ACalls Tryz.prog 293 [.ref ob 0] σ fun v σ' => v = sSeen (rdSeen x).1 ∧ σ'.heap o = some (rdO (rdSeen x).2) ∧ SubX [o] σ σ' := by
  have hne : ob ≠ o := fun hh => by rw [hh, ho] at hb; cases hb
  refine ACalls_of Tryz.func293 rfl Tryz.ntmps293 (congrArg Array.toList Tryz.results293) (by simp only [List.length_cons, List.length_nil]; decide) ?_; simp only [envOf_cons, envOf_nil, Nat.reduceAdd]
  refine awp_seq ?_
  refine awp_region (by kernel_rfl) ?_
  refine aL_alloc rfl rfl rfl g_ gl_ fun o1 ho1 => ?_
  repeat (rw [none_set_iff] at ho1; obtain ⟨_, ho1⟩ := ho1)
  refine aL_nil ?_
  have n1 := ne_of_heap ho ho1
  have n1b := ne_of_heap hb ho1
  refine awp_seq ?_
  refine awp_region (by kernel_rfl) ?_
  refine aL_alloc rfl rfl rfl g_ gl_ fun o2 ho2 => ?_
  repeat (rw [none_set_iff] at ho2; obtain ⟨_, ho2⟩ := ho2)
  refine aL_nil ?_
  have n2 := ne_of_heap ho ho2
  have n2b := ne_of_heap hb ho2
  refine awp_seq ?_
  have R := hb
  refine awp_draw (.alt 0 2 (.alt 1 2 (.op 4 0 (.op 2 2 (.op 3 2 (.op 5 2 (.op 6 0 (.op 7 2 .nil)))))) (.op 2 2 (.op 1 2 (.op 4 0 (.op 3 2 (.op 5 2 (.op 6 0 (.op 7 2 .nil)))))))) (.op 2 2 (.op 0 2 (.op 1 2 (.op 4 0 (.op 3 2 (.op 5 2 (.op 6 0 (.op 7 2 .nil))))))))) Tryz.mixed (by kernel_rfl) ?_
  refine dR_alt ?_ ?_
  · refine dR_T o_ (by rfl) (by rfl) (AOp_val v_ ?_)
    refine dR_alt ?_ ?_
    · refine dR_T o_ (by rfl) (by rfl) (AOp_use (by rfl) (by rfl) (.inr ⟨by rfl, by rfl, by rfl⟩) g_ va_ (rdText_c (x := x) (by first | exact ho | simp (disch := omega) only [Store.set_ne, ho])) ?_); rintro _ _ ⟨rfl, rfl⟩
      (refine dR_S o_ (by rfl) (by rfl) v_ ?_)
      refine dR_T o_ (by rfl) (by rfl) (AOp_val v_ ?_)
      refine dR_T o_ (by rfl) (by rfl) (AOp_use (by rfl) (by rfl) (.inr ⟨by rfl, by rfl, by rfl⟩) g_ va_ (rdInt_c (Store.set_get ..)) ?_); rintro _ _ ⟨rfl, rfl⟩
      refine dR_store o_ (by rfl) (by rfl) (by rfl) v_ v_ h_ g_ rfl g_ c_ (by rfl) le_ v_ ?_
      (refine dR_S o_ (by rfl) (by rfl) v_ ?_)
      refine dR_store o_ (by rfl) (by rfl) (by rfl) v_ v_ h_ g_ rfl g_ c_ (by rfl) le_ v_ ?_
      refine dR_nil ?_
      refine awp_seq ?_
      have R := hb
      refine awp_region (by kernel_rfl) ?_
      iterate 3 (refine aL_S rfl rfl v_ ?_)
      refine aL_X rfl rfl (AOp_use rfl rfl (.inr ⟨rfl, rfl, rfl⟩) g_ va_ (sevInt_c (x := (rdNum (rdText x).2 8).2) (f := rdI8) (fun _ => True) (by kernel_rfl) (fun _ _ _ _ => trivial) h_ trivial (fun _ _ h _ => rdInt_m h)) ?_); rintro _ υ ⟨rfl, u1, u2⟩
      have R := And.intro (keep (i := o1) u2 h_ (by simp; omega)) (keep (i := o2) u2 h_ (by simp; omega))
      (refine aL_S rfl rfl v_ ?_)
      refine aL_store rfl rfl rfl v_ v_ h_ g_ rfl g_ c_ (by rfl) le_ v_ ?_
      refine aL_nil ?_
      refine awp_seq ?_
      have R := And.intro @R.1 @R.2
      refine awp_region (by kernel_rfl) ?_
      (refine aL_S rfl rfl v_ ?_)
      refine aL_store rfl rfl rfl v_ v_ h_ g_ rfl g_ c_ (by rfl) le_ v_ ?_
      refine aL_nil ?_
      refine awp_ret ?_
      refine aEnd_ret v_ (Store.Wk.refl _) ?_
      refine ⟨rfl, by simp (disch := omega) only [Store.set_ne, u1]; rfl, ?_⟩
      exact subx_new ho1 (subx_new ho2 (SubX.trans sub_ u2))
    refine dR_T o_ (by rfl) (by rfl) (AOp_val v_ ?_)
    refine dR_T o_ (by rfl) (by rfl) (AOp_use (by rfl) (by rfl) (.inr ⟨by rfl, by rfl, by rfl⟩) g_ va_ (rdText_c (x := x) (by first | exact ho | simp (disch := omega) only [Store.set_ne, ho])) ?_); rintro _ _ ⟨rfl, rfl⟩
    (refine dR_S o_ (by rfl) (by rfl) v_ ?_)
    refine dR_T o_ (by rfl) (by rfl) (AOp_use (by rfl) (by rfl) (.inr ⟨by rfl, by rfl, by rfl⟩) g_ va_ (rdInt_c (Store.set_get ..)) ?_); rintro _ _ ⟨rfl, rfl⟩
    refine dR_store o_ (by rfl) (by rfl) (by rfl) v_ v_ h_ g_ rfl g_ c_ (by rfl) le_ v_ ?_
    (refine dR_S o_ (by rfl) (by rfl) v_ ?_)
    refine dR_store o_ (by rfl) (by rfl) (by rfl) v_ v_ h_ g_ rfl g_ c_ (by rfl) le_ v_ ?_
    refine dR_nil ?_
    refine awp_seq ?_
    have R := hb
    refine awp_region (by kernel_rfl) ?_
    iterate 3 (refine aL_S rfl rfl v_ ?_)
    refine aL_X rfl rfl (AOp_use rfl rfl (.inr ⟨rfl, rfl, rfl⟩) g_ va_ (sevInt_c (x := (rdNum (rdText x).2 8).2) (f := rdI8) (fun _ => True) (by kernel_rfl) (fun _ _ _ _ => trivial) h_ trivial (fun _ _ h _ => rdInt_m h)) ?_); rintro _ υ ⟨rfl, u1, u2⟩
    have R := And.intro (keep (i := o1) u2 h_ (by simp; omega)) (keep (i := o2) u2 h_ (by simp; omega))
    (refine aL_S rfl rfl v_ ?_)
    refine aL_store rfl rfl rfl v_ v_ h_ g_ rfl g_ c_ (by rfl) le_ v_ ?_
    refine aL_nil ?_
    refine awp_seq ?_
    have R := And.intro @R.1 @R.2
    refine awp_region (by kernel_rfl) ?_
    (refine aL_S rfl rfl v_ ?_)
    refine aL_store rfl rfl rfl v_ v_ h_ g_ rfl g_ c_ (by rfl) le_ v_ ?_
    refine aL_nil ?_
    refine awp_ret ?_
    refine aEnd_ret v_ (Store.Wk.refl _) ?_
    refine ⟨rfl, by simp (disch := omega) only [Store.set_ne, u1]; rfl, ?_⟩
    exact subx_new ho1 (subx_new ho2 (SubX.trans sub_ u2))
  refine dR_T o_ (by rfl) (by rfl) (AOp_val v_ ?_)
  refine dR_T o_ (by rfl) (by rfl) (AOp_val v_ ?_)
  refine dR_T o_ (by rfl) (by rfl) (AOp_use (by rfl) (by rfl) (.inr ⟨by rfl, by rfl, by rfl⟩) g_ va_ (rdText_c (x := x) (by first | exact ho | simp (disch := omega) only [Store.set_ne, ho])) ?_); rintro _ _ ⟨rfl, rfl⟩
  (refine dR_S o_ (by rfl) (by rfl) v_ ?_)
  refine dR_T o_ (by rfl) (by rfl) (AOp_use (by rfl) (by rfl) (.inr ⟨by rfl, by rfl, by rfl⟩) g_ va_ (rdInt_c (Store.set_get ..)) ?_); rintro _ _ ⟨rfl, rfl⟩
  refine dR_store o_ (by rfl) (by rfl) (by rfl) v_ v_ h_ g_ rfl g_ c_ (by rfl) le_ v_ ?_
  (refine dR_S o_ (by rfl) (by rfl) v_ ?_)
  refine dR_store o_ (by rfl) (by rfl) (by rfl) v_ v_ h_ g_ rfl g_ c_ (by rfl) le_ v_ ?_
  refine dR_nil ?_
  refine awp_seq ?_
  have R := hb
  refine awp_region (by kernel_rfl) ?_
  iterate 3 (refine aL_S rfl rfl v_ ?_)
  refine aL_X rfl rfl (AOp_use rfl rfl (.inr ⟨rfl, rfl, rfl⟩) g_ va_ (sevInt_c (x := (rdNum (rdText x).2 8).2) (f := rdI8) (fun _ => True) (by kernel_rfl) (fun _ _ _ _ => trivial) h_ trivial (fun _ _ h _ => rdInt_m h)) ?_); rintro _ υ ⟨rfl, u1, u2⟩
  have R := And.intro (keep (i := o1) u2 h_ (by simp; omega)) (keep (i := o2) u2 h_ (by simp; omega))
  (refine aL_S rfl rfl v_ ?_)
  refine aL_store rfl rfl rfl v_ v_ h_ g_ rfl g_ c_ (by rfl) le_ v_ ?_
  refine aL_nil ?_
  refine awp_seq ?_
  have R := And.intro @R.1 @R.2
  refine awp_region (by kernel_rfl) ?_
  (refine aL_S rfl rfl v_ ?_)
  refine aL_store rfl rfl rfl v_ v_ h_ g_ rfl g_ c_ (by rfl) le_ v_ ?_
  refine aL_nil ?_
  refine awp_ret ?_
  refine aEnd_ret v_ (Store.Wk.refl _) ?_
  refine ⟨rfl, by simp (disch := omega) only [Store.set_ne, u1]; rfl, ?_⟩
  exact subx_new ho1 (subx_new ho2 (SubX.trans sub_ u2))

theorem readCtx_c {o : Nat} {x : Rd} {σ : Store} (ho : σ.heap o = some (rdO x)) : ACalls Tryz.prog 244 [.ref o 0] σ fun v σ' => v = .sl 3 ((rdCtx x).1.map sSeen) false ∧ σ'.heap o = some (rdO (rdCtx x).2) ∧ SubX [o] σ σ' := by
  refine ACalls_of Tryz.func244 rfl Tryz.ntmps244 (congrArg Array.toList Tryz.results244) (by simp only [List.length_cons, List.length_nil]; decide) ?_; simp only [envOf_cons, envOf_nil, Nat.reduceAdd]
  refine awp_seq ?_
  refine awp_region (by kernel_rfl) ?_
  refine aL_box rfl rfl rfl v_ rfl g_ fun o1 ho1 => ?_
  repeat (rw [none_set_iff] at ho1; obtain ⟨_, ho1⟩ := ho1)
  (refine aL_S rfl rfl v_ ?_)
  refine aL_nil ?_
  have n1 := ne_of_heap ho ho1
  refine awp_seq ?_
  have R := ho
  refine awp_region (by kernel_rfl) ?_
  iterate 2 (refine aL_S rfl rfl v_ ?_)
  refine aL_X rfl rfl (AOp_use rfl rfl (.inr ⟨rfl, rfl, rfl⟩) g_ va_ (sevSeen_c (x := x) (f := rdSeen) (fun τ => τ.heap o1 = some (.cells [.ref o 0])) (by kernel_rfl) (fun _ _ h k => keep k h (by simp; omega)) h_ h_ (fun _ _ h k => readSeen_c h k)) ?_); rintro _ υ ⟨rfl, u1, u2⟩
  (refine aL_S rfl rfl v_ ?_)
  refine aL_nil ?_
  refine awp_ret ?_
  refine aEnd_ret v_ (Store.Wk.refl _) ?_
  exact ⟨rfl, u1, SubX.trans (subx_new ho1 subx_refl) u2⟩

theorem readSib_c {o ob : Nat} {x : Rd} {σ : Store} (ho : σ.heap o = some (rdO x)) (hb : σ.heap ob = some (.cells [.ref o 0])) : ACalls Tryz.prog 246 [.ref ob 0] σ fun v σ' => v = sSib (rdSib x).1 ∧ σ'.heap o = some (rdO (rdSib x).2) ∧ SubX [o] σ σ' := by
  have hne : ob ≠ o := fun hh => by rw [hh, ho] at hb; cases hb
  obtain ⟨z, hz⟩ : ∃ z, AObj.cells [.lit (.string ⟨#[]⟩), .lit (.int .i64 0), .lit (.string ⟨#[]⟩), .lit (.bool false), .lit (.int .i64 0)] = z := ⟨_, rfl⟩
  obtain ⟨x1, e1⟩ : ∃ x1, rdNum (rdText x).2 8 = x1 := ⟨_, rfl⟩
  obtain ⟨x2, e2⟩ : ∃ x2, rdText x1.2 = x2 := ⟨_, rfl⟩
  obtain ⟨x3, e3⟩ : ∃ x3, rdNum x2.2 1 = x3 := ⟨_, rfl⟩
  refine ACalls_of Tryz.func246 rfl Tryz.ntmps246 (congrArg Array.toList Tryz.results246) (by simp only [List.length_cons, List.length_nil]; decide) ?_; simp only [envOf_cons, envOf_nil, Nat.reduceAdd]
  refine awp_seq ?_
  refine awp_region (by kernel_rfl) ?_
  refine aL_alloc rfl rfl rfl g_ gl_ fun o1 ho1 => ?_
  repeat (rw [none_set_iff] at ho1; obtain ⟨_, ho1⟩ := ho1)
  refine aL_nil ?_
  have n1 := ne_of_heap ho ho1
  have n1b := ne_of_heap hb ho1
  refine awp_seq ?_
  refine awp_region (by kernel_rfl) ?_
  refine aL_alloc rfl rfl rfl g_ gl_ fun o2 ho2 => ?_
  repeat (rw [none_set_iff] at ho2; obtain ⟨_, ho2⟩ := ho2)
  refine aL_nil ?_
  have n2 := ne_of_heap ho ho2
  have n2b := ne_of_heap hb ho2
  refine awp_seq_mid (ι := Store) (fun υ => υ.heap o = some (rdO x1.2) ∧ υ.heap ob = some (.cells [.ref o 0]) ∧ υ.heap o1 = some z ∧ υ.heap o2 = some (.cells [vStr (B (rdText x).1), vInt x1.1, .lit (.string ⟨#[]⟩), .lit (.bool false), .lit (.int .i64 0)]) ∧ SubX [o] σ υ) (fun υ => [(0, .ref ob 0), (1, .ref o1 0), (2, .ref o2 0)]) (fun υ => υ) ?_ ?_
  · have R := hb
    refine awp_draw (.alt 0 2 (.alt 1 2 (.op 4 0 (.op 5 0 (.op 2 2 (.op 3 2 (.op 6 2 (.op 7 0 (.op 8 0 (.op 9 2 .nil)))))))) (.op 2 2 (.op 1 2 (.op 4 0 (.op 5 0 (.op 3 2 (.op 6 2 (.op 7 0 (.op 8 0 (.op 9 2 .nil)))))))))) (.op 2 2 (.op 0 2 (.op 1 2 (.op 4 0 (.op 5 0 (.op 3 2 (.op 6 2 (.op 7 0 (.op 8 0 (.op 9 2 .nil))))))))))) Tryz.mixed (by kernel_rfl) ?_
    refine dR_alt ?_ ?_
    · refine dR_T o_ (by rfl) (by rfl) (AOp_val v_ ?_)
      refine dR_alt ?_ ?_
      · refine dR_T o_ (by rfl) (by rfl) (AOp_use (by rfl) (by rfl) (.inr ⟨by rfl, by rfl, by rfl⟩) g_ va_ (rdText_c (x := x) (by first | exact ho | simp (disch := omega) only [Store.set_ne, ho])) ?_); rintro _ _ ⟨rfl, rfl⟩
        iterate 2 (refine dR_S o_ (by rfl) (by rfl) v_ ?_)
        refine dR_T o_ (by rfl) (by rfl) (AOp_val v_ ?_)
        refine dR_T o_ (by rfl) (by rfl) (AOp_use (by rfl) (by rfl) (.inr ⟨by rfl, by rfl, by rfl⟩) g_ va_ (rdInt_c (Store.set_get ..)) ?_); rintro _ _ ⟨rfl, rfl⟩
        refine dR_store o_ (by rfl) (by rfl) (by rfl) v_ v_ h_ g_ rfl g_ c_ (by rfl) le_ v_ ?_
        iterate 2 (refine dR_S o_ (by rfl) (by rfl) v_ ?_)
        refine dR_store o_ (by rfl) (by rfl) (by rfl) v_ v_ h_ g_ rfl g_ c_ (by rfl) le_ v_ ?_
        refine dR_nil ?_
        refine ⟨((((((σ.set o1 (AObj.cells [.lit (.string ⟨#[]⟩), .lit (.int .i64 0), .lit (.string ⟨#[]⟩), .lit (.bool false), .lit (.int .i64 0)])).set o2 (AObj.cells [.lit (.string ⟨#[]⟩), .lit (.int .i64 0), .lit (.string ⟨#[]⟩), .lit (.bool false), .lit (.int .i64 0)])).set o (rdO (rdText x).2)).set o (rdO (rdNum (rdText x).2 8).2)).set o2 (.cells [vStr (B (rdText x).1), .lit (.int .i64 0), .lit (.string ⟨#[]⟩), .lit (.bool false), .lit (.int .i64 0)])).set o2 (.cells [vStr (B (rdText x).1), vInt (rdNum (rdText x).2 8).1, .lit (.string ⟨#[]⟩), .lit (.bool false), .lit (.int .i64 0)])), ?_, ?_, ?_⟩
        · rw [← e1, ← hz]; exact ⟨h_, h_, h_, h_, sub_⟩
        · exact cv_
        · exact Store.Wk.refl _
      refine dR_T o_ (by rfl) (by rfl) (AOp_val v_ ?_)
      refine dR_T o_ (by rfl) (by rfl) (AOp_use (by rfl) (by rfl) (.inr ⟨by rfl, by rfl, by rfl⟩) g_ va_ (rdText_c (x := x) (by first | exact ho | simp (disch := omega) only [Store.set_ne, ho])) ?_); rintro _ _ ⟨rfl, rfl⟩
      iterate 2 (refine dR_S o_ (by rfl) (by rfl) v_ ?_)
      refine dR_T o_ (by rfl) (by rfl) (AOp_use (by rfl) (by rfl) (.inr ⟨by rfl, by rfl, by rfl⟩) g_ va_ (rdInt_c (Store.set_get ..)) ?_); rintro _ _ ⟨rfl, rfl⟩
      refine dR_store o_ (by rfl) (by rfl) (by rfl) v_ v_ h_ g_ rfl g_ c_ (by rfl) le_ v_ ?_
      iterate 2 (refine dR_S o_ (by rfl) (by rfl) v_ ?_)
      refine dR_store o_ (by rfl) (by rfl) (by rfl) v_ v_ h_ g_ rfl g_ c_ (by rfl) le_ v_ ?_
      refine dR_nil ?_
      refine ⟨((((((σ.set o1 (AObj.cells [.lit (.string ⟨#[]⟩), .lit (.int .i64 0), .lit (.string ⟨#[]⟩), .lit (.bool false), .lit (.int .i64 0)])).set o2 (AObj.cells [.lit (.string ⟨#[]⟩), .lit (.int .i64 0), .lit (.string ⟨#[]⟩), .lit (.bool false), .lit (.int .i64 0)])).set o (rdO (rdText x).2)).set o (rdO (rdNum (rdText x).2 8).2)).set o2 (.cells [vStr (B (rdText x).1), .lit (.int .i64 0), .lit (.string ⟨#[]⟩), .lit (.bool false), .lit (.int .i64 0)])).set o2 (.cells [vStr (B (rdText x).1), vInt (rdNum (rdText x).2 8).1, .lit (.string ⟨#[]⟩), .lit (.bool false), .lit (.int .i64 0)])), ?_, ?_, ?_⟩
      · rw [← e1, ← hz]; exact ⟨h_, h_, h_, h_, sub_⟩
      · exact cv_
      · exact Store.Wk.refl _
    refine dR_T o_ (by rfl) (by rfl) (AOp_val v_ ?_)
    refine dR_T o_ (by rfl) (by rfl) (AOp_val v_ ?_)
    refine dR_T o_ (by rfl) (by rfl) (AOp_use (by rfl) (by rfl) (.inr ⟨by rfl, by rfl, by rfl⟩) g_ va_ (rdText_c (x := x) (by first | exact ho | simp (disch := omega) only [Store.set_ne, ho])) ?_); rintro _ _ ⟨rfl, rfl⟩
    iterate 2 (refine dR_S o_ (by rfl) (by rfl) v_ ?_)
    refine dR_T o_ (by rfl) (by rfl) (AOp_use (by rfl) (by rfl) (.inr ⟨by rfl, by rfl, by rfl⟩) g_ va_ (rdInt_c (Store.set_get ..)) ?_); rintro _ _ ⟨rfl, rfl⟩
    refine dR_store o_ (by rfl) (by rfl) (by rfl) v_ v_ h_ g_ rfl g_ c_ (by rfl) le_ v_ ?_
    iterate 2 (refine dR_S o_ (by rfl) (by rfl) v_ ?_)
    refine dR_store o_ (by rfl) (by rfl) (by rfl) v_ v_ h_ g_ rfl g_ c_ (by rfl) le_ v_ ?_
    refine dR_nil ?_
    refine ⟨((((((σ.set o1 (AObj.cells [.lit (.string ⟨#[]⟩), .lit (.int .i64 0), .lit (.string ⟨#[]⟩), .lit (.bool false), .lit (.int .i64 0)])).set o2 (AObj.cells [.lit (.string ⟨#[]⟩), .lit (.int .i64 0), .lit (.string ⟨#[]⟩), .lit (.bool false), .lit (.int .i64 0)])).set o (rdO (rdText x).2)).set o (rdO (rdNum (rdText x).2 8).2)).set o2 (.cells [vStr (B (rdText x).1), .lit (.int .i64 0), .lit (.string ⟨#[]⟩), .lit (.bool false), .lit (.int .i64 0)])).set o2 (.cells [vStr (B (rdText x).1), vInt (rdNum (rdText x).2 8).1, .lit (.string ⟨#[]⟩), .lit (.bool false), .lit (.int .i64 0)])), ?_, ?_, ?_⟩
    · rw [← e1, ← hz]; exact ⟨h_, h_, h_, h_, sub_⟩
    · exact cv_
    · exact Store.Wk.refl _
  · rintro υ ⟨u1, u2, u3, u4, u5⟩
    simp only [envL_cons, envL_nil]
    refine awp_seq_mid (ι := Store) (fun φ => φ.heap o = some (rdO x3.2) ∧ φ.heap ob = some (.cells [.ref o 0]) ∧ φ.heap o1 = some z ∧ φ.heap o2 = some (.cells [vStr (B (rdText x).1), vInt x1.1, vStr (B x2.1), .lit (.bool (!decide (x3.1 = 0))), .lit (.int .i64 0)]) ∧ SubX [o] σ φ) (fun φ => [(0, .ref ob 0), (1, .ref o1 0), (2, .ref o2 0)]) (fun φ => φ) ?_ ?_
    · have R := And.intro u2 u4
      refine awp_draw (.alt 0 2 (.alt 1 2 (.op 5 0 (.op 2 2 (.op 3 2 (.alt 4 2 (.op 6 2 (.op 7 0 (.op 8 2 .nil))) (.op 6 2 (.op 4 2 (.op 7 0 (.op 8 2 .nil)))))))) (.op 2 2 (.op 1 2 (.op 5 0 (.op 3 2 (.alt 4 2 (.op 6 2 (.op 7 0 (.op 8 2 .nil))) (.op 6 2 (.op 4 2 (.op 7 0 (.op 8 2 .nil)))))))))) (.op 2 2 (.op 0 2 (.op 1 2 (.op 5 0 (.op 3 2 (.alt 4 2 (.op 6 2 (.op 7 0 (.op 8 2 .nil))) (.op 6 2 (.op 4 2 (.op 7 0 (.op 8 2 .nil))))))))))) Tryz.mixed (by kernel_rfl) ?_
      refine dR_alt ?_ ?_
      · refine dR_T o_ (by rfl) (by rfl) (AOp_val v_ ?_)
        refine dR_alt ?_ ?_
        · refine dR_T o_ (by rfl) (by rfl) (AOp_use (by rfl) (by rfl) (.inr ⟨by rfl, by rfl, by rfl⟩) g_ va_ (rdText_c (x := x1.2) (by simp (disch := omega) only [Store.set_ne, u1])) ?_); rintro _ _ ⟨rfl, rfl⟩
          (refine dR_S o_ (by rfl) (by rfl) v_ ?_)
          refine dR_T o_ (by rfl) (by rfl) (AOp_val v_ ?_)
          refine dR_T o_ (by rfl) (by rfl) (AOp_use (by rfl) (by rfl) (.inr ⟨by rfl, by rfl, by rfl⟩) g_ va_ (rdByte_c (Store.set_get ..)) ?_); rintro _ _ ⟨rfl, rfl⟩
          refine dR_alt ?_ ?_
          · refine dR_T o_ (by rfl) (by rfl) (AOp_val v_ ?_)
            refine dR_store o_ (by rfl) (by rfl) (by rfl) v_ v_ h_ g_ rfl g_ c_ (by rfl) le_ v_ ?_
            (refine dR_S o_ (by rfl) (by rfl) v_ ?_)
            refine dR_store o_ (by rfl) (by rfl) (by rfl) v_ v_ h_ g_ rfl g_ c_ (by rfl) le_ v_ ?_
            refine dR_nil ?_
            refine ⟨((((υ.set o (rdO (rdText x1.2).2)).set o (rdO (rdNum (rdText x1.2).2 1).2)).set o2 (.cells [vStr (B (rdText x).1), vInt x1.1, vStr (B (rdText x1.2).1), .lit (.bool false), .lit (.int .i64 0)])).set o2 (.cells [vStr (B (rdText x).1), vInt x1.1, vStr (B (rdText x1.2).1), .lit (.bool (!decide ((rdNum (rdText x1.2).2 1).1 = 0))), .lit (.int .i64 0)])), ?_, ?_, ?_⟩
            · rw [← e3, ← e2]; exact ⟨by simp (disch := omega) only [Store.set_ne, Store.set_get], by simp (disch := omega) only [Store.set_ne, u2], by simp (disch := omega) only [Store.set_ne, u3], h_, subx_new ho2 (subx_new ho2 (subx_in (.head _) (subx_in (.head _) u5)))⟩
            · exact cv_
            · exact Store.Wk.refl _
          refine dR_store o_ (by rfl) (by rfl) (by rfl) v_ v_ h_ g_ rfl g_ c_ (by rfl) le_ v_ ?_
          refine dR_T o_ (by rfl) (by rfl) (AOp_val v_ ?_)
          (refine dR_S o_ (by rfl) (by rfl) v_ ?_)
          refine dR_store o_ (by rfl) (by rfl) (by rfl) v_ v_ h_ g_ rfl g_ c_ (by rfl) le_ v_ ?_
          refine dR_nil ?_
          refine ⟨((((υ.set o (rdO (rdText x1.2).2)).set o (rdO (rdNum (rdText x1.2).2 1).2)).set o2 (.cells [vStr (B (rdText x).1), vInt x1.1, vStr (B (rdText x1.2).1), .lit (.bool false), .lit (.int .i64 0)])).set o2 (.cells [vStr (B (rdText x).1), vInt x1.1, vStr (B (rdText x1.2).1), .lit (.bool (!decide ((rdNum (rdText x1.2).2 1).1 = 0))), .lit (.int .i64 0)])), ?_, ?_, ?_⟩
          · rw [← e3, ← e2]; exact ⟨by simp (disch := omega) only [Store.set_ne, Store.set_get], by simp (disch := omega) only [Store.set_ne, u2], by simp (disch := omega) only [Store.set_ne, u3], h_, subx_new ho2 (subx_new ho2 (subx_in (.head _) (subx_in (.head _) u5)))⟩
          · exact cv_
          · exact Store.Wk.refl _
        refine dR_T o_ (by rfl) (by rfl) (AOp_val v_ ?_)
        refine dR_T o_ (by rfl) (by rfl) (AOp_use (by rfl) (by rfl) (.inr ⟨by rfl, by rfl, by rfl⟩) g_ va_ (rdText_c (x := x1.2) (by simp (disch := omega) only [Store.set_ne, u1])) ?_); rintro _ _ ⟨rfl, rfl⟩
        (refine dR_S o_ (by rfl) (by rfl) v_ ?_)
        refine dR_T o_ (by rfl) (by rfl) (AOp_use (by rfl) (by rfl) (.inr ⟨by rfl, by rfl, by rfl⟩) g_ va_ (rdByte_c (Store.set_get ..)) ?_); rintro _ _ ⟨rfl, rfl⟩
        refine dR_alt ?_ ?_
        · refine dR_T o_ (by rfl) (by rfl) (AOp_val v_ ?_)
          refine dR_store o_ (by rfl) (by rfl) (by rfl) v_ v_ h_ g_ rfl g_ c_ (by rfl) le_ v_ ?_
          (refine dR_S o_ (by rfl) (by rfl) v_ ?_)
          refine dR_store o_ (by rfl) (by rfl) (by rfl) v_ v_ h_ g_ rfl g_ c_ (by rfl) le_ v_ ?_
          refine dR_nil ?_
          refine ⟨((((υ.set o (rdO (rdText x1.2).2)).set o (rdO (rdNum (rdText x1.2).2 1).2)).set o2 (.cells [vStr (B (rdText x).1), vInt x1.1, vStr (B (rdText x1.2).1), .lit (.bool false), .lit (.int .i64 0)])).set o2 (.cells [vStr (B (rdText x).1), vInt x1.1, vStr (B (rdText x1.2).1), .lit (.bool (!decide ((rdNum (rdText x1.2).2 1).1 = 0))), .lit (.int .i64 0)])), ?_, ?_, ?_⟩
          · rw [← e3, ← e2]; exact ⟨by simp (disch := omega) only [Store.set_ne, Store.set_get], by simp (disch := omega) only [Store.set_ne, u2], by simp (disch := omega) only [Store.set_ne, u3], h_, subx_new ho2 (subx_new ho2 (subx_in (.head _) (subx_in (.head _) u5)))⟩
          · exact cv_
          · exact Store.Wk.refl _
        refine dR_store o_ (by rfl) (by rfl) (by rfl) v_ v_ h_ g_ rfl g_ c_ (by rfl) le_ v_ ?_
        refine dR_T o_ (by rfl) (by rfl) (AOp_val v_ ?_)
        (refine dR_S o_ (by rfl) (by rfl) v_ ?_)
        refine dR_store o_ (by rfl) (by rfl) (by rfl) v_ v_ h_ g_ rfl g_ c_ (by rfl) le_ v_ ?_
        refine dR_nil ?_
        refine ⟨((((υ.set o (rdO (rdText x1.2).2)).set o (rdO (rdNum (rdText x1.2).2 1).2)).set o2 (.cells [vStr (B (rdText x).1), vInt x1.1, vStr (B (rdText x1.2).1), .lit (.bool false), .lit (.int .i64 0)])).set o2 (.cells [vStr (B (rdText x).1), vInt x1.1, vStr (B (rdText x1.2).1), .lit (.bool (!decide ((rdNum (rdText x1.2).2 1).1 = 0))), .lit (.int .i64 0)])), ?_, ?_, ?_⟩
        · rw [← e3, ← e2]; exact ⟨by simp (disch := omega) only [Store.set_ne, Store.set_get], by simp (disch := omega) only [Store.set_ne, u2], by simp (disch := omega) only [Store.set_ne, u3], h_, subx_new ho2 (subx_new ho2 (subx_in (.head _) (subx_in (.head _) u5)))⟩
        · exact cv_
        · exact Store.Wk.refl _
      refine dR_T o_ (by rfl) (by rfl) (AOp_val v_ ?_)
      refine dR_T o_ (by rfl) (by rfl) (AOp_val v_ ?_)
      refine dR_T o_ (by rfl) (by rfl) (AOp_use (by rfl) (by rfl) (.inr ⟨by rfl, by rfl, by rfl⟩) g_ va_ (rdText_c (x := x1.2) (by simp (disch := omega) only [Store.set_ne, u1])) ?_); rintro _ _ ⟨rfl, rfl⟩
      (refine dR_S o_ (by rfl) (by rfl) v_ ?_)
      refine dR_T o_ (by rfl) (by rfl) (AOp_use (by rfl) (by rfl) (.inr ⟨by rfl, by rfl, by rfl⟩) g_ va_ (rdByte_c (Store.set_get ..)) ?_); rintro _ _ ⟨rfl, rfl⟩
      refine dR_alt ?_ ?_
      · refine dR_T o_ (by rfl) (by rfl) (AOp_val v_ ?_)
        refine dR_store o_ (by rfl) (by rfl) (by rfl) v_ v_ h_ g_ rfl g_ c_ (by rfl) le_ v_ ?_
        (refine dR_S o_ (by rfl) (by rfl) v_ ?_)
        refine dR_store o_ (by rfl) (by rfl) (by rfl) v_ v_ h_ g_ rfl g_ c_ (by rfl) le_ v_ ?_
        refine dR_nil ?_
        refine ⟨((((υ.set o (rdO (rdText x1.2).2)).set o (rdO (rdNum (rdText x1.2).2 1).2)).set o2 (.cells [vStr (B (rdText x).1), vInt x1.1, vStr (B (rdText x1.2).1), .lit (.bool false), .lit (.int .i64 0)])).set o2 (.cells [vStr (B (rdText x).1), vInt x1.1, vStr (B (rdText x1.2).1), .lit (.bool (!decide ((rdNum (rdText x1.2).2 1).1 = 0))), .lit (.int .i64 0)])), ?_, ?_, ?_⟩
        · rw [← e3, ← e2]; exact ⟨by simp (disch := omega) only [Store.set_ne, Store.set_get], by simp (disch := omega) only [Store.set_ne, u2], by simp (disch := omega) only [Store.set_ne, u3], h_, subx_new ho2 (subx_new ho2 (subx_in (.head _) (subx_in (.head _) u5)))⟩
        · exact cv_
        · exact Store.Wk.refl _
      refine dR_store o_ (by rfl) (by rfl) (by rfl) v_ v_ h_ g_ rfl g_ c_ (by rfl) le_ v_ ?_
      refine dR_T o_ (by rfl) (by rfl) (AOp_val v_ ?_)
      (refine dR_S o_ (by rfl) (by rfl) v_ ?_)
      refine dR_store o_ (by rfl) (by rfl) (by rfl) v_ v_ h_ g_ rfl g_ c_ (by rfl) le_ v_ ?_
      refine dR_nil ?_
      refine ⟨((((υ.set o (rdO (rdText x1.2).2)).set o (rdO (rdNum (rdText x1.2).2 1).2)).set o2 (.cells [vStr (B (rdText x).1), vInt x1.1, vStr (B (rdText x1.2).1), .lit (.bool false), .lit (.int .i64 0)])).set o2 (.cells [vStr (B (rdText x).1), vInt x1.1, vStr (B (rdText x1.2).1), .lit (.bool (!decide ((rdNum (rdText x1.2).2 1).1 = 0))), .lit (.int .i64 0)])), ?_, ?_, ?_⟩
      · rw [← e3, ← e2]; exact ⟨by simp (disch := omega) only [Store.set_ne, Store.set_get], by simp (disch := omega) only [Store.set_ne, u2], by simp (disch := omega) only [Store.set_ne, u3], h_, subx_new ho2 (subx_new ho2 (subx_in (.head _) (subx_in (.head _) u5)))⟩
      · exact cv_
      · exact Store.Wk.refl _
    · rintro φ ⟨q1, q2, q3, q4, q5⟩
      simp only [envL_cons, envL_nil]
      refine awp_seq ?_
      have R := And.intro q2 q4
      refine awp_region (by kernel_rfl) ?_
      (refine aL_S rfl rfl v_ ?_)
      refine aL_X rfl rfl (AOp_use rfl rfl (.inr ⟨rfl, rfl, rfl⟩) g_ va_ (rdInt_c (x := x3.2) q1) ?_); rintro _ _ ⟨rfl, rfl⟩
      (refine aL_S rfl rfl v_ ?_)
      refine aL_store rfl rfl rfl v_ v_ h_ g_ rfl g_ c_ (by rfl) le_ v_ ?_
      refine aL_nil ?_
      refine awp_seq ?_
      have q3' : φ.heap o1 = some (.cells [.lit (.string ⟨#[]⟩), .lit (.int .i64 0), .lit (.string ⟨#[]⟩), .lit (.bool false), .lit (.int .i64 0)]) := by rw [q3, hz]
      have R := And.intro q3' q4
      refine awp_region (by kernel_rfl) ?_
      (refine aL_S rfl rfl v_ ?_)
      refine aL_store rfl rfl rfl v_ v_ h_ g_ rfl g_ c_ (by rfl) le_ v_ ?_
      refine aL_nil ?_
      refine awp_ret ?_
      refine aEnd_ret v_ (Store.Wk.refl _) ?_
      refine ⟨by rw [← e1] at e2; subst e2; subst e1; subst e3; rfl, by simp (disch := omega) only [Store.set_ne, Store.set_get]; rw [← e3, ← e2, ← e1]; rfl, subx_new ho1 (subx_new ho2 (subx_in (.head _) q5))⟩

theorem readObj_c {o : Nat} {x : Rd} {σ : Store} (ho : σ.heap o = some (rdO x)) : ACalls Tryz.prog 173 [.ref o 0] σ fun v σ' => v = sObj (rdObj x).1 ∧ σ'.heap o = some (rdO (rdObj x).2) ∧ SubX [o] σ σ' := by
  refine ACalls_of Tryz.func173 rfl Tryz.ntmps173 (congrArg Array.toList Tryz.results173) (by simp only [List.length_cons, List.length_nil]; decide) ?_; simp only [envOf_cons, envOf_nil, Nat.reduceAdd]
  refine awp_seq ?_
  refine awp_region (by kernel_rfl) ?_
  refine aL_box rfl rfl rfl v_ rfl g_ fun o1 ho1 => ?_
  repeat (rw [none_set_iff] at ho1; obtain ⟨_, ho1⟩ := ho1)
  refine aL_alloc rfl rfl rfl g_ gl_ fun o2 ho2 => ?_
  repeat (rw [none_set_iff] at ho2; obtain ⟨_, ho2⟩ := ho2)
  refine aL_nil ?_
  have n1 := ne_of_heap ho ho1
  have n2 := ne_of_heap ho ho2
  refine awp_seq ?_
  have R := ho
  refine awp_region (by kernel_rfl) ?_
  (refine aL_S rfl rfl v_ ?_)
  refine aL_X rfl rfl (AOp_use rfl rfl (.inr ⟨rfl, rfl, rfl⟩) g_ va_ (readCtx_c (x := x) h_) ?_); rintro _ υ ⟨rfl, u1, u2⟩
  have k1 := keep (i := o1) (x := .cells [.ref o 0]) u2 h_ (by simp; omega)
  have k2 := keep (i := o2) (x := .cells [.lit (.slice none 0 0), .lit (.slice none 0 0)]) u2 h_ (by simp; omega)
  have R := And.intro k1 k2
  (refine aL_S rfl rfl v_ ?_)
  refine aL_alloc rfl rfl rfl g_ gl_ fun o3 ho3 => ?_
  repeat (rw [none_set_iff] at ho3; obtain ⟨_, ho3⟩ := ho3)
  refine aL_store rfl rfl rfl v_ v_ h_ g_ rfl g_ c_ (by rfl) le_ v_ ?_
  refine aL_nil ?_
  have m1 := ne_of_heap k1 ho3
  have m2 := ne_of_heap k2 ho3
  have m3 := ne_of_heap u1 ho3
  refine awp_seq ?_
  have R := And.intro k1 (And.intro k2 u1)
  refine awp_region (by kernel_rfl) ?_
  iterate 2 (refine aL_S rfl rfl v_ ?_)
  refine aL_X rfl rfl (AOp_use rfl rfl (.inr ⟨rfl, rfl, rfl⟩) g_ va_ (sevSib_c (x := (rdCtx x).2) (f := rdSib) (fun τ => τ.heap o1 = some (.cells [.ref o 0])) (by kernel_rfl) (fun _ _ h k => keep k h (by simp; omega)) h_ h_ (fun _ _ h k => readSib_c h k)) ?_); rintro _ φ ⟨rfl, q1, q2⟩
  have l1 := keep (i := o1) (x := .cells [.ref o 0]) q2 h_ (by simp; omega)
  have l2 := keep (i := o2) (x := .cells [.lit (.slice none 0 0), .lit (.slice none 0 0)]) q2 h_ (by simp; omega)
  have l3 := keep (i := o3) (x := .cells [.sl 3 ((rdCtx x).1.map sSeen) false, .lit (.slice none 0 0)]) q2 h_ (by simp; omega)
  have R := l3
  (refine aL_S rfl rfl v_ ?_)
  refine aL_store rfl rfl rfl v_ v_ h_ g_ rfl g_ c_ (by rfl) le_ v_ ?_
  refine aL_nil ?_
  refine awp_seq ?_
  refine awp_seq ?_
  have hs0 : SubX [o] σ φ := SubX.trans (SubX.trans (subx_new ho2 (subx_new ho1 subx_refl)) u2) (SubX.trans (subx_new ho3 (subx_new ho3 subx_refl)) q2)
  have hn3 : σ.heap o3 = none := by
    cases hh : σ.heap o3 with
    | none => rfl
    | some y =>
      have h1 : ((σ.set o1 (.cells [.ref o 0])).set o2 (.cells [.lit (.slice none 0 0), .lit (.slice none 0 0)])).heap o3 = some y := by simp (disch := omega) only [Store.set_ne, hh]
      have := u2.1 o3 y (by simp; omega) h1
      rw [ho3] at this; cases this
  have R := l1
  refine awp_region (by kernel_rfl) ?_
  have hr : rdObj x = if (rdSev rdSib (rdCtx x).2).2.2 then (⟨(rdCtx x).1, (rdSev rdSib (rdCtx x).2).1⟩, (rdSev rdSib (rdCtx x).2).2) else (⟨[], []⟩, (rdSev rdSib (rdCtx x).2).2) := rfl
  (refine aL_S rfl rfl v_ ?_)
  refine aL_X rfl rfl (AOp_use rfl rfl (.inr ⟨rfl, rfl, rfl⟩) g_ va_ (bad_x (x := (rdSev rdSib (rdCtx x).2).2) (by simp (disch := omega) only [Store.set_ne, q1])) ?_); rintro _ _ ⟨rfl, rfl⟩
  refine aL_nil ?_
  refine awp_cond v_ (fun hc3 => ?_) (fun hc3 => ?_)
  · replace hc3 := nm_ hc3
    refine awp_seq ?_
    have R := And.intro l2 l3
    refine awp_region (by kernel_rfl) ?_
    (refine aL_S rfl rfl v_ ?_)
    refine aL_store rfl rfl rfl v_ v_ h_ g_ rfl g_ c_ (by rfl) le_ v_ ?_
    refine aL_nil ?_
    refine awp_ret ?_
    rw [hc3] at hr
    have hr1 : rdObj x = (⟨[], []⟩, (rdSev rdSib (rdCtx x).2).2) := by rw [hr]; rfl
    rw [hr1]
    exact aEnd_retW (v := sObj ⟨[], []⟩) (v' := .agg [.lit (.slice none 0 0), .lit (.slice none 0 0)]) va_ (.agg _ _ rfl (fun i hi hi' => by match i, hi with | 0, _ => exact .nil _ _ | 1, _ => exact .nil _ _)) (Store.Wk.refl _) ⟨rfl, by simp (disch := omega) only [Store.set_ne, q1], subx_new ho2 (subx_new hn3 hs0)⟩
  · replace hc3 := nm_ hc3
    refine awp_skip ?_
    refine awp_seq ?_
    have R := And.intro l2 l3
    refine awp_region (by kernel_rfl) ?_
    (refine aL_S rfl rfl v_ ?_)
    refine aL_store rfl rfl rfl v_ v_ h_ g_ rfl g_ c_ (by rfl) le_ v_ ?_
    refine aL_nil ?_
    refine awp_ret ?_
    rw [hc3] at hr
    have hr1 : rdObj x = (⟨(rdCtx x).1, (rdSev rdSib (rdCtx x).2).1⟩, (rdSev rdSib (rdCtx x).2).2) := by rw [hr]; rfl
    rw [hr1]
    exact aEnd_ret va_ (Store.Wk.refl _) ⟨rfl, by simp (disch := omega) only [Store.set_ne, q1], subx_new ho2 (subx_new hn3 hs0)⟩
end Go.Proofs.YtbcgkbdacijoiaaGreat
end

section
set_option linter.all false
set_option maxRecDepth 100000
namespace Go.Proofs.YtbcgkbdacijoiaaGreat
open Go.Ab

abbrev rfO (x : Rd) : AObj := .cells [vStr (B x.1), vBool (!x.2)]

theorem rtake_c {o n : Nat} {s : List UInt8} {g : Bool} {σ : Store} (ho : σ.heap o = some (.cells [vStr (B s), vBool (!g)])) : ACalls Tryz.prog 179 [.ref o 0, vInt n] σ fun v σ' => v = .tup [vStr (B (rdTake (s, g) n).1), vBool (rdTake (s, g) n).2.2] ∧ σ' = σ.set o (rfO (rdTake (s, g) n).2) := by
  refine ACalls_of Tryz.func179 rfl Tryz.ntmps179 (congrArg Array.toList Tryz.results179) (by simp only [List.length_cons, List.length_nil]; decide) ?_; simp only [envOf_cons, envOf_nil, Nat.reduceAdd]
  refine awp_seq ?_
  have R := And.intro ho B_size
  refine awp_region (by kernel_rfl) ?_
  iterate 2 (refine aL_S rfl rfl v_ ?_)
  refine aL_nil ?_
  refine awp_seq ?_
  refine awp_seq ?_
  have R := And.intro ho B_size
  refine awp_region (by kernel_rfl) ?_
  iterate 5 (refine aL_S rfl rfl v_ ?_)
  refine aL_GF rfl rfl v_ rfl vg_ ?_
  refine aL_GF rfl rfl v_ rfl vg_ ?_
  refine aL_GF rfl rfl v_ rfl vg_ ?_
  refine aL_GF rfl rfl v_ rfl vg_ ?_
  refine aL_GF rfl rfl v_ rfl vg_ ?_
  refine aL_GF rfl rfl v_ rfl vg_ ?_
  refine aL_GF rfl rfl v_ rfl vg_ ?_
  (refine aL_S rfl rfl v_ ?_)
  refine aL_nil ?_
  refine awp_cond v_ (fun hc1 => ?_) (fun hc1 => ?_)
  · replace hc1 := nm_ hc1
    refine awp_seq ?_
    have R := And.intro ho B_size
    refine awp_region (by kernel_rfl) ?_
    iterate 3 (refine aL_S rfl rfl v_ ?_)
    refine aL_store rfl rfl rfl v_ v_ h_ g_ rfl g_ c_ (by rfl) le_ v_ ?_
    refine aL_nil ?_
    refine awp_seq ?_
    have R := And.intro ho B_size
    refine awp_region (by kernel_rfl) ?_
    iterate 2 (refine aL_S rfl rfl v_ ?_)
    refine aL_nil ?_
    refine awp_ret ?_
    refine aEnd_ret v_ (Store.Wk.refl _) ?_
    rw [rdTake_no (by rcases hc1 with h | h; exact .inl (by simpa using h); exact .inr (by simpa using h))]; exact ⟨rfl, rfl⟩
  · replace hc1 := nm_ hc1
    refine awp_skip ?_
    refine awp_seq ?_
    have R := And.intro ho B_size
    refine awp_region (by kernel_rfl) ?_
    iterate 7 (refine aL_S rfl rfl v_ ?_)
    refine aL_nil ?_
    refine awp_seq ?_
    have R := And.intro ho B_size
    refine awp_region (by kernel_rfl) ?_
    iterate 9 (refine aL_S rfl rfl v_ ?_)
    refine aL_store rfl rfl rfl v_ v_ h_ g_ rfl g_ c_ (by rfl) le_ v_ ?_
    refine aL_nil ?_
    refine awp_seq ?_
    have R := And.intro ho B_size
    refine awp_region (by kernel_rfl) ?_
    iterate 3 (refine aL_S rfl rfl v_ ?_)
    refine aL_nil ?_
    refine awp_ret ?_
    refine aEnd_ret v_ (Store.Wk.refl _) ?_
    have hg : g = true := by simpa using hc1.1
    rw [rdTake_yes hg (by simpa using hc1.2), hg]
    refine ⟨by rw [extract_B, Lb_B]; rfl, ?_⟩
    rw [extract_B, Lb_B, List.take_length]
theorem rtake_x {o n : Nat} {x : Rd} {σ : Store} (ho : σ.heap o = some (rfO x)) : ACalls Tryz.prog 179 [.ref o 0, vInt n] σ fun v σ' => v = .tup [vStr (B (rdTake x n).1), vBool (rdTake x n).2.2] ∧ σ' = σ.set o (rfO (rdTake x n).2) := rtake_c ho

theorem getq_B {l : List UInt8} {k : Nat} {c : UInt8} (h : l[k]? = some c) : (B l)[k]? = some c := by
  obtain ⟨hk, rfl⟩ := List.getElem?_eq_some_iff.1 h
  have hs : k < (B l).size := by rw [B_size]; exact hk
  rw [getElem?_pos (B l) k hs]
  congr 1

theorem rnumber_c {r : List UInt8} {σ : Store} (hl : r.length ≤ 1099511627776) : ACalls Tryz.prog 180 [vStr (B r)] σ fun v σ' => v = vInt (rdI r) ∧ σ = σ' := by
  refine ACalls_of Tryz.func180 rfl Tryz.ntmps180 (congrArg Array.toList Tryz.results180) (by simp only [List.length_cons, List.length_nil]; decide) ?_; simp only [envOf_cons, envOf_nil, Nat.reduceAdd]
  refine awp_seq ?_
  refine awp_region (by kernel_rfl) ?_
  (refine aL_S rfl rfl v_ ?_)
  refine aL_nil ?_
  refine awp_seq ?_
  refine awp_region (by kernel_rfl) ?_
  (refine aL_S rfl rfl v_ ?_)
  refine aL_nil ?_
  refine awp_seq ?_
  refine awp_seq ?_
  refine awp_region (by kernel_rfl) ?_
  (refine aL_S rfl rfl v_ ?_)
  refine aL_nil ?_
  refine awp_block ?_
  refine awp_loop_env (ι := Nat) (fun k => r.length - k) (fun k => k ≤ r.length) (fun k => [(0, vStr (B r)), (3, vInt (rdI (r.take k))), (4, vInt k)]) (fun k => σ) 0 ?_ ?_ ?_ ?_
  · exact Nat.zero_le _
  · exact cv_
  · exact sub_
  rintro k hk
  simp only [envL_cons, envL_nil]
  refine awp_seq ?_
  refine awp_seq ?_
  have R := B_size
  refine awp_region (by kernel_rfl) ?_
  iterate 4 (refine aL_S rfl rfl v_ ?_)
  refine aL_nil ?_
  refine awp_cond v_ (fun hc3 => ?_) (fun hc3 => ?_)
  · replace hc3 := nm_ hc3
    refine awp_skip ?_
    refine awp_seq ?_
    refine awp_block ?_
    obtain ⟨c, hc⟩ : ∃ c, r[k]? = some c := ⟨r[k]'(by omega), List.getElem?_eq_getElem _⟩
    have hb2 := getq_B hc
    have hlt : c.toNat < 256 := c.toNat_lt
    have hst : bOr .i64 (IntKind.i64.wrap (rdI (r.take k) * 2 ^ 8)) (c.toNat : Int) = rdI (r.take (k + 1)) := by rw [take_snoc hc]; exact rdI_snoc _ _
    have R := And.intro B_size hb2
    refine awp_region (by kernel_rfl) ?_
    iterate 8 (refine aL_S rfl rfl v_ ?_)
    refine aL_nil ?_
    refine awp_region (by kernel_rfl) ?_
    iterate 3 (refine aL_S rfl rfl v_ ?_)
    refine aL_nil ?_
    refine aNext (ι := Nat) (i := k) (k + 1) ?_ ?_ ?_ ?_
    · omega
    · omega
    · have R := hst; exact cv_
    · exact sub_
  · replace hc3 := nm_ hc3
    refine awp_exit ?_
    refine aThen_exit ?_
    refine aThen_exit ?_
    refine aBlock_hit ?_
    refine awp_seq ?_
    refine awp_region (by kernel_rfl) ?_
    iterate 2 (refine aL_S rfl rfl v_ ?_)
    refine aL_nil ?_
    refine awp_ret ?_
    refine aEnd_ret (σ' := σ) v_ sub_ ?_
    rw [List.take_of_length_le (by omega)]
    exact ⟨rfl, rfl⟩
theorem rfByte_c {o : Nat} {x : Rd} {σ : Store} (ho : σ.heap o = some (rfO x)) : ACalls Tryz.prog 93 [.ref o 0] σ fun v σ' => v = vInt (rdNum x 1).1 ∧ σ' = σ.set o (rfO (rdNum x 1).2) := by
  refine ACalls_of Tryz.func93 rfl Tryz.ntmps93 (congrArg Array.toList Tryz.results93) (by simp only [List.length_cons, List.length_nil]; decide) ?_; simp only [envOf_cons, envOf_nil, Nat.reduceAdd]
  refine awp_seq ?_
  refine awp_region (by kernel_rfl) ?_
  (refine aL_S rfl rfl v_ ?_)
  refine aL_nil ?_
  refine awp_seq ?_
  refine awp_region (by kernel_rfl) ?_
  (refine aL_S rfl rfl v_ ?_)
  refine aL_X rfl rfl (AOp_use rfl rfl (.inr ⟨rfl, rfl, rfl⟩) g_ va_ (rtake_x (n := 1) ho) ?_); rintro _ _ ⟨rfl, rfl⟩
  iterate 5 (refine aL_S rfl rfl v_ ?_)
  refine aL_nil ?_
  refine awp_seq ?_
  refine awp_region (by kernel_rfl) ?_
  (refine aL_S rfl rfl v_ ?_)
  refine aL_X rfl rfl (AOp_use rfl rfl (.inr ⟨rfl, rfl, rfl⟩) g_ va_ (rnumber_c (Nat.le_trans rdTake_len (by decide))) ?_); rintro _ _ ⟨rfl, rfl⟩
  (refine aL_S rfl rfl v_ ?_)
  refine aL_nil ?_
  refine awp_ret ?_
  refine aEnd_ret v_ (Store.Wk.refl _) ?_
  exact ⟨rfl, rfl⟩
theorem rfInt_c {o : Nat} {x : Rd} {σ : Store} (ho : σ.heap o = some (rfO x)) : ACalls Tryz.prog 98 [.ref o 0] σ fun v σ' => v = vInt (rdNum x 8).1 ∧ σ' = σ.set o (rfO (rdNum x 8).2) := by
  refine ACalls_of Tryz.func98 rfl Tryz.ntmps98 (congrArg Array.toList Tryz.results98) (by simp only [List.length_cons, List.length_nil]; decide) ?_; simp only [envOf_cons, envOf_nil, Nat.reduceAdd]
  refine awp_seq ?_
  refine awp_region (by kernel_rfl) ?_
  (refine aL_S rfl rfl v_ ?_)
  refine aL_nil ?_
  refine awp_seq ?_
  refine awp_region (by kernel_rfl) ?_
  (refine aL_S rfl rfl v_ ?_)
  refine aL_X rfl rfl (AOp_use rfl rfl (.inr ⟨rfl, rfl, rfl⟩) g_ va_ (rtake_x (n := 8) ho) ?_); rintro _ _ ⟨rfl, rfl⟩
  iterate 5 (refine aL_S rfl rfl v_ ?_)
  refine aL_nil ?_
  refine awp_seq ?_
  refine awp_region (by kernel_rfl) ?_
  (refine aL_S rfl rfl v_ ?_)
  refine aL_X rfl rfl (AOp_use rfl rfl (.inr ⟨rfl, rfl, rfl⟩) g_ va_ (rnumber_c (Nat.le_trans rdTake_len (by decide))) ?_); rintro _ _ ⟨rfl, rfl⟩
  (refine aL_S rfl rfl v_ ?_)
  refine aL_nil ?_
  refine awp_ret ?_
  refine aEnd_ret v_ (Store.Wk.refl _) ?_
  exact ⟨rfl, rfl⟩
theorem rfCount_c {o m : Nat} {x : Rd} {σ : Store} (ho : σ.heap o = some (rfO x)) : ACalls Tryz.prog 181 [.ref o 0, vInt m] σ fun v σ' => v = vInt (rdCnt x m).1 ∧ σ' = σ.set o (rfO (rdCnt x m).2) := by
  have h4 : rdI (rdTake x 4).1 = natB (rdTake x 4).1 := rdNum4 x
  refine ACalls_of Tryz.func181 rfl Tryz.ntmps181 (congrArg Array.toList Tryz.results181) (by simp only [List.length_cons, List.length_nil]; decide) ?_; simp only [envOf_cons, envOf_nil, Nat.reduceAdd]
  refine awp_seq ?_
  refine awp_region (by kernel_rfl) ?_
  (refine aL_S rfl rfl v_ ?_)
  refine aL_nil ?_
  refine awp_seq ?_
  refine awp_region (by kernel_rfl) ?_
  (refine aL_S rfl rfl v_ ?_)
  refine aL_X rfl rfl (AOp_use rfl rfl (.inr ⟨rfl, rfl, rfl⟩) g_ va_ (rtake_x (n := 4) ho) ?_); rintro _ _ ⟨rfl, rfl⟩
  iterate 5 (refine aL_S rfl rfl v_ ?_)
  refine aL_nil ?_
  refine awp_seq ?_
  have R := h4
  refine awp_region (by kernel_rfl) ?_
  (refine aL_S rfl rfl v_ ?_)
  refine aL_X rfl rfl (AOp_use rfl rfl (.inr ⟨rfl, rfl, rfl⟩) g_ va_ (rnumber_c (Nat.le_trans rdTake_len (by decide))) ?_); rintro _ _ ⟨rfl, rfl⟩
  (refine aL_S rfl rfl v_ ?_)
  refine aL_nil ?_
  refine awp_seq ?_
  refine awp_seq ?_
  have R := h4
  refine awp_region (by kernel_rfl) ?_
  iterate 3 (refine aL_S rfl rfl v_ ?_)
  refine aL_nil ?_
  refine awp_cond v_ (fun hc3 => ?_) (fun hc3 => ?_)
  · replace hc3 := nm_ hc3
    refine awp_seq ?_
    refine awp_region (by kernel_rfl) ?_
    iterate 3 (refine aL_S rfl rfl v_ ?_)
    refine aL_store rfl rfl rfl v_ v_ h_ g_ rfl g_ c_ (by rfl) le_ v_ ?_
    refine aL_nil ?_
    refine awp_seq ?_
    refine awp_region (by kernel_rfl) ?_
    (refine aL_S rfl rfl v_ ?_)
    refine aL_nil ?_
    refine awp_ret ?_
    refine aEnd_ret v_ (Store.Wk.refl _) ?_
    rw [rdCnt, if_pos (by omega), Store.set_set]; exact ⟨rfl, rfl⟩
  · replace hc3 := nm_ hc3
    refine awp_skip ?_
    refine awp_seq ?_
    refine awp_region (by kernel_rfl) ?_
    iterate 2 (refine aL_S rfl rfl v_ ?_)
    refine aL_nil ?_
    refine awp_ret ?_
    refine aEnd_ret v_ (Store.Wk.refl _) ?_
    rw [rdCnt, if_neg (by omega)]; exact ⟨rfl, rfl⟩
theorem rfText_c {o : Nat} {x : Rd} {σ : Store} (ho : σ.heap o = some (rfO x)) : ACalls Tryz.prog 94 [.ref o 0] σ fun v σ' => v = vStr (B (rdText x).1) ∧ σ' = σ.set o (rfO (rdText x).2) := by
  refine ACalls_of Tryz.func94 rfl Tryz.ntmps94 (congrArg Array.toList Tryz.results94) (by simp only [List.length_cons, List.length_nil]; decide) ?_; simp only [envOf_cons, envOf_nil, Nat.reduceAdd]
  refine awp_seq ?_
  refine awp_region (by kernel_rfl) ?_
  (refine aL_S rfl rfl v_ ?_)
  refine aL_nil ?_
  refine awp_seq ?_
  refine awp_region (by kernel_rfl) ?_
  (refine aL_S rfl rfl v_ ?_)
  refine aL_X rfl rfl (AOp_use rfl rfl (.inr ⟨rfl, rfl, rfl⟩) g_ va_ (rfCount_c (m := 1048576) ho) ?_); rintro _ _ ⟨rfl, rfl⟩
  (refine aL_S rfl rfl v_ ?_)
  refine aL_nil ?_
  refine awp_seq ?_
  refine awp_region (by kernel_rfl) ?_
  iterate 2 (refine aL_S rfl rfl v_ ?_)
  refine aL_X rfl rfl (AOp_use rfl rfl (.inr ⟨rfl, rfl, rfl⟩) g_ va_ (rtake_x (Store.set_get ..)) ?_); rintro _ _ ⟨rfl, rfl⟩
  iterate 5 (refine aL_S rfl rfl v_ ?_)
  refine aL_nil ?_
  refine awp_seq ?_
  refine awp_region (by kernel_rfl) ?_
  iterate 2 (refine aL_S rfl rfl v_ ?_)
  refine aL_nil ?_
  refine awp_ret ?_
  refine aEnd_ret v_ (Store.Wk.refl _) ?_
  rw [Store.set_set]; exact ⟨rfl, rfl⟩
theorem rfDone_c {o : Nat} {x : Rd} {σ : Store} (ho : σ.heap o = some (rfO x)) : ACalls Tryz.prog 99 [.ref o 0] σ fun v σ' => v = vBool (x.2 && decide (x.1 = [])) ∧ σ = σ' := by
  obtain ⟨s, g⟩ := x
  have he : (B s = ⟨#[]⟩) ↔ s = [] := by rw [show (⟨#[]⟩ : ByteArray) = B [] from rfl, B_eq_iff]
  refine ACalls_of Tryz.func99 rfl Tryz.ntmps99 (congrArg Array.toList Tryz.results99) (by simp only [List.length_cons, List.length_nil]; decide) ?_; simp only [envOf_cons, envOf_nil, Nat.reduceAdd]
  refine awp_seq ?_
  have R := And.intro ho he
  refine awp_region (by kernel_rfl) ?_
  (refine aL_S rfl rfl v_ ?_)
  refine aL_nil ?_
  refine awp_seq ?_
  have R := And.intro ho he
  refine awp_region (by kernel_rfl) ?_
  iterate 6 (refine aL_S rfl rfl v_ ?_)
  refine aL_GT rfl rfl v_ rfl vg_ ?_
  refine aL_GT rfl rfl v_ rfl vg_ ?_
  refine aL_GT rfl rfl v_ rfl vg_ ?_
  refine aL_GT rfl rfl v_ rfl vg_ ?_
  refine aL_GT rfl rfl v_ rfl vg_ ?_
  iterate 2 (refine aL_S rfl rfl v_ ?_)
  refine aL_nil ?_
  refine awp_ret ?_
  refine aEnd_ret (σ' := σ) v_ sub_ ?_
  exact ⟨by cases g <;> simp [he], rfl⟩

theorem rfSib_c {o : Nat} {x : Rd} {σ : Store} (ho : σ.heap o = some (rfO x)) : ACalls Tryz.prog 254 [.ref o 0] σ fun v σ' => v = sSib (rdSib x).1 ∧ σ'.heap o = some (rfO (rdSib x).2) ∧ SubX [o] σ σ' := by
  refine ACalls_of Tryz.func254 rfl Tryz.ntmps254 (congrArg Array.toList Tryz.results254) (by simp only [List.length_cons, List.length_nil]; decide) ?_; simp only [envOf_cons, envOf_nil, Nat.reduceAdd]
  refine awp_seq ?_
  refine awp_region (by kernel_rfl) ?_
  refine aL_alloc rfl rfl rfl g_ gl_ fun o2 ho2 => ?_
  repeat (rw [none_set_iff] at ho2; obtain ⟨_, ho2⟩ := ho2)
  refine aL_nil ?_
  have n2 := ne_of_heap ho ho2
  refine awp_seq ?_
  have R := ho
  refine awp_region (by kernel_rfl) ?_
  (refine aL_S rfl rfl v_ ?_)
  refine aL_X rfl rfl (AOp_use rfl rfl (.inr ⟨rfl, rfl, rfl⟩) g_ va_ (rfText_c (x := x) h_) ?_); rintro _ _ ⟨rfl, rfl⟩
  (refine aL_S rfl rfl v_ ?_)
  refine aL_nil ?_
  refine awp_seq ?_
  refine awp_region (by kernel_rfl) ?_
  (refine aL_S rfl rfl v_ ?_)
  refine aL_X rfl rfl (AOp_use rfl rfl (.inr ⟨rfl, rfl, rfl⟩) g_ va_ (rfInt_c (Store.set_get ..)) ?_); rintro _ _ ⟨rfl, rfl⟩
  (refine aL_S rfl rfl v_ ?_)
  refine aL_nil ?_
  refine awp_seq ?_
  refine awp_region (by kernel_rfl) ?_
  (refine aL_S rfl rfl v_ ?_)
  refine aL_X rfl rfl (AOp_use rfl rfl (.inr ⟨rfl, rfl, rfl⟩) g_ va_ (rfText_c (Store.set_get ..)) ?_); rintro _ _ ⟨rfl, rfl⟩
  (refine aL_S rfl rfl v_ ?_)
  refine aL_nil ?_
  refine awp_seq ?_
  refine awp_region (by kernel_rfl) ?_
  (refine aL_S rfl rfl v_ ?_)
  refine aL_X rfl rfl (AOp_use rfl rfl (.inr ⟨rfl, rfl, rfl⟩) g_ va_ (rfByte_c (Store.set_get ..)) ?_); rintro _ _ ⟨rfl, rfl⟩
  iterate 2 (refine aL_S rfl rfl v_ ?_)
  refine aL_nil ?_
  refine awp_seq ?_
  refine awp_region (by kernel_rfl) ?_
  iterate 6 (refine aL_S rfl rfl v_ ?_)
  refine aL_X rfl rfl (AOp_use rfl rfl (.inr ⟨rfl, rfl, rfl⟩) g_ va_ (rfInt_c (Store.set_get ..)) ?_); rintro _ _ ⟨rfl, rfl⟩
  (refine aL_S rfl rfl v_ ?_)
  refine aL_store rfl rfl rfl v_ v_ h_ g_ rfl g_ c_ (by rfl) le_ v_ ?_
  refine aL_nil ?_
  refine awp_ret ?_
  refine aEnd_ret v_ (Store.Wk.refl _) ?_
  exact ⟨rfl, by simp (disch := omega) only [Store.set_ne, Store.set_get]; rfl, sub_⟩
end Go.Proofs.YtbcgkbdacijoiaaGreat
end

section
set_option linter.all false
set_option maxRecDepth 100000
namespace Go.Proofs.YtbcgkbdacijoiaaGreat
open Go.Ab

/-- a slice that is nil, or one's own -/
def NilOwn (σ : Store) (e : TypeId) (sz : Nat) (l : List AVal) (a : AVal) (old : Option Nat) : Prop := (∃ k, a = .own k sz l ∧ σ.tok k = some (e, sz) ∧ old = some k) ∨ (a = .lit (.slice none 0 0) ∧ l = [] ∧ old = none)
theorem NilOwn.wk {σ : Store} {e : TypeId} {sz : Nat} {l : List AVal} {a : AVal} {old : Option Nat} (h : NilOwn σ e sz l a old) : Wk a (.sl sz l false) := by
  rcases h with ⟨k, rfl, _⟩ | ⟨rfl, rfl, _⟩
  · exact .own1 _ _ _
  · exact .nil _ _
theorem NilOwn.of {σ : Store} {e : TypeId} {sz : Nat} {l : List AVal} {a b : AVal} {old : Option Nat} (h : NilOwn σ e sz l a old) (hb : b = a) : NilOwn σ e sz l b old := hb ▸ h

theorem SubX.noObj {l : List Nat} {a b : Store} (h : SubX l a b) {i : Nat} (hi : b.heap i = none) (hl : i ∉ l) : a.heap i = none := by
  cases hh : a.heap i with
  | none => rfl
  | some y => have := h.1 i y hl hh; rw [hi] at this; cases this
theorem tok_keep {σ : Store} {k k' : Nat} {old : Option Nat} {p q : TypeId × Nat} (h : σ.tok k = some p) (hk : σ.tok k' = none) (ho : ∀ j, old = some j → j ≠ k) : (σ.newTok old k' q).tok k = some p := by
  simp only [Store.newTok]
  rw [if_neg (fun hh => by rw [hh, hk] at h; cases h), if_neg (fun hh => ho k hh.symm rfl)]
  exact h
theorem rdMany_done {α : Type} (f : Rd → α × Rd) {n : Nat} {x : Rd} (h : n = 0 ∨ x.2 = false) : rdMany f n x = ([], x) := by
  rcases h with rfl | h
  · rfl
  · exact rdMany_bad f h
theorem rdSev_of {α : Type} {f : Rd → α × Rd} {x z : Rd} {M : List α} (h : rdMany f (rdCnt x 65536).1 (rdCnt x 65536).2 = (M, z)) : rdSev f x = if z.2 then (M, z) else ([], z) := by unfold rdSev; dsimp only; rw [h]

theorem rfCtx_c {o : Nat} {x : Rd} {σ : Store} (ho : σ.heap o = some (rfO x)) : ACalls Tryz.prog 253 [.ref o 0] σ fun v σ' => v = .sl 3 ((rdCtx x).1.map sSeen) false ∧ σ'.heap o = some (rfO (rdCtx x).2) ∧ SubX [o] σ σ' := by
  obtain ⟨N, hN⟩ : ∃ N, (rdCnt x 65536).1 = N := ⟨_, rfl⟩
  obtain ⟨x0, hx0⟩ : ∃ x0, (rdCnt x 65536).2 = x0 := ⟨_, rfl⟩
  have hNb : N ≤ 65536 := by rw [← hN]; exact rdCnt_le _ _
  refine ACalls_of Tryz.func253 rfl Tryz.ntmps253 (congrArg Array.toList Tryz.results253) (by simp only [List.length_cons, List.length_nil]; decide) ?_; simp only [envOf_cons, envOf_nil, Nat.reduceAdd]
  refine awp_seq ?_
  refine awp_region (by kernel_rfl) ?_
  (refine aL_S rfl rfl v_ ?_)
  refine aL_nil ?_
  refine awp_seq ?_
  have R := And.intro hN hx0
  refine awp_region (by kernel_rfl) ?_
  (refine aL_S rfl rfl v_ ?_)
  refine aL_X rfl rfl (AOp_use rfl rfl (.inr ⟨rfl, rfl, rfl⟩) g_ va_ (rfCount_c (m := 65536) ho) ?_); rintro _ _ ⟨rfl, rfl⟩
  (refine aL_S rfl rfl v_ ?_)
  refine aL_nil ?_
  refine awp_seq ?_
  refine awp_region (by kernel_rfl) ?_
  refine aL_nilOwn 119 3 rfl rfl rfl (by rfl) fun k4 hk4 => ?_
  refine aL_nil ?_
  refine awp_seq ?_
  refine awp_seq ?_
  refine awp_region (by kernel_rfl) ?_
  (refine aL_S rfl rfl v_ ?_)
  refine aL_nil ?_
  refine awp_block ?_
  refine awp_loop_env (ι := Store × Nat × List Seen × Rd × Nat) (fun ⟨τ, i, L, y, k⟩ => N - i) (fun ⟨τ, i, L, y, k⟩ => i ≤ N ∧ L.length = i ∧ (y.2 = true → rdMany rdSeen N x0 = (L ++ (rdMany rdSeen (N - i) y).1, (rdMany rdSeen (N - i) y).2)) ∧ (y.2 = false → (rdMany rdSeen N x0).2 = y) ∧ τ.heap o = some (rfO y) ∧ SubX [o] σ τ ∧ τ.tok k = some (119, 3) ∧ σ.tok k = none) (fun ⟨τ, i, L, y, k⟩ => [(0, .ref o 0), (3, vInt N), (4, .own k 3 (L.map sSeen)), (5, vInt i)]) (fun ⟨τ, i, L, y, k⟩ => τ) ((σ.set o (rfO x0)).newTok none k4 (119, 3), 0, [], x0, k4) ?_ ?_ ?_ ?_
  · exact ⟨Nat.zero_le _, rfl, fun _ => rfl, fun h => by rw [rdMany_bad _ h], Store.set_get .., subx_newTok hk4 (by rw [← hx0]; exact SubX.self), Store.newTok_get .., hk4⟩
  · have R := hN; exact cv_
  · rw [hx0]; exact Store.Wk.refl _
  rintro ⟨τ, i, L, y, k⟩ ⟨h1, h2, hg, hb, h3, h4, h5, h6⟩
  simp only [envL_cons, envL_nil]
  refine awp_seq ?_
  refine awp_seq ?_
  have R := h3
  refine awp_region (by kernel_rfl) ?_
  iterate 4 (refine aL_S rfl rfl v_ ?_)
  refine aL_GT rfl rfl v_ rfl vg_ ?_
  refine aL_GT rfl rfl v_ rfl vg_ ?_
  refine aL_GT rfl rfl v_ rfl vg_ ?_
  refine aL_GT rfl rfl v_ rfl vg_ ?_
  refine aL_GT rfl rfl v_ rfl vg_ ?_
  (refine aL_S rfl rfl v_ ?_)
  refine aL_nil ?_
  refine awp_cond v_ (fun hc4 => ?_) (fun hc4 => ?_)
  · replace hc4 := nm_ hc4
    refine awp_skip ?_
    refine awp_seq ?_
    refine awp_block ?_
    refine awp_seq ?_
    have hc := hc4
    obtain ⟨hc4a, hy⟩ := hc4
    obtain ⟨m, hm⟩ : ∃ m, (rdCnt (rdNum (rdText y).2 8).2 65536).1 = m := ⟨_, rfl⟩
    obtain ⟨x1, hx1⟩ : ∃ x1, (rdCnt (rdNum (rdText y).2 8).2 65536).2 = x1 := ⟨_, rfl⟩
    have hmb : m ≤ 65536 := by rw [← hm]; exact rdCnt_le _ _
    refine awp_region (by kernel_rfl) ?_
    (refine aL_S rfl rfl v_ ?_)
    refine aL_X rfl rfl (AOp_use rfl rfl (.inr ⟨rfl, rfl, rfl⟩) g_ va_ (rfText_c h3) ?_); rintro _ _ ⟨rfl, rfl⟩
    (refine aL_S rfl rfl v_ ?_)
    refine aL_X rfl rfl (AOp_use rfl rfl (.inr ⟨rfl, rfl, rfl⟩) g_ va_ (rfInt_c (Store.set_get ..)) ?_); rintro _ _ ⟨rfl, rfl⟩
    (refine aL_S rfl rfl v_ ?_)
    refine aL_alloc rfl rfl rfl g_ gl_ fun o6 ho6 => ?_
    repeat (rw [none_set_iff] at ho6; obtain ⟨_, ho6⟩ := ho6)
    refine aL_store rfl rfl rfl v_ v_ h_ g_ rfl g_ c_ (by rfl) le_ v_ ?_
    refine aL_nil ?_
    have n6 := ne_of_heap h3 ho6
    have s6 := SubX.noObj h4 ho6 (by simp; omega)
    refine awp_seq ?_
    have R := And.intro hm hx1
    refine awp_region (by kernel_rfl) ?_
    (refine aL_S rfl rfl v_ ?_)
    refine aL_X rfl rfl (AOp_use rfl rfl (.inr ⟨rfl, rfl, rfl⟩) g_ va_ (rfCount_c (m := 65536) (x := (rdNum (rdText y).2 8).2) h_) ?_); rintro _ _ ⟨rfl, rfl⟩
    (refine aL_S rfl rfl v_ ?_)
    refine aL_nil ?_
    refine awp_seq ?_
    refine awp_seq ?_
    refine awp_region (by kernel_rfl) ?_
    (refine aL_S rfl rfl v_ ?_)
    refine aL_nil ?_
    refine awp_block ?_
    refine awp_loop_env (ι := Store × Nat × List Int × Rd × AVal × Option Nat) (fun ⟨υ, j, M, z, gm, old⟩ => m - j) (fun ⟨υ, j, M, z, gm, old⟩ => j ≤ m ∧ M.length = j ∧ rdMany rdI8 m x1 = (M ++ (rdMany rdI8 (m - j) z).1, (rdMany rdI8 (m - j) z).2) ∧ υ.heap o = some (rfO z) ∧ υ.heap o6 = some (.cells [vStr (B (rdText y).1), vInt (rdNum (rdText y).2 8).1, gm]) ∧ NilOwn υ 3 1 (M.map vInt) gm old ∧ SubX [o] σ υ ∧ υ.tok k = some (119, 3) ∧ (∀ j, old = some j → σ.tok j = none ∧ j ≠ k)) (fun ⟨υ, j, M, z, gm, old⟩ => [(0, .ref o 0), (3, vInt N), (4, .own k 3 (L.map sSeen)), (5, vInt i), (6, .ref o6 0), (7, vInt m), (8, vInt j)]) (fun ⟨υ, j, M, z, gm, old⟩ => υ) (((((τ.set o (rfO (rdText y).2)).set o (rfO (rdNum (rdText y).2 8).2)).set o6 (.cells [.lit (.string ⟨#[]⟩), .lit (.int .i64 0), .lit (.slice none 0 0)])).set o6 (.cells [vStr (B (rdText y).1), vInt (rdNum (rdText y).2 8).1, .lit (.slice none 0 0)])).set o (rfO x1), 0, [], x1, .lit (.slice none 0 0), none) ?_ ?_ ?_ ?_
    · exact ⟨Nat.zero_le _, rfl, rfl, Store.set_get .., h_, .inr ⟨rfl, rfl, rfl⟩, subx_in (.head _) (subx_new s6 (subx_new s6 (subx_in (.head _) (subx_in (.head _) h4)))), h5, fun j hj => by cases hj⟩
    · have R := hm; exact cv_
    · rw [← hx1]; exact Store.Wk.refl _
    rintro ⟨υ, j, M, z, gm, old⟩ ⟨j1, j2, j3, u1, u2, hno, hu2, htk, hold⟩
    simp only [envL_cons, envL_nil]
    refine awp_seq ?_
    refine awp_seq ?_
    have R := u1
    refine awp_region (by kernel_rfl) ?_
    iterate 4 (refine aL_S rfl rfl v_ ?_)
    refine aL_GT rfl rfl v_ rfl vg_ ?_
    refine aL_GT rfl rfl v_ rfl vg_ ?_
    refine aL_GT rfl rfl v_ rfl vg_ ?_
    refine aL_GT rfl rfl v_ rfl vg_ ?_
    refine aL_GT rfl rfl v_ rfl vg_ ?_
    (refine aL_S rfl rfl v_ ?_)
    refine aL_nil ?_
    refine awp_cond v_ (fun hc9 => ?_) (fun hc9 => ?_)
    · replace hc9 := nm_ hc9
      obtain ⟨hcj, hz⟩ := hc9
      have hmj : m - j = (m - j - 1) + 1 := by omega
      refine awp_skip ?_
      refine awp_seq_mid (ι := Store × Nat) (fun ⟨φ, kk⟩ => φ.heap o = some (rfO (rdI8 z).2) ∧ φ.heap o6 = some (.cells [vStr (B (rdText y).1), vInt (rdNum (rdText y).2 8).1, .own kk 1 ((M ++ [(rdI8 z).1]).map vInt)]) ∧ φ.tok kk = some (3, 1) ∧ SubX [o] σ φ ∧ φ.tok k = some (119, 3) ∧ σ.tok kk = none ∧ υ.tok kk = none) (fun ⟨φ, kk⟩ => [(0, .ref o 0), (3, vInt N), (4, .own k 3 (L.map sSeen)), (5, vInt i), (6, .ref o6 0), (7, vInt m), (8, vInt j)]) (fun ⟨φ, kk⟩ => φ) ?_ ?_
      · refine awp_block ?_
        have R := u2
        refine awp_draw (.op 0 0 (.op 2 0 (.alt 1 2 (.op 3 2 (.op 4 2 (.op 5 2 (.op 6 0 (.op 7 2 .nil))))) (.op 3 2 (.alt 1 2 (.op 4 2 (.op 5 2 (.op 6 0 (.op 7 2 .nil)))) (.op 4 2 (.op 1 2 (.op 5 2 (.op 6 0 (.op 7 2 .nil)))))))))) Tryz.mixed (by kernel_rfl) ?_
        iterate 2 (refine dR_S o_ (by rfl) (by rfl) v_ ?_)
        refine dR_alt ?_ ?_
        · refine dR_T o_ (by rfl) (by rfl) (AOp_val v_ ?_)
          refine dR_T o_ (by rfl) (by rfl) (AOp_use (by rfl) (by rfl) (.inr ⟨by rfl, by rfl, by rfl⟩) g_ va_ (rfInt_c u1) ?_); rintro _ _ ⟨rfl, rfl⟩
          refine dR_T o_ (by rfl) (by rfl) (AOp_buildSlice' (by rfl) g_ g_ (by rfl) (by rfl) h_ c2_ (by decide) ?_)
          refine dR_T o_ (by rfl) (by rfl) (AOp_appendS (by rfl) g_ g_ (NilOwn.of hno va_) (.inl ⟨⟨_, g_⟩, .inl v_, c_⟩) (by simp; omega) fun k47 hk47 => ?_)
          (refine dR_S o_ (by rfl) (by rfl) v_ ?_)
          refine dR_store o_ (by rfl) (by rfl) (by rfl) v_ v_ h_ g_ rfl g_ c_ (by rfl) le_ v_ ?_
          refine dR_nil ?_
          refine ⟨(((υ.set o (rfO (rdNum z 8).2)).newTok old k47 (3, 1)).set o6 (.cells [vStr (B (rdText y).1), vInt (rdNum (rdText y).2 8).1, .own k47 1 (M.map vInt ++ [vInt (rdNum z 8).1])]), k47), ?_, ?_, ?_⟩
          · exact ⟨by simp (disch := omega) only [Store.set_ne, Store.newTok_heap, Store.set_get]; rfl, by rw [Store.set_get, List.map_append]; rfl, by rw [Store.set_tok]; exact Store.newTok_get .., subx_new s6 (SubX.newTok (SubX.trans hu2 SubX.self) (fun j hj => (hold j hj).1) hk47), by rw [Store.set_tok]; exact tok_keep htk hk47 (fun j hj => (hold j hj).2), SubX.noTok hu2 hk47, hk47⟩
          · exact cv_
          · exact Store.Wk.refl _
        refine dR_T o_ (by rfl) (by rfl) (AOp_use (by rfl) (by rfl) (.inr ⟨by rfl, by rfl, by rfl⟩) g_ va_ (rfInt_c u1) ?_); rintro _ _ ⟨rfl, rfl⟩
        refine dR_alt ?_ ?_
        · refine dR_T o_ (by rfl) (by rfl) (AOp_val v_ ?_)
          refine dR_T o_ (by rfl) (by rfl) (AOp_buildSlice' (by rfl) g_ g_ (by rfl) (by rfl) h_ c2_ (by decide) ?_)
          refine dR_T o_ (by rfl) (by rfl) (AOp_appendS (by rfl) g_ g_ (NilOwn.of hno va_) (.inl ⟨⟨_, g_⟩, .inl v_, c_⟩) (by simp; omega) fun k47 hk47 => ?_)
          (refine dR_S o_ (by rfl) (by rfl) v_ ?_)
          refine dR_store o_ (by rfl) (by rfl) (by rfl) v_ v_ h_ g_ rfl g_ c_ (by rfl) le_ v_ ?_
          refine dR_nil ?_
          refine ⟨(((υ.set o (rfO (rdNum z 8).2)).newTok old k47 (3, 1)).set o6 (.cells [vStr (B (rdText y).1), vInt (rdNum (rdText y).2 8).1, .own k47 1 (M.map vInt ++ [vInt (rdNum z 8).1])]), k47), ?_, ?_, ?_⟩
          · exact ⟨by simp (disch := omega) only [Store.set_ne, Store.newTok_heap, Store.set_get]; rfl, by rw [Store.set_get, List.map_append]; rfl, by rw [Store.set_tok]; exact Store.newTok_get .., subx_new s6 (SubX.newTok (SubX.trans hu2 SubX.self) (fun j hj => (hold j hj).1) hk47), by rw [Store.set_tok]; exact tok_keep htk hk47 (fun j hj => (hold j hj).2), SubX.noTok hu2 hk47, hk47⟩
          · exact cv_
          · exact Store.Wk.refl _
        refine dR_T o_ (by rfl) (by rfl) (AOp_buildSlice' (by rfl) g_ g_ (by rfl) (by rfl) h_ c2_ (by decide) ?_)
        refine dR_T o_ (by rfl) (by rfl) (AOp_val v_ ?_)
        refine dR_T o_ (by rfl) (by rfl) (AOp_appendS (by rfl) g_ g_ (NilOwn.of hno va_) (.inl ⟨⟨_, g_⟩, .inl v_, c_⟩) (by simp; omega) fun k47 hk47 => ?_)
        (refine dR_S o_ (by rfl) (by rfl) v_ ?_)
        refine dR_store o_ (by rfl) (by rfl) (by rfl) v_ v_ h_ g_ rfl g_ c_ (by rfl) le_ v_ ?_
        refine dR_nil ?_
        refine ⟨(((υ.set o (rfO (rdNum z 8).2)).newTok old k47 (3, 1)).set o6 (.cells [vStr (B (rdText y).1), vInt (rdNum (rdText y).2 8).1, .own k47 1 (M.map vInt ++ [vInt (rdNum z 8).1])]), k47), ?_, ?_, ?_⟩
        · exact ⟨by simp (disch := omega) only [Store.set_ne, Store.newTok_heap, Store.set_get]; rfl, by rw [Store.set_get, List.map_append]; rfl, by rw [Store.set_tok]; exact Store.newTok_get .., subx_new s6 (SubX.newTok (SubX.trans hu2 SubX.self) (fun j hj => (hold j hj).1) hk47), by rw [Store.set_tok]; exact tok_keep htk hk47 (fun j hj => (hold j hj).2), SubX.noTok hu2 hk47, hk47⟩
        · exact cv_
        · exact Store.Wk.refl _
      · rintro ⟨φ, kk⟩ ⟨f1, f2, f3, f4, f5, f6, f7⟩
        simp only [envL_cons, envL_nil]
        refine awp_region (by kernel_rfl) ?_
        iterate 3 (refine aL_S rfl rfl v_ ?_)
        refine aL_nil ?_
        refine aNext (ι := Store × Nat × List Int × Rd × AVal × Option Nat) (i := ⟨υ, j, M, z, gm, old⟩) (φ, j + 1, M ++ [(rdI8 z).1], (rdI8 z).2, .own kk 1 ((M ++ [(rdI8 z).1]).map vInt), some kk) ?_ ?_ ?_ ?_
        · show m - (j + 1) < m - j; omega
        · exact ⟨by show j + 1 ≤ m; omega, by simp [j2], by rw [j3, hmj, rdMany, hz]; simp [show m - j - 1 = m - (j + 1) by omega], f1, f2, .inl ⟨kk, rfl, f3, rfl⟩, f4, f5, fun j hj => by cases hj; exact ⟨f6, fun hh => by rw [hh, htk] at f7; cases f7⟩⟩
        · exact cv_
        · exact Store.Wk.refl _
    · replace hc9 := nm_ hc9
      refine awp_exit ?_
      refine aThen_exit ?_
      refine aThen_exit ?_
      refine aBlock_hit ?_
      have hz : rdMany rdI8 m x1 = (M, z) := by rw [j3, rdMany_done _ (by rcases hc9 with h | h; exact .inl (by omega); exact .inr h)]; simp
      have hs : rdSev rdI8 (rdNum (rdText y).2 8).2 = if z.2 then (M, z) else ([], z) := rdSev_of (by rw [hm, hx1]; exact hz)
      have hNi : N - i = (N - (i + 1)) + 1 := by omega
      have h0 := hg hy
      rw [hNi, rdMany, hy] at h0
      have hsy : rdSeen y = (⟨B (rdText y).1, (rdNum (rdText y).2 8).1, (rdSev rdI8 (rdNum (rdText y).2 8).2).1⟩, (rdSev rdI8 (rdNum (rdText y).2 8).2).2) := rfl
      have hnew : (z.2 = true → rdMany rdSeen N x0 = (L ++ [⟨B (rdText y).1, (rdNum (rdText y).2 8).1, M⟩] ++ (rdMany rdSeen (N - (i + 1)) z).1, (rdMany rdSeen (N - (i + 1)) z).2)) ∧ (z.2 = false → (rdMany rdSeen N x0).2 = z) := by
        rw [hsy, hs] at h0
        constructor
        · intro h; rw [h] at h0; rw [h0]; simp
        · intro h; rw [h] at h0; rw [h0]; simp [rdMany_bad _ h]
      refine awp_wkCells o6 [vStr (B (rdText y).1), vInt (rdNum (rdText y).2 8).1, .sl 1 (M.map vInt) false] u2 ⟨.refl _, .refl _, hno.wk, trivial⟩ ?_
      have R := htk
      refine awp_region (by kernel_rfl) ?_
      iterate 2 (refine aL_S rfl rfl v_ ?_)
      refine aL_buildSlice rfl rfl rfl g_ g_ rfl rfl h_ c2_ (by decide) ?_
      refine aL_append rfl rfl rfl g_ g_ v_ h_ v_ c_ (by simp; omega) fun k52 hk52 => ?_
      (refine aL_S rfl rfl v_ ?_)
      refine aL_nil ?_
      refine awp_region (by kernel_rfl) ?_
      iterate 3 (refine aL_S rfl rfl v_ ?_)
      refine aL_nil ?_
      refine aNext (ι := Store × Nat × List Seen × Rd × Nat) (i := ⟨τ, i, L, y, k⟩) ((υ.set o6 (.cells [vStr (B (rdText y).1), vInt (rdNum (rdText y).2 8).1, .sl 1 (M.map vInt) false])).newTok (some k) k52 (119, 3), i + 1, L ++ [⟨B (rdText y).1, (rdNum (rdText y).2 8).1, M⟩], z, k52) ?_ ?_ ?_ ?_
      · show N - (i + 1) < N - i; omega
      · exact ⟨by show i + 1 ≤ N; omega, by simp [h2], hnew.1, hnew.2, by simp (disch := omega) only [Store.newTok_heap, Store.set_ne, u1], SubX.newTok (subx_new s6 hu2) (fun j hj => by cases hj; exact h6) hk52, Store.newTok_get .., SubX.noTok (subx_new s6 hu2) hk52⟩
      · exact cv_
      · exact Store.Wk.refl _
  · replace hc4 := nm_ hc4
    refine awp_exit ?_
    refine aThen_exit ?_
    refine aThen_exit ?_
    refine aBlock_hit ?_
    refine awp_seq ?_
    refine awp_seq ?_
    skip
    have hf : rdCtx x = if y.2 then (L, y) else ([], y) := by
      cases hy : y.2 with
      | true =>
        have := hg hy
        rw [rdMany_done (n := N - i) _ (.inl (by rw [hy] at hc4; simp at hc4; omega))] at this
        have h2 := rdSev_of (f := rdSeen) (x := x) (M := L) (z := y) (by rw [hN, hx0, this]; simp)
        rw [hy] at h2; exact h2
      | false =>
        have := hb hy
        have h2 := rdSev_of (f := rdSeen) (x := x) (M := (rdMany rdSeen N x0).1) (z := y) (by rw [hN, hx0, ← this])
        rw [hy] at h2; exact h2
    have R := h3
    refine awp_region (by kernel_rfl) ?_
    iterate 4 (refine aL_S rfl rfl v_ ?_)
    refine aL_nil ?_
    refine awp_cond v_ (fun hc13 => ?_) (fun hc13 => ?_)
    · replace hc13 := nm_ hc13
      refine awp_seq ?_
      refine awp_region (by kernel_rfl) ?_
      (refine aL_S rfl rfl v_ ?_)
      refine aL_nil ?_
      refine awp_ret ?_
      have hy : y.2 = false := by simpa using hc13
      rw [hy] at hf
      exact aEnd_retW (v := .sl 3 ((rdCtx x).1.map sSeen) false) (v' := .lit (.slice none 0 0)) va_ (by rw [hf]; exact .nil _ _) (Store.Wk.refl _) ⟨rfl, by rw [hf]; exact h3, h4⟩
    · replace hc13 := nm_ hc13
      refine awp_skip ?_
      refine awp_seq ?_
      refine awp_region (by kernel_rfl) ?_
      iterate 2 (refine aL_S rfl rfl v_ ?_)
      refine aL_nil ?_
      refine awp_ret ?_
      have hy : y.2 = true := by simpa using hc13
      rw [hy] at hf
      exact aEnd_retW (v := .sl 3 ((rdCtx x).1.map sSeen) false) (v' := .own k 3 (L.map sSeen)) va_ (by rw [hf]; exact .own1 _ _ _) (Store.Wk.refl _) ⟨rfl, by rw [hf]; exact h3, h4⟩

theorem rfObj_c {o : Nat} {x : Rd} {σ : Store} (ho : σ.heap o = some (rfO x)) : ACalls Tryz.prog 182 [.ref o 0] σ fun v σ' => v = sObj (rdObj x).1 ∧ σ'.heap o = some (rfO (rdObj x).2) ∧ SubX [o] σ σ' := by
  obtain ⟨C, hC⟩ : ∃ C, (rdCtx x).1 = C := ⟨_, rfl⟩
  obtain ⟨c2, hc2⟩ : ∃ c2, (rdCtx x).2 = c2 := ⟨_, rfl⟩
  obtain ⟨N, hN⟩ : ∃ N, (rdCnt c2 65536).1 = N := ⟨_, rfl⟩
  obtain ⟨x0, hx0⟩ : ∃ x0, (rdCnt c2 65536).2 = x0 := ⟨_, rfl⟩
  have hNb : N ≤ 65536 := by rw [← hN]; exact rdCnt_le _ _
  refine ACalls_of Tryz.func182 rfl Tryz.ntmps182 (congrArg Array.toList Tryz.results182) (by simp only [List.length_cons, List.length_nil]; decide) ?_; simp only [envOf_cons, envOf_nil, Nat.reduceAdd]
  refine awp_seq ?_
  refine awp_region (by kernel_rfl) ?_
  refine aL_alloc rfl rfl rfl g_ gl_ fun o2 ho2 => ?_
  repeat (rw [none_set_iff] at ho2; obtain ⟨_, ho2⟩ := ho2)
  refine aL_nil ?_
  have n2 := ne_of_heap ho ho2
  refine awp_seq ?_
  have R := ho
  refine awp_region (by kernel_rfl) ?_
  (refine aL_S rfl rfl v_ ?_)
  refine aL_X rfl rfl (AOp_use rfl rfl (.inr ⟨rfl, rfl, rfl⟩) g_ va_ (rfCtx_c (x := x) h_) ?_); rintro _ υ ⟨rfl, u1, u2⟩
  rw [hC]
  rw [hc2] at u1
  have v2 := keep (i := o2) (x := .cells [.lit (.slice none 0 0), .lit (.slice none 0 0)]) u2 h_ (by simp; omega)
  have hu2 : SubX [o] σ υ := SubX.trans (subx_new ho2 subx_refl) u2
  (refine aL_S rfl rfl v_ ?_)
  refine aL_nil ?_
  refine awp_seq ?_
  have R := And.intro hN hx0
  refine awp_region (by kernel_rfl) ?_
  (refine aL_S rfl rfl v_ ?_)
  refine aL_X rfl rfl (AOp_use rfl rfl (.inr ⟨rfl, rfl, rfl⟩) g_ va_ (rfCount_c (m := 65536) u1) ?_); rintro _ _ ⟨rfl, rfl⟩
  (refine aL_S rfl rfl v_ ?_)
  refine aL_nil ?_
  refine awp_seq ?_
  refine awp_region (by kernel_rfl) ?_
  refine aL_nilOwn 102 5 rfl rfl rfl (by rfl) fun k5 hk5 => ?_
  refine aL_nil ?_
  refine awp_seq ?_
  refine awp_seq ?_
  refine awp_region (by kernel_rfl) ?_
  (refine aL_S rfl rfl v_ ?_)
  refine aL_nil ?_
  refine awp_block ?_
  refine awp_loop_env (ι := Store × Nat × List Sib × Rd × Nat) (fun ⟨τ, i, L, y, k⟩ => N - i) (fun ⟨τ, i, L, y, k⟩ => i ≤ N ∧ L.length = i ∧ rdMany rdSib N x0 = (L ++ (rdMany rdSib (N - i) y).1, (rdMany rdSib (N - i) y).2) ∧ τ.heap o = some (rfO y) ∧ SubX [o] σ τ ∧ τ.tok k = some (102, 5) ∧ σ.tok k = none ∧ τ.heap o2 = some (.cells [.lit (.slice none 0 0), .lit (.slice none 0 0)])) (fun ⟨τ, i, L, y, k⟩ => [(0, .ref o 0), (2, .ref o2 0), (3, .sl 3 (C.map sSeen) false), (4, vInt N), (5, .own k 5 (L.map sSib)), (6, vInt i)]) (fun ⟨τ, i, L, y, k⟩ => τ) ((υ.set o (rfO x0)).newTok none k5 (102, 5), 0, [], x0, k5) ?_ ?_ ?_ ?_
  · exact ⟨Nat.zero_le _, rfl, rfl, Store.set_get .., SubX.newTok (SubX.trans hu2 SubX.self) (fun j hj => by cases hj) hk5, Store.newTok_get .., SubX.noTok hu2 hk5, by simp (disch := omega) only [Store.newTok_heap, Store.set_ne, v2]⟩
  · have R := hN; exact cv_
  · rw [hx0]; exact Store.Wk.refl _
  rintro ⟨τ, i, L, y, k⟩ ⟨h1, h2, h7, h3, h4, h5, h6, h8⟩
  simp only [envL_cons, envL_nil]
  refine awp_seq ?_
  refine awp_seq ?_
  have R := h3
  refine awp_region (by kernel_rfl) ?_
  iterate 4 (refine aL_S rfl rfl v_ ?_)
  refine aL_GT rfl rfl v_ rfl vg_ ?_
  refine aL_GT rfl rfl v_ rfl vg_ ?_
  refine aL_GT rfl rfl v_ rfl vg_ ?_
  refine aL_GT rfl rfl v_ rfl vg_ ?_
  refine aL_GT rfl rfl v_ rfl vg_ ?_
  (refine aL_S rfl rfl v_ ?_)
  refine aL_nil ?_
  refine awp_cond v_ (fun hc5 => ?_) (fun hc5 => ?_)
  · replace hc5 := nm_ hc5
    obtain ⟨hcj, hy⟩ := hc5
    have hmi : N - i = (N - i - 1) + 1 := by omega
    refine awp_skip ?_
    refine awp_seq ?_
    refine awp_block ?_
    refine awp_region (by kernel_rfl) ?_
    iterate 2 (refine aL_S rfl rfl v_ ?_)
    refine aL_X rfl rfl (AOp_use rfl rfl (.inr ⟨rfl, rfl, rfl⟩) g_ va_ (rfSib_c h3) ?_); rintro _ φ ⟨rfl, q1, q2⟩
    have R := q2.2 _ _ h5
    have q3 := keep q2 h8 (by simp; omega)
    refine aL_buildSlice rfl rfl rfl g_ g_ rfl rfl h_ c2_ (by decide) ?_
    refine aL_append rfl rfl rfl g_ g_ v_ h_ v_ c_ (by simp; omega) fun k27 hk27 => ?_
    (refine aL_S rfl rfl v_ ?_)
    refine aL_nil ?_
    refine awp_region (by kernel_rfl) ?_
    iterate 3 (refine aL_S rfl rfl v_ ?_)
    refine aL_nil ?_
    refine aNext (ι := Store × Nat × List Sib × Rd × Nat) (i := ⟨τ, i, L, y, k⟩) (φ.newTok (some k) k27 (102, 5), i + 1, L ++ [(rdSib y).1], (rdSib y).2, k27) ?_ ?_ ?_ ?_
    · show N - (i + 1) < N - i; omega
    · exact ⟨by show i + 1 ≤ N; omega, by simp [h2], by rw [h7, hmi, rdMany, hy]; simp [show N - i - 1 = N - (i + 1) by omega], q1, SubX.newTok (SubX.trans h4 q2) (fun j hj => by cases hj; exact h6) hk27, Store.newTok_get .., SubX.noTok (SubX.trans h4 q2) hk27, q3⟩
    · exact cv_
    · exact Store.Wk.refl _
  · replace hc5 := nm_ hc5
    refine awp_exit ?_
    refine aThen_exit ?_
    refine aThen_exit ?_
    refine aBlock_hit ?_
    refine awp_seq ?_
    refine awp_seq ?_
    skip
    have hf : rdSev rdSib c2 = if y.2 then (L, y) else ([], y) := rdSev_of (by rw [hN, hx0, h7, rdMany_done (n := N - i) _ (by rcases hc5 with h | h; exact .inl (by omega); exact .inr h)]; simp)
    have hr : rdObj x = if (rdSev rdSib (rdCtx x).2).2.2 then (⟨(rdCtx x).1, (rdSev rdSib (rdCtx x).2).1⟩, (rdSev rdSib (rdCtx x).2).2) else (⟨[], []⟩, (rdSev rdSib (rdCtx x).2).2) := rfl
    rw [hC, hc2, hf] at hr
    have R := h3
    refine awp_region (by kernel_rfl) ?_
    iterate 4 (refine aL_S rfl rfl v_ ?_)
    refine aL_nil ?_
    refine awp_cond v_ (fun hc8 => ?_) (fun hc8 => ?_)
    · replace hc8 := nm_ hc8
      refine awp_seq ?_
      have R := h8
      refine awp_region (by kernel_rfl) ?_
      (refine aL_S rfl rfl v_ ?_)
      refine aL_store rfl rfl rfl v_ v_ h_ g_ rfl g_ c_ (by rfl) le_ v_ ?_
      refine aL_nil ?_
      refine awp_ret ?_
      have hy : y.2 = false := by simpa using hc8
      rw [hy] at hr
      have hr1 : rdObj x = (⟨[], []⟩, y) := by rw [hr, ← hy]; simp [hy]
      rw [hr1]
      exact aEnd_retW (v := sObj ⟨[], []⟩) (v' := .agg [.lit (.slice none 0 0), .lit (.slice none 0 0)]) va_ (.agg _ _ rfl (fun i hi hi' => by match i, hi with | 0, _ => exact .nil _ _ | 1, _ => exact .nil _ _)) (Store.Wk.refl _) ⟨rfl, by simp (disch := omega) only [Store.set_ne, h3], subx_new ho2 h4⟩
    · replace hc8 := nm_ hc8
      refine awp_skip ?_
      refine awp_seq ?_
      have R := h8
      refine awp_region (by kernel_rfl) ?_
      iterate 3 (refine aL_S rfl rfl v_ ?_)
      refine aL_store rfl rfl rfl v_ v_ h_ g_ rfl g_ c_ (by rfl) le_ v_ ?_
      refine aL_nil ?_
      refine awp_ret ?_
      have hy : y.2 = true := by simpa using hc8
      rw [hy] at hr
      have hr1 : rdObj x = (⟨C, L⟩, y) := by rw [hr]; simp [hy]
      rw [hr1]
      exact aEnd_retW (v := sObj ⟨C, L⟩) (v' := .agg [.sl 3 (C.map sSeen) false, .own k 5 (L.map sSib)]) va_ (.agg _ _ rfl (fun i hi hi' => by match i, hi with | 0, _ => exact .refl _ | 1, _ => exact .own1 _ _ _)) (Store.Wk.refl _) ⟨rfl, by simp (disch := omega) only [Store.set_ne, h3], subx_new ho2 h4⟩
end Go.Proofs.YtbcgkbdacijoiaaGreat
end

section
set_option linter.all false
set_option maxRecDepth 100000
namespace Go.Proofs.YtbcgkbdacijoiaaGreat
open Go.Ab

/-- what a writer's first cell says: it is new, or it has been written to -/
def WA (o : Nat) (a : AVal) : Prop := a = .ref o 0 ∨ a = .nilp o 196 2
/-- a writer that holds bytes -/
def WR (σ : Store) (o : Nat) (l : List UInt8) : Prop := ∃ a b old, σ.heap o = some (.cells [a, b]) ∧ WA o a ∧ NilOwn σ 5 1 (bytesL (B l)) b old
def Hld (σ : Store) (o t : Nat) : Prop := ∃ a sz l, σ.heap o = some (.cells [a, .own t sz l])
/-- nothing but a writer turns -/
def WF (o : Nat) (σ σ' : Store) : Prop := (∀ i x, i ≠ o → σ.heap i = some x → σ'.heap i = some x) ∧ ∀ t n, σ.tok t = some n → ¬ Hld σ o t → σ'.tok t = some n ∧ ¬ Hld σ' o t
theorem WF.refl {o : Nat} {σ : Store} : WF o σ σ := ⟨fun _ _ _ h => h, fun _ _ h k => ⟨h, k⟩⟩
theorem WF.trans {o : Nat} {a b c : Store} (h : WF o a b) (k : WF o b c) : WF o a c :=
  ⟨fun i x hi hx => k.1 i x hi (h.1 i x hi hx), fun t n ht hn => k.2 t n (h.2 t n ht hn).1 (h.2 t n ht hn).2⟩
theorem WF.sub {o : Nat} {σ σ' : Store} {x : AObj} (ho : σ.heap o = none) (h : WF o (σ.set o x) σ') (hx : ∀ a t sz l, x ≠ .cells [a, .own t sz l]) : σ.Sub σ' :=
  ⟨fun i y hy => h.1 i y (fun hh => by rw [hh, ho] at hy; cases hy) (by rw [Store.set_ne _ _ (fun hh => by rw [hh, ho] at hy; cases hy)]; exact hy), fun t n ht => (h.2 t n ht fun ⟨a, sz, l, hh⟩ => by
    rw [Store.set_get] at hh
    exact hx _ _ _ _ (Option.some.inj hh)).1⟩
/-- a byte more, and the rest as it was -/
theorem WF.put {σ : Store} {o k : Nat} {a b c : AVal} {l l' : List AVal} {old : Option Nat} {p : TypeId × Nat} {e : TypeId} {sz sz' : Nat} (ho : σ.heap o = some (.cells [a, b])) (hb : NilOwn σ e sz l b old) (hk : σ.tok k = none) :
    WF o σ ((σ.newTok old k p).set o (.cells [c, .own k sz' l'])) := by
  refine ⟨fun i x hi hx => by rw [Store.set_ne _ _ hi]; exact hx, fun t n ht hn => ?_⟩
  have hkt : t ≠ k := fun hh => by rw [hh, hk] at ht; cases ht
  refine ⟨?_, ?_⟩
  · rw [Store.set_tok]
    simp only [Store.newTok]
    rw [if_neg hkt, if_neg (fun hh => ?_)]
    · exact ht
    · rcases hb with ⟨j, rfl, _, hj⟩ | ⟨rfl, _, hj⟩
      · rw [hj] at hh
        obtain rfl := Option.some.inj hh
        exact hn ⟨_, _, _, ho⟩
      · rw [hj] at hh; cases hh
  · rintro ⟨a', sz2, l2, hh⟩
    rw [Store.set_get] at hh
    simp only [Option.some.injEq, AObj.cells.injEq, List.cons.injEq, AVal.own.injEq, and_true] at hh
    exact hkt hh.2.1.symm

theorem refs_neq {σ : Store} {c : Bool} {o : Nat} : abin Tryz.prog σ .neq 191 c (.ref o 0) (.ref o 0) = some (.lit (.bool false)) := by
  simp only [abin, aeq, go_sem]
theorem copyCheck_1 {o : Nat} {b : AVal} {σ : Store} (ho : σ.heap o = some (.cells [.ref o 0, b])) : ACalls Tryz.prog 290 [.ref o 0] σ fun v σ' => v = .tup [] ∧ σ' = σ.set o (.cells [.ref o 0, b]) := by
  refine ACalls_of Tryz.func290 rfl Tryz.ntmps290 (congrArg Array.toList Tryz.results290) (by simp only [List.length_cons, List.length_nil]; decide) ?_; simp only [envOf_cons, envOf_nil, Nat.reduceAdd]
  refine awp_seq ?_
  have R := And.intro ho @refs_neq
  refine awp_region (by kernel_rfl) ?_
  iterate 5 (refine aL_S rfl rfl v_ ?_)
  refine aL_nil ?_
  refine awp_cond v_ (fun hc0 => ?_) (fun hc0 => ?_)
  · replace hc0 := nm_ hc0
    cases hc0
  · replace hc0 := nm_ hc0
    refine awp_seq ?_
    have R := And.intro ho @refs_neq
    refine awp_region (by kernel_rfl) ?_
    iterate 6 (refine aL_S rfl rfl v_ ?_)
    refine aL_nil ?_
    refine awp_cond v_ (fun hc2 => ?_) (fun hc2 => ?_)
    · replace hc2 := nm_ hc2
      cases hc2
    · replace hc2 := nm_ hc2
      refine awp_skip ?_
      refine aEnd_nor v_ (Store.Wk.refl _) ?_
      exact ⟨rfl, (Store.set_self ho).symm⟩
theorem copyCheck_2 {o : Nat} {b : AVal} {σ : Store} (ho : σ.heap o = some (.cells [.nilp o 196 2, b])) : ACalls Tryz.prog 290 [.ref o 0] σ fun v σ' => v = .tup [] ∧ σ' = σ.set o (.cells [.ref o 0, b]) := by
  refine ACalls_of Tryz.func290 rfl Tryz.ntmps290 (congrArg Array.toList Tryz.results290) (by simp only [List.length_cons, List.length_nil]; decide) ?_; simp only [envOf_cons, envOf_nil, Nat.reduceAdd]
  refine awp_seq ?_
  have R := ho
  refine awp_region (by kernel_rfl) ?_
  iterate 5 (refine aL_S rfl rfl v_ ?_)
  refine aL_nil ?_
  refine awp_cond v_ (fun hc0 => ?_) (fun hc0 => ?_)
  · replace hc0 := nm_ hc0
    have R := ho
    refine awp_region (by kernel_rfl) ?_
    iterate 2 (refine aL_S rfl rfl v_ ?_)
    refine aL_X rfl rfl (AOp_toUnsafe (t := 194) rfl Tryz.underlying191 Tryz.underlying330 (by kernel_rfl) g_ ho (by decide) ?_)
    refine aL_X rfl rfl (AOp_extern rfl (e := Extern.AbiNoEscape.same) (by kernel_rfl) g_ (fun κ ev _ h => same_rv (h _ (by simp))) ?_)
    refine aL_X rfl rfl (AOp_fromUnsafe (u := 194) rfl Tryz.underlying330 Tryz.underlying191 (by kernel_rfl) g_ ho (by kernel_rfl) ?_)
    iterate 2 (refine aL_S rfl rfl v_ ?_)
    refine aL_store rfl rfl rfl v_ v_ h_ g_ rfl g_ c_ (by rfl) le_ v_ ?_
    refine aL_nil ?_
    refine aEnd_nor v_ (Store.Wk.refl _) ?_
    exact ⟨rfl, rfl⟩
  · replace hc0 := nm_ hc0
    cases hc0
theorem copyCheck_c {o : Nat} {a b : AVal} {σ : Store} (ho : σ.heap o = some (.cells [a, b])) (ha : WA o a) : ACalls Tryz.prog 290 [.ref o 0] σ fun v σ' => v = .tup [] ∧ σ' = σ.set o (.cells [.ref o 0, b]) := by
  rcases ha with rfl | rfl
  · exact copyCheck_1 ho
  · exact copyCheck_2 ho

/-- a byte is appended, or a text -/
theorem writeByte_c {o : Nat} {a b : AVal} {σ : Store} {c : UInt8} {l : List UInt8} {old : Option Nat} (ho : σ.heap o = some (.cells [a, b])) (ha : WA o a) (hb : NilOwn σ 5 1 (bytesL (B l)) b old) (hl : l.length ≤ 1099511627776) :
    ACalls Tryz.prog 240 [.ref o 0, .lit (.int .u8 (c.toNat : Int))] σ fun v σ' => ∃ k, v = .lit .nilIface ∧ σ.tok k = none ∧ σ' = (σ.newTok old k (5, 1)).set o (.cells [.ref o 0, .own k 1 (bytesL (B (l ++ [c])))]) := by
  have e1 : bytesL (B (l ++ [c])) = bytesL (B l) ++ [.lit (.int .u8 (c.toNat : Int))] := by rw [bytesL_B, bytesL_B, List.map_append]; rfl
  have hbl : (bytesL (B l)).length = l.length := by rw [bytesL_length, B_size]
  refine ACalls_of Tryz.func240 rfl Tryz.ntmps240 (congrArg Array.toList Tryz.results240) (by simp only [List.length_cons, List.length_nil]; decide) ?_; simp only [envOf_cons, envOf_nil, Nat.reduceAdd]
  refine awp_seq ?_
  refine awp_region (by kernel_rfl) ?_
  (refine aL_S rfl rfl v_ ?_)
  refine aL_nil ?_
  refine awp_seq ?_
  refine awp_region (by kernel_rfl) ?_
  (refine aL_S rfl rfl v_ ?_)
  refine aL_X rfl rfl (AOp_use rfl rfl (.inr ⟨rfl, rfl, rfl⟩) g_ va_ (copyCheck_c ho ha) ?_); rintro _ _ ⟨rfl, rfl⟩
  refine aL_nil ?_
  refine awp_seq ?_
  refine awp_region (by kernel_rfl) ?_
  iterate 6 (refine aL_S rfl rfl v_ ?_)
  refine aL_buildSlice rfl rfl rfl g_ g_ rfl rfl h_ c2_ (by decide) ?_
  refine aL_X rfl rfl (AOp_appendS rfl g_ g_ (NilOwn.of hb va_) (.inl ⟨⟨_, g_⟩, .inl v_, c_⟩) (by simp; omega) fun k14 hk14 => ?_)
  iterate 2 (refine aL_S rfl rfl v_ ?_)
  refine aL_store rfl rfl rfl v_ v_ h_ g_ rfl g_ c_ (by rfl) le_ v_ ?_
  refine aL_nil ?_
  refine awp_seq ?_
  refine awp_region (by kernel_rfl) ?_
  (refine aL_S rfl rfl v_ ?_)
  refine aL_nil ?_
  refine awp_ret ?_
  refine aEnd_ret v_ (Store.Wk.refl _) ?_
  exact ⟨k14, rfl, hk14, by rw [e1, Store.newTok_set, Store.set_set]⟩
theorem writeString_c {o : Nat} {a b : AVal} {σ : Store} {s : ByteArray} {l : List UInt8} {old : Option Nat} (ho : σ.heap o = some (.cells [a, b])) (ha : WA o a) (hb : NilOwn σ 5 1 (bytesL (B l)) b old) (hl : l.length ≤ 1099511627776) (hs : s.size ≤ 1099511627776) :
    ACalls Tryz.prog 235 [.ref o 0, vStr s] σ fun v σ' => ∃ k, v = .tup [vInt s.size, .lit .nilIface] ∧ σ.tok k = none ∧ σ' = (σ.newTok old k (5, 1)).set o (.cells [.ref o 0, .own k 1 (bytesL (B (l ++ Lb s)))]) := by
  have e1 : bytesL (B l) ++ bytesL s = bytesL (B (l ++ Lb s)) := by rw [bytesL_append, ← B_append, B_Lb]
  have hbl : (bytesL (B l)).length = l.length := by rw [bytesL_length, B_size]
  have hsl := bytesL_length s
  refine ACalls_of Tryz.func235 rfl Tryz.ntmps235 (congrArg Array.toList Tryz.results235) (by simp only [List.length_cons, List.length_nil]; decide) ?_; simp only [envOf_cons, envOf_nil, Nat.reduceAdd]
  refine awp_seq ?_
  refine awp_region (by kernel_rfl) ?_
  iterate 2 (refine aL_S rfl rfl v_ ?_)
  refine aL_nil ?_
  refine awp_seq ?_
  refine awp_region (by kernel_rfl) ?_
  (refine aL_S rfl rfl v_ ?_)
  refine aL_X rfl rfl (AOp_use rfl rfl (.inr ⟨rfl, rfl, rfl⟩) g_ va_ (copyCheck_c ho ha) ?_); rintro _ _ ⟨rfl, rfl⟩
  refine aL_nil ?_
  refine awp_seq ?_
  refine awp_region (by kernel_rfl) ?_
  iterate 6 (refine aL_S rfl rfl v_ ?_)
  refine aL_X rfl rfl (AOp_appendS rfl g_ g_ (NilOwn.of hb va_) (ASrc_str g_) (by simp; omega) fun k14 hk14 => ?_); rw [e1]
  iterate 2 (refine aL_S rfl rfl v_ ?_)
  refine aL_store rfl rfl rfl v_ v_ h_ g_ rfl g_ c_ (by rfl) le_ v_ ?_
  refine aL_nil ?_
  refine awp_seq ?_
  refine awp_region (by kernel_rfl) ?_
  iterate 4 (refine aL_S rfl rfl v_ ?_)
  refine aL_nil ?_
  refine awp_ret ?_
  refine aEnd_ret v_ (Store.Wk.refl _) ?_
  exact ⟨k14, rfl, hk14, by rw [Store.newTok_set, Store.set_set]⟩
theorem string_1 {o k : Nat} {s : ByteArray} {σ : Store} {a : AVal} (ho : σ.heap o = some (.cells [a, .own k 1 (bytesL s)])) (hk : σ.tok k = some (5, 1)) (hs : s.size ≤ 1099511627776) : ACalls Tryz.prog 164 [.ref o 0] σ fun v σ' => v = vStr s ∧ σ' = σ.delTok k := by
  have hsl := bytesL_length s
  refine ACalls_of Tryz.func164 rfl Tryz.ntmps164 (congrArg Array.toList Tryz.results164) (by simp only [List.length_cons, List.length_nil]; decide) ?_; simp only [envOf_cons, envOf_nil, Nat.reduceAdd]
  refine awp_seq ?_
  have R := And.intro ho hsl
  refine awp_region (by kernel_rfl) ?_
  (refine aL_S rfl rfl v_ ?_)
  refine aL_nil ?_
  refine awp_seq ?_
  have R := And.intro ho hsl
  refine awp_draw (.op 0 0 (.op 1 0 (.op 2 0 (.op 3 0 (.op 5 0 (.op 6 0 (.op 7 0 (.op 8 0 (.op 9 0 (.op 4 1 (.op 10 2 (.op 11 0 .nil)))))))))))) Tryz.mixed (by kernel_rfl) ?_
  iterate 9 (refine dR_S o_ (by rfl) (by rfl) v_ ?_)
  refine dR_X o_ (by rfl) (by rfl) (AOp_sliceData (by rfl) g_ (.inl ⟨va_, hk⟩) ⟨sub_, ?_⟩)
  refine dR_T o_ (by rfl) (by rfl) (AOp_unsafeString (by rfl) g_ (by kernel_rfl) va_ va_ (.inr hk) (by omega) ?_)
  (refine dR_S o_ (by rfl) (by rfl) v_ ?_)
  refine dR_nil ?_
  refine awp_ret ?_
  refine aEnd_ret v_ (Store.Wk.refl _) ?_
  exact ⟨rfl, rfl⟩
theorem string_2 {o : Nat} {σ : Store} {a : AVal} (ho : σ.heap o = some (.cells [a, .lit (.slice none 0 0)])) : ACalls Tryz.prog 164 [.ref o 0] σ fun v σ' => v = vStr (B []) ∧ σ = σ' := by
  refine ACalls_of Tryz.func164 rfl Tryz.ntmps164 (congrArg Array.toList Tryz.results164) (by simp only [List.length_cons, List.length_nil]; decide) ?_; simp only [envOf_cons, envOf_nil, Nat.reduceAdd]
  refine awp_seq ?_
  have R := ho
  refine awp_region (by kernel_rfl) ?_
  (refine aL_S rfl rfl v_ ?_)
  refine aL_nil ?_
  refine awp_seq ?_
  have R := ho
  refine awp_draw (.op 0 0 (.op 1 0 (.op 2 0 (.op 3 0 (.op 5 0 (.op 6 0 (.op 7 0 (.op 8 0 (.op 9 0 (.op 4 1 (.op 10 2 (.op 11 0 .nil)))))))))))) Tryz.mixed (by kernel_rfl) ?_
  iterate 9 (refine dR_S o_ (by rfl) (by rfl) v_ ?_)
  refine dR_X o_ (by rfl) (by rfl) (AOp_sliceData (k := 0) (l := []) (e0 := 0) (by rfl) g_ (.inr ⟨va_, rfl⟩) ⟨sub_, ?_⟩)
  refine dR_T o_ (by rfl) (by rfl) (AOp_unsafeString0 (by rfl) va_ va_ ?_)
  (refine dR_S o_ (by rfl) (by rfl) v_ ?_)
  refine dR_nil ?_
  refine awp_ret ?_
  refine aEnd_ret (σ' := σ) v_ sub_ ?_
  exact ⟨rfl, rfl⟩

/-! ### the writer -/
theorem fdiv_pow (n : Int) (k : Nat) : n / 2 ^ (8 * k) = n / 256 ^ k := by
  rw [show (256 : Int) = 2 ^ 8 from rfl, ← Int.pow_mul]
theorem take_beI (n : Int) (k j : Nat) (h : j < k) : (beI k n)[j]? = some (byteI (n / 256 ^ (k - 1 - j))) := by
  induction k generalizing j with
  | zero => omega
  | succ k ih =>
    rw [beI]
    cases j with
    | zero => simp
    | succ j => rw [List.getElem?_cons_succ, ih j (by omega)]; congr 4; omega
theorem low_c {o k : Nat} {n : Int} {l : List UInt8} {σ : Store} (ho : WR σ o l) (hk : k ≤ 8) (hl : l.length ≤ 1000000000000) : ACalls Tryz.prog 169 [.ref o 0, vInt n, vInt k] σ fun v σ' => v = .tup [] ∧ WR σ' o (l ++ beI k n) ∧ WF o σ σ' := by
  have h00 : (k : Int) - 1 - ((0 : Nat) : Int) = (k : Int) - 1 := by omega
  refine ACalls_of Tryz.func169 rfl Tryz.ntmps169 (congrArg Array.toList Tryz.results169) (by simp only [List.length_cons, List.length_nil]; decide) ?_; simp only [envOf_cons, envOf_nil, Nat.reduceAdd]
  refine awp_seq ?_
  refine awp_seq ?_
  refine awp_region (by kernel_rfl) ?_
  iterate 2 (refine aL_S rfl rfl v_ ?_)
  refine aL_nil ?_
  refine awp_cond v_ (fun hc0 => ?_) (fun hc0 => ?_)
  · replace hc0 := nm_ hc0
    cases hc0
  · replace hc0 := nm_ hc0
    refine awp_skip ?_
    refine awp_seq ?_
    refine awp_region (by kernel_rfl) ?_
    iterate 3 (refine aL_S rfl rfl v_ ?_)
    refine aL_nil ?_
    refine awp_block ?_
    refine awp_loop_env (ι := Store × Nat) (fun ⟨τ, j⟩ => k - j) (fun ⟨τ, j⟩ => j ≤ k ∧ WR τ o (l ++ (beI k n).take j) ∧ WF o σ τ) (fun ⟨τ, j⟩ => [(0, .ref o 0), (1, vInt n), (6, vInt ((k : Int) - 1 - j))]) (fun ⟨τ, j⟩ => τ) (σ, 0) ?_ ?_ ?_ ?_
    · exact ⟨Nat.zero_le _, by simpa using ho, WF.refl⟩
    · have R := h00; exact cv_
    · exact Store.Wk.refl _
    rintro ⟨τ, j⟩ ⟨h1, h2, h3⟩
    simp only [envL_cons, envL_nil]
    refine awp_seq ?_
    refine awp_seq ?_
    refine awp_region (by kernel_rfl) ?_
    iterate 2 (refine aL_S rfl rfl v_ ?_)
    refine aL_nil ?_
    refine awp_cond v_ (fun hc2 => ?_) (fun hc2 => ?_)
    · replace hc2 := nm_ hc2
      refine awp_skip ?_
      refine awp_seq ?_
      refine awp_block ?_
      have hj : j < k := by omega
      have hbj := take_beI n k j hj
      obtain ⟨a, b, old, hw, ha, hb⟩ := h2
      have hll : (l ++ (beI k n).take j).length ≤ 1099511627776 := by rw [List.length_append, List.length_take]; omega
      have hcv : (k : Int) - 1 - j - 1 = (k : Int) - 1 - ((j + 1 : Nat) : Int) := by omega
      have hsh : ((8 : Int) * ((k : Int) - 1 - j)).toNat = 8 * (k - 1 - j) := by omega
      have hby := (byteI_val (n / 256 ^ (k - 1 - j))).symm
      have R := And.intro hsh (And.intro fdiv_pow (And.intro wrap_u8 hby))
      refine awp_draw (.op 0 0 (.op 1 0 (.op 2 0 (.op 3 0 (.op 4 0 (.op 5 0 (.op 6 0 (.op 7 0 (.op 8 2 .nil))))))))) Tryz.mixed (by kernel_rfl) ?_
      iterate 8 (refine dR_S o_ (by rfl) (by rfl) v_ ?_)
      refine dR_T o_ (by rfl) (by rfl) (AOp_use (by rfl) (by rfl) (.inr ⟨by rfl, by rfl, by rfl⟩) g_ va_ (writeByte_c (c := byteI (n / 256 ^ (k - 1 - j))) hw ha hb hll) ?_); rintro _ _ ⟨k23, rfl, hk23, rfl⟩
      refine dR_nil ?_
      refine awp_region (by kernel_rfl) ?_
      iterate 3 (refine aL_S rfl rfl v_ ?_)
      refine aL_nil ?_
      refine aNext (ι := Store × Nat) (i := ⟨τ, j⟩) ((τ.newTok old k23 (5, 1)).set o (.cells [.ref o 0, .own k23 1 (bytesL (B (l ++ (beI k n).take j ++ [byteI (n / 256 ^ (k - 1 - j))])))]), j + 1) ?_ ?_ ?_ ?_
      · show k - (j + 1) < k - j; omega
      · exact ⟨by show j + 1 ≤ k; omega, ⟨_, _, some k23, Store.set_get .., .inl rfl, .inl ⟨k23, by rw [take_snoc hbj, List.append_assoc], by rw [Store.set_tok]; exact Store.newTok_get .., rfl⟩⟩, h3.trans (WF.put hw hb hk23)⟩
      · have R := hcv; exact cv_
      · exact Store.Wk.refl _
    · replace hc2 := nm_ hc2
      refine awp_exit ?_
      refine aThen_exit ?_
      refine aThen_exit ?_
      refine aBlock_hit ?_
      refine aEnd_nor v_ (Store.Wk.refl _) ?_
      exact ⟨rfl, by rwa [List.take_of_length_le (by rw [beI_length]; omega)] at h2, h3⟩

theorem wrByte_c {o : Nat} {n : Int} {l : List UInt8} {σ : Store} (ho : WR σ o l) (hl : l.length ≤ 1000000000000) : ACalls Tryz.prog 159 [.ref o 0, vInt n] σ fun v σ' => v = .tup [] ∧ WR σ' o (l ++ beI 1 n) ∧ WF o σ σ' := by
  refine ACalls_of Tryz.func159 rfl Tryz.ntmps159 (congrArg Array.toList Tryz.results159) (by simp only [List.length_cons, List.length_nil]; decide) ?_; simp only [envOf_cons, envOf_nil, Nat.reduceAdd]
  refine awp_region (by kernel_rfl) ?_
  iterate 2 (refine aL_S rfl rfl v_ ?_)
  refine aL_X rfl rfl (AOp_use rfl rfl (.inr ⟨rfl, rfl, rfl⟩) g_ va_ (low_c (k := 1) ho (by decide) hl) ?_); rintro _ τ ⟨rfl, h1, h2⟩
  refine aL_nil ?_
  refine aEnd_nor v_ (Store.Wk.refl _) ?_
  exact ⟨rfl, h1, h2⟩
theorem wrInt_c {o : Nat} {n : Int} {l : List UInt8} {σ : Store} (ho : WR σ o l) (hl : l.length ≤ 1000000000000) : ACalls Tryz.prog 90 [.ref o 0, vInt n] σ fun v σ' => v = .tup [] ∧ WR σ' o (l ++ beI 8 n) ∧ WF o σ σ' := by
  refine ACalls_of Tryz.func90 rfl Tryz.ntmps90 (congrArg Array.toList Tryz.results90) (by simp only [List.length_cons, List.length_nil]; decide) ?_; simp only [envOf_cons, envOf_nil, Nat.reduceAdd]
  refine awp_region (by kernel_rfl) ?_
  iterate 2 (refine aL_S rfl rfl v_ ?_)
  refine aL_X rfl rfl (AOp_use rfl rfl (.inr ⟨rfl, rfl, rfl⟩) g_ va_ (low_c (k := 8) ho (by decide) hl) ?_); rintro _ τ ⟨rfl, h1, h2⟩
  refine aL_nil ?_
  refine aEnd_nor v_ (Store.Wk.refl _) ?_
  exact ⟨rfl, h1, h2⟩
theorem wrCount_c {o : Nat} {n : Int} {l : List UInt8} {σ : Store} (ho : WR σ o l) (hl : l.length ≤ 1000000000000) : ACalls Tryz.prog 234 [.ref o 0, vInt n] σ fun v σ' => v = .tup [] ∧ WR σ' o (l ++ beI 4 n) ∧ WF o σ σ' := by
  refine ACalls_of Tryz.func234 rfl Tryz.ntmps234 (congrArg Array.toList Tryz.results234) (by simp only [List.length_cons, List.length_nil]; decide) ?_; simp only [envOf_cons, envOf_nil, Nat.reduceAdd]
  refine awp_region (by kernel_rfl) ?_
  iterate 2 (refine aL_S rfl rfl v_ ?_)
  refine aL_X rfl rfl (AOp_use rfl rfl (.inr ⟨rfl, rfl, rfl⟩) g_ va_ (low_c (k := 4) ho (by decide) hl) ?_); rintro _ τ ⟨rfl, h1, h2⟩
  refine aL_nil ?_
  refine aEnd_nor v_ (Store.Wk.refl _) ?_
  exact ⟨rfl, h1, h2⟩
def textB (s : ByteArray) : List UInt8 := beI 4 s.size ++ Lb s
theorem textB_length (s : ByteArray) : (textB s).length = 4 + s.size := by rw [textB, List.length_append, beI_length, Lb_length]
theorem wrText_c {o : Nat} {s : ByteArray} {l : List UInt8} {σ : Store} (ho : WR σ o l) (hl : l.length ≤ 999999999990) (hs : s.size ≤ 1000000000) : ACalls Tryz.prog 160 [.ref o 0, vStr s] σ fun v σ' => v = .tup [] ∧ WR σ' o (l ++ textB s) ∧ WF o σ σ' := by
  refine ACalls_of Tryz.func160 rfl Tryz.ntmps160 (congrArg Array.toList Tryz.results160) (by simp only [List.length_cons, List.length_nil]; decide) ?_; simp only [envOf_cons, envOf_nil, Nat.reduceAdd]
  refine awp_seq ?_
  refine awp_region (by kernel_rfl) ?_
  iterate 3 (refine aL_S rfl rfl v_ ?_)
  refine aL_X rfl rfl (AOp_use rfl rfl (.inr ⟨rfl, rfl, rfl⟩) g_ va_ (wrCount_c ho (by omega)) ?_); rintro _ τ ⟨rfl, h1, h2⟩
  refine aL_nil ?_
  refine awp_seq ?_
  refine awp_region (by kernel_rfl) ?_
  iterate 2 (refine aL_S rfl rfl v_ ?_)
  refine aL_nil ?_
  refine awp_cond v_ (fun hc1 => ?_) (fun hc1 => ?_)
  · replace hc1 := nm_ hc1
    obtain ⟨a, b, old, hw, ha, hb⟩ := h1
    have hll : (l ++ beI 4 s.size).length ≤ 1099511627776 := by rw [List.length_append, beI_length]; omega
    refine awp_region (by kernel_rfl) ?_
    iterate 4 (refine aL_S rfl rfl v_ ?_)
    refine aL_X rfl rfl (AOp_use rfl rfl (.inr ⟨rfl, rfl, rfl⟩) g_ va_ (writeString_c hw ha hb hll (by omega)) ?_); rintro _ _ ⟨k14, rfl, hk14, rfl⟩
    refine aL_nil ?_
    refine aEnd_nor v_ (Store.Wk.refl _) ?_
    exact ⟨rfl, ⟨_, _, some k14, Store.set_get .., .inl rfl, .inl ⟨k14, by rw [textB, ← List.append_assoc], by rw [Store.set_tok]; exact Store.newTok_get .., rfl⟩⟩, h2.trans (WF.put hw hb hk14)⟩
  · replace hc1 := nm_ hc1
    cases hc1
theorem WF.del {σ : Store} {o k : Nat} {a : AVal} {l : List AVal} {sz : Nat} (ho : σ.heap o = some (.cells [a, .own k sz l])) : WF o σ (σ.delTok k) := by
  refine ⟨fun i x _ hx => hx, fun t n ht hn => ⟨?_, hn⟩⟩
  have : t ≠ k := fun hh => hn ⟨_, _, _, by rw [hh]; exact ho⟩
  simp [Store.delTok, this, ht]
theorem wrBytes_1 {o k : Nat} {s : ByteArray} {σ : Store} {a : AVal} (ho : σ.heap o = some (.cells [a, .own k 1 (bytesL s)])) (hk : σ.tok k = some (5, 1)) (hs : s.size ≤ 1099511627776) : ACalls Tryz.prog 83 [.ref o 0] σ fun v σ' => v = vStr s ∧ WF o σ σ' := by
  refine ACalls_of Tryz.func83 rfl Tryz.ntmps83 (congrArg Array.toList Tryz.results83) (by simp only [List.length_cons, List.length_nil]; decide) ?_; simp only [envOf_cons, envOf_nil, Nat.reduceAdd]
  refine awp_seq ?_
  refine awp_region (by kernel_rfl) ?_
  (refine aL_S rfl rfl v_ ?_)
  refine aL_nil ?_
  refine awp_seq ?_
  refine awp_seq ?_
  refine awp_region (by kernel_rfl) ?_
  iterate 2 (refine aL_S rfl rfl v_ ?_)
  refine aL_nil ?_
  refine awp_cond v_ (fun hc1 => ?_) (fun hc1 => ?_)
  · replace hc1 := nm_ hc1
    cases hc1
  · replace hc1 := nm_ hc1
    refine awp_skip ?_
    refine awp_seq ?_
    refine awp_region (by kernel_rfl) ?_
    iterate 3 (refine aL_S rfl rfl v_ ?_)
    refine aL_X rfl rfl (AOp_use rfl rfl (.inr ⟨rfl, rfl, rfl⟩) g_ va_ (string_1 ho hk hs) ?_); rintro _ _ ⟨rfl, rfl⟩
    (refine aL_S rfl rfl v_ ?_)
    refine aL_nil ?_
    refine awp_ret ?_
    refine aEnd_ret v_ (Store.Wk.refl _) ?_
    exact ⟨rfl, WF.del ho⟩
theorem wrBytes_2 {o : Nat} {σ : Store} {a : AVal} (ho : σ.heap o = some (.cells [a, .lit (.slice none 0 0)])) : ACalls Tryz.prog 83 [.ref o 0] σ fun v σ' => v = vStr (B []) ∧ WF o σ σ' := by
  refine ACalls_of Tryz.func83 rfl Tryz.ntmps83 (congrArg Array.toList Tryz.results83) (by simp only [List.length_cons, List.length_nil]; decide) ?_; simp only [envOf_cons, envOf_nil, Nat.reduceAdd]
  refine awp_seq ?_
  refine awp_region (by kernel_rfl) ?_
  (refine aL_S rfl rfl v_ ?_)
  refine aL_nil ?_
  refine awp_seq ?_
  refine awp_seq ?_
  refine awp_region (by kernel_rfl) ?_
  iterate 2 (refine aL_S rfl rfl v_ ?_)
  refine aL_nil ?_
  refine awp_cond v_ (fun hc1 => ?_) (fun hc1 => ?_)
  · replace hc1 := nm_ hc1
    cases hc1
  · replace hc1 := nm_ hc1
    refine awp_skip ?_
    refine awp_seq ?_
    refine awp_region (by kernel_rfl) ?_
    iterate 3 (refine aL_S rfl rfl v_ ?_)
    refine aL_X rfl rfl (AOp_use rfl rfl (.inr ⟨rfl, rfl, rfl⟩) g_ va_ (string_2 ho) ?_); rintro _ _ ⟨rfl, rfl⟩
    (refine aL_S rfl rfl v_ ?_)
    refine aL_nil ?_
    refine awp_ret ?_
    refine aEnd_ret v_ (Store.Wk.refl _) ?_
    exact ⟨rfl, WF.refl⟩
/-- what is written is handed out: it is not written to any more -/
theorem wrBytes_c {o : Nat} {l : List UInt8} {σ : Store} (ho : WR σ o l) (hl : l.length ≤ 1000000000000) : ACalls Tryz.prog 83 [.ref o 0] σ fun v σ' => v = vStr (B l) ∧ WF o σ σ' := by
  obtain ⟨a, b, old, hw, ha, hb⟩ := ho
  rcases hb with ⟨k, rfl, hk, _⟩ | ⟨rfl, hl0, _⟩
  · refine wrBytes_1 hw hk (by rw [B_size]; omega)
  · have : l = [] := by
      have := congrArg List.length hl0
      rw [bytesL_length, B_size] at this
      exact List.eq_nil_of_length_eq_zero this
    subst this
    exact wrBytes_2 hw
end Go.Proofs.YtbcgkbdacijoiaaGreat
end

section
set_option linter.all false
set_option maxRecDepth 100000
namespace Go.Proofs.YtbcgkbdacijoiaaGreat
open Go.Ab

def listB {α : Type} (f : α → List UInt8) (l : List α) : List UInt8 := beI 4 l.length ++ l.flatMap f
def seenB (x : Seen) : List UInt8 := textB x.node ++ beI 8 x.base ++ listB (beI 8) x.more
def ctxB (c : List Seen) : List UInt8 := listB seenB c
def goneI (b : Bool) : Int := if b then 1 else 0
def sibB (x : Sib) : List UInt8 := textB x.node ++ beI 8 x.n ++ textB x.value ++ beI 1 (goneI x.gone) ++ beI 8 x.time
def objB (o : Obj') : List UInt8 := ctxB o.ctx ++ listB sibB o.sibs
theorem flatMap_take {α β : Type} {f : α → List β} {l : List α} {i : Nat} {x : α} (h : l[i]? = some x) : (l.take (i + 1)).flatMap f = (l.take i).flatMap f ++ f x := by
  rw [take_snoc h, List.flatMap_append]; simp
theorem flatMap_take_le {α β : Type} {f : α → List β} (l : List α) (i : Nat) : ((l.take i).flatMap f).length ≤ (l.flatMap f).length := by
  conv => rhs; rw [← List.take_append_drop i l, List.flatMap_append, List.length_append]
  omega
theorem WF.keep {o i : Nat} {a b : Store} {x : AObj} (h : WF o a b) (hx : a.heap i = some x) (hi : i ≠ o) : b.heap i = some x := h.1 i x hi hx
theorem WF.alloc {o i : Nat} {a b : Store} {x : AObj} (h : WF o a b) (hi : b.heap i = none) (ho : i ≠ o) : WF o a (b.set i x) :=
  ⟨fun j y hj hy => by rw [Store.set_ne _ _ (fun hh => by have := h.1 j y hj hy; rw [hh, hi] at this; cases this)]; exact h.1 j y hj hy, fun t n ht hn => ⟨(h.2 t n ht hn).1, fun ⟨a, sz, l, hh⟩ => (h.2 t n ht hn).2 ⟨a, sz, l, by rw [Store.set_ne _ _ (Ne.symm ho)] at hh; exact hh⟩⟩⟩
theorem WR.alloc {o i : Nat} {l : List UInt8} {σ : Store} {x : AObj} (h : WR σ o l) (hi : i ≠ o) : WR (σ.set i x) o l := by
  obtain ⟨a, b, old, h1, h2, h3⟩ := h
  exact ⟨a, b, old, by rw [Store.set_ne _ _ (Ne.symm hi)]; exact h1, h2, h3⟩
theorem WR.alloc2 {o i : Nat} {l : List UInt8} {σ : Store} {x y : AObj} (h : WR σ o l) (hi : i ≠ o) : WR ((σ.set i x).set i y) o l := (h.alloc hi).alloc hi
theorem WF.alloc2 {o i : Nat} {a b : Store} {x y : AObj} (h : WF o a b) (hi : b.heap i = none) (ho : i ≠ o) : WF o a ((b.set i x).set i y) := by
  rw [Store.set_set]; exact h.alloc hi ho
theorem WR.some {o : Nat} {l : List UInt8} {σ : Store} (h : WR σ o l) : ∃ x, σ.heap o = some x := by obtain ⟨a, b, old, h1, _⟩ := h; exact ⟨_, h1⟩

theorem eachInt_c {o G : Nat} {l : List UInt8} {L : List Int} {t : Bool} {σ : Store} {fs cp : List AVal} {wb : Int → List UInt8} (Kp : Store → Prop) (hgo : isGo Tryz.prog G = true) (hK : ∀ τ τ', Kp τ → WF o τ τ' → Kp τ') (ho : WR σ o l) (hKσ : Kp σ)
    (hL : l.length + 4 + (L.flatMap wb).length ≤ 999999999000) (hLb : L.length ≤ 1000000)
    (hf : ∀ τ l x, x ∈ L → WR τ o l → Kp τ → l.length + (wb x).length ≤ 999999999000 → ACalls Tryz.prog G (fs ++ [vInt x] ++ cp) τ fun v τ' => v = .tup [] ∧ WR τ' o (l ++ wb x) ∧ WF o τ τ') :
    ACalls Tryz.prog 238 [.ref o 0, .sl 1 (L.map vInt) t, .fn (.func G) fs cp] σ fun v σ' => v = .tup [] ∧ WR σ' o (l ++ listB wb L) ∧ WF o σ σ' := by
  refine ACalls_of Tryz.func238 rfl Tryz.ntmps238 (congrArg Array.toList Tryz.results238) (by simp only [List.length_cons, List.length_nil]; decide) ?_; simp only [envOf_cons, envOf_nil, Nat.reduceAdd]
  refine awp_seq ?_
  refine awp_region (by kernel_rfl) ?_
  iterate 3 (refine aL_S rfl rfl v_ ?_)
  refine aL_X rfl rfl (AOp_use rfl rfl (.inr ⟨rfl, rfl, rfl⟩) g_ va_ (wrCount_c (n := (L.length : Int)) ho (by omega)) ?_); rintro _ τ0 ⟨rfl, g1, g2⟩
  refine aL_nil ?_
  refine awp_seq ?_
  refine awp_region (by kernel_rfl) ?_
  iterate 3 (refine aL_S rfl rfl v_ ?_)
  refine aL_nil ?_
  refine awp_block ?_
  refine awp_loop_env (ι := Store × Nat) (fun ⟨τ, i⟩ => L.length - i) (fun ⟨τ, i⟩ => i ≤ L.length ∧ WR τ o (l ++ beI 4 L.length ++ (L.take i).flatMap wb) ∧ WF o σ τ) (fun ⟨τ, i⟩ => [(2, .fn (.func G) fs cp), (12, .sl 1 (L.map vInt) t), (13, vInt L.length), (14, vInt i)]) (fun ⟨τ, i⟩ => τ) (τ0, 0) ?_ ?_ ?_ ?_
  · exact ⟨Nat.zero_le _, by simpa using g1, g2⟩
  · exact cv_
  · exact Store.Wk.refl _
  rintro ⟨τ, i⟩ ⟨h1, h2, h3⟩
  simp only [envL_cons, envL_nil]
  refine awp_seq ?_
  refine awp_region (by kernel_rfl) ?_
  (refine aL_S rfl rfl v_ ?_)
  refine aL_nil ?_
  refine awp_seq ?_
  refine awp_cond v_ (fun hc2 => ?_) (fun hc2 => ?_)
  · replace hc2 := nm_ hc2
    refine awp_skip ?_
    refine awp_seq ?_
    refine awp_block ?_
    refine awp_seq ?_
    obtain ⟨x, hx⟩ : ∃ x, L[i]? = some x := ⟨L[i]'(by omega), List.getElem?_eq_getElem _⟩
    have hle := flatMap_take_le (f := wb) L (i + 1)
    rw [flatMap_take hx, List.length_append] at hle
    have hb : (l ++ beI 4 L.length ++ (L.take i).flatMap wb).length + (wb x).length ≤ 999999999000 := by rw [List.length_append, List.length_append, beI_length]; omega
    have hxm := List.mem_of_getElem? hx
    have R := hx
    refine awp_region (by kernel_rfl) ?_
    iterate 3 (refine aL_S rfl rfl v_ ?_)
    refine aL_nil ?_
    skip
    refine awp_region (by kernel_rfl) ?_
    iterate 2 (refine aL_S rfl rfl v_ ?_)
    refine aL_X rfl rfl (AOp_use rfl rfl (.inl v_) g_ va_ (hf _ _ x hxm h2 (hK _ _ hKσ h3) hb) ?_); rintro _ υ ⟨rfl, u1, u2⟩
    refine aL_nil ?_
    refine awp_region (by kernel_rfl) ?_
    iterate 2 (refine aL_S rfl rfl v_ ?_)
    refine aL_nil ?_
    refine aNext (ι := Store × Nat) (i := ⟨τ, i⟩) (υ, i + 1) ?_ ?_ ?_ ?_
    · show L.length - (i + 1) < L.length - i; omega
    · exact ⟨by show i + 1 ≤ L.length; omega, by rw [flatMap_take hx, ← List.append_assoc]; exact u1, WF.trans h3 u2⟩
    · exact cv_
    · exact Store.Wk.refl _
  · replace hc2 := nm_ hc2
    refine awp_exit ?_
    refine aThen_exit ?_
    refine aThen_exit ?_
    refine aBlock_hit ?_
    refine aEnd_nor v_ (Store.Wk.refl _) ?_
    exact ⟨rfl, by rw [listB, ← List.append_assoc]; rwa [List.take_of_length_le (by omega)] at h2, h3⟩
theorem eachSeen_c {o G : Nat} {l : List UInt8} {L : List Seen} {t : Bool} {σ : Store} {fs cp : List AVal} {wb : Seen → List UInt8} (Kp : Store → Prop) (hgo : isGo Tryz.prog G = true) (hK : ∀ τ τ', Kp τ → WF o τ τ' → Kp τ') (ho : WR σ o l) (hKσ : Kp σ)
    (hL : l.length + 4 + (L.flatMap wb).length ≤ 999999999000) (hLb : L.length ≤ 1000000)
    (hf : ∀ τ l x, x ∈ L → WR τ o l → Kp τ → l.length + (wb x).length ≤ 999999999000 → ACalls Tryz.prog G (fs ++ [sSeen x] ++ cp) τ fun v τ' => v = .tup [] ∧ WR τ' o (l ++ wb x) ∧ WF o τ τ') :
    ACalls Tryz.prog 236 [.ref o 0, .sl 3 (L.map sSeen) t, .fn (.func G) fs cp] σ fun v σ' => v = .tup [] ∧ WR σ' o (l ++ listB wb L) ∧ WF o σ σ' := by
  refine ACalls_of Tryz.func236 rfl Tryz.ntmps236 (congrArg Array.toList Tryz.results236) (by simp only [List.length_cons, List.length_nil]; decide) ?_; simp only [envOf_cons, envOf_nil, Nat.reduceAdd]
  refine awp_seq ?_
  refine awp_region (by kernel_rfl) ?_
  iterate 3 (refine aL_S rfl rfl v_ ?_)
  refine aL_X rfl rfl (AOp_use rfl rfl (.inr ⟨rfl, rfl, rfl⟩) g_ va_ (wrCount_c (n := (L.length : Int)) ho (by omega)) ?_); rintro _ τ0 ⟨rfl, g1, g2⟩
  refine aL_nil ?_
  refine awp_seq ?_
  refine awp_region (by kernel_rfl) ?_
  iterate 3 (refine aL_S rfl rfl v_ ?_)
  refine aL_nil ?_
  refine awp_block ?_
  refine awp_loop_env (ι := Store × Nat) (fun ⟨τ, i⟩ => L.length - i) (fun ⟨τ, i⟩ => i ≤ L.length ∧ WR τ o (l ++ beI 4 L.length ++ (L.take i).flatMap wb) ∧ WF o σ τ) (fun ⟨τ, i⟩ => [(2, .fn (.func G) fs cp), (12, .sl 3 (L.map sSeen) t), (13, vInt L.length), (14, vInt i)]) (fun ⟨τ, i⟩ => τ) (τ0, 0) ?_ ?_ ?_ ?_
  · exact ⟨Nat.zero_le _, by simpa using g1, g2⟩
  · exact cv_
  · exact Store.Wk.refl _
  rintro ⟨τ, i⟩ ⟨h1, h2, h3⟩
  simp only [envL_cons, envL_nil]
  refine awp_seq ?_
  refine awp_region (by kernel_rfl) ?_
  (refine aL_S rfl rfl v_ ?_)
  refine aL_nil ?_
  refine awp_seq ?_
  refine awp_cond v_ (fun hc2 => ?_) (fun hc2 => ?_)
  · replace hc2 := nm_ hc2
    refine awp_skip ?_
    refine awp_seq ?_
    refine awp_block ?_
    refine awp_seq ?_
    obtain ⟨x, hx⟩ : ∃ x, L[i]? = some x := ⟨L[i]'(by omega), List.getElem?_eq_getElem _⟩
    have hle := flatMap_take_le (f := wb) L (i + 1)
    rw [flatMap_take hx, List.length_append] at hle
    have hb : (l ++ beI 4 L.length ++ (L.take i).flatMap wb).length + (wb x).length ≤ 999999999000 := by rw [List.length_append, List.length_append, beI_length]; omega
    have hxm := List.mem_of_getElem? hx
    have R := hx
    refine awp_region (by kernel_rfl) ?_
    iterate 2 (refine aL_S rfl rfl v_ ?_)
    refine aL_alloc rfl rfl rfl g_ gl_ fun o7 ho7 => ?_
    repeat (rw [none_set_iff] at ho7; obtain ⟨_, ho7⟩ := ho7)
    refine aL_store rfl rfl rfl v_ v_ h_ g_ rfl g_ c_ (by rfl) le_ v_ ?_
    refine aL_nil ?_
    obtain ⟨xo, hxo⟩ := WR.some h2; have n7 := (ne_of_heap hxo ho7).symm
    refine awp_region (by kernel_rfl) ?_
    iterate 2 (refine aL_S rfl rfl v_ ?_)
    refine aL_X rfl rfl (AOp_use rfl rfl (.inl v_) g_ va_ (hf _ _ x hxm (WR.alloc2 h2 n7) (hK _ _ hKσ (WF.alloc2 h3 ho7 n7)) hb) ?_); rintro _ υ ⟨rfl, u1, u2⟩
    refine aL_nil ?_
    refine awp_region (by kernel_rfl) ?_
    iterate 2 (refine aL_S rfl rfl v_ ?_)
    refine aL_nil ?_
    refine aNext (ι := Store × Nat) (i := ⟨τ, i⟩) (υ, i + 1) ?_ ?_ ?_ ?_
    · show L.length - (i + 1) < L.length - i; omega
    · exact ⟨by show i + 1 ≤ L.length; omega, by rw [flatMap_take hx, ← List.append_assoc]; exact u1, WF.trans (WF.alloc2 h3 ho7 n7) u2⟩
    · exact cv_
    · exact Store.Wk.refl _
  · replace hc2 := nm_ hc2
    refine awp_exit ?_
    refine aThen_exit ?_
    refine aThen_exit ?_
    refine aBlock_hit ?_
    refine aEnd_nor v_ (Store.Wk.refl _) ?_
    exact ⟨rfl, by rw [listB, ← List.append_assoc]; rwa [List.take_of_length_le (by omega)] at h2, h3⟩
theorem eachSib_c {o G : Nat} {l : List UInt8} {L : List Sib} {t : Bool} {σ : Store} {fs cp : List AVal} {wb : Sib → List UInt8} (Kp : Store → Prop) (hgo : isGo Tryz.prog G = true) (hK : ∀ τ τ', Kp τ → WF o τ τ' → Kp τ') (ho : WR σ o l) (hKσ : Kp σ)
    (hL : l.length + 4 + (L.flatMap wb).length ≤ 999999999000) (hLb : L.length ≤ 1000000)
    (hf : ∀ τ l x, x ∈ L → WR τ o l → Kp τ → l.length + (wb x).length ≤ 999999999000 → ACalls Tryz.prog G (fs ++ [sSib x] ++ cp) τ fun v τ' => v = .tup [] ∧ WR τ' o (l ++ wb x) ∧ WF o τ τ') :
    ACalls Tryz.prog 162 [.ref o 0, .sl 5 (L.map sSib) t, .fn (.func G) fs cp] σ fun v σ' => v = .tup [] ∧ WR σ' o (l ++ listB wb L) ∧ WF o σ σ' := by
  refine ACalls_of Tryz.func162 rfl Tryz.ntmps162 (congrArg Array.toList Tryz.results162) (by simp only [List.length_cons, List.length_nil]; decide) ?_; simp only [envOf_cons, envOf_nil, Nat.reduceAdd]
  refine awp_seq ?_
  refine awp_region (by kernel_rfl) ?_
  iterate 3 (refine aL_S rfl rfl v_ ?_)
  refine aL_X rfl rfl (AOp_use rfl rfl (.inr ⟨rfl, rfl, rfl⟩) g_ va_ (wrCount_c (n := (L.length : Int)) ho (by omega)) ?_); rintro _ τ0 ⟨rfl, g1, g2⟩
  refine aL_nil ?_
  refine awp_seq ?_
  refine awp_region (by kernel_rfl) ?_
  iterate 3 (refine aL_S rfl rfl v_ ?_)
  refine aL_nil ?_
  refine awp_block ?_
  refine awp_loop_env (ι := Store × Nat) (fun ⟨τ, i⟩ => L.length - i) (fun ⟨τ, i⟩ => i ≤ L.length ∧ WR τ o (l ++ beI 4 L.length ++ (L.take i).flatMap wb) ∧ WF o σ τ) (fun ⟨τ, i⟩ => [(2, .fn (.func G) fs cp), (12, .sl 5 (L.map sSib) t), (13, vInt L.length), (14, vInt i)]) (fun ⟨τ, i⟩ => τ) (τ0, 0) ?_ ?_ ?_ ?_
  · exact ⟨Nat.zero_le _, by simpa using g1, g2⟩
  · exact cv_
  · exact Store.Wk.refl _
  rintro ⟨τ, i⟩ ⟨h1, h2, h3⟩
  simp only [envL_cons, envL_nil]
  refine awp_seq ?_
  refine awp_region (by kernel_rfl) ?_
  (refine aL_S rfl rfl v_ ?_)
  refine aL_nil ?_
  refine awp_seq ?_
  refine awp_cond v_ (fun hc2 => ?_) (fun hc2 => ?_)
  · replace hc2 := nm_ hc2
    refine awp_skip ?_
    refine awp_seq ?_
    refine awp_block ?_
    refine awp_seq ?_
    obtain ⟨x, hx⟩ : ∃ x, L[i]? = some x := ⟨L[i]'(by omega), List.getElem?_eq_getElem _⟩
    have hle := flatMap_take_le (f := wb) L (i + 1)
    rw [flatMap_take hx, List.length_append] at hle
    have hb : (l ++ beI 4 L.length ++ (L.take i).flatMap wb).length + (wb x).length ≤ 999999999000 := by rw [List.length_append, List.length_append, beI_length]; omega
    have hxm := List.mem_of_getElem? hx
    have R := hx
    refine awp_region (by kernel_rfl) ?_
    iterate 2 (refine aL_S rfl rfl v_ ?_)
    refine aL_alloc rfl rfl rfl g_ gl_ fun o7 ho7 => ?_
    repeat (rw [none_set_iff] at ho7; obtain ⟨_, ho7⟩ := ho7)
    refine aL_store rfl rfl rfl v_ v_ h_ g_ rfl g_ c_ (by rfl) le_ v_ ?_
    refine aL_nil ?_
    obtain ⟨xo, hxo⟩ := WR.some h2; have n7 := (ne_of_heap hxo ho7).symm
    refine awp_region (by kernel_rfl) ?_
    iterate 2 (refine aL_S rfl rfl v_ ?_)
    refine aL_X rfl rfl (AOp_use rfl rfl (.inl v_) g_ va_ (hf _ _ x hxm (WR.alloc2 h2 n7) (hK _ _ hKσ (WF.alloc2 h3 ho7 n7)) hb) ?_); rintro _ υ ⟨rfl, u1, u2⟩
    refine aL_nil ?_
    refine awp_region (by kernel_rfl) ?_
    iterate 2 (refine aL_S rfl rfl v_ ?_)
    refine aL_nil ?_
    refine aNext (ι := Store × Nat) (i := ⟨τ, i⟩) (υ, i + 1) ?_ ?_ ?_ ?_
    · show L.length - (i + 1) < L.length - i; omega
    · exact ⟨by show i + 1 ≤ L.length; omega, by rw [flatMap_take hx, ← List.append_assoc]; exact u1, WF.trans (WF.alloc2 h3 ho7 n7) u2⟩
    · exact cv_
    · exact Store.Wk.refl _
  · replace hc2 := nm_ hc2
    refine awp_exit ?_
    refine aThen_exit ?_
    refine aThen_exit ?_
    refine aBlock_hit ?_
    refine aEnd_nor v_ (Store.Wk.refl _) ?_
    exact ⟨rfl, by rw [listB, ← List.append_assoc]; rwa [List.take_of_length_le (by omega)] at h2, h3⟩

theorem wrInt_m {o : Nat} {l : List UInt8} {σ : Store} {n : Int} (ho : WR σ o l) (hl : l.length + (beI 8 n).length ≤ 999999999000) : ACalls Tryz.prog 90 ([.ref o 0] ++ [vInt n] ++ []) σ fun v σ' => v = .tup [] ∧ WR σ' o (l ++ beI 8 n) ∧ WF o σ σ' := wrInt_c ho (by omega)
theorem flat8_length (l : List Int) : (l.flatMap (beI 8)).length = 8 * l.length := by
  induction l with
  | nil => rfl
  | cons x l ih => rw [List.flatMap_cons, List.length_append, ih, beI_length, List.length_cons]; omega
/-- a Seen that may be written: few bytes, few numbers -/
structure SeenSm (x : Seen) : Prop where
  node : x.node.size ≤ 1000000
  more : x.more.length ≤ 1000000
structure SibSm (x : Sib) : Prop where
  node : x.node.size ≤ 1000000
  value : x.value.size ≤ 1000000
theorem seenB_length (x : Seen) : (seenB x).length = 16 + x.node.size + 8 * x.more.length := by
  simp only [seenB, listB, List.length_append, textB_length, beI_length, flat8_length]; omega
theorem sibB_length (x : Sib) : (sibB x).length = 25 + x.node.size + x.value.size := by
  simp only [sibB, List.length_append, textB_length, beI_length]; omega
theorem flat_le {α : Type} {f : α → List UInt8} {n : Nat} : ∀ (l : List α), (∀ x ∈ l, (f x).length ≤ n) → (l.flatMap f).length ≤ n * l.length
  | [], _ => by simp
  | x :: l, h => by
    have h1 := h x (List.mem_cons_self ..)
    have h2 := flat_le l fun y hy => h y (List.mem_cons_of_mem _ hy)
    rw [List.flatMap_cons, List.length_append, List.length_cons, Nat.mul_succ]; omega

theorem wrSeen_c {o ob : Nat} {l : List UInt8} {x : Seen} {σ : Store} (ho : WR σ o l) (hb : σ.heap ob = some (.cells [.ref o 0])) (hx : SeenSm x) (hl : l.length + (seenB x).length ≤ 999999999000) : ACalls Tryz.prog 237 [sSeen x, .ref ob 0] σ fun v σ' => v = .tup [] ∧ WR σ' o (l ++ seenB x) ∧ WF o σ σ' := by
  have hne : ob ≠ o := fun hh => by obtain ⟨a, b, old, h1, _⟩ := ho; rw [hh, h1] at hb; cases hb
  have h1 := hx.node; have h2 := hx.more
  rw [seenB_length] at hl
  refine ACalls_of Tryz.func237 rfl Tryz.ntmps237 (congrArg Array.toList Tryz.results237) (by simp only [List.length_cons, List.length_nil]; decide) ?_; simp only [envOf_cons, envOf_nil, Nat.reduceAdd]
  refine awp_seq ?_
  refine awp_region (by kernel_rfl) ?_
  refine aL_box rfl rfl rfl v_ rfl g_ fun o2 ho2 => ?_
  repeat (rw [none_set_iff] at ho2; obtain ⟨_, ho2⟩ := ho2)
  refine aL_nil ?_
  obtain ⟨xo, hxo⟩ := WR.some ho
  have n2 := (ne_of_heap hxo ho2).symm
  have n2b := (ne_of_heap hb ho2)
  refine awp_seq ?_
  have R := hb
  refine awp_region (by kernel_rfl) ?_
  iterate 3 (refine aL_S rfl rfl v_ ?_)
  refine aL_X rfl rfl (AOp_use rfl rfl (.inr ⟨rfl, rfl, rfl⟩) g_ va_ (wrText_c (WR.alloc ho n2) (by omega) (by omega)) ?_); rintro _ τ1 ⟨rfl, a1, a2⟩
  refine aL_nil ?_
  refine awp_seq ?_
  have b1 := WF.keep (i := ob) (x := .cells [.ref o 0]) a2 (by simp (disch := omega) only [Store.set_ne, hb]) hne
  have b2 := WF.keep (i := o2) (x := .cells (sSeen x).cells) a2 (Store.set_get ..) n2
  have R := And.intro b1 b2
  refine awp_region (by kernel_rfl) ?_
  iterate 3 (refine aL_S rfl rfl v_ ?_)
  refine aL_X rfl rfl (AOp_use rfl rfl (.inr ⟨rfl, rfl, rfl⟩) g_ va_ (wrInt_c a1 (by simp only [List.length_append, textB_length]; omega)) ?_); rintro _ τ2 ⟨rfl, c1, c2⟩
  refine aL_nil ?_
  have d1 := c2.keep b1 hne
  have d2 := c2.keep b2 n2
  have R := And.intro d1 d2
  refine awp_region (by kernel_rfl) ?_
  iterate 5 (refine aL_S rfl rfl v_ ?_)
  refine aL_X rfl rfl (AOp_use rfl rfl (.inr ⟨rfl, rfl, rfl⟩) g_ va_ (eachInt_c (wb := beI 8) (fun _ => True) (by kernel_rfl) (fun _ _ _ _ => trivial) c1 trivial (by simp only [List.length_append, textB_length, beI_length, flat8_length]; omega) (by omega) (fun _ _ _ _ h _ hl => wrInt_m h hl)) ?_); rintro _ τ3 ⟨rfl, e1, e2⟩
  refine aL_nil ?_
  refine aEnd_nor v_ (Store.Wk.refl _) ?_
  exact ⟨rfl, by simpa [seenB, List.append_assoc] using e1, (WF.alloc WF.refl ho2 n2).trans (a2.trans (c2.trans e2))⟩
theorem seenB_le {x : Seen} (h : SeenSm x) : (seenB x).length ≤ 9000016 := by rw [seenB_length]; have := h.node; have := h.more; omega
theorem sibB_le {x : Sib} (h : SibSm x) : (sibB x).length ≤ 2000025 := by rw [sibB_length]; have := h.node; have := h.value; omega
structure ObjSm (x : Obj') : Prop where
  ctx : ∀ y ∈ x.ctx, SeenSm y
  sibs : ∀ y ∈ x.sibs, SibSm y
  nc : x.ctx.length ≤ 1000
  ns : x.sibs.length ≤ 1000
theorem ctxB_le {c : List Seen} (h : ∀ y ∈ c, SeenSm y) (hn : c.length ≤ 1000) : (c.flatMap seenB).length ≤ 9000016000 := by
  have := flat_le (f := seenB) c fun x hx => seenB_le (h x hx)
  have h2 := Nat.mul_le_mul_left 9000016 hn
  omega
theorem sibsB_le {c : List Sib} (h : ∀ y ∈ c, SibSm y) (hn : c.length ≤ 1000) : (c.flatMap sibB).length ≤ 2000025000 := by
  have := flat_le (f := sibB) c fun x hx => sibB_le (h x hx)
  have h2 := Nat.mul_le_mul_left 2000025 hn
  omega
theorem wrCtx_c {o : Nat} {l : List UInt8} {c : List Seen} {t : Bool} {σ : Store} (ho : WR σ o l) (hc : ∀ y ∈ c, SeenSm y) (hn : c.length ≤ 1000) (hl : l.length ≤ 980000000000) : ACalls Tryz.prog 161 [.ref o 0, .sl 3 (c.map sSeen) t] σ fun v σ' => v = .tup [] ∧ WR σ' o (l ++ ctxB c) ∧ WF o σ σ' := by
  have hle := ctxB_le hc hn
  refine ACalls_of Tryz.func161 rfl Tryz.ntmps161 (congrArg Array.toList Tryz.results161) (by simp only [List.length_cons, List.length_nil]; decide) ?_; simp only [envOf_cons, envOf_nil, Nat.reduceAdd]
  refine awp_seq ?_
  refine awp_region (by kernel_rfl) ?_
  refine aL_box rfl rfl rfl v_ rfl g_ fun o2 ho2 => ?_
  repeat (rw [none_set_iff] at ho2; obtain ⟨_, ho2⟩ := ho2)
  refine aL_nil ?_
  obtain ⟨xo, hxo⟩ := WR.some ho
  have n2 := (ne_of_heap hxo ho2).symm
  refine awp_region (by kernel_rfl) ?_
  iterate 3 (refine aL_S rfl rfl v_ ?_)
  refine aL_X rfl rfl (AOp_use rfl rfl (.inr ⟨rfl, rfl, rfl⟩) g_ va_ (eachSeen_c (wb := seenB) (fun τ => τ.heap o2 = some (.cells [.ref o 0])) (by kernel_rfl) (fun _ _ h k => k.keep h n2) (WR.alloc ho n2) (Store.set_get ..) (by omega) (by omega) (fun _ _ _ hm h hb hl => wrSeen_c h hb (hc _ hm) hl)) ?_); rintro _ τ ⟨rfl, a1, a2⟩
  refine aL_nil ?_
  refine aEnd_nor v_ (Store.Wk.refl _) ?_
  exact ⟨rfl, a1, (WF.alloc WF.refl ho2 n2).trans a2⟩

theorem wrSib_c {o ob : Nat} {l : List UInt8} {x : Sib} {σ : Store} (ho : WR σ o l) (hb : σ.heap ob = some (.cells [.ref o 0])) (hx : SibSm x) (hl : l.length + (sibB x).length ≤ 999999999000) : ACalls Tryz.prog 163 [sSib x, .ref ob 0] σ fun v σ' => v = .tup [] ∧ WR σ' o (l ++ sibB x) ∧ WF o σ σ' := by
  have hne : ob ≠ o := fun hh => by obtain ⟨a, b, old, h1, _⟩ := ho; rw [hh, h1] at hb; cases hb
  have h1 := hx.node; have h2 := hx.value
  rw [sibB_length] at hl
  refine ACalls_of Tryz.func163 rfl Tryz.ntmps163 (congrArg Array.toList Tryz.results163) (by simp only [List.length_cons, List.length_nil]; decide) ?_; simp only [envOf_cons, envOf_nil, Nat.reduceAdd]
  refine awp_seq ?_
  refine awp_region (by kernel_rfl) ?_
  refine aL_box rfl rfl rfl v_ rfl g_ fun o2 ho2 => ?_
  repeat (rw [none_set_iff] at ho2; obtain ⟨_, ho2⟩ := ho2)
  refine aL_nil ?_
  obtain ⟨xo, hxo⟩ := WR.some ho
  have n2 := (ne_of_heap hxo ho2).symm
  have n2b := (ne_of_heap hb ho2)
  refine awp_seq ?_
  have R := hb
  refine awp_region (by kernel_rfl) ?_
  iterate 4 (refine aL_S rfl rfl v_ ?_)
  refine aL_X rfl rfl (AOp_use rfl rfl (.inr ⟨rfl, rfl, rfl⟩) g_ va_ (wrText_c (WR.alloc ho n2) (by omega) (by omega)) ?_); rintro _ τ1 ⟨rfl, a1, a2⟩
  refine aL_nil ?_
  refine awp_seq ?_
  have b1 := WF.keep (i := ob) (x := .cells [.ref o 0]) a2 (by simp (disch := omega) only [Store.set_ne, hb]) hne
  have b2 := WF.keep (i := o2) (x := .cells (sSib x).cells) a2 (Store.set_get ..) n2
  have R := And.intro b1 b2
  refine awp_region (by kernel_rfl) ?_
  iterate 4 (refine aL_S rfl rfl v_ ?_)
  refine aL_X rfl rfl (AOp_use rfl rfl (.inr ⟨rfl, rfl, rfl⟩) g_ va_ (wrInt_c a1 (by simp only [List.length_append, textB_length]; omega)) ?_); rintro _ τ2 ⟨rfl, c1, c2⟩
  refine aL_nil ?_
  refine awp_seq ?_
  have d1 := c2.keep b1 hne
  have d2 := c2.keep b2 n2
  have R := And.intro d1 d2
  refine awp_region (by kernel_rfl) ?_
  iterate 3 (refine aL_S rfl rfl v_ ?_)
  refine aL_X rfl rfl (AOp_use rfl rfl (.inr ⟨rfl, rfl, rfl⟩) g_ va_ (wrText_c c1 (by simp only [List.length_append, textB_length, beI_length]; omega) (by omega)) ?_); rintro _ τ3 ⟨rfl, e1, e2⟩
  refine aL_nil ?_
  refine awp_seq ?_
  have f1 := e2.keep d1 hne
  have f2 := e2.keep d2 n2
  refine awp_region (by kernel_rfl) ?_
  (refine aL_S rfl rfl v_ ?_)
  refine aL_nil ?_
  refine awp_seq_mid (ι := Unit) (fun _ => True) (fun _ => [(1, .ref ob 0), (2, .ref o2 0), (3, vInt (goneI x.gone))]) (fun _ => τ3) ?_ ?_
  · refine awp_seq ?_
    have R := f2
    refine awp_region (by kernel_rfl) ?_
    iterate 2 (refine aL_S rfl rfl v_ ?_)
    refine aL_nil ?_
    refine awp_cond v_ (fun hc5 => ?_) (fun hc5 => ?_)
    · replace hc5 := nm_ hc5
      have hg1 : goneI x.gone = 1 := by rw [hc5]; rfl
      refine awp_region (by kernel_rfl) ?_
      (refine aL_S rfl rfl v_ ?_)
      refine aL_nil ?_
      refine ⟨(), ?_, ?_, ?_⟩
      · trivial
      · have R := hg1; exact cv_
      · exact Store.Wk.refl _
    · replace hc5 := nm_ hc5
      have hg2 : goneI x.gone = 0 := by rw [hc5]; rfl
      refine awp_skip ?_
      refine ⟨(), ?_, ?_, ?_⟩
      · trivial
      · have R := hg2; exact cv_
      · exact Store.Wk.refl _
  · rintro _ _
    simp only [envL_cons, envL_nil]
    refine awp_seq ?_
    have R := f1
    refine awp_region (by kernel_rfl) ?_
    iterate 2 (refine aL_S rfl rfl v_ ?_)
    refine aL_X rfl rfl (AOp_use rfl rfl (.inr ⟨rfl, rfl, rfl⟩) g_ va_ (wrByte_c e1 (by simp only [List.length_append, textB_length, beI_length]; omega)) ?_); rintro _ τ4 ⟨rfl, g1, g2⟩
    refine aL_nil ?_
    have i1 := g2.keep f1 hne
    have i2 := g2.keep f2 n2
    have R := And.intro i1 i2
    refine awp_region (by kernel_rfl) ?_
    iterate 3 (refine aL_S rfl rfl v_ ?_)
    refine aL_X rfl rfl (AOp_use rfl rfl (.inr ⟨rfl, rfl, rfl⟩) g_ va_ (wrInt_c g1 (by simp only [List.length_append, textB_length, beI_length]; omega)) ?_); rintro _ τ5 ⟨rfl, k1, k2⟩
    refine aL_nil ?_
    refine aEnd_nor v_ (Store.Wk.refl _) ?_
    exact ⟨rfl, by simpa [sibB, List.append_assoc] using k1, (WF.alloc WF.refl ho2 n2).trans (a2.trans (c2.trans (e2.trans (g2.trans k2))))⟩
theorem wrObj_c {o : Nat} {l : List UInt8} {x : Obj'} {σ : Store} (ho : WR σ o l) (hx : ObjSm x) (hl : l.length ≤ 900000000000) : ACalls Tryz.prog 82 [.ref o 0, sObj x] σ fun v σ' => v = .tup [] ∧ WR σ' o (l ++ objB x) ∧ WF o σ σ' := by
  have hle := ctxB_le hx.ctx hx.nc
  have hle2 := sibsB_le hx.sibs hx.ns
  have hn := hx.ns
  refine ACalls_of Tryz.func82 rfl Tryz.ntmps82 (congrArg Array.toList Tryz.results82) (by simp only [List.length_cons, List.length_nil]; decide) ?_; simp only [envOf_cons, envOf_nil, Nat.reduceAdd]
  refine awp_seq ?_
  refine awp_region (by kernel_rfl) ?_
  refine aL_box rfl rfl rfl v_ rfl g_ fun o2 ho2 => ?_
  repeat (rw [none_set_iff] at ho2; obtain ⟨_, ho2⟩ := ho2)
  refine aL_box rfl rfl rfl v_ rfl g_ fun o3 ho3 => ?_
  repeat (rw [none_set_iff] at ho3; obtain ⟨_, ho3⟩ := ho3)
  refine aL_nil ?_
  obtain ⟨xo, hxo⟩ := WR.some ho
  have n2 := (ne_of_heap hxo ho2).symm
  have n3 := (ne_of_heap hxo ho3).symm
  have wf := WF.alloc (x := .cells (sObj x).cells) (WF.alloc (x := .cells [.ref o 0]) WF.refl ho2 n2) (i := o3) (by simp (disch := omega) only [Store.set_ne, ho3]) n3
  refine awp_seq ?_
  refine awp_region (by kernel_rfl) ?_
  iterate 3 (refine aL_S rfl rfl v_ ?_)
  refine aL_X rfl rfl (AOp_use rfl rfl (.inr ⟨rfl, rfl, rfl⟩) g_ va_ (wrCtx_c (WR.alloc (WR.alloc ho n2) n3) hx.ctx hx.nc (by omega)) ?_); rintro _ τ1 ⟨rfl, a1, a2⟩
  refine aL_nil ?_
  have b1 := WF.keep (i := o2) (x := .cells [.ref o 0]) a2 h_ n2
  have b2 := WF.keep (i := o3) (x := .cells (sObj x).cells) a2 h_ n3
  have R := And.intro b1 b2
  refine awp_region (by kernel_rfl) ?_
  iterate 4 (refine aL_S rfl rfl v_ ?_)
  refine aL_X rfl rfl (AOp_use rfl rfl (.inr ⟨rfl, rfl, rfl⟩) g_ va_ (eachSib_c (wb := sibB) (fun τ => τ.heap o2 = some (.cells [.ref o 0])) (by kernel_rfl) (fun _ _ h k => k.keep h n2) a1 b1 (by simp only [List.length_append, ctxB, listB, beI_length]; omega) (by omega) (fun _ _ _ hm h hb hl => wrSib_c h hb (hx.sibs _ hm) hl)) ?_); rintro _ τ2 ⟨rfl, c1, c2⟩
  refine aL_nil ?_
  refine aEnd_nor v_ (Store.Wk.refl _) ?_
  exact ⟨rfl, by simpa [objB, List.append_assoc] using c1, wf.trans (a2.trans c2)⟩
end Go.Proofs.YtbcgkbdacijoiaaGreat
end

section
set_option linter.all false
set_option maxRecDepth 100000
namespace Go.Proofs.YtbcgkbdacijoiaaGreat
open Go.Ab

def lett (c : Int) : Bool := decide (97 ≤ c) && decide (c ≤ 122) || (decide (48 ≤ c) && decide (c ≤ 57)) || decide (c = 45)
def letB (b : UInt8) : Bool := lett b.toNat
def nameOk (s : ByteArray) : Bool := decide (1 ≤ s.size) && decide (s.size ≤ 16) && (Lb s).all letB
theorem Lb_get {s : ByteArray} {p : Nat} (h : p < s.size) : (Lb s)[p]? = some (s[p]'h) := by
  rw [List.getElem?_eq_getElem (by rw [Lb_length]; exact h)]
  rfl
theorem rune_lo {s : ByteArray} {p : Nat} (h : p < s.size) (ha : (s[p]'h).toNat < 128) : runeAt s p = ((s[p]'h).toNat : Int) ∧ runeW s p = 1 := by
  have := decode_ascii s p h ha
  exact ⟨by rw [runeAt, this], by rw [runeW, this]⟩
theorem rune_let {s : ByteArray} {p : Nat} (h : p < s.size) : lett (runeAt s p) = letB (s[p]'h) ∧ (letB (s[p]'h) = true → runeW s p = 1) := by
  by_cases ha : (s[p]'h).toNat < 128
  · obtain ⟨h1, h2⟩ := rune_lo h ha
    exact ⟨by rw [h1]; rfl, fun _ => h2⟩
  · have h1 := (decode_high s p h (by omega)).1
    have e1 : lett (runeAt s p) = false := by
      have : (128 : Int) ≤ runeAt s p := by unfold runeAt; omega
      unfold lett
      rw [decide_eq_false (show ¬ runeAt s p ≤ 122 by omega), decide_eq_false (show ¬ runeAt s p ≤ 57 by omega), decide_eq_false (show ¬ runeAt s p = 45 by omega)]
      simp
    have e2 : letB (s[p]'h) = false := by
      unfold letB lett
      rw [decide_eq_false (show ¬ (((s[p]'h).toNat : Nat) : Int) ≤ 122 by omega), decide_eq_false (show ¬ (((s[p]'h).toNat : Nat) : Int) ≤ 57 by omega), decide_eq_false (show ¬ (((s[p]'h).toNat : Nat) : Int) = 45 by omega)]
      simp
    exact ⟨by rw [e1, e2], fun hh => by rw [e2] at hh; cases hh⟩
theorem all_take_succ {l : List UInt8} {p : Nat} {c : UInt8} (f : UInt8 → Bool) (h : l[p]? = some c) (ha : (l.take p).all f = true) (hc : f c = true) : (l.take (p + 1)).all f = true := by
  rw [take_snoc h, List.all_append, ha]; simp [hc]
theorem all_not {l : List UInt8} {p : Nat} {c : UInt8} (f : UInt8 → Bool) (h : l[p]? = some c) (hc : f c = false) : l.all f = false := by
  rw [List.all_eq_false]
  exact ⟨c, List.mem_of_getElem? h, by simp [hc]⟩

theorem isLetter_c {c : Int} {σ : Store} : ACalls Tryz.prog 287 [.lit (.int .i32 c)] σ fun v σ' => v = .lit (.bool (lett c)) ∧ σ = σ' := by
  refine ACalls_of Tryz.func287 rfl Tryz.ntmps287 (congrArg Array.toList Tryz.results287) (by simp only [List.length_cons, List.length_nil]; decide) ?_; simp only [envOf_cons, envOf_nil, Nat.reduceAdd]
  refine awp_seq ?_
  refine awp_region (by kernel_rfl) ?_
  (refine aL_S rfl rfl v_ ?_)
  refine aL_nil ?_
  refine awp_seq ?_
  refine awp_region (by kernel_rfl) ?_
  iterate 3 (refine aL_S rfl rfl v_ ?_)
  refine aL_GT rfl rfl v_ rfl vg_ ?_
  refine aL_GT rfl rfl v_ rfl vg_ ?_
  iterate 2 (refine aL_S rfl rfl v_ ?_)
  refine aL_GF rfl rfl v_ rfl vg_ ?_
  refine aL_GF rfl rfl v_ rfl vg_ ?_
  refine aL_GF rfl rfl v_ rfl vg_ ?_
  refine aL_GGT rfl rfl v_ rfl vg_ ?_
  refine aL_GGT rfl rfl v_ rfl vg_ ?_
  refine aL_GF rfl rfl v_ rfl vg_ ?_
  iterate 2 (refine aL_S rfl rfl v_ ?_)
  refine aL_GF rfl rfl v_ rfl vg_ ?_
  refine aL_GF rfl rfl v_ rfl vg_ ?_
  iterate 2 (refine aL_S rfl rfl v_ ?_)
  refine aL_nil ?_
  refine awp_ret ?_
  refine aEnd_ret (σ' := σ) v_ sub_ ?_
  refine ⟨?_, rfl⟩
  try unfold lett
  by_cases h1 : 97 ≤ c <;> by_cases h2 : c ≤ 122 <;> by_cases h3 : 48 ≤ c <;> by_cases h4 : c ≤ 57 <;> by_cases h5 : c = 45 <;> simp [h1, h2, h3, h4, h5]
theorem nameIs_c {s : ByteArray} {σ : Store} (hs : s.size ≤ 1000000000000) : ACalls Tryz.prog 227 [vStr s] σ fun v σ' => v = .lit (.bool (nameOk s)) ∧ σ = σ' := by
  have h0 : s = ⟨#[]⟩ ↔ s.size = 0 := ⟨fun h => by rw [h]; rfl, fun h => by apply ByteArray.ext; exact Array.eq_empty_of_size_eq_zero h⟩
  refine ACalls_of Tryz.func227 rfl Tryz.ntmps227 (congrArg Array.toList Tryz.results227) (by simp only [List.length_cons, List.length_nil]; decide) ?_; simp only [envOf_cons, envOf_nil, Nat.reduceAdd]
  refine awp_seq ?_
  refine awp_region (by kernel_rfl) ?_
  (refine aL_S rfl rfl v_ ?_)
  refine aL_nil ?_
  refine awp_seq ?_
  refine awp_seq ?_
  have R := h0
  refine awp_region (by kernel_rfl) ?_
  iterate 3 (refine aL_S rfl rfl v_ ?_)
  refine aL_GF rfl rfl v_ rfl vg_ ?_
  refine aL_GF rfl rfl v_ rfl vg_ ?_
  refine aL_GF rfl rfl v_ rfl vg_ ?_
  (refine aL_S rfl rfl v_ ?_)
  refine aL_nil ?_
  refine awp_cond v_ (fun hc1 => ?_) (fun hc1 => ?_)
  · replace hc1 := nm_ hc1
    refine awp_seq ?_
    refine awp_region (by kernel_rfl) ?_
    (refine aL_S rfl rfl v_ ?_)
    refine aL_nil ?_
    refine awp_ret ?_
    refine aEnd_ret (σ' := σ) v_ sub_ ?_
    refine ⟨?_, rfl⟩
    simp only [nameOk]
    rcases hc1 with h | h
    · rw [decide_eq_false (show ¬ 1 ≤ s.size by omega)]; rfl
    · rw [decide_eq_false (show ¬ s.size ≤ 16 by omega)]; simp
  · replace hc1 := nm_ hc1
    refine awp_skip ?_
    refine awp_seq ?_
    refine awp_seq ?_
    refine awp_region (by kernel_rfl) ?_
    (refine aL_S rfl rfl v_ ?_)
    refine aL_X rfl rfl (AOp_rangeS rfl g_ va_ fun o13 ho13 => ?_)
    refine aL_nil ?_
    refine awp_block ?_
    refine awp_loop_env (ι := Nat) (fun p => s.size - p) (fun p => p ≤ s.size ∧ ((Lb s).take p).all letB = true) (fun p => [(13, .ref o13 0)]) (fun p => (σ.set o13 (.raw (.stringIter s p)))) 0 ?_ ?_ ?_ ?_
    · exact ⟨Nat.zero_le _, rfl⟩
    · exact cv_
    · exact Store.Wk.refl _
    rintro p ⟨hp, ha⟩
    simp only [envL_cons, envL_nil]
    refine awp_seq ?_
    by_cases hs4 : p < s.size
    · refine awp_region (by kernel_rfl) ?_
      first | (refine aL_X rfl rfl (AOp_nextS rfl va_ (Store.set_get ..) (fun _ => ?_) (fun hp => absurd hs4 hp))) | (refine aL_X rfl rfl (AOp_nextS rfl va_ (Store.set_get ..) (fun hp => absurd hp hs4) (fun _ => ?_)))
      (refine aL_S rfl rfl v_ ?_)
      refine aL_nil ?_
      refine awp_seq ?_
      refine awp_cond v_ (fun hc4 => ?_) (fun hc4 => ?_)
      · replace hc4 := nm_ hc4
        first
          | (exfalso; revert hc4; decide)
          | skip
            refine awp_skip ?_
            refine awp_block ?_
            refine awp_seq ?_
            obtain ⟨hl, hl2⟩ := rune_let hs4
            have hg := Lb_get hs4
            refine awp_region (by kernel_rfl) ?_
            iterate 2 (refine aL_S rfl rfl v_ ?_)
            refine aL_nil ?_
            refine awp_seq ?_
            refine awp_region (by kernel_rfl) ?_
            (refine aL_S rfl rfl v_ ?_)
            refine aL_X rfl rfl (AOp_use rfl rfl (.inr ⟨rfl, rfl, rfl⟩) g_ va_ (isLetter_c) ?_); rintro _ _ ⟨rfl, rfl⟩
            (refine aL_S rfl rfl v_ ?_)
            refine aL_nil ?_
            refine awp_cond v_ (fun hc6 => ?_) (fun hc6 => ?_)
            · replace hc6 := nm_ hc6
              refine awp_seq ?_
              refine awp_region (by kernel_rfl) ?_
              (refine aL_S rfl rfl v_ ?_)
              refine aL_nil ?_
              refine awp_ret ?_
              refine aEnd_ret (σ' := σ) v_ sub_ ?_
              refine ⟨?_, rfl⟩
              have hlf : letB (s[p]'hs4) = false := by rw [← hl]; simpa using hc6
              simp only [nameOk]
              rw [all_not letB hg hlf]; simp
            · replace hc6 := nm_ hc6
              have hlt : letB (s[p]'hs4) = true := by rw [← hl]; simpa using hc6
              have hw := hl2 hlt
              have hnx := all_take_succ letB hg ha hlt
              refine awp_skip ?_
              refine aNext (ι := Nat) (i := p) (p + 1) ?_ ?_ ?_ ?_
              · omega
              · exact ⟨by omega, hnx⟩
              · exact cv_
              · rw [Store.set_set, hw]; exact Store.Wk.refl _
      · replace hc4 := nm_ hc4
        first
          | (exfalso; revert hc4; decide)
          | skip
            refine awp_exit ?_
            refine aThen_exit ?_
            refine aThen_exit ?_
            refine aBlock_hit ?_
            refine awp_seq ?_
            refine awp_region (by kernel_rfl) ?_
            (refine aL_S rfl rfl v_ ?_)
            refine aL_nil ?_
            refine awp_ret ?_
            refine aEnd_ret (σ' := σ) v_ sub_ ?_
            exact ⟨rfl, rfl⟩
    · refine awp_region (by kernel_rfl) ?_
      first | (refine aL_X rfl rfl (AOp_nextS rfl va_ (Store.set_get ..) (fun _ => ?_) (fun hp => absurd hs4 hp))) | (refine aL_X rfl rfl (AOp_nextS rfl va_ (Store.set_get ..) (fun hp => absurd hp hs4) (fun _ => ?_)))
      (refine aL_S rfl rfl v_ ?_)
      refine aL_nil ?_
      refine awp_seq ?_
      refine awp_cond v_ (fun hc4 => ?_) (fun hc4 => ?_)
      · replace hc4 := nm_ hc4
        first
          | (exfalso; revert hc4; decide)
          | skip
            refine awp_skip ?_
            refine awp_block ?_
            refine awp_seq ?_
            obtain ⟨hl, hl2⟩ := rune_let hs4
            have hg := Lb_get hs4
            refine awp_region (by kernel_rfl) ?_
            iterate 2 (refine aL_S rfl rfl v_ ?_)
            refine aL_nil ?_
            refine awp_seq ?_
            refine awp_region (by kernel_rfl) ?_
            (refine aL_S rfl rfl v_ ?_)
            refine aL_X rfl rfl (AOp_use rfl rfl (.inr ⟨rfl, rfl, rfl⟩) g_ va_ (isLetter_c) ?_); rintro _ _ ⟨rfl, rfl⟩
            (refine aL_S rfl rfl v_ ?_)
            refine aL_nil ?_
            refine awp_cond v_ (fun hc6 => ?_) (fun hc6 => ?_)
            · replace hc6 := nm_ hc6
              refine awp_seq ?_
              refine awp_region (by kernel_rfl) ?_
              (refine aL_S rfl rfl v_ ?_)
              refine aL_nil ?_
              refine awp_ret ?_
              refine aEnd_ret (σ' := σ) v_ sub_ ?_
              exact ⟨rfl, rfl⟩
            · replace hc6 := nm_ hc6
              have hlt : letB (s[p]'hs4) = true := by rw [← hl]; simpa using hc6
              have hw := hl2 hlt
              have hnx := all_take_succ letB hg ha hlt
              refine awp_skip ?_
              refine aNext (ι := Nat) (i := p) (p + 1) ?_ ?_ ?_ ?_
              · omega
              · exact ⟨by omega, hnx⟩
              · exact cv_
              · rw [Store.set_set, hw]; exact Store.Wk.refl _
      · replace hc4 := nm_ hc4
        first
          | (exfalso; revert hc4; decide)
          | skip
            refine awp_exit ?_
            refine aThen_exit ?_
            refine aThen_exit ?_
            refine aBlock_hit ?_
            refine awp_seq ?_
            refine awp_region (by kernel_rfl) ?_
            (refine aL_S rfl rfl v_ ?_)
            refine aL_nil ?_
            refine awp_ret ?_
            refine aEnd_ret (σ' := σ) v_ sub_ ?_
            refine ⟨?_, rfl⟩
            obtain rfl : p = s.size := by omega
            rw [List.take_of_length_le (by rw [Lb_length]; exact Nat.le_refl _)] at ha
            simp only [nameOk]
            rw [ha, decide_eq_true (show 1 ≤ s.size by omega), decide_eq_true (show s.size ≤ 16 by omega)]; rfl
theorem letB_iff (c : UInt8) : letB c = true ↔ ((97 ≤ ((c.toNat : Nat) : Int) ∧ ((c.toNat : Nat) : Int) ≤ 122) ∨ (48 ≤ ((c.toNat : Nat) : Int) ∧ ((c.toNat : Nat) : Int) ≤ 57)) ∨ ((c.toNat : Nat) : Int) = 45 := by simp [letB, lett]
theorem rIs_c {s : ByteArray} {σ : Store} (hs : s.size ≤ 1000000000000) : ACalls Tryz.prog 192 [vStr s] σ fun v σ' => v = .lit (.bool (nameOk s)) ∧ σ = σ' := by
  refine ACalls_of Tryz.func192 rfl Tryz.ntmps192 (congrArg Array.toList Tryz.results192) (by simp only [List.length_cons, List.length_nil]; decide) ?_; simp only [envOf_cons, envOf_nil, Nat.reduceAdd]
  refine awp_seq ?_
  refine awp_region (by kernel_rfl) ?_
  (refine aL_S rfl rfl v_ ?_)
  refine aL_nil ?_
  refine awp_seq ?_
  refine awp_seq ?_
  refine awp_region (by kernel_rfl) ?_
  (refine aL_S rfl rfl v_ ?_)
  refine aL_nil ?_
  refine awp_block ?_
  refine awp_loop_env (ι := Nat) (fun p => s.size - p) (fun p => p ≤ s.size ∧ ((Lb s).take p).all letB = true) (fun p => [(0, vStr s), (3, vInt p)]) (fun p => σ) 0 ?_ ?_ ?_ ?_
  · exact ⟨Nat.zero_le _, rfl⟩
  · exact cv_
  · exact sub_
  rintro p ⟨hp, ha⟩
  simp only [envL_cons, envL_nil]
  refine awp_seq ?_
  refine awp_seq ?_
  refine awp_region (by kernel_rfl) ?_
  iterate 4 (refine aL_S rfl rfl v_ ?_)
  refine aL_nil ?_
  refine awp_cond v_ (fun hc2 => ?_) (fun hc2 => ?_)
  · replace hc2 := nm_ hc2
    refine awp_skip ?_
    refine awp_seq ?_
    refine awp_block ?_
    refine awp_seq ?_
    have hp' : p < s.size := by omega
    have hg := Lb_get hp'
    have hg2 : s[p]? = some (s[p]'hp') := getElem?_pos s p hp'
    obtain ⟨c, hc⟩ : ∃ c, s[p]'hp' = c := ⟨_, rfl⟩
    rw [hc] at hg hg2
    have hcl := letB_iff c
    have R := hg2
    refine awp_region (by kernel_rfl) ?_
    iterate 5 (refine aL_S rfl rfl v_ ?_)
    refine aL_GF rfl rfl v_ rfl vg_ ?_
    refine aL_GF rfl rfl v_ rfl vg_ ?_
    refine aL_GF rfl rfl v_ rfl vg_ ?_
    refine aL_GF rfl rfl v_ rfl vg_ ?_
    iterate 2 (refine aL_S rfl rfl v_ ?_)
    refine aL_GT rfl rfl v_ rfl vg_ ?_
    refine aL_GT rfl rfl v_ rfl vg_ ?_
    refine aL_GT rfl rfl v_ rfl vg_ ?_
    refine aL_GT rfl rfl v_ rfl vg_ ?_
    refine aL_GT rfl rfl v_ rfl vg_ ?_
    refine aL_GGF rfl rfl v_ rfl vg_ ?_
    refine aL_GGF rfl rfl v_ rfl vg_ ?_
    refine aL_GGF rfl rfl v_ rfl vg_ ?_
    refine aL_GGF rfl rfl v_ rfl vg_ ?_
    refine aL_GT rfl rfl v_ rfl vg_ ?_
    iterate 2 (refine aL_S rfl rfl v_ ?_)
    refine aL_GT rfl rfl v_ rfl vg_ ?_
    refine aL_GT rfl rfl v_ rfl vg_ ?_
    refine aL_GT rfl rfl v_ rfl vg_ ?_
    refine aL_GT rfl rfl v_ rfl vg_ ?_
    (refine aL_S rfl rfl v_ ?_)
    refine aL_nil ?_
    refine awp_cond v_ (fun hc4 => ?_) (fun hc4 => ?_)
    · replace hc4 := nm_ hc4
      skip
      have hlf : letB c = false := by
        cases h : letB c with
        | false => rfl
        | true => rw [hcl] at h; omega
      refine awp_seq ?_
      refine awp_region (by kernel_rfl) ?_
      (refine aL_S rfl rfl v_ ?_)
      refine aL_nil ?_
      refine awp_ret ?_
      refine aEnd_ret (σ' := σ) v_ sub_ ?_
      refine ⟨?_, rfl⟩
      simp only [nameOk]
      rw [all_not letB hg hlf]; simp
    · replace hc4 := nm_ hc4
      have hnx := all_take_succ letB hg ha (hcl.2 (by omega))
      refine awp_skip ?_
      refine awp_region (by kernel_rfl) ?_
      iterate 3 (refine aL_S rfl rfl v_ ?_)
      refine aL_nil ?_
      refine aNext (ι := Nat) (i := p) (p + 1) ?_ ?_ ?_ ?_
      · omega
      · exact ⟨by omega, hnx⟩
      · exact cv_
      · exact sub_
  · replace hc2 := nm_ hc2
    refine awp_exit ?_
    refine aThen_exit ?_
    refine aThen_exit ?_
    refine aBlock_hit ?_
    refine awp_seq ?_
    refine awp_region (by kernel_rfl) ?_
    iterate 4 (refine aL_S rfl rfl v_ ?_)
    refine aL_GT rfl rfl v_ rfl vg_ ?_
    refine aL_GT rfl rfl v_ rfl vg_ ?_
    refine aL_GT rfl rfl v_ rfl vg_ ?_
    iterate 2 (refine aL_S rfl rfl v_ ?_)
    refine aL_nil ?_
    refine awp_ret ?_
    refine aEnd_ret (σ' := σ) v_ sub_ ?_
    refine ⟨?_, rfl⟩
    obtain rfl : p = s.size := by omega
    rw [List.take_of_length_le (by rw [Lb_length]; exact Nat.le_refl _)] at ha
    simp only [nameOk]
    rw [ha, Bool.and_true]
    congr 2
    rw [Bool.eq_iff_iff]; simp; omega
end Go.Proofs.YtbcgkbdacijoiaaGreat
end

section
set_option linter.all false
set_option maxRecDepth 100000
namespace Go.Proofs.YtbcgkbdacijoiaaGreat
open Go.Ab

def riseOk : Int → List Int → Bool
  | _, [] => true
  | last, n :: l => decide (last < n) && decide (n ≤ 9007199254740992) && riseOk n l
def seenHd (x : Seen) : Bool := nameOk x.node && decide (0 ≤ x.base) && decide (x.base ≤ 9007199254740992) && !(decide (x.base = 0) && decide (x.more.length = 0))
def seenOk (x : Seen) : Bool := seenHd x && riseOk (x.base + 1) x.more
def aheadOk (pv : Option ByteArray) (s : ByteArray) : Bool := match pv with | none => true | some p => sLt p s
def ctxGo : Option ByteArray → Int → List Seen → Bool
  | _, _, [] => true
  | pv, room, x :: l => seenOk x && aheadOk pv x.node && decide ((x.more.length : Int) ≤ room) && ctxGo (some x.node) (room - x.more.length) l
def ctxOk (c : List Seen) : Bool := ctxGo none 4096 c
theorem drop_cons {α : Type} {l : List α} {k : Nat} {x : α} (h : l[k]? = some x) : l.drop k = x :: l.drop (k + 1) := by
  obtain ⟨hk, rfl⟩ := List.getElem?_eq_some_iff.1 h
  exact List.drop_eq_getElem_cons hk
theorem get_some {α : Type} {l : List α} {k : Nat} (h : k < l.length) : ∃ x, l[k]? = some x := ⟨l[k], List.getElem?_eq_getElem h⟩
theorem seenHd_false {x : Seen} (h : seenHd x = false) : seenOk x = false := by simp [seenOk, h]

theorem seenHd_yes {x : Seen} (h : ((nameOk x.node = true ∧ 0 ≤ x.base) ∧ x.base ≤ 9007199254740992) ∧ (¬ x.base = 0 ∨ ¬ (x.more.length : Int) = 0)) : seenHd x = true := by
  obtain ⟨⟨⟨h1, h2⟩, h3⟩, h4⟩ := h
  unfold seenHd
  rw [h1, decide_eq_true h2, decide_eq_true h3]
  rcases h4 with h | h
  · rw [decide_eq_false h]; rfl
  · rw [decide_eq_false (show ¬ x.more.length = 0 by omega)]; simp
theorem seenHd_not {x : Seen} (h : ((nameOk x.node = false ∨ x.base < 0) ∨ 9007199254740992 < x.base) ∨ x.base = 0 ∧ (x.more.length : Int) = 0) : seenHd x = false := by
  unfold seenHd
  rcases h with ((h | h) | h) | ⟨h, h'⟩
  · rw [h]; rfl
  · rw [decide_eq_false (show ¬ 0 ≤ x.base by omega)]; simp
  · rw [decide_eq_false (show ¬ x.base ≤ 9007199254740992 by omega)]; simp
  · rw [decide_eq_true h, decide_eq_true (show x.more.length = 0 by omega)]; simp
theorem isSeen_c {x : Seen} {σ : Store} (hx : SeenSm x) : ACalls Tryz.prog 229 [sSeen x] σ fun v σ' => v = .lit (.bool (seenOk x)) ∧ σ = σ' := by
  have h1 := hx.node; have h2 := hx.more
  refine ACalls_of Tryz.func229 rfl Tryz.ntmps229 (congrArg Array.toList Tryz.results229) (by simp only [List.length_cons, List.length_nil]; decide) ?_; simp only [envOf_cons, envOf_nil, Nat.reduceAdd]
  refine awp_seq ?_
  refine awp_region (by kernel_rfl) ?_
  refine aL_box rfl rfl rfl v_ rfl g_ fun o1 ho1 => ?_
  repeat (rw [none_set_iff] at ho1; obtain ⟨_, ho1⟩ := ho1)
  (refine aL_S rfl rfl v_ ?_)
  refine aL_nil ?_
  refine awp_seq ?_
  refine awp_seq ?_
  refine awp_region (by kernel_rfl) ?_
  iterate 2 (refine aL_S rfl rfl v_ ?_)
  refine aL_X rfl rfl (AOp_use rfl rfl (.inr ⟨rfl, rfl, rfl⟩) g_ va_ (nameIs_c (by omega)) ?_); rintro _ _ ⟨rfl, rfl⟩
  iterate 2 (refine aL_S rfl rfl v_ ?_)
  refine aL_GF rfl rfl v_ rfl vg_ ?_
  refine aL_GF rfl rfl v_ rfl vg_ ?_
  refine aL_GF rfl rfl v_ rfl vg_ ?_
  iterate 2 (refine aL_S rfl rfl v_ ?_)
  refine aL_GF rfl rfl v_ rfl vg_ ?_
  refine aL_GF rfl rfl v_ rfl vg_ ?_
  refine aL_GF rfl rfl v_ rfl vg_ ?_
  iterate 2 (refine aL_S rfl rfl v_ ?_)
  refine aL_GF rfl rfl v_ rfl vg_ ?_
  refine aL_GF rfl rfl v_ rfl vg_ ?_
  refine aL_GF rfl rfl v_ rfl vg_ ?_
  refine aL_GF rfl rfl v_ rfl vg_ ?_
  refine aL_GGT rfl rfl v_ rfl vg_ ?_
  refine aL_GGT rfl rfl v_ rfl vg_ ?_
  refine aL_GGT rfl rfl v_ rfl vg_ ?_
  refine aL_GGT rfl rfl v_ rfl vg_ ?_
  refine aL_GF rfl rfl v_ rfl vg_ ?_
  (refine aL_S rfl rfl v_ ?_)
  refine aL_nil ?_
  refine awp_cond v_ (fun hc1 => ?_) (fun hc1 => ?_)
  · replace hc1 := nm_ hc1
    skip
    have hf : seenOk x = false := by
      refine seenHd_false ?_
      exact seenHd_not hc1
    refine awp_seq ?_
    refine awp_region (by kernel_rfl) ?_
    (refine aL_S rfl rfl v_ ?_)
    refine aL_nil ?_
    refine awp_ret ?_
    refine aEnd_ret (σ' := σ) v_ sub_ ?_
    exact ⟨by rw [hf], rfl⟩
  · replace hc1 := nm_ hc1
    skip
    have hf : seenHd x = true := seenHd_yes hc1
    have hb : 0 ≤ x.base ∧ x.base ≤ 9007199254740992 := by omega
    refine awp_skip ?_
    refine awp_seq ?_
    refine awp_region (by kernel_rfl) ?_
    iterate 4 (refine aL_S rfl rfl v_ ?_)
    refine aL_nil ?_
    refine awp_seq ?_
    refine awp_seq ?_
    refine awp_region (by kernel_rfl) ?_
    iterate 4 (refine aL_S rfl rfl v_ ?_)
    refine aL_nil ?_
    refine awp_block ?_
    refine awp_loop_env (ι := Nat × Int) (fun ⟨k, z⟩ => x.more.length - k) (fun ⟨k, z⟩ => k ≤ x.more.length ∧ riseOk z (x.more.drop k) = riseOk (x.base + 1) x.more) (fun ⟨k, z⟩ => [(3, vInt z), (35, .sl 1 (x.more.map vInt) false), (36, vInt x.more.length), (37, vInt k)]) (fun ⟨k, z⟩ => (σ.set o1 (.cells (sSeen x).cells))) (0, x.base + 1) ?_ ?_ ?_ ?_
    · exact ⟨Nat.zero_le _, rfl⟩
    · exact cv_
    · exact Store.Wk.refl _
    rintro ⟨k, z⟩ ⟨hk, hr⟩
    simp only [envL_cons, envL_nil]
    refine awp_seq ?_
    refine awp_region (by kernel_rfl) ?_
    (refine aL_S rfl rfl v_ ?_)
    refine aL_nil ?_
    refine awp_seq ?_
    refine awp_cond v_ (fun hc5 => ?_) (fun hc5 => ?_)
    · replace hc5 := nm_ hc5
      refine awp_skip ?_
      refine awp_seq ?_
      refine awp_block ?_
      refine awp_seq ?_
      obtain ⟨n, hn⟩ := get_some (l := x.more) (k := k) (by omega)
      have hrn : riseOk z (x.more.drop k) = (decide (z < n) && decide (n ≤ 9007199254740992) && riseOk n (x.more.drop (k + 1))) := by rw [drop_cons hn]; rfl
      have R := hn
      refine awp_region (by kernel_rfl) ?_
      iterate 3 (refine aL_S rfl rfl v_ ?_)
      refine aL_nil ?_
      refine awp_seq ?_
      refine awp_seq ?_
      refine awp_region (by kernel_rfl) ?_
      iterate 4 (refine aL_S rfl rfl v_ ?_)
      refine aL_GF rfl rfl v_ rfl vg_ ?_
      refine aL_GF rfl rfl v_ rfl vg_ ?_
      (refine aL_S rfl rfl v_ ?_)
      refine aL_nil ?_
      refine awp_cond v_ (fun hc7 => ?_) (fun hc7 => ?_)
      · replace hc7 := nm_ hc7
        refine awp_seq ?_
        refine awp_region (by kernel_rfl) ?_
        (refine aL_S rfl rfl v_ ?_)
        refine aL_nil ?_
        refine awp_ret ?_
        refine aEnd_ret (σ' := σ) v_ sub_ ?_
        refine ⟨?_, rfl⟩
        have : seenOk x = false := by
          unfold seenOk
          rw [← hr, hrn]
          rcases hc7 with h | h
          · rw [decide_eq_false (show ¬ z < n by omega)]; simp
          · rw [decide_eq_false (show ¬ n ≤ 9007199254740992 by omega)]; simp
        rw [this]
      · replace hc7 := nm_ hc7
        refine awp_skip ?_
        refine awp_region (by kernel_rfl) ?_
        iterate 2 (refine aL_S rfl rfl v_ ?_)
        refine aL_nil ?_
        refine awp_region (by kernel_rfl) ?_
        iterate 2 (refine aL_S rfl rfl v_ ?_)
        refine aL_nil ?_
        refine aNext (ι := Nat × Int) (i := ⟨k, z⟩) (k + 1, n) ?_ ?_ ?_ ?_
        · show x.more.length - (k + 1) < x.more.length - k; omega
        · exact ⟨by show k + 1 ≤ x.more.length; omega, by rw [← hr, hrn, decide_eq_true (show z < n by omega), decide_eq_true (show n ≤ 9007199254740992 by omega)]; rfl⟩
        · exact cv_
        · exact Store.Wk.refl _
    · replace hc5 := nm_ hc5
      refine awp_exit ?_
      refine aThen_exit ?_
      refine aThen_exit ?_
      refine aBlock_hit ?_
      refine awp_seq ?_
      refine awp_region (by kernel_rfl) ?_
      (refine aL_S rfl rfl v_ ?_)
      refine aL_nil ?_
      refine awp_ret ?_
      refine aEnd_ret (σ' := σ) v_ sub_ ?_
      refine ⟨?_, rfl⟩
      have : seenOk x = true := by
        unfold seenOk
        rw [← hr, hf, List.drop_eq_nil_of_le (by omega)]; rfl
      rw [this]
def pvOf (c : List Seen) (k : Nat) : Option ByteArray := if k = 0 then none else (c[k - 1]?).map (·.node)
theorem pv_next {c : List Seen} {k : Nat} {x : Seen} (h : c[k]? = some x) : pvOf c (k + 1) = some x.node := by simp [pvOf, h]
theorem pv_prev (c : List Seen) (k : Nat) (hk : k < c.length) : ∃ y : Seen, (0 < k → c[((k : Int) - 1).toNat]? = some y) ∧ ∀ s, aheadOk (pvOf c k) s = (decide (k = 0) || sLt y.node s) := by
  by_cases h0 : k = 0
  · subst h0
    exact ⟨⟨.empty, 0, []⟩, fun h => by omega, fun s => rfl⟩
  · obtain ⟨y, hy⟩ := get_some (l := c) (k := k - 1) (by omega)
    have e : ((k : Int) - 1).toNat = k - 1 := by omega
    exact ⟨y, fun _ => by rw [e]; exact hy, fun s => by simp [pvOf, h0, hy, aheadOk]⟩
theorem ctx_no {a b : Bool} {n room : Int} {r : Bool} {k : Nat} {s : Bool} (hb : b = (decide (k = 0) || s)) (h : (a = false ∨ 0 < (k : Int) ∧ s = false) ∨ room < n) : (a && b && decide (n ≤ room) && r) = false := by
  rcases h with (h | ⟨h, h'⟩) | h
  · rw [h]; rfl
  · rw [hb, h', decide_eq_false (show ¬ k = 0 by omega)]; simp
  · rw [decide_eq_false (show ¬ n ≤ room by omega)]; simp
theorem ctx_yes {a b : Bool} {n room : Int} {r : Bool} {k : Nat} {s : Bool} (hb : b = (decide (k = 0) || s)) (h : (a = true ∧ ((k : Int) ≤ 0 ∨ s = true)) ∧ n ≤ room) : (a && b && decide (n ≤ room) && r) = r := by
  obtain ⟨⟨h1, h2⟩, h3⟩ := h
  have : b = true := by
    rw [hb]
    rcases h2 with h | h
    · rw [decide_eq_true (show k = 0 by omega)]; rfl
    · rw [h]; simp
  rw [h1, this, decide_eq_true h3]; rfl
theorem check_c {c : List Seen} {t : Bool} {σ : Store} (hx : ∀ x ∈ c, SeenSm x) (hn : c.length ≤ 1000000) : ACalls Tryz.prog 156 [.sl 3 (c.map sSeen) t] σ fun v σ' => v = vInt (if ctxOk c then 0 else 1) ∧ σ = σ' := by
  refine ACalls_of Tryz.func156 rfl Tryz.ntmps156 (congrArg Array.toList Tryz.results156) (by simp only [List.length_cons, List.length_nil]; decide) ?_; simp only [envOf_cons, envOf_nil, Nat.reduceAdd]
  refine awp_seq ?_
  refine awp_region (by kernel_rfl) ?_
  (refine aL_S rfl rfl v_ ?_)
  refine aL_nil ?_
  refine awp_seq ?_
  refine awp_region (by kernel_rfl) ?_
  (refine aL_S rfl rfl v_ ?_)
  refine aL_nil ?_
  refine awp_seq ?_
  refine awp_seq ?_
  refine awp_region (by kernel_rfl) ?_
  iterate 3 (refine aL_S rfl rfl v_ ?_)
  refine aL_nil ?_
  refine awp_block ?_
  refine awp_loop_env (ι := Nat × Int) (fun ⟨k, room⟩ => c.length - k) (fun ⟨k, room⟩ => k ≤ c.length ∧ ctxGo (pvOf c k) room (c.drop k) = ctxOk c ∧ (room ≤ 4096 ∧ 0 ≤ room)) (fun ⟨k, room⟩ => [(0, .sl 3 (c.map sSeen) t), (3, vInt room), (6, .sl 3 (c.map sSeen) t), (7, vInt c.length), (8, vInt k)]) (fun ⟨k, room⟩ => σ) (0, 4096) ?_ ?_ ?_ ?_
  · exact ⟨Nat.zero_le _, rfl, by decide⟩
  · exact cv_
  · exact sub_
  rintro ⟨k, room⟩ ⟨hk, hr, hrm⟩
  simp only [envL_cons, envL_nil]
  refine awp_seq ?_
  refine awp_region (by kernel_rfl) ?_
  (refine aL_S rfl rfl v_ ?_)
  refine aL_nil ?_
  refine awp_seq ?_
  refine awp_cond v_ (fun hc3 => ?_) (fun hc3 => ?_)
  · replace hc3 := nm_ hc3
    refine awp_skip ?_
    refine awp_seq ?_
    refine awp_block ?_
    refine awp_seq ?_
    obtain ⟨x, hxk⟩ := get_some (l := c) (k := k) (by omega)
    have hsx := hx x (List.mem_of_getElem? hxk)
    have hlm := hsx.more
    obtain ⟨y, hy, hah⟩ := pv_prev c k (by omega)
    have hst : ctxGo (pvOf c k) room (c.drop k) = (seenOk x && aheadOk (pvOf c k) x.node && decide ((x.more.length : Int) ≤ room) && ctxGo (some x.node) (room - x.more.length) (c.drop (k + 1))) := by rw [drop_cons hxk]; rfl
    have R := hxk
    refine awp_region (by kernel_rfl) ?_
    iterate 3 (refine aL_S rfl rfl v_ ?_)
    refine aL_alloc rfl rfl rfl g_ gl_ fun o5 ho5 => ?_
    repeat (rw [none_set_iff] at ho5; obtain ⟨_, ho5⟩ := ho5)
    (refine aL_S rfl rfl v_ ?_)
    refine aL_store rfl rfl rfl v_ v_ h_ g_ rfl g_ c_ (by rfl) le_ v_ ?_
    refine aL_nil ?_
    refine awp_seq ?_
    refine awp_seq ?_
    have R := hy
    refine awp_draw (.op 0 0 (.op 1 1 (.op 2 0 (.op 3 0 (.op 4 0 (.op 5 0 (.op 6 0 (.op 7 0 (.op 8 0 (.op 9 0 (.op 10 0 (.op 11 0 (.op 12 0 (.op 13 0 (.op 14 0 (.op 15 0 (.op 16 0 (.op 17 0 (.op 18 0 (.op 19 0 (.op 20 0 (.op 21 0 (.op 22 0 (.op 23 0 (.op 24 0 .nil))))))))))))))))))))))))) Tryz.mixed (by kernel_rfl) ?_
    (refine dR_S o_ (by rfl) (by rfl) v_ ?_)
    refine dR_X o_ (by rfl) (by rfl) (AOp_use (by rfl) (by rfl) (.inr ⟨by rfl, by rfl, by rfl⟩) g_ va_ (isSeen_c hsx) ?_); rintro _ _ ⟨rfl, rfl⟩; refine ⟨sub_, ?_⟩
    iterate 2 (refine dR_S o_ (by rfl) (by rfl) v_ ?_)
    refine dR_GF o_ (by rfl) (by rfl) v_ (by rfl) vg_ ?_
    refine dR_GF o_ (by rfl) (by rfl) v_ (by rfl) vg_ ?_
    refine dR_GF o_ (by rfl) (by rfl) v_ (by rfl) vg_ ?_
    refine dR_GGT o_ (by rfl) (by rfl) v_ (by rfl) vg_ ?_
    refine dR_GGT o_ (by rfl) (by rfl) v_ (by rfl) vg_ ?_
    refine dR_GGT o_ (by rfl) (by rfl) v_ (by rfl) vg_ ?_
    refine dR_GGT o_ (by rfl) (by rfl) v_ (by rfl) vg_ ?_
    refine dR_GGT o_ (by rfl) (by rfl) v_ (by rfl) vg_ ?_
    refine dR_GGT o_ (by rfl) (by rfl) v_ (by rfl) vg_ ?_
    refine dR_GGT o_ (by rfl) (by rfl) v_ (by rfl) vg_ ?_
    refine dR_GGT o_ (by rfl) (by rfl) v_ (by rfl) vg_ ?_
    refine dR_GGT o_ (by rfl) (by rfl) v_ (by rfl) vg_ ?_
    refine dR_GF o_ (by rfl) (by rfl) v_ (by rfl) vg_ ?_
    iterate 2 (refine dR_S o_ (by rfl) (by rfl) v_ ?_)
    refine dR_GF o_ (by rfl) (by rfl) v_ (by rfl) vg_ ?_
    refine dR_GF o_ (by rfl) (by rfl) v_ (by rfl) vg_ ?_
    refine dR_GF o_ (by rfl) (by rfl) v_ (by rfl) vg_ ?_
    refine dR_GF o_ (by rfl) (by rfl) v_ (by rfl) vg_ ?_
    refine dR_GF o_ (by rfl) (by rfl) v_ (by rfl) vg_ ?_
    (refine dR_S o_ (by rfl) (by rfl) v_ ?_)
    refine dR_nil ?_
    refine awp_cond v_ (fun hc5 => ?_) (fun hc5 => ?_)
    · replace hc5 := nm_ hc5
      refine awp_seq ?_
      refine awp_region (by kernel_rfl) ?_
      (refine aL_S rfl rfl v_ ?_)
      refine aL_nil ?_
      refine awp_ret ?_
      refine aEnd_ret (σ' := σ) v_ sub_ ?_
      refine ⟨?_, rfl⟩
      rw [← hr, hst, ctx_no (hah _) hc5]; rfl
    · replace hc5 := nm_ hc5
      have hnx : ctxGo (pvOf c (k + 1)) (room - x.more.length) (c.drop (k + 1)) = ctxOk c := by rw [pv_next hxk, ← hr, hst, ctx_yes (hah _) hc5]
      have hrm2 : room - (x.more.length : Int) ≤ 4096 ∧ 0 ≤ room - (x.more.length : Int) := by omega
      refine awp_skip ?_
      refine awp_region (by kernel_rfl) ?_
      iterate 6 (refine aL_S rfl rfl v_ ?_)
      refine aL_nil ?_
      refine awp_region (by kernel_rfl) ?_
      iterate 2 (refine aL_S rfl rfl v_ ?_)
      refine aL_nil ?_
      refine aNext (ι := Nat × Int) (i := ⟨k, room⟩) (k + 1, room - x.more.length) ?_ ?_ ?_ ?_
      · show c.length - (k + 1) < c.length - k; omega
      · exact ⟨by show k + 1 ≤ c.length; omega, hnx, hrm2⟩
      · exact cv_
      · exact sub_
  · replace hc3 := nm_ hc3
    refine awp_exit ?_
    refine aThen_exit ?_
    refine aThen_exit ?_
    refine aBlock_hit ?_
    refine awp_seq ?_
    refine awp_region (by kernel_rfl) ?_
    (refine aL_S rfl rfl v_ ?_)
    refine aL_nil ?_
    refine awp_ret ?_
    refine aEnd_ret (σ' := σ) v_ sub_ ?_
    refine ⟨?_, rfl⟩
    rw [← hr, List.drop_eq_nil_of_le (by omega)]; rfl
theorem may_hd {x : Seen} {k : Nat} {s : Bool} {n : Int} (h : ((((nameOk x.node = true ∧ ((k : Int) ≤ 0 ∨ s = true)) ∧ 0 ≤ x.base) ∧ x.base ≤ 9007199254740992) ∧ (¬ x.base = 0 ∨ ¬ (x.more.length : Int) = 0)) ∧ (x.more.length : Int) ≤ n) : seenHd x = true ∧ ((k : Int) ≤ 0 ∨ s = true) ∧ (x.more.length : Int) ≤ n :=
  ⟨seenHd_yes ⟨⟨⟨h.1.1.1.1.1, h.1.1.1.2⟩, h.1.1.2⟩, h.1.2⟩, h.1.1.1.1.2, h.2⟩
theorem may_not {x : Seen} {k : Nat} {s : Bool} {n : Int} (h : ((((nameOk x.node = false ∨ (0 < (k : Int) ∧ s = false)) ∨ x.base < 0) ∨ 9007199254740992 < x.base) ∨ (x.base = 0 ∧ (x.more.length : Int) = 0)) ∨ n < (x.more.length : Int)) : (seenHd x = false ∨ 0 < (k : Int) ∧ s = false) ∨ n < (x.more.length : Int) := by
  rcases h with ((((h | h) | h) | h) | h) | h
  · exact .inl (.inl (seenHd_not (.inl (.inl (.inl h)))))
  · exact .inl (.inr h)
  · exact .inl (.inl (seenHd_not (.inl (.inl (.inr h)))))
  · exact .inl (.inl (seenHd_not (.inl (.inr h))))
  · exact .inl (.inl (seenHd_not (.inr h)))
  · exact .inr h
theorem rMay06_c {c : List Seen} {t : Bool} {σ : Store} (hx : ∀ x ∈ c, SeenSm x) (hn : c.length ≤ 1000000) : ACalls Tryz.prog 114 [.sl 3 (c.map sSeen) t] σ fun v σ' => v = .lit (.bool (ctxOk c)) ∧ σ = σ' := by
  refine ACalls_of Tryz.func114 rfl Tryz.ntmps114 (congrArg Array.toList Tryz.results114) (by simp only [List.length_cons, List.length_nil]; decide) ?_; simp only [envOf_cons, envOf_nil, Nat.reduceAdd]
  refine awp_seq ?_
  refine awp_region (by kernel_rfl) ?_
  (refine aL_S rfl rfl v_ ?_)
  refine aL_nil ?_
  refine awp_seq ?_
  refine awp_region (by kernel_rfl) ?_
  (refine aL_S rfl rfl v_ ?_)
  refine aL_nil ?_
  refine awp_seq ?_
  refine awp_seq ?_
  refine awp_region (by kernel_rfl) ?_
  (refine aL_S rfl rfl v_ ?_)
  refine aL_nil ?_
  refine awp_block ?_
  refine awp_loop_env (ι := Nat × Int) (fun ⟨k, n⟩ => c.length - k) (fun ⟨k, n⟩ => k ≤ c.length ∧ ctxGo (pvOf c k) (4096 - n) (c.drop k) = ctxOk c ∧ (n ≤ 4096 ∧ 0 ≤ n)) (fun ⟨k, n⟩ => [(0, .sl 3 (c.map sSeen) t), (3, vInt n), (4, vInt k)]) (fun ⟨k, n⟩ => σ) (0, 0) ?_ ?_ ?_ ?_
  · exact ⟨Nat.zero_le _, rfl, by decide⟩
  · exact cv_
  · exact sub_
  rintro ⟨k, n⟩ ⟨hk, hr, hrm⟩
  simp only [envL_cons, envL_nil]
  refine awp_seq ?_
  refine awp_seq ?_
  refine awp_region (by kernel_rfl) ?_
  iterate 4 (refine aL_S rfl rfl v_ ?_)
  refine aL_nil ?_
  refine awp_cond v_ (fun hc3 => ?_) (fun hc3 => ?_)
  · replace hc3 := nm_ hc3
    refine awp_skip ?_
    refine awp_seq ?_
    refine awp_block ?_
    refine awp_seq ?_
    obtain ⟨x, hxk⟩ := get_some (l := c) (k := k) (by omega)
    have hsx := hx x (List.mem_of_getElem? hxk)
    have hlm := hsx.more
    have hnm := hsx.node
    obtain ⟨y, hy, hah⟩ := pv_prev c k (by omega)
    have hst : ctxGo (pvOf c k) (4096 - n) (c.drop k) = ((seenHd x && riseOk (x.base + 1) x.more) && aheadOk (pvOf c k) x.node && decide ((x.more.length : Int) ≤ 4096 - n) && ctxGo (some x.node) (4096 - n - x.more.length) (c.drop (k + 1))) := by rw [drop_cons hxk]; rfl
    have R := hxk
    refine awp_region (by kernel_rfl) ?_
    iterate 4 (refine aL_S rfl rfl v_ ?_)
    refine aL_alloc rfl rfl rfl g_ gl_ fun o5 ho5 => ?_
    repeat (rw [none_set_iff] at ho5; obtain ⟨_, ho5⟩ := ho5)
    refine aL_store rfl rfl rfl v_ v_ h_ g_ rfl g_ c_ (by rfl) le_ v_ ?_
    refine aL_nil ?_
    refine awp_seq ?_
    refine awp_seq ?_
    have R := hy
    refine awp_draw (.op 0 0 (.op 1 0 (.op 2 1 (.op 3 0 (.op 4 0 (.op 5 0 (.op 6 0 (.op 7 0 (.op 8 0 (.op 9 0 (.op 10 0 (.op 11 0 (.op 12 0 (.op 13 0 (.op 14 0 (.op 15 0 (.op 16 0 (.op 17 0 (.op 18 0 (.op 19 0 (.op 20 0 (.op 21 0 (.op 22 0 (.op 23 0 (.op 24 0 (.op 25 0 (.op 26 0 (.op 27 0 (.op 28 0 (.op 29 0 (.op 30 0 (.op 31 0 (.op 32 0 (.op 33 0 (.op 34 0 (.op 35 0 (.op 36 0 (.op 37 0 (.op 38 0 (.op 39 0 (.op 40 0 (.op 41 0 (.op 42 0 (.op 43 0 (.op 44 0 (.op 45 0 (.op 46 0 (.op 47 0 .nil)))))))))))))))))))))))))))))))))))))))))))))))) Tryz.mixed (by kernel_rfl) ?_
    iterate 2 (refine dR_S o_ (by rfl) (by rfl) v_ ?_)
    refine dR_X o_ (by rfl) (by rfl) (AOp_use (by rfl) (by rfl) (.inr ⟨by rfl, by rfl, by rfl⟩) g_ va_ (rIs_c (by omega)) ?_); rintro _ _ ⟨rfl, rfl⟩; refine ⟨sub_, ?_⟩
    iterate 2 (refine dR_S o_ (by rfl) (by rfl) v_ ?_)
    refine dR_GF o_ (by rfl) (by rfl) v_ (by rfl) vg_ ?_
    refine dR_GF o_ (by rfl) (by rfl) v_ (by rfl) vg_ ?_
    refine dR_GF o_ (by rfl) (by rfl) v_ (by rfl) vg_ ?_
    refine dR_GGT o_ (by rfl) (by rfl) v_ (by rfl) vg_ ?_
    refine dR_GGT o_ (by rfl) (by rfl) v_ (by rfl) vg_ ?_
    refine dR_GGT o_ (by rfl) (by rfl) v_ (by rfl) vg_ ?_
    refine dR_GGT o_ (by rfl) (by rfl) v_ (by rfl) vg_ ?_
    refine dR_GGT o_ (by rfl) (by rfl) v_ (by rfl) vg_ ?_
    refine dR_GGT o_ (by rfl) (by rfl) v_ (by rfl) vg_ ?_
    refine dR_GGT o_ (by rfl) (by rfl) v_ (by rfl) vg_ ?_
    refine dR_GGT o_ (by rfl) (by rfl) v_ (by rfl) vg_ ?_
    refine dR_GGT o_ (by rfl) (by rfl) v_ (by rfl) vg_ ?_
    refine dR_GF o_ (by rfl) (by rfl) v_ (by rfl) vg_ ?_
    iterate 2 (refine dR_S o_ (by rfl) (by rfl) v_ ?_)
    refine dR_GF o_ (by rfl) (by rfl) v_ (by rfl) vg_ ?_
    refine dR_GF o_ (by rfl) (by rfl) v_ (by rfl) vg_ ?_
    refine dR_GF o_ (by rfl) (by rfl) v_ (by rfl) vg_ ?_
    iterate 2 (refine dR_S o_ (by rfl) (by rfl) v_ ?_)
    refine dR_GF o_ (by rfl) (by rfl) v_ (by rfl) vg_ ?_
    refine dR_GF o_ (by rfl) (by rfl) v_ (by rfl) vg_ ?_
    refine dR_GF o_ (by rfl) (by rfl) v_ (by rfl) vg_ ?_
    iterate 2 (refine dR_S o_ (by rfl) (by rfl) v_ ?_)
    refine dR_GF o_ (by rfl) (by rfl) v_ (by rfl) vg_ ?_
    refine dR_GF o_ (by rfl) (by rfl) v_ (by rfl) vg_ ?_
    refine dR_GF o_ (by rfl) (by rfl) v_ (by rfl) vg_ ?_
    refine dR_GF o_ (by rfl) (by rfl) v_ (by rfl) vg_ ?_
    refine dR_GGT o_ (by rfl) (by rfl) v_ (by rfl) vg_ ?_
    refine dR_GGT o_ (by rfl) (by rfl) v_ (by rfl) vg_ ?_
    refine dR_GGT o_ (by rfl) (by rfl) v_ (by rfl) vg_ ?_
    refine dR_GGT o_ (by rfl) (by rfl) v_ (by rfl) vg_ ?_
    refine dR_GF o_ (by rfl) (by rfl) v_ (by rfl) vg_ ?_
    iterate 2 (refine dR_S o_ (by rfl) (by rfl) v_ ?_)
    refine dR_GF o_ (by rfl) (by rfl) v_ (by rfl) vg_ ?_
    refine dR_GF o_ (by rfl) (by rfl) v_ (by rfl) vg_ ?_
    refine dR_GF o_ (by rfl) (by rfl) v_ (by rfl) vg_ ?_
    refine dR_GF o_ (by rfl) (by rfl) v_ (by rfl) vg_ ?_
    refine dR_GF o_ (by rfl) (by rfl) v_ (by rfl) vg_ ?_
    refine dR_GF o_ (by rfl) (by rfl) v_ (by rfl) vg_ ?_
    (refine dR_S o_ (by rfl) (by rfl) v_ ?_)
    refine dR_nil ?_
    refine awp_cond v_ (fun hc6 => ?_) (fun hc6 => ?_)
    · replace hc6 := nm_ hc6
      have hno := may_not hc6
      refine awp_seq ?_
      refine awp_region (by kernel_rfl) ?_
      (refine aL_S rfl rfl v_ ?_)
      refine aL_nil ?_
      refine awp_ret ?_
      refine aEnd_ret (σ' := σ) v_ sub_ ?_
      refine ⟨?_, rfl⟩
      have : ctxOk c = false := by
        rw [← hr, hst]
        rcases hno with (h | h) | h
        · rw [h]; rfl
        · exact ctx_no (hah _) (.inl (.inr h))
        · exact ctx_no (hah _) (.inr h)
      rw [this]
    · replace hc6 := nm_ hc6
      have hyes := may_hd hc6
      refine awp_skip ?_
      refine awp_seq ?_
      refine awp_region (by kernel_rfl) ?_
      iterate 6 (refine aL_S rfl rfl v_ ?_)
      refine aL_nil ?_
      refine awp_seq ?_
      refine awp_region (by kernel_rfl) ?_
      iterate 4 (refine aL_S rfl rfl v_ ?_)
      refine aL_nil ?_
      refine awp_seq ?_
      refine awp_region (by kernel_rfl) ?_
      (refine aL_S rfl rfl v_ ?_)
      refine aL_nil ?_
      refine awp_block ?_
      refine awp_loop_env (ι := Nat × Int) (fun ⟨j, z⟩ => x.more.length - j) (fun ⟨j, z⟩ => j ≤ x.more.length ∧ riseOk z (x.more.drop j) = riseOk (x.base + 1) x.more) (fun ⟨j, z⟩ => [(0, .sl 3 (c.map sSeen) t), (3, vInt (n + x.more.length)), (4, vInt k), (5, .ref o5 0), (6, vInt z), (7, vInt j)]) (fun ⟨j, z⟩ => (σ.set o5 (.cells (sSeen x).cells))) (0, x.base + 1) ?_ ?_ ?_ ?_
      · exact ⟨Nat.zero_le _, rfl⟩
      · exact cv_
      · rw [Store.set_set]; exact Store.Wk.refl _
      rintro ⟨j, z⟩ ⟨hj, hz⟩
      simp only [envL_cons, envL_nil]
      refine awp_seq ?_
      refine awp_seq ?_
      refine awp_region (by kernel_rfl) ?_
      iterate 5 (refine aL_S rfl rfl v_ ?_)
      refine aL_nil ?_
      refine awp_cond v_ (fun hc11 => ?_) (fun hc11 => ?_)
      · replace hc11 := nm_ hc11
        refine awp_skip ?_
        refine awp_seq ?_
        refine awp_block ?_
        refine awp_seq ?_
        refine awp_seq ?_
        obtain ⟨m, hm⟩ := get_some (l := x.more) (k := j) (by omega)
        have hrn : riseOk z (x.more.drop j) = (decide (z < m) && decide (m ≤ 9007199254740992) && riseOk m (x.more.drop (j + 1))) := by rw [drop_cons hm]; rfl
        have R := hm
        refine awp_region (by kernel_rfl) ?_
        iterate 8 (refine aL_S rfl rfl v_ ?_)
        refine aL_GF rfl rfl v_ rfl vg_ ?_
        refine aL_GF rfl rfl v_ rfl vg_ ?_
        refine aL_GF rfl rfl v_ rfl vg_ ?_
        refine aL_GF rfl rfl v_ rfl vg_ ?_
        refine aL_GF rfl rfl v_ rfl vg_ ?_
        refine aL_GF rfl rfl v_ rfl vg_ ?_
        (refine aL_S rfl rfl v_ ?_)
        refine aL_nil ?_
        refine awp_cond v_ (fun hc13 => ?_) (fun hc13 => ?_)
        · replace hc13 := nm_ hc13
          refine awp_seq ?_
          refine awp_region (by kernel_rfl) ?_
          (refine aL_S rfl rfl v_ ?_)
          refine aL_nil ?_
          refine awp_ret ?_
          refine aEnd_ret (σ' := σ) v_ sub_ ?_
          refine ⟨?_, rfl⟩
          have : riseOk (x.base + 1) x.more = false := by
            rw [← hz, hrn]
            rcases hc13 with h | h
            · rw [decide_eq_false (show ¬ z < m by omega)]; simp
            · rw [decide_eq_false (show ¬ m ≤ 9007199254740992 by omega)]; simp
          rw [← hr, hst, this]; simp
        · replace hc13 := nm_ hc13
          refine awp_skip ?_
          have R := hm
          refine awp_region (by kernel_rfl) ?_
          iterate 6 (refine aL_S rfl rfl v_ ?_)
          refine aL_nil ?_
          refine awp_region (by kernel_rfl) ?_
          iterate 3 (refine aL_S rfl rfl v_ ?_)
          refine aL_nil ?_
          refine aNext (ι := Nat × Int) (i := ⟨j, z⟩) (j + 1, m) ?_ ?_ ?_ ?_
          · show x.more.length - (j + 1) < x.more.length - j; omega
          · exact ⟨by show j + 1 ≤ x.more.length; omega, by rw [← hz, hrn, decide_eq_true (show z < m by omega), decide_eq_true (show m ≤ 9007199254740992 by omega)]; rfl⟩
          · exact cv_
          · exact Store.Wk.refl _
      · replace hc11 := nm_ hc11
        refine awp_exit ?_
        refine aThen_exit ?_
        refine aThen_exit ?_
        refine aBlock_hit ?_
        have hrise : riseOk (x.base + 1) x.more = true := by rw [← hz, List.drop_eq_nil_of_le (by omega)]; rfl
        have hnx : ctxGo (pvOf c (k + 1)) (4096 - (n + x.more.length)) (c.drop (k + 1)) = ctxOk c := by
          rw [pv_next hxk, ← hr, hst, hrise, hyes.1, Bool.true_and, ctx_yes (hah _) ⟨⟨rfl, hyes.2.1⟩, hyes.2.2⟩]
          congr 1; omega
        have hrm2 : n + (x.more.length : Int) ≤ 4096 ∧ 0 ≤ n + (x.more.length : Int) := by omega
        refine awp_region (by kernel_rfl) ?_
        iterate 3 (refine aL_S rfl rfl v_ ?_)
        refine aL_nil ?_
        refine aNext (ι := Nat × Int) (i := ⟨k, n⟩) (k + 1, n + x.more.length) ?_ ?_ ?_ ?_
        · show c.length - (k + 1) < c.length - k; omega
        · exact ⟨by show k + 1 ≤ c.length; omega, hnx, hrm2⟩
        · exact cv_
        · exact sub_
  · replace hc3 := nm_ hc3
    refine awp_exit ?_
    refine aThen_exit ?_
    refine aThen_exit ?_
    refine aBlock_hit ?_
    refine awp_seq ?_
    refine awp_region (by kernel_rfl) ?_
    (refine aL_S rfl rfl v_ ?_)
    refine aL_nil ?_
    refine awp_ret ?_
    refine aEnd_ret (σ' := σ) v_ sub_ ?_
    refine ⟨?_, rfl⟩
    rw [← hr, List.drop_eq_nil_of_le (by omega)]; rfl
end Go.Proofs.YtbcgkbdacijoiaaGreat
end
