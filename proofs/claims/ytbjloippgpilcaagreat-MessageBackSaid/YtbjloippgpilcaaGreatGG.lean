/-
  What is read of bytes: the program's reader; What is read of bytes: numbers, texts, lists; Contexts and objects read of bytes: the program's. Own work (an AI agent).
-/
import Derived.Test.YtbjloippgpilcaaGreatGF
import Derived.Test.YtbjloippgpilcaaGreatGE

section
set_option linter.all false
set_option maxRecDepth 100000
namespace Go.Proofs.YtbjloippgpilcaaGreat
open Go.Ab

abbrev Rd := List UInt8 × Bool
abbrev rdO (x : Rd) : AObj := .cells [vStr (B x.1), vBool x.2]
def rdTake (x : Rd) (n : Nat) : List UInt8 × Rd := if x.2 = true ∧ n ≤ x.1.length then (x.1.take n, x.1.drop n, true) else ([], x.1, false)
theorem rdTake_yes {x : Rd} {n : Nat} (h : x.2 = true) (h' : n ≤ x.1.length) : rdTake x n = (x.1.take n, x.1.drop n, true) := if_pos ⟨h, h'⟩
theorem rdTake_no {x : Rd} {n : Nat} (h : x.2 = false ∨ x.1.length < n) : rdTake x n = ([], x.1, false) := if_neg fun hh => by rcases h with h | h; rw [hh.1] at h; cases h; omega

theorem bad_c {o : Nat} {s : List UInt8} {g : Bool} {σ : Store} (ho : σ.heap o = some (.cells [vStr (B s), vBool g])) : ACalls Tryz.prog 96 [.ref o 0] σ fun v σ' => v = vBool (!g) ∧ σ = σ' := by
  refine ACalls_of Tryz.func96 rfl Tryz.ntmps96 (congrArg Array.toList Tryz.results96) (by simp only [List.length_cons, List.length_nil]; decide) ?_; simp only [envOf_cons, envOf_nil, Nat.reduceAdd]
  refine awp_seq ?_
  have R := ho
  refine awp_region (by kernel_rfl) ?_
  (refine aL_S rfl rfl v_ ?_)
  refine aL_nil ?_
  refine awp_seq ?_
  have R := ho
  refine awp_region (by kernel_rfl) ?_
  iterate 3 (refine aL_S rfl rfl v_ ?_)
  refine aL_GF rfl rfl v_ rfl vg_ ?_
  refine aL_GF rfl rfl v_ rfl vg_ ?_
  refine aL_GF rfl rfl v_ rfl vg_ ?_
  refine aL_GF rfl rfl v_ rfl vg_ ?_
  refine aL_GF rfl rfl v_ rfl vg_ ?_
  iterate 2 (refine aL_S rfl rfl v_ ?_)
  refine aL_nil ?_
  refine awp_ret ?_
  refine aEnd_ret (σ' := σ) v_ sub_ ?_
  exact ⟨rfl, rfl⟩

theorem spoil_c {o : Nat} {s : List UInt8} {g : Bool} {σ : Store} (ho : σ.heap o = some (.cells [vStr (B s), vBool g])) : ACalls Tryz.prog 136 [.ref o 0] σ fun v σ' => v = .tup [] ∧ σ' = σ.set o (.cells [vStr (B s), vBool false]) := by
  refine ACalls_of Tryz.func136 rfl Tryz.ntmps136 (congrArg Array.toList Tryz.results136) (by simp only [List.length_cons, List.length_nil]; decide) ?_; simp only [envOf_cons, envOf_nil, Nat.reduceAdd]
  refine awp_seq ?_
  have R := ho
  refine awp_region (by kernel_rfl) ?_
  iterate 2 (refine aL_S rfl rfl v_ ?_)
  refine aL_nil ?_
  refine awp_cond v_ (fun hc0 => ?_) (fun hc0 => ?_)
  · replace hc0 := nm_ hc0
    have R := ho
    refine awp_region (by kernel_rfl) ?_
    iterate 3 (refine aL_S rfl rfl v_ ?_)
    refine aL_store rfl rfl rfl v_ v_ h_ g_ rfl g_ c_ (by rfl) le_ v_ ?_
    refine aL_nil ?_
    refine aEnd_nor v_ (Store.Wk.refl _) ?_
    exact ⟨rfl, rfl⟩
  · replace hc0 := nm_ hc0
    simp at hc0

theorem take_c {o n : Nat} {s : List UInt8} {g : Bool} {σ : Store} (ho : σ.heap o = some (.cells [vStr (B s), vBool g])) : ACalls Tryz.prog 119 [.ref o 0, vInt n] σ fun v σ' => v = vStr (B (rdTake (s, g) n).1) ∧ σ' = σ.set o (rdO (rdTake (s, g) n).2) := by
  refine ACalls_of Tryz.func119 rfl Tryz.ntmps119 (congrArg Array.toList Tryz.results119) (by simp only [List.length_cons, List.length_nil]; decide) ?_; simp only [envOf_cons, envOf_nil, Nat.reduceAdd]
  refine awp_seq ?_
  have R := And.intro ho B_size
  refine awp_region (by kernel_rfl) ?_
  (refine aL_S rfl rfl v_ ?_)
  refine aL_nil ?_
  refine awp_seq ?_
  refine awp_seq ?_
  have R := And.intro ho B_size
  refine awp_region (by kernel_rfl) ?_
  iterate 3 (refine aL_S rfl rfl v_ ?_)
  refine aL_GF rfl rfl v_ rfl vg_ ?_
  refine aL_GF rfl rfl v_ rfl vg_ ?_
  refine aL_GF rfl rfl v_ rfl vg_ ?_
  refine aL_GF rfl rfl v_ rfl vg_ ?_
  refine aL_GF rfl rfl v_ rfl vg_ ?_
  iterate 2 (refine aL_S rfl rfl v_ ?_)
  refine aL_GF rfl rfl v_ rfl vg_ ?_
  refine aL_GF rfl rfl v_ rfl vg_ ?_
  refine aL_GF rfl rfl v_ rfl vg_ ?_
  refine aL_GF rfl rfl v_ rfl vg_ ?_
  refine aL_GF rfl rfl v_ rfl vg_ ?_
  refine aL_GF rfl rfl v_ rfl vg_ ?_
  refine aL_GF rfl rfl v_ rfl vg_ ?_
  (refine aL_S rfl rfl v_ ?_)
  refine aL_nil ?_
  refine awp_cond v_ (fun hc1 => ?_) (fun hc1 => ?_)
  · replace hc1 := nm_ hc1
    refine awp_seq ?_
    have R := And.intro ho B_size
    refine awp_region (by kernel_rfl) ?_
    (refine aL_S rfl rfl v_ ?_)
    refine aL_X rfl rfl (AOp_use rfl rfl (.inr ⟨rfl, rfl, rfl⟩) g_ va_ (spoil_c ho) ?_); rintro _ _ ⟨rfl, rfl⟩
    refine aL_nil ?_
    refine awp_seq ?_
    have R := And.intro ho B_size
    refine awp_region (by kernel_rfl) ?_
    (refine aL_S rfl rfl v_ ?_)
    refine aL_nil ?_
    refine awp_ret ?_
    refine aEnd_ret v_ (Store.Wk.refl _) ?_
    rw [rdTake_no (by rcases hc1 with h | h; exact .inl h; exact .inr (by simpa using h))]; exact ⟨rfl, rfl⟩
  · replace hc1 := nm_ hc1
    refine awp_skip ?_
    refine awp_seq ?_
    have R := And.intro ho B_size
    refine awp_region (by kernel_rfl) ?_
    iterate 7 (refine aL_S rfl rfl v_ ?_)
    refine aL_nil ?_
    refine awp_seq ?_
    have R := And.intro ho B_size
    refine awp_region (by kernel_rfl) ?_
    iterate 9 (refine aL_S rfl rfl v_ ?_)
    refine aL_store rfl rfl rfl v_ v_ h_ g_ rfl g_ c_ (by rfl) le_ v_ ?_
    refine aL_nil ?_
    refine awp_seq ?_
    have R := And.intro ho B_size
    refine awp_region (by kernel_rfl) ?_
    iterate 2 (refine aL_S rfl rfl v_ ?_)
    refine aL_nil ?_
    refine awp_ret ?_
    refine aEnd_ret v_ (Store.Wk.refl _) ?_
    rw [rdTake_yes hc1.1 (by simpa using hc1.2), hc1.1]
    refine ⟨by rw [extract_B, Lb_B]; rfl, ?_⟩
    rw [extract_B, Lb_B, List.take_length]

theorem rdTake_len {x : Rd} {n : Nat} : (rdTake x n).1.length ≤ n := by
  unfold rdTake; split <;> simp
  omega
def rdNum (x : Rd) (n : Nat) : Int × Rd := (rdI (rdTake x n).1, (rdTake x n).2)

theorem number_c {o n : Nat} {s : List UInt8} {g : Bool} {σ : Store} (ho : σ.heap o = some (.cells [vStr (B s), vBool g])) (hn : n ≤ 8) : ACalls Tryz.prog 118 [.ref o 0, vInt n] σ fun v σ' => v = vInt (rdNum (s, g) n).1 ∧ σ' = σ.set o (rdO (rdNum (s, g) n).2) := by
  obtain ⟨r, hr⟩ : ∃ r, (rdTake (s, g) n).1 = r := ⟨_, rfl⟩
  have hl := rdTake_len (x := (s, g)) (n := n)
  rw [hr] at hl
  refine ACalls_of Tryz.func118 rfl Tryz.ntmps118 (congrArg Array.toList Tryz.results118) (by simp only [List.length_cons, List.length_nil]; decide) ?_; simp only [envOf_cons, envOf_nil, Nat.reduceAdd]
  refine awp_seq ?_
  refine awp_region (by kernel_rfl) ?_
  (refine aL_S rfl rfl v_ ?_)
  refine aL_nil ?_
  refine awp_seq ?_
  refine awp_region (by kernel_rfl) ?_
  (refine aL_S rfl rfl v_ ?_)
  refine aL_nil ?_
  refine awp_seq ?_
  refine awp_seq ?_
  have R := And.intro hr B_size
  refine awp_region (by kernel_rfl) ?_
  iterate 2 (refine aL_S rfl rfl v_ ?_)
  refine aL_X rfl rfl (AOp_use rfl rfl (.inr ⟨rfl, rfl, rfl⟩) g_ va_ (take_c ho) ?_); rintro _ _ ⟨rfl, rfl⟩
  refine aL_bytesOf rfl rfl rfl g_ g_ g_ v_ ?_
  iterate 2 (refine aL_S rfl rfl v_ ?_)
  refine aL_nil ?_
  refine awp_block ?_
  refine awp_loop_env (ι := Nat) (fun k => r.length - k) (fun k => k ≤ r.length) (fun k => [(5, vInt (rdI (r.take k))), (11, .sl 1 (bytesL (B r)) false), (12, vInt r.length), (13, vInt k)]) (fun k => σ.set o (rdO (rdNum (s, g) n).2)) 0 ?_ ?_ ?_ ?_
  · exact Nat.zero_le _
  · have R := And.intro hr (And.intro B_size bytesL_length); exact cv_
  · exact Store.Wk.refl _
  rintro k hk
  simp only [envL_cons, envL_nil]
  refine awp_seq ?_
  refine awp_region (by kernel_rfl) ?_
  (refine aL_S rfl rfl v_ ?_)
  refine aL_nil ?_
  refine awp_seq ?_
  refine awp_cond v_ (fun hc3 => ?_) (fun hc3 => ?_)
  · replace hc3 := nm_ hc3
    refine awp_skip ?_
    refine awp_seq ?_
    refine awp_block ?_
    refine awp_seq ?_
    obtain ⟨c, hc⟩ : ∃ c, r[k]? = some c := ⟨r[k]'(by omega), List.getElem?_eq_getElem _⟩
    have hb := bytes_at hc
    have hlt : c.toNat < 256 := c.toNat_lt
    have hst : bOr .i64 (IntKind.i64.wrap (rdI (r.take k) * 2 ^ 8)) (c.toNat : Int) = rdI (r.take (k + 1)) := by rw [take_snoc hc]; exact rdI_snoc _ _
    have R := hb
    refine awp_region (by kernel_rfl) ?_
    iterate 3 (refine aL_S rfl rfl v_ ?_)
    refine aL_nil ?_
    refine awp_region (by kernel_rfl) ?_
    iterate 6 (refine aL_S rfl rfl v_ ?_)
    refine aL_nil ?_
    refine awp_region (by kernel_rfl) ?_
    iterate 2 (refine aL_S rfl rfl v_ ?_)
    refine aL_nil ?_
    refine aNext (ι := Nat) (i := k) (k + 1) ?_ ?_ ?_ ?_
    · omega
    · omega
    · have R := hst; exact cv_
    · exact Store.Wk.refl _
  · replace hc3 := nm_ hc3
    refine awp_exit ?_
    refine aThen_exit ?_
    refine aThen_exit ?_
    refine aBlock_hit ?_
    refine awp_seq ?_
    refine awp_region (by kernel_rfl) ?_
    iterate 2 (refine aL_S rfl rfl v_ ?_)
    refine aL_nil ?_
    refine awp_ret ?_
    refine aEnd_ret v_ (Store.Wk.refl _) ?_
    rw [List.take_of_length_le (by omega)]
    exact ⟨by rw [← hr]; rfl, rfl⟩
end Go.Proofs.YtbjloippgpilcaaGreat
end

section
set_option linter.all false
set_option maxRecDepth 100000
namespace Go.Proofs.YtbjloippgpilcaaGreat
open Go.Ab

theorem bad_x {o : Nat} {x : Rd} {σ : Store} (ho : σ.heap o = some (rdO x)) : ACalls Tryz.prog 96 [.ref o 0] σ fun v σ' => v = vBool (!x.2) ∧ σ = σ' := bad_c ho
theorem take_x {o n : Nat} {x : Rd} {σ : Store} (ho : σ.heap o = some (rdO x)) : ACalls Tryz.prog 119 [.ref o 0, vInt n] σ fun v σ' => v = vStr (B (rdTake x n).1) ∧ σ' = σ.set o (rdO (rdTake x n).2) := take_c ho
theorem number_x {o n : Nat} {x : Rd} {σ : Store} (ho : σ.heap o = some (rdO x)) (hn : n ≤ 8) : ACalls Tryz.prog 118 [.ref o 0, vInt n] σ fun v σ' => v = vInt (rdNum x n).1 ∧ σ' = σ.set o (rdO (rdNum x n).2) := number_c ho hn

theorem new_c {s : List UInt8} {σ : Store} : ACalls Tryz.prog 45 [vStr (B s)] σ fun v σ' => ∃ o, σ.heap o = none ∧ v = .ref o 0 ∧ σ' = σ.set o (rdO (s, true)) := by
  refine ACalls_of Tryz.func45 rfl Tryz.ntmps45 (congrArg Array.toList Tryz.results45) (by simp only [List.length_cons, List.length_nil]; decide) ?_; simp only [envOf_cons, envOf_nil, Nat.reduceAdd]
  refine awp_seq ?_
  refine awp_region (by kernel_rfl) ?_
  (refine aL_S rfl rfl v_ ?_)
  refine aL_nil ?_
  refine awp_seq ?_
  refine awp_region (by kernel_rfl) ?_
  iterate 2 (refine aL_S rfl rfl v_ ?_)
  refine aL_box rfl rfl rfl v_ rfl g_ fun o5 ho5 => ?_
  repeat (rw [none_set_iff] at ho5; obtain ⟨_, ho5⟩ := ho5)
  (refine aL_S rfl rfl v_ ?_)
  refine aL_nil ?_
  refine awp_ret ?_
  refine aEnd_ret v_ (Store.Wk.refl _) ?_
  exact ⟨o5, ho5, rfl, rfl⟩
theorem rdByte_c {o : Nat} {x : Rd} {σ : Store} (ho : σ.heap o = some (rdO x)) : ACalls Tryz.prog 86 [.ref o 0] σ fun v σ' => v = vInt (rdNum x 1).1 ∧ σ' = σ.set o (rdO (rdNum x 1).2) := by
  refine ACalls_of Tryz.func86 rfl Tryz.ntmps86 (congrArg Array.toList Tryz.results86) (by simp only [List.length_cons, List.length_nil]; decide) ?_; simp only [envOf_cons, envOf_nil, Nat.reduceAdd]
  refine awp_seq ?_
  refine awp_region (by kernel_rfl) ?_
  (refine aL_S rfl rfl v_ ?_)
  refine aL_nil ?_
  refine awp_seq ?_
  refine awp_region (by kernel_rfl) ?_
  (refine aL_S rfl rfl v_ ?_)
  refine aL_X rfl rfl (AOp_use rfl rfl (.inr ⟨rfl, rfl, rfl⟩) g_ va_ (number_x (n := 1) ho (by decide)) ?_); rintro _ _ ⟨rfl, rfl⟩
  (refine aL_S rfl rfl v_ ?_)
  refine aL_nil ?_
  refine awp_ret ?_
  refine aEnd_ret v_ (Store.Wk.refl _) ?_
  exact ⟨rfl, rfl⟩
theorem rdInt_c {o : Nat} {x : Rd} {σ : Store} (ho : σ.heap o = some (rdO x)) : ACalls Tryz.prog 88 [.ref o 0] σ fun v σ' => v = vInt (rdNum x 8).1 ∧ σ' = σ.set o (rdO (rdNum x 8).2) := by
  refine ACalls_of Tryz.func88 rfl Tryz.ntmps88 (congrArg Array.toList Tryz.results88) (by simp only [List.length_cons, List.length_nil]; decide) ?_; simp only [envOf_cons, envOf_nil, Nat.reduceAdd]
  refine awp_seq ?_
  refine awp_region (by kernel_rfl) ?_
  (refine aL_S rfl rfl v_ ?_)
  refine aL_nil ?_
  refine awp_seq ?_
  refine awp_region (by kernel_rfl) ?_
  (refine aL_S rfl rfl v_ ?_)
  refine aL_X rfl rfl (AOp_use rfl rfl (.inr ⟨rfl, rfl, rfl⟩) g_ va_ (number_x (n := 8) ho (by decide)) ?_); rintro _ _ ⟨rfl, rfl⟩
  (refine aL_S rfl rfl v_ ?_)
  refine aL_nil ?_
  refine awp_ret ?_
  refine aEnd_ret v_ (Store.Wk.refl _) ?_
  exact ⟨rfl, rfl⟩

def rdCnt (x : Rd) (m : Nat) : Nat × Rd := if m < natB (rdTake x 4).1 then (0, (rdTake x 4).2.1, false) else (natB (rdTake x 4).1, (rdTake x 4).2)
theorem rdCnt_le (x : Rd) (m : Nat) : (rdCnt x m).1 ≤ m := by unfold rdCnt; split; exact Nat.zero_le _; omega
theorem rdNum4 (x : Rd) : (rdNum x 4).1 = natB (rdTake x 4).1 := rdI_small _ (Nat.le_trans rdTake_len (by decide))
theorem rdCount_c {o m : Nat} {x : Rd} {σ : Store} (ho : σ.heap o = some (rdO x)) : ACalls Tryz.prog 120 [.ref o 0, vInt m] σ fun v σ' => v = vInt (rdCnt x m).1 ∧ σ' = σ.set o (rdO (rdCnt x m).2) := by
  have h4 := rdNum4 x
  refine ACalls_of Tryz.func120 rfl Tryz.ntmps120 (congrArg Array.toList Tryz.results120) (by simp only [List.length_cons, List.length_nil]; decide) ?_; simp only [envOf_cons, envOf_nil, Nat.reduceAdd]
  refine awp_seq ?_
  refine awp_region (by kernel_rfl) ?_
  (refine aL_S rfl rfl v_ ?_)
  refine aL_nil ?_
  refine awp_seq ?_
  refine awp_region (by kernel_rfl) ?_
  (refine aL_S rfl rfl v_ ?_)
  refine aL_X rfl rfl (AOp_use rfl rfl (.inr ⟨rfl, rfl, rfl⟩) g_ va_ (number_x (n := 4) ho (by decide)) ?_); rintro _ _ ⟨rfl, rfl⟩
  (refine aL_S rfl rfl v_ ?_)
  refine aL_nil ?_
  refine awp_seq ?_
  refine awp_seq ?_
  have R := h4
  refine awp_region (by kernel_rfl) ?_
  iterate 3 (refine aL_S rfl rfl v_ ?_)
  refine aL_nil ?_
  refine awp_cond v_ (fun hc2 => ?_) (fun hc2 => ?_)
  · replace hc2 := nm_ hc2
    refine awp_seq ?_
    refine awp_region (by kernel_rfl) ?_
    (refine aL_S rfl rfl v_ ?_)
    refine aL_X rfl rfl (AOp_use rfl rfl (.inr ⟨rfl, rfl, rfl⟩) g_ va_ (spoil_c (s := (rdTake x 4).2.1) (g := (rdTake x 4).2.2) (Store.set_get ..)) ?_); rintro _ _ ⟨rfl, rfl⟩
    refine aL_nil ?_
    refine awp_seq ?_
    refine awp_region (by kernel_rfl) ?_
    (refine aL_S rfl rfl v_ ?_)
    refine aL_nil ?_
    refine awp_ret ?_
    refine aEnd_ret v_ (Store.Wk.refl _) ?_
    rw [rdCnt, if_pos (by omega), Store.set_set]; exact ⟨rfl, rfl⟩
  · replace hc2 := nm_ hc2
    refine awp_skip ?_
    refine awp_seq ?_
    refine awp_region (by kernel_rfl) ?_
    iterate 2 (refine aL_S rfl rfl v_ ?_)
    refine aL_nil ?_
    refine awp_ret ?_
    refine aEnd_ret v_ (Store.Wk.refl _) ?_
    rw [rdCnt, if_neg (by omega)]; exact ⟨rfl, rfl⟩
def rdText (x : Rd) : List UInt8 × Rd := rdTake (rdCnt x 1048576).2 (rdCnt x 1048576).1
theorem rdText_c {o : Nat} {x : Rd} {σ : Store} (ho : σ.heap o = some (rdO x)) : ACalls Tryz.prog 87 [.ref o 0] σ fun v σ' => v = vStr (B (rdText x).1) ∧ σ' = σ.set o (rdO (rdText x).2) := by
  refine ACalls_of Tryz.func87 rfl Tryz.ntmps87 (congrArg Array.toList Tryz.results87) (by simp only [List.length_cons, List.length_nil]; decide) ?_; simp only [envOf_cons, envOf_nil, Nat.reduceAdd]
  refine awp_seq ?_
  refine awp_region (by kernel_rfl) ?_
  (refine aL_S rfl rfl v_ ?_)
  refine aL_nil ?_
  refine awp_seq ?_
  refine awp_region (by kernel_rfl) ?_
  iterate 2 (refine aL_S rfl rfl v_ ?_)
  refine aL_X rfl rfl (AOp_use rfl rfl (.inr ⟨rfl, rfl, rfl⟩) g_ va_ (rdCount_c (m := 1048576) ho) ?_); rintro _ _ ⟨rfl, rfl⟩
  refine aL_X rfl rfl (AOp_use rfl rfl (.inr ⟨rfl, rfl, rfl⟩) g_ va_ (take_x (Store.set_get ..)) ?_); rintro _ _ ⟨rfl, rfl⟩
  (refine aL_S rfl rfl v_ ?_)
  refine aL_nil ?_
  refine awp_ret ?_
  refine aEnd_ret v_ (Store.Wk.refl _) ?_
  rw [Store.set_set]; exact ⟨rfl, rfl⟩
theorem rdDone_c {o : Nat} {x : Rd} {σ : Store} (ho : σ.heap o = some (rdO x)) : ACalls Tryz.prog 47 [.ref o 0] σ fun v σ' => v = vBool (x.2 && decide (x.1 = [])) ∧ σ = σ' := by
  obtain ⟨s, g⟩ := x
  have he : (B s = ⟨#[]⟩) ↔ s = [] := by rw [show (⟨#[]⟩ : ByteArray) = B [] from rfl, B_eq_iff]
  refine ACalls_of Tryz.func47 rfl Tryz.ntmps47 (congrArg Array.toList Tryz.results47) (by simp only [List.length_cons, List.length_nil]; decide) ?_; simp only [envOf_cons, envOf_nil, Nat.reduceAdd]
  refine awp_seq ?_
  have R := And.intro ho he
  refine awp_region (by kernel_rfl) ?_
  (refine aL_S rfl rfl v_ ?_)
  refine aL_nil ?_
  refine awp_seq ?_
  have R := And.intro ho he
  refine awp_region (by kernel_rfl) ?_
  (refine aL_S rfl rfl v_ ?_)
  refine aL_X rfl rfl (AOp_use rfl rfl (.inr ⟨rfl, rfl, rfl⟩) g_ va_ (bad_c ho) ?_); rintro _ _ ⟨rfl, rfl⟩
  iterate 2 (refine aL_S rfl rfl v_ ?_)
  refine aL_GT rfl rfl v_ rfl vg_ ?_
  refine aL_GT rfl rfl v_ rfl vg_ ?_
  refine aL_GT rfl rfl v_ rfl vg_ ?_
  refine aL_GT rfl rfl v_ rfl vg_ ?_
  refine aL_GT rfl rfl v_ rfl vg_ ?_
  iterate 2 (refine aL_S rfl rfl v_ ?_)
  refine aL_nil ?_
  refine awp_ret ?_
  refine aEnd_ret (σ' := σ) v_ sub_ ?_
  exact ⟨by cases g <;> simp [he], rfl⟩

/-! ### lists -/
def rdMany {α : Type} (f : Rd → α × Rd) : Nat → Rd → List α × Rd
  | 0, x => ([], x)
  | n + 1, x => if x.2 then ((f x).1 :: (rdMany f n (f x).2).1, (rdMany f n (f x).2).2) else ([], x)
theorem rdMany_bad {α : Type} (f : Rd → α × Rd) {n : Nat} {x : Rd} (h : x.2 = false) : rdMany f n x = ([], x) := by
  cases n with
  | zero => rfl
  | succ n => rw [rdMany, h]; rfl
def rdSev {α : Type} (f : Rd → α × Rd) (x : Rd) : List α × Rd :=
  let r := rdMany f (rdCnt x 65536).1 (rdCnt x 65536).2
  if r.2.2 then r else ([], r.2)
theorem SubX.trans {l : List Nat} {a b c : Store} (h : SubX l a b) (k : SubX l b c) : SubX l a c := ⟨fun i x hi hx => k.1 i x hi (h.1 i x hi hx), fun t n ht => k.2 t n (h.2 t n ht)⟩
theorem SubX.self {o : Nat} {σ : Store} {x : AObj} : SubX [o] σ (σ.set o x) := subx_in (.head _) subx_refl
theorem SubX.newTok {l : List Nat} {a b : Store} (h : SubX l a b) {old : Option Nat} {k : Nat} {p : TypeId × Nat} (ho : ∀ j, old = some j → a.tok j = none) (hk : b.tok k = none) : SubX l a (b.newTok old k p) := ⟨h.1, fun t n ht => by
  have h1 := h.2 t n ht
  simp only [Store.newTok]
  rw [if_neg (fun hh => by rw [hh, hk] at h1; cases h1), if_neg (fun hh => by rw [ho t hh.symm] at ht; cases ht)]
  exact h1⟩
theorem SubX.noTok {l : List Nat} {a b : Store} (h : SubX l a b) {k : Nat} (hk : b.tok k = none) : a.tok k = none := by
  cases ht : a.tok k with
  | none => rfl
  | some n => have := h.2 k n ht; rw [hk] at this; cases this

theorem sevInt_c {o G : Nat} {x : Rd} {σ : Store} {fs cp : List AVal} {f : Rd → Int × Rd} (Kp : Store → Prop) (hgo : isGo Tryz.prog G = true) (hK : ∀ τ τ', Kp τ → SubX [o] τ τ' → Kp τ') (ho : σ.heap o = some (rdO x)) (hKσ : Kp σ)
    (hf : ∀ τ y, τ.heap o = some (rdO y) → Kp τ → ACalls Tryz.prog G (fs ++ [] ++ cp) τ fun v τ' => v = vInt (f y).1 ∧ τ'.heap o = some (rdO (f y).2) ∧ SubX [o] τ τ') :
    ACalls Tryz.prog 139 [.ref o 0, .fn (.func G) fs cp] σ fun v σ' => v = .sl 1 ((rdSev f x).1.map vInt) false ∧ σ'.heap o = some (rdO (rdSev f x).2) ∧ SubX [o] σ σ' := by
  obtain ⟨N, hN⟩ : ∃ N, (rdCnt x 65536).1 = N := ⟨_, rfl⟩
  obtain ⟨x0, hx0⟩ : ∃ x0, (rdCnt x 65536).2 = x0 := ⟨_, rfl⟩
  have hNb : N ≤ 65536 := by rw [← hN]; exact rdCnt_le _ _
  refine ACalls_of Tryz.func139 rfl Tryz.ntmps139 (congrArg Array.toList Tryz.results139) (by simp only [List.length_cons, List.length_nil]; decide) ?_; simp only [envOf_cons, envOf_nil, Nat.reduceAdd]
  refine awp_seq ?_
  refine awp_region (by kernel_rfl) ?_
  (refine aL_S rfl rfl v_ ?_)
  refine aL_nil ?_
  refine awp_seq ?_
  refine awp_region (by kernel_rfl) ?_
  refine aL_nilOwn 3 1 rfl rfl rfl (by rfl) fun k5 hk5 => ?_
  refine aL_nil ?_
  refine awp_seq ?_
  refine awp_seq ?_
  have R := And.intro hN hx0
  refine awp_region (by kernel_rfl) ?_
  (refine aL_S rfl rfl v_ ?_)
  refine aL_X rfl rfl (AOp_use rfl rfl (.inr ⟨rfl, rfl, rfl⟩) g_ va_ (rdCount_c (m := 65536) ho) ?_); rintro _ _ ⟨rfl, rfl⟩
  (refine aL_S rfl rfl v_ ?_)
  refine aL_nil ?_
  refine awp_block ?_
  refine awp_loop_env (ι := Store × Nat × List Int × Rd × Nat) (fun ⟨τ, n, L, y, k⟩ => n) (fun ⟨τ, n, L, y, k⟩ => rdMany f N x0 = (L ++ (rdMany f n y).1, (rdMany f n y).2) ∧ L.length + n ≤ 65536 ∧ τ.heap o = some (rdO y) ∧ SubX [o] σ τ ∧ τ.tok k = some (3, 1) ∧ σ.tok k = none) (fun ⟨τ, n, L, y, k⟩ => [(0, .ref o 0), (1, .fn (.func G) fs cp), (5, .own k 1 (L.map vInt)), (6, vInt n)]) (fun ⟨τ, n, L, y, k⟩ => τ) ((σ.newTok none k5 (3, 1)).set o (rdO x0), N, [], x0, k5) ?_ ?_ ?_ ?_
  · exact ⟨rfl, by simpa using hNb, Store.set_get .., SubX.trans (subx_newTok hk5 subx_refl) SubX.self, by rw [Store.set_tok]; exact Store.newTok_get .., hk5⟩
  · have R := hN; exact cv_
  · rw [hx0]; exact Store.Wk.refl _
  rintro ⟨τ, n, L, y, k⟩ ⟨h1, h2, h3, h4, h5, h6⟩
  simp only [envL_cons, envL_nil]
  refine awp_seq ?_
  refine awp_seq ?_
  have R := h3
  refine awp_region (by kernel_rfl) ?_
  iterate 3 (refine aL_S rfl rfl v_ ?_)
  refine aL_GT rfl rfl v_ rfl vg_ ?_
  refine aL_GTX rfl rfl v_ rfl (fun hb => AOp_useV (by rfl) (by rfl) (.inr ⟨by rfl, by rfl, by rfl⟩) g_ cg_ (bad_x h3)) ?_
  refine aL_GT rfl rfl v_ rfl vg_ ?_
  (refine aL_S rfl rfl v_ ?_)
  refine aL_nil ?_
  refine awp_cond v_ (fun hc3 => ?_) (fun hc3 => ?_)
  · replace hc3 := nm_ hc3
    refine awp_skip ?_
    refine awp_seq ?_
    refine awp_block ?_
    have hn0 : 0 < n ∧ y.2 = true := by simpa using hc3
    have hn1 : n = (n - 1) + 1 := by omega
    have hn2 : (n : Int) - 1 = ((n - 1 : Nat) : Int) := by omega
    have hy := hn0.2
    refine awp_region (by kernel_rfl) ?_
    iterate 2 (refine aL_S rfl rfl v_ ?_)
    refine aL_X rfl rfl (AOp_use rfl rfl (.inl v_) g_ va_ (hf _ _ h3 (hK _ _ hKσ h4)) ?_); rintro _ υ ⟨rfl, hu1, hu2⟩
    refine aL_buildSlice rfl rfl rfl g_ g_ rfl rfl h_ c2_ (by decide) ?_
    have R := hu2.2 _ _ h5
    refine aL_append rfl rfl rfl g_ g_ v_ h_ v_ c_ (by simp; omega) fun k22 hk22 => ?_
    (refine aL_S rfl rfl v_ ?_)
    refine aL_nil ?_
    refine awp_region (by kernel_rfl) ?_
    iterate 3 (refine aL_S rfl rfl v_ ?_)
    refine aL_nil ?_
    refine aNext (ι := Store × Nat × List Int × Rd × Nat) (i := ⟨τ, n, L, y, k⟩) (υ.newTok (some k) k22 (3, 1), n - 1, L ++ [(f y).1], (f y).2, k22) ?_ ?_ ?_ ?_
    · show n - 1 < n; omega
    · exact ⟨by rw [h1, hn1, rdMany, hy]; simp, by simp; omega, hu1, SubX.newTok (SubX.trans h4 hu2) (fun j hj => by cases hj; exact h6) hk22, Store.newTok_get .., SubX.noTok (SubX.trans h4 hu2) hk22⟩
    · have R := hn2; exact cv_
    · exact Store.Wk.refl _
  · replace hc3 := nm_ hc3
    refine awp_exit ?_
    refine aThen_exit ?_
    refine aThen_exit ?_
    refine aBlock_hit ?_
    refine awp_seq ?_
    refine awp_seq ?_
    skip
    have hs : rdSev f x = if y.2 then (L ++ (rdMany f n y).1, (rdMany f n y).2) else ([], y) := by
      unfold rdSev
      rw [hN, hx0]
      dsimp only
      rw [h1]
      cases hy : y.2 with
      | false => rw [rdMany_bad f hy]; simp [hy]
      | true =>
        have : n = 0 := by rw [hy] at hc3; simp at hc3; omega
        subst this
        simp [rdMany, hy]
    refine awp_region (by kernel_rfl) ?_
    (refine aL_S rfl rfl v_ ?_)
    refine aL_X rfl rfl (AOp_use rfl rfl (.inr ⟨rfl, rfl, rfl⟩) g_ va_ (bad_x h3) ?_); rintro _ _ ⟨rfl, rfl⟩
    refine aL_nil ?_
    refine awp_cond v_ (fun hc6 => ?_) (fun hc6 => ?_)
    · replace hc6 := nm_ hc6
      refine awp_seq ?_
      refine awp_region (by kernel_rfl) ?_
      (refine aL_S rfl rfl v_ ?_)
      refine aL_nil ?_
      refine awp_ret ?_
      rw [hc6] at hs
      refine aEnd_retW (v := .sl 1 ((rdSev f x).1.map vInt) false) (v' := .lit (.slice none 0 0)) (σ' := τ) va_ ?_ (Store.Wk.refl _) ⟨rfl, ?_, h4⟩
      · rw [hs]; exact .nil _ _
      · rw [hs]; exact h3
    · replace hc6 := nm_ hc6
      refine awp_skip ?_
      refine awp_seq ?_
      refine awp_region (by kernel_rfl) ?_
      iterate 2 (refine aL_S rfl rfl v_ ?_)
      refine aL_nil ?_
      refine awp_ret ?_
      rw [hc6] at hs
      have hn : n = 0 := by rw [hc6] at hc3; simp at hc3; omega
      subst hn
      refine aEnd_retW (v := .sl 1 ((rdSev f x).1.map vInt) false) (v' := .own k 1 (L.map vInt)) (σ' := τ) va_ ?_ (Store.Wk.refl _) ⟨rfl, ?_, h4⟩
      · rw [hs]; simp [rdMany]; exact .own1 _ _ _
      · rw [hs]; exact h3
theorem sevSeen_c {o G : Nat} {x : Rd} {σ : Store} {fs cp : List AVal} {f : Rd → Seen × Rd} (Kp : Store → Prop) (hgo : isGo Tryz.prog G = true) (hK : ∀ τ τ', Kp τ → SubX [o] τ τ' → Kp τ') (ho : σ.heap o = some (rdO x)) (hKσ : Kp σ)
    (hf : ∀ τ y, τ.heap o = some (rdO y) → Kp τ → ACalls Tryz.prog G (fs ++ [] ++ cp) τ fun v τ' => v = sSeen (f y).1 ∧ τ'.heap o = some (rdO (f y).2) ∧ SubX [o] τ τ') :
    ACalls Tryz.prog 137 [.ref o 0, .fn (.func G) fs cp] σ fun v σ' => v = .sl 3 ((rdSev f x).1.map sSeen) false ∧ σ'.heap o = some (rdO (rdSev f x).2) ∧ SubX [o] σ σ' := by
  obtain ⟨N, hN⟩ : ∃ N, (rdCnt x 65536).1 = N := ⟨_, rfl⟩
  obtain ⟨x0, hx0⟩ : ∃ x0, (rdCnt x 65536).2 = x0 := ⟨_, rfl⟩
  have hNb : N ≤ 65536 := by rw [← hN]; exact rdCnt_le _ _
  refine ACalls_of Tryz.func137 rfl Tryz.ntmps137 (congrArg Array.toList Tryz.results137) (by simp only [List.length_cons, List.length_nil]; decide) ?_; simp only [envOf_cons, envOf_nil, Nat.reduceAdd]
  refine awp_seq ?_
  refine awp_region (by kernel_rfl) ?_
  (refine aL_S rfl rfl v_ ?_)
  refine aL_nil ?_
  refine awp_seq ?_
  refine awp_region (by kernel_rfl) ?_
  refine aL_nilOwn 144 3 rfl rfl rfl (by rfl) fun k5 hk5 => ?_
  refine aL_nil ?_
  refine awp_seq ?_
  refine awp_seq ?_
  have R := And.intro hN hx0
  refine awp_region (by kernel_rfl) ?_
  (refine aL_S rfl rfl v_ ?_)
  refine aL_X rfl rfl (AOp_use rfl rfl (.inr ⟨rfl, rfl, rfl⟩) g_ va_ (rdCount_c (m := 65536) ho) ?_); rintro _ _ ⟨rfl, rfl⟩
  (refine aL_S rfl rfl v_ ?_)
  refine aL_nil ?_
  refine awp_block ?_
  refine awp_loop_env (ι := Store × Nat × List Seen × Rd × Nat) (fun ⟨τ, n, L, y, k⟩ => n) (fun ⟨τ, n, L, y, k⟩ => rdMany f N x0 = (L ++ (rdMany f n y).1, (rdMany f n y).2) ∧ L.length + n ≤ 65536 ∧ τ.heap o = some (rdO y) ∧ SubX [o] σ τ ∧ τ.tok k = some (144, 3) ∧ σ.tok k = none) (fun ⟨τ, n, L, y, k⟩ => [(0, .ref o 0), (1, .fn (.func G) fs cp), (5, .own k 3 (L.map sSeen)), (6, vInt n)]) (fun ⟨τ, n, L, y, k⟩ => τ) ((σ.newTok none k5 (144, 3)).set o (rdO x0), N, [], x0, k5) ?_ ?_ ?_ ?_
  · exact ⟨rfl, by simpa using hNb, Store.set_get .., SubX.trans (subx_newTok hk5 subx_refl) SubX.self, by rw [Store.set_tok]; exact Store.newTok_get .., hk5⟩
  · have R := hN; exact cv_
  · rw [hx0]; exact Store.Wk.refl _
  rintro ⟨τ, n, L, y, k⟩ ⟨h1, h2, h3, h4, h5, h6⟩
  simp only [envL_cons, envL_nil]
  refine awp_seq ?_
  refine awp_seq ?_
  have R := h3
  refine awp_region (by kernel_rfl) ?_
  iterate 3 (refine aL_S rfl rfl v_ ?_)
  refine aL_GT rfl rfl v_ rfl vg_ ?_
  refine aL_GTX rfl rfl v_ rfl (fun hb => AOp_useV (by rfl) (by rfl) (.inr ⟨by rfl, by rfl, by rfl⟩) g_ cg_ (bad_x h3)) ?_
  refine aL_GT rfl rfl v_ rfl vg_ ?_
  (refine aL_S rfl rfl v_ ?_)
  refine aL_nil ?_
  refine awp_cond v_ (fun hc3 => ?_) (fun hc3 => ?_)
  · replace hc3 := nm_ hc3
    refine awp_skip ?_
    refine awp_seq ?_
    refine awp_block ?_
    have hn0 : 0 < n ∧ y.2 = true := by simpa using hc3
    have hn1 : n = (n - 1) + 1 := by omega
    have hn2 : (n : Int) - 1 = ((n - 1 : Nat) : Int) := by omega
    have hy := hn0.2
    refine awp_region (by kernel_rfl) ?_
    iterate 2 (refine aL_S rfl rfl v_ ?_)
    refine aL_X rfl rfl (AOp_use rfl rfl (.inl v_) g_ va_ (hf _ _ h3 (hK _ _ hKσ h4)) ?_); rintro _ υ ⟨rfl, hu1, hu2⟩
    refine aL_buildSlice rfl rfl rfl g_ g_ rfl rfl h_ c2_ (by decide) ?_
    have R := hu2.2 _ _ h5
    refine aL_append rfl rfl rfl g_ g_ v_ h_ v_ c_ (by simp; omega) fun k22 hk22 => ?_
    (refine aL_S rfl rfl v_ ?_)
    refine aL_nil ?_
    refine awp_region (by kernel_rfl) ?_
    iterate 3 (refine aL_S rfl rfl v_ ?_)
    refine aL_nil ?_
    refine aNext (ι := Store × Nat × List Seen × Rd × Nat) (i := ⟨τ, n, L, y, k⟩) (υ.newTok (some k) k22 (144, 3), n - 1, L ++ [(f y).1], (f y).2, k22) ?_ ?_ ?_ ?_
    · show n - 1 < n; omega
    · exact ⟨by rw [h1, hn1, rdMany, hy]; simp, by simp; omega, hu1, SubX.newTok (SubX.trans h4 hu2) (fun j hj => by cases hj; exact h6) hk22, Store.newTok_get .., SubX.noTok (SubX.trans h4 hu2) hk22⟩
    · have R := hn2; exact cv_
    · exact Store.Wk.refl _
  · replace hc3 := nm_ hc3
    refine awp_exit ?_
    refine aThen_exit ?_
    refine aThen_exit ?_
    refine aBlock_hit ?_
    refine awp_seq ?_
    refine awp_seq ?_
    skip
    have hs : rdSev f x = if y.2 then (L ++ (rdMany f n y).1, (rdMany f n y).2) else ([], y) := by
      unfold rdSev
      rw [hN, hx0]
      dsimp only
      rw [h1]
      cases hy : y.2 with
      | false => rw [rdMany_bad f hy]; simp [hy]
      | true =>
        have : n = 0 := by rw [hy] at hc3; simp at hc3; omega
        subst this
        simp [rdMany, hy]
    refine awp_region (by kernel_rfl) ?_
    (refine aL_S rfl rfl v_ ?_)
    refine aL_X rfl rfl (AOp_use rfl rfl (.inr ⟨rfl, rfl, rfl⟩) g_ va_ (bad_x h3) ?_); rintro _ _ ⟨rfl, rfl⟩
    refine aL_nil ?_
    refine awp_cond v_ (fun hc6 => ?_) (fun hc6 => ?_)
    · replace hc6 := nm_ hc6
      refine awp_seq ?_
      refine awp_region (by kernel_rfl) ?_
      (refine aL_S rfl rfl v_ ?_)
      refine aL_nil ?_
      refine awp_ret ?_
      rw [hc6] at hs
      refine aEnd_retW (v := .sl 3 ((rdSev f x).1.map sSeen) false) (v' := .lit (.slice none 0 0)) (σ' := τ) va_ ?_ (Store.Wk.refl _) ⟨rfl, ?_, h4⟩
      · rw [hs]; exact .nil _ _
      · rw [hs]; exact h3
    · replace hc6 := nm_ hc6
      refine awp_skip ?_
      refine awp_seq ?_
      refine awp_region (by kernel_rfl) ?_
      iterate 2 (refine aL_S rfl rfl v_ ?_)
      refine aL_nil ?_
      refine awp_ret ?_
      rw [hc6] at hs
      have hn : n = 0 := by rw [hc6] at hc3; simp at hc3; omega
      subst hn
      refine aEnd_retW (v := .sl 3 ((rdSev f x).1.map sSeen) false) (v' := .own k 3 (L.map sSeen)) (σ' := τ) va_ ?_ (Store.Wk.refl _) ⟨rfl, ?_, h4⟩
      · rw [hs]; simp [rdMany]; exact .own1 _ _ _
      · rw [hs]; exact h3
theorem sevSib_c {o G : Nat} {x : Rd} {σ : Store} {fs cp : List AVal} {f : Rd → Sib × Rd} (Kp : Store → Prop) (hgo : isGo Tryz.prog G = true) (hK : ∀ τ τ', Kp τ → SubX [o] τ τ' → Kp τ') (ho : σ.heap o = some (rdO x)) (hKσ : Kp σ)
    (hf : ∀ τ y, τ.heap o = some (rdO y) → Kp τ → ACalls Tryz.prog G (fs ++ [] ++ cp) τ fun v τ' => v = sSib (f y).1 ∧ τ'.heap o = some (rdO (f y).2) ∧ SubX [o] τ τ') :
    ACalls Tryz.prog 122 [.ref o 0, .fn (.func G) fs cp] σ fun v σ' => v = .sl 5 ((rdSev f x).1.map sSib) false ∧ σ'.heap o = some (rdO (rdSev f x).2) ∧ SubX [o] σ σ' := by
  obtain ⟨N, hN⟩ : ∃ N, (rdCnt x 65536).1 = N := ⟨_, rfl⟩
  obtain ⟨x0, hx0⟩ : ∃ x0, (rdCnt x 65536).2 = x0 := ⟨_, rfl⟩
  have hNb : N ≤ 65536 := by rw [← hN]; exact rdCnt_le _ _
  refine ACalls_of Tryz.func122 rfl Tryz.ntmps122 (congrArg Array.toList Tryz.results122) (by simp only [List.length_cons, List.length_nil]; decide) ?_; simp only [envOf_cons, envOf_nil, Nat.reduceAdd]
  refine awp_seq ?_
  refine awp_region (by kernel_rfl) ?_
  (refine aL_S rfl rfl v_ ?_)
  refine aL_nil ?_
  refine awp_seq ?_
  refine awp_region (by kernel_rfl) ?_
  refine aL_nilOwn 92 5 rfl rfl rfl (by rfl) fun k5 hk5 => ?_
  refine aL_nil ?_
  refine awp_seq ?_
  refine awp_seq ?_
  have R := And.intro hN hx0
  refine awp_region (by kernel_rfl) ?_
  (refine aL_S rfl rfl v_ ?_)
  refine aL_X rfl rfl (AOp_use rfl rfl (.inr ⟨rfl, rfl, rfl⟩) g_ va_ (rdCount_c (m := 65536) ho) ?_); rintro _ _ ⟨rfl, rfl⟩
  (refine aL_S rfl rfl v_ ?_)
  refine aL_nil ?_
  refine awp_block ?_
  refine awp_loop_env (ι := Store × Nat × List Sib × Rd × Nat) (fun ⟨τ, n, L, y, k⟩ => n) (fun ⟨τ, n, L, y, k⟩ => rdMany f N x0 = (L ++ (rdMany f n y).1, (rdMany f n y).2) ∧ L.length + n ≤ 65536 ∧ τ.heap o = some (rdO y) ∧ SubX [o] σ τ ∧ τ.tok k = some (92, 5) ∧ σ.tok k = none) (fun ⟨τ, n, L, y, k⟩ => [(0, .ref o 0), (1, .fn (.func G) fs cp), (5, .own k 5 (L.map sSib)), (6, vInt n)]) (fun ⟨τ, n, L, y, k⟩ => τ) ((σ.newTok none k5 (92, 5)).set o (rdO x0), N, [], x0, k5) ?_ ?_ ?_ ?_
  · exact ⟨rfl, by simpa using hNb, Store.set_get .., SubX.trans (subx_newTok hk5 subx_refl) SubX.self, by rw [Store.set_tok]; exact Store.newTok_get .., hk5⟩
  · have R := hN; exact cv_
  · rw [hx0]; exact Store.Wk.refl _
  rintro ⟨τ, n, L, y, k⟩ ⟨h1, h2, h3, h4, h5, h6⟩
  simp only [envL_cons, envL_nil]
  refine awp_seq ?_
  refine awp_seq ?_
  have R := h3
  refine awp_region (by kernel_rfl) ?_
  iterate 3 (refine aL_S rfl rfl v_ ?_)
  refine aL_GT rfl rfl v_ rfl vg_ ?_
  refine aL_GTX rfl rfl v_ rfl (fun hb => AOp_useV (by rfl) (by rfl) (.inr ⟨by rfl, by rfl, by rfl⟩) g_ cg_ (bad_x h3)) ?_
  refine aL_GT rfl rfl v_ rfl vg_ ?_
  (refine aL_S rfl rfl v_ ?_)
  refine aL_nil ?_
  refine awp_cond v_ (fun hc3 => ?_) (fun hc3 => ?_)
  · replace hc3 := nm_ hc3
    refine awp_skip ?_
    refine awp_seq ?_
    refine awp_block ?_
    have hn0 : 0 < n ∧ y.2 = true := by simpa using hc3
    have hn1 : n = (n - 1) + 1 := by omega
    have hn2 : (n : Int) - 1 = ((n - 1 : Nat) : Int) := by omega
    have hy := hn0.2
    refine awp_region (by kernel_rfl) ?_
    iterate 2 (refine aL_S rfl rfl v_ ?_)
    refine aL_X rfl rfl (AOp_use rfl rfl (.inl v_) g_ va_ (hf _ _ h3 (hK _ _ hKσ h4)) ?_); rintro _ υ ⟨rfl, hu1, hu2⟩
    refine aL_buildSlice rfl rfl rfl g_ g_ rfl rfl h_ c2_ (by decide) ?_
    have R := hu2.2 _ _ h5
    refine aL_append rfl rfl rfl g_ g_ v_ h_ v_ c_ (by simp; omega) fun k22 hk22 => ?_
    (refine aL_S rfl rfl v_ ?_)
    refine aL_nil ?_
    refine awp_region (by kernel_rfl) ?_
    iterate 3 (refine aL_S rfl rfl v_ ?_)
    refine aL_nil ?_
    refine aNext (ι := Store × Nat × List Sib × Rd × Nat) (i := ⟨τ, n, L, y, k⟩) (υ.newTok (some k) k22 (92, 5), n - 1, L ++ [(f y).1], (f y).2, k22) ?_ ?_ ?_ ?_
    · show n - 1 < n; omega
    · exact ⟨by rw [h1, hn1, rdMany, hy]; simp, by simp; omega, hu1, SubX.newTok (SubX.trans h4 hu2) (fun j hj => by cases hj; exact h6) hk22, Store.newTok_get .., SubX.noTok (SubX.trans h4 hu2) hk22⟩
    · have R := hn2; exact cv_
    · exact Store.Wk.refl _
  · replace hc3 := nm_ hc3
    refine awp_exit ?_
    refine aThen_exit ?_
    refine aThen_exit ?_
    refine aBlock_hit ?_
    refine awp_seq ?_
    refine awp_seq ?_
    skip
    have hs : rdSev f x = if y.2 then (L ++ (rdMany f n y).1, (rdMany f n y).2) else ([], y) := by
      unfold rdSev
      rw [hN, hx0]
      dsimp only
      rw [h1]
      cases hy : y.2 with
      | false => rw [rdMany_bad f hy]; simp [hy]
      | true =>
        have : n = 0 := by rw [hy] at hc3; simp at hc3; omega
        subst this
        simp [rdMany, hy]
    refine awp_region (by kernel_rfl) ?_
    (refine aL_S rfl rfl v_ ?_)
    refine aL_X rfl rfl (AOp_use rfl rfl (.inr ⟨rfl, rfl, rfl⟩) g_ va_ (bad_x h3) ?_); rintro _ _ ⟨rfl, rfl⟩
    refine aL_nil ?_
    refine awp_cond v_ (fun hc6 => ?_) (fun hc6 => ?_)
    · replace hc6 := nm_ hc6
      refine awp_seq ?_
      refine awp_region (by kernel_rfl) ?_
      (refine aL_S rfl rfl v_ ?_)
      refine aL_nil ?_
      refine awp_ret ?_
      rw [hc6] at hs
      refine aEnd_retW (v := .sl 5 ((rdSev f x).1.map sSib) false) (v' := .lit (.slice none 0 0)) (σ' := τ) va_ ?_ (Store.Wk.refl _) ⟨rfl, ?_, h4⟩
      · rw [hs]; exact .nil _ _
      · rw [hs]; exact h3
    · replace hc6 := nm_ hc6
      refine awp_skip ?_
      refine awp_seq ?_
      refine awp_region (by kernel_rfl) ?_
      iterate 2 (refine aL_S rfl rfl v_ ?_)
      refine aL_nil ?_
      refine awp_ret ?_
      rw [hc6] at hs
      have hn : n = 0 := by rw [hc6] at hc3; simp at hc3; omega
      subst hn
      refine aEnd_retW (v := .sl 5 ((rdSev f x).1.map sSib) false) (v' := .own k 5 (L.map sSib)) (σ' := τ) va_ ?_ (Store.Wk.refl _) ⟨rfl, ?_, h4⟩
      · rw [hs]; simp [rdMany]; exact .own1 _ _ _
      · rw [hs]; exact h3
end Go.Proofs.YtbjloippgpilcaaGreat
end

section
set_option linter.all false
set_option maxRecDepth 100000
namespace Go.Proofs.YtbjloippgpilcaaGreat
open Go.Ab

def rdI8 (x : Rd) : Int × Rd := rdNum x 8
def rdSeen (x : Rd) : Seen × Rd :=
  let a := rdText x; let b := rdNum a.2 8; let c := rdSev rdI8 b.2
  (⟨B a.1, b.1, c.1⟩, c.2)
def rdCtx (x : Rd) : List Seen × Rd := rdSev rdSeen x
def rdSib (x : Rd) : Sib × Rd :=
  let a := rdText x; let b := rdNum a.2 8; let c := rdText b.2; let d := rdNum c.2 1; let e := rdNum d.2 8
  (⟨B a.1, b.1, B c.1, !decide (d.1 = 0), e.1⟩, e.2)
def rdObj (x : Rd) : Obj' × Rd :=
  let c := rdCtx x; let l := rdSev rdSib c.2
  if l.2.2 then (⟨c.1, l.1⟩, l.2) else (⟨[], []⟩, l.2)

theorem keep {l : List Nat} {a b : Store} {i : Nat} {x : AObj} (h : SubX l a b) (hx : a.heap i = some x) (hi : i ∉ l) : b.heap i = some x := h.1 i x hi hx
theorem rdInt_m {o : Nat} {x : Rd} {σ : Store} (ho : σ.heap o = some (rdO x)) : ACalls Tryz.prog 88 ([.ref o 0] ++ [] ++ []) σ fun v σ' => v = vInt (rdI8 x).1 ∧ σ'.heap o = some (rdO (rdI8 x).2) ∧ SubX [o] σ σ' :=
  (rdInt_c ho).mono fun v τ ⟨h1, h2⟩ => ⟨h1, by rw [h2]; exact Store.set_get .., by rw [h2]; exact SubX.self⟩

theorem readSeen_c {o ob : Nat} {x : Rd} {σ : Store} (ho : σ.heap o = some (rdO x)) (hb : σ.heap ob = some (.cells [.ref o 0])) : ACalls Tryz.prog 138 [.ref ob 0] σ fun v σ' => v = sSeen (rdSeen x).1 ∧ σ'.heap o = some (rdO (rdSeen x).2) ∧ SubX [o] σ σ' := by
  have hne : ob ≠ o := fun hh => by rw [hh, ho] at hb; cases hb
  refine ACalls_of Tryz.func138 rfl Tryz.ntmps138 (congrArg Array.toList Tryz.results138) (by simp only [List.length_cons, List.length_nil]; decide) ?_; simp only [envOf_cons, envOf_nil, Nat.reduceAdd]
  refine awp_seq ?_
  refine awp_region (by kernel_rfl) ?_
  refine aL_alloc rfl rfl rfl g_ gl_ fun o1 ho1 => ?_
  repeat (rw [none_set_iff] at ho1; obtain ⟨_, ho1⟩ := ho1)
  refine aL_nil ?_
  have n1 := ne_of_heap ho ho1
  have n1b := ne_of_heap hb ho1
  refine awp_seq ?_
  refine awp_region (by kernel_rfl) ?_
  refine aL_alloc rfl rfl rfl g_ gl_ fun o2 ho2 => ?_
  repeat (rw [none_set_iff] at ho2; obtain ⟨_, ho2⟩ := ho2)
  refine aL_nil ?_
  have n2 := ne_of_heap ho ho2
  have n2b := ne_of_heap hb ho2
  refine awp_seq ?_
  have R := hb
  refine awp_draw (.alt 0 2 (.alt 1 2 (.op 4 0 (.op 2 2 (.op 3 2 (.op 5 2 (.op 6 0 (.op 7 2 .nil)))))) (.op 2 2 (.op 1 2 (.op 4 0 (.op 3 2 (.op 5 2 (.op 6 0 (.op 7 2 .nil)))))))) (.op 2 2 (.op 0 2 (.op 1 2 (.op 4 0 (.op 3 2 (.op 5 2 (.op 6 0 (.op 7 2 .nil))))))))) Tryz.mixed (by kernel_rfl) ?_
  refine dR_alt ?_ ?_
  · refine dR_T o_ (by rfl) (by rfl) (AOp_val v_ ?_)
    refine dR_alt ?_ ?_
    · refine dR_T o_ (by rfl) (by rfl) (AOp_use (by rfl) (by rfl) (.inr ⟨by rfl, by rfl, by rfl⟩) g_ va_ (rdText_c (x := x) (by first | exact ho | simp (disch := omega) only [Store.set_ne, ho])) ?_); rintro _ _ ⟨rfl, rfl⟩
      (refine dR_S o_ (by rfl) (by rfl) v_ ?_)
      refine dR_T o_ (by rfl) (by rfl) (AOp_val v_ ?_)
      refine dR_T o_ (by rfl) (by rfl) (AOp_use (by rfl) (by rfl) (.inr ⟨by rfl, by rfl, by rfl⟩) g_ va_ (rdInt_c (Store.set_get ..)) ?_); rintro _ _ ⟨rfl, rfl⟩
      refine dR_store o_ (by rfl) (by rfl) (by rfl) v_ v_ h_ g_ rfl g_ c_ (by rfl) le_ v_ ?_
      (refine dR_S o_ (by rfl) (by rfl) v_ ?_)
      refine dR_store o_ (by rfl) (by rfl) (by rfl) v_ v_ h_ g_ rfl g_ c_ (by rfl) le_ v_ ?_
      refine dR_nil ?_
      refine awp_seq ?_
      have R := hb
      refine awp_region (by kernel_rfl) ?_
      iterate 3 (refine aL_S rfl rfl v_ ?_)
      refine aL_X rfl rfl (AOp_use rfl rfl (.inr ⟨rfl, rfl, rfl⟩) g_ va_ (sevInt_c (x := (rdNum (rdText x).2 8).2) (f := rdI8) (fun _ => True) (by kernel_rfl) (fun _ _ _ _ => trivial) h_ trivial (fun _ _ h _ => rdInt_m h)) ?_); rintro _ υ ⟨rfl, u1, u2⟩
      have R := And.intro (keep (i := o1) u2 h_ (by simp; omega)) (keep (i := o2) u2 h_ (by simp; omega))
      (refine aL_S rfl rfl v_ ?_)
      refine aL_store rfl rfl rfl v_ v_ h_ g_ rfl g_ c_ (by rfl) le_ v_ ?_
      refine aL_nil ?_
      refine awp_seq ?_
      have R := And.intro @R.1 @R.2
      refine awp_region (by kernel_rfl) ?_
      (refine aL_S rfl rfl v_ ?_)
      refine aL_store rfl rfl rfl v_ v_ h_ g_ rfl g_ c_ (by rfl) le_ v_ ?_
      refine aL_nil ?_
      refine awp_ret ?_
      refine aEnd_ret v_ (Store.Wk.refl _) ?_
      refine ⟨rfl, by simp (disch := omega) only [Store.set_ne, u1]; rfl, ?_⟩
      exact subx_new ho1 (subx_new ho2 (SubX.trans sub_ u2))
    refine dR_T o_ (by rfl) (by rfl) (AOp_val v_ ?_)
    refine dR_T o_ (by rfl) (by rfl) (AOp_use (by rfl) (by rfl) (.inr ⟨by rfl, by rfl, by rfl⟩) g_ va_ (rdText_c (x := x) (by first | exact ho | simp (disch := omega) only [Store.set_ne, ho])) ?_); rintro _ _ ⟨rfl, rfl⟩
    (refine dR_S o_ (by rfl) (by rfl) v_ ?_)
    refine dR_T o_ (by rfl) (by rfl) (AOp_use (by rfl) (by rfl) (.inr ⟨by rfl, by rfl, by rfl⟩) g_ va_ (rdInt_c (Store.set_get ..)) ?_); rintro _ _ ⟨rfl, rfl⟩
    refine dR_store o_ (by rfl) (by rfl) (by rfl) v_ v_ h_ g_ rfl g_ c_ (by rfl) le_ v_ ?_
    (refine dR_S o_ (by rfl) (by rfl) v_ ?_)
    refine dR_store o_ (by rfl) (by rfl) (by rfl) v_ v_ h_ g_ rfl g_ c_ (by rfl) le_ v_ ?_
    refine dR_nil ?_
    refine awp_seq ?_
    have R := hb
    refine awp_region (by kernel_rfl) ?_
    iterate 3 (refine aL_S rfl rfl v_ ?_)
    refine aL_X rfl rfl (AOp_use rfl rfl (.inr ⟨rfl, rfl, rfl⟩) g_ va_ (sevInt_c (x := (rdNum (rdText x).2 8).2) (f := rdI8) (fun _ => True) (by kernel_rfl) (fun _ _ _ _ => trivial) h_ trivial (fun _ _ h _ => rdInt_m h)) ?_); rintro _ υ ⟨rfl, u1, u2⟩
    have R := And.intro (keep (i := o1) u2 h_ (by simp; omega)) (keep (i := o2) u2 h_ (by simp; omega))
    (refine aL_S rfl rfl v_ ?_)
    refine aL_store rfl rfl rfl v_ v_ h_ g_ rfl g_ c_ (by rfl) le_ v_ ?_
    refine aL_nil ?_
    refine awp_seq ?_
    have R := And.intro @R.1 @R.2
    refine awp_region (by kernel_rfl) ?_
    (refine aL_S rfl rfl v_ ?_)
    refine aL_store rfl rfl rfl v_ v_ h_ g_ rfl g_ c_ (by rfl) le_ v_ ?_
    refine aL_nil ?_
    refine awp_ret ?_
    refine aEnd_ret v_ (Store.Wk.refl _) ?_
    refine ⟨rfl, by simp (disch := omega) only [Store.set_ne, u1]; rfl, ?_⟩
    exact subx_new ho1 (subx_new ho2 (SubX.trans sub_ u2))
  refine dR_T o_ (by rfl) (by rfl) (AOp_val v_ ?_)
  refine dR_T o_ (by rfl) (by rfl) (AOp_val v_ ?_)
  refine dR_T o_ (by rfl) (by rfl) (AOp_use (by rfl) (by rfl) (.inr ⟨by rfl, by rfl, by rfl⟩) g_ va_ (rdText_c (x := x) (by first | exact ho | simp (disch := omega) only [Store.set_ne, ho])) ?_); rintro _ _ ⟨rfl, rfl⟩
  (refine dR_S o_ (by rfl) (by rfl) v_ ?_)
  refine dR_T o_ (by rfl) (by rfl) (AOp_use (by rfl) (by rfl) (.inr ⟨by rfl, by rfl, by rfl⟩) g_ va_ (rdInt_c (Store.set_get ..)) ?_); rintro _ _ ⟨rfl, rfl⟩
  refine dR_store o_ (by rfl) (by rfl) (by rfl) v_ v_ h_ g_ rfl g_ c_ (by rfl) le_ v_ ?_
  (refine dR_S o_ (by rfl) (by rfl) v_ ?_)
  refine dR_store o_ (by rfl) (by rfl) (by rfl) v_ v_ h_ g_ rfl g_ c_ (by rfl) le_ v_ ?_
  refine dR_nil ?_
  refine awp_seq ?_
  have R := hb
  refine awp_region (by kernel_rfl) ?_
  iterate 3 (refine aL_S rfl rfl v_ ?_)
  refine aL_X rfl rfl (AOp_use rfl rfl (.inr ⟨rfl, rfl, rfl⟩) g_ va_ (sevInt_c (x := (rdNum (rdText x).2 8).2) (f := rdI8) (fun _ => True) (by kernel_rfl) (fun _ _ _ _ => trivial) h_ trivial (fun _ _ h _ => rdInt_m h)) ?_); rintro _ υ ⟨rfl, u1, u2⟩
  have R := And.intro (keep (i := o1) u2 h_ (by simp; omega)) (keep (i := o2) u2 h_ (by simp; omega))
  (refine aL_S rfl rfl v_ ?_)
  refine aL_store rfl rfl rfl v_ v_ h_ g_ rfl g_ c_ (by rfl) le_ v_ ?_
  refine aL_nil ?_
  refine awp_seq ?_
  have R := And.intro @R.1 @R.2
  refine awp_region (by kernel_rfl) ?_
  (refine aL_S rfl rfl v_ ?_)
  refine aL_store rfl rfl rfl v_ v_ h_ g_ rfl g_ c_ (by rfl) le_ v_ ?_
  refine aL_nil ?_
  refine awp_ret ?_
  refine aEnd_ret v_ (Store.Wk.refl _) ?_
  refine ⟨rfl, by simp (disch := omega) only [Store.set_ne, u1]; rfl, ?_⟩
  exact subx_new ho1 (subx_new ho2 (SubX.trans sub_ u2))

theorem readCtx_c {o : Nat} {x : Rd} {σ : Store} (ho : σ.heap o = some (rdO x)) : ACalls Tryz.prog 121 [.ref o 0] σ fun v σ' => v = .sl 3 ((rdCtx x).1.map sSeen) false ∧ σ'.heap o = some (rdO (rdCtx x).2) ∧ SubX [o] σ σ' := by
  refine ACalls_of Tryz.func121 rfl Tryz.ntmps121 (congrArg Array.toList Tryz.results121) (by simp only [List.length_cons, List.length_nil]; decide) ?_; simp only [envOf_cons, envOf_nil, Nat.reduceAdd]
  refine awp_seq ?_
  refine awp_region (by kernel_rfl) ?_
  refine aL_box rfl rfl rfl v_ rfl g_ fun o1 ho1 => ?_
  repeat (rw [none_set_iff] at ho1; obtain ⟨_, ho1⟩ := ho1)
  (refine aL_S rfl rfl v_ ?_)
  refine aL_nil ?_
  have n1 := ne_of_heap ho ho1
  refine awp_seq ?_
  have R := ho
  refine awp_region (by kernel_rfl) ?_
  iterate 2 (refine aL_S rfl rfl v_ ?_)
  refine aL_X rfl rfl (AOp_use rfl rfl (.inr ⟨rfl, rfl, rfl⟩) g_ va_ (sevSeen_c (x := x) (f := rdSeen) (fun τ => τ.heap o1 = some (.cells [.ref o 0])) (by kernel_rfl) (fun _ _ h k => keep k h (by simp; omega)) h_ h_ (fun _ _ h k => readSeen_c h k)) ?_); rintro _ υ ⟨rfl, u1, u2⟩
  (refine aL_S rfl rfl v_ ?_)
  refine aL_nil ?_
  refine awp_ret ?_
  refine aEnd_ret v_ (Store.Wk.refl _) ?_
  exact ⟨rfl, u1, SubX.trans (subx_new ho1 subx_refl) u2⟩

theorem readSib_c {o ob : Nat} {x : Rd} {σ : Store} (ho : σ.heap o = some (rdO x)) (hb : σ.heap ob = some (.cells [.ref o 0])) : ACalls Tryz.prog 123 [.ref ob 0] σ fun v σ' => v = sSib (rdSib x).1 ∧ σ'.heap o = some (rdO (rdSib x).2) ∧ SubX [o] σ σ' := by
  have hne : ob ≠ o := fun hh => by rw [hh, ho] at hb; cases hb
  obtain ⟨z, hz⟩ : ∃ z, AObj.cells [.lit (.string ⟨#[]⟩), .lit (.int .i64 0), .lit (.string ⟨#[]⟩), .lit (.bool false), .lit (.int .i64 0)] = z := ⟨_, rfl⟩
  obtain ⟨x1, e1⟩ : ∃ x1, rdNum (rdText x).2 8 = x1 := ⟨_, rfl⟩
  obtain ⟨x2, e2⟩ : ∃ x2, rdText x1.2 = x2 := ⟨_, rfl⟩
  obtain ⟨x3, e3⟩ : ∃ x3, rdNum x2.2 1 = x3 := ⟨_, rfl⟩
  refine ACalls_of Tryz.func123 rfl Tryz.ntmps123 (congrArg Array.toList Tryz.results123) (by simp only [List.length_cons, List.length_nil]; decide) ?_; simp only [envOf_cons, envOf_nil, Nat.reduceAdd]
  refine awp_seq ?_
  refine awp_region (by kernel_rfl) ?_
  refine aL_alloc rfl rfl rfl g_ gl_ fun o1 ho1 => ?_
  repeat (rw [none_set_iff] at ho1; obtain ⟨_, ho1⟩ := ho1)
  refine aL_nil ?_
  have n1 := ne_of_heap ho ho1
  have n1b := ne_of_heap hb ho1
  refine awp_seq ?_
  refine awp_region (by kernel_rfl) ?_
  refine aL_alloc rfl rfl rfl g_ gl_ fun o2 ho2 => ?_
  repeat (rw [none_set_iff] at ho2; obtain ⟨_, ho2⟩ := ho2)
  refine aL_nil ?_
  have n2 := ne_of_heap ho ho2
  have n2b := ne_of_heap hb ho2
  refine awp_seq_mid (ι := Store) (fun υ => υ.heap o = some (rdO x1.2) ∧ υ.heap ob = some (.cells [.ref o 0]) ∧ υ.heap o1 = some z ∧ υ.heap o2 = some (.cells [vStr (B (rdText x).1), vInt x1.1, .lit (.string ⟨#[]⟩), .lit (.bool false), .lit (.int .i64 0)]) ∧ SubX [o] σ υ) (fun υ => [(0, .ref ob 0), (1, .ref o1 0), (2, .ref o2 0)]) (fun υ => υ) ?_ ?_
  · have R := hb
    refine awp_draw (.alt 0 2 (.alt 1 2 (.op 4 0 (.op 5 0 (.op 2 2 (.op 3 2 (.op 6 2 (.op 7 0 (.op 8 0 (.op 9 2 .nil)))))))) (.op 2 2 (.op 1 2 (.op 4 0 (.op 5 0 (.op 3 2 (.op 6 2 (.op 7 0 (.op 8 0 (.op 9 2 .nil)))))))))) (.op 2 2 (.op 0 2 (.op 1 2 (.op 4 0 (.op 5 0 (.op 3 2 (.op 6 2 (.op 7 0 (.op 8 0 (.op 9 2 .nil))))))))))) Tryz.mixed (by kernel_rfl) ?_
    refine dR_alt ?_ ?_
    · refine dR_T o_ (by rfl) (by rfl) (AOp_val v_ ?_)
      refine dR_alt ?_ ?_
      · refine dR_T o_ (by rfl) (by rfl) (AOp_use (by rfl) (by rfl) (.inr ⟨by rfl, by rfl, by rfl⟩) g_ va_ (rdText_c (x := x) (by first | exact ho | simp (disch := omega) only [Store.set_ne, ho])) ?_); rintro _ _ ⟨rfl, rfl⟩
        iterate 2 (refine dR_S o_ (by rfl) (by rfl) v_ ?_)
        refine dR_T o_ (by rfl) (by rfl) (AOp_val v_ ?_)
        refine dR_T o_ (by rfl) (by rfl) (AOp_use (by rfl) (by rfl) (.inr ⟨by rfl, by rfl, by rfl⟩) g_ va_ (rdInt_c (Store.set_get ..)) ?_); rintro _ _ ⟨rfl, rfl⟩
        refine dR_store o_ (by rfl) (by rfl) (by rfl) v_ v_ h_ g_ rfl g_ c_ (by rfl) le_ v_ ?_
        iterate 2 (refine dR_S o_ (by rfl) (by rfl) v_ ?_)
        refine dR_store o_ (by rfl) (by rfl) (by rfl) v_ v_ h_ g_ rfl g_ c_ (by rfl) le_ v_ ?_
        refine dR_nil ?_
        refine ⟨((((((σ.set o1 (AObj.cells [.lit (.string ⟨#[]⟩), .lit (.int .i64 0), .lit (.string ⟨#[]⟩), .lit (.bool false), .lit (.int .i64 0)])).set o2 (AObj.cells [.lit (.string ⟨#[]⟩), .lit (.int .i64 0), .lit (.string ⟨#[]⟩), .lit (.bool false), .lit (.int .i64 0)])).set o (rdO (rdText x).2)).set o (rdO (rdNum (rdText x).2 8).2)).set o2 (.cells [vStr (B (rdText x).1), .lit (.int .i64 0), .lit (.string ⟨#[]⟩), .lit (.bool false), .lit (.int .i64 0)])).set o2 (.cells [vStr (B (rdText x).1), vInt (rdNum (rdText x).2 8).1, .lit (.string ⟨#[]⟩), .lit (.bool false), .lit (.int .i64 0)])), ?_, ?_, ?_⟩
        · rw [← e1, ← hz]; exact ⟨h_, h_, h_, h_, sub_⟩
        · exact cv_
        · exact Store.Wk.refl _
      refine dR_T o_ (by rfl) (by rfl) (AOp_val v_ ?_)
      refine dR_T o_ (by rfl) (by rfl) (AOp_use (by rfl) (by rfl) (.inr ⟨by rfl, by rfl, by rfl⟩) g_ va_ (rdText_c (x := x) (by first | exact ho | simp (disch := omega) only [Store.set_ne, ho])) ?_); rintro _ _ ⟨rfl, rfl⟩
      iterate 2 (refine dR_S o_ (by rfl) (by rfl) v_ ?_)
      refine dR_T o_ (by rfl) (by rfl) (AOp_use (by rfl) (by rfl) (.inr ⟨by rfl, by rfl, by rfl⟩) g_ va_ (rdInt_c (Store.set_get ..)) ?_); rintro _ _ ⟨rfl, rfl⟩
      refine dR_store o_ (by rfl) (by rfl) (by rfl) v_ v_ h_ g_ rfl g_ c_ (by rfl) le_ v_ ?_
      iterate 2 (refine dR_S o_ (by rfl) (by rfl) v_ ?_)
      refine dR_store o_ (by rfl) (by rfl) (by rfl) v_ v_ h_ g_ rfl g_ c_ (by rfl) le_ v_ ?_
      refine dR_nil ?_
      refine ⟨((((((σ.set o1 (AObj.cells [.lit (.string ⟨#[]⟩), .lit (.int .i64 0), .lit (.string ⟨#[]⟩), .lit (.bool false), .lit (.int .i64 0)])).set o2 (AObj.cells [.lit (.string ⟨#[]⟩), .lit (.int .i64 0), .lit (.string ⟨#[]⟩), .lit (.bool false), .lit (.int .i64 0)])).set o (rdO (rdText x).2)).set o (rdO (rdNum (rdText x).2 8).2)).set o2 (.cells [vStr (B (rdText x).1), .lit (.int .i64 0), .lit (.string ⟨#[]⟩), .lit (.bool false), .lit (.int .i64 0)])).set o2 (.cells [vStr (B (rdText x).1), vInt (rdNum (rdText x).2 8).1, .lit (.string ⟨#[]⟩), .lit (.bool false), .lit (.int .i64 0)])), ?_, ?_, ?_⟩
      · rw [← e1, ← hz]; exact ⟨h_, h_, h_, h_, sub_⟩
      · exact cv_
      · exact Store.Wk.refl _
    refine dR_T o_ (by rfl) (by rfl) (AOp_val v_ ?_)
    refine dR_T o_ (by rfl) (by rfl) (AOp_val v_ ?_)
    refine dR_T o_ (by rfl) (by rfl) (AOp_use (by rfl) (by rfl) (.inr ⟨by rfl, by rfl, by rfl⟩) g_ va_ (rdText_c (x := x) (by first | exact ho | simp (disch := omega) only [Store.set_ne, ho])) ?_); rintro _ _ ⟨rfl, rfl⟩
    iterate 2 (refine dR_S o_ (by rfl) (by rfl) v_ ?_)
    refine dR_T o_ (by rfl) (by rfl) (AOp_use (by rfl) (by rfl) (.inr ⟨by rfl, by rfl, by rfl⟩) g_ va_ (rdInt_c (Store.set_get ..)) ?_); rintro _ _ ⟨rfl, rfl⟩
    refine dR_store o_ (by rfl) (by rfl) (by rfl) v_ v_ h_ g_ rfl g_ c_ (by rfl) le_ v_ ?_
    iterate 2 (refine dR_S o_ (by rfl) (by rfl) v_ ?_)
    refine dR_store o_ (by rfl) (by rfl) (by rfl) v_ v_ h_ g_ rfl g_ c_ (by rfl) le_ v_ ?_
    refine dR_nil ?_
    refine ⟨((((((σ.set o1 (AObj.cells [.lit (.string ⟨#[]⟩), .lit (.int .i64 0), .lit (.string ⟨#[]⟩), .lit (.bool false), .lit (.int .i64 0)])).set o2 (AObj.cells [.lit (.string ⟨#[]⟩), .lit (.int .i64 0), .lit (.string ⟨#[]⟩), .lit (.bool false), .lit (.int .i64 0)])).set o (rdO (rdText x).2)).set o (rdO (rdNum (rdText x).2 8).2)).set o2 (.cells [vStr (B (rdText x).1), .lit (.int .i64 0), .lit (.string ⟨#[]⟩), .lit (.bool false), .lit (.int .i64 0)])).set o2 (.cells [vStr (B (rdText x).1), vInt (rdNum (rdText x).2 8).1, .lit (.string ⟨#[]⟩), .lit (.bool false), .lit (.int .i64 0)])), ?_, ?_, ?_⟩
    · rw [← e1, ← hz]; exact ⟨h_, h_, h_, h_, sub_⟩
    · exact cv_
    · exact Store.Wk.refl _
  · rintro υ ⟨u1, u2, u3, u4, u5⟩
    simp only [envL_cons, envL_nil]
    refine awp_seq_mid (ι := Store) (fun φ => φ.heap o = some (rdO x3.2) ∧ φ.heap ob = some (.cells [.ref o 0]) ∧ φ.heap o1 = some z ∧ φ.heap o2 = some (.cells [vStr (B (rdText x).1), vInt x1.1, vStr (B x2.1), .lit (.bool (!decide (x3.1 = 0))), .lit (.int .i64 0)]) ∧ SubX [o] σ φ) (fun φ => [(0, .ref ob 0), (1, .ref o1 0), (2, .ref o2 0)]) (fun φ => φ) ?_ ?_
    · have R := And.intro u2 u4
      refine awp_draw (.alt 0 2 (.alt 1 2 (.op 5 0 (.op 2 2 (.op 3 2 (.alt 4 2 (.op 6 2 (.op 7 0 (.op 8 2 .nil))) (.op 6 2 (.op 4 2 (.op 7 0 (.op 8 2 .nil)))))))) (.op 2 2 (.op 1 2 (.op 5 0 (.op 3 2 (.alt 4 2 (.op 6 2 (.op 7 0 (.op 8 2 .nil))) (.op 6 2 (.op 4 2 (.op 7 0 (.op 8 2 .nil)))))))))) (.op 2 2 (.op 0 2 (.op 1 2 (.op 5 0 (.op 3 2 (.alt 4 2 (.op 6 2 (.op 7 0 (.op 8 2 .nil))) (.op 6 2 (.op 4 2 (.op 7 0 (.op 8 2 .nil))))))))))) Tryz.mixed (by kernel_rfl) ?_
      refine dR_alt ?_ ?_
      · refine dR_T o_ (by rfl) (by rfl) (AOp_val v_ ?_)
        refine dR_alt ?_ ?_
        · refine dR_T o_ (by rfl) (by rfl) (AOp_use (by rfl) (by rfl) (.inr ⟨by rfl, by rfl, by rfl⟩) g_ va_ (rdText_c (x := x1.2) (by simp (disch := omega) only [Store.set_ne, u1])) ?_); rintro _ _ ⟨rfl, rfl⟩
          (refine dR_S o_ (by rfl) (by rfl) v_ ?_)
          refine dR_T o_ (by rfl) (by rfl) (AOp_val v_ ?_)
          refine dR_T o_ (by rfl) (by rfl) (AOp_use (by rfl) (by rfl) (.inr ⟨by rfl, by rfl, by rfl⟩) g_ va_ (rdByte_c (Store.set_get ..)) ?_); rintro _ _ ⟨rfl, rfl⟩
          refine dR_alt ?_ ?_
          · refine dR_T o_ (by rfl) (by rfl) (AOp_val v_ ?_)
            refine dR_store o_ (by rfl) (by rfl) (by rfl) v_ v_ h_ g_ rfl g_ c_ (by rfl) le_ v_ ?_
            (refine dR_S o_ (by rfl) (by rfl) v_ ?_)
            refine dR_store o_ (by rfl) (by rfl) (by rfl) v_ v_ h_ g_ rfl g_ c_ (by rfl) le_ v_ ?_
            refine dR_nil ?_
            refine ⟨((((υ.set o (rdO (rdText x1.2).2)).set o (rdO (rdNum (rdText x1.2).2 1).2)).set o2 (.cells [vStr (B (rdText x).1), vInt x1.1, vStr (B (rdText x1.2).1), .lit (.bool false), .lit (.int .i64 0)])).set o2 (.cells [vStr (B (rdText x).1), vInt x1.1, vStr (B (rdText x1.2).1), .lit (.bool (!decide ((rdNum (rdText x1.2).2 1).1 = 0))), .lit (.int .i64 0)])), ?_, ?_, ?_⟩
            · rw [← e3, ← e2]; exact ⟨by simp (disch := omega) only [Store.set_ne, Store.set_get], by simp (disch := omega) only [Store.set_ne, u2], by simp (disch := omega) only [Store.set_ne, u3], h_, subx_new ho2 (subx_new ho2 (subx_in (.head _) (subx_in (.head _) u5)))⟩
            · exact cv_
            · exact Store.Wk.refl _
          refine dR_store o_ (by rfl) (by rfl) (by rfl) v_ v_ h_ g_ rfl g_ c_ (by rfl) le_ v_ ?_
          refine dR_T o_ (by rfl) (by rfl) (AOp_val v_ ?_)
          (refine dR_S o_ (by rfl) (by rfl) v_ ?_)
          refine dR_store o_ (by rfl) (by rfl) (by rfl) v_ v_ h_ g_ rfl g_ c_ (by rfl) le_ v_ ?_
          refine dR_nil ?_
          refine ⟨((((υ.set o (rdO (rdText x1.2).2)).set o (rdO (rdNum (rdText x1.2).2 1).2)).set o2 (.cells [vStr (B (rdText x).1), vInt x1.1, vStr (B (rdText x1.2).1), .lit (.bool false), .lit (.int .i64 0)])).set o2 (.cells [vStr (B (rdText x).1), vInt x1.1, vStr (B (rdText x1.2).1), .lit (.bool (!decide ((rdNum (rdText x1.2).2 1).1 = 0))), .lit (.int .i64 0)])), ?_, ?_, ?_⟩
          · rw [← e3, ← e2]; exact ⟨by simp (disch := omega) only [Store.set_ne, Store.set_get], by simp (disch := omega) only [Store.set_ne, u2], by simp (disch := omega) only [Store.set_ne, u3], h_, subx_new ho2 (subx_new ho2 (subx_in (.head _) (subx_in (.head _) u5)))⟩
          · exact cv_
          · exact Store.Wk.refl _
        refine dR_T o_ (by rfl) (by rfl) (AOp_val v_ ?_)
        refine dR_T o_ (by rfl) (by rfl) (AOp_use (by rfl) (by rfl) (.inr ⟨by rfl, by rfl, by rfl⟩) g_ va_ (rdText_c (x := x1.2) (by simp (disch := omega) only [Store.set_ne, u1])) ?_); rintro _ _ ⟨rfl, rfl⟩
        (refine dR_S o_ (by rfl) (by rfl) v_ ?_)
        refine dR_T o_ (by rfl) (by rfl) (AOp_use (by rfl) (by rfl) (.inr ⟨by rfl, by rfl, by rfl⟩) g_ va_ (rdByte_c (Store.set_get ..)) ?_); rintro _ _ ⟨rfl, rfl⟩
        refine dR_alt ?_ ?_
        · refine dR_T o_ (by rfl) (by rfl) (AOp_val v_ ?_)
          refine dR_store o_ (by rfl) (by rfl) (by rfl) v_ v_ h_ g_ rfl g_ c_ (by rfl) le_ v_ ?_
          (refine dR_S o_ (by rfl) (by rfl) v_ ?_)
          refine dR_store o_ (by rfl) (by rfl) (by rfl) v_ v_ h_ g_ rfl g_ c_ (by rfl) le_ v_ ?_
          refine dR_nil ?_
          refine ⟨((((υ.set o (rdO (rdText x1.2).2)).set o (rdO (rdNum (rdText x1.2).2 1).2)).set o2 (.cells [vStr (B (rdText x).1), vInt x1.1, vStr (B (rdText x1.2).1), .lit (.bool false), .lit (.int .i64 0)])).set o2 (.cells [vStr (B (rdText x).1), vInt x1.1, vStr (B (rdText x1.2).1), .lit (.bool (!decide ((rdNum (rdText x1.2).2 1).1 = 0))), .lit (.int .i64 0)])), ?_, ?_, ?_⟩
          · rw [← e3, ← e2]; exact ⟨by simp (disch := omega) only [Store.set_ne, Store.set_get], by simp (disch := omega) only [Store.set_ne, u2], by simp (disch := omega) only [Store.set_ne, u3], h_, subx_new ho2 (subx_new ho2 (subx_in (.head _) (subx_in (.head _) u5)))⟩
          · exact cv_
          · exact Store.Wk.refl _
        refine dR_store o_ (by rfl) (by rfl) (by rfl) v_ v_ h_ g_ rfl g_ c_ (by rfl) le_ v_ ?_
        refine dR_T o_ (by rfl) (by rfl) (AOp_val v_ ?_)
        (refine dR_S o_ (by rfl) (by rfl) v_ ?_)
        refine dR_store o_ (by rfl) (by rfl) (by rfl) v_ v_ h_ g_ rfl g_ c_ (by rfl) le_ v_ ?_
        refine dR_nil ?_
        refine ⟨((((υ.set o (rdO (rdText x1.2).2)).set o (rdO (rdNum (rdText x1.2).2 1).2)).set o2 (.cells [vStr (B (rdText x).1), vInt x1.1, vStr (B (rdText x1.2).1), .lit (.bool false), .lit (.int .i64 0)])).set o2 (.cells [vStr (B (rdText x).1), vInt x1.1, vStr (B (rdText x1.2).1), .lit (.bool (!decide ((rdNum (rdText x1.2).2 1).1 = 0))), .lit (.int .i64 0)])), ?_, ?_, ?_⟩
        · rw [← e3, ← e2]; exact ⟨by simp (disch := omega) only [Store.set_ne, Store.set_get], by simp (disch := omega) only [Store.set_ne, u2], by simp (disch := omega) only [Store.set_ne, u3], h_, subx_new ho2 (subx_new ho2 (subx_in (.head _) (subx_in (.head _) u5)))⟩
        · exact cv_
        · exact Store.Wk.refl _
      refine dR_T o_ (by rfl) (by rfl) (AOp_val v_ ?_)
      refine dR_T o_ (by rfl) (by rfl) (AOp_val v_ ?_)
      refine dR_T o_ (by rfl) (by rfl) (AOp_use (by rfl) (by rfl) (.inr ⟨by rfl, by rfl, by rfl⟩) g_ va_ (rdText_c (x := x1.2) (by simp (disch := omega) only [Store.set_ne, u1])) ?_); rintro _ _ ⟨rfl, rfl⟩
      (refine dR_S o_ (by rfl) (by rfl) v_ ?_)
      refine dR_T o_ (by rfl) (by rfl) (AOp_use (by rfl) (by rfl) (.inr ⟨by rfl, by rfl, by rfl⟩) g_ va_ (rdByte_c (Store.set_get ..)) ?_); rintro _ _ ⟨rfl, rfl⟩
      refine dR_alt ?_ ?_
      · refine dR_T o_ (by rfl) (by rfl) (AOp_val v_ ?_)
        refine dR_store o_ (by rfl) (by rfl) (by rfl) v_ v_ h_ g_ rfl g_ c_ (by rfl) le_ v_ ?_
        (refine dR_S o_ (by rfl) (by rfl) v_ ?_)
        refine dR_store o_ (by rfl) (by rfl) (by rfl) v_ v_ h_ g_ rfl g_ c_ (by rfl) le_ v_ ?_
        refine dR_nil ?_
        refine ⟨((((υ.set o (rdO (rdText x1.2).2)).set o (rdO (rdNum (rdText x1.2).2 1).2)).set o2 (.cells [vStr (B (rdText x).1), vInt x1.1, vStr (B (rdText x1.2).1), .lit (.bool false), .lit (.int .i64 0)])).set o2 (.cells [vStr (B (rdText x).1), vInt x1.1, vStr (B (rdText x1.2).1), .lit (.bool (!decide ((rdNum (rdText x1.2).2 1).1 = 0))), .lit (.int .i64 0)])), ?_, ?_, ?_⟩
        · rw [← e3, ← e2]; exact ⟨by simp (disch := omega) only [Store.set_ne, Store.set_get], by simp (disch := omega) only [Store.set_ne, u2], by simp (disch := omega) only [Store.set_ne, u3], h_, subx_new ho2 (subx_new ho2 (subx_in (.head _) (subx_in (.head _) u5)))⟩
        · exact cv_
        · exact Store.Wk.refl _
      refine dR_store o_ (by rfl) (by rfl) (by rfl) v_ v_ h_ g_ rfl g_ c_ (by rfl) le_ v_ ?_
      refine dR_T o_ (by rfl) (by rfl) (AOp_val v_ ?_)
      (refine dR_S o_ (by rfl) (by rfl) v_ ?_)
      refine dR_store o_ (by rfl) (by rfl) (by rfl) v_ v_ h_ g_ rfl g_ c_ (by rfl) le_ v_ ?_
      refine dR_nil ?_
      refine ⟨((((υ.set o (rdO (rdText x1.2).2)).set o (rdO (rdNum (rdText x1.2).2 1).2)).set o2 (.cells [vStr (B (rdText x).1), vInt x1.1, vStr (B (rdText x1.2).1), .lit (.bool false), .lit (.int .i64 0)])).set o2 (.cells [vStr (B (rdText x).1), vInt x1.1, vStr (B (rdText x1.2).1), .lit (.bool (!decide ((rdNum (rdText x1.2).2 1).1 = 0))), .lit (.int .i64 0)])), ?_, ?_, ?_⟩
      · rw [← e3, ← e2]; exact ⟨by simp (disch := omega) only [Store.set_ne, Store.set_get], by simp (disch := omega) only [Store.set_ne, u2], by simp (disch := omega) only [Store.set_ne, u3], h_, subx_new ho2 (subx_new ho2 (subx_in (.head _) (subx_in (.head _) u5)))⟩
      · exact cv_
      · exact Store.Wk.refl _
    · rintro φ ⟨q1, q2, q3, q4, q5⟩
      simp only [envL_cons, envL_nil]
      refine awp_seq ?_
      have R := And.intro q2 q4
      refine awp_region (by kernel_rfl) ?_
      (refine aL_S rfl rfl v_ ?_)
      refine aL_X rfl rfl (AOp_use rfl rfl (.inr ⟨rfl, rfl, rfl⟩) g_ va_ (rdInt_c (x := x3.2) q1) ?_); rintro _ _ ⟨rfl, rfl⟩
      (refine aL_S rfl rfl v_ ?_)
      refine aL_store rfl rfl rfl v_ v_ h_ g_ rfl g_ c_ (by rfl) le_ v_ ?_
      refine aL_nil ?_
      refine awp_seq ?_
      have q3' : φ.heap o1 = some (.cells [.lit (.string ⟨#[]⟩), .lit (.int .i64 0), .lit (.string ⟨#[]⟩), .lit (.bool false), .lit (.int .i64 0)]) := by rw [q3, hz]
      have R := And.intro q3' q4
      refine awp_region (by kernel_rfl) ?_
      (refine aL_S rfl rfl v_ ?_)
      refine aL_store rfl rfl rfl v_ v_ h_ g_ rfl g_ c_ (by rfl) le_ v_ ?_
      refine aL_nil ?_
      refine awp_ret ?_
      refine aEnd_ret v_ (Store.Wk.refl _) ?_
      refine ⟨by rw [← e1] at e2; subst e2; subst e1; subst e3; rfl, by simp (disch := omega) only [Store.set_ne, Store.set_get]; rw [← e3, ← e2, ← e1]; rfl, subx_new ho1 (subx_new ho2 (subx_in (.head _) q5))⟩

theorem readObj_c {o : Nat} {x : Rd} {σ : Store} (ho : σ.heap o = some (rdO x)) : ACalls Tryz.prog 89 [.ref o 0] σ fun v σ' => v = sObj (rdObj x).1 ∧ σ'.heap o = some (rdO (rdObj x).2) ∧ SubX [o] σ σ' := by
  refine ACalls_of Tryz.func89 rfl Tryz.ntmps89 (congrArg Array.toList Tryz.results89) (by simp only [List.length_cons, List.length_nil]; decide) ?_; simp only [envOf_cons, envOf_nil, Nat.reduceAdd]
  refine awp_seq ?_
  refine awp_region (by kernel_rfl) ?_
  refine aL_box rfl rfl rfl v_ rfl g_ fun o1 ho1 => ?_
  repeat (rw [none_set_iff] at ho1; obtain ⟨_, ho1⟩ := ho1)
  refine aL_alloc rfl rfl rfl g_ gl_ fun o2 ho2 => ?_
  repeat (rw [none_set_iff] at ho2; obtain ⟨_, ho2⟩ := ho2)
  refine aL_nil ?_
  have n1 := ne_of_heap ho ho1
  have n2 := ne_of_heap ho ho2
  refine awp_seq ?_
  have R := ho
  refine awp_region (by kernel_rfl) ?_
  (refine aL_S rfl rfl v_ ?_)
  refine aL_X rfl rfl (AOp_use rfl rfl (.inr ⟨rfl, rfl, rfl⟩) g_ va_ (readCtx_c (x := x) h_) ?_); rintro _ υ ⟨rfl, u1, u2⟩
  have k1 := keep (i := o1) (x := .cells [.ref o 0]) u2 h_ (by simp; omega)
  have k2 := keep (i := o2) (x := .cells [.lit (.slice none 0 0), .lit (.slice none 0 0)]) u2 h_ (by simp; omega)
  have R := And.intro k1 k2
  (refine aL_S rfl rfl v_ ?_)
  refine aL_alloc rfl rfl rfl g_ gl_ fun o3 ho3 => ?_
  repeat (rw [none_set_iff] at ho3; obtain ⟨_, ho3⟩ := ho3)
  refine aL_store rfl rfl rfl v_ v_ h_ g_ rfl g_ c_ (by rfl) le_ v_ ?_
  refine aL_nil ?_
  have m1 := ne_of_heap k1 ho3
  have m2 := ne_of_heap k2 ho3
  have m3 := ne_of_heap u1 ho3
  refine awp_seq ?_
  have R := And.intro k1 (And.intro k2 u1)
  refine awp_region (by kernel_rfl) ?_
  iterate 2 (refine aL_S rfl rfl v_ ?_)
  refine aL_X rfl rfl (AOp_use rfl rfl (.inr ⟨rfl, rfl, rfl⟩) g_ va_ (sevSib_c (x := (rdCtx x).2) (f := rdSib) (fun τ => τ.heap o1 = some (.cells [.ref o 0])) (by kernel_rfl) (fun _ _ h k => keep k h (by simp; omega)) h_ h_ (fun _ _ h k => readSib_c h k)) ?_); rintro _ φ ⟨rfl, q1, q2⟩
  have l1 := keep (i := o1) (x := .cells [.ref o 0]) q2 h_ (by simp; omega)
  have l2 := keep (i := o2) (x := .cells [.lit (.slice none 0 0), .lit (.slice none 0 0)]) q2 h_ (by simp; omega)
  have l3 := keep (i := o3) (x := .cells [.sl 3 ((rdCtx x).1.map sSeen) false, .lit (.slice none 0 0)]) q2 h_ (by simp; omega)
  have R := l3
  (refine aL_S rfl rfl v_ ?_)
  refine aL_store rfl rfl rfl v_ v_ h_ g_ rfl g_ c_ (by rfl) le_ v_ ?_
  refine aL_nil ?_
  refine awp_seq ?_
  refine awp_seq ?_
  have hs0 : SubX [o] σ φ := SubX.trans (SubX.trans (subx_new ho2 (subx_new ho1 subx_refl)) u2) (SubX.trans (subx_new ho3 (subx_new ho3 subx_refl)) q2)
  have hn3 : σ.heap o3 = none := by
    cases hh : σ.heap o3 with
    | none => rfl
    | some y =>
      have h1 : ((σ.set o1 (.cells [.ref o 0])).set o2 (.cells [.lit (.slice none 0 0), .lit (.slice none 0 0)])).heap o3 = some y := by simp (disch := omega) only [Store.set_ne, hh]
      have := u2.1 o3 y (by simp; omega) h1
      rw [ho3] at this; cases this
  have R := l1
  refine awp_region (by kernel_rfl) ?_
  have hr : rdObj x = if (rdSev rdSib (rdCtx x).2).2.2 then (⟨(rdCtx x).1, (rdSev rdSib (rdCtx x).2).1⟩, (rdSev rdSib (rdCtx x).2).2) else (⟨[], []⟩, (rdSev rdSib (rdCtx x).2).2) := rfl
  (refine aL_S rfl rfl v_ ?_)
  refine aL_X rfl rfl (AOp_use rfl rfl (.inr ⟨rfl, rfl, rfl⟩) g_ va_ (bad_x (x := (rdSev rdSib (rdCtx x).2).2) (by simp (disch := omega) only [Store.set_ne, q1])) ?_); rintro _ _ ⟨rfl, rfl⟩
  refine aL_nil ?_
  refine awp_cond v_ (fun hc3 => ?_) (fun hc3 => ?_)
  · replace hc3 := nm_ hc3
    refine awp_seq ?_
    have R := And.intro l2 l3
    refine awp_region (by kernel_rfl) ?_
    (refine aL_S rfl rfl v_ ?_)
    refine aL_store rfl rfl rfl v_ v_ h_ g_ rfl g_ c_ (by rfl) le_ v_ ?_
    refine aL_nil ?_
    refine awp_ret ?_
    rw [hc3] at hr
    have hr1 : rdObj x = (⟨[], []⟩, (rdSev rdSib (rdCtx x).2).2) := by rw [hr]; rfl
    rw [hr1]
    exact aEnd_retW (v := sObj ⟨[], []⟩) (v' := .agg [.lit (.slice none 0 0), .lit (.slice none 0 0)]) va_ (.agg _ _ rfl (fun i hi hi' => by match i, hi with | 0, _ => exact .nil _ _ | 1, _ => exact .nil _ _)) (Store.Wk.refl _) ⟨rfl, by simp (disch := omega) only [Store.set_ne, q1], subx_new ho2 (subx_new hn3 hs0)⟩
  · replace hc3 := nm_ hc3
    refine awp_skip ?_
    refine awp_seq ?_
    have R := And.intro l2 l3
    refine awp_region (by kernel_rfl) ?_
    (refine aL_S rfl rfl v_ ?_)
    refine aL_store rfl rfl rfl v_ v_ h_ g_ rfl g_ c_ (by rfl) le_ v_ ?_
    refine aL_nil ?_
    refine awp_ret ?_
    rw [hc3] at hr
    have hr1 : rdObj x = (⟨(rdCtx x).1, (rdSev rdSib (rdCtx x).2).1⟩, (rdSev rdSib (rdCtx x).2).2) := by rw [hr]; rfl
    rw [hr1]
    exact aEnd_ret va_ (Store.Wk.refl _) ⟨rfl, by simp (disch := omega) only [Store.set_ne, q1], subx_new ho2 (subx_new hn3 hs0)⟩
end Go.Proofs.YtbjloippgpilcaaGreat
end
