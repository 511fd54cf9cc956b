/-
  What is read of bytes: the reference's reader; Contexts and objects read of bytes: the reference's. Own work (an AI agent).
-/
import Derived.Test.YtgpibooklhakgaaGreatGG

section
set_option linter.all false
set_option maxRecDepth 100000
namespace Go.Proofs.YtgpibooklhakgaaGreat
open Go.Ab

abbrev rfO (x : Rd) : AObj := .cells [vStr (B x.1), vBool (!x.2)]

theorem rtake_c {o n : Nat} {s : List UInt8} {g : Bool} {σ : Store} (ho : σ.heap o = some (.cells [vStr (B s), vBool (!g)])) : ACalls Tryz.prog 153 [.ref o 0, vInt n] σ fun v σ' => v = .tup [vStr (B (rdTake (s, g) n).1), vBool (rdTake (s, g) n).2.2] ∧ σ' = σ.set o (rfO (rdTake (s, g) n).2) := by
  refine ACalls_of Tryz.func153 rfl Tryz.ntmps153 (congrArg Array.toList Tryz.results153) (by simp only [List.length_cons, List.length_nil]; decide) ?_; simp only [envOf_cons, envOf_nil, Nat.reduceAdd]
  refine awp_seq ?_
  have R := And.intro ho B_size
  refine awp_region (by kernel_rfl) ?_
  iterate 2 (refine aL_S rfl rfl v_ ?_)
  refine aL_nil ?_
  refine awp_seq ?_
  refine awp_seq ?_
  have R := And.intro ho B_size
  refine awp_region (by kernel_rfl) ?_
  iterate 5 (refine aL_S rfl rfl v_ ?_)
  refine aL_GF rfl rfl v_ rfl vg_ ?_
  refine aL_GF rfl rfl v_ rfl vg_ ?_
  refine aL_GF rfl rfl v_ rfl vg_ ?_
  refine aL_GF rfl rfl v_ rfl vg_ ?_
  refine aL_GF rfl rfl v_ rfl vg_ ?_
  refine aL_GF rfl rfl v_ rfl vg_ ?_
  refine aL_GF rfl rfl v_ rfl vg_ ?_
  (refine aL_S rfl rfl v_ ?_)
  refine aL_nil ?_
  refine awp_cond v_ (fun hc1 => ?_) (fun hc1 => ?_)
  · replace hc1 := nm_ hc1
    refine awp_seq ?_
    have R := And.intro ho B_size
    refine awp_region (by kernel_rfl) ?_
    iterate 3 (refine aL_S rfl rfl v_ ?_)
    refine aL_store rfl rfl rfl v_ v_ h_ g_ rfl g_ c_ (by rfl) le_ v_ ?_
    refine aL_nil ?_
    refine awp_seq ?_
    have R := And.intro ho B_size
    refine awp_region (by kernel_rfl) ?_
    iterate 2 (refine aL_S rfl rfl v_ ?_)
    refine aL_nil ?_
    refine awp_ret ?_
    refine aEnd_ret v_ (Store.Wk.refl _) ?_
    rw [rdTake_no (by rcases hc1 with h | h; exact .inl (by simpa using h); exact .inr (by simpa using h))]; exact ⟨rfl, rfl⟩
  · replace hc1 := nm_ hc1
    refine awp_skip ?_
    refine awp_seq ?_
    have R := And.intro ho B_size
    refine awp_region (by kernel_rfl) ?_
    iterate 7 (refine aL_S rfl rfl v_ ?_)
    refine aL_nil ?_
    refine awp_seq ?_
    have R := And.intro ho B_size
    refine awp_region (by kernel_rfl) ?_
    iterate 9 (refine aL_S rfl rfl v_ ?_)
    refine aL_store rfl rfl rfl v_ v_ h_ g_ rfl g_ c_ (by rfl) le_ v_ ?_
    refine aL_nil ?_
    refine awp_seq ?_
    have R := And.intro ho B_size
    refine awp_region (by kernel_rfl) ?_
    iterate 3 (refine aL_S rfl rfl v_ ?_)
    refine aL_nil ?_
    refine awp_ret ?_
    refine aEnd_ret v_ (Store.Wk.refl _) ?_
    have hg : g = true := by simpa using hc1.1
    rw [rdTake_yes hg (by simpa using hc1.2), hg]
    refine ⟨by rw [extract_B, Lb_B]; rfl, ?_⟩
    rw [extract_B, Lb_B, List.take_length]
theorem rtake_x {o n : Nat} {x : Rd} {σ : Store} (ho : σ.heap o = some (rfO x)) : ACalls Tryz.prog 153 [.ref o 0, vInt n] σ fun v σ' => v = .tup [vStr (B (rdTake x n).1), vBool (rdTake x n).2.2] ∧ σ' = σ.set o (rfO (rdTake x n).2) := rtake_c ho

theorem getq_B {l : List UInt8} {k : Nat} {c : UInt8} (h : l[k]? = some c) : (B l)[k]? = some c := by
  obtain ⟨hk, rfl⟩ := List.getElem?_eq_some_iff.1 h
  have hs : k < (B l).size := by rw [B_size]; exact hk
  rw [getElem?_pos (B l) k hs]
  congr 1

theorem rnumber_c {r : List UInt8} {σ : Store} (hl : r.length ≤ 1099511627776) : ACalls Tryz.prog 154 [vStr (B r)] σ fun v σ' => v = vInt (rdI r) ∧ σ = σ' := by
  refine ACalls_of Tryz.func154 rfl Tryz.ntmps154 (congrArg Array.toList Tryz.results154) (by simp only [List.length_cons, List.length_nil]; decide) ?_; simp only [envOf_cons, envOf_nil, Nat.reduceAdd]
  refine awp_seq ?_
  refine awp_region (by kernel_rfl) ?_
  (refine aL_S rfl rfl v_ ?_)
  refine aL_nil ?_
  refine awp_seq ?_
  refine awp_region (by kernel_rfl) ?_
  (refine aL_S rfl rfl v_ ?_)
  refine aL_nil ?_
  refine awp_seq ?_
  refine awp_seq ?_
  refine awp_region (by kernel_rfl) ?_
  (refine aL_S rfl rfl v_ ?_)
  refine aL_nil ?_
  refine awp_block ?_
  refine awp_loop_env (ι := Nat) (fun k => r.length - k) (fun k => k ≤ r.length) (fun k => [(0, vStr (B r)), (3, vInt (rdI (r.take k))), (4, vInt k)]) (fun k => σ) 0 ?_ ?_ ?_ ?_
  · exact Nat.zero_le _
  · exact cv_
  · exact sub_
  rintro k hk
  simp only [envL_cons, envL_nil]
  refine awp_seq ?_
  refine awp_seq ?_
  have R := B_size
  refine awp_region (by kernel_rfl) ?_
  iterate 4 (refine aL_S rfl rfl v_ ?_)
  refine aL_nil ?_
  refine awp_cond v_ (fun hc3 => ?_) (fun hc3 => ?_)
  · replace hc3 := nm_ hc3
    refine awp_skip ?_
    refine awp_seq ?_
    refine awp_block ?_
    obtain ⟨c, hc⟩ : ∃ c, r[k]? = some c := ⟨r[k]'(by omega), List.getElem?_eq_getElem _⟩
    have hb2 := getq_B hc
    have hlt : c.toNat < 256 := c.toNat_lt
    have hst : bOr .i64 (IntKind.i64.wrap (rdI (r.take k) * 2 ^ 8)) (c.toNat : Int) = rdI (r.take (k + 1)) := by rw [take_snoc hc]; exact rdI_snoc _ _
    have R := And.intro B_size hb2
    refine awp_region (by kernel_rfl) ?_
    iterate 8 (refine aL_S rfl rfl v_ ?_)
    refine aL_nil ?_
    refine awp_region (by kernel_rfl) ?_
    iterate 3 (refine aL_S rfl rfl v_ ?_)
    refine aL_nil ?_
    refine aNext (ι := Nat) (i := k) (k + 1) ?_ ?_ ?_ ?_
    · omega
    · omega
    · have R := hst; exact cv_
    · exact sub_
  · replace hc3 := nm_ hc3
    refine awp_exit ?_
    refine aThen_exit ?_
    refine aThen_exit ?_
    refine aBlock_hit ?_
    refine awp_seq ?_
    refine awp_region (by kernel_rfl) ?_
    iterate 2 (refine aL_S rfl rfl v_ ?_)
    refine aL_nil ?_
    refine awp_ret ?_
    refine aEnd_ret (σ' := σ) v_ sub_ ?_
    rw [List.take_of_length_le (by omega)]
    exact ⟨rfl, rfl⟩
theorem rfByte_c {o : Nat} {x : Rd} {σ : Store} (ho : σ.heap o = some (rfO x)) : ACalls Tryz.prog 155 [.ref o 0] σ fun v σ' => v = vInt (rdNum x 1).1 ∧ σ' = σ.set o (rfO (rdNum x 1).2) := by
  refine ACalls_of Tryz.func155 rfl Tryz.ntmps155 (congrArg Array.toList Tryz.results155) (by simp only [List.length_cons, List.length_nil]; decide) ?_; simp only [envOf_cons, envOf_nil, Nat.reduceAdd]
  refine awp_seq ?_
  refine awp_region (by kernel_rfl) ?_
  (refine aL_S rfl rfl v_ ?_)
  refine aL_nil ?_
  refine awp_seq ?_
  refine awp_region (by kernel_rfl) ?_
  (refine aL_S rfl rfl v_ ?_)
  refine aL_X rfl rfl (AOp_use rfl rfl (.inr ⟨rfl, rfl, rfl⟩) g_ va_ (rtake_x (n := 1) ho) ?_); rintro _ _ ⟨rfl, rfl⟩
  iterate 5 (refine aL_S rfl rfl v_ ?_)
  refine aL_nil ?_
  refine awp_seq ?_
  refine awp_region (by kernel_rfl) ?_
  (refine aL_S rfl rfl v_ ?_)
  refine aL_X rfl rfl (AOp_use rfl rfl (.inr ⟨rfl, rfl, rfl⟩) g_ va_ (rnumber_c (Nat.le_trans rdTake_len (by decide))) ?_); rintro _ _ ⟨rfl, rfl⟩
  (refine aL_S rfl rfl v_ ?_)
  refine aL_nil ?_
  refine awp_ret ?_
  refine aEnd_ret v_ (Store.Wk.refl _) ?_
  exact ⟨rfl, rfl⟩
theorem rfInt_c {o : Nat} {x : Rd} {σ : Store} (ho : σ.heap o = some (rfO x)) : ACalls Tryz.prog 87 [.ref o 0] σ fun v σ' => v = vInt (rdNum x 8).1 ∧ σ' = σ.set o (rfO (rdNum x 8).2) := by
  refine ACalls_of Tryz.func87 rfl Tryz.ntmps87 (congrArg Array.toList Tryz.results87) (by simp only [List.length_cons, List.length_nil]; decide) ?_; simp only [envOf_cons, envOf_nil, Nat.reduceAdd]
  refine awp_seq ?_
  refine awp_region (by kernel_rfl) ?_
  (refine aL_S rfl rfl v_ ?_)
  refine aL_nil ?_
  refine awp_seq ?_
  refine awp_region (by kernel_rfl) ?_
  (refine aL_S rfl rfl v_ ?_)
  refine aL_X rfl rfl (AOp_use rfl rfl (.inr ⟨rfl, rfl, rfl⟩) g_ va_ (rtake_x (n := 8) ho) ?_); rintro _ _ ⟨rfl, rfl⟩
  iterate 5 (refine aL_S rfl rfl v_ ?_)
  refine aL_nil ?_
  refine awp_seq ?_
  refine awp_region (by kernel_rfl) ?_
  (refine aL_S rfl rfl v_ ?_)
  refine aL_X rfl rfl (AOp_use rfl rfl (.inr ⟨rfl, rfl, rfl⟩) g_ va_ (rnumber_c (Nat.le_trans rdTake_len (by decide))) ?_); rintro _ _ ⟨rfl, rfl⟩
  (refine aL_S rfl rfl v_ ?_)
  refine aL_nil ?_
  refine awp_ret ?_
  refine aEnd_ret v_ (Store.Wk.refl _) ?_
  exact ⟨rfl, rfl⟩
theorem rfCount_c {o m : Nat} {x : Rd} {σ : Store} (ho : σ.heap o = some (rfO x)) : ACalls Tryz.prog 85 [.ref o 0, vInt m] σ fun v σ' => v = vInt (rdCnt x m).1 ∧ σ' = σ.set o (rfO (rdCnt x m).2) := by
  have h4 : rdI (rdTake x 4).1 = natB (rdTake x 4).1 := rdNum4 x
  refine ACalls_of Tryz.func85 rfl Tryz.ntmps85 (congrArg Array.toList Tryz.results85) (by simp only [List.length_cons, List.length_nil]; decide) ?_; simp only [envOf_cons, envOf_nil, Nat.reduceAdd]
  refine awp_seq ?_
  refine awp_region (by kernel_rfl) ?_
  (refine aL_S rfl rfl v_ ?_)
  refine aL_nil ?_
  refine awp_seq ?_
  refine awp_region (by kernel_rfl) ?_
  (refine aL_S rfl rfl v_ ?_)
  refine aL_X rfl rfl (AOp_use rfl rfl (.inr ⟨rfl, rfl, rfl⟩) g_ va_ (rtake_x (n := 4) ho) ?_); rintro _ _ ⟨rfl, rfl⟩
  iterate 5 (refine aL_S rfl rfl v_ ?_)
  refine aL_nil ?_
  refine awp_seq ?_
  have R := h4
  refine awp_region (by kernel_rfl) ?_
  (refine aL_S rfl rfl v_ ?_)
  refine aL_X rfl rfl (AOp_use rfl rfl (.inr ⟨rfl, rfl, rfl⟩) g_ va_ (rnumber_c (Nat.le_trans rdTake_len (by decide))) ?_); rintro _ _ ⟨rfl, rfl⟩
  (refine aL_S rfl rfl v_ ?_)
  refine aL_nil ?_
  refine awp_seq ?_
  refine awp_seq ?_
  have R := h4
  refine awp_region (by kernel_rfl) ?_
  iterate 3 (refine aL_S rfl rfl v_ ?_)
  refine aL_nil ?_
  refine awp_cond v_ (fun hc3 => ?_) (fun hc3 => ?_)
  · replace hc3 := nm_ hc3
    refine awp_seq ?_
    refine awp_region (by kernel_rfl) ?_
    iterate 3 (refine aL_S rfl rfl v_ ?_)
    refine aL_store rfl rfl rfl v_ v_ h_ g_ rfl g_ c_ (by rfl) le_ v_ ?_
    refine aL_nil ?_
    refine awp_seq ?_
    refine awp_region (by kernel_rfl) ?_
    (refine aL_S rfl rfl v_ ?_)
    refine aL_nil ?_
    refine awp_ret ?_
    refine aEnd_ret v_ (Store.Wk.refl _) ?_
    rw [rdCnt, if_pos (by omega), Store.set_set]; exact ⟨rfl, rfl⟩
  · replace hc3 := nm_ hc3
    refine awp_skip ?_
    refine awp_seq ?_
    refine awp_region (by kernel_rfl) ?_
    iterate 2 (refine aL_S rfl rfl v_ ?_)
    refine aL_nil ?_
    refine awp_ret ?_
    refine aEnd_ret v_ (Store.Wk.refl _) ?_
    rw [rdCnt, if_neg (by omega)]; exact ⟨rfl, rfl⟩
theorem rfText_c {o : Nat} {x : Rd} {σ : Store} (ho : σ.heap o = some (rfO x)) : ACalls Tryz.prog 86 [.ref o 0] σ fun v σ' => v = vStr (B (rdText x).1) ∧ σ' = σ.set o (rfO (rdText x).2) := by
  refine ACalls_of Tryz.func86 rfl Tryz.ntmps86 (congrArg Array.toList Tryz.results86) (by simp only [List.length_cons, List.length_nil]; decide) ?_; simp only [envOf_cons, envOf_nil, Nat.reduceAdd]
  refine awp_seq ?_
  refine awp_region (by kernel_rfl) ?_
  (refine aL_S rfl rfl v_ ?_)
  refine aL_nil ?_
  refine awp_seq ?_
  refine awp_region (by kernel_rfl) ?_
  (refine aL_S rfl rfl v_ ?_)
  refine aL_X rfl rfl (AOp_use rfl rfl (.inr ⟨rfl, rfl, rfl⟩) g_ va_ (rfCount_c (m := 1048576) ho) ?_); rintro _ _ ⟨rfl, rfl⟩
  (refine aL_S rfl rfl v_ ?_)
  refine aL_nil ?_
  refine awp_seq ?_
  refine awp_region (by kernel_rfl) ?_
  iterate 2 (refine aL_S rfl rfl v_ ?_)
  refine aL_X rfl rfl (AOp_use rfl rfl (.inr ⟨rfl, rfl, rfl⟩) g_ va_ (rtake_x (Store.set_get ..)) ?_); rintro _ _ ⟨rfl, rfl⟩
  iterate 5 (refine aL_S rfl rfl v_ ?_)
  refine aL_nil ?_
  refine awp_seq ?_
  refine awp_region (by kernel_rfl) ?_
  iterate 2 (refine aL_S rfl rfl v_ ?_)
  refine aL_nil ?_
  refine awp_ret ?_
  refine aEnd_ret v_ (Store.Wk.refl _) ?_
  rw [Store.set_set]; exact ⟨rfl, rfl⟩
theorem rfDone_c {o : Nat} {x : Rd} {σ : Store} (ho : σ.heap o = some (rfO x)) : ACalls Tryz.prog 36 [.ref o 0] σ fun v σ' => v = vBool (x.2 && decide (x.1 = [])) ∧ σ = σ' := by
  obtain ⟨s, g⟩ := x
  have he : (B s = ⟨#[]⟩) ↔ s = [] := by rw [show (⟨#[]⟩ : ByteArray) = B [] from rfl, B_eq_iff]
  refine ACalls_of Tryz.func36 rfl Tryz.ntmps36 (congrArg Array.toList Tryz.results36) (by simp only [List.length_cons, List.length_nil]; decide) ?_; simp only [envOf_cons, envOf_nil, Nat.reduceAdd]
  refine awp_seq ?_
  have R := And.intro ho he
  refine awp_region (by kernel_rfl) ?_
  (refine aL_S rfl rfl v_ ?_)
  refine aL_nil ?_
  refine awp_seq ?_
  have R := And.intro ho he
  refine awp_region (by kernel_rfl) ?_
  iterate 6 (refine aL_S rfl rfl v_ ?_)
  refine aL_GT rfl rfl v_ rfl vg_ ?_
  refine aL_GT rfl rfl v_ rfl vg_ ?_
  refine aL_GT rfl rfl v_ rfl vg_ ?_
  refine aL_GT rfl rfl v_ rfl vg_ ?_
  refine aL_GT rfl rfl v_ rfl vg_ ?_
  iterate 2 (refine aL_S rfl rfl v_ ?_)
  refine aL_nil ?_
  refine awp_ret ?_
  refine aEnd_ret (σ' := σ) v_ sub_ ?_
  exact ⟨by cases g <;> simp [he], rfl⟩

theorem rfSib_c {o : Nat} {x : Rd} {σ : Store} (ho : σ.heap o = some (rfO x)) : ACalls Tryz.prog 93 [.ref o 0] σ fun v σ' => v = sSib (rdSib x).1 ∧ σ'.heap o = some (rfO (rdSib x).2) ∧ SubX [o] σ σ' := by
  refine ACalls_of Tryz.func93 rfl Tryz.ntmps93 (congrArg Array.toList Tryz.results93) (by simp only [List.length_cons, List.length_nil]; decide) ?_; simp only [envOf_cons, envOf_nil, Nat.reduceAdd]
  refine awp_seq ?_
  refine awp_region (by kernel_rfl) ?_
  refine aL_alloc rfl rfl rfl g_ gl_ fun o2 ho2 => ?_
  repeat (rw [none_set_iff] at ho2; obtain ⟨_, ho2⟩ := ho2)
  refine aL_nil ?_
  have n2 := ne_of_heap ho ho2
  refine awp_seq ?_
  have R := ho
  refine awp_region (by kernel_rfl) ?_
  (refine aL_S rfl rfl v_ ?_)
  refine aL_X rfl rfl (AOp_use rfl rfl (.inr ⟨rfl, rfl, rfl⟩) g_ va_ (rfText_c (x := x) h_) ?_); rintro _ _ ⟨rfl, rfl⟩
  (refine aL_S rfl rfl v_ ?_)
  refine aL_nil ?_
  refine awp_seq ?_
  refine awp_region (by kernel_rfl) ?_
  (refine aL_S rfl rfl v_ ?_)
  refine aL_X rfl rfl (AOp_use rfl rfl (.inr ⟨rfl, rfl, rfl⟩) g_ va_ (rfInt_c (Store.set_get ..)) ?_); rintro _ _ ⟨rfl, rfl⟩
  (refine aL_S rfl rfl v_ ?_)
  refine aL_nil ?_
  refine awp_seq ?_
  refine awp_region (by kernel_rfl) ?_
  (refine aL_S rfl rfl v_ ?_)
  refine aL_X rfl rfl (AOp_use rfl rfl (.inr ⟨rfl, rfl, rfl⟩) g_ va_ (rfText_c (Store.set_get ..)) ?_); rintro _ _ ⟨rfl, rfl⟩
  (refine aL_S rfl rfl v_ ?_)
  refine aL_nil ?_
  refine awp_seq ?_
  refine awp_region (by kernel_rfl) ?_
  (refine aL_S rfl rfl v_ ?_)
  refine aL_X rfl rfl (AOp_use rfl rfl (.inr ⟨rfl, rfl, rfl⟩) g_ va_ (rfByte_c (Store.set_get ..)) ?_); rintro _ _ ⟨rfl, rfl⟩
  iterate 2 (refine aL_S rfl rfl v_ ?_)
  refine aL_nil ?_
  refine awp_seq ?_
  refine awp_region (by kernel_rfl) ?_
  iterate 6 (refine aL_S rfl rfl v_ ?_)
  refine aL_X rfl rfl (AOp_use rfl rfl (.inr ⟨rfl, rfl, rfl⟩) g_ va_ (rfInt_c (Store.set_get ..)) ?_); rintro _ _ ⟨rfl, rfl⟩
  (refine aL_S rfl rfl v_ ?_)
  refine aL_store rfl rfl rfl v_ v_ h_ g_ rfl g_ c_ (by rfl) le_ v_ ?_
  refine aL_nil ?_
  refine awp_ret ?_
  refine aEnd_ret v_ (Store.Wk.refl _) ?_
  exact ⟨rfl, by simp (disch := omega) only [Store.set_ne, Store.set_get]; rfl, sub_⟩
end Go.Proofs.YtgpibooklhakgaaGreat
end

section
set_option linter.all false
set_option maxRecDepth 100000
namespace Go.Proofs.YtgpibooklhakgaaGreat
open Go.Ab

/-- a slice that is nil, or one's own -/
def NilOwn (σ : Store) (e : TypeId) (sz : Nat) (l : List AVal) (a : AVal) (old : Option Nat) : Prop := (∃ k, a = .own k sz l ∧ σ.tok k = some (e, sz) ∧ old = some k) ∨ (a = .lit (.slice none 0 0) ∧ l = [] ∧ old = none)
theorem NilOwn.wk {σ : Store} {e : TypeId} {sz : Nat} {l : List AVal} {a : AVal} {old : Option Nat} (h : NilOwn σ e sz l a old) : Wk a (.sl sz l false) := by
  rcases h with ⟨k, rfl, _⟩ | ⟨rfl, rfl, _⟩
  · exact .own1 _ _ _
  · exact .nil _ _
theorem NilOwn.of {σ : Store} {e : TypeId} {sz : Nat} {l : List AVal} {a b : AVal} {old : Option Nat} (h : NilOwn σ e sz l a old) (hb : b = a) : NilOwn σ e sz l b old := hb ▸ h

theorem SubX.noObj {l : List Nat} {a b : Store} (h : SubX l a b) {i : Nat} (hi : b.heap i = none) (hl : i ∉ l) : a.heap i = none := by
  cases hh : a.heap i with
  | none => rfl
  | some y => have := h.1 i y hl hh; rw [hi] at this; cases this
theorem tok_keep {σ : Store} {k k' : Nat} {old : Option Nat} {p q : TypeId × Nat} (h : σ.tok k = some p) (hk : σ.tok k' = none) (ho : ∀ j, old = some j → j ≠ k) : (σ.newTok old k' q).tok k = some p := by
  simp only [Store.newTok]
  rw [if_neg (fun hh => by rw [hh, hk] at h; cases h), if_neg (fun hh => ho k hh.symm rfl)]
  exact h
theorem rdMany_done {α : Type} (f : Rd → α × Rd) {n : Nat} {x : Rd} (h : n = 0 ∨ x.2 = false) : rdMany f n x = ([], x) := by
  rcases h with rfl | h
  · rfl
  · exact rdMany_bad f h
theorem rdSev_of {α : Type} {f : Rd → α × Rd} {x z : Rd} {M : List α} (h : rdMany f (rdCnt x 65536).1 (rdCnt x 65536).2 = (M, z)) : rdSev f x = if z.2 then (M, z) else ([], z) := by unfold rdSev; dsimp only; rw [h]

theorem rfCtx_c {o : Nat} {x : Rd} {σ : Store} (ho : σ.heap o = some (rfO x)) : ACalls Tryz.prog 29 [.ref o 0] σ fun v σ' => v = .sl 3 ((rdCtx x).1.map sSeen) false ∧ σ'.heap o = some (rfO (rdCtx x).2) ∧ SubX [o] σ σ' := by
  obtain ⟨N, hN⟩ : ∃ N, (rdCnt x 65536).1 = N := ⟨_, rfl⟩
  obtain ⟨x0, hx0⟩ : ∃ x0, (rdCnt x 65536).2 = x0 := ⟨_, rfl⟩
  have hNb : N ≤ 65536 := by rw [← hN]; exact rdCnt_le _ _
  refine ACalls_of Tryz.func29 rfl Tryz.ntmps29 (congrArg Array.toList Tryz.results29) (by simp only [List.length_cons, List.length_nil]; decide) ?_; simp only [envOf_cons, envOf_nil, Nat.reduceAdd]
  refine awp_seq ?_
  refine awp_region (by kernel_rfl) ?_
  (refine aL_S rfl rfl v_ ?_)
  refine aL_nil ?_
  refine awp_seq ?_
  have R := And.intro hN hx0
  refine awp_region (by kernel_rfl) ?_
  (refine aL_S rfl rfl v_ ?_)
  refine aL_X rfl rfl (AOp_use rfl rfl (.inr ⟨rfl, rfl, rfl⟩) g_ va_ (rfCount_c (m := 65536) ho) ?_); rintro _ _ ⟨rfl, rfl⟩
  (refine aL_S rfl rfl v_ ?_)
  refine aL_nil ?_
  refine awp_seq ?_
  refine awp_region (by kernel_rfl) ?_
  refine aL_nilOwn 98 3 rfl rfl rfl (by rfl) fun k4 hk4 => ?_
  refine aL_nil ?_
  refine awp_seq ?_
  refine awp_seq ?_
  refine awp_region (by kernel_rfl) ?_
  (refine aL_S rfl rfl v_ ?_)
  refine aL_nil ?_
  refine awp_block ?_
  refine awp_loop_env (ι := Store × Nat × List Seen × Rd × Nat) (fun ⟨τ, i, L, y, k⟩ => N - i) (fun ⟨τ, i, L, y, k⟩ => i ≤ N ∧ L.length = i ∧ (y.2 = true → rdMany rdSeen N x0 = (L ++ (rdMany rdSeen (N - i) y).1, (rdMany rdSeen (N - i) y).2)) ∧ (y.2 = false → (rdMany rdSeen N x0).2 = y) ∧ τ.heap o = some (rfO y) ∧ SubX [o] σ τ ∧ τ.tok k = some (98, 3) ∧ σ.tok k = none) (fun ⟨τ, i, L, y, k⟩ => [(0, .ref o 0), (3, vInt N), (4, .own k 3 (L.map sSeen)), (5, vInt i)]) (fun ⟨τ, i, L, y, k⟩ => τ) ((σ.set o (rfO x0)).newTok none k4 (98, 3), 0, [], x0, k4) ?_ ?_ ?_ ?_
  · exact ⟨Nat.zero_le _, rfl, fun _ => rfl, fun h => by rw [rdMany_bad _ h], Store.set_get .., subx_newTok hk4 (by rw [← hx0]; exact SubX.self), Store.newTok_get .., hk4⟩
  · have R := hN; exact cv_
  · rw [hx0]; exact Store.Wk.refl _
  rintro ⟨τ, i, L, y, k⟩ ⟨h1, h2, hg, hb, h3, h4, h5, h6⟩
  simp only [envL_cons, envL_nil]
  refine awp_seq ?_
  refine awp_seq ?_
  have R := h3
  refine awp_region (by kernel_rfl) ?_
  iterate 4 (refine aL_S rfl rfl v_ ?_)
  refine aL_GT rfl rfl v_ rfl vg_ ?_
  refine aL_GT rfl rfl v_ rfl vg_ ?_
  refine aL_GT rfl rfl v_ rfl vg_ ?_
  refine aL_GT rfl rfl v_ rfl vg_ ?_
  refine aL_GT rfl rfl v_ rfl vg_ ?_
  (refine aL_S rfl rfl v_ ?_)
  refine aL_nil ?_
  refine awp_cond v_ (fun hc4 => ?_) (fun hc4 => ?_)
  · replace hc4 := nm_ hc4
    refine awp_skip ?_
    refine awp_seq ?_
    refine awp_block ?_
    refine awp_seq ?_
    have hc := hc4
    obtain ⟨hc4a, hy⟩ := hc4
    obtain ⟨m, hm⟩ : ∃ m, (rdCnt (rdNum (rdText y).2 8).2 65536).1 = m := ⟨_, rfl⟩
    obtain ⟨x1, hx1⟩ : ∃ x1, (rdCnt (rdNum (rdText y).2 8).2 65536).2 = x1 := ⟨_, rfl⟩
    have hmb : m ≤ 65536 := by rw [← hm]; exact rdCnt_le _ _
    refine awp_region (by kernel_rfl) ?_
    (refine aL_S rfl rfl v_ ?_)
    refine aL_X rfl rfl (AOp_use rfl rfl (.inr ⟨rfl, rfl, rfl⟩) g_ va_ (rfText_c h3) ?_); rintro _ _ ⟨rfl, rfl⟩
    (refine aL_S rfl rfl v_ ?_)
    refine aL_X rfl rfl (AOp_use rfl rfl (.inr ⟨rfl, rfl, rfl⟩) g_ va_ (rfInt_c (Store.set_get ..)) ?_); rintro _ _ ⟨rfl, rfl⟩
    (refine aL_S rfl rfl v_ ?_)
    refine aL_alloc rfl rfl rfl g_ gl_ fun o6 ho6 => ?_
    repeat (rw [none_set_iff] at ho6; obtain ⟨_, ho6⟩ := ho6)
    refine aL_store rfl rfl rfl v_ v_ h_ g_ rfl g_ c_ (by rfl) le_ v_ ?_
    refine aL_nil ?_
    have n6 := ne_of_heap h3 ho6
    have s6 := SubX.noObj h4 ho6 (by simp; omega)
    refine awp_seq ?_
    have R := And.intro hm hx1
    refine awp_region (by kernel_rfl) ?_
    (refine aL_S rfl rfl v_ ?_)
    refine aL_X rfl rfl (AOp_use rfl rfl (.inr ⟨rfl, rfl, rfl⟩) g_ va_ (rfCount_c (m := 65536) (x := (rdNum (rdText y).2 8).2) h_) ?_); rintro _ _ ⟨rfl, rfl⟩
    (refine aL_S rfl rfl v_ ?_)
    refine aL_nil ?_
    refine awp_seq ?_
    refine awp_seq ?_
    refine awp_region (by kernel_rfl) ?_
    (refine aL_S rfl rfl v_ ?_)
    refine aL_nil ?_
    refine awp_block ?_
    refine awp_loop_env (ι := Store × Nat × List Int × Rd × AVal × Option Nat) (fun ⟨υ, j, M, z, gm, old⟩ => m - j) (fun ⟨υ, j, M, z, gm, old⟩ => j ≤ m ∧ M.length = j ∧ rdMany rdI8 m x1 = (M ++ (rdMany rdI8 (m - j) z).1, (rdMany rdI8 (m - j) z).2) ∧ υ.heap o = some (rfO z) ∧ υ.heap o6 = some (.cells [vStr (B (rdText y).1), vInt (rdNum (rdText y).2 8).1, gm]) ∧ NilOwn υ 3 1 (M.map vInt) gm old ∧ SubX [o] σ υ ∧ υ.tok k = some (98, 3) ∧ (∀ j, old = some j → σ.tok j = none ∧ j ≠ k)) (fun ⟨υ, j, M, z, gm, old⟩ => [(0, .ref o 0), (3, vInt N), (4, .own k 3 (L.map sSeen)), (5, vInt i), (6, .ref o6 0), (7, vInt m), (8, vInt j)]) (fun ⟨υ, j, M, z, gm, old⟩ => υ) (((((τ.set o (rfO (rdText y).2)).set o (rfO (rdNum (rdText y).2 8).2)).set o6 (.cells [.lit (.string ⟨#[]⟩), .lit (.int .i64 0), .lit (.slice none 0 0)])).set o6 (.cells [vStr (B (rdText y).1), vInt (rdNum (rdText y).2 8).1, .lit (.slice none 0 0)])).set o (rfO x1), 0, [], x1, .lit (.slice none 0 0), none) ?_ ?_ ?_ ?_
    · exact ⟨Nat.zero_le _, rfl, rfl, Store.set_get .., h_, .inr ⟨rfl, rfl, rfl⟩, subx_in (.head _) (subx_new s6 (subx_new s6 (subx_in (.head _) (subx_in (.head _) h4)))), h5, fun j hj => by cases hj⟩
    · have R := hm; exact cv_
    · rw [← hx1]; exact Store.Wk.refl _
    rintro ⟨υ, j, M, z, gm, old⟩ ⟨j1, j2, j3, u1, u2, hno, hu2, htk, hold⟩
    simp only [envL_cons, envL_nil]
    refine awp_seq ?_
    refine awp_seq ?_
    have R := u1
    refine awp_region (by kernel_rfl) ?_
    iterate 4 (refine aL_S rfl rfl v_ ?_)
    refine aL_GT rfl rfl v_ rfl vg_ ?_
    refine aL_GT rfl rfl v_ rfl vg_ ?_
    refine aL_GT rfl rfl v_ rfl vg_ ?_
    refine aL_GT rfl rfl v_ rfl vg_ ?_
    refine aL_GT rfl rfl v_ rfl vg_ ?_
    (refine aL_S rfl rfl v_ ?_)
    refine aL_nil ?_
    refine awp_cond v_ (fun hc9 => ?_) (fun hc9 => ?_)
    · replace hc9 := nm_ hc9
      obtain ⟨hcj, hz⟩ := hc9
      have hmj : m - j = (m - j - 1) + 1 := by omega
      refine awp_skip ?_
      refine awp_seq_mid (ι := Store × Nat) (fun ⟨φ, kk⟩ => φ.heap o = some (rfO (rdI8 z).2) ∧ φ.heap o6 = some (.cells [vStr (B (rdText y).1), vInt (rdNum (rdText y).2 8).1, .own kk 1 ((M ++ [(rdI8 z).1]).map vInt)]) ∧ φ.tok kk = some (3, 1) ∧ SubX [o] σ φ ∧ φ.tok k = some (98, 3) ∧ σ.tok kk = none ∧ υ.tok kk = none) (fun ⟨φ, kk⟩ => [(0, .ref o 0), (3, vInt N), (4, .own k 3 (L.map sSeen)), (5, vInt i), (6, .ref o6 0), (7, vInt m), (8, vInt j)]) (fun ⟨φ, kk⟩ => φ) ?_ ?_
      · refine awp_block ?_
        have R := u2
        refine awp_draw (.op 0 0 (.op 2 0 (.alt 1 2 (.op 3 2 (.op 4 2 (.op 5 2 (.op 6 0 (.op 7 2 .nil))))) (.op 3 2 (.alt 1 2 (.op 4 2 (.op 5 2 (.op 6 0 (.op 7 2 .nil)))) (.op 4 2 (.op 1 2 (.op 5 2 (.op 6 0 (.op 7 2 .nil)))))))))) Tryz.mixed (by kernel_rfl) ?_
        iterate 2 (refine dR_S o_ (by rfl) (by rfl) v_ ?_)
        refine dR_alt ?_ ?_
        · refine dR_T o_ (by rfl) (by rfl) (AOp_val v_ ?_)
          refine dR_T o_ (by rfl) (by rfl) (AOp_use (by rfl) (by rfl) (.inr ⟨by rfl, by rfl, by rfl⟩) g_ va_ (rfInt_c u1) ?_); rintro _ _ ⟨rfl, rfl⟩
          refine dR_T o_ (by rfl) (by rfl) (AOp_buildSlice' (by rfl) g_ g_ (by rfl) (by rfl) h_ c2_ (by decide) ?_)
          refine dR_T o_ (by rfl) (by rfl) (AOp_appendS (by rfl) g_ g_ (NilOwn.of hno va_) (.inl ⟨⟨_, g_⟩, .inl v_, c_⟩) (by simp; omega) fun k47 hk47 => ?_)
          (refine dR_S o_ (by rfl) (by rfl) v_ ?_)
          refine dR_store o_ (by rfl) (by rfl) (by rfl) v_ v_ h_ g_ rfl g_ c_ (by rfl) le_ v_ ?_
          refine dR_nil ?_
          refine ⟨(((υ.set o (rfO (rdNum z 8).2)).newTok old k47 (3, 1)).set o6 (.cells [vStr (B (rdText y).1), vInt (rdNum (rdText y).2 8).1, .own k47 1 (M.map vInt ++ [vInt (rdNum z 8).1])]), k47), ?_, ?_, ?_⟩
          · exact ⟨by simp (disch := omega) only [Store.set_ne, Store.newTok_heap, Store.set_get]; rfl, by rw [Store.set_get, List.map_append]; rfl, by rw [Store.set_tok]; exact Store.newTok_get .., subx_new s6 (SubX.newTok (SubX.trans hu2 SubX.self) (fun j hj => (hold j hj).1) hk47), by rw [Store.set_tok]; exact tok_keep htk hk47 (fun j hj => (hold j hj).2), SubX.noTok hu2 hk47, hk47⟩
          · exact cv_
          · exact Store.Wk.refl _
        refine dR_T o_ (by rfl) (by rfl) (AOp_use (by rfl) (by rfl) (.inr ⟨by rfl, by rfl, by rfl⟩) g_ va_ (rfInt_c u1) ?_); rintro _ _ ⟨rfl, rfl⟩
        refine dR_alt ?_ ?_
        · refine dR_T o_ (by rfl) (by rfl) (AOp_val v_ ?_)
          refine dR_T o_ (by rfl) (by rfl) (AOp_buildSlice' (by rfl) g_ g_ (by rfl) (by rfl) h_ c2_ (by decide) ?_)
          refine dR_T o_ (by rfl) (by rfl) (AOp_appendS (by rfl) g_ g_ (NilOwn.of hno va_) (.inl ⟨⟨_, g_⟩, .inl v_, c_⟩) (by simp; omega) fun k47 hk47 => ?_)
          (refine dR_S o_ (by rfl) (by rfl) v_ ?_)
          refine dR_store o_ (by rfl) (by rfl) (by rfl) v_ v_ h_ g_ rfl g_ c_ (by rfl) le_ v_ ?_
          refine dR_nil ?_
          refine ⟨(((υ.set o (rfO (rdNum z 8).2)).newTok old k47 (3, 1)).set o6 (.cells [vStr (B (rdText y).1), vInt (rdNum (rdText y).2 8).1, .own k47 1 (M.map vInt ++ [vInt (rdNum z 8).1])]), k47), ?_, ?_, ?_⟩
          · exact ⟨by simp (disch := omega) only [Store.set_ne, Store.newTok_heap, Store.set_get]; rfl, by rw [Store.set_get, List.map_append]; rfl, by rw [Store.set_tok]; exact Store.newTok_get .., subx_new s6 (SubX.newTok (SubX.trans hu2 SubX.self) (fun j hj => (hold j hj).1) hk47), by rw [Store.set_tok]; exact tok_keep htk hk47 (fun j hj => (hold j hj).2), SubX.noTok hu2 hk47, hk47⟩
          · exact cv_
          · exact Store.Wk.refl _
        refine dR_T o_ (by rfl) (by rfl) (AOp_buildSlice' (by rfl) g_ g_ (by rfl) (by rfl) h_ c2_ (by decide) ?_)
        refine dR_T o_ (by rfl) (by rfl) (AOp_val v_ ?_)
        refine dR_T o_ (by rfl) (by rfl) (AOp_appendS (by rfl) g_ g_ (NilOwn.of hno va_) (.inl ⟨⟨_, g_⟩, .inl v_, c_⟩) (by simp; omega) fun k47 hk47 => ?_)
        (refine dR_S o_ (by rfl) (by rfl) v_ ?_)
        refine dR_store o_ (by rfl) (by rfl) (by rfl) v_ v_ h_ g_ rfl g_ c_ (by rfl) le_ v_ ?_
        refine dR_nil ?_
        refine ⟨(((υ.set o (rfO (rdNum z 8).2)).newTok old k47 (3, 1)).set o6 (.cells [vStr (B (rdText y).1), vInt (rdNum (rdText y).2 8).1, .own k47 1 (M.map vInt ++ [vInt (rdNum z 8).1])]), k47), ?_, ?_, ?_⟩
        · exact ⟨by simp (disch := omega) only [Store.set_ne, Store.newTok_heap, Store.set_get]; rfl, by rw [Store.set_get, List.map_append]; rfl, by rw [Store.set_tok]; exact Store.newTok_get .., subx_new s6 (SubX.newTok (SubX.trans hu2 SubX.self) (fun j hj => (hold j hj).1) hk47), by rw [Store.set_tok]; exact tok_keep htk hk47 (fun j hj => (hold j hj).2), SubX.noTok hu2 hk47, hk47⟩
        · exact cv_
        · exact Store.Wk.refl _
      · rintro ⟨φ, kk⟩ ⟨f1, f2, f3, f4, f5, f6, f7⟩
        simp only [envL_cons, envL_nil]
        refine awp_region (by kernel_rfl) ?_
        iterate 3 (refine aL_S rfl rfl v_ ?_)
        refine aL_nil ?_
        refine aNext (ι := Store × Nat × List Int × Rd × AVal × Option Nat) (i := ⟨υ, j, M, z, gm, old⟩) (φ, j + 1, M ++ [(rdI8 z).1], (rdI8 z).2, .own kk 1 ((M ++ [(rdI8 z).1]).map vInt), some kk) ?_ ?_ ?_ ?_
        · show m - (j + 1) < m - j; omega
        · exact ⟨by show j + 1 ≤ m; omega, by simp [j2], by rw [j3, hmj, rdMany, hz]; simp [show m - j - 1 = m - (j + 1) by omega], f1, f2, .inl ⟨kk, rfl, f3, rfl⟩, f4, f5, fun j hj => by cases hj; exact ⟨f6, fun hh => by rw [hh, htk] at f7; cases f7⟩⟩
        · exact cv_
        · exact Store.Wk.refl _
    · replace hc9 := nm_ hc9
      refine awp_exit ?_
      refine aThen_exit ?_
      refine aThen_exit ?_
      refine aBlock_hit ?_
      have hz : rdMany rdI8 m x1 = (M, z) := by rw [j3, rdMany_done _ (by rcases hc9 with h | h; exact .inl (by omega); exact .inr h)]; simp
      have hs : rdSev rdI8 (rdNum (rdText y).2 8).2 = if z.2 then (M, z) else ([], z) := rdSev_of (by rw [hm, hx1]; exact hz)
      have hNi : N - i = (N - (i + 1)) + 1 := by omega
      have h0 := hg hy
      rw [hNi, rdMany, hy] at h0
      have hsy : rdSeen y = (⟨B (rdText y).1, (rdNum (rdText y).2 8).1, (rdSev rdI8 (rdNum (rdText y).2 8).2).1⟩, (rdSev rdI8 (rdNum (rdText y).2 8).2).2) := rfl
      have hnew : (z.2 = true → rdMany rdSeen N x0 = (L ++ [⟨B (rdText y).1, (rdNum (rdText y).2 8).1, M⟩] ++ (rdMany rdSeen (N - (i + 1)) z).1, (rdMany rdSeen (N - (i + 1)) z).2)) ∧ (z.2 = false → (rdMany rdSeen N x0).2 = z) := by
        rw [hsy, hs] at h0
        constructor
        · intro h; rw [h] at h0; rw [h0]; simp
        · intro h; rw [h] at h0; rw [h0]; simp [rdMany_bad _ h]
      refine awp_wkCells o6 [vStr (B (rdText y).1), vInt (rdNum (rdText y).2 8).1, .sl 1 (M.map vInt) false] u2 ⟨.refl _, .refl _, hno.wk, trivial⟩ ?_
      have R := htk
      refine awp_region (by kernel_rfl) ?_
      iterate 2 (refine aL_S rfl rfl v_ ?_)
      refine aL_buildSlice rfl rfl rfl g_ g_ rfl rfl h_ c2_ (by decide) ?_
      refine aL_append rfl rfl rfl g_ g_ v_ h_ v_ c_ (by simp; omega) fun k52 hk52 => ?_
      (refine aL_S rfl rfl v_ ?_)
      refine aL_nil ?_
      refine awp_region (by kernel_rfl) ?_
      iterate 3 (refine aL_S rfl rfl v_ ?_)
      refine aL_nil ?_
      refine aNext (ι := Store × Nat × List Seen × Rd × Nat) (i := ⟨τ, i, L, y, k⟩) ((υ.set o6 (.cells [vStr (B (rdText y).1), vInt (rdNum (rdText y).2 8).1, .sl 1 (M.map vInt) false])).newTok (some k) k52 (98, 3), i + 1, L ++ [⟨B (rdText y).1, (rdNum (rdText y).2 8).1, M⟩], z, k52) ?_ ?_ ?_ ?_
      · show N - (i + 1) < N - i; omega
      · exact ⟨by show i + 1 ≤ N; omega, by simp [h2], hnew.1, hnew.2, by simp (disch := omega) only [Store.newTok_heap, Store.set_ne, u1], SubX.newTok (subx_new s6 hu2) (fun j hj => by cases hj; exact h6) hk52, Store.newTok_get .., SubX.noTok (subx_new s6 hu2) hk52⟩
      · exact cv_
      · exact Store.Wk.refl _
  · replace hc4 := nm_ hc4
    refine awp_exit ?_
    refine aThen_exit ?_
    refine aThen_exit ?_
    refine aBlock_hit ?_
    refine awp_seq ?_
    refine awp_seq ?_
    skip
    have hf : rdCtx x = if y.2 then (L, y) else ([], y) := by
      cases hy : y.2 with
      | true =>
        have := hg hy
        rw [rdMany_done (n := N - i) _ (.inl (by rw [hy] at hc4; simp at hc4; omega))] at this
        have h2 := rdSev_of (f := rdSeen) (x := x) (M := L) (z := y) (by rw [hN, hx0, this]; simp)
        rw [hy] at h2; exact h2
      | false =>
        have := hb hy
        have h2 := rdSev_of (f := rdSeen) (x := x) (M := (rdMany rdSeen N x0).1) (z := y) (by rw [hN, hx0, ← this])
        rw [hy] at h2; exact h2
    have R := h3
    refine awp_region (by kernel_rfl) ?_
    iterate 4 (refine aL_S rfl rfl v_ ?_)
    refine aL_nil ?_
    refine awp_cond v_ (fun hc13 => ?_) (fun hc13 => ?_)
    · replace hc13 := nm_ hc13
      refine awp_seq ?_
      refine awp_region (by kernel_rfl) ?_
      (refine aL_S rfl rfl v_ ?_)
      refine aL_nil ?_
      refine awp_ret ?_
      have hy : y.2 = false := by simpa using hc13
      rw [hy] at hf
      exact aEnd_retW (v := .sl 3 ((rdCtx x).1.map sSeen) false) (v' := .lit (.slice none 0 0)) va_ (by rw [hf]; exact .nil _ _) (Store.Wk.refl _) ⟨rfl, by rw [hf]; exact h3, h4⟩
    · replace hc13 := nm_ hc13
      refine awp_skip ?_
      refine awp_seq ?_
      refine awp_region (by kernel_rfl) ?_
      iterate 2 (refine aL_S rfl rfl v_ ?_)
      refine aL_nil ?_
      refine awp_ret ?_
      have hy : y.2 = true := by simpa using hc13
      rw [hy] at hf
      exact aEnd_retW (v := .sl 3 ((rdCtx x).1.map sSeen) false) (v' := .own k 3 (L.map sSeen)) va_ (by rw [hf]; exact .own1 _ _ _) (Store.Wk.refl _) ⟨rfl, by rw [hf]; exact h3, h4⟩

theorem rfObj_c {o : Nat} {x : Rd} {σ : Store} (ho : σ.heap o = some (rfO x)) : ACalls Tryz.prog 34 [.ref o 0] σ fun v σ' => v = sObj (rdObj x).1 ∧ σ'.heap o = some (rfO (rdObj x).2) ∧ SubX [o] σ σ' := by
  obtain ⟨C, hC⟩ : ∃ C, (rdCtx x).1 = C := ⟨_, rfl⟩
  obtain ⟨c2, hc2⟩ : ∃ c2, (rdCtx x).2 = c2 := ⟨_, rfl⟩
  obtain ⟨N, hN⟩ : ∃ N, (rdCnt c2 65536).1 = N := ⟨_, rfl⟩
  obtain ⟨x0, hx0⟩ : ∃ x0, (rdCnt c2 65536).2 = x0 := ⟨_, rfl⟩
  have hNb : N ≤ 65536 := by rw [← hN]; exact rdCnt_le _ _
  refine ACalls_of Tryz.func34 rfl Tryz.ntmps34 (congrArg Array.toList Tryz.results34) (by simp only [List.length_cons, List.length_nil]; decide) ?_; simp only [envOf_cons, envOf_nil, Nat.reduceAdd]
  refine awp_seq ?_
  refine awp_region (by kernel_rfl) ?_
  refine aL_alloc rfl rfl rfl g_ gl_ fun o2 ho2 => ?_
  repeat (rw [none_set_iff] at ho2; obtain ⟨_, ho2⟩ := ho2)
  refine aL_nil ?_
  have n2 := ne_of_heap ho ho2
  refine awp_seq ?_
  have R := ho
  refine awp_region (by kernel_rfl) ?_
  (refine aL_S rfl rfl v_ ?_)
  refine aL_X rfl rfl (AOp_use rfl rfl (.inr ⟨rfl, rfl, rfl⟩) g_ va_ (rfCtx_c (x := x) h_) ?_); rintro _ υ ⟨rfl, u1, u2⟩
  rw [hC]
  rw [hc2] at u1
  have v2 := keep (i := o2) (x := .cells [.lit (.slice none 0 0), .lit (.slice none 0 0)]) u2 h_ (by simp; omega)
  have hu2 : SubX [o] σ υ := SubX.trans (subx_new ho2 subx_refl) u2
  (refine aL_S rfl rfl v_ ?_)
  refine aL_nil ?_
  refine awp_seq ?_
  have R := And.intro hN hx0
  refine awp_region (by kernel_rfl) ?_
  (refine aL_S rfl rfl v_ ?_)
  refine aL_X rfl rfl (AOp_use rfl rfl (.inr ⟨rfl, rfl, rfl⟩) g_ va_ (rfCount_c (m := 65536) u1) ?_); rintro _ _ ⟨rfl, rfl⟩
  (refine aL_S rfl rfl v_ ?_)
  refine aL_nil ?_
  refine awp_seq ?_
  refine awp_region (by kernel_rfl) ?_
  refine aL_nilOwn 77 5 rfl rfl rfl (by rfl) fun k5 hk5 => ?_
  refine aL_nil ?_
  refine awp_seq ?_
  refine awp_seq ?_
  refine awp_region (by kernel_rfl) ?_
  (refine aL_S rfl rfl v_ ?_)
  refine aL_nil ?_
  refine awp_block ?_
  refine awp_loop_env (ι := Store × Nat × List Sib × Rd × Nat) (fun ⟨τ, i, L, y, k⟩ => N - i) (fun ⟨τ, i, L, y, k⟩ => i ≤ N ∧ L.length = i ∧ rdMany rdSib N x0 = (L ++ (rdMany rdSib (N - i) y).1, (rdMany rdSib (N - i) y).2) ∧ τ.heap o = some (rfO y) ∧ SubX [o] σ τ ∧ τ.tok k = some (77, 5) ∧ σ.tok k = none ∧ τ.heap o2 = some (.cells [.lit (.slice none 0 0), .lit (.slice none 0 0)])) (fun ⟨τ, i, L, y, k⟩ => [(0, .ref o 0), (2, .ref o2 0), (3, .sl 3 (C.map sSeen) false), (4, vInt N), (5, .own k 5 (L.map sSib)), (6, vInt i)]) (fun ⟨τ, i, L, y, k⟩ => τ) ((υ.set o (rfO x0)).newTok none k5 (77, 5), 0, [], x0, k5) ?_ ?_ ?_ ?_
  · exact ⟨Nat.zero_le _, rfl, rfl, Store.set_get .., SubX.newTok (SubX.trans hu2 SubX.self) (fun j hj => by cases hj) hk5, Store.newTok_get .., SubX.noTok hu2 hk5, by simp (disch := omega) only [Store.newTok_heap, Store.set_ne, v2]⟩
  · have R := hN; exact cv_
  · rw [hx0]; exact Store.Wk.refl _
  rintro ⟨τ, i, L, y, k⟩ ⟨h1, h2, h7, h3, h4, h5, h6, h8⟩
  simp only [envL_cons, envL_nil]
  refine awp_seq ?_
  refine awp_seq ?_
  have R := h3
  refine awp_region (by kernel_rfl) ?_
  iterate 4 (refine aL_S rfl rfl v_ ?_)
  refine aL_GT rfl rfl v_ rfl vg_ ?_
  refine aL_GT rfl rfl v_ rfl vg_ ?_
  refine aL_GT rfl rfl v_ rfl vg_ ?_
  refine aL_GT rfl rfl v_ rfl vg_ ?_
  refine aL_GT rfl rfl v_ rfl vg_ ?_
  (refine aL_S rfl rfl v_ ?_)
  refine aL_nil ?_
  refine awp_cond v_ (fun hc5 => ?_) (fun hc5 => ?_)
  · replace hc5 := nm_ hc5
    obtain ⟨hcj, hy⟩ := hc5
    have hmi : N - i = (N - i - 1) + 1 := by omega
    refine awp_skip ?_
    refine awp_seq ?_
    refine awp_block ?_
    refine awp_region (by kernel_rfl) ?_
    iterate 2 (refine aL_S rfl rfl v_ ?_)
    refine aL_X rfl rfl (AOp_use rfl rfl (.inr ⟨rfl, rfl, rfl⟩) g_ va_ (rfSib_c h3) ?_); rintro _ φ ⟨rfl, q1, q2⟩
    have R := q2.2 _ _ h5
    have q3 := keep q2 h8 (by simp; omega)
    refine aL_buildSlice rfl rfl rfl g_ g_ rfl rfl h_ c2_ (by decide) ?_
    refine aL_append rfl rfl rfl g_ g_ v_ h_ v_ c_ (by simp; omega) fun k27 hk27 => ?_
    (refine aL_S rfl rfl v_ ?_)
    refine aL_nil ?_
    refine awp_region (by kernel_rfl) ?_
    iterate 3 (refine aL_S rfl rfl v_ ?_)
    refine aL_nil ?_
    refine aNext (ι := Store × Nat × List Sib × Rd × Nat) (i := ⟨τ, i, L, y, k⟩) (φ.newTok (some k) k27 (77, 5), i + 1, L ++ [(rdSib y).1], (rdSib y).2, k27) ?_ ?_ ?_ ?_
    · show N - (i + 1) < N - i; omega
    · exact ⟨by show i + 1 ≤ N; omega, by simp [h2], by rw [h7, hmi, rdMany, hy]; simp [show N - i - 1 = N - (i + 1) by omega], q1, SubX.newTok (SubX.trans h4 q2) (fun j hj => by cases hj; exact h6) hk27, Store.newTok_get .., SubX.noTok (SubX.trans h4 q2) hk27, q3⟩
    · exact cv_
    · exact Store.Wk.refl _
  · replace hc5 := nm_ hc5
    refine awp_exit ?_
    refine aThen_exit ?_
    refine aThen_exit ?_
    refine aBlock_hit ?_
    refine awp_seq ?_
    refine awp_seq ?_
    skip
    have hf : rdSev rdSib c2 = if y.2 then (L, y) else ([], y) := rdSev_of (by rw [hN, hx0, h7, rdMany_done (n := N - i) _ (by rcases hc5 with h | h; exact .inl (by omega); exact .inr h)]; simp)
    have hr : rdObj x = if (rdSev rdSib (rdCtx x).2).2.2 then (⟨(rdCtx x).1, (rdSev rdSib (rdCtx x).2).1⟩, (rdSev rdSib (rdCtx x).2).2) else (⟨[], []⟩, (rdSev rdSib (rdCtx x).2).2) := rfl
    rw [hC, hc2, hf] at hr
    have R := h3
    refine awp_region (by kernel_rfl) ?_
    iterate 4 (refine aL_S rfl rfl v_ ?_)
    refine aL_nil ?_
    refine awp_cond v_ (fun hc8 => ?_) (fun hc8 => ?_)
    · replace hc8 := nm_ hc8
      refine awp_seq ?_
      have R := h8
      refine awp_region (by kernel_rfl) ?_
      (refine aL_S rfl rfl v_ ?_)
      refine aL_store rfl rfl rfl v_ v_ h_ g_ rfl g_ c_ (by rfl) le_ v_ ?_
      refine aL_nil ?_
      refine awp_ret ?_
      have hy : y.2 = false := by simpa using hc8
      rw [hy] at hr
      have hr1 : rdObj x = (⟨[], []⟩, y) := by rw [hr, ← hy]; simp [hy]
      rw [hr1]
      exact aEnd_retW (v := sObj ⟨[], []⟩) (v' := .agg [.lit (.slice none 0 0), .lit (.slice none 0 0)]) va_ (.agg _ _ rfl (fun i hi hi' => by match i, hi with | 0, _ => exact .nil _ _ | 1, _ => exact .nil _ _)) (Store.Wk.refl _) ⟨rfl, by simp (disch := omega) only [Store.set_ne, h3], subx_new ho2 h4⟩
    · replace hc8 := nm_ hc8
      refine awp_skip ?_
      refine awp_seq ?_
      have R := h8
      refine awp_region (by kernel_rfl) ?_
      iterate 3 (refine aL_S rfl rfl v_ ?_)
      refine aL_store rfl rfl rfl v_ v_ h_ g_ rfl g_ c_ (by rfl) le_ v_ ?_
      refine aL_nil ?_
      refine awp_ret ?_
      have hy : y.2 = true := by simpa using hc8
      rw [hy] at hr
      have hr1 : rdObj x = (⟨C, L⟩, y) := by rw [hr]; simp [hy]
      rw [hr1]
      exact aEnd_retW (v := sObj ⟨C, L⟩) (v' := .agg [.sl 3 (C.map sSeen) false, .own k 5 (L.map sSib)]) va_ (.agg _ _ rfl (fun i hi hi' => by match i, hi with | 0, _ => exact .refl _ | 1, _ => exact .own1 _ _ _)) (Store.Wk.refl _) ⟨rfl, by simp (disch := omega) only [Store.set_ne, h3], subx_new ho2 h4⟩
end Go.Proofs.YtgpibooklhakgaaGreat
end
