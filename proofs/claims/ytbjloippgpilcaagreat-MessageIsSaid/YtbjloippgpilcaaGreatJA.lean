/-
  Places: a bucket and a key, with a slash between them; Books and registries: whether they may be, on both sides; Registries: whether they may be, on both sides. Messages: whether they may be; Messages: whether they may be, on both sides. Own work (an AI agent).
-/
import Derived.Test.YtbjloippgpilcaaGreatGN
import Derived.Lib.Bytealg
import Derived.Test.YtbjloippgpilcaaGreatJB
import Derived.Test.YtbjloippgpilcaaGreatGP

section
set_option linter.all false
set_option maxRecDepth 100000
namespace Go.Proofs.YtbjloippgpilcaaGreat
open Go.Ab

def keyOk (s : ByteArray) : Bool := decide (1 ≤ s.size) && decide (s.size ≤ 64)
def idx47 (l : List UInt8) : Int := Lib.indexByte l 47
def cutS (s : ByteArray) : ByteArray × ByteArray × Bool := if 0 ≤ idx47 (Lb s) then (s.extract 0 (idx47 (Lb s)).toNat, s.extract ((idx47 (Lb s)).toNat + 1) s.size, true) else (s, ⟨#[]⟩, false)
def splitS (s : ByteArray) : ByteArray × ByteArray × Bool := if (cutS s).2.2 = true ∧ nameOk (cutS s).1 = true ∧ keyOk (cutS s).2.1 = true then ((cutS s).1, (cutS s).2.1, true) else (⟨#[]⟩, ⟨#[]⟩, false)
def placeOk (s : ByteArray) : Bool := (splitS s).2.2
theorem idx47_ge (l : List UInt8) : -1 ≤ idx47 l := Lib.indexByte_ge l 47
theorem idx47_cons (b : UInt8) (l : List UInt8) : idx47 (b :: l) = if b = 47 then 0 else if idx47 l = -1 then -1 else idx47 l + 1 := by
  have h : idx47 (b :: l) = if b == 47 then 0 else if idx47 l == -1 then -1 else idx47 l + 1 := rfl
  rw [h]
  simp only [beq_iff_eq]
theorem idx47_lt : ∀ (l : List UInt8), idx47 l < l.length
  | [] => by rw [show idx47 [] = -1 from rfl]; simp
  | b :: l => by
    have ih := idx47_lt l
    rw [idx47_cons, List.length_cons]
    split
    · omega
    · split <;> omega
theorem idx47_at : ∀ {l : List UInt8} {i : Nat}, l[i]? = some 47 → (∀ j c, j < i → l[j]? = some c → c ≠ 47) → idx47 l = i
  | [], i, h, _ => by simp at h
  | b :: l, 0, h, _ => by
    simp only [List.getElem?_cons_zero, Option.some.injEq] at h
    rw [idx47_cons, if_pos h]; rfl
  | b :: l, i + 1, h, hj => by
    have hb : b ≠ 47 := hj 0 b (by omega) rfl
    have ih := idx47_at (l := l) (i := i) h (fun j c hji hc => hj (j + 1) c (by omega) hc)
    rw [idx47_cons, if_neg hb, ih, if_neg (by omega)]
    omega
theorem idx47_none : ∀ {l : List UInt8}, (∀ c ∈ l, c ≠ 47) → idx47 l = -1
  | [], _ => rfl
  | b :: l, h => by
    have hb := h b (.head _)
    have ih := idx47_none (l := l) fun c hc => h c (.tail _ hc)
    rw [idx47_cons, if_neg hb, if_pos ih]
theorem idxRv {κ : K} {α : Operand → AVal} {x y : Operand} {ev : Operand → Value} {s : ByteArray} (hx : α x = vStr s) (hy : α y = .lit (.int .u8 47)) (h : ∀ z ∈ #[x, y], Rv κ (α z) (ev z)) : ∃ cv, (Extern.BytealgIndexByte.indexByte (#[x, y].map ev)).run Tryz.prog κ.w = .ok cv κ.w ∧ Rv κ (vInt (idx47 (Lb s))) cv := by
  have h1 := h x (by simp); have h2 := h y (by simp)
  rw [hx] at h1
  rw [hy] at h2
  refine ⟨_, ?_, .lit _⟩
  rw [show #[x, y].map ev = #[ev x, ev y] from by simp, h1.litInv, h2.litInv]
  exact Lib.run_indexByteString s 47 κ.w
theorem indexByte_c {s : ByteArray} {σ : Store} : ACalls Tryz.prog 189 [vStr s, .lit (.int .u8 47)] σ fun v σ' => v = vInt (idx47 (Lb s)) ∧ σ = σ' := by
  refine ACalls_of Tryz.func189 rfl Tryz.ntmps189 (congrArg Array.toList Tryz.results189) (by simp only [List.length_cons, List.length_nil]; decide) ?_; simp only [envOf_cons, envOf_nil, Nat.reduceAdd]
  refine awp_seq ?_
  refine awp_region (by kernel_rfl) ?_
  (refine aL_S rfl rfl v_ ?_)
  refine aL_nil ?_
  refine awp_seq ?_
  refine awp_region (by kernel_rfl) ?_
  iterate 2 (refine aL_S rfl rfl v_ ?_)
  refine aL_X rfl rfl (AOp_extern rfl (e := Extern.BytealgIndexByte.indexByte) (by kernel_rfl) g_ (fun κ ev _ h => idxRv (s := s) va_ va_ h) ?_)
  (refine aL_S rfl rfl v_ ?_)
  refine aL_nil ?_
  refine awp_ret ?_
  refine aEnd_ret (σ' := σ) v_ sub_ ?_
  exact ⟨rfl, rfl⟩
theorem slIndex_c {s : ByteArray} {σ : Store} : ACalls Tryz.prog 173 [vStr s, vStr ⟨#[47]⟩] σ fun v σ' => v = vInt (idx47 (Lb s)) ∧ σ = σ' := by
  have hz : (ByteArray.mk #[47]).size = 1 := rfl
  have hb : (ByteArray.mk #[47])[0]? = some 47 := rfl
  refine ACalls_of Tryz.func173 rfl Tryz.ntmps173 (congrArg Array.toList Tryz.results173) (by simp only [List.length_cons, List.length_nil]; decide) ?_; simp only [envOf_cons, envOf_nil, Nat.reduceAdd]
  refine awp_seq ?_
  refine awp_region (by kernel_rfl) ?_
  (refine aL_S rfl rfl v_ ?_)
  refine aL_nil ?_
  refine awp_seq ?_
  have R := hz
  refine awp_region (by kernel_rfl) ?_
  iterate 3 (refine aL_S rfl rfl v_ ?_)
  refine aL_nil ?_
  refine awp_seq ?_
  refine awp_block ?_
  refine awp_seq ?_
  refine awp_region (by kernel_rfl) ?_
  iterate 3 (refine aL_S rfl rfl v_ ?_)
  refine aL_GF rfl rfl v_ rfl vg_ ?_
  refine aL_GF rfl rfl v_ rfl vg_ ?_
  refine aL_GF rfl rfl v_ rfl vg_ ?_
  iterate 2 (refine aL_S rfl rfl v_ ?_)
  refine aL_nil ?_
  refine awp_cond v_ (fun hc2 => ?_) (fun hc2 => ?_)
  · replace hc2 := nm_ hc2
    refine awp_seq ?_
    refine awp_region (by kernel_rfl) ?_
    (refine aL_S rfl rfl v_ ?_)
    refine aL_nil ?_
    refine awp_ret ?_
    refine aEnd_ret (σ' := σ) v_ sub_ ?_
    refine ⟨?_, rfl⟩
    have h1 : (ByteArray.mk #[47]) = s := by simpa using hc2
    rw [← h1]; rfl
  · replace hc2 := nm_ hc2
    refine awp_seq ?_
    refine awp_region (by kernel_rfl) ?_
    iterate 3 (refine aL_S rfl rfl v_ ?_)
    refine aL_nil ?_
    refine awp_cond v_ (fun hc4 => ?_) (fun hc4 => ?_)
    · replace hc4 := nm_ hc4
      refine awp_seq ?_
      have R := And.intro hb hz
      refine awp_region (by kernel_rfl) ?_
      iterate 3 (refine aL_S rfl rfl v_ ?_)
      refine aL_X rfl rfl (AOp_use rfl rfl (.inr ⟨rfl, rfl, rfl⟩) g_ va_ (indexByte_c) ?_); rintro _ _ ⟨rfl, rfl⟩
      (refine aL_S rfl rfl v_ ?_)
      refine aL_nil ?_
      refine awp_ret ?_
      refine aEnd_ret (σ' := σ) v_ sub_ ?_
      exact ⟨rfl, rfl⟩
    · replace hc4 := nm_ hc4
      simp at hc4
theorem idx47_cases (s : ByteArray) : (idx47 (Lb s) = -1 ∧ cutS s = (s, ⟨#[]⟩, false)) ∨ ∃ k : Nat, idx47 (Lb s) = k ∧ k < s.size ∧ cutS s = (s.extract 0 k, s.extract (k + 1) s.size, true) := by
  have h1 := idx47_ge (Lb s); have h2 := idx47_lt (Lb s)
  rw [Lb_length] at h2
  by_cases h : 0 ≤ idx47 (Lb s)
  · refine .inr ⟨(idx47 (Lb s)).toNat, by omega, by omega, ?_⟩
    rw [cutS, if_pos h]
  · exact .inl ⟨by omega, by rw [cutS, if_neg h]⟩
theorem slCut_c {s : ByteArray} {σ : Store} (hs : s.size ≤ 1000000000000) : ACalls Tryz.prog 157 [vStr s, vStr ⟨#[47]⟩] σ fun v σ' => v = .tup [vStr (cutS s).1, vStr (cutS s).2.1, vB (cutS s).2.2] ∧ σ = σ' := by
  have hz : (ByteArray.mk #[47]).size = 1 := rfl
  rcases idx47_cases s with ⟨he, hcut⟩ | ⟨k, he, hk, hcut⟩
  refine ACalls_of Tryz.func157 rfl Tryz.ntmps157 (congrArg Array.toList Tryz.results157) (by simp only [List.length_cons, List.length_nil]; decide) ?_; simp only [envOf_cons, envOf_nil, Nat.reduceAdd]
  refine awp_seq ?_
  refine awp_region (by kernel_rfl) ?_
  iterate 3 (refine aL_S rfl rfl v_ ?_)
  refine aL_nil ?_
  refine awp_seq ?_
  refine awp_seq ?_
  refine awp_region (by kernel_rfl) ?_
  iterate 2 (refine aL_S rfl rfl v_ ?_)
  refine aL_X rfl rfl (AOp_use rfl rfl (.inr ⟨rfl, rfl, rfl⟩) g_ va_ (slIndex_c) ?_); rintro _ _ ⟨rfl, rfl⟩
  (refine aL_S rfl rfl v_ ?_)
  refine aL_nil ?_
  refine awp_seq ?_
  have R := he
  refine awp_region (by kernel_rfl) ?_
  iterate 2 (refine aL_S rfl rfl v_ ?_)
  refine aL_nil ?_
  refine awp_cond v_ (fun hc2 => ?_) (fun hc2 => ?_)
  · replace hc2 := nm_ hc2
    first | exact absurd hc2 (by omega) | exact absurd hc2 (by decide) | (revert hc2; decide)
  · replace hc2 := nm_ hc2
    refine awp_skip ?_
    refine awp_seq ?_
    refine awp_region (by kernel_rfl) ?_
    iterate 4 (refine aL_S rfl rfl v_ ?_)
    refine aL_nil ?_
    refine awp_ret ?_
    refine aEnd_ret (σ' := σ) v_ sub_ ?_
    exact ⟨by rw [hcut], rfl⟩
  refine ACalls_of Tryz.func157 rfl Tryz.ntmps157 (congrArg Array.toList Tryz.results157) (by simp only [List.length_cons, List.length_nil]; decide) ?_; simp only [envOf_cons, envOf_nil, Nat.reduceAdd]
  refine awp_seq ?_
  refine awp_region (by kernel_rfl) ?_
  iterate 3 (refine aL_S rfl rfl v_ ?_)
  refine aL_nil ?_
  refine awp_seq ?_
  refine awp_seq ?_
  refine awp_region (by kernel_rfl) ?_
  iterate 2 (refine aL_S rfl rfl v_ ?_)
  refine aL_X rfl rfl (AOp_use rfl rfl (.inr ⟨rfl, rfl, rfl⟩) g_ va_ (slIndex_c) ?_); rintro _ _ ⟨rfl, rfl⟩
  (refine aL_S rfl rfl v_ ?_)
  refine aL_nil ?_
  refine awp_seq ?_
  have R := he
  refine awp_region (by kernel_rfl) ?_
  iterate 2 (refine aL_S rfl rfl v_ ?_)
  refine aL_nil ?_
  refine awp_cond v_ (fun hc2 => ?_) (fun hc2 => ?_)
  · replace hc2 := nm_ hc2
    refine awp_seq ?_
    have R := And.intro he hz
    refine awp_draw (.op 0 0 (.op 1 0 (.op 2 0 (.op 3 0 (.op 4 0 (.op 5 0 (.op 6 0 (.op 7 0 (.op 8 0 (.op 9 0 (.op 10 0 (.op 11 0 .nil)))))))))))) Tryz.mixed (by kernel_rfl) ?_
    iterate 12 (refine dR_S o_ (by rfl) (by rfl) v_ ?_)
    refine dR_nil ?_
    refine awp_ret ?_
    refine aEnd_ret (σ' := σ) v_ sub_ ?_
    refine ⟨?_, rfl⟩
    have htn : ((k : Int) + ((1 : Nat) : Int)).toNat = k + 1 := by omega
    rw [hcut, htn]
  · replace hc2 := nm_ hc2
    exact absurd hc2 (by omega)
theorem cut_c {s : ByteArray} {σ : Store} (hs : s.size ≤ 1000000000000) : ACalls Tryz.prog 147 [vStr s, vStr ⟨#[47]⟩] σ fun v σ' => v = .tup [vStr (cutS s).1, vStr (cutS s).2.1, vB (cutS s).2.2] ∧ σ = σ' := by
  refine ACalls_of Tryz.func147 rfl Tryz.ntmps147 (congrArg Array.toList Tryz.results147) (by simp only [List.length_cons, List.length_nil]; decide) ?_; simp only [envOf_cons, envOf_nil, Nat.reduceAdd]
  refine awp_seq ?_
  refine awp_region (by kernel_rfl) ?_
  iterate 3 (refine aL_S rfl rfl v_ ?_)
  refine aL_nil ?_
  refine awp_seq ?_
  refine awp_region (by kernel_rfl) ?_
  iterate 2 (refine aL_S rfl rfl v_ ?_)
  refine aL_X rfl rfl (AOp_use rfl rfl (.inr ⟨rfl, rfl, rfl⟩) g_ va_ (slCut_c hs) ?_); rintro _ _ ⟨rfl, rfl⟩
  iterate 6 (refine aL_S rfl rfl v_ ?_)
  refine aL_nil ?_
  refine awp_ret ?_
  refine aEnd_ret (σ' := σ) v_ sub_ ?_
  exact ⟨rfl, rfl⟩
theorem isKey_c {s : ByteArray} {σ : Store} (hs : s.size ≤ 1000000000000) : ACalls Tryz.prog 148 [vStr s] σ fun v σ' => v = vB (keyOk s) ∧ σ = σ' := by
  have h0 : s = ⟨#[]⟩ ↔ s.size = 0 := ⟨fun h => by rw [h]; rfl, fun h => by apply ByteArray.ext; exact Array.eq_empty_of_size_eq_zero h⟩
  refine ACalls_of Tryz.func148 rfl Tryz.ntmps148 (congrArg Array.toList Tryz.results148) (by simp only [List.length_cons, List.length_nil]; decide) ?_; simp only [envOf_cons, envOf_nil, Nat.reduceAdd]
  refine awp_seq ?_
  refine awp_region (by kernel_rfl) ?_
  (refine aL_S rfl rfl v_ ?_)
  refine aL_nil ?_
  refine awp_seq ?_
  have R := h0
  refine awp_region (by kernel_rfl) ?_
  iterate 3 (refine aL_S rfl rfl v_ ?_)
  refine aL_GT rfl rfl v_ rfl vg_ ?_
  refine aL_GT rfl rfl v_ rfl vg_ ?_
  refine aL_GT rfl rfl v_ rfl vg_ ?_
  iterate 2 (refine aL_S rfl rfl v_ ?_)
  refine aL_nil ?_
  refine awp_ret ?_
  refine aEnd_ret (σ' := σ) v_ sub_ ?_
  refine ⟨?_, rfl⟩
  unfold keyOk
  by_cases h1 : s.size = 0 <;> by_cases h2 : s.size ≤ 64 <;> simp [h1, h2, h0] <;> omega
theorem rIsKey_c {s : ByteArray} {σ : Store} (hs : s.size ≤ 1000000000000) : ACalls Tryz.prog 135 [vStr s] σ fun v σ' => v = vB (keyOk s) ∧ σ = σ' := by
  refine ACalls_of Tryz.func135 rfl Tryz.ntmps135 (congrArg Array.toList Tryz.results135) (by simp only [List.length_cons, List.length_nil]; decide) ?_; simp only [envOf_cons, envOf_nil, Nat.reduceAdd]
  refine awp_seq ?_
  refine awp_region (by kernel_rfl) ?_
  (refine aL_S rfl rfl v_ ?_)
  refine aL_nil ?_
  refine awp_seq ?_
  refine awp_region (by kernel_rfl) ?_
  iterate 4 (refine aL_S rfl rfl v_ ?_)
  refine aL_GT rfl rfl v_ rfl vg_ ?_
  refine aL_GT rfl rfl v_ rfl vg_ ?_
  refine aL_GT rfl rfl v_ rfl vg_ ?_
  iterate 2 (refine aL_S rfl rfl v_ ?_)
  refine aL_nil ?_
  refine awp_ret ?_
  refine aEnd_ret (σ' := σ) v_ sub_ ?_
  refine ⟨?_, rfl⟩
  unfold keyOk
  by_cases h1 : 1 ≤ s.size <;> by_cases h2 : s.size ≤ 64 <;> simp [h1, h2] <;> omega
theorem cutS_size (s : ByteArray) : (cutS s).1.size ≤ s.size ∧ (cutS s).2.1.size ≤ s.size := by
  rcases idx47_cases s with ⟨he, hcut⟩ | ⟨k, he, hk, hcut⟩
  · rw [hcut]; exact ⟨Nat.le_refl _, Nat.zero_le _⟩
  · rw [hcut]
    simp only [ByteArray.size_extract]
    omega
theorem split_c {s : ByteArray} {σ : Store} (hs : s.size ≤ 1000000000000) : ACalls Tryz.prog 134 [vStr s] σ fun v σ' => v = .tup [vStr (splitS s).1, vStr (splitS s).2.1, vB (splitS s).2.2] ∧ σ = σ' := by
  obtain ⟨z1, z2⟩ := cutS_size s
  refine ACalls_of Tryz.func134 rfl Tryz.ntmps134 (congrArg Array.toList Tryz.results134) (by simp only [List.length_cons, List.length_nil]; decide) ?_; simp only [envOf_cons, envOf_nil, Nat.reduceAdd]
  refine awp_seq ?_
  refine awp_region (by kernel_rfl) ?_
  iterate 3 (refine aL_S rfl rfl v_ ?_)
  refine aL_nil ?_
  refine awp_seq ?_
  refine awp_region (by kernel_rfl) ?_
  (refine aL_S rfl rfl v_ ?_)
  refine aL_X rfl rfl (AOp_use rfl rfl (.inr ⟨rfl, rfl, rfl⟩) g_ va_ (cut_c hs) ?_); rintro _ _ ⟨rfl, rfl⟩
  iterate 7 (refine aL_S rfl rfl v_ ?_)
  refine aL_nil ?_
  refine awp_seq ?_
  refine awp_seq ?_
  refine awp_region (by kernel_rfl) ?_
  iterate 3 (refine aL_S rfl rfl v_ ?_)
  refine aL_GF rfl rfl v_ rfl vg_ ?_
  refine aL_GFX rfl rfl v_ rfl (fun hb => AOp_useV (by rfl) (by rfl) (.inr ⟨by rfl, by rfl, by rfl⟩) g_ cg_ (nameIs_c (by omega))) ?_
  refine aL_GF rfl rfl v_ rfl vg_ ?_
  iterate 2 (refine aL_S rfl rfl v_ ?_)
  refine aL_GF rfl rfl v_ rfl vg_ ?_
  refine aL_GFX rfl rfl v_ rfl (fun hb => AOp_useV (by rfl) (by rfl) (.inr ⟨by rfl, by rfl, by rfl⟩) g_ cg_ (isKey_c (by omega))) ?_
  refine aL_GF rfl rfl v_ rfl vg_ ?_
  (refine aL_S rfl rfl v_ ?_)
  refine aL_nil ?_
  refine awp_cond v_ (fun hc2 => ?_) (fun hc2 => ?_)
  · replace hc2 := nm_ hc2
    refine awp_seq ?_
    refine awp_region (by kernel_rfl) ?_
    iterate 3 (refine aL_S rfl rfl v_ ?_)
    refine aL_nil ?_
    refine awp_ret ?_
    refine aEnd_ret (σ' := σ) v_ sub_ ?_
    refine ⟨?_, rfl⟩
    rw [splitS, if_neg (fun ⟨q1, q2, q3⟩ => by rcases hc2 with (h | h) | h <;> simp_all)]
  · replace hc2 := nm_ hc2
    refine awp_skip ?_
    refine awp_seq ?_
    refine awp_region (by kernel_rfl) ?_
    iterate 5 (refine aL_S rfl rfl v_ ?_)
    refine aL_nil ?_
    refine awp_ret ?_
    refine aEnd_ret (σ' := σ) v_ sub_ ?_
    refine ⟨?_, rfl⟩
    rw [splitS, if_pos (by simpa [and_assoc] using hc2)]
theorem isPlace_c {s : ByteArray} {σ : Store} (hs : s.size ≤ 1000000000000) : ACalls Tryz.prog 110 [vStr s] σ fun v σ' => v = vB (placeOk s) ∧ σ = σ' := by
  refine ACalls_of Tryz.func110 rfl Tryz.ntmps110 (congrArg Array.toList Tryz.results110) (by simp only [List.length_cons, List.length_nil]; decide) ?_; simp only [envOf_cons, envOf_nil, Nat.reduceAdd]
  refine awp_seq ?_
  refine awp_region (by kernel_rfl) ?_
  (refine aL_S rfl rfl v_ ?_)
  refine aL_nil ?_
  refine awp_seq ?_
  refine awp_region (by kernel_rfl) ?_
  (refine aL_S rfl rfl v_ ?_)
  refine aL_X rfl rfl (AOp_use rfl rfl (.inr ⟨rfl, rfl, rfl⟩) g_ va_ (split_c hs) ?_); rintro _ _ ⟨rfl, rfl⟩
  iterate 7 (refine aL_S rfl rfl v_ ?_)
  refine aL_nil ?_
  refine awp_seq ?_
  refine awp_region (by kernel_rfl) ?_
  iterate 2 (refine aL_S rfl rfl v_ ?_)
  refine aL_nil ?_
  refine awp_ret ?_
  refine aEnd_ret (σ' := σ) v_ sub_ ?_
  exact ⟨rfl, rfl⟩
theorem rSplit_c {s : ByteArray} {σ : Store} (hs : s.size ≤ 1000000000000) : ACalls Tryz.prog 116 [vStr s] σ fun v σ' => v = .tup [vStr (splitS s).1, vStr (splitS s).2.1, vB (splitS s).2.2] ∧ σ = σ' := by
  refine ACalls_of Tryz.func116 rfl Tryz.ntmps116 (congrArg Array.toList Tryz.results116) (by simp only [List.length_cons, List.length_nil]; decide) ?_; simp only [envOf_cons, envOf_nil, Nat.reduceAdd]
  refine awp_seq ?_
  refine awp_region (by kernel_rfl) ?_
  iterate 3 (refine aL_S rfl rfl v_ ?_)
  refine aL_nil ?_
  refine awp_seq ?_
  refine awp_seq ?_
  refine awp_region (by kernel_rfl) ?_
  (refine aL_S rfl rfl v_ ?_)
  refine aL_nil ?_
  refine awp_block ?_
  refine awp_loop_env (ι := Nat) (fun p => s.size - p) (fun p => p ≤ s.size ∧ ∀ j c, j < p → (Lb s)[j]? = some c → c ≠ 47) (fun p => [(0, vStr s), (5, vInt p)]) (fun p => σ) 0 ?_ ?_ ?_ ?_
  · exact ⟨Nat.zero_le _, fun j c h => absurd h (by omega)⟩
  · exact cv_
  · exact sub_
  rintro p ⟨hp, ha⟩
  simp only [envL_cons, envL_nil]
  refine awp_seq ?_
  refine awp_seq ?_
  refine awp_region (by kernel_rfl) ?_
  iterate 4 (refine aL_S rfl rfl v_ ?_)
  refine aL_nil ?_
  refine awp_cond v_ (fun hc2 => ?_) (fun hc2 => ?_)
  · replace hc2 := nm_ hc2
    refine awp_skip ?_
    refine awp_seq ?_
    refine awp_block ?_
    refine awp_seq ?_
    have hp' : p < s.size := by omega
    have hg := Lb_get hp'
    have hg2 : s[p]? = some (s[p]'hp') := getElem?_pos s p hp'
    obtain ⟨c, hc⟩ : ∃ c, s[p]'hp' = c := ⟨_, rfl⟩
    rw [hc] at hg hg2
    have R := hg2
    refine awp_region (by kernel_rfl) ?_
    iterate 4 (refine aL_S rfl rfl v_ ?_)
    refine aL_nil ?_
    refine awp_cond v_ (fun hc4 => ?_) (fun hc4 => ?_)
    · replace hc4 := nm_ hc4
      skip
      have h47 : c = 47 := by
        have h' : c.toNat = 47 := by omega
        exact UInt8.toNat_inj.1 (by rw [h']; rfl)
      have he := idx47_at (h47 ▸ hg) ha
      have hcut : cutS s = (s.extract 0 p, s.extract (p + 1) s.size, true) := by
        rcases idx47_cases s with ⟨h1, h2⟩ | ⟨k, h1, h2, h3⟩
        · rw [h1] at he; omega
        · have : k = p := by rw [h1] at he; omega
          rw [h3, this]
      refine awp_seq ?_
      refine awp_seq ?_
      refine awp_region (by kernel_rfl) ?_
      iterate 3 (refine aL_S rfl rfl v_ ?_)
      refine aL_X rfl rfl (AOp_use rfl rfl (.inr ⟨rfl, rfl, rfl⟩) g_ va_ (rIs_c (by simp only [ByteArray.size_extract]; omega)) ?_); rintro _ _ ⟨rfl, rfl⟩
      (refine aL_S rfl rfl v_ ?_)
      refine aL_GT rfl rfl v_ rfl vg_ ?_
      refine aL_GT rfl rfl v_ rfl vg_ ?_
      refine aL_GT rfl rfl v_ rfl vg_ ?_
      refine aL_GT rfl rfl v_ rfl vg_ ?_
      refine aL_GTX rfl rfl v_ rfl (fun hb => AOp_useV (by rfl) (by rfl) (.inr ⟨by rfl, by rfl, by rfl⟩) g_ cg_ (rIsKey_c (by simp only [ByteArray.size_extract]; omega))) ?_
      (refine aL_S rfl rfl v_ ?_)
      refine aL_nil ?_
      refine awp_cond v_ (fun hc5 => ?_) (fun hc5 => ?_)
      · replace hc5 := nm_ hc5
        refine awp_seq ?_
        refine awp_draw (.op 0 0 (.op 1 0 (.op 2 0 (.op 3 0 (.op 4 0 (.op 5 0 (.op 6 0 (.op 7 0 (.op 8 0 (.op 9 0 .nil)))))))))) Tryz.mixed (by kernel_rfl) ?_
        iterate 10 (refine dR_S o_ (by rfl) (by rfl) v_ ?_)
        refine dR_nil ?_
        refine awp_ret ?_
        refine aEnd_ret (σ' := σ) v_ sub_ ?_
        refine ⟨?_, rfl⟩
        have htn : ((p : Int) + 1).toNat = p + 1 := by omega
        rw [htn] at hc5 ⊢
        rw [splitS, hcut, if_pos (by simpa using hc5)]
      · replace hc5 := nm_ hc5
        refine awp_skip ?_
        refine awp_seq ?_
        refine awp_region (by kernel_rfl) ?_
        iterate 3 (refine aL_S rfl rfl v_ ?_)
        refine aL_nil ?_
        refine awp_ret ?_
        refine aEnd_ret (σ' := σ) v_ sub_ ?_
        refine ⟨?_, rfl⟩
        have htn : ((p : Int) + 1).toNat = p + 1 := by omega
        rw [htn] at hc5
        rw [splitS, hcut, if_neg (fun ⟨q1, q2, q3⟩ => by rcases hc5 with h | h <;> simp_all)]
    · replace hc4 := nm_ hc4
      skip
      have hnx : ∀ j d, j < p + 1 → (Lb s)[j]? = some d → d ≠ 47 := by
        intro j d hj hd e
        by_cases hjp : j = p
        · rw [hjp, hg] at hd
          obtain rfl : c = d := by simpa using hd
          rw [e] at hc4; exact hc4 rfl
        · exact ha j d (by omega) hd e
      refine awp_skip ?_
      refine awp_region (by kernel_rfl) ?_
      iterate 3 (refine aL_S rfl rfl v_ ?_)
      refine aL_nil ?_
      refine aNext (ι := Nat) (i := p) (p + 1) ?_ ?_ ?_ ?_
      · omega
      · exact ⟨by omega, hnx⟩
      · exact cv_
      · exact sub_
  · replace hc2 := nm_ hc2
    refine awp_exit ?_
    refine aThen_exit ?_
    refine aThen_exit ?_
    refine aBlock_hit ?_
    refine awp_seq ?_
    refine awp_region (by kernel_rfl) ?_
    iterate 3 (refine aL_S rfl rfl v_ ?_)
    refine aL_nil ?_
    refine awp_ret ?_
    refine aEnd_ret (σ' := σ) v_ sub_ ?_
    refine ⟨?_, rfl⟩
    have he : idx47 (Lb s) = -1 := idx47_none fun c hc => by
      obtain ⟨j, hj⟩ := List.mem_iff_getElem?.1 hc
      have := (List.getElem?_eq_some_iff.1 hj).1
      rw [Lb_length] at this
      exact ha j c (by omega) hj
    have hcut : cutS s = (s, ⟨#[]⟩, false) := by rw [cutS, if_neg (by omega)]
    rw [splitS, hcut, if_neg (by simp)]
theorem rIsPlace_c {s : ByteArray} {σ : Store} (hs : s.size ≤ 1000000000000) : ACalls Tryz.prog 84 [vStr s] σ fun v σ' => v = vB (placeOk s) ∧ σ = σ' := by
  refine ACalls_of Tryz.func84 rfl Tryz.ntmps84 (congrArg Array.toList Tryz.results84) (by simp only [List.length_cons, List.length_nil]; decide) ?_; simp only [envOf_cons, envOf_nil, Nat.reduceAdd]
  refine awp_seq ?_
  refine awp_region (by kernel_rfl) ?_
  (refine aL_S rfl rfl v_ ?_)
  refine aL_nil ?_
  refine awp_seq ?_
  refine awp_region (by kernel_rfl) ?_
  (refine aL_S rfl rfl v_ ?_)
  refine aL_X rfl rfl (AOp_use rfl rfl (.inr ⟨rfl, rfl, rfl⟩) g_ va_ (rSplit_c hs) ?_); rintro _ _ ⟨rfl, rfl⟩
  iterate 7 (refine aL_S rfl rfl v_ ?_)
  refine aL_nil ?_
  refine awp_seq ?_
  refine awp_region (by kernel_rfl) ?_
  iterate 2 (refine aL_S rfl rfl v_ ?_)
  refine aL_nil ?_
  refine awp_ret ?_
  refine aEnd_ret (σ' := σ) v_ sub_ ?_
  exact ⟨rfl, rfl⟩
end Go.Proofs.YtbjloippgpilcaaGreat
end

section
set_option linter.all false
set_option maxRecDepth 100000
namespace Go.Proofs.YtbjloippgpilcaaGreat
open Go.Ab

def upGo {α : Type} (ok : α → Bool) (key : α → ByteArray) : Option ByteArray → List α → Bool
  | _, [] => true
  | pv, x :: l => ok x && aheadOk pv (key x) && upGo ok key (some (key x)) l
theorem upGo_and {α : Type} {f g : α → Bool} {key : α → ByteArray} : ∀ {pv : Option ByteArray} {l : List α}, upGo (fun x => f x && g x) key pv l = (upGo f key pv l && l.all g)
  | _, [] => rfl
  | pv, x :: l => by
    simp only [upGo, List.all_cons, upGo_and (l := l)]
    cases f x <;> cases g x <;> cases aheadOk pv (key x) <;> simp
def pvK {α : Type} (key : α → ByteArray) (c : List α) (k : Nat) : Option ByteArray := if k = 0 then none else (c[k - 1]?).map key
theorem pvK_next {α : Type} {key : α → ByteArray} {c : List α} {k : Nat} {x : α} (h : c[k]? = some x) : pvK key c (k + 1) = some (key x) := by simp [pvK, h]
theorem pvK_prev {α : Type} (key : α → ByteArray) (c : List α) (k : Nat) (hk : k < c.length) : ∃ y : α, (0 < k → c[((k : Int) - 1).toNat]? = some y) ∧ ∀ s, aheadOk (pvK key c k) s = (decide (k = 0) || sLt (key y) s) := by
  by_cases h0 : k = 0
  · subst h0
    obtain ⟨y, hy⟩ := get_some hk
    exact ⟨y, fun h => by omega, fun s => rfl⟩
  · obtain ⟨y, hy⟩ := get_some (l := c) (k := k - 1) (by omega)
    have e : ((k : Int) - 1).toNat = k - 1 := by omega
    exact ⟨y, fun _ => by rw [e]; exact hy, fun s => by simp [pvK, h0, hy, aheadOk]⟩
theorem up_no {a b r s : Bool} {k : Nat} (hb : b = (decide (k = 0) || s)) (h : a = false ∨ 0 < (k : Int) ∧ s = false) : (a && b && r) = false := by
  rcases h with h | ⟨h, h'⟩
  · rw [h]; rfl
  · rw [hb, h', decide_eq_false (show ¬ k = 0 by omega)]; simp
theorem up_yes {a b r s : Bool} {k : Nat} (hb : b = (decide (k = 0) || s)) (h : a = true ∧ ((k : Int) ≤ 0 ∨ s = true)) : (a && b && r) = r := by
  obtain ⟨h1, h2⟩ := h
  have : b = true := by
    rw [hb]
    rcases h2 with h | h
    · rw [decide_eq_true (show k = 0 by omega)]; rfl
    · rw [h]; simp
  rw [h1, this]; rfl
def itemsOk (l : List Itm) : Bool := upGo (fun x => placeOk x.place && objOk x.obj) Itm.place none l
theorem itemPlace_c {x : Itm} {σ : Store} : ACalls Tryz.prog 71 [sItem x] σ fun v σ' => v = vStr x.place ∧ σ = σ' := by
  refine ACalls_of Tryz.func71 rfl Tryz.ntmps71 (congrArg Array.toList Tryz.results71) (by simp only [List.length_cons, List.length_nil]; decide) ?_; simp only [envOf_cons, envOf_nil, Nat.reduceAdd]
  refine awp_seq ?_
  refine awp_region (by kernel_rfl) ?_
  refine aL_box rfl rfl rfl v_ rfl g_ fun o1 ho1 => ?_
  repeat (rw [none_set_iff] at ho1; obtain ⟨_, ho1⟩ := ho1)
  (refine aL_S rfl rfl v_ ?_)
  refine aL_nil ?_
  refine awp_seq ?_
  refine awp_region (by kernel_rfl) ?_
  iterate 3 (refine aL_S rfl rfl v_ ?_)
  refine aL_nil ?_
  refine awp_ret ?_
  refine aEnd_ret (σ' := σ) v_ sub_ ?_
  exact ⟨rfl, rfl⟩
theorem riseI_c {l : List Itm} {t : Bool} {σ : Store} (hx : ∀ x ∈ l, x.place.size ≤ 1000000) (hn : l.length ≤ 1000000) : ACalls Tryz.prog 70 [.sl 3 (l.map sItem) t, .lit (.func (.func 71) #[] #[])] σ fun v σ' => v = vB (upGo (fun x => placeOk x.place) Itm.place none l) ∧ σ = σ' := by
  refine ACalls_of Tryz.func70 rfl Tryz.ntmps70 (congrArg Array.toList Tryz.results70) (by simp only [List.length_cons, List.length_nil]; decide) ?_; simp only [envOf_cons, envOf_nil, Nat.reduceAdd]
  refine awp_seq ?_
  refine awp_region (by kernel_rfl) ?_
  (refine aL_S rfl rfl v_ ?_)
  refine aL_nil ?_
  refine awp_seq ?_
  refine awp_seq ?_
  refine awp_region (by kernel_rfl) ?_
  iterate 3 (refine aL_S rfl rfl v_ ?_)
  refine aL_nil ?_
  refine awp_block ?_
  refine awp_loop_env (ι := Nat) (fun k => l.length - k) (fun k => k ≤ l.length ∧ upGo (fun x => placeOk x.place) Itm.place (pvK Itm.place l k) (l.drop k) = upGo (fun x => placeOk x.place) Itm.place none l) (fun k => [(0, .sl 3 (l.map sItem) t), (1, .lit (.func (.func 71) #[] #[])), (7, .sl 3 (l.map sItem) t), (8, vInt l.length), (9, vInt k)]) (fun k => σ) 0 ?_ ?_ ?_ ?_
  · exact ⟨Nat.zero_le _, rfl⟩
  · exact cv_
  · exact sub_
  rintro k ⟨hk, hr⟩
  simp only [envL_cons, envL_nil]
  refine awp_seq ?_
  refine awp_region (by kernel_rfl) ?_
  (refine aL_S rfl rfl v_ ?_)
  refine aL_nil ?_
  refine awp_seq ?_
  refine awp_cond v_ (fun hc2 => ?_) (fun hc2 => ?_)
  · replace hc2 := nm_ hc2
    refine awp_skip ?_
    refine awp_seq ?_
    refine awp_block ?_
    refine awp_seq ?_
    obtain ⟨x, hxk⟩ := get_some (l := l) (k := k) (by omega)
    have hsx := hx x (List.mem_of_getElem? hxk)
    obtain ⟨y, hy, hah⟩ := pvK_prev Itm.place l k (by omega)
    have hst : upGo (fun x => placeOk x.place) Itm.place (pvK Itm.place l k) (l.drop k) = (placeOk x.place && aheadOk (pvK Itm.place l k) x.place && upGo (fun x => placeOk x.place) Itm.place (some x.place) (l.drop (k + 1))) := by rw [drop_cons hxk]; rfl
    have R := hxk
    refine awp_region (by kernel_rfl) ?_
    iterate 3 (refine aL_S rfl rfl v_ ?_)
    refine aL_alloc rfl rfl rfl g_ gl_ fun o6 ho6 => ?_
    repeat (rw [none_set_iff] at ho6; obtain ⟨_, ho6⟩ := ho6)
    (refine aL_S rfl rfl v_ ?_)
    refine aL_store rfl rfl rfl v_ v_ h_ g_ rfl g_ c_ (by rfl) le_ v_ ?_
    refine aL_nil ?_
    refine awp_seq ?_
    have R := hy
    refine awp_draw (.op 0 0 (.op 1 0 (.op 2 1 (.op 3 1 (.op 4 0 (.op 5 0 (.op 6 0 (.op 7 0 (.op 8 0 (.op 9 0 (.op 10 0 (.op 11 0 (.op 12 0 (.op 13 0 (.op 14 0 (.op 16 0 (.op 17 0 (.op 15 1 (.op 18 1 (.op 19 0 (.op 20 0 (.op 21 0 .nil)))))))))))))))))))))) Tryz.mixed (by kernel_rfl) ?_
    iterate 2 (refine dR_S o_ (by rfl) (by rfl) v_ ?_)
    refine dR_X o_ (by rfl) (by rfl) (AOp_use (by rfl) (by rfl) (.inr ⟨va_, by rfl, by rfl⟩) g_ va_ (itemPlace_c) ?_); rintro _ _ ⟨rfl, rfl⟩; refine ⟨sub_, ?_⟩
    refine dR_X o_ (by rfl) (by rfl) (AOp_use (by rfl) (by rfl) (.inr ⟨by rfl, by rfl, by rfl⟩) g_ va_ (isPlace_c (by omega)) ?_); rintro _ _ ⟨rfl, rfl⟩; refine ⟨sub_, ?_⟩
    iterate 2 (refine dR_S o_ (by rfl) (by rfl) v_ ?_)
    refine dR_GF o_ (by rfl) (by rfl) v_ (by rfl) vg_ ?_
    refine dR_GF o_ (by rfl) (by rfl) v_ (by rfl) vg_ ?_
    refine dR_GF o_ (by rfl) (by rfl) v_ (by rfl) vg_ ?_
    refine dR_GGT o_ (by rfl) (by rfl) v_ (by rfl) vg_ ?_
    refine dR_GGT o_ (by rfl) (by rfl) v_ (by rfl) vg_ ?_
    refine dR_GGT o_ (by rfl) (by rfl) v_ (by rfl) vg_ ?_
    refine dR_GGT o_ (by rfl) (by rfl) v_ (by rfl) vg_ ?_
    refine dR_GGT o_ (by rfl) (by rfl) v_ (by rfl) vg_ ?_
    refine dR_GGT o_ (by rfl) (by rfl) v_ (by rfl) vg_ ?_
    refine dR_GGT o_ (by rfl) (by rfl) v_ (by rfl) vg_ ?_
    refine dR_GGT o_ (by rfl) (by rfl) v_ (by rfl) vg_ ?_
    refine dR_GGTX o_ (by rfl) (by rfl) v_ (by rfl) sub_ (fun hb => AOp_useV (by rfl) (by rfl) (.inr ⟨vh_, by rfl, by rfl⟩) g_ cg_ (itemPlace_c)) ?_
    refine dR_GGTX o_ (by rfl) (by rfl) v_ (by rfl) sub_ (fun hb => AOp_useV (by rfl) (by rfl) (.inr ⟨vh_, by rfl, by rfl⟩) g_ cg_ (itemPlace_c)) ?_
    refine dR_GGT o_ (by rfl) (by rfl) v_ (by rfl) vg_ ?_
    refine dR_GF o_ (by rfl) (by rfl) v_ (by rfl) vg_ ?_
    (refine dR_S o_ (by rfl) (by rfl) v_ ?_)
    refine dR_nil ?_
    refine awp_cond v_ (fun hc4 => ?_) (fun hc4 => ?_)
    · replace hc4 := nm_ hc4
      refine awp_seq ?_
      refine awp_region (by kernel_rfl) ?_
      (refine aL_S rfl rfl v_ ?_)
      refine aL_nil ?_
      refine awp_ret ?_
      refine aEnd_ret (σ' := σ) v_ sub_ ?_
      refine ⟨?_, rfl⟩
      rw [← hr, hst, up_no (hah _) hc4]
    · replace hc4 := nm_ hc4
      have hnx : upGo (fun x => placeOk x.place) Itm.place (pvK Itm.place l (k + 1)) (l.drop (k + 1)) = upGo (fun x => placeOk x.place) Itm.place none l := by rw [pvK_next hxk, ← hr, hst, up_yes (hah _) hc4]
      refine awp_skip ?_
      refine awp_region (by kernel_rfl) ?_
      iterate 2 (refine aL_S rfl rfl v_ ?_)
      refine aL_nil ?_
      refine aNext (ι := Nat) (i := k) (k + 1) ?_ ?_ ?_ ?_
      · omega
      · exact ⟨by omega, hnx⟩
      · exact cv_
      · exact sub_
  · replace hc2 := nm_ hc2
    refine awp_exit ?_
    refine aThen_exit ?_
    refine aThen_exit ?_
    refine aBlock_hit ?_
    refine awp_seq ?_
    refine awp_region (by kernel_rfl) ?_
    (refine aL_S rfl rfl v_ ?_)
    refine aL_nil ?_
    refine awp_ret ?_
    refine aEnd_ret (σ' := σ) v_ sub_ ?_
    refine ⟨?_, rfl⟩
    rw [← hr, List.drop_eq_nil_of_le (by omega)]; rfl
theorem rise0_c {σ : Store} : ACalls Tryz.prog 72 [.lit (.slice none 0 0), .lit (.func (.func 73) #[] #[])] σ fun v σ' => v = vB true ∧ σ = σ' := by
  refine ACalls_of Tryz.func72 rfl Tryz.ntmps72 (congrArg Array.toList Tryz.results72) (by simp only [List.length_cons, List.length_nil]; decide) ?_; simp only [envOf_cons, envOf_nil, Nat.reduceAdd]
  refine awp_seq ?_
  refine awp_region (by kernel_rfl) ?_
  (refine aL_S rfl rfl v_ ?_)
  refine aL_nil ?_
  refine awp_seq ?_
  refine awp_seq ?_
  refine awp_region (by kernel_rfl) ?_
  iterate 3 (refine aL_S rfl rfl v_ ?_)
  refine aL_nil ?_
  refine awp_block ?_
  refine awp_loop_env (ι := Nat) (fun k => 0 - k) (fun k => k = 0) (fun k => [(0, .lit (.slice none 0 0)), (1, .lit (.func (.func 73) #[] #[])), (7, .lit (.slice none 0 0)), (8, vInt 0), (9, vInt k)]) (fun k => σ) 0 ?_ ?_ ?_ ?_
  · rfl
  · exact cv_
  · exact sub_
  rintro k hk
  simp only [envL_cons, envL_nil]
  refine awp_seq ?_
  refine awp_region (by kernel_rfl) ?_
  (refine aL_S rfl rfl v_ ?_)
  refine aL_nil ?_
  refine awp_seq ?_
  refine awp_cond v_ (fun hc2 => ?_) (fun hc2 => ?_)
  · replace hc2 := nm_ hc2
    subst hk; exact absurd hc2 (by decide)
  · replace hc2 := nm_ hc2
    refine awp_exit ?_
    refine aThen_exit ?_
    refine aThen_exit ?_
    refine aBlock_hit ?_
    refine awp_seq ?_
    refine awp_region (by kernel_rfl) ?_
    (refine aL_S rfl rfl v_ ?_)
    refine aL_nil ?_
    refine awp_ret ?_
    refine aEnd_ret (σ' := σ) v_ sub_ ?_
    exact ⟨rfl, rfl⟩
theorem checkI1_c {x : Itm} {σ : Store} (hx : ObjSm x.obj) : ACalls Tryz.prog 75 [sItem x] σ fun v σ' => v = vB (!objOk x.obj) ∧ σ = σ' := by
  refine ACalls_of Tryz.func75 rfl Tryz.ntmps75 (congrArg Array.toList Tryz.results75) (by simp only [List.length_cons, List.length_nil]; decide) ?_; simp only [envOf_cons, envOf_nil, Nat.reduceAdd]
  refine awp_seq ?_
  refine awp_region (by kernel_rfl) ?_
  refine aL_box rfl rfl rfl v_ rfl g_ fun o1 ho1 => ?_
  repeat (rw [none_set_iff] at ho1; obtain ⟨_, ho1⟩ := ho1)
  (refine aL_S rfl rfl v_ ?_)
  refine aL_nil ?_
  refine awp_seq ?_
  refine awp_region (by kernel_rfl) ?_
  iterate 2 (refine aL_S rfl rfl v_ ?_)
  refine aL_X rfl rfl (AOp_use rfl rfl (.inr ⟨rfl, rfl, rfl⟩) g_ va_ (oCheck_c hx) ?_); rintro _ _ ⟨rfl, rfl⟩
  iterate 2 (refine aL_S rfl rfl v_ ?_)
  refine aL_nil ?_
  refine awp_ret ?_
  refine aEnd_ret (σ' := σ) v_ sub_ ?_
  refine ⟨?_, rfl⟩
  cases objOk x.obj <;> rfl
theorem indexI_c {l : List Itm} {t : Bool} {σ : Store} (hx : ∀ x ∈ l, ObjSm x.obj) (hn : l.length ≤ 1000000) : ACalls Tryz.prog 111 [.sl 3 (l.map sItem) t, .lit (.func (.func 75) #[] #[])] σ fun v σ' => (∃ r, v = vInt r ∧ decide (0 ≤ r) = l.any (fun x => !objOk x.obj)) ∧ σ = σ' := by
  refine ACalls_of Tryz.func111 rfl Tryz.ntmps111 (congrArg Array.toList Tryz.results111) (by simp only [List.length_cons, List.length_nil]; decide) ?_; simp only [envOf_cons, envOf_nil, Nat.reduceAdd]
  refine awp_seq ?_
  refine awp_region (by kernel_rfl) ?_
  (refine aL_S rfl rfl v_ ?_)
  refine aL_nil ?_
  refine awp_seq ?_
  refine awp_seq ?_
  refine awp_region (by kernel_rfl) ?_
  iterate 3 (refine aL_S rfl rfl v_ ?_)
  refine aL_nil ?_
  refine awp_block ?_
  refine awp_loop_env (ι := Nat) (fun k => l.length - k) (fun k => k ≤ l.length ∧ (l.take k).any (fun x => !objOk x.obj) = false) (fun k => [(0, .sl 3 (l.map sItem) t), (1, .lit (.func (.func 75) #[] #[])), (7, vInt l.length), (8, vInt k)]) (fun k => σ) 0 ?_ ?_ ?_ ?_
  · exact ⟨Nat.zero_le _, rfl⟩
  · exact cv_
  · exact sub_
  rintro k ⟨hk, ha⟩
  simp only [envL_cons, envL_nil]
  refine awp_seq ?_
  refine awp_region (by kernel_rfl) ?_
  (refine aL_S rfl rfl v_ ?_)
  refine aL_nil ?_
  refine awp_seq ?_
  refine awp_cond v_ (fun hc2 => ?_) (fun hc2 => ?_)
  · replace hc2 := nm_ hc2
    refine awp_skip ?_
    refine awp_seq ?_
    refine awp_block ?_
    refine awp_seq ?_
    obtain ⟨x, hxk⟩ := get_some (l := l) (k := k) (by omega)
    have hsx := hx x (List.mem_of_getElem? hxk)
    refine awp_region (by kernel_rfl) ?_
    iterate 2 (refine aL_S rfl rfl v_ ?_)
    refine aL_nil ?_
    refine awp_seq ?_
    have R := hxk
    refine awp_region (by kernel_rfl) ?_
    iterate 5 (refine aL_S rfl rfl v_ ?_)
    refine aL_X rfl rfl (AOp_use rfl rfl (.inr ⟨va_, rfl, rfl⟩) g_ va_ (checkI1_c hsx) ?_); rintro _ _ ⟨rfl, rfl⟩
    refine aL_nil ?_
    refine awp_cond v_ (fun hc4 => ?_) (fun hc4 => ?_)
    · replace hc4 := nm_ hc4
      refine awp_seq ?_
      refine awp_region (by kernel_rfl) ?_
      iterate 2 (refine aL_S rfl rfl v_ ?_)
      refine aL_nil ?_
      refine awp_ret ?_
      refine aEnd_ret (σ' := σ) v_ sub_ ?_
      exact ⟨⟨(k : Int), rfl, by rw [decide_eq_true (by omega)]; exact (any_yes hxk (by simpa using hc4)).symm⟩, rfl⟩
    · replace hc4 := nm_ hc4
      refine awp_skip ?_
      refine awp_region (by kernel_rfl) ?_
      iterate 2 (refine aL_S rfl rfl v_ ?_)
      refine aL_nil ?_
      refine aNext (ι := Nat) (i := k) (k + 1) ?_ ?_ ?_ ?_
      · omega
      · exact ⟨by omega, any_next hxk (by simpa using hc4) ha⟩
      · exact cv_
      · exact sub_
  · replace hc2 := nm_ hc2
    refine awp_exit ?_
    refine aThen_exit ?_
    refine aThen_exit ?_
    refine aBlock_hit ?_
    refine awp_seq ?_
    refine awp_region (by kernel_rfl) ?_
    (refine aL_S rfl rfl v_ ?_)
    refine aL_nil ?_
    refine awp_ret ?_
    refine aEnd_ret (σ' := σ) v_ sub_ ?_
    exact ⟨⟨-1, rfl, (any_end (by omega) ha).symm⟩, rfl⟩
theorem containsI_c {l : List Itm} {t : Bool} {σ : Store} (hx : ∀ x ∈ l, ObjSm x.obj) (hn : l.length ≤ 1000000) : ACalls Tryz.prog 74 [.sl 3 (l.map sItem) t, .lit (.func (.func 75) #[] #[])] σ fun v σ' => v = vB (l.any fun x => !objOk x.obj) ∧ σ = σ' := by
  refine ACalls_of Tryz.func74 rfl Tryz.ntmps74 (congrArg Array.toList Tryz.results74) (by simp only [List.length_cons, List.length_nil]; decide) ?_; simp only [envOf_cons, envOf_nil, Nat.reduceAdd]
  refine awp_seq ?_
  refine awp_region (by kernel_rfl) ?_
  (refine aL_S rfl rfl v_ ?_)
  refine aL_nil ?_
  refine awp_seq ?_
  refine awp_region (by kernel_rfl) ?_
  iterate 2 (refine aL_S rfl rfl v_ ?_)
  refine aL_X rfl rfl (AOp_use rfl rfl (.inr ⟨rfl, rfl, rfl⟩) g_ va_ (indexI_c hx hn) ?_); rintro _ _ ⟨⟨r, rfl, hr⟩, rfl⟩
  iterate 2 (refine aL_S rfl rfl v_ ?_)
  refine aL_nil ?_
  refine awp_ret ?_
  refine aEnd_ret (σ' := σ) v_ sub_ ?_
  exact ⟨by rw [← hr], rfl⟩
theorem index0_c {σ : Store} : ACalls Tryz.prog 112 [.lit (.slice none 0 0), .lit (.func (.func 77) #[] #[])] σ fun v σ' => v = vInt (-1) ∧ σ = σ' := by
  refine ACalls_of Tryz.func112 rfl Tryz.ntmps112 (congrArg Array.toList Tryz.results112) (by simp only [List.length_cons, List.length_nil]; decide) ?_; simp only [envOf_cons, envOf_nil, Nat.reduceAdd]
  refine awp_seq ?_
  refine awp_region (by kernel_rfl) ?_
  (refine aL_S rfl rfl v_ ?_)
  refine aL_nil ?_
  refine awp_seq ?_
  refine awp_seq ?_
  refine awp_region (by kernel_rfl) ?_
  iterate 3 (refine aL_S rfl rfl v_ ?_)
  refine aL_nil ?_
  refine awp_block ?_
  refine awp_loop_env (ι := Nat) (fun k => 0 - k) (fun k => k = 0) (fun k => [(0, .lit (.slice none 0 0)), (1, .lit (.func (.func 77) #[] #[])), (7, vInt 0), (8, vInt k)]) (fun k => σ) 0 ?_ ?_ ?_ ?_
  · rfl
  · exact cv_
  · exact sub_
  rintro k hk
  simp only [envL_cons, envL_nil]
  refine awp_seq ?_
  refine awp_region (by kernel_rfl) ?_
  (refine aL_S rfl rfl v_ ?_)
  refine aL_nil ?_
  refine awp_seq ?_
  refine awp_cond v_ (fun hc2 => ?_) (fun hc2 => ?_)
  · replace hc2 := nm_ hc2
    subst hk; exact absurd hc2 (by decide)
  · replace hc2 := nm_ hc2
    refine awp_exit ?_
    refine aThen_exit ?_
    refine aThen_exit ?_
    refine aBlock_hit ?_
    refine awp_seq ?_
    refine awp_region (by kernel_rfl) ?_
    (refine aL_S rfl rfl v_ ?_)
    refine aL_nil ?_
    refine awp_ret ?_
    refine aEnd_ret (σ' := σ) v_ sub_ ?_
    exact ⟨rfl, rfl⟩
theorem contains0_c {σ : Store} : ACalls Tryz.prog 76 [.lit (.slice none 0 0), .lit (.func (.func 77) #[] #[])] σ fun v σ' => v = vB false ∧ σ = σ' := by
  refine ACalls_of Tryz.func76 rfl Tryz.ntmps76 (congrArg Array.toList Tryz.results76) (by simp only [List.length_cons, List.length_nil]; decide) ?_; simp only [envOf_cons, envOf_nil, Nat.reduceAdd]
  refine awp_seq ?_
  refine awp_region (by kernel_rfl) ?_
  (refine aL_S rfl rfl v_ ?_)
  refine aL_nil ?_
  refine awp_seq ?_
  refine awp_region (by kernel_rfl) ?_
  iterate 2 (refine aL_S rfl rfl v_ ?_)
  refine aL_X rfl rfl (AOp_use rfl rfl (.inr ⟨rfl, rfl, rfl⟩) g_ va_ (index0_c) ?_); rintro _ _ ⟨rfl, rfl⟩
  iterate 2 (refine aL_S rfl rfl v_ ?_)
  refine aL_nil ?_
  refine awp_ret ?_
  refine aEnd_ret (σ' := σ) v_ sub_ ?_
  exact ⟨rfl, rfl⟩
theorem bookCheck_c {l : List Itm} {t : Bool} {σ : Store} (hx : ∀ x ∈ l, ItemSm x) (hn : l.length ≤ 1000000) : ACalls Tryz.prog 39 [.agg [.sl 3 (l.map sItem) t, .lit (.slice none 0 0)]] σ fun v σ' => v = vInt (if itemsOk l then 0 else 1) ∧ σ = σ' := by
  have hob : itemsOk l = (upGo (fun x => placeOk x.place) Itm.place none l && l.all fun x => objOk x.obj) := upGo_and
  have hna : (l.all fun x => objOk x.obj) = !(l.any fun x => !objOk x.obj) := by rw [List.not_any_eq_all_not]; simp
  rw [hna] at hob
  refine ACalls_of Tryz.func39 rfl Tryz.ntmps39 (congrArg Array.toList Tryz.results39) (by simp only [List.length_cons, List.length_nil]; decide) ?_; simp only [envOf_cons, envOf_nil, Nat.reduceAdd]
  refine awp_seq ?_
  refine awp_region (by kernel_rfl) ?_
  refine aL_box rfl rfl rfl v_ rfl g_ fun o1 ho1 => ?_
  repeat (rw [none_set_iff] at ho1; obtain ⟨_, ho1⟩ := ho1)
  (refine aL_S rfl rfl v_ ?_)
  refine aL_nil ?_
  refine awp_seq ?_
  refine awp_region (by kernel_rfl) ?_
  iterate 2 (refine aL_S rfl rfl v_ ?_)
  refine aL_X rfl rfl (AOp_use rfl rfl (.inr ⟨rfl, rfl, rfl⟩) g_ va_ (riseI_c (fun x h => (hx x h).place) hn) ?_); rintro _ _ ⟨rfl, rfl⟩
  iterate 2 (refine aL_S rfl rfl v_ ?_)
  refine aL_GF rfl rfl v_ rfl vg_ ?_
  refine aL_GF rfl rfl v_ rfl vg_ ?_
  refine aL_GFX rfl rfl v_ rfl (fun hb => AOp_useV (by rfl) (by rfl) (.inr ⟨by rfl, by rfl, by rfl⟩) g_ cg_ (rise0_c)) ?_
  refine aL_GF rfl rfl v_ rfl vg_ ?_
  iterate 2 (refine aL_S rfl rfl v_ ?_)
  refine aL_nil ?_
  refine awp_seq ?_
  refine awp_region (by kernel_rfl) ?_
  iterate 2 (refine aL_S rfl rfl v_ ?_)
  refine aL_GF rfl rfl v_ rfl vg_ ?_
  refine aL_GF rfl rfl v_ rfl vg_ ?_
  refine aL_GFX rfl rfl v_ rfl (fun hb => AOp_useV (by rfl) (by rfl) (.inr ⟨by rfl, by rfl, by rfl⟩) g_ cg_ (containsI_c (fun x h => (hx x h).obj) hn)) ?_
  iterate 2 (refine aL_S rfl rfl v_ ?_)
  refine aL_nil ?_
  refine awp_seq ?_
  refine awp_seq ?_
  refine awp_region (by kernel_rfl) ?_
  iterate 2 (refine aL_S rfl rfl v_ ?_)
  refine aL_GF rfl rfl v_ rfl vg_ ?_
  refine aL_GF rfl rfl v_ rfl vg_ ?_
  refine aL_GFX rfl rfl v_ rfl (fun hb => AOp_useV (by rfl) (by rfl) (.inr ⟨by rfl, by rfl, by rfl⟩) g_ cg_ (contains0_c)) ?_
  (refine aL_S rfl rfl v_ ?_)
  refine aL_nil ?_
  refine awp_cond v_ (fun hc3 => ?_) (fun hc3 => ?_)
  · replace hc3 := nm_ hc3
    refine awp_seq ?_
    refine awp_region (by kernel_rfl) ?_
    (refine aL_S rfl rfl v_ ?_)
    refine aL_nil ?_
    refine awp_ret ?_
    refine aEnd_ret (σ' := σ) v_ sub_ ?_
    refine ⟨?_, rfl⟩
    rw [hob]
    rcases hc3 with h | h <;> simp [h]
  · replace hc3 := nm_ hc3
    refine awp_skip ?_
    refine awp_seq ?_
    refine awp_region (by kernel_rfl) ?_
    (refine aL_S rfl rfl v_ ?_)
    refine aL_nil ?_
    refine awp_ret ?_
    refine aEnd_ret (σ' := σ) v_ sub_ ?_
    refine ⟨?_, rfl⟩
    rw [hob]; simp [hc3]
theorem rMay27_c {l : List Itm} {t : Bool} {σ : Store} (hx : ∀ x ∈ l, ItemSm x) (hn : l.length ≤ 1000000) : ACalls Tryz.prog 43 [.agg [.sl 3 (l.map sItem) t, .lit (.slice none 0 0)]] σ fun v σ' => v = vB (itemsOk l) ∧ σ = σ' := by
  refine ACalls_of Tryz.func43 rfl Tryz.ntmps43 (congrArg Array.toList Tryz.results43) (by simp only [List.length_cons, List.length_nil]; decide) ?_; simp only [envOf_cons, envOf_nil, Nat.reduceAdd]
  refine awp_seq ?_
  refine awp_region (by kernel_rfl) ?_
  refine aL_box rfl rfl rfl v_ rfl g_ fun o1 ho1 => ?_
  repeat (rw [none_set_iff] at ho1; obtain ⟨_, ho1⟩ := ho1)
  (refine aL_S rfl rfl v_ ?_)
  refine aL_nil ?_
  refine awp_seq ?_
  refine awp_seq ?_
  refine awp_region (by kernel_rfl) ?_
  (refine aL_S rfl rfl v_ ?_)
  refine aL_nil ?_
  refine awp_block ?_
  refine awp_loop_env (ι := Nat) (fun k => l.length - k) (fun k => k ≤ l.length ∧ upGo (fun x => placeOk x.place && objOk x.obj) Itm.place (pvK Itm.place l k) (l.drop k) = itemsOk l) (fun k => [(1, .ref o1 0), (3, vInt k)]) (fun k => (σ.set o1 (.cells [.sl 3 (l.map sItem) t, .lit (.slice none 0 0)]))) 0 ?_ ?_ ?_ ?_
  · exact ⟨Nat.zero_le _, rfl⟩
  · exact cv_
  · exact Store.Wk.refl _
  rintro k ⟨hk, hr⟩
  simp only [envL_cons, envL_nil]
  refine awp_seq ?_
  refine awp_seq ?_
  refine awp_region (by kernel_rfl) ?_
  iterate 5 (refine aL_S rfl rfl v_ ?_)
  refine aL_nil ?_
  refine awp_cond v_ (fun hc2 => ?_) (fun hc2 => ?_)
  · replace hc2 := nm_ hc2
    refine awp_skip ?_
    refine awp_seq ?_
    refine awp_block ?_
    refine awp_seq ?_
    obtain ⟨x, hxk⟩ := get_some (l := l) (k := k) (by omega)
    have hsx := hx x (List.mem_of_getElem? hxk)
    have hpl := hsx.place
    obtain ⟨y, hy, hah⟩ := pvK_prev Itm.place l k (by omega)
    have hst : upGo (fun x => placeOk x.place && objOk x.obj) Itm.place (pvK Itm.place l k) (l.drop k) = ((placeOk x.place && objOk x.obj) && aheadOk (pvK Itm.place l k) x.place && upGo (fun x => placeOk x.place && objOk x.obj) Itm.place (some x.place) (l.drop (k + 1))) := by rw [drop_cons hxk]; rfl
    have R := hxk
    refine awp_region (by kernel_rfl) ?_
    iterate 5 (refine aL_S rfl rfl v_ ?_)
    refine aL_alloc rfl rfl rfl g_ gl_ fun o4 ho4 => ?_
    repeat (rw [none_set_iff] at ho4; obtain ⟨_, ho4⟩ := ho4)
    refine aL_store rfl rfl rfl v_ v_ h_ g_ rfl g_ c_ (by rfl) le_ v_ ?_
    refine aL_nil ?_
    refine awp_seq ?_
    have R := hy
    refine awp_draw (.op 0 0 (.op 1 0 (.op 2 1 (.op 3 0 (.op 4 0 (.op 5 0 (.op 6 0 (.op 7 1 (.op 8 0 (.op 9 0 (.op 10 0 (.op 11 0 (.op 12 0 (.op 13 0 (.op 14 0 (.op 15 0 (.op 16 0 (.op 17 0 (.op 18 0 (.op 19 0 (.op 20 0 (.op 21 0 (.op 22 0 (.op 23 0 (.op 24 0 (.op 25 0 .nil)))))))))))))))))))))))))) Tryz.mixed (by kernel_rfl) ?_
    iterate 2 (refine dR_S o_ (by rfl) (by rfl) v_ ?_)
    refine dR_X o_ (by rfl) (by rfl) (AOp_use (by rfl) (by rfl) (.inr ⟨by rfl, by rfl, by rfl⟩) g_ va_ (rIsPlace_c (by omega)) ?_); rintro _ _ ⟨rfl, rfl⟩; refine ⟨sub_, ?_⟩
    iterate 2 (refine dR_S o_ (by rfl) (by rfl) v_ ?_)
    refine dR_GF o_ (by rfl) (by rfl) v_ (by rfl) vg_ ?_
    refine dR_GF o_ (by rfl) (by rfl) v_ (by rfl) vg_ ?_
    refine dR_GFX o_ (by rfl) (by rfl) v_ (by rfl) sub_ (fun hb => AOp_useV (by rfl) (by rfl) (.inr ⟨by rfl, by rfl, by rfl⟩) g_ cg_ (rMay07_c hsx.obj)) ?_
    refine dR_GF o_ (by rfl) (by rfl) v_ (by rfl) vg_ ?_
    iterate 2 (refine dR_S o_ (by rfl) (by rfl) v_ ?_)
    refine dR_GF o_ (by rfl) (by rfl) v_ (by rfl) vg_ ?_
    refine dR_GF o_ (by rfl) (by rfl) v_ (by rfl) vg_ ?_
    refine dR_GF o_ (by rfl) (by rfl) v_ (by rfl) vg_ ?_
    refine dR_GGT o_ (by rfl) (by rfl) v_ (by rfl) vg_ ?_
    refine dR_GGT o_ (by rfl) (by rfl) v_ (by rfl) vg_ ?_
    refine dR_GGT o_ (by rfl) (by rfl) v_ (by rfl) vg_ ?_
    refine dR_GGT o_ (by rfl) (by rfl) v_ (by rfl) vg_ ?_
    refine dR_GGT o_ (by rfl) (by rfl) v_ (by rfl) vg_ ?_
    refine dR_GGT o_ (by rfl) (by rfl) v_ (by rfl) vg_ ?_
    refine dR_GGT o_ (by rfl) (by rfl) v_ (by rfl) vg_ ?_
    refine dR_GGT o_ (by rfl) (by rfl) v_ (by rfl) vg_ ?_
    refine dR_GGT o_ (by rfl) (by rfl) v_ (by rfl) vg_ ?_
    refine dR_GGT o_ (by rfl) (by rfl) v_ (by rfl) vg_ ?_
    refine dR_GF o_ (by rfl) (by rfl) v_ (by rfl) vg_ ?_
    (refine dR_S o_ (by rfl) (by rfl) v_ ?_)
    refine dR_nil ?_
    refine awp_cond v_ (fun hc5 => ?_) (fun hc5 => ?_)
    · replace hc5 := nm_ hc5
      refine awp_seq ?_
      refine awp_region (by kernel_rfl) ?_
      (refine aL_S rfl rfl v_ ?_)
      refine aL_nil ?_
      refine awp_ret ?_
      refine aEnd_ret (σ' := σ) v_ sub_ ?_
      refine ⟨?_, rfl⟩
      rw [← hr, hst, up_no (hah _) (by rcases hc5 with (h | h) | h; exact .inl (by simp [h]); exact .inl (by simp [h]); exact .inr h)]
    · replace hc5 := nm_ hc5
      have hnx : upGo (fun x => placeOk x.place && objOk x.obj) Itm.place (pvK Itm.place l (k + 1)) (l.drop (k + 1)) = itemsOk l := by rw [pvK_next hxk, ← hr, hst, up_yes (hah _) ⟨by simp [hc5], hc5.2⟩]
      refine awp_skip ?_
      refine awp_region (by kernel_rfl) ?_
      iterate 3 (refine aL_S rfl rfl v_ ?_)
      refine aL_nil ?_
      refine aNext (ι := Nat) (i := k) (k + 1) ?_ ?_ ?_ ?_
      · omega
      · exact ⟨by omega, hnx⟩
      · exact cv_
      · exact sub_
  · replace hc2 := nm_ hc2
    refine awp_exit ?_
    refine aThen_exit ?_
    refine aThen_exit ?_
    refine aBlock_hit ?_
    refine awp_seq ?_
    refine awp_seq ?_
    refine awp_region (by kernel_rfl) ?_
    (refine aL_S rfl rfl v_ ?_)
    refine aL_nil ?_
    refine awp_block ?_
    refine awp_loop_env (ι := Nat) (fun j => 0 - j) (fun j => j = 0) (fun j => [(1, .ref o1 0), (5, vInt j)]) (fun j => (σ.set o1 (.cells [.sl 3 (l.map sItem) t, .lit (.slice none 0 0)]))) 0 ?_ ?_ ?_ ?_
    · rfl
    · exact cv_
    · exact Store.Wk.refl _
    rintro j hj
    simp only [envL_cons, envL_nil]
    refine awp_seq ?_
    refine awp_seq ?_
    refine awp_region (by kernel_rfl) ?_
    iterate 5 (refine aL_S rfl rfl v_ ?_)
    refine aL_nil ?_
    refine awp_cond v_ (fun hc8 => ?_) (fun hc8 => ?_)
    · replace hc8 := nm_ hc8
      subst hj; exact absurd hc8 (by decide)
    · replace hc8 := nm_ hc8
      refine awp_exit ?_
      refine aThen_exit ?_
      refine aThen_exit ?_
      refine aBlock_hit ?_
      refine awp_seq ?_
      refine awp_region (by kernel_rfl) ?_
      (refine aL_S rfl rfl v_ ?_)
      refine aL_nil ?_
      refine awp_ret ?_
      refine aEnd_ret (σ' := σ) v_ sub_ ?_
      refine ⟨?_, rfl⟩
      rw [← hr, List.drop_eq_nil_of_le (by omega)]; rfl
end Go.Proofs.YtbjloippgpilcaaGreat
end

section
set_option linter.all false
set_option maxRecDepth 100000
namespace Go.Proofs.YtbjloippgpilcaaGreat
open Go.Ab

def regOk (n : Int) (w v : ByteArray) : Bool := decide (1 ≤ n) && decide (n ≤ 9007199254740992) && (decide (w.size = 0) || nameOk w) && decide (v.size ≤ 256)
def entOk (x : Ent) : Bool := decide (1 ≤ x.key.size) && decide (x.key.size ≤ 128) && regOk x.n x.who x.value
def entsOk (l : List Ent) : Bool := decide (l.length ≤ 4096) && upGo entOk Ent.key none l
theorem ne0 (s : ByteArray) : s = ⟨#[]⟩ ↔ s.size = 0 := ⟨fun h => by rw [h]; rfl, fun h => by apply ByteArray.ext; exact Array.eq_empty_of_size_eq_zero h⟩
theorem regCheck_c {n : Int} {w v : ByteArray} {σ : Store} (hw : w.size ≤ 1000000) : ACalls Tryz.prog 113 [.agg [vInt n, vStr w, vStr v]] σ fun u σ' => u = vInt (if regOk n w v then 0 else 1) ∧ σ = σ' := by
  have hw0 := ne0 w
  refine ACalls_of Tryz.func113 rfl Tryz.ntmps113 (congrArg Array.toList Tryz.results113) (by simp only [List.length_cons, List.length_nil]; decide) ?_; simp only [envOf_cons, envOf_nil, Nat.reduceAdd]
  refine awp_seq ?_
  refine awp_region (by kernel_rfl) ?_
  refine aL_box rfl rfl rfl v_ rfl g_ fun o1 ho1 => ?_
  repeat (rw [none_set_iff] at ho1; obtain ⟨_, ho1⟩ := ho1)
  (refine aL_S rfl rfl v_ ?_)
  refine aL_nil ?_
  refine awp_seq ?_
  refine awp_seq ?_
  have R := hw0
  refine awp_region (by kernel_rfl) ?_
  iterate 4 (refine aL_S rfl rfl v_ ?_)
  refine aL_GF rfl rfl v_ rfl vg_ ?_
  refine aL_GF rfl rfl v_ rfl vg_ ?_
  refine aL_GF rfl rfl v_ rfl vg_ ?_
  iterate 2 (refine aL_S rfl rfl v_ ?_)
  refine aL_GF rfl rfl v_ rfl vg_ ?_
  refine aL_GF rfl rfl v_ rfl vg_ ?_
  refine aL_GF rfl rfl v_ rfl vg_ ?_
  refine aL_GF rfl rfl v_ rfl vg_ ?_
  refine aL_GGT rfl rfl v_ rfl vg_ ?_
  refine aL_GGT rfl rfl v_ rfl vg_ ?_
  refine aL_GGTX rfl rfl v_ rfl (fun hb => AOp_useV (by rfl) (by rfl) (.inr ⟨by rfl, by rfl, by rfl⟩) g_ cg_ (nameIs_c (by omega))) ?_
  refine aL_GGT rfl rfl v_ rfl vg_ ?_
  refine aL_GF rfl rfl v_ rfl vg_ ?_
  iterate 2 (refine aL_S rfl rfl v_ ?_)
  refine aL_GF rfl rfl v_ rfl vg_ ?_
  refine aL_GF rfl rfl v_ rfl vg_ ?_
  refine aL_GF rfl rfl v_ rfl vg_ ?_
  refine aL_GF rfl rfl v_ rfl vg_ ?_
  (refine aL_S rfl rfl v_ ?_)
  refine aL_nil ?_
  refine awp_cond v_ (fun hc1 => ?_) (fun hc1 => ?_)
  · replace hc1 := nm_ hc1
    refine awp_seq ?_
    refine awp_region (by kernel_rfl) ?_
    (refine aL_S rfl rfl v_ ?_)
    refine aL_nil ?_
    refine awp_ret ?_
    refine aEnd_ret (σ' := σ) v_ sub_ ?_
    refine ⟨?_, rfl⟩
    have : regOk n w v = false := by
      unfold regOk
      rcases hc1 with ((h | h) | h) | h
      · rw [decide_eq_false (show ¬ 1 ≤ n by omega)]; rfl
      · rw [decide_eq_false (show ¬ n ≤ 9007199254740992 by omega)]; simp
      · rw [decide_eq_false (show ¬ w.size = 0 by omega), h.2]; simp
      · rw [decide_eq_false (show ¬ v.size ≤ 256 by omega)]; simp
    rw [this]; rfl
  · replace hc1 := nm_ hc1
    refine awp_skip ?_
    refine awp_seq ?_
    refine awp_region (by kernel_rfl) ?_
    (refine aL_S rfl rfl v_ ?_)
    refine aL_nil ?_
    refine awp_ret ?_
    refine aEnd_ret (σ' := σ) v_ sub_ ?_
    refine ⟨?_, rfl⟩
    have : regOk n w v = true := by
      unfold regOk
      obtain ⟨⟨⟨h1, h2⟩, h3⟩, h4⟩ := hc1
      rw [decide_eq_true (show 1 ≤ n by omega), decide_eq_true (show n ≤ 9007199254740992 by omega), decide_eq_true (show v.size ≤ 256 by omega)]
      rcases h3 with h | h
      · rw [decide_eq_true (show w.size = 0 by omega)]; rfl
      · rw [h]; simp
    rw [this]; rfl
theorem isEntry_c {x : Ent} {σ : Store} (hx : EntSm x) : ACalls Tryz.prog 79 [sEnt x] σ fun u σ' => u = vB (entOk x) ∧ σ = σ' := by
  have h1 := hx.key; have h2 := hx.who
  have hk0 := ne0 x.key
  refine ACalls_of Tryz.func79 rfl Tryz.ntmps79 (congrArg Array.toList Tryz.results79) (by simp only [List.length_cons, List.length_nil]; decide) ?_; simp only [envOf_cons, envOf_nil, Nat.reduceAdd]
  refine awp_seq ?_
  refine awp_region (by kernel_rfl) ?_
  refine aL_box rfl rfl rfl v_ rfl g_ fun o1 ho1 => ?_
  repeat (rw [none_set_iff] at ho1; obtain ⟨_, ho1⟩ := ho1)
  (refine aL_S rfl rfl v_ ?_)
  refine aL_nil ?_
  refine awp_seq ?_
  have R := hk0
  refine awp_region (by kernel_rfl) ?_
  iterate 4 (refine aL_S rfl rfl v_ ?_)
  refine aL_GT rfl rfl v_ rfl vg_ ?_
  refine aL_GT rfl rfl v_ rfl vg_ ?_
  refine aL_GT rfl rfl v_ rfl vg_ ?_
  refine aL_GT rfl rfl v_ rfl vg_ ?_
  iterate 2 (refine aL_S rfl rfl v_ ?_)
  refine aL_GT rfl rfl v_ rfl vg_ ?_
  refine aL_GT rfl rfl v_ rfl vg_ ?_
  refine aL_GTX rfl rfl v_ rfl (fun hb => AOp_useV (by rfl) (by rfl) (.inr ⟨by rfl, by rfl, by rfl⟩) g_ cg_ (regCheck_c (by omega))) ?_
  refine aL_GT rfl rfl v_ rfl vg_ ?_
  iterate 2 (refine aL_S rfl rfl v_ ?_)
  refine aL_nil ?_
  refine awp_ret ?_
  refine aEnd_ret (σ' := σ) v_ sub_ ?_
  refine ⟨?_, rfl⟩
  unfold entOk
  by_cases q1 : x.key.size = 0 <;> by_cases q2 : x.key.size ≤ 128 <;> cases regOk x.n x.who x.value <;> simp [q1, q2, hk0] <;> omega
theorem rRegMay_c {n : Int} {w v : ByteArray} {σ : Store} (hw : w.size ≤ 1000000) : ACalls Tryz.prog 117 [.agg [vInt n, vStr w, vStr v]] σ fun u σ' => u = vB (regOk n w v) ∧ σ = σ' := by
  have hw0 := ne0 w
  refine ACalls_of Tryz.func117 rfl Tryz.ntmps117 (congrArg Array.toList Tryz.results117) (by simp only [List.length_cons, List.length_nil]; decide) ?_; simp only [envOf_cons, envOf_nil, Nat.reduceAdd]
  refine awp_seq ?_
  refine awp_region (by kernel_rfl) ?_
  refine aL_box rfl rfl rfl v_ rfl g_ fun o1 ho1 => ?_
  repeat (rw [none_set_iff] at ho1; obtain ⟨_, ho1⟩ := ho1)
  (refine aL_S rfl rfl v_ ?_)
  refine aL_nil ?_
  refine awp_seq ?_
  have R := hw0
  refine awp_region (by kernel_rfl) ?_
  iterate 4 (refine aL_S rfl rfl v_ ?_)
  refine aL_GT rfl rfl v_ rfl vg_ ?_
  refine aL_GT rfl rfl v_ rfl vg_ ?_
  refine aL_GT rfl rfl v_ rfl vg_ ?_
  iterate 2 (refine aL_S rfl rfl v_ ?_)
  refine aL_GT rfl rfl v_ rfl vg_ ?_
  refine aL_GT rfl rfl v_ rfl vg_ ?_
  refine aL_GT rfl rfl v_ rfl vg_ ?_
  refine aL_GT rfl rfl v_ rfl vg_ ?_
  refine aL_GGF rfl rfl v_ rfl vg_ ?_
  refine aL_GGF rfl rfl v_ rfl vg_ ?_
  refine aL_GGFX rfl rfl v_ rfl (fun hb => AOp_useV (by rfl) (by rfl) (.inr ⟨by rfl, by rfl, by rfl⟩) g_ cg_ (rIs_c (by omega))) ?_
  refine aL_GT rfl rfl v_ rfl vg_ ?_
  iterate 2 (refine aL_S rfl rfl v_ ?_)
  refine aL_GT rfl rfl v_ rfl vg_ ?_
  refine aL_GT rfl rfl v_ rfl vg_ ?_
  refine aL_GT rfl rfl v_ rfl vg_ ?_
  refine aL_GT rfl rfl v_ rfl vg_ ?_
  iterate 2 (refine aL_S rfl rfl v_ ?_)
  refine aL_nil ?_
  refine awp_ret ?_
  refine aEnd_ret (σ' := σ) v_ sub_ ?_
  refine ⟨?_, rfl⟩
  unfold regOk
  by_cases q1 : 1 ≤ n <;> by_cases q2 : n ≤ 9007199254740992 <;> by_cases q3 : w.size = 0 <;> by_cases q4 : v.size ≤ 256 <;> cases nameOk w <;> simp [q1, q2, q3, q4, hw0] <;> omega
theorem rIsEntry_c {x : Ent} {σ : Store} (hx : EntSm x) : ACalls Tryz.prog 85 [sEnt x] σ fun u σ' => u = vB (entOk x) ∧ σ = σ' := by
  have h1 := hx.key; have h2 := hx.who
  refine ACalls_of Tryz.func85 rfl Tryz.ntmps85 (congrArg Array.toList Tryz.results85) (by simp only [List.length_cons, List.length_nil]; decide) ?_; simp only [envOf_cons, envOf_nil, Nat.reduceAdd]
  refine awp_seq ?_
  refine awp_region (by kernel_rfl) ?_
  refine aL_box rfl rfl rfl v_ rfl g_ fun o1 ho1 => ?_
  repeat (rw [none_set_iff] at ho1; obtain ⟨_, ho1⟩ := ho1)
  (refine aL_S rfl rfl v_ ?_)
  refine aL_nil ?_
  refine awp_seq ?_
  refine awp_region (by kernel_rfl) ?_
  iterate 5 (refine aL_S rfl rfl v_ ?_)
  refine aL_GT rfl rfl v_ rfl vg_ ?_
  refine aL_GT rfl rfl v_ rfl vg_ ?_
  refine aL_GT rfl rfl v_ rfl vg_ ?_
  refine aL_GT rfl rfl v_ rfl vg_ ?_
  iterate 2 (refine aL_S rfl rfl v_ ?_)
  refine aL_GT rfl rfl v_ rfl vg_ ?_
  refine aL_GT rfl rfl v_ rfl vg_ ?_
  refine aL_GTX rfl rfl v_ rfl (fun hb => AOp_useV (by rfl) (by rfl) (.inr ⟨by rfl, by rfl, by rfl⟩) g_ cg_ (rRegMay_c (by omega))) ?_
  iterate 2 (refine aL_S rfl rfl v_ ?_)
  refine aL_nil ?_
  refine awp_ret ?_
  refine aEnd_ret (σ' := σ) v_ sub_ ?_
  refine ⟨?_, rfl⟩
  unfold entOk
  by_cases q1 : 1 ≤ x.key.size <;> by_cases q2 : x.key.size ≤ 128 <;> cases regOk x.n x.who x.value <;> simp [q1, q2] <;> omega
theorem entsCheck_c {l : List Ent} {t : Bool} {σ : Store} (hx : ∀ x ∈ l, EntSm x) (hn : l.length ≤ 1000000) : ACalls Tryz.prog 40 [.sl 4 (l.map sEnt) t] σ fun v σ' => v = vInt (if entsOk l then 0 else 1) ∧ σ = σ' := by
  refine ACalls_of Tryz.func40 rfl Tryz.ntmps40 (congrArg Array.toList Tryz.results40) (by simp only [List.length_cons, List.length_nil]; decide) ?_; simp only [envOf_cons, envOf_nil, Nat.reduceAdd]
  refine awp_seq ?_
  refine awp_region (by kernel_rfl) ?_
  (refine aL_S rfl rfl v_ ?_)
  refine aL_nil ?_
  refine awp_seq ?_
  refine awp_seq ?_
  refine awp_region (by kernel_rfl) ?_
  iterate 3 (refine aL_S rfl rfl v_ ?_)
  refine aL_nil ?_
  refine awp_cond v_ (fun hc1 => ?_) (fun hc1 => ?_)
  · replace hc1 := nm_ hc1
    refine awp_seq ?_
    refine awp_region (by kernel_rfl) ?_
    (refine aL_S rfl rfl v_ ?_)
    refine aL_nil ?_
    refine awp_ret ?_
    refine aEnd_ret (σ' := σ) v_ sub_ ?_
    refine ⟨?_, rfl⟩
    rw [entsOk, decide_eq_false (by omega)]; rfl
  · replace hc1 := nm_ hc1
    have hln : decide (l.length ≤ 4096) = true := decide_eq_true (by omega)
    refine awp_skip ?_
    refine awp_seq ?_
    refine awp_seq ?_
    refine awp_region (by kernel_rfl) ?_
    iterate 3 (refine aL_S rfl rfl v_ ?_)
    refine aL_nil ?_
    refine awp_block ?_
    refine awp_loop_env (ι := Nat) (fun k => l.length - k) (fun k => k ≤ l.length ∧ upGo entOk Ent.key (pvK Ent.key l k) (l.drop k) = upGo entOk Ent.key none l) (fun k => [(0, .sl 4 (l.map sEnt) t), (8, .sl 4 (l.map sEnt) t), (9, vInt l.length), (10, vInt k)]) (fun k => σ) 0 ?_ ?_ ?_ ?_
    · exact ⟨Nat.zero_le _, rfl⟩
    · exact cv_
    · exact sub_
    rintro k ⟨hk, hr⟩
    simp only [envL_cons, envL_nil]
    refine awp_seq ?_
    refine awp_region (by kernel_rfl) ?_
    (refine aL_S rfl rfl v_ ?_)
    refine aL_nil ?_
    refine awp_seq ?_
    refine awp_cond v_ (fun hc4 => ?_) (fun hc4 => ?_)
    · replace hc4 := nm_ hc4
      refine awp_skip ?_
      refine awp_seq ?_
      refine awp_block ?_
      refine awp_seq ?_
      obtain ⟨x, hxk⟩ := get_some (l := l) (k := k) (by omega)
      have hsx := hx x (List.mem_of_getElem? hxk)
      obtain ⟨y, hy, hah⟩ := pvK_prev Ent.key l k (by omega)
      have hst : upGo entOk Ent.key (pvK Ent.key l k) (l.drop k) = (entOk x && aheadOk (pvK Ent.key l k) x.key && upGo entOk Ent.key (some x.key) (l.drop (k + 1))) := by rw [drop_cons hxk]; rfl
      have R := hxk
      refine awp_region (by kernel_rfl) ?_
      iterate 3 (refine aL_S rfl rfl v_ ?_)
      refine aL_alloc rfl rfl rfl g_ gl_ fun o4 ho4 => ?_
      repeat (rw [none_set_iff] at ho4; obtain ⟨_, ho4⟩ := ho4)
      (refine aL_S rfl rfl v_ ?_)
      refine aL_store rfl rfl rfl v_ v_ h_ g_ rfl g_ c_ (by rfl) le_ v_ ?_
      refine aL_nil ?_
      refine awp_seq ?_
      have R := hy
      refine awp_draw (.op 0 0 (.op 1 1 (.op 2 0 (.op 3 0 (.op 4 0 (.op 5 0 (.op 6 0 (.op 7 0 (.op 8 0 (.op 9 0 (.op 10 0 (.op 11 0 (.op 12 0 (.op 13 0 (.op 14 0 (.op 15 0 (.op 16 0 (.op 17 0 .nil)))))))))))))))))) Tryz.mixed (by kernel_rfl) ?_
      (refine dR_S o_ (by rfl) (by rfl) v_ ?_)
      refine dR_X o_ (by rfl) (by rfl) (AOp_use (by rfl) (by rfl) (.inr ⟨by rfl, by rfl, by rfl⟩) g_ va_ (isEntry_c hsx) ?_); rintro _ _ ⟨rfl, rfl⟩; refine ⟨sub_, ?_⟩
      iterate 2 (refine dR_S o_ (by rfl) (by rfl) v_ ?_)
      refine dR_GF o_ (by rfl) (by rfl) v_ (by rfl) vg_ ?_
      refine dR_GF o_ (by rfl) (by rfl) v_ (by rfl) vg_ ?_
      refine dR_GF o_ (by rfl) (by rfl) v_ (by rfl) vg_ ?_
      refine dR_GGT o_ (by rfl) (by rfl) v_ (by rfl) vg_ ?_
      refine dR_GGT o_ (by rfl) (by rfl) v_ (by rfl) vg_ ?_
      refine dR_GGT o_ (by rfl) (by rfl) v_ (by rfl) vg_ ?_
      refine dR_GGT o_ (by rfl) (by rfl) v_ (by rfl) vg_ ?_
      refine dR_GGT o_ (by rfl) (by rfl) v_ (by rfl) vg_ ?_
      refine dR_GGT o_ (by rfl) (by rfl) v_ (by rfl) vg_ ?_
      refine dR_GGT o_ (by rfl) (by rfl) v_ (by rfl) vg_ ?_
      refine dR_GGT o_ (by rfl) (by rfl) v_ (by rfl) vg_ ?_
      refine dR_GGT o_ (by rfl) (by rfl) v_ (by rfl) vg_ ?_
      refine dR_GF o_ (by rfl) (by rfl) v_ (by rfl) vg_ ?_
      (refine dR_S o_ (by rfl) (by rfl) v_ ?_)
      refine dR_nil ?_
      refine awp_cond v_ (fun hc6 => ?_) (fun hc6 => ?_)
      · replace hc6 := nm_ hc6
        refine awp_seq ?_
        refine awp_region (by kernel_rfl) ?_
        (refine aL_S rfl rfl v_ ?_)
        refine aL_nil ?_
        refine awp_ret ?_
        refine aEnd_ret (σ' := σ) v_ sub_ ?_
        refine ⟨?_, rfl⟩
        rw [entsOk, ← hr, hst, up_no (hah _) hc6, Bool.and_false]; rfl
      · replace hc6 := nm_ hc6
        have hnx : upGo entOk Ent.key (pvK Ent.key l (k + 1)) (l.drop (k + 1)) = upGo entOk Ent.key none l := by rw [pvK_next hxk, ← hr, hst, up_yes (hah _) hc6]
        refine awp_skip ?_
        refine awp_region (by kernel_rfl) ?_
        iterate 2 (refine aL_S rfl rfl v_ ?_)
        refine aL_nil ?_
        refine aNext (ι := Nat) (i := k) (k + 1) ?_ ?_ ?_ ?_
        · omega
        · exact ⟨by omega, hnx⟩
        · exact cv_
        · exact sub_
    · replace hc4 := nm_ hc4
      refine awp_exit ?_
      refine aThen_exit ?_
      refine aThen_exit ?_
      refine aBlock_hit ?_
      refine awp_seq ?_
      refine awp_region (by kernel_rfl) ?_
      (refine aL_S rfl rfl v_ ?_)
      refine aL_nil ?_
      refine awp_ret ?_
      refine aEnd_ret (σ' := σ) v_ sub_ ?_
      refine ⟨?_, rfl⟩
      rw [entsOk, hln, ← hr, List.drop_eq_nil_of_le (by omega)]; rfl
theorem rMay10_c {l : List Ent} {t : Bool} {σ : Store} (hx : ∀ x ∈ l, EntSm x) (hn : l.length ≤ 1000000) : ACalls Tryz.prog 44 [.sl 4 (l.map sEnt) t] σ fun v σ' => v = vB (entsOk l) ∧ σ = σ' := by
  refine ACalls_of Tryz.func44 rfl Tryz.ntmps44 (congrArg Array.toList Tryz.results44) (by simp only [List.length_cons, List.length_nil]; decide) ?_; simp only [envOf_cons, envOf_nil, Nat.reduceAdd]
  refine awp_seq ?_
  refine awp_region (by kernel_rfl) ?_
  (refine aL_S rfl rfl v_ ?_)
  refine aL_nil ?_
  refine awp_seq ?_
  refine awp_seq ?_
  refine awp_region (by kernel_rfl) ?_
  iterate 3 (refine aL_S rfl rfl v_ ?_)
  refine aL_nil ?_
  refine awp_cond v_ (fun hc1 => ?_) (fun hc1 => ?_)
  · replace hc1 := nm_ hc1
    refine awp_seq ?_
    refine awp_region (by kernel_rfl) ?_
    (refine aL_S rfl rfl v_ ?_)
    refine aL_nil ?_
    refine awp_ret ?_
    refine aEnd_ret (σ' := σ) v_ sub_ ?_
    refine ⟨?_, rfl⟩
    rw [entsOk, decide_eq_false (by omega)]; rfl
  · replace hc1 := nm_ hc1
    have hln : decide (l.length ≤ 4096) = true := decide_eq_true (by omega)
    refine awp_skip ?_
    refine awp_seq ?_
    refine awp_seq ?_
    refine awp_region (by kernel_rfl) ?_
    (refine aL_S rfl rfl v_ ?_)
    refine aL_nil ?_
    refine awp_block ?_
    refine awp_loop_env (ι := Nat) (fun k => l.length - k) (fun k => k ≤ l.length ∧ upGo entOk Ent.key (pvK Ent.key l k) (l.drop k) = upGo entOk Ent.key none l) (fun k => [(0, .sl 4 (l.map sEnt) t), (3, vInt k)]) (fun k => σ) 0 ?_ ?_ ?_ ?_
    · exact ⟨Nat.zero_le _, rfl⟩
    · exact cv_
    · exact sub_
    rintro k ⟨hk, hr⟩
    simp only [envL_cons, envL_nil]
    refine awp_seq ?_
    refine awp_seq ?_
    refine awp_region (by kernel_rfl) ?_
    iterate 4 (refine aL_S rfl rfl v_ ?_)
    refine aL_nil ?_
    refine awp_cond v_ (fun hc4 => ?_) (fun hc4 => ?_)
    · replace hc4 := nm_ hc4
      refine awp_skip ?_
      refine awp_seq ?_
      refine awp_block ?_
      refine awp_seq ?_
      obtain ⟨x, hxk⟩ := get_some (l := l) (k := k) (by omega)
      have hsx := hx x (List.mem_of_getElem? hxk)
      obtain ⟨y, hy, hah⟩ := pvK_prev Ent.key l k (by omega)
      have hst : upGo entOk Ent.key (pvK Ent.key l k) (l.drop k) = (entOk x && aheadOk (pvK Ent.key l k) x.key && upGo entOk Ent.key (some x.key) (l.drop (k + 1))) := by rw [drop_cons hxk]; rfl
      have R := And.intro hxk hy
      refine awp_draw (.op 0 0 (.op 1 0 (.op 2 0 (.op 3 0 (.op 4 1 (.op 5 0 (.op 6 0 (.op 7 0 (.op 8 0 (.op 9 0 (.op 10 0 (.op 11 0 (.op 12 0 (.op 13 0 (.op 14 0 (.op 15 0 (.op 16 0 (.op 17 0 (.op 18 0 (.op 19 0 (.op 20 0 (.op 21 0 (.op 22 0 (.op 23 0 .nil)))))))))))))))))))))))) Tryz.mixed (by kernel_rfl) ?_
      iterate 4 (refine dR_S o_ (by rfl) (by rfl) v_ ?_)
      refine dR_X o_ (by rfl) (by rfl) (AOp_use (by rfl) (by rfl) (.inr ⟨by rfl, by rfl, by rfl⟩) g_ va_ (rIsEntry_c hsx) ?_); rintro _ _ ⟨rfl, rfl⟩; refine ⟨sub_, ?_⟩
      iterate 2 (refine dR_S o_ (by rfl) (by rfl) v_ ?_)
      refine dR_GF o_ (by rfl) (by rfl) v_ (by rfl) vg_ ?_
      refine dR_GF o_ (by rfl) (by rfl) v_ (by rfl) vg_ ?_
      refine dR_GF o_ (by rfl) (by rfl) v_ (by rfl) vg_ ?_
      refine dR_GGT o_ (by rfl) (by rfl) v_ (by rfl) vg_ ?_
      refine dR_GGT o_ (by rfl) (by rfl) v_ (by rfl) vg_ ?_
      refine dR_GGT o_ (by rfl) (by rfl) v_ (by rfl) vg_ ?_
      refine dR_GGT o_ (by rfl) (by rfl) v_ (by rfl) vg_ ?_
      refine dR_GGT o_ (by rfl) (by rfl) v_ (by rfl) vg_ ?_
      refine dR_GGT o_ (by rfl) (by rfl) v_ (by rfl) vg_ ?_
      refine dR_GGT o_ (by rfl) (by rfl) v_ (by rfl) vg_ ?_
      refine dR_GGT o_ (by rfl) (by rfl) v_ (by rfl) vg_ ?_
      refine dR_GGT o_ (by rfl) (by rfl) v_ (by rfl) vg_ ?_
      refine dR_GGT o_ (by rfl) (by rfl) v_ (by rfl) vg_ ?_
      refine dR_GGT o_ (by rfl) (by rfl) v_ (by rfl) vg_ ?_
      refine dR_GGT o_ (by rfl) (by rfl) v_ (by rfl) vg_ ?_
      refine dR_GF o_ (by rfl) (by rfl) v_ (by rfl) vg_ ?_
      (refine dR_S o_ (by rfl) (by rfl) v_ ?_)
      refine dR_nil ?_
      refine awp_cond v_ (fun hc6 => ?_) (fun hc6 => ?_)
      · replace hc6 := nm_ hc6
        refine awp_seq ?_
        refine awp_region (by kernel_rfl) ?_
        (refine aL_S rfl rfl v_ ?_)
        refine aL_nil ?_
        refine awp_ret ?_
        refine aEnd_ret (σ' := σ) v_ sub_ ?_
        refine ⟨?_, rfl⟩
        rw [entsOk, ← hr, hst, up_no (hah _) hc6, Bool.and_false]
      · replace hc6 := nm_ hc6
        have hnx : upGo entOk Ent.key (pvK Ent.key l (k + 1)) (l.drop (k + 1)) = upGo entOk Ent.key none l := by rw [pvK_next hxk, ← hr, hst, up_yes (hah _) hc6]
        refine awp_skip ?_
        refine awp_region (by kernel_rfl) ?_
        iterate 3 (refine aL_S rfl rfl v_ ?_)
        refine aL_nil ?_
        refine aNext (ι := Nat) (i := k) (k + 1) ?_ ?_ ?_ ?_
        · omega
        · exact ⟨by omega, hnx⟩
        · exact cv_
        · exact sub_
    · replace hc4 := nm_ hc4
      refine awp_exit ?_
      refine aThen_exit ?_
      refine aThen_exit ?_
      refine aBlock_hit ?_
      refine awp_seq ?_
      refine awp_region (by kernel_rfl) ?_
      (refine aL_S rfl rfl v_ ?_)
      refine aL_nil ?_
      refine awp_ret ?_
      refine aEnd_ret (σ' := σ) v_ sub_ ?_
      refine ⟨?_, rfl⟩
      rw [entsOk, hln, ← hr, List.drop_eq_nil_of_le (by omega)]; rfl
end Go.Proofs.YtbjloippgpilcaaGreat
end

section
set_option linter.all false
set_option maxRecDepth 100000
namespace Go.Proofs.YtbjloippgpilcaaGreat
open Go.Ab

def headOk (m : Msg) : Bool := decide (1 ≤ m.kind) && decide (m.kind ≤ 14) && decide (0 ≤ m.num) && decide (0 ≤ m.err) && decide (m.err ≤ 15)
def msgOk (m : Msg) : Bool := headOk m && nameOk m.frm && nameOk m.to && objOk m.obj && itemsOk m.items && entsOk m.ents
theorem rMay32_c {m : Msg} {σ : Store} (hm : MsgSm m) : ACalls Tryz.prog 11 [sMsg m] σ fun v σ' => v = vB (msgOk m) ∧ σ = σ' := by
  have h1 := hm.frm; have h2 := hm.to; have h3 := hm.ni; have h4 := hm.ne
  refine ACalls_of Tryz.func11 rfl Tryz.ntmps11 (congrArg Array.toList Tryz.results11) (by simp only [List.length_cons, List.length_nil]; decide) ?_; simp only [envOf_cons, envOf_nil, Nat.reduceAdd]
  refine awp_seq ?_
  refine awp_region (by kernel_rfl) ?_
  refine aL_box rfl rfl rfl v_ rfl g_ fun o1 ho1 => ?_
  repeat (rw [none_set_iff] at ho1; obtain ⟨_, ho1⟩ := ho1)
  (refine aL_S rfl rfl v_ ?_)
  refine aL_nil ?_
  refine awp_seq ?_
  refine awp_region (by kernel_rfl) ?_
  iterate 4 (refine aL_S rfl rfl v_ ?_)
  refine aL_GT rfl rfl v_ rfl vg_ ?_
  refine aL_GT rfl rfl v_ rfl vg_ ?_
  refine aL_GT rfl rfl v_ rfl vg_ ?_
  iterate 2 (refine aL_S rfl rfl v_ ?_)
  refine aL_GT rfl rfl v_ rfl vg_ ?_
  refine aL_GT rfl rfl v_ rfl vg_ ?_
  refine aL_GTX rfl rfl v_ rfl (fun hb => AOp_useV (by rfl) (by rfl) (.inr ⟨by rfl, by rfl, by rfl⟩) g_ cg_ (rIs_c (by omega))) ?_
  iterate 2 (refine aL_S rfl rfl v_ ?_)
  refine aL_GT rfl rfl v_ rfl vg_ ?_
  refine aL_GT rfl rfl v_ rfl vg_ ?_
  refine aL_GTX rfl rfl v_ rfl (fun hb => AOp_useV (by rfl) (by rfl) (.inr ⟨by rfl, by rfl, by rfl⟩) g_ cg_ (rIs_c (by omega))) ?_
  iterate 2 (refine aL_S rfl rfl v_ ?_)
  refine aL_GT rfl rfl v_ rfl vg_ ?_
  refine aL_GT rfl rfl v_ rfl vg_ ?_
  refine aL_GT rfl rfl v_ rfl vg_ ?_
  iterate 2 (refine aL_S rfl rfl v_ ?_)
  refine aL_GT rfl rfl v_ rfl vg_ ?_
  refine aL_GT rfl rfl v_ rfl vg_ ?_
  refine aL_GT rfl rfl v_ rfl vg_ ?_
  iterate 2 (refine aL_S rfl rfl v_ ?_)
  refine aL_GT rfl rfl v_ rfl vg_ ?_
  refine aL_GT rfl rfl v_ rfl vg_ ?_
  refine aL_GT rfl rfl v_ rfl vg_ ?_
  iterate 2 (refine aL_S rfl rfl v_ ?_)
  refine aL_GT rfl rfl v_ rfl vg_ ?_
  refine aL_GT rfl rfl v_ rfl vg_ ?_
  refine aL_GTX rfl rfl v_ rfl (fun hb => AOp_useV (by rfl) (by rfl) (.inr ⟨by rfl, by rfl, by rfl⟩) g_ cg_ (rMay07_c hm.obj)) ?_
  iterate 2 (refine aL_S rfl rfl v_ ?_)
  refine aL_GT rfl rfl v_ rfl vg_ ?_
  refine aL_GT rfl rfl v_ rfl vg_ ?_
  refine aL_GT rfl rfl v_ rfl vg_ ?_
  refine aL_GTX rfl rfl v_ rfl (fun hb => AOp_useV (by rfl) (by rfl) (.inr ⟨by rfl, by rfl, by rfl⟩) g_ cg_ (rMay27_c hm.items (by omega))) ?_
  iterate 2 (refine aL_S rfl rfl v_ ?_)
  refine aL_GT rfl rfl v_ rfl vg_ ?_
  refine aL_GT rfl rfl v_ rfl vg_ ?_
  refine aL_GTX rfl rfl v_ rfl (fun hb => AOp_useV (by rfl) (by rfl) (.inr ⟨by rfl, by rfl, by rfl⟩) g_ cg_ (rMay10_c hm.ents (by omega))) ?_
  iterate 2 (refine aL_S rfl rfl v_ ?_)
  refine aL_nil ?_
  refine awp_ret ?_
  refine aEnd_ret (σ' := σ) v_ sub_ ?_
  refine ⟨?_, rfl⟩
  unfold msgOk headOk
  by_cases q1 : 1 ≤ m.kind <;> by_cases q2 : m.kind ≤ 14 <;> by_cases q3 : 0 ≤ m.num <;> by_cases q4 : 0 ≤ m.err <;> by_cases q5 : m.err ≤ 15 <;> cases nameOk m.frm <;> cases nameOk m.to <;> simp [q1, q2, q3, q4, q5]
theorem rCheck32_c {m : Msg} {σ : Store} (hm : MsgSm m) : ACalls Tryz.prog 9 [sMsg m] σ fun v σ' => v = vInt (if msgOk m then 0 else 1) ∧ σ = σ' := by
  refine ACalls_of Tryz.func9 rfl Tryz.ntmps9 (congrArg Array.toList Tryz.results9) (by simp only [List.length_cons, List.length_nil]; decide) ?_; simp only [envOf_cons, envOf_nil, Nat.reduceAdd]
  refine awp_seq ?_
  refine awp_region (by kernel_rfl) ?_
  refine aL_box rfl rfl rfl v_ rfl g_ fun o1 ho1 => ?_
  repeat (rw [none_set_iff] at ho1; obtain ⟨_, ho1⟩ := ho1)
  (refine aL_S rfl rfl v_ ?_)
  refine aL_nil ?_
  refine awp_seq ?_
  refine awp_seq ?_
  refine awp_region (by kernel_rfl) ?_
  (refine aL_S rfl rfl v_ ?_)
  refine aL_X rfl rfl (AOp_use rfl rfl (.inr ⟨rfl, rfl, rfl⟩) g_ va_ (rMay32_c hm) ?_); rintro _ _ ⟨rfl, rfl⟩
  (refine aL_S rfl rfl v_ ?_)
  refine aL_nil ?_
  refine awp_cond v_ (fun hc1 => ?_) (fun hc1 => ?_)
  · replace hc1 := nm_ hc1
    refine awp_seq ?_
    refine awp_region (by kernel_rfl) ?_
    (refine aL_S rfl rfl v_ ?_)
    refine aL_nil ?_
    refine awp_ret ?_
    refine aEnd_ret (σ' := σ) v_ sub_ ?_
    exact ⟨by simp [hc1], rfl⟩
  · replace hc1 := nm_ hc1
    refine awp_skip ?_
    refine awp_seq ?_
    refine awp_region (by kernel_rfl) ?_
    (refine aL_S rfl rfl v_ ?_)
    refine aL_nil ?_
    refine awp_ret ?_
    refine aEnd_ret (σ' := σ) v_ sub_ ?_
    exact ⟨by simp [hc1], rfl⟩
theorem chk1 {b : Bool} : (¬ (if b = true then 0 else 1 : Int) = 0) ↔ b = false := by cases b <;> simp
theorem headNo {m : Msg} (h : (((m.kind < 1 ∨ 14 < m.kind) ∨ m.num < 0) ∨ m.err < 0) ∨ 15 < m.err) : headOk m = false := by
  cases e : headOk m with
  | false => rfl
  | true =>
    simp only [headOk, Bool.and_eq_true, decide_eq_true_eq] at e
    omega
theorem headYes {m : Msg} (h : (((1 ≤ m.kind ∧ m.kind ≤ 14) ∧ 0 ≤ m.num) ∧ 0 ≤ m.err) ∧ m.err ≤ 15) : headOk m = true := by
  simp only [headOk, Bool.and_eq_true, decide_eq_true_eq]
  omega
theorem mCheck_c {m : Msg} {σ : Store} (hm : MsgSm m) : ACalls Tryz.prog 8 [sMsg m] σ fun v σ' => v = vInt (if msgOk m then 0 else 1) ∧ σ = σ' := by
  have h1 := hm.frm; have h2 := hm.to; have h3 := hm.ni; have h4 := hm.ne
  refine ACalls_of Tryz.func8 rfl Tryz.ntmps8 (congrArg Array.toList Tryz.results8) (by simp only [List.length_cons, List.length_nil]; decide) ?_; simp only [envOf_cons, envOf_nil, Nat.reduceAdd]
  refine awp_seq ?_
  refine awp_region (by kernel_rfl) ?_
  refine aL_box rfl rfl rfl v_ rfl g_ fun o1 ho1 => ?_
  repeat (rw [none_set_iff] at ho1; obtain ⟨_, ho1⟩ := ho1)
  (refine aL_S rfl rfl v_ ?_)
  refine aL_nil ?_
  refine awp_seq ?_
  refine awp_region (by kernel_rfl) ?_
  iterate 4 (refine aL_S rfl rfl v_ ?_)
  refine aL_GT rfl rfl v_ rfl vg_ ?_
  refine aL_GT rfl rfl v_ rfl vg_ ?_
  refine aL_GT rfl rfl v_ rfl vg_ ?_
  iterate 2 (refine aL_S rfl rfl v_ ?_)
  refine aL_GT rfl rfl v_ rfl vg_ ?_
  refine aL_GT rfl rfl v_ rfl vg_ ?_
  refine aL_GT rfl rfl v_ rfl vg_ ?_
  iterate 2 (refine aL_S rfl rfl v_ ?_)
  refine aL_GT rfl rfl v_ rfl vg_ ?_
  refine aL_GT rfl rfl v_ rfl vg_ ?_
  refine aL_GT rfl rfl v_ rfl vg_ ?_
  iterate 2 (refine aL_S rfl rfl v_ ?_)
  refine aL_GT rfl rfl v_ rfl vg_ ?_
  refine aL_GT rfl rfl v_ rfl vg_ ?_
  refine aL_GT rfl rfl v_ rfl vg_ ?_
  iterate 2 (refine aL_S rfl rfl v_ ?_)
  refine aL_nil ?_
  refine awp_seq ?_
  refine awp_block ?_
  refine awp_seq ?_
  refine awp_seq ?_
  refine awp_region (by kernel_rfl) ?_
  iterate 3 (refine aL_S rfl rfl v_ ?_)
  refine aL_nil ?_
  refine awp_cond v_ (fun hc2 => ?_) (fun hc2 => ?_)
  · replace hc2 := nm_ hc2
    refine awp_skip ?_
    refine awp_cond v_ (fun hc2 => ?_) (fun hc2 => ?_)
    · replace hc2 := nm_ hc2
      refine awp_seq ?_
      refine awp_region (by kernel_rfl) ?_
      (refine aL_S rfl rfl v_ ?_)
      refine aL_nil ?_
      refine awp_ret ?_
      refine aEnd_ret (σ' := σ) v_ sub_ ?_
      first
      | exact ⟨by rw [msgOk, headNo hc2]; rfl, rfl⟩
      | exact ⟨by rw [msgOk, headYes hc2, hc3]; rfl, rfl⟩
      | exact ⟨by rw [msgOk, headYes hc2, hc3, hc4]; rfl, rfl⟩
      | exact ⟨by rw [msgOk, headYes hc2, hc3, hc4, chk1.1 hc6]; rfl, rfl⟩
      | exact ⟨by rw [msgOk, headYes hc2, hc3, hc4, chk0.1 hc6, chk1.1 hc7]; rfl, rfl⟩
      | exact ⟨by rw [msgOk, headYes hc2, hc3, hc4, chk0.1 hc6, chk0.1 hc7, chk1.1 hc8]; rfl, rfl⟩
      | exact ⟨by rw [msgOk, headYes hc2, hc3, hc4, chk0.1 hc6, chk0.1 hc7, chk0.1 hc8]; rfl, rfl⟩
    · replace hc2 := nm_ hc2
      (exfalso; omega)
  · replace hc2 := nm_ hc2
    refine awp_seq ?_
    refine awp_region (by kernel_rfl) ?_
    iterate 2 (refine aL_S rfl rfl v_ ?_)
    refine aL_X rfl rfl (AOp_use rfl rfl (.inr ⟨rfl, rfl, rfl⟩) g_ va_ (nameIs_c (by omega)) ?_); rintro _ _ ⟨rfl, rfl⟩
    iterate 2 (refine aL_S rfl rfl v_ ?_)
    refine aL_nil ?_
    refine awp_cond v_ (fun hc3 => ?_) (fun hc3 => ?_)
    · replace hc3 := nm_ hc3
      refine awp_skip ?_
      refine awp_cond v_ (fun hc3 => ?_) (fun hc3 => ?_)
      · replace hc3 := nm_ hc3
        refine awp_seq ?_
        refine awp_region (by kernel_rfl) ?_
        (refine aL_S rfl rfl v_ ?_)
        refine aL_nil ?_
        refine awp_ret ?_
        refine aEnd_ret (σ' := σ) v_ sub_ ?_
        first
        | exact ⟨by rw [msgOk, headNo hc2]; rfl, rfl⟩
        | exact ⟨by rw [msgOk, headYes hc2, hc3]; rfl, rfl⟩
        | exact ⟨by rw [msgOk, headYes hc2, hc3, hc4]; rfl, rfl⟩
        | exact ⟨by rw [msgOk, headYes hc2, hc3, hc4, chk1.1 hc6]; rfl, rfl⟩
        | exact ⟨by rw [msgOk, headYes hc2, hc3, hc4, chk0.1 hc6, chk1.1 hc7]; rfl, rfl⟩
        | exact ⟨by rw [msgOk, headYes hc2, hc3, hc4, chk0.1 hc6, chk0.1 hc7, chk1.1 hc8]; rfl, rfl⟩
        | exact ⟨by rw [msgOk, headYes hc2, hc3, hc4, chk0.1 hc6, chk0.1 hc7, chk0.1 hc8]; rfl, rfl⟩
      · replace hc3 := nm_ hc3
        (exfalso; simp_all; done)
    · replace hc3 := nm_ hc3
      refine awp_region (by kernel_rfl) ?_
      iterate 2 (refine aL_S rfl rfl v_ ?_)
      refine aL_X rfl rfl (AOp_use rfl rfl (.inr ⟨rfl, rfl, rfl⟩) g_ va_ (nameIs_c (by omega)) ?_); rintro _ _ ⟨rfl, rfl⟩
      iterate 2 (refine aL_S rfl rfl v_ ?_)
      refine aL_nil ?_
      refine awp_cond v_ (fun hc4 => ?_) (fun hc4 => ?_)
      · replace hc4 := nm_ hc4
        refine awp_seq ?_
        refine awp_region (by kernel_rfl) ?_
        (refine aL_S rfl rfl v_ ?_)
        refine aL_nil ?_
        refine awp_ret ?_
        refine aEnd_ret (σ' := σ) v_ sub_ ?_
        first
        | exact ⟨by rw [msgOk, headNo hc2]; rfl, rfl⟩
        | exact ⟨by rw [msgOk, headYes hc2, hc3]; rfl, rfl⟩
        | exact ⟨by rw [msgOk, headYes hc2, hc3, hc4]; rfl, rfl⟩
        | exact ⟨by rw [msgOk, headYes hc2, hc3, hc4, chk1.1 hc6]; rfl, rfl⟩
        | exact ⟨by rw [msgOk, headYes hc2, hc3, hc4, chk0.1 hc6, chk1.1 hc7]; rfl, rfl⟩
        | exact ⟨by rw [msgOk, headYes hc2, hc3, hc4, chk0.1 hc6, chk0.1 hc7, chk1.1 hc8]; rfl, rfl⟩
        | exact ⟨by rw [msgOk, headYes hc2, hc3, hc4, chk0.1 hc6, chk0.1 hc7, chk0.1 hc8]; rfl, rfl⟩
      · replace hc4 := nm_ hc4
        refine awp_seq ?_
        refine awp_seq ?_
        refine awp_region (by kernel_rfl) ?_
        iterate 2 (refine aL_S rfl rfl v_ ?_)
        refine aL_X rfl rfl (AOp_use rfl rfl (.inr ⟨rfl, rfl, rfl⟩) g_ va_ (oCheck_c hm.obj) ?_); rintro _ _ ⟨rfl, rfl⟩
        iterate 2 (refine aL_S rfl rfl v_ ?_)
        refine aL_nil ?_
        refine awp_cond v_ (fun hc6 => ?_) (fun hc6 => ?_)
        · replace hc6 := nm_ hc6
          refine awp_skip ?_
          refine awp_cond v_ (fun hc6 => ?_) (fun hc6 => ?_)
          · replace hc6 := nm_ hc6
            refine awp_seq ?_
            refine awp_region (by kernel_rfl) ?_
            (refine aL_S rfl rfl v_ ?_)
            refine aL_nil ?_
            refine awp_ret ?_
            refine aEnd_ret (σ' := σ) v_ sub_ ?_
            first
            | exact ⟨by rw [msgOk, headNo hc2]; rfl, rfl⟩
            | exact ⟨by rw [msgOk, headYes hc2, hc3]; rfl, rfl⟩
            | exact ⟨by rw [msgOk, headYes hc2, hc3, hc4]; rfl, rfl⟩
            | exact ⟨by rw [msgOk, headYes hc2, hc3, hc4, chk1.1 hc6]; rfl, rfl⟩
            | exact ⟨by rw [msgOk, headYes hc2, hc3, hc4, chk0.1 hc6, chk1.1 hc7]; rfl, rfl⟩
            | exact ⟨by rw [msgOk, headYes hc2, hc3, hc4, chk0.1 hc6, chk0.1 hc7, chk1.1 hc8]; rfl, rfl⟩
            | exact ⟨by rw [msgOk, headYes hc2, hc3, hc4, chk0.1 hc6, chk0.1 hc7, chk0.1 hc8]; rfl, rfl⟩
          · replace hc6 := nm_ hc6
            (exfalso; omega)
        · replace hc6 := nm_ hc6
          refine awp_seq ?_
          refine awp_region (by kernel_rfl) ?_
          iterate 3 (refine aL_S rfl rfl v_ ?_)
          refine aL_X rfl rfl (AOp_use rfl rfl (.inr ⟨rfl, rfl, rfl⟩) g_ va_ (bookCheck_c hm.items (by omega)) ?_); rintro _ _ ⟨rfl, rfl⟩
          iterate 2 (refine aL_S rfl rfl v_ ?_)
          refine aL_nil ?_
          refine awp_cond v_ (fun hc7 => ?_) (fun hc7 => ?_)
          · replace hc7 := nm_ hc7
            refine awp_skip ?_
            refine awp_cond v_ (fun hc7 => ?_) (fun hc7 => ?_)
            · replace hc7 := nm_ hc7
              refine awp_seq ?_
              refine awp_region (by kernel_rfl) ?_
              (refine aL_S rfl rfl v_ ?_)
              refine aL_nil ?_
              refine awp_ret ?_
              refine aEnd_ret (σ' := σ) v_ sub_ ?_
              first
              | exact ⟨by rw [msgOk, headNo hc2]; rfl, rfl⟩
              | exact ⟨by rw [msgOk, headYes hc2, hc3]; rfl, rfl⟩
              | exact ⟨by rw [msgOk, headYes hc2, hc3, hc4]; rfl, rfl⟩
              | exact ⟨by rw [msgOk, headYes hc2, hc3, hc4, chk1.1 hc6]; rfl, rfl⟩
              | exact ⟨by rw [msgOk, headYes hc2, hc3, hc4, chk0.1 hc6, chk1.1 hc7]; rfl, rfl⟩
              | exact ⟨by rw [msgOk, headYes hc2, hc3, hc4, chk0.1 hc6, chk0.1 hc7, chk1.1 hc8]; rfl, rfl⟩
              | exact ⟨by rw [msgOk, headYes hc2, hc3, hc4, chk0.1 hc6, chk0.1 hc7, chk0.1 hc8]; rfl, rfl⟩
            · replace hc7 := nm_ hc7
              (exfalso; omega)
          · replace hc7 := nm_ hc7
            refine awp_region (by kernel_rfl) ?_
            iterate 2 (refine aL_S rfl rfl v_ ?_)
            refine aL_X rfl rfl (AOp_use rfl rfl (.inr ⟨rfl, rfl, rfl⟩) g_ va_ (entsCheck_c hm.ents (by omega)) ?_); rintro _ _ ⟨rfl, rfl⟩
            iterate 2 (refine aL_S rfl rfl v_ ?_)
            refine aL_nil ?_
            refine awp_cond v_ (fun hc8 => ?_) (fun hc8 => ?_)
            · replace hc8 := nm_ hc8
              refine awp_seq ?_
              refine awp_region (by kernel_rfl) ?_
              (refine aL_S rfl rfl v_ ?_)
              refine aL_nil ?_
              refine awp_ret ?_
              refine aEnd_ret (σ' := σ) v_ sub_ ?_
              first
              | exact ⟨by rw [msgOk, headNo hc2]; rfl, rfl⟩
              | exact ⟨by rw [msgOk, headYes hc2, hc3]; rfl, rfl⟩
              | exact ⟨by rw [msgOk, headYes hc2, hc3, hc4]; rfl, rfl⟩
              | exact ⟨by rw [msgOk, headYes hc2, hc3, hc4, chk1.1 hc6]; rfl, rfl⟩
              | exact ⟨by rw [msgOk, headYes hc2, hc3, hc4, chk0.1 hc6, chk1.1 hc7]; rfl, rfl⟩
              | exact ⟨by rw [msgOk, headYes hc2, hc3, hc4, chk0.1 hc6, chk0.1 hc7, chk1.1 hc8]; rfl, rfl⟩
              | exact ⟨by rw [msgOk, headYes hc2, hc3, hc4, chk0.1 hc6, chk0.1 hc7, chk0.1 hc8]; rfl, rfl⟩
            · replace hc8 := nm_ hc8
              refine awp_skip ?_
              refine awp_seq ?_
              refine awp_region (by kernel_rfl) ?_
              (refine aL_S rfl rfl v_ ?_)
              refine aL_nil ?_
              refine awp_ret ?_
              refine aEnd_ret (σ' := σ) v_ sub_ ?_
              first
              | exact ⟨by rw [msgOk, headNo hc2]; rfl, rfl⟩
              | exact ⟨by rw [msgOk, headYes hc2, hc3]; rfl, rfl⟩
              | exact ⟨by rw [msgOk, headYes hc2, hc3, hc4]; rfl, rfl⟩
              | exact ⟨by rw [msgOk, headYes hc2, hc3, hc4, chk1.1 hc6]; rfl, rfl⟩
              | exact ⟨by rw [msgOk, headYes hc2, hc3, hc4, chk0.1 hc6, chk1.1 hc7]; rfl, rfl⟩
              | exact ⟨by rw [msgOk, headYes hc2, hc3, hc4, chk0.1 hc6, chk0.1 hc7, chk1.1 hc8]; rfl, rfl⟩
              | exact ⟨by rw [msgOk, headYes hc2, hc3, hc4, chk0.1 hc6, chk0.1 hc7, chk0.1 hc8]; rfl, rfl⟩
end Go.Proofs.YtbjloippgpilcaaGreat
end
