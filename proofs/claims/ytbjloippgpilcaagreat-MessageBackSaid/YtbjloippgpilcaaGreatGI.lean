/-
  What is written as bytes: the program's writer; Contexts and objects as bytes: what the program writes. Own work (an AI agent).
-/
import Derived.Test.YtbjloippgpilcaaGreatGH

section
set_option linter.all false
set_option maxRecDepth 100000
namespace Go.Proofs.YtbjloippgpilcaaGreat
open Go.Ab

/-- what a writer's first cell says: it is new, or it has been written to -/
def WA (o : Nat) (a : AVal) : Prop := a = .ref o 0 ∨ a = .nilp o 56 2
/-- a writer that holds bytes -/
def WR (σ : Store) (o : Nat) (l : List UInt8) : Prop := ∃ a b old, σ.heap o = some (.cells [a, b]) ∧ WA o a ∧ NilOwn σ 5 1 (bytesL (B l)) b old
def Hld (σ : Store) (o t : Nat) : Prop := ∃ a sz l, σ.heap o = some (.cells [a, .own t sz l])
/-- nothing but a writer turns -/
def WF (o : Nat) (σ σ' : Store) : Prop := (∀ i x, i ≠ o → σ.heap i = some x → σ'.heap i = some x) ∧ ∀ t n, σ.tok t = some n → ¬ Hld σ o t → σ'.tok t = some n ∧ ¬ Hld σ' o t
theorem WF.refl {o : Nat} {σ : Store} : WF o σ σ := ⟨fun _ _ _ h => h, fun _ _ h k => ⟨h, k⟩⟩
theorem WF.trans {o : Nat} {a b c : Store} (h : WF o a b) (k : WF o b c) : WF o a c :=
  ⟨fun i x hi hx => k.1 i x hi (h.1 i x hi hx), fun t n ht hn => k.2 t n (h.2 t n ht hn).1 (h.2 t n ht hn).2⟩
theorem WF.sub {o : Nat} {σ σ' : Store} {x : AObj} (ho : σ.heap o = none) (h : WF o (σ.set o x) σ') (hx : ∀ a t sz l, x ≠ .cells [a, .own t sz l]) : σ.Sub σ' :=
  ⟨fun i y hy => h.1 i y (fun hh => by rw [hh, ho] at hy; cases hy) (by rw [Store.set_ne _ _ (fun hh => by rw [hh, ho] at hy; cases hy)]; exact hy), fun t n ht => (h.2 t n ht fun ⟨a, sz, l, hh⟩ => by
    rw [Store.set_get] at hh
    exact hx _ _ _ _ (Option.some.inj hh)).1⟩
/-- a byte more, and the rest as it was -/
theorem WF.put {σ : Store} {o k : Nat} {a b c : AVal} {l l' : List AVal} {old : Option Nat} {p : TypeId × Nat} {e : TypeId} {sz sz' : Nat} (ho : σ.heap o = some (.cells [a, b])) (hb : NilOwn σ e sz l b old) (hk : σ.tok k = none) :
    WF o σ ((σ.newTok old k p).set o (.cells [c, .own k sz' l'])) := by
  refine ⟨fun i x hi hx => by rw [Store.set_ne _ _ hi]; exact hx, fun t n ht hn => ?_⟩
  have hkt : t ≠ k := fun hh => by rw [hh, hk] at ht; cases ht
  refine ⟨?_, ?_⟩
  · rw [Store.set_tok]
    simp only [Store.newTok]
    rw [if_neg hkt, if_neg (fun hh => ?_)]
    · exact ht
    · rcases hb with ⟨j, rfl, _, hj⟩ | ⟨rfl, _, hj⟩
      · rw [hj] at hh
        obtain rfl := Option.some.inj hh
        exact hn ⟨_, _, _, ho⟩
      · rw [hj] at hh; cases hh
  · rintro ⟨a', sz2, l2, hh⟩
    rw [Store.set_get] at hh
    simp only [Option.some.injEq, AObj.cells.injEq, List.cons.injEq, AVal.own.injEq, and_true] at hh
    exact hkt hh.2.1.symm

theorem refs_neq {σ : Store} {c : Bool} {o : Nat} : abin Tryz.prog σ .neq 51 c (.ref o 0) (.ref o 0) = some (.lit (.bool false)) := by
  simp only [abin, aeq, go_sem]
theorem copyCheck_1 {o : Nat} {b : AVal} {σ : Store} (ho : σ.heap o = some (.cells [.ref o 0, b])) : ACalls Tryz.prog 100 [.ref o 0] σ fun v σ' => v = .tup [] ∧ σ' = σ.set o (.cells [.ref o 0, b]) := by
  refine ACalls_of Tryz.func100 rfl Tryz.ntmps100 (congrArg Array.toList Tryz.results100) (by simp only [List.length_cons, List.length_nil]; decide) ?_; simp only [envOf_cons, envOf_nil, Nat.reduceAdd]
  refine awp_seq ?_
  have R := And.intro ho @refs_neq
  refine awp_region (by kernel_rfl) ?_
  iterate 5 (refine aL_S rfl rfl v_ ?_)
  refine aL_nil ?_
  refine awp_cond v_ (fun hc0 => ?_) (fun hc0 => ?_)
  · replace hc0 := nm_ hc0
    cases hc0
  · replace hc0 := nm_ hc0
    refine awp_seq ?_
    have R := And.intro ho @refs_neq
    refine awp_region (by kernel_rfl) ?_
    iterate 6 (refine aL_S rfl rfl v_ ?_)
    refine aL_nil ?_
    refine awp_cond v_ (fun hc2 => ?_) (fun hc2 => ?_)
    · replace hc2 := nm_ hc2
      cases hc2
    · replace hc2 := nm_ hc2
      refine awp_skip ?_
      refine aEnd_nor v_ (Store.Wk.refl _) ?_
      exact ⟨rfl, (Store.set_self ho).symm⟩
theorem copyCheck_2 {o : Nat} {b : AVal} {σ : Store} (ho : σ.heap o = some (.cells [.nilp o 56 2, b])) : ACalls Tryz.prog 100 [.ref o 0] σ fun v σ' => v = .tup [] ∧ σ' = σ.set o (.cells [.ref o 0, b]) := by
  refine ACalls_of Tryz.func100 rfl Tryz.ntmps100 (congrArg Array.toList Tryz.results100) (by simp only [List.length_cons, List.length_nil]; decide) ?_; simp only [envOf_cons, envOf_nil, Nat.reduceAdd]
  refine awp_seq ?_
  have R := ho
  refine awp_region (by kernel_rfl) ?_
  iterate 5 (refine aL_S rfl rfl v_ ?_)
  refine aL_nil ?_
  refine awp_cond v_ (fun hc0 => ?_) (fun hc0 => ?_)
  · replace hc0 := nm_ hc0
    have R := ho
    refine awp_region (by kernel_rfl) ?_
    iterate 2 (refine aL_S rfl rfl v_ ?_)
    refine aL_X rfl rfl (AOp_toUnsafe (t := 54) rfl Tryz.underlying51 Tryz.underlying171 (by kernel_rfl) g_ ho (by decide) ?_)
    refine aL_X rfl rfl (AOp_extern rfl (e := Extern.AbiNoEscape.same) (by kernel_rfl) g_ (fun κ ev _ h => same_rv (h _ (by simp))) ?_)
    refine aL_X rfl rfl (AOp_fromUnsafe (u := 54) rfl Tryz.underlying171 Tryz.underlying51 (by kernel_rfl) g_ ho (by kernel_rfl) ?_)
    iterate 2 (refine aL_S rfl rfl v_ ?_)
    refine aL_store rfl rfl rfl v_ v_ h_ g_ rfl g_ c_ (by rfl) le_ v_ ?_
    refine aL_nil ?_
    refine aEnd_nor v_ (Store.Wk.refl _) ?_
    exact ⟨rfl, rfl⟩
  · replace hc0 := nm_ hc0
    cases hc0
theorem copyCheck_c {o : Nat} {a b : AVal} {σ : Store} (ho : σ.heap o = some (.cells [a, b])) (ha : WA o a) : ACalls Tryz.prog 100 [.ref o 0] σ fun v σ' => v = .tup [] ∧ σ' = σ.set o (.cells [.ref o 0, b]) := by
  rcases ha with rfl | rfl
  · exact copyCheck_1 ho
  · exact copyCheck_2 ho

/-- a byte is appended, or a text -/
theorem writeByte_c {o : Nat} {a b : AVal} {σ : Store} {c : UInt8} {l : List UInt8} {old : Option Nat} (ho : σ.heap o = some (.cells [a, b])) (ha : WA o a) (hb : NilOwn σ 5 1 (bytesL (B l)) b old) (hl : l.length ≤ 1099511627776) :
    ACalls Tryz.prog 99 [.ref o 0, .lit (.int .u8 (c.toNat : Int))] σ fun v σ' => ∃ k, v = .lit .nilIface ∧ σ.tok k = none ∧ σ' = (σ.newTok old k (5, 1)).set o (.cells [.ref o 0, .own k 1 (bytesL (B (l ++ [c])))]) := by
  have e1 : bytesL (B (l ++ [c])) = bytesL (B l) ++ [.lit (.int .u8 (c.toNat : Int))] := by rw [bytesL_B, bytesL_B, List.map_append]; rfl
  have hbl : (bytesL (B l)).length = l.length := by rw [bytesL_length, B_size]
  refine ACalls_of Tryz.func99 rfl Tryz.ntmps99 (congrArg Array.toList Tryz.results99) (by simp only [List.length_cons, List.length_nil]; decide) ?_; simp only [envOf_cons, envOf_nil, Nat.reduceAdd]
  refine awp_seq ?_
  refine awp_region (by kernel_rfl) ?_
  (refine aL_S rfl rfl v_ ?_)
  refine aL_nil ?_
  refine awp_seq ?_
  refine awp_region (by kernel_rfl) ?_
  (refine aL_S rfl rfl v_ ?_)
  refine aL_X rfl rfl (AOp_use rfl rfl (.inr ⟨rfl, rfl, rfl⟩) g_ va_ (copyCheck_c ho ha) ?_); rintro _ _ ⟨rfl, rfl⟩
  refine aL_nil ?_
  refine awp_seq ?_
  refine awp_region (by kernel_rfl) ?_
  iterate 6 (refine aL_S rfl rfl v_ ?_)
  refine aL_buildSlice rfl rfl rfl g_ g_ rfl rfl h_ c2_ (by decide) ?_
  refine aL_X rfl rfl (AOp_appendS rfl g_ g_ (NilOwn.of hb va_) (.inl ⟨⟨_, g_⟩, .inl v_, c_⟩) (by simp; omega) fun k14 hk14 => ?_)
  iterate 2 (refine aL_S rfl rfl v_ ?_)
  refine aL_store rfl rfl rfl v_ v_ h_ g_ rfl g_ c_ (by rfl) le_ v_ ?_
  refine aL_nil ?_
  refine awp_seq ?_
  refine awp_region (by kernel_rfl) ?_
  (refine aL_S rfl rfl v_ ?_)
  refine aL_nil ?_
  refine awp_ret ?_
  refine aEnd_ret v_ (Store.Wk.refl _) ?_
  exact ⟨k14, rfl, hk14, by rw [e1, Store.newTok_set, Store.set_set]⟩
theorem writeString_c {o : Nat} {a b : AVal} {σ : Store} {s : ByteArray} {l : List UInt8} {old : Option Nat} (ho : σ.heap o = some (.cells [a, b])) (ha : WA o a) (hb : NilOwn σ 5 1 (bytesL (B l)) b old) (hl : l.length ≤ 1099511627776) (hs : s.size ≤ 1099511627776) :
    ACalls Tryz.prog 57 [.ref o 0, vStr s] σ fun v σ' => ∃ k, v = .tup [vInt s.size, .lit .nilIface] ∧ σ.tok k = none ∧ σ' = (σ.newTok old k (5, 1)).set o (.cells [.ref o 0, .own k 1 (bytesL (B (l ++ Lb s)))]) := by
  have e1 : bytesL (B l) ++ bytesL s = bytesL (B (l ++ Lb s)) := by rw [bytesL_append, ← B_append, B_Lb]
  have hbl : (bytesL (B l)).length = l.length := by rw [bytesL_length, B_size]
  have hsl := bytesL_length s
  refine ACalls_of Tryz.func57 rfl Tryz.ntmps57 (congrArg Array.toList Tryz.results57) (by simp only [List.length_cons, List.length_nil]; decide) ?_; simp only [envOf_cons, envOf_nil, Nat.reduceAdd]
  refine awp_seq ?_
  refine awp_region (by kernel_rfl) ?_
  iterate 2 (refine aL_S rfl rfl v_ ?_)
  refine aL_nil ?_
  refine awp_seq ?_
  refine awp_region (by kernel_rfl) ?_
  (refine aL_S rfl rfl v_ ?_)
  refine aL_X rfl rfl (AOp_use rfl rfl (.inr ⟨rfl, rfl, rfl⟩) g_ va_ (copyCheck_c ho ha) ?_); rintro _ _ ⟨rfl, rfl⟩
  refine aL_nil ?_
  refine awp_seq ?_
  refine awp_region (by kernel_rfl) ?_
  iterate 6 (refine aL_S rfl rfl v_ ?_)
  refine aL_X rfl rfl (AOp_appendS rfl g_ g_ (NilOwn.of hb va_) (ASrc_str g_) (by simp; omega) fun k14 hk14 => ?_); rw [e1]
  iterate 2 (refine aL_S rfl rfl v_ ?_)
  refine aL_store rfl rfl rfl v_ v_ h_ g_ rfl g_ c_ (by rfl) le_ v_ ?_
  refine aL_nil ?_
  refine awp_seq ?_
  refine awp_region (by kernel_rfl) ?_
  iterate 4 (refine aL_S rfl rfl v_ ?_)
  refine aL_nil ?_
  refine awp_ret ?_
  refine aEnd_ret v_ (Store.Wk.refl _) ?_
  exact ⟨k14, rfl, hk14, by rw [Store.newTok_set, Store.set_set]⟩
theorem string_1 {o k : Nat} {s : ByteArray} {σ : Store} {a : AVal} (ho : σ.heap o = some (.cells [a, .own k 1 (bytesL s)])) (hk : σ.tok k = some (5, 1)) (hs : s.size ≤ 1099511627776) : ACalls Tryz.prog 62 [.ref o 0] σ fun v σ' => v = vStr s ∧ σ' = σ.delTok k := by
  have hsl := bytesL_length s
  refine ACalls_of Tryz.func62 rfl Tryz.ntmps62 (congrArg Array.toList Tryz.results62) (by simp only [List.length_cons, List.length_nil]; decide) ?_; simp only [envOf_cons, envOf_nil, Nat.reduceAdd]
  refine awp_seq ?_
  have R := And.intro ho hsl
  refine awp_region (by kernel_rfl) ?_
  (refine aL_S rfl rfl v_ ?_)
  refine aL_nil ?_
  refine awp_seq ?_
  have R := And.intro ho hsl
  refine awp_draw (.op 0 0 (.op 1 0 (.op 2 0 (.op 3 0 (.op 5 0 (.op 6 0 (.op 7 0 (.op 8 0 (.op 9 0 (.op 4 1 (.op 10 2 (.op 11 0 .nil)))))))))))) Tryz.mixed (by kernel_rfl) ?_
  iterate 9 (refine dR_S o_ (by rfl) (by rfl) v_ ?_)
  refine dR_X o_ (by rfl) (by rfl) (AOp_sliceData (by rfl) g_ (.inl ⟨va_, hk⟩) ⟨sub_, ?_⟩)
  refine dR_T o_ (by rfl) (by rfl) (AOp_unsafeString (by rfl) g_ (by kernel_rfl) va_ va_ (.inr hk) (by omega) ?_)
  (refine dR_S o_ (by rfl) (by rfl) v_ ?_)
  refine dR_nil ?_
  refine awp_ret ?_
  refine aEnd_ret v_ (Store.Wk.refl _) ?_
  exact ⟨rfl, rfl⟩
theorem string_2 {o : Nat} {σ : Store} {a : AVal} (ho : σ.heap o = some (.cells [a, .lit (.slice none 0 0)])) : ACalls Tryz.prog 62 [.ref o 0] σ fun v σ' => v = vStr (B []) ∧ σ = σ' := by
  refine ACalls_of Tryz.func62 rfl Tryz.ntmps62 (congrArg Array.toList Tryz.results62) (by simp only [List.length_cons, List.length_nil]; decide) ?_; simp only [envOf_cons, envOf_nil, Nat.reduceAdd]
  refine awp_seq ?_
  have R := ho
  refine awp_region (by kernel_rfl) ?_
  (refine aL_S rfl rfl v_ ?_)
  refine aL_nil ?_
  refine awp_seq ?_
  have R := ho
  refine awp_draw (.op 0 0 (.op 1 0 (.op 2 0 (.op 3 0 (.op 5 0 (.op 6 0 (.op 7 0 (.op 8 0 (.op 9 0 (.op 4 1 (.op 10 2 (.op 11 0 .nil)))))))))))) Tryz.mixed (by kernel_rfl) ?_
  iterate 9 (refine dR_S o_ (by rfl) (by rfl) v_ ?_)
  refine dR_X o_ (by rfl) (by rfl) (AOp_sliceData (k := 0) (l := []) (e0 := 0) (by rfl) g_ (.inr ⟨va_, rfl⟩) ⟨sub_, ?_⟩)
  refine dR_T o_ (by rfl) (by rfl) (AOp_unsafeString0 (by rfl) va_ va_ ?_)
  (refine dR_S o_ (by rfl) (by rfl) v_ ?_)
  refine dR_nil ?_
  refine awp_ret ?_
  refine aEnd_ret (σ' := σ) v_ sub_ ?_
  exact ⟨rfl, rfl⟩

/-! ### the writer -/
theorem fdiv_pow (n : Int) (k : Nat) : n / 2 ^ (8 * k) = n / 256 ^ k := by
  rw [show (256 : Int) = 2 ^ 8 from rfl, ← Int.pow_mul]
theorem take_beI (n : Int) (k j : Nat) (h : j < k) : (beI k n)[j]? = some (byteI (n / 256 ^ (k - 1 - j))) := by
  induction k generalizing j with
  | zero => omega
  | succ k ih =>
    rw [beI]
    cases j with
    | zero => simp
    | succ j => rw [List.getElem?_cons_succ, ih j (by omega)]; congr 4; omega
theorem low_c {o k : Nat} {n : Int} {l : List UInt8} {σ : Store} (ho : WR σ o l) (hk : k ≤ 8) (hl : l.length ≤ 1000000000000) : ACalls Tryz.prog 55 [.ref o 0, vInt n, vInt k] σ fun v σ' => v = .tup [] ∧ WR σ' o (l ++ beI k n) ∧ WF o σ σ' := by
  have h00 : (k : Int) - 1 - ((0 : Nat) : Int) = (k : Int) - 1 := by omega
  refine ACalls_of Tryz.func55 rfl Tryz.ntmps55 (congrArg Array.toList Tryz.results55) (by simp only [List.length_cons, List.length_nil]; decide) ?_; simp only [envOf_cons, envOf_nil, Nat.reduceAdd]
  refine awp_seq ?_
  refine awp_seq ?_
  refine awp_region (by kernel_rfl) ?_
  iterate 2 (refine aL_S rfl rfl v_ ?_)
  refine aL_nil ?_
  refine awp_cond v_ (fun hc0 => ?_) (fun hc0 => ?_)
  · replace hc0 := nm_ hc0
    cases hc0
  · replace hc0 := nm_ hc0
    refine awp_skip ?_
    refine awp_seq ?_
    refine awp_region (by kernel_rfl) ?_
    iterate 3 (refine aL_S rfl rfl v_ ?_)
    refine aL_nil ?_
    refine awp_block ?_
    refine awp_loop_env (ι := Store × Nat) (fun ⟨τ, j⟩ => k - j) (fun ⟨τ, j⟩ => j ≤ k ∧ WR τ o (l ++ (beI k n).take j) ∧ WF o σ τ) (fun ⟨τ, j⟩ => [(0, .ref o 0), (1, vInt n), (6, vInt ((k : Int) - 1 - j))]) (fun ⟨τ, j⟩ => τ) (σ, 0) ?_ ?_ ?_ ?_
    · exact ⟨Nat.zero_le _, by simpa using ho, WF.refl⟩
    · have R := h00; exact cv_
    · exact Store.Wk.refl _
    rintro ⟨τ, j⟩ ⟨h1, h2, h3⟩
    simp only [envL_cons, envL_nil]
    refine awp_seq ?_
    refine awp_seq ?_
    refine awp_region (by kernel_rfl) ?_
    iterate 2 (refine aL_S rfl rfl v_ ?_)
    refine aL_nil ?_
    refine awp_cond v_ (fun hc2 => ?_) (fun hc2 => ?_)
    · replace hc2 := nm_ hc2
      refine awp_skip ?_
      refine awp_seq ?_
      refine awp_block ?_
      have hj : j < k := by omega
      have hbj := take_beI n k j hj
      obtain ⟨a, b, old, hw, ha, hb⟩ := h2
      have hll : (l ++ (beI k n).take j).length ≤ 1099511627776 := by rw [List.length_append, List.length_take]; omega
      have hcv : (k : Int) - 1 - j - 1 = (k : Int) - 1 - ((j + 1 : Nat) : Int) := by omega
      have hsh : ((8 : Int) * ((k : Int) - 1 - j)).toNat = 8 * (k - 1 - j) := by omega
      have hby := (byteI_val (n / 256 ^ (k - 1 - j))).symm
      have R := And.intro hsh (And.intro fdiv_pow (And.intro wrap_u8 hby))
      refine awp_draw (.op 0 0 (.op 1 0 (.op 2 0 (.op 3 0 (.op 4 0 (.op 5 0 (.op 6 0 (.op 7 0 (.op 8 2 .nil))))))))) Tryz.mixed (by kernel_rfl) ?_
      iterate 8 (refine dR_S o_ (by rfl) (by rfl) v_ ?_)
      refine dR_T o_ (by rfl) (by rfl) (AOp_use (by rfl) (by rfl) (.inr ⟨by rfl, by rfl, by rfl⟩) g_ va_ (writeByte_c (c := byteI (n / 256 ^ (k - 1 - j))) hw ha hb hll) ?_); rintro _ _ ⟨k23, rfl, hk23, rfl⟩
      refine dR_nil ?_
      refine awp_region (by kernel_rfl) ?_
      iterate 3 (refine aL_S rfl rfl v_ ?_)
      refine aL_nil ?_
      refine aNext (ι := Store × Nat) (i := ⟨τ, j⟩) ((τ.newTok old k23 (5, 1)).set o (.cells [.ref o 0, .own k23 1 (bytesL (B (l ++ (beI k n).take j ++ [byteI (n / 256 ^ (k - 1 - j))])))]), j + 1) ?_ ?_ ?_ ?_
      · show k - (j + 1) < k - j; omega
      · exact ⟨by show j + 1 ≤ k; omega, ⟨_, _, some k23, Store.set_get .., .inl rfl, .inl ⟨k23, by rw [take_snoc hbj, List.append_assoc], by rw [Store.set_tok]; exact Store.newTok_get .., rfl⟩⟩, h3.trans (WF.put hw hb hk23)⟩
      · have R := hcv; exact cv_
      · exact Store.Wk.refl _
    · replace hc2 := nm_ hc2
      refine awp_exit ?_
      refine aThen_exit ?_
      refine aThen_exit ?_
      refine aBlock_hit ?_
      refine aEnd_nor v_ (Store.Wk.refl _) ?_
      exact ⟨rfl, by rwa [List.take_of_length_le (by rw [beI_length]; omega)] at h2, h3⟩

theorem wrByte_c {o : Nat} {n : Int} {l : List UInt8} {σ : Store} (ho : WR σ o l) (hl : l.length ≤ 1000000000000) : ACalls Tryz.prog 19 [.ref o 0, vInt n] σ fun v σ' => v = .tup [] ∧ WR σ' o (l ++ beI 1 n) ∧ WF o σ σ' := by
  refine ACalls_of Tryz.func19 rfl Tryz.ntmps19 (congrArg Array.toList Tryz.results19) (by simp only [List.length_cons, List.length_nil]; decide) ?_; simp only [envOf_cons, envOf_nil, Nat.reduceAdd]
  refine awp_region (by kernel_rfl) ?_
  iterate 2 (refine aL_S rfl rfl v_ ?_)
  refine aL_X rfl rfl (AOp_use rfl rfl (.inr ⟨rfl, rfl, rfl⟩) g_ va_ (low_c (k := 1) ho (by decide) hl) ?_); rintro _ τ ⟨rfl, h1, h2⟩
  refine aL_nil ?_
  refine aEnd_nor v_ (Store.Wk.refl _) ?_
  exact ⟨rfl, h1, h2⟩
theorem wrInt_c {o : Nat} {n : Int} {l : List UInt8} {σ : Store} (ho : WR σ o l) (hl : l.length ≤ 1000000000000) : ACalls Tryz.prog 21 [.ref o 0, vInt n] σ fun v σ' => v = .tup [] ∧ WR σ' o (l ++ beI 8 n) ∧ WF o σ σ' := by
  refine ACalls_of Tryz.func21 rfl Tryz.ntmps21 (congrArg Array.toList Tryz.results21) (by simp only [List.length_cons, List.length_nil]; decide) ?_; simp only [envOf_cons, envOf_nil, Nat.reduceAdd]
  refine awp_region (by kernel_rfl) ?_
  iterate 2 (refine aL_S rfl rfl v_ ?_)
  refine aL_X rfl rfl (AOp_use rfl rfl (.inr ⟨rfl, rfl, rfl⟩) g_ va_ (low_c (k := 8) ho (by decide) hl) ?_); rintro _ τ ⟨rfl, h1, h2⟩
  refine aL_nil ?_
  refine aEnd_nor v_ (Store.Wk.refl _) ?_
  exact ⟨rfl, h1, h2⟩
theorem wrCount_c {o : Nat} {n : Int} {l : List UInt8} {σ : Store} (ho : WR σ o l) (hl : l.length ≤ 1000000000000) : ACalls Tryz.prog 56 [.ref o 0, vInt n] σ fun v σ' => v = .tup [] ∧ WR σ' o (l ++ beI 4 n) ∧ WF o σ σ' := by
  refine ACalls_of Tryz.func56 rfl Tryz.ntmps56 (congrArg Array.toList Tryz.results56) (by simp only [List.length_cons, List.length_nil]; decide) ?_; simp only [envOf_cons, envOf_nil, Nat.reduceAdd]
  refine awp_region (by kernel_rfl) ?_
  iterate 2 (refine aL_S rfl rfl v_ ?_)
  refine aL_X rfl rfl (AOp_use rfl rfl (.inr ⟨rfl, rfl, rfl⟩) g_ va_ (low_c (k := 4) ho (by decide) hl) ?_); rintro _ τ ⟨rfl, h1, h2⟩
  refine aL_nil ?_
  refine aEnd_nor v_ (Store.Wk.refl _) ?_
  exact ⟨rfl, h1, h2⟩
def textB (s : ByteArray) : List UInt8 := beI 4 s.size ++ Lb s
theorem textB_length (s : ByteArray) : (textB s).length = 4 + s.size := by rw [textB, List.length_append, beI_length, Lb_length]
theorem wrText_c {o : Nat} {s : ByteArray} {l : List UInt8} {σ : Store} (ho : WR σ o l) (hl : l.length ≤ 999999999990) (hs : s.size ≤ 1000000000) : ACalls Tryz.prog 20 [.ref o 0, vStr s] σ fun v σ' => v = .tup [] ∧ WR σ' o (l ++ textB s) ∧ WF o σ σ' := by
  refine ACalls_of Tryz.func20 rfl Tryz.ntmps20 (congrArg Array.toList Tryz.results20) (by simp only [List.length_cons, List.length_nil]; decide) ?_; simp only [envOf_cons, envOf_nil, Nat.reduceAdd]
  refine awp_seq ?_
  refine awp_region (by kernel_rfl) ?_
  iterate 3 (refine aL_S rfl rfl v_ ?_)
  refine aL_X rfl rfl (AOp_use rfl rfl (.inr ⟨rfl, rfl, rfl⟩) g_ va_ (wrCount_c ho (by omega)) ?_); rintro _ τ ⟨rfl, h1, h2⟩
  refine aL_nil ?_
  refine awp_seq ?_
  refine awp_region (by kernel_rfl) ?_
  iterate 2 (refine aL_S rfl rfl v_ ?_)
  refine aL_nil ?_
  refine awp_cond v_ (fun hc1 => ?_) (fun hc1 => ?_)
  · replace hc1 := nm_ hc1
    obtain ⟨a, b, old, hw, ha, hb⟩ := h1
    have hll : (l ++ beI 4 s.size).length ≤ 1099511627776 := by rw [List.length_append, beI_length]; omega
    refine awp_region (by kernel_rfl) ?_
    iterate 4 (refine aL_S rfl rfl v_ ?_)
    refine aL_X rfl rfl (AOp_use rfl rfl (.inr ⟨rfl, rfl, rfl⟩) g_ va_ (writeString_c hw ha hb hll (by omega)) ?_); rintro _ _ ⟨k14, rfl, hk14, rfl⟩
    refine aL_nil ?_
    refine aEnd_nor v_ (Store.Wk.refl _) ?_
    exact ⟨rfl, ⟨_, _, some k14, Store.set_get .., .inl rfl, .inl ⟨k14, by rw [textB, ← List.append_assoc], by rw [Store.set_tok]; exact Store.newTok_get .., rfl⟩⟩, h2.trans (WF.put hw hb hk14)⟩
  · replace hc1 := nm_ hc1
    cases hc1
theorem WF.del {σ : Store} {o k : Nat} {a : AVal} {l : List AVal} {sz : Nat} (ho : σ.heap o = some (.cells [a, .own k sz l])) : WF o σ (σ.delTok k) := by
  refine ⟨fun i x _ hx => hx, fun t n ht hn => ⟨?_, hn⟩⟩
  have : t ≠ k := fun hh => hn ⟨_, _, _, by rw [hh]; exact ho⟩
  simp [Store.delTok, this, ht]
theorem wrBytes_1 {o k : Nat} {s : ByteArray} {σ : Store} {a : AVal} (ho : σ.heap o = some (.cells [a, .own k 1 (bytesL s)])) (hk : σ.tok k = some (5, 1)) (hs : s.size ≤ 1099511627776) : ACalls Tryz.prog 29 [.ref o 0] σ fun v σ' => v = vStr s ∧ WF o σ σ' := by
  refine ACalls_of Tryz.func29 rfl Tryz.ntmps29 (congrArg Array.toList Tryz.results29) (by simp only [List.length_cons, List.length_nil]; decide) ?_; simp only [envOf_cons, envOf_nil, Nat.reduceAdd]
  refine awp_seq ?_
  refine awp_region (by kernel_rfl) ?_
  (refine aL_S rfl rfl v_ ?_)
  refine aL_nil ?_
  refine awp_seq ?_
  refine awp_seq ?_
  refine awp_region (by kernel_rfl) ?_
  iterate 2 (refine aL_S rfl rfl v_ ?_)
  refine aL_nil ?_
  refine awp_cond v_ (fun hc1 => ?_) (fun hc1 => ?_)
  · replace hc1 := nm_ hc1
    cases hc1
  · replace hc1 := nm_ hc1
    refine awp_skip ?_
    refine awp_seq ?_
    refine awp_region (by kernel_rfl) ?_
    iterate 3 (refine aL_S rfl rfl v_ ?_)
    refine aL_X rfl rfl (AOp_use rfl rfl (.inr ⟨rfl, rfl, rfl⟩) g_ va_ (string_1 ho hk hs) ?_); rintro _ _ ⟨rfl, rfl⟩
    (refine aL_S rfl rfl v_ ?_)
    refine aL_nil ?_
    refine awp_ret ?_
    refine aEnd_ret v_ (Store.Wk.refl _) ?_
    exact ⟨rfl, WF.del ho⟩
theorem wrBytes_2 {o : Nat} {σ : Store} {a : AVal} (ho : σ.heap o = some (.cells [a, .lit (.slice none 0 0)])) : ACalls Tryz.prog 29 [.ref o 0] σ fun v σ' => v = vStr (B []) ∧ WF o σ σ' := by
  refine ACalls_of Tryz.func29 rfl Tryz.ntmps29 (congrArg Array.toList Tryz.results29) (by simp only [List.length_cons, List.length_nil]; decide) ?_; simp only [envOf_cons, envOf_nil, Nat.reduceAdd]
  refine awp_seq ?_
  refine awp_region (by kernel_rfl) ?_
  (refine aL_S rfl rfl v_ ?_)
  refine aL_nil ?_
  refine awp_seq ?_
  refine awp_seq ?_
  refine awp_region (by kernel_rfl) ?_
  iterate 2 (refine aL_S rfl rfl v_ ?_)
  refine aL_nil ?_
  refine awp_cond v_ (fun hc1 => ?_) (fun hc1 => ?_)
  · replace hc1 := nm_ hc1
    cases hc1
  · replace hc1 := nm_ hc1
    refine awp_skip ?_
    refine awp_seq ?_
    refine awp_region (by kernel_rfl) ?_
    iterate 3 (refine aL_S rfl rfl v_ ?_)
    refine aL_X rfl rfl (AOp_use rfl rfl (.inr ⟨rfl, rfl, rfl⟩) g_ va_ (string_2 ho) ?_); rintro _ _ ⟨rfl, rfl⟩
    (refine aL_S rfl rfl v_ ?_)
    refine aL_nil ?_
    refine awp_ret ?_
    refine aEnd_ret v_ (Store.Wk.refl _) ?_
    exact ⟨rfl, WF.refl⟩
/-- what is written is handed out: it is not written to any more -/
theorem wrBytes_c {o : Nat} {l : List UInt8} {σ : Store} (ho : WR σ o l) (hl : l.length ≤ 1000000000000) : ACalls Tryz.prog 29 [.ref o 0] σ fun v σ' => v = vStr (B l) ∧ WF o σ σ' := by
  obtain ⟨a, b, old, hw, ha, hb⟩ := ho
  rcases hb with ⟨k, rfl, hk, _⟩ | ⟨rfl, hl0, _⟩
  · refine wrBytes_1 hw hk (by rw [B_size]; omega)
  · have : l = [] := by
      have := congrArg List.length hl0
      rw [bytesL_length, B_size] at this
      exact List.eq_nil_of_length_eq_zero this
    subst this
    exact wrBytes_2 hw
end Go.Proofs.YtbjloippgpilcaaGreat
end

section
set_option linter.all false
set_option maxRecDepth 100000
namespace Go.Proofs.YtbjloippgpilcaaGreat
open Go.Ab

def listB {α : Type} (f : α → List UInt8) (l : List α) : List UInt8 := beI 4 l.length ++ l.flatMap f
def seenB (x : Seen) : List UInt8 := textB x.node ++ beI 8 x.base ++ listB (beI 8) x.more
def ctxB (c : List Seen) : List UInt8 := listB seenB c
def goneI (b : Bool) : Int := if b then 1 else 0
def sibB (x : Sib) : List UInt8 := textB x.node ++ beI 8 x.n ++ textB x.value ++ beI 1 (goneI x.gone) ++ beI 8 x.time
def objB (o : Obj') : List UInt8 := ctxB o.ctx ++ listB sibB o.sibs
theorem flatMap_take {α β : Type} {f : α → List β} {l : List α} {i : Nat} {x : α} (h : l[i]? = some x) : (l.take (i + 1)).flatMap f = (l.take i).flatMap f ++ f x := by
  rw [take_snoc h, List.flatMap_append]; simp
theorem flatMap_take_le {α β : Type} {f : α → List β} (l : List α) (i : Nat) : ((l.take i).flatMap f).length ≤ (l.flatMap f).length := by
  conv => rhs; rw [← List.take_append_drop i l, List.flatMap_append, List.length_append]
  omega
theorem WF.keep {o i : Nat} {a b : Store} {x : AObj} (h : WF o a b) (hx : a.heap i = some x) (hi : i ≠ o) : b.heap i = some x := h.1 i x hi hx
theorem WF.alloc {o i : Nat} {a b : Store} {x : AObj} (h : WF o a b) (hi : b.heap i = none) (ho : i ≠ o) : WF o a (b.set i x) :=
  ⟨fun j y hj hy => by rw [Store.set_ne _ _ (fun hh => by have := h.1 j y hj hy; rw [hh, hi] at this; cases this)]; exact h.1 j y hj hy, fun t n ht hn => ⟨(h.2 t n ht hn).1, fun ⟨a, sz, l, hh⟩ => (h.2 t n ht hn).2 ⟨a, sz, l, by rw [Store.set_ne _ _ (Ne.symm ho)] at hh; exact hh⟩⟩⟩
theorem WR.alloc {o i : Nat} {l : List UInt8} {σ : Store} {x : AObj} (h : WR σ o l) (hi : i ≠ o) : WR (σ.set i x) o l := by
  obtain ⟨a, b, old, h1, h2, h3⟩ := h
  exact ⟨a, b, old, by rw [Store.set_ne _ _ (Ne.symm hi)]; exact h1, h2, h3⟩
theorem WR.alloc2 {o i : Nat} {l : List UInt8} {σ : Store} {x y : AObj} (h : WR σ o l) (hi : i ≠ o) : WR ((σ.set i x).set i y) o l := (h.alloc hi).alloc hi
theorem WF.alloc2 {o i : Nat} {a b : Store} {x y : AObj} (h : WF o a b) (hi : b.heap i = none) (ho : i ≠ o) : WF o a ((b.set i x).set i y) := by
  rw [Store.set_set]; exact h.alloc hi ho
theorem WR.some {o : Nat} {l : List UInt8} {σ : Store} (h : WR σ o l) : ∃ x, σ.heap o = some x := by obtain ⟨a, b, old, h1, _⟩ := h; exact ⟨_, h1⟩

theorem eachInt_c {o G : Nat} {l : List UInt8} {L : List Int} {t : Bool} {σ : Store} {fs cp : List AVal} {wb : Int → List UInt8} (Kp : Store → Prop) (hgo : isGo Tryz.prog G = true) (hK : ∀ τ τ', Kp τ → WF o τ τ' → Kp τ') (ho : WR σ o l) (hKσ : Kp σ)
    (hL : l.length + 4 + (L.flatMap wb).length ≤ 999999999000) (hLb : L.length ≤ 1000000)
    (hf : ∀ τ l x, x ∈ L → WR τ o l → Kp τ → l.length + (wb x).length ≤ 999999999000 → ACalls Tryz.prog G (fs ++ [vInt x] ++ cp) τ fun v τ' => v = .tup [] ∧ WR τ' o (l ++ wb x) ∧ WF o τ τ') :
    ACalls Tryz.prog 103 [.ref o 0, .sl 1 (L.map vInt) t, .fn (.func G) fs cp] σ fun v σ' => v = .tup [] ∧ WR σ' o (l ++ listB wb L) ∧ WF o σ σ' := by
  refine ACalls_of Tryz.func103 rfl Tryz.ntmps103 (congrArg Array.toList Tryz.results103) (by simp only [List.length_cons, List.length_nil]; decide) ?_; simp only [envOf_cons, envOf_nil, Nat.reduceAdd]
  refine awp_seq ?_
  refine awp_region (by kernel_rfl) ?_
  iterate 3 (refine aL_S rfl rfl v_ ?_)
  refine aL_X rfl rfl (AOp_use rfl rfl (.inr ⟨rfl, rfl, rfl⟩) g_ va_ (wrCount_c (n := (L.length : Int)) ho (by omega)) ?_); rintro _ τ0 ⟨rfl, g1, g2⟩
  refine aL_nil ?_
  refine awp_seq ?_
  refine awp_region (by kernel_rfl) ?_
  iterate 3 (refine aL_S rfl rfl v_ ?_)
  refine aL_nil ?_
  refine awp_block ?_
  refine awp_loop_env (ι := Store × Nat) (fun ⟨τ, i⟩ => L.length - i) (fun ⟨τ, i⟩ => i ≤ L.length ∧ WR τ o (l ++ beI 4 L.length ++ (L.take i).flatMap wb) ∧ WF o σ τ) (fun ⟨τ, i⟩ => [(2, .fn (.func G) fs cp), (12, .sl 1 (L.map vInt) t), (13, vInt L.length), (14, vInt i)]) (fun ⟨τ, i⟩ => τ) (τ0, 0) ?_ ?_ ?_ ?_
  · exact ⟨Nat.zero_le _, by simpa using g1, g2⟩
  · exact cv_
  · exact Store.Wk.refl _
  rintro ⟨τ, i⟩ ⟨h1, h2, h3⟩
  simp only [envL_cons, envL_nil]
  refine awp_seq ?_
  refine awp_region (by kernel_rfl) ?_
  (refine aL_S rfl rfl v_ ?_)
  refine aL_nil ?_
  refine awp_seq ?_
  refine awp_cond v_ (fun hc2 => ?_) (fun hc2 => ?_)
  · replace hc2 := nm_ hc2
    refine awp_skip ?_
    refine awp_seq ?_
    refine awp_block ?_
    refine awp_seq ?_
    obtain ⟨x, hx⟩ : ∃ x, L[i]? = some x := ⟨L[i]'(by omega), List.getElem?_eq_getElem _⟩
    have hle := flatMap_take_le (f := wb) L (i + 1)
    rw [flatMap_take hx, List.length_append] at hle
    have hb : (l ++ beI 4 L.length ++ (L.take i).flatMap wb).length + (wb x).length ≤ 999999999000 := by rw [List.length_append, List.length_append, beI_length]; omega
    have hxm := List.mem_of_getElem? hx
    have R := hx
    refine awp_region (by kernel_rfl) ?_
    iterate 3 (refine aL_S rfl rfl v_ ?_)
    refine aL_nil ?_
    skip
    refine awp_region (by kernel_rfl) ?_
    iterate 2 (refine aL_S rfl rfl v_ ?_)
    refine aL_X rfl rfl (AOp_use rfl rfl (.inl v_) g_ va_ (hf _ _ x hxm h2 (hK _ _ hKσ h3) hb) ?_); rintro _ υ ⟨rfl, u1, u2⟩
    refine aL_nil ?_
    refine awp_region (by kernel_rfl) ?_
    iterate 2 (refine aL_S rfl rfl v_ ?_)
    refine aL_nil ?_
    refine aNext (ι := Store × Nat) (i := ⟨τ, i⟩) (υ, i + 1) ?_ ?_ ?_ ?_
    · show L.length - (i + 1) < L.length - i; omega
    · exact ⟨by show i + 1 ≤ L.length; omega, by rw [flatMap_take hx, ← List.append_assoc]; exact u1, WF.trans h3 u2⟩
    · exact cv_
    · exact Store.Wk.refl _
  · replace hc2 := nm_ hc2
    refine awp_exit ?_
    refine aThen_exit ?_
    refine aThen_exit ?_
    refine aBlock_hit ?_
    refine aEnd_nor v_ (Store.Wk.refl _) ?_
    exact ⟨rfl, by rw [listB, ← List.append_assoc]; rwa [List.take_of_length_le (by omega)] at h2, h3⟩
theorem eachSeen_c {o G : Nat} {l : List UInt8} {L : List Seen} {t : Bool} {σ : Store} {fs cp : List AVal} {wb : Seen → List UInt8} (Kp : Store → Prop) (hgo : isGo Tryz.prog G = true) (hK : ∀ τ τ', Kp τ → WF o τ τ' → Kp τ') (ho : WR σ o l) (hKσ : Kp σ)
    (hL : l.length + 4 + (L.flatMap wb).length ≤ 999999999000) (hLb : L.length ≤ 1000000)
    (hf : ∀ τ l x, x ∈ L → WR τ o l → Kp τ → l.length + (wb x).length ≤ 999999999000 → ACalls Tryz.prog G (fs ++ [sSeen x] ++ cp) τ fun v τ' => v = .tup [] ∧ WR τ' o (l ++ wb x) ∧ WF o τ τ') :
    ACalls Tryz.prog 101 [.ref o 0, .sl 3 (L.map sSeen) t, .fn (.func G) fs cp] σ fun v σ' => v = .tup [] ∧ WR σ' o (l ++ listB wb L) ∧ WF o σ σ' := by
  refine ACalls_of Tryz.func101 rfl Tryz.ntmps101 (congrArg Array.toList Tryz.results101) (by simp only [List.length_cons, List.length_nil]; decide) ?_; simp only [envOf_cons, envOf_nil, Nat.reduceAdd]
  refine awp_seq ?_
  refine awp_region (by kernel_rfl) ?_
  iterate 3 (refine aL_S rfl rfl v_ ?_)
  refine aL_X rfl rfl (AOp_use rfl rfl (.inr ⟨rfl, rfl, rfl⟩) g_ va_ (wrCount_c (n := (L.length : Int)) ho (by omega)) ?_); rintro _ τ0 ⟨rfl, g1, g2⟩
  refine aL_nil ?_
  refine awp_seq ?_
  refine awp_region (by kernel_rfl) ?_
  iterate 3 (refine aL_S rfl rfl v_ ?_)
  refine aL_nil ?_
  refine awp_block ?_
  refine awp_loop_env (ι := Store × Nat) (fun ⟨τ, i⟩ => L.length - i) (fun ⟨τ, i⟩ => i ≤ L.length ∧ WR τ o (l ++ beI 4 L.length ++ (L.take i).flatMap wb) ∧ WF o σ τ) (fun ⟨τ, i⟩ => [(2, .fn (.func G) fs cp), (12, .sl 3 (L.map sSeen) t), (13, vInt L.length), (14, vInt i)]) (fun ⟨τ, i⟩ => τ) (τ0, 0) ?_ ?_ ?_ ?_
  · exact ⟨Nat.zero_le _, by simpa using g1, g2⟩
  · exact cv_
  · exact Store.Wk.refl _
  rintro ⟨τ, i⟩ ⟨h1, h2, h3⟩
  simp only [envL_cons, envL_nil]
  refine awp_seq ?_
  refine awp_region (by kernel_rfl) ?_
  (refine aL_S rfl rfl v_ ?_)
  refine aL_nil ?_
  refine awp_seq ?_
  refine awp_cond v_ (fun hc2 => ?_) (fun hc2 => ?_)
  · replace hc2 := nm_ hc2
    refine awp_skip ?_
    refine awp_seq ?_
    refine awp_block ?_
    refine awp_seq ?_
    obtain ⟨x, hx⟩ : ∃ x, L[i]? = some x := ⟨L[i]'(by omega), List.getElem?_eq_getElem _⟩
    have hle := flatMap_take_le (f := wb) L (i + 1)
    rw [flatMap_take hx, List.length_append] at hle
    have hb : (l ++ beI 4 L.length ++ (L.take i).flatMap wb).length + (wb x).length ≤ 999999999000 := by rw [List.length_append, List.length_append, beI_length]; omega
    have hxm := List.mem_of_getElem? hx
    have R := hx
    refine awp_region (by kernel_rfl) ?_
    iterate 2 (refine aL_S rfl rfl v_ ?_)
    refine aL_alloc rfl rfl rfl g_ gl_ fun o7 ho7 => ?_
    repeat (rw [none_set_iff] at ho7; obtain ⟨_, ho7⟩ := ho7)
    refine aL_store rfl rfl rfl v_ v_ h_ g_ rfl g_ c_ (by rfl) le_ v_ ?_
    refine aL_nil ?_
    obtain ⟨xo, hxo⟩ := WR.some h2; have n7 := (ne_of_heap hxo ho7).symm
    refine awp_region (by kernel_rfl) ?_
    iterate 2 (refine aL_S rfl rfl v_ ?_)
    refine aL_X rfl rfl (AOp_use rfl rfl (.inl v_) g_ va_ (hf _ _ x hxm (WR.alloc2 h2 n7) (hK _ _ hKσ (WF.alloc2 h3 ho7 n7)) hb) ?_); rintro _ υ ⟨rfl, u1, u2⟩
    refine aL_nil ?_
    refine awp_region (by kernel_rfl) ?_
    iterate 2 (refine aL_S rfl rfl v_ ?_)
    refine aL_nil ?_
    refine aNext (ι := Store × Nat) (i := ⟨τ, i⟩) (υ, i + 1) ?_ ?_ ?_ ?_
    · show L.length - (i + 1) < L.length - i; omega
    · exact ⟨by show i + 1 ≤ L.length; omega, by rw [flatMap_take hx, ← List.append_assoc]; exact u1, WF.trans (WF.alloc2 h3 ho7 n7) u2⟩
    · exact cv_
    · exact Store.Wk.refl _
  · replace hc2 := nm_ hc2
    refine awp_exit ?_
    refine aThen_exit ?_
    refine aThen_exit ?_
    refine aBlock_hit ?_
    refine aEnd_nor v_ (Store.Wk.refl _) ?_
    exact ⟨rfl, by rw [listB, ← List.append_assoc]; rwa [List.take_of_length_le (by omega)] at h2, h3⟩
theorem eachSib_c {o G : Nat} {l : List UInt8} {L : List Sib} {t : Bool} {σ : Store} {fs cp : List AVal} {wb : Sib → List UInt8} (Kp : Store → Prop) (hgo : isGo Tryz.prog G = true) (hK : ∀ τ τ', Kp τ → WF o τ τ' → Kp τ') (ho : WR σ o l) (hKσ : Kp σ)
    (hL : l.length + 4 + (L.flatMap wb).length ≤ 999999999000) (hLb : L.length ≤ 1000000)
    (hf : ∀ τ l x, x ∈ L → WR τ o l → Kp τ → l.length + (wb x).length ≤ 999999999000 → ACalls Tryz.prog G (fs ++ [sSib x] ++ cp) τ fun v τ' => v = .tup [] ∧ WR τ' o (l ++ wb x) ∧ WF o τ τ') :
    ACalls Tryz.prog 59 [.ref o 0, .sl 5 (L.map sSib) t, .fn (.func G) fs cp] σ fun v σ' => v = .tup [] ∧ WR σ' o (l ++ listB wb L) ∧ WF o σ σ' := by
  refine ACalls_of Tryz.func59 rfl Tryz.ntmps59 (congrArg Array.toList Tryz.results59) (by simp only [List.length_cons, List.length_nil]; decide) ?_; simp only [envOf_cons, envOf_nil, Nat.reduceAdd]
  refine awp_seq ?_
  refine awp_region (by kernel_rfl) ?_
  iterate 3 (refine aL_S rfl rfl v_ ?_)
  refine aL_X rfl rfl (AOp_use rfl rfl (.inr ⟨rfl, rfl, rfl⟩) g_ va_ (wrCount_c (n := (L.length : Int)) ho (by omega)) ?_); rintro _ τ0 ⟨rfl, g1, g2⟩
  refine aL_nil ?_
  refine awp_seq ?_
  refine awp_region (by kernel_rfl) ?_
  iterate 3 (refine aL_S rfl rfl v_ ?_)
  refine aL_nil ?_
  refine awp_block ?_
  refine awp_loop_env (ι := Store × Nat) (fun ⟨τ, i⟩ => L.length - i) (fun ⟨τ, i⟩ => i ≤ L.length ∧ WR τ o (l ++ beI 4 L.length ++ (L.take i).flatMap wb) ∧ WF o σ τ) (fun ⟨τ, i⟩ => [(2, .fn (.func G) fs cp), (12, .sl 5 (L.map sSib) t), (13, vInt L.length), (14, vInt i)]) (fun ⟨τ, i⟩ => τ) (τ0, 0) ?_ ?_ ?_ ?_
  · exact ⟨Nat.zero_le _, by simpa using g1, g2⟩
  · exact cv_
  · exact Store.Wk.refl _
  rintro ⟨τ, i⟩ ⟨h1, h2, h3⟩
  simp only [envL_cons, envL_nil]
  refine awp_seq ?_
  refine awp_region (by kernel_rfl) ?_
  (refine aL_S rfl rfl v_ ?_)
  refine aL_nil ?_
  refine awp_seq ?_
  refine awp_cond v_ (fun hc2 => ?_) (fun hc2 => ?_)
  · replace hc2 := nm_ hc2
    refine awp_skip ?_
    refine awp_seq ?_
    refine awp_block ?_
    refine awp_seq ?_
    obtain ⟨x, hx⟩ : ∃ x, L[i]? = some x := ⟨L[i]'(by omega), List.getElem?_eq_getElem _⟩
    have hle := flatMap_take_le (f := wb) L (i + 1)
    rw [flatMap_take hx, List.length_append] at hle
    have hb : (l ++ beI 4 L.length ++ (L.take i).flatMap wb).length + (wb x).length ≤ 999999999000 := by rw [List.length_append, List.length_append, beI_length]; omega
    have hxm := List.mem_of_getElem? hx
    have R := hx
    refine awp_region (by kernel_rfl) ?_
    iterate 2 (refine aL_S rfl rfl v_ ?_)
    refine aL_alloc rfl rfl rfl g_ gl_ fun o7 ho7 => ?_
    repeat (rw [none_set_iff] at ho7; obtain ⟨_, ho7⟩ := ho7)
    refine aL_store rfl rfl rfl v_ v_ h_ g_ rfl g_ c_ (by rfl) le_ v_ ?_
    refine aL_nil ?_
    obtain ⟨xo, hxo⟩ := WR.some h2; have n7 := (ne_of_heap hxo ho7).symm
    refine awp_region (by kernel_rfl) ?_
    iterate 2 (refine aL_S rfl rfl v_ ?_)
    refine aL_X rfl rfl (AOp_use rfl rfl (.inl v_) g_ va_ (hf _ _ x hxm (WR.alloc2 h2 n7) (hK _ _ hKσ (WF.alloc2 h3 ho7 n7)) hb) ?_); rintro _ υ ⟨rfl, u1, u2⟩
    refine aL_nil ?_
    refine awp_region (by kernel_rfl) ?_
    iterate 2 (refine aL_S rfl rfl v_ ?_)
    refine aL_nil ?_
    refine aNext (ι := Store × Nat) (i := ⟨τ, i⟩) (υ, i + 1) ?_ ?_ ?_ ?_
    · show L.length - (i + 1) < L.length - i; omega
    · exact ⟨by show i + 1 ≤ L.length; omega, by rw [flatMap_take hx, ← List.append_assoc]; exact u1, WF.trans (WF.alloc2 h3 ho7 n7) u2⟩
    · exact cv_
    · exact Store.Wk.refl _
  · replace hc2 := nm_ hc2
    refine awp_exit ?_
    refine aThen_exit ?_
    refine aThen_exit ?_
    refine aBlock_hit ?_
    refine aEnd_nor v_ (Store.Wk.refl _) ?_
    exact ⟨rfl, by rw [listB, ← List.append_assoc]; rwa [List.take_of_length_le (by omega)] at h2, h3⟩

theorem wrInt_m {o : Nat} {l : List UInt8} {σ : Store} {n : Int} (ho : WR σ o l) (hl : l.length + (beI 8 n).length ≤ 999999999000) : ACalls Tryz.prog 21 ([.ref o 0] ++ [vInt n] ++ []) σ fun v σ' => v = .tup [] ∧ WR σ' o (l ++ beI 8 n) ∧ WF o σ σ' := wrInt_c ho (by omega)
theorem flat8_length (l : List Int) : (l.flatMap (beI 8)).length = 8 * l.length := by
  induction l with
  | nil => rfl
  | cons x l ih => rw [List.flatMap_cons, List.length_append, ih, beI_length, List.length_cons]; omega
/-- a Seen that may be written: few bytes, few numbers -/
structure SeenSm (x : Seen) : Prop where
  node : x.node.size ≤ 1000000
  more : x.more.length ≤ 1000000
structure SibSm (x : Sib) : Prop where
  node : x.node.size ≤ 1000000
  value : x.value.size ≤ 1000000
theorem seenB_length (x : Seen) : (seenB x).length = 16 + x.node.size + 8 * x.more.length := by
  simp only [seenB, listB, List.length_append, textB_length, beI_length, flat8_length]; omega
theorem sibB_length (x : Sib) : (sibB x).length = 25 + x.node.size + x.value.size := by
  simp only [sibB, List.length_append, textB_length, beI_length]; omega
theorem flat_le {α : Type} {f : α → List UInt8} {n : Nat} : ∀ (l : List α), (∀ x ∈ l, (f x).length ≤ n) → (l.flatMap f).length ≤ n * l.length
  | [], _ => by simp
  | x :: l, h => by
    have h1 := h x (List.mem_cons_self ..)
    have h2 := flat_le l fun y hy => h y (List.mem_cons_of_mem _ hy)
    rw [List.flatMap_cons, List.length_append, List.length_cons, Nat.mul_succ]; omega

theorem wrSeen_c {o ob : Nat} {l : List UInt8} {x : Seen} {σ : Store} (ho : WR σ o l) (hb : σ.heap ob = some (.cells [.ref o 0])) (hx : SeenSm x) (hl : l.length + (seenB x).length ≤ 999999999000) : ACalls Tryz.prog 102 [sSeen x, .ref ob 0] σ fun v σ' => v = .tup [] ∧ WR σ' o (l ++ seenB x) ∧ WF o σ σ' := by
  have hne : ob ≠ o := fun hh => by obtain ⟨a, b, old, h1, _⟩ := ho; rw [hh, h1] at hb; cases hb
  have h1 := hx.node; have h2 := hx.more
  rw [seenB_length] at hl
  refine ACalls_of Tryz.func102 rfl Tryz.ntmps102 (congrArg Array.toList Tryz.results102) (by simp only [List.length_cons, List.length_nil]; decide) ?_; simp only [envOf_cons, envOf_nil, Nat.reduceAdd]
  refine awp_seq ?_
  refine awp_region (by kernel_rfl) ?_
  refine aL_box rfl rfl rfl v_ rfl g_ fun o2 ho2 => ?_
  repeat (rw [none_set_iff] at ho2; obtain ⟨_, ho2⟩ := ho2)
  refine aL_nil ?_
  obtain ⟨xo, hxo⟩ := WR.some ho
  have n2 := (ne_of_heap hxo ho2).symm
  have n2b := (ne_of_heap hb ho2)
  refine awp_seq ?_
  have R := hb
  refine awp_region (by kernel_rfl) ?_
  iterate 3 (refine aL_S rfl rfl v_ ?_)
  refine aL_X rfl rfl (AOp_use rfl rfl (.inr ⟨rfl, rfl, rfl⟩) g_ va_ (wrText_c (WR.alloc ho n2) (by omega) (by omega)) ?_); rintro _ τ1 ⟨rfl, a1, a2⟩
  refine aL_nil ?_
  refine awp_seq ?_
  have b1 := WF.keep (i := ob) (x := .cells [.ref o 0]) a2 (by simp (disch := omega) only [Store.set_ne, hb]) hne
  have b2 := WF.keep (i := o2) (x := .cells (sSeen x).cells) a2 (Store.set_get ..) n2
  have R := And.intro b1 b2
  refine awp_region (by kernel_rfl) ?_
  iterate 3 (refine aL_S rfl rfl v_ ?_)
  refine aL_X rfl rfl (AOp_use rfl rfl (.inr ⟨rfl, rfl, rfl⟩) g_ va_ (wrInt_c a1 (by simp only [List.length_append, textB_length]; omega)) ?_); rintro _ τ2 ⟨rfl, c1, c2⟩
  refine aL_nil ?_
  have d1 := c2.keep b1 hne
  have d2 := c2.keep b2 n2
  have R := And.intro d1 d2
  refine awp_region (by kernel_rfl) ?_
  iterate 5 (refine aL_S rfl rfl v_ ?_)
  refine aL_X rfl rfl (AOp_use rfl rfl (.inr ⟨rfl, rfl, rfl⟩) g_ va_ (eachInt_c (wb := beI 8) (fun _ => True) (by kernel_rfl) (fun _ _ _ _ => trivial) c1 trivial (by simp only [List.length_append, textB_length, beI_length, flat8_length]; omega) (by omega) (fun _ _ _ _ h _ hl => wrInt_m h hl)) ?_); rintro _ τ3 ⟨rfl, e1, e2⟩
  refine aL_nil ?_
  refine aEnd_nor v_ (Store.Wk.refl _) ?_
  exact ⟨rfl, by simpa [seenB, List.append_assoc] using e1, (WF.alloc WF.refl ho2 n2).trans (a2.trans (c2.trans e2))⟩
def seenSz : Nat := 16 + 1000000 + 8 * 1000000
theorem seenB_le {x : Seen} (h : SeenSm x) : (seenB x).length ≤ 9000016 := by rw [seenB_length]; have := h.node; have := h.more; omega
theorem sibB_le {x : Sib} (h : SibSm x) : (sibB x).length ≤ 2000025 := by rw [sibB_length]; have := h.node; have := h.value; omega
structure ObjSm (x : Obj') : Prop where
  ctx : ∀ y ∈ x.ctx, SeenSm y
  sibs : ∀ y ∈ x.sibs, SibSm y
  nc : x.ctx.length ≤ 1000
  ns : x.sibs.length ≤ 1000
theorem ctxB_le {c : List Seen} (h : ∀ y ∈ c, SeenSm y) (hn : c.length ≤ 1000) : (c.flatMap seenB).length ≤ 9000016000 := by
  have := flat_le (f := seenB) c fun x hx => seenB_le (h x hx)
  have h2 := Nat.mul_le_mul_left 9000016 hn
  omega
theorem sibsB_le {c : List Sib} (h : ∀ y ∈ c, SibSm y) (hn : c.length ≤ 1000) : (c.flatMap sibB).length ≤ 2000025000 := by
  have := flat_le (f := sibB) c fun x hx => sibB_le (h x hx)
  have h2 := Nat.mul_le_mul_left 2000025 hn
  omega
theorem wrCtx_c {o : Nat} {l : List UInt8} {c : List Seen} {t : Bool} {σ : Store} (ho : WR σ o l) (hc : ∀ y ∈ c, SeenSm y) (hn : c.length ≤ 1000) (hl : l.length ≤ 980000000000) : ACalls Tryz.prog 58 [.ref o 0, .sl 3 (c.map sSeen) t] σ fun v σ' => v = .tup [] ∧ WR σ' o (l ++ ctxB c) ∧ WF o σ σ' := by
  have hle := ctxB_le hc hn
  refine ACalls_of Tryz.func58 rfl Tryz.ntmps58 (congrArg Array.toList Tryz.results58) (by simp only [List.length_cons, List.length_nil]; decide) ?_; simp only [envOf_cons, envOf_nil, Nat.reduceAdd]
  refine awp_seq ?_
  refine awp_region (by kernel_rfl) ?_
  refine aL_box rfl rfl rfl v_ rfl g_ fun o2 ho2 => ?_
  repeat (rw [none_set_iff] at ho2; obtain ⟨_, ho2⟩ := ho2)
  refine aL_nil ?_
  obtain ⟨xo, hxo⟩ := WR.some ho
  have n2 := (ne_of_heap hxo ho2).symm
  refine awp_region (by kernel_rfl) ?_
  iterate 3 (refine aL_S rfl rfl v_ ?_)
  refine aL_X rfl rfl (AOp_use rfl rfl (.inr ⟨rfl, rfl, rfl⟩) g_ va_ (eachSeen_c (wb := seenB) (fun τ => τ.heap o2 = some (.cells [.ref o 0])) (by kernel_rfl) (fun _ _ h k => k.keep h n2) (WR.alloc ho n2) (Store.set_get ..) (by omega) (by omega) (fun _ _ _ hm h hb hl => wrSeen_c h hb (hc _ hm) hl)) ?_); rintro _ τ ⟨rfl, a1, a2⟩
  refine aL_nil ?_
  refine aEnd_nor v_ (Store.Wk.refl _) ?_
  exact ⟨rfl, a1, (WF.alloc WF.refl ho2 n2).trans a2⟩

theorem wrSib_c {o ob : Nat} {l : List UInt8} {x : Sib} {σ : Store} (ho : WR σ o l) (hb : σ.heap ob = some (.cells [.ref o 0])) (hx : SibSm x) (hl : l.length + (sibB x).length ≤ 999999999000) : ACalls Tryz.prog 60 [sSib x, .ref ob 0] σ fun v σ' => v = .tup [] ∧ WR σ' o (l ++ sibB x) ∧ WF o σ σ' := by
  have hne : ob ≠ o := fun hh => by obtain ⟨a, b, old, h1, _⟩ := ho; rw [hh, h1] at hb; cases hb
  have h1 := hx.node; have h2 := hx.value
  rw [sibB_length] at hl
  refine ACalls_of Tryz.func60 rfl Tryz.ntmps60 (congrArg Array.toList Tryz.results60) (by simp only [List.length_cons, List.length_nil]; decide) ?_; simp only [envOf_cons, envOf_nil, Nat.reduceAdd]
  refine awp_seq ?_
  refine awp_region (by kernel_rfl) ?_
  refine aL_box rfl rfl rfl v_ rfl g_ fun o2 ho2 => ?_
  repeat (rw [none_set_iff] at ho2; obtain ⟨_, ho2⟩ := ho2)
  refine aL_nil ?_
  obtain ⟨xo, hxo⟩ := WR.some ho
  have n2 := (ne_of_heap hxo ho2).symm
  have n2b := (ne_of_heap hb ho2)
  refine awp_seq ?_
  have R := hb
  refine awp_region (by kernel_rfl) ?_
  iterate 4 (refine aL_S rfl rfl v_ ?_)
  refine aL_X rfl rfl (AOp_use rfl rfl (.inr ⟨rfl, rfl, rfl⟩) g_ va_ (wrText_c (WR.alloc ho n2) (by omega) (by omega)) ?_); rintro _ τ1 ⟨rfl, a1, a2⟩
  refine aL_nil ?_
  refine awp_seq ?_
  have b1 := WF.keep (i := ob) (x := .cells [.ref o 0]) a2 (by simp (disch := omega) only [Store.set_ne, hb]) hne
  have b2 := WF.keep (i := o2) (x := .cells (sSib x).cells) a2 (Store.set_get ..) n2
  have R := And.intro b1 b2
  refine awp_region (by kernel_rfl) ?_
  iterate 4 (refine aL_S rfl rfl v_ ?_)
  refine aL_X rfl rfl (AOp_use rfl rfl (.inr ⟨rfl, rfl, rfl⟩) g_ va_ (wrInt_c a1 (by simp only [List.length_append, textB_length]; omega)) ?_); rintro _ τ2 ⟨rfl, c1, c2⟩
  refine aL_nil ?_
  refine awp_seq ?_
  have d1 := c2.keep b1 hne
  have d2 := c2.keep b2 n2
  have R := And.intro d1 d2
  refine awp_region (by kernel_rfl) ?_
  iterate 3 (refine aL_S rfl rfl v_ ?_)
  refine aL_X rfl rfl (AOp_use rfl rfl (.inr ⟨rfl, rfl, rfl⟩) g_ va_ (wrText_c c1 (by simp only [List.length_append, textB_length, beI_length]; omega) (by omega)) ?_); rintro _ τ3 ⟨rfl, e1, e2⟩
  refine aL_nil ?_
  refine awp_seq ?_
  have f1 := e2.keep d1 hne
  have f2 := e2.keep d2 n2
  refine awp_region (by kernel_rfl) ?_
  (refine aL_S rfl rfl v_ ?_)
  refine aL_nil ?_
  refine awp_seq_mid (ι := Unit) (fun _ => True) (fun _ => [(1, .ref ob 0), (2, .ref o2 0), (3, vInt (goneI x.gone))]) (fun _ => τ3) ?_ ?_
  · refine awp_seq ?_
    have R := f2
    refine awp_region (by kernel_rfl) ?_
    iterate 2 (refine aL_S rfl rfl v_ ?_)
    refine aL_nil ?_
    refine awp_cond v_ (fun hc5 => ?_) (fun hc5 => ?_)
    · replace hc5 := nm_ hc5
      have hg1 : goneI x.gone = 1 := by rw [hc5]; rfl
      refine awp_region (by kernel_rfl) ?_
      (refine aL_S rfl rfl v_ ?_)
      refine aL_nil ?_
      refine ⟨(), ?_, ?_, ?_⟩
      · trivial
      · have R := hg1; exact cv_
      · exact Store.Wk.refl _
    · replace hc5 := nm_ hc5
      have hg2 : goneI x.gone = 0 := by rw [hc5]; rfl
      refine awp_skip ?_
      refine ⟨(), ?_, ?_, ?_⟩
      · trivial
      · have R := hg2; exact cv_
      · exact Store.Wk.refl _
  · rintro _ _
    simp only [envL_cons, envL_nil]
    refine awp_seq ?_
    have R := f1
    refine awp_region (by kernel_rfl) ?_
    iterate 2 (refine aL_S rfl rfl v_ ?_)
    refine aL_X rfl rfl (AOp_use rfl rfl (.inr ⟨rfl, rfl, rfl⟩) g_ va_ (wrByte_c e1 (by simp only [List.length_append, textB_length, beI_length]; omega)) ?_); rintro _ τ4 ⟨rfl, g1, g2⟩
    refine aL_nil ?_
    have i1 := g2.keep f1 hne
    have i2 := g2.keep f2 n2
    have R := And.intro i1 i2
    refine awp_region (by kernel_rfl) ?_
    iterate 3 (refine aL_S rfl rfl v_ ?_)
    refine aL_X rfl rfl (AOp_use rfl rfl (.inr ⟨rfl, rfl, rfl⟩) g_ va_ (wrInt_c g1 (by simp only [List.length_append, textB_length, beI_length]; omega)) ?_); rintro _ τ5 ⟨rfl, k1, k2⟩
    refine aL_nil ?_
    refine aEnd_nor v_ (Store.Wk.refl _) ?_
    exact ⟨rfl, by simpa [sibB, List.append_assoc] using k1, (WF.alloc WF.refl ho2 n2).trans (a2.trans (c2.trans (e2.trans (g2.trans k2))))⟩
theorem wrObj_c {o : Nat} {l : List UInt8} {x : Obj'} {σ : Store} (ho : WR σ o l) (hx : ObjSm x) (hl : l.length ≤ 900000000000) : ACalls Tryz.prog 22 [.ref o 0, sObj x] σ fun v σ' => v = .tup [] ∧ WR σ' o (l ++ objB x) ∧ WF o σ σ' := by
  have hle := ctxB_le hx.ctx hx.nc
  have hle2 := sibsB_le hx.sibs hx.ns
  have hn := hx.ns
  refine ACalls_of Tryz.func22 rfl Tryz.ntmps22 (congrArg Array.toList Tryz.results22) (by simp only [List.length_cons, List.length_nil]; decide) ?_; simp only [envOf_cons, envOf_nil, Nat.reduceAdd]
  refine awp_seq ?_
  refine awp_region (by kernel_rfl) ?_
  refine aL_box rfl rfl rfl v_ rfl g_ fun o2 ho2 => ?_
  repeat (rw [none_set_iff] at ho2; obtain ⟨_, ho2⟩ := ho2)
  refine aL_box rfl rfl rfl v_ rfl g_ fun o3 ho3 => ?_
  repeat (rw [none_set_iff] at ho3; obtain ⟨_, ho3⟩ := ho3)
  refine aL_nil ?_
  obtain ⟨xo, hxo⟩ := WR.some ho
  have n2 := (ne_of_heap hxo ho2).symm
  have n3 := (ne_of_heap hxo ho3).symm
  have wf := WF.alloc (x := .cells (sObj x).cells) (WF.alloc (x := .cells [.ref o 0]) WF.refl ho2 n2) (i := o3) (by simp (disch := omega) only [Store.set_ne, ho3]) n3
  refine awp_seq ?_
  refine awp_region (by kernel_rfl) ?_
  iterate 3 (refine aL_S rfl rfl v_ ?_)
  refine aL_X rfl rfl (AOp_use rfl rfl (.inr ⟨rfl, rfl, rfl⟩) g_ va_ (wrCtx_c (WR.alloc (WR.alloc ho n2) n3) hx.ctx hx.nc (by omega)) ?_); rintro _ τ1 ⟨rfl, a1, a2⟩
  refine aL_nil ?_
  have b1 := WF.keep (i := o2) (x := .cells [.ref o 0]) a2 h_ n2
  have b2 := WF.keep (i := o3) (x := .cells (sObj x).cells) a2 h_ n3
  have R := And.intro b1 b2
  refine awp_region (by kernel_rfl) ?_
  iterate 4 (refine aL_S rfl rfl v_ ?_)
  refine aL_X rfl rfl (AOp_use rfl rfl (.inr ⟨rfl, rfl, rfl⟩) g_ va_ (eachSib_c (wb := sibB) (fun τ => τ.heap o2 = some (.cells [.ref o 0])) (by kernel_rfl) (fun _ _ h k => k.keep h n2) a1 b1 (by simp only [List.length_append, ctxB, listB, beI_length]; omega) (by omega) (fun _ _ _ hm h hb hl => wrSib_c h hb (hx.sibs _ hm) hl)) ?_); rintro _ τ2 ⟨rfl, c1, c2⟩
  refine aL_nil ?_
  refine aEnd_nor v_ (Store.Wk.refl _) ?_
  exact ⟨rfl, by simpa [objB, List.append_assoc] using c1, wf.trans (a2.trans c2)⟩
end Go.Proofs.YtbjloippgpilcaaGreat
end
