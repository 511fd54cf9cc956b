/-
  Where a node stands in a context; What is known of a node by two; contexts joined; Contexts joined; a dot added. Own work (an AI agent).
-/
import Derived.Test.YtbjloippgpilcaaGreatGN
import Derived.Test.YtbjloippgpilcaaGreatGF

section
set_option linter.all false
set_option maxRecDepth 100000
namespace Go.Proofs.YtbjloippgpilcaaGreat
open Go.Ab

theorem wrap_u64_m (n : Int) (h0 : 0 ≤ n) (h1 : n ≤ 18446744073709551615) : IntKind.u64.wrap n = n := by
  unfold IntKind.wrap
  simp only [IntKind.bits, IntKind.signed, Bool.false_and]
  have e1 : (2 : Int) ^ 64 = 18446744073709551616 := by decide
  simp only [e1]
  exact Int.emod_eq_of_lt h0 (by omega)
theorem sLt_def (a b : ByteArray) : sLt a b = decide (Lb a < Lb b) := by rw [sLt, bytesLess_eq, Lib.toList_data, Lib.toList_data]; rfl
theorem sLt_irrefl (a : ByteArray) : sLt a a = false := by rw [sLt_def]; simp [List.lt_irrefl]
theorem sLt_trans {a b c : ByteArray} (h : sLt a b = true) (k : sLt b c = true) : sLt a c = true := by
  rw [sLt_def, decide_eq_true_eq] at *
  exact List.lt_trans h k
theorem sLt_ne {a b : ByteArray} (h : sLt a b = true) : a ≠ b := fun hh => by rw [hh, sLt_irrefl] at h; cases h
theorem sLt_tri {a b : ByteArray} (h : sLt a b = false) (hn : a ≠ b) : sLt b a = true := by
  rw [sLt_def, decide_eq_false_iff_not] at h
  rw [sLt_def, decide_eq_true_eq]
  by_cases k : Lb b < Lb a
  · exact k
  · exact absurd (Lb_inj (List.le_antisymm (List.not_lt.1 k) (List.not_lt.1 h))) hn
theorem sLt_asymm {a b : ByteArray} (h : sLt a b = true) : sLt b a = false := by
  cases k : sLt b a with
  | false => rfl
  | true => have := sLt_trans h k; rw [sLt_irrefl] at this; cases this
/-- nodes that rise -/
def RiseC (c : List Seen) : Prop := ∀ (j k : Nat) (x y : Seen), j < k → c[j]? = some x → c[k]? = some y → sLt x.node y.node = true
theorem ctxGo_rise : ∀ (l : List Seen) (pv : Option ByteArray) (room : Int), ctxGo pv room l = true → (∀ p, pv = some p → ∀ x ∈ l, sLt p x.node = true) ∧ RiseC l
  | [], _, _, _ => ⟨(fun _ _ x hx => by cases hx), fun j k x y _ h => by simp at h⟩
  | x :: l, pv, room, h => by
    simp only [ctxGo, Bool.and_eq_true, decide_eq_true_eq] at h
    obtain ⟨⟨⟨h1, h2⟩, h3⟩, h4⟩ := h
    obtain ⟨g1, g2⟩ := ctxGo_rise l _ _ h4
    have g3 := g1 _ rfl
    refine ⟨fun p hp y hy => ?_, fun j k y z hjk hj hk => ?_⟩
    · subst hp
      have h5 : sLt p x.node = true := h2
      rcases List.mem_cons.1 hy with rfl | hy
      · exact h5
      · exact sLt_trans h5 (g3 y hy)
    · cases k with
      | zero => omega
      | succ k =>
        cases j with
        | zero =>
          simp only [List.getElem?_cons_zero, Option.some.injEq] at hj
          subst hj
          exact g3 z (List.mem_of_getElem? hk)
        | succ j => exact g2 j k y z (by omega) hj hk
theorem ctxOk_rise {c : List Seen} (h : ctxOk c = true) : RiseC c := (ctxGo_rise c _ _ h).2
def seen0 (s : ByteArray) : Seen := ⟨s, 0, []⟩
def ofS (c : List Seen) (s : ByteArray) : Seen := match c.find? (fun x => decide (x.node = s)) with | some x => x | none => seen0 s
theorem find_at {α : Type} {f : α → Bool} : ∀ {l : List α} {r : Nat} {x : α}, l[r]? = some x → f x = true → (∀ m y, m < r → l[m]? = some y → f y = false) → l.find? f = some x
  | [], r, x, h, _, _ => by simp at h
  | a :: l, 0, x, h, hx, _ => by
    simp only [List.getElem?_cons_zero, Option.some.injEq] at h
    subst h
    rw [List.find?_cons_of_pos hx]
  | a :: l, r + 1, x, h, hx, hm => by
    rw [List.find?_cons_of_neg (by rw [hm 0 a (by omega) rfl]; simp)]
    exact find_at (r := r) h hx fun m y hmr hy => hm (m + 1) y (by omega) hy
theorem cmpS_neg {a b : ByteArray} : (cmpS a b < 0) ↔ sLt a b = true := by
  unfold cmpS
  cases h : sLt a b with
  | true => simp
  | false => by_cases h2 : a = b <;> simp [h2]
theorem cmpS_zero {a b : ByteArray} : (cmpS a b = 0) ↔ a = b := by
  unfold cmpS
  cases h : sLt a b with
  | true => simp; intro hh; rw [hh, sLt_irrefl] at h; cases h
  | false => by_cases h2 : a = b <;> simp [h2]

theorem place1_c {x : Seen} {s : ByteArray} {σ : Store} : ACalls Tryz.prog 172 [sSeen x, vStr s] σ fun v σ' => v = vInt (cmpS x.node s) ∧ σ = σ' := by
  refine ACalls_of Tryz.func172 rfl Tryz.ntmps172 (congrArg Array.toList Tryz.results172) (by simp only [List.length_cons, List.length_nil]; decide) ?_; simp only [envOf_cons, envOf_nil, Nat.reduceAdd]
  refine awp_seq ?_
  refine awp_region (by kernel_rfl) ?_
  refine aL_box rfl rfl rfl v_ rfl g_ fun o2 ho2 => ?_
  repeat (rw [none_set_iff] at ho2; obtain ⟨_, ho2⟩ := ho2)
  (refine aL_S rfl rfl v_ ?_)
  refine aL_nil ?_
  refine awp_seq ?_
  refine awp_region (by kernel_rfl) ?_
  iterate 3 (refine aL_S rfl rfl v_ ?_)
  refine aL_X rfl rfl (AOp_use rfl rfl (.inr ⟨rfl, rfl, rfl⟩) g_ va_ (strCompare_c) ?_); rintro _ _ ⟨rfl, rfl⟩
  (refine aL_S rfl rfl v_ ?_)
  refine aL_nil ?_
  refine awp_ret ?_
  refine aEnd_ret (σ' := σ) v_ sub_ ?_
  exact ⟨rfl, rfl⟩
@[go_sem] theorem aint_shr_u64 (k' : IntKind) (a b : Int) (h0 : 0 ≤ b) (h1 : b ≤ 64) : aint .shr .u64 a k' b = some (.int .u64 (a / 2 ^ b.toNat)) := aint_shr_k .u64 k' a b h0 h1
def Lo (c : List Seen) (s : ByteArray) (i : Nat) : Prop := ∀ m x, m < i → c[m]? = some x → sLt x.node s = true
def Hi (c : List Seen) (s : ByteArray) (j : Nat) : Prop := ∀ m x, j ≤ m → c[m]? = some x → sLt x.node s = false
theorem bsearch_c {c : List Seen} {s : ByteArray} {t : Bool} {σ : Store} (hr : RiseC c) (hn : c.length ≤ 1000000) :
    ACalls Tryz.prog 171 [.sl 3 (c.map sSeen) t, vStr s, .lit (.func (.func 172) #[] #[])] σ fun v σ' => (∃ r : Nat, ∃ b : Bool, v = .tup [vInt r, vB b] ∧ r ≤ c.length ∧ Lo c s r ∧ Hi c s r ∧ (b = true ↔ ∃ x, c[r]? = some x ∧ x.node = s)) ∧ σ = σ' := by
  refine ACalls_of Tryz.func171 rfl Tryz.ntmps171 (congrArg Array.toList Tryz.results171) (by simp only [List.length_cons, List.length_nil]; decide) ?_; simp only [envOf_cons, envOf_nil, Nat.reduceAdd]
  refine awp_seq ?_
  refine awp_region (by kernel_rfl) ?_
  iterate 2 (refine aL_S rfl rfl v_ ?_)
  refine aL_nil ?_
  refine awp_seq ?_
  refine awp_region (by kernel_rfl) ?_
  iterate 3 (refine aL_S rfl rfl v_ ?_)
  refine aL_nil ?_
  refine awp_seq ?_
  refine awp_region (by kernel_rfl) ?_
  iterate 3 (refine aL_S rfl rfl v_ ?_)
  refine aL_nil ?_
  refine awp_seq ?_
  refine awp_block ?_
  refine awp_loop_env (ι := Nat × Nat) (fun ⟨i, j⟩ => j - i) (fun ⟨i, j⟩ => i ≤ j ∧ j ≤ c.length ∧ Lo c s i ∧ Hi c s j) (fun ⟨i, j⟩ => [(0, .sl 3 (c.map sSeen) t), (1, vStr s), (2, .lit (.func (.func 172) #[] #[])), (8, vInt c.length), (9, vInt i), (10, vInt j)]) (fun ⟨i, j⟩ => σ) (0, c.length) ?_ ?_ ?_ ?_
  · exact ⟨Nat.zero_le _, Nat.le_refl _, (fun m x h => by omega), fun m x h hx => by rw [List.getElem?_eq_none (by omega)] at hx; cases hx⟩
  · exact cv_
  · exact sub_
  rintro ⟨i, j⟩ ⟨hij, hj, hlo, hhi⟩
  simp only [envL_cons, envL_nil]
  refine awp_seq ?_
  refine awp_seq ?_
  refine awp_region (by kernel_rfl) ?_
  iterate 3 (refine aL_S rfl rfl v_ ?_)
  refine aL_nil ?_
  refine awp_cond v_ (fun hc3 => ?_) (fun hc3 => ?_)
  · replace hc3 := nm_ hc3
    refine awp_skip ?_
    refine awp_block ?_
    refine awp_seq ?_
    have hdiv : ((i : Int) + j) / 2 ^ 1 = (((i + j) / 2 : Nat) : Int) := by omega
    obtain ⟨x, hx⟩ := get_some (l := c) (k := (i + j) / 2) (by omega)
    have R := And.intro wrap_u64_m hdiv
    refine awp_region (by kernel_rfl) ?_
    iterate 7 (refine aL_S rfl rfl v_ ?_)
    refine aL_nil ?_
    refine awp_seq ?_
    have R := hx
    refine awp_region (by kernel_rfl) ?_
    iterate 6 (refine aL_S rfl rfl v_ ?_)
    refine aL_X rfl rfl (AOp_use rfl rfl (.inr ⟨va_, rfl, rfl⟩) g_ va_ (place1_c) ?_); rintro _ _ ⟨rfl, rfl⟩
    (refine aL_S rfl rfl v_ ?_)
    refine aL_nil ?_
    refine awp_cond v_ (fun hc5 => ?_) (fun hc5 => ?_)
    · replace hc5 := nm_ hc5
      have hlt := cmpS_neg.1 hc5
      have hlo' : Lo c s ((i + j) / 2 + 1) := fun m y hm hy => by
        rcases Nat.lt_or_eq_of_le (Nat.le_of_lt_succ hm) with h | h
        · exact sLt_trans (hr _ _ _ _ h hy hx) hlt
        · rw [h, hx] at hy; obtain rfl := Option.some.inj hy; exact hlt
      refine awp_region (by kernel_rfl) ?_
      iterate 3 (refine aL_S rfl rfl v_ ?_)
      refine aL_nil ?_
      refine aNext (ι := Nat × Nat) (i := ⟨i, j⟩) ((i + j) / 2 + 1, j) ?_ ?_ ?_ ?_
      · show j - ((i + j) / 2 + 1) < j - i; omega
      · exact ⟨by show (i + j) / 2 + 1 ≤ j; omega, hj, hlo', hhi⟩
      · have R := hdiv; exact cv_
      · exact sub_
    · replace hc5 := nm_ hc5
      skip
      have hge : sLt x.node s = false := by
        cases h : sLt x.node s with
        | false => rfl
        | true => have := cmpS_neg.2 h; omega
      have hhi' : Hi c s ((i + j) / 2) := fun m y hm hy => by
        rcases Nat.lt_or_eq_of_le hm with h | h
        · cases k : sLt y.node s with
          | false => rfl
          | true => rw [sLt_trans (hr _ _ _ _ h hx hy) k] at hge; cases hge
        · rw [← h, hx] at hy; obtain rfl := Option.some.inj hy; exact hge
      refine awp_region (by kernel_rfl) ?_
      iterate 2 (refine aL_S rfl rfl v_ ?_)
      refine aL_nil ?_
      refine aNext (ι := Nat × Nat) (i := ⟨i, j⟩) (i, (i + j) / 2) ?_ ?_ ?_ ?_
      · show (i + j) / 2 - i < j - i; omega
      · exact ⟨by show i ≤ (i + j) / 2; omega, by show (i + j) / 2 ≤ c.length; omega, hlo, hhi'⟩
      · have R := hdiv; exact cv_
      · exact sub_
  · replace hc3 := nm_ hc3
    refine awp_exit ?_
    refine aThen_exit ?_
    refine aThen_exit ?_
    refine aBlock_hit ?_
    refine awp_seq ?_
    skip
    obtain rfl : i = j := by omega
    obtain ⟨x, hx⟩ : ∃ x : Seen, i < c.length → c[i]? = some x := by
      by_cases h : i < c.length
      · exact ⟨c[i], fun _ => List.getElem?_eq_getElem h⟩
      · exact ⟨seen0 s, fun h' => absurd h' h⟩
    have R := hx
    refine awp_region (by kernel_rfl) ?_
    iterate 5 (refine aL_S rfl rfl v_ ?_)
    refine aL_GT rfl rfl v_ rfl vg_ ?_
    refine aL_GT rfl rfl v_ rfl vg_ ?_
    refine aL_GT rfl rfl v_ rfl vg_ ?_
    refine aL_GT rfl rfl v_ rfl vg_ ?_
    refine aL_GT rfl rfl v_ rfl vg_ ?_
    refine aL_GT rfl rfl v_ rfl vg_ ?_
    refine aL_GTX rfl rfl v_ rfl (fun hb => AOp_useV (by rfl) (by rfl) (.inr ⟨vh_, by rfl, by rfl⟩) g_ cg_ (place1_c)) ?_
    refine aL_GT rfl rfl v_ rfl vg_ ?_
    iterate 3 (refine aL_S rfl rfl v_ ?_)
    refine aL_nil ?_
    refine awp_ret ?_
    refine aEnd_ret (σ' := σ) v_ sub_ ?_
    refine ⟨⟨i, _, rfl, hj, hlo, hhi, ?_⟩, rfl⟩
    rw [Bool.and_eq_true, decide_eq_true_eq, decide_eq_true_eq, cmpS_zero]
    constructor
    · rintro ⟨h1, h2⟩; exact ⟨x, hx (by omega), h2⟩
    · rintro ⟨y, hy, h2⟩
      have h1 := (List.getElem?_eq_some_iff.1 hy).1
      rw [hx h1] at hy
      obtain rfl := Option.some.inj hy
      exact ⟨by omega, h2⟩
theorem place_c {c : List Seen} {s : ByteArray} {t : Bool} {σ : Store} (hr : RiseC c) (hn : c.length ≤ 1000000) :
    ACalls Tryz.prog 155 [.sl 3 (c.map sSeen) t, vStr s] σ fun v σ' => (∃ r : Nat, ∃ b : Bool, v = .tup [vInt r, vB b] ∧ r ≤ c.length ∧ Lo c s r ∧ Hi c s r ∧ (b = true ↔ ∃ x, c[r]? = some x ∧ x.node = s)) ∧ σ = σ' := by
  refine ACalls_of Tryz.func155 rfl Tryz.ntmps155 (congrArg Array.toList Tryz.results155) (by simp only [List.length_cons, List.length_nil]; decide) ?_; simp only [envOf_cons, envOf_nil, Nat.reduceAdd]
  refine awp_seq ?_
  refine awp_region (by kernel_rfl) ?_
  iterate 2 (refine aL_S rfl rfl v_ ?_)
  refine aL_nil ?_
  refine awp_seq ?_
  refine awp_region (by kernel_rfl) ?_
  iterate 2 (refine aL_S rfl rfl v_ ?_)
  refine aL_X rfl rfl (AOp_use rfl rfl (.inr ⟨rfl, rfl, rfl⟩) g_ va_ (bsearch_c hr hn) ?_); rintro _ _ ⟨⟨r, b, rfl, h1, h2, h3, h4⟩, rfl⟩
  iterate 4 (refine aL_S rfl rfl v_ ?_)
  refine aL_nil ?_
  refine awp_ret ?_
  refine aEnd_ret (σ' := σ) v_ sub_ ?_
  exact ⟨⟨r, b, rfl, h1, h2, h3, h4⟩, rfl⟩
theorem ofS_yes {c : List Seen} {s : ByteArray} {r : Nat} {x : Seen} (hlo : Lo c s r) (hx : c[r]? = some x) (he : x.node = s) : ofS c s = x := by
  unfold ofS
  rw [find_at (r := r) hx (by simp [he]) fun m y hm hy => decide_eq_false (sLt_ne (hlo m y hm hy))]
theorem ofS_no {c : List Seen} {s : ByteArray} {r : Nat} (hr : RiseC c) (hlo : Lo c s r) (hhi : Hi c s r) (hn : ¬ ∃ x, c[r]? = some x ∧ x.node = s) : ofS c s = seen0 s := by
  unfold ofS
  rw [List.find?_eq_none.2 fun y hy => ?_]
  obtain ⟨m, hm⟩ := List.mem_iff_getElem?.1 hy
  simp only [decide_eq_true_eq]
  intro he
  rcases Nat.lt_or_ge m r with h | h
  · exact sLt_ne (hlo m y h hm) he
  · rcases Nat.lt_or_eq_of_le h with h | h
    · obtain ⟨z, hz⟩ := get_some (l := c) (k := r) (by have := (List.getElem?_eq_some_iff.1 hm).1; omega)
      have h1 := hr _ _ _ _ h hz hm
      rw [he, hhi r z (Nat.le_refl _) hz] at h1
      cases h1
    · exact hn ⟨y, by rw [h]; exact hm, he⟩
theorem of_c {c : List Seen} {s : ByteArray} {t : Bool} {σ : Store} (hr : RiseC c) (hn : c.length ≤ 1000000) :
    ACalls Tryz.prog 144 [.sl 3 (c.map sSeen) t, vStr s] σ fun v σ' => v = sSeen (ofS c s) ∧ σ = σ' := by
  refine ACalls_of Tryz.func144 rfl Tryz.ntmps144 (congrArg Array.toList Tryz.results144) (by simp only [List.length_cons, List.length_nil]; decide) ?_; simp only [envOf_cons, envOf_nil, Nat.reduceAdd]
  refine awp_seq ?_
  refine awp_region (by kernel_rfl) ?_
  refine aL_alloc rfl rfl rfl g_ gl_ fun o4 ho4 => ?_
  repeat (rw [none_set_iff] at ho4; obtain ⟨_, ho4⟩ := ho4)
  refine aL_nil ?_
  refine awp_seq ?_
  refine awp_region (by kernel_rfl) ?_
  iterate 2 (refine aL_S rfl rfl v_ ?_)
  refine aL_X rfl rfl (AOp_use rfl rfl (.inr ⟨rfl, rfl, rfl⟩) g_ va_ (place_c hr hn) ?_); rintro _ _ ⟨⟨r, b, rfl, h1, h2, h3, h4⟩, rfl⟩
  iterate 5 (refine aL_S rfl rfl v_ ?_)
  refine aL_nil ?_
  refine awp_seq ?_
  refine awp_seq ?_
  refine awp_region (by kernel_rfl) ?_
  iterate 2 (refine aL_S rfl rfl v_ ?_)
  refine aL_nil ?_
  refine awp_cond v_ (fun hc2 => ?_) (fun hc2 => ?_)
  · replace hc2 := nm_ hc2
    refine awp_seq ?_
    refine awp_region (by kernel_rfl) ?_
    iterate 2 (refine aL_S rfl rfl v_ ?_)
    refine aL_store rfl rfl rfl v_ v_ h_ g_ rfl g_ c_ (by rfl) le_ v_ ?_
    refine aL_nil ?_
    refine awp_ret ?_
    have hb : b = false := hc2
    have hno := ofS_no hr h2 h3 (fun hh => by rw [h4.2 hh] at hb; cases hb)
    rw [hno]
    exact aEnd_retW (v := sSeen (seen0 s)) (v' := .agg [vStr s, vInt 0, vNil]) va_ (.agg _ _ rfl (fun i hi hi' => by match i, hi with | 0, _ => exact .refl _ | 1, _ => exact .refl _ | 2, _ => exact .nil _ _)) sub_ ⟨rfl, rfl⟩
  · replace hc2 := nm_ hc2
    refine awp_skip ?_
    refine awp_seq ?_
    obtain ⟨x, hx, he⟩ := h4.1 hc2
    have h5 := (List.getElem?_eq_some_iff.1 hx).1
    have R := hx
    refine awp_region (by kernel_rfl) ?_
    iterate 4 (refine aL_S rfl rfl v_ ?_)
    refine aL_store rfl rfl rfl v_ v_ h_ g_ rfl g_ c_ (by rfl) le_ v_ ?_
    refine aL_nil ?_
    refine awp_ret ?_
    refine aEnd_ret (σ' := σ) v_ sub_ ?_
    exact ⟨by rw [ofS_yes h2 hx he], rfl⟩
end Go.Proofs.YtbjloippgpilcaaGreat
end

section
set_option linter.all false
set_option maxRecDepth 100000
namespace Go.Proofs.YtbjloippgpilcaaGreat
open Go.Ab

theorem set_swap {σ : Store} {i j : Nat} {x y : AObj} (h : i ≠ j) : (σ.set i x).set j y = (σ.set j y).set i x := by
  unfold Store.set
  congr 1
  funext k
  by_cases h1 : k = j
  · subst h1; simp [Ne.symm h]
  · by_cases h2 : k = i
    · subst h2; simp [h]
    · simp [h1, h2]
theorem cbp_set {σ0 σ : Store} {sz : Nat} {l : List AVal} {a : AVal} (h : CBp σ0 σ sz l a) {i : Nat} {x : AObj} (hi : σ.heap i = none) : CBp (σ0.set i x) (σ.set i x) sz l a := by
  rcases h with ⟨h1, h2, rfl⟩ | ⟨o, ho, h1, rfl⟩
  · exact .inl ⟨h1, h2, rfl⟩
  · have hne : i ≠ o := fun hh => by rw [hh, Store.set_get] at hi; cases hi
    exact .inr ⟨o, by rw [Store.set_ne _ _ (Ne.symm hne)]; exact ho, h1, set_swap (Ne.symm hne)⟩
theorem cbp_set2 {σ0 σ : Store} {sz : Nat} {l : List AVal} {a : AVal} (h : CBp σ0 σ sz l a) {i : Nat} {x y : AObj} (hi : σ.heap i = none) : CBp (σ0.set i y) ((σ.set i x).set i y) sz l a := by
  rw [Store.set_set]; exact cbp_set h hi
def bstep (st : Int × List Int) (n : Int) : Int × List Int := if n = st.1 + 1 then (n, st.2) else if st.1 < n then (st.1, st.2 ++ [n]) else st
def onceI (l : List Int) : List Int := Lib.compact (sortII l)
def bothF (a b : Seen) : Int × List Int := (onceI (a.more ++ b.more)).foldl bstep (max a.base b.base, [])
def bothS (a b : Seen) : Seen := ⟨a.node, (bothF a b).1, (bothF a b).2⟩
structure SeenBd (x : Seen) : Prop where
  lo : 0 ≤ x.base
  hi : x.base ≤ 9007199254740992
  more : ∀ n ∈ x.more, n ≤ 9007199254740992
  len : x.more.length ≤ 1000000
theorem compact_le {α : Type} [DecidableEq α] [Inhabited α] (zs : List α) : (Lib.compact zs).length ≤ zs.length := by
  unfold Lib.compact Lib.compactUpTo
  rw [List.length_map]
  exact Nat.le_trans (List.length_filter_le _ _) (by simp)
theorem compact_mem {α : Type} [DecidableEq α] [Inhabited α] {zs : List α} {x : α} (h : x ∈ Lib.compact zs) : x ∈ zs := by
  unfold Lib.compact Lib.compactUpTo at h
  obtain ⟨j, hj, rfl⟩ := List.mem_map.1 h
  have := (List.mem_filter.1 hj).1
  rw [List.mem_range] at this
  simp [this]
theorem onceI_len (l : List Int) : (onceI l).length ≤ l.length := by
  unfold onceI sortII
  exact Nat.le_trans (compact_le _) (by simp)
theorem onceI_mem {l : List Int} {x : Int} (h : x ∈ onceI l) : x ∈ l := by
  have := compact_mem h
  unfold sortII at this
  exact List.mem_mergeSort.1 this
theorem both_c {a b : Seen} {σ : Store} (ha : SeenBd a) (hb : SeenBd b) : ACalls Tryz.prog 143 [sSeen a, sSeen b] σ fun v σ' => v = sSeen (bothS a b) ∧ σ = σ' := by
  have h1 := ha.len; have h2 := hb.len; have h3 := ha.lo; have h4 := hb.lo; have h5 := ha.hi; have h6 := hb.hi
  have hol := onceI_len (a.more ++ b.more)
  rw [List.length_append] at hol
  have hom : ∀ n ∈ onceI (a.more ++ b.more), n ≤ 9007199254740992 := fun n hn => by
    rcases List.mem_append.1 (onceI_mem hn) with h | h
    · exact ha.more n h
    · exact hb.more n h
  refine ACalls_of Tryz.func143 rfl Tryz.ntmps143 (congrArg Array.toList Tryz.results143) (by simp only [List.length_cons, List.length_nil]; decide) ?_; simp only [envOf_cons, envOf_nil, Nat.reduceAdd]
  refine awp_seq ?_
  refine awp_region (by kernel_rfl) ?_
  refine aL_box rfl rfl rfl v_ rfl g_ fun o2 ho2 => ?_
  repeat (rw [none_set_iff] at ho2; obtain ⟨_, ho2⟩ := ho2)
  refine aL_box rfl rfl rfl v_ rfl g_ fun o3 ho3 => ?_
  repeat (rw [none_set_iff] at ho3; obtain ⟨_, ho3⟩ := ho3)
  refine aL_alloc rfl rfl rfl g_ gl_ fun o4 ho4 => ?_
  repeat (rw [none_set_iff] at ho4; obtain ⟨_, ho4⟩ := ho4)
  refine aL_nil ?_
  refine awp_seq ?_
  refine awp_region (by kernel_rfl) ?_
  iterate 4 (refine aL_S rfl rfl v_ ?_)
  refine aL_buildSlice rfl rfl rfl g_ g_ rfl rfl h_ c2_ (by decide) ?_
  refine aL_X rfl rfl (AOp_use rfl rfl (.inr ⟨rfl, rfl, rfl⟩) g_ va_ (concatInt_c (L1 := a.more) (L2 := b.more) (by omega) (by omega)) ?_); rintro _ τ0 hC0
  rename_i b0
  have hs0 := hC0.sub
  have e2 := hs0.heap o2 _ h_
  have e3 := hs0.heap o3 _ h_
  have e4 := hs0.heap o4 _ h_
  have st0 : SubX [] σ τ0 := SubX.trans (subx_new ho4 (subx_new ho3 (subx_new ho2 subx_refl))) ⟨fun i x _ => hs0.heap i x, hs0.tok⟩
  (refine aL_S rfl rfl v_ ?_)
  refine aL_nil ?_
  refine awp_seq ?_
  refine awp_region (by kernel_rfl) ?_
  (refine aL_S rfl rfl v_ ?_)
  refine aL_X rfl rfl (AOp_use rfl rfl (.inr ⟨rfl, rfl, rfl⟩) g_ va_ (sortIntC hC0 (by simp; omega)) ?_); rintro _ τ1 ⟨rfl, hC1⟩
  have hs1 := hC1.sub
  have f2 := hs1.heap o2 _ h_
  have f3 := hs1.heap o3 _ h_
  have f4 := hs1.heap o4 _ h_
  refine aL_nil ?_
  refine awp_seq ?_
  have R := And.intro f2 f3
  refine awp_region (by kernel_rfl) ?_
  iterate 8 (refine aL_S rfl rfl v_ ?_)
  refine aL_alloc rfl rfl rfl g_ gl_ fun o6 ho6 => ?_
  repeat (rw [none_set_iff] at ho6; obtain ⟨_, ho6⟩ := ho6)
  refine aL_store rfl rfl rfl v_ v_ h_ g_ rfl g_ c_ (by rfl) le_ v_ ?_
  refine aL_nil ?_
  have st1 : SubX [] σ τ1 := SubX.trans (subx_new ho4 (subx_new ho3 (subx_new ho2 subx_refl))) ⟨fun i x _ => hs1.heap i x, hs1.tok⟩
  have n6 : σ.heap o6 = none := SubX.noObj st1 ho6 (by simp)
  have n64 := (ne_of_heap f4 ho6)
  have hC2 := cbp_set2 (y := .cells [.lit (.string a.node), vInt (max a.base b.base), vNil]) (x := .cells [.lit (.string ⟨#[]⟩), vInt 0, vNil]) hC1 ho6
  obtain ⟨L, hL⟩ : ∃ L, onceI (a.more ++ b.more) = L := ⟨_, rfl⟩
  rw [hL] at hol hom
  refine awp_seq ?_
  refine awp_seq ?_
  refine awp_region (by kernel_rfl) ?_
  (refine aL_S rfl rfl v_ ?_)
  refine aL_X rfl rfl (AOp_use rfl rfl (.inr ⟨rfl, rfl, rfl⟩) g_ va_ (compactIntC hC2 (by simp [sortII]; omega) (compact_le _)) ?_); rintro _ _ ⟨rfl, rfl⟩
  rw [show Lib.compact (sortII (a.more ++ b.more)) = L from hL]
  iterate 2 (refine aL_S rfl rfl v_ ?_)
  refine aL_nil ?_
  refine awp_block ?_
  refine awp_loop_env (ι := Store × Nat × AVal × Option Nat × (Int × List Int)) (fun ⟨τ, k, g, old, st⟩ => L.length - k) (fun ⟨τ, k, g, old, st⟩ => k ≤ L.length ∧ (L.take k).foldl bstep (max a.base b.base, []) = st ∧ τ.heap o6 = some (.cells [.lit (.string a.node), vInt st.1, g]) ∧ τ.heap o4 = some (.cells [.lit (.string ⟨#[]⟩), .lit (.int .i64 0), .lit (.slice none 0 0)]) ∧ NilOwn τ 3 1 (st.2.map vInt) g old ∧ SubX [] σ τ ∧ (∀ j, old = some j → σ.tok j = none) ∧ (0 ≤ st.1 ∧ st.1 ≤ 9007199254740992) ∧ st.2.length ≤ k) (fun ⟨τ, k, g, old, st⟩ => [(4, .ref o4 0), (6, .ref o6 0), (26, .sl 1 (L.map vInt) false), (27, vInt L.length), (28, vInt k)]) (fun ⟨τ, k, g, old, st⟩ => τ) ((((σ.set o2 (.cells (sSeen a).cells)).set o3 (.cells (sSeen b).cells)).set o4 (.cells [.lit (.string ⟨#[]⟩), .lit (.int .i64 0), .lit (.slice none 0 0)])).set o6 (.cells [.lit (.string a.node), vInt (max a.base b.base), vNil]), 0, vNil, none, (max a.base b.base, [])) ?_ ?_ ?_ ?_
  · exact ⟨Nat.zero_le _, rfl, Store.set_get .., h_, .inr ⟨rfl, rfl, rfl⟩, subx_new n6 (subx_new ho4 (subx_new ho3 (subx_new ho2 subx_refl))), (fun j hj => by cases hj), ⟨by show 0 ≤ max a.base b.base; omega, by show max a.base b.base ≤ _; omega⟩, Nat.le_refl _⟩
  · exact cv_
  · exact Store.Wk.refl _
  rintro ⟨τ, k, g, old, st⟩ ⟨hk, hst, u6, u4, hno, hsx, hold, hb, hlen⟩
  simp only [envL_cons, envL_nil]
  refine awp_seq ?_
  refine awp_region (by kernel_rfl) ?_
  (refine aL_S rfl rfl v_ ?_)
  refine aL_nil ?_
  refine awp_seq ?_
  refine awp_cond v_ (fun hc5 => ?_) (fun hc5 => ?_)
  · replace hc5 := nm_ hc5
    refine awp_skip ?_
    refine awp_seq ?_
    refine awp_block ?_
    refine awp_seq ?_
    obtain ⟨n, hn⟩ := get_some (l := L) (k := k) (by omega)
    have hnb := hom n (List.mem_of_getElem? hn)
    have hfold : (L.take (k + 1)).foldl bstep (max a.base b.base, []) = bstep st n := by rw [take_snoc hn, List.foldl_append, hst]; rfl
    have R := hn
    refine awp_region (by kernel_rfl) ?_
    iterate 3 (refine aL_S rfl rfl v_ ?_)
    refine aL_nil ?_
    refine awp_seq ?_
    have R := u6
    refine awp_region (by kernel_rfl) ?_
    iterate 5 (refine aL_S rfl rfl v_ ?_)
    refine aL_nil ?_
    refine awp_cond v_ (fun hc7 => ?_) (fun hc7 => ?_)
    · replace hc7 := nm_ hc7
      refine awp_region (by kernel_rfl) ?_
      iterate 2 (refine aL_S rfl rfl v_ ?_)
      refine aL_store rfl rfl rfl v_ v_ h_ g_ rfl g_ c_ (by rfl) le_ v_ ?_
      refine aL_nil ?_
      refine awp_region (by kernel_rfl) ?_
      iterate 2 (refine aL_S rfl rfl v_ ?_)
      refine aL_nil ?_
      refine aNext (ι := Store × Nat × AVal × Option Nat × (Int × List Int)) (i := ⟨τ, k, g, old, st⟩) (τ.set o6 (.cells [.lit (.string a.node), vInt n, g]), k + 1, g, old, (n, st.2)) ?_ ?_ ?_ ?_
      · show L.length - (k + 1) < L.length - k; omega
      · exact ⟨by show k + 1 ≤ L.length; omega, by rw [hfold, bstep, if_pos hc7], Store.set_get .., by rw [Store.set_ne _ _ n64]; exact u4, hno, subx_new n6 hsx, hold, ⟨by show 0 ≤ n; omega, by show n ≤ _; omega⟩, by show st.2.length ≤ k + 1; omega⟩
      · exact cv_
      · exact Store.Wk.refl _
    · replace hc7 := nm_ hc7
      refine awp_seq ?_
      have R := u6
      refine awp_region (by kernel_rfl) ?_
      iterate 4 (refine aL_S rfl rfl v_ ?_)
      refine aL_nil ?_
      refine awp_cond v_ (fun hc9 => ?_) (fun hc9 => ?_)
      · replace hc9 := nm_ hc9
        have R := u6
        refine awp_region (by kernel_rfl) ?_
        iterate 3 (refine aL_S rfl rfl v_ ?_)
        refine aL_buildSlice rfl rfl rfl g_ g_ rfl rfl h_ c2_ (by decide) ?_
        refine aL_X rfl rfl (AOp_appendS rfl g_ g_ (NilOwn.of hno va_) (.inl ⟨⟨_, g_⟩, .inl v_, c_⟩) (by simp; omega) fun k47 hk47 => ?_)
        (refine aL_S rfl rfl v_ ?_)
        refine aL_store rfl rfl rfl v_ v_ h_ g_ rfl g_ c_ (by rfl) le_ v_ ?_
        refine aL_nil ?_
        refine awp_region (by kernel_rfl) ?_
        iterate 2 (refine aL_S rfl rfl v_ ?_)
        refine aL_nil ?_
        refine aNext (ι := Store × Nat × AVal × Option Nat × (Int × List Int)) (i := ⟨τ, k, g, old, st⟩) ((τ.newTok old k47 (3, 1)).set o6 (.cells [.lit (.string a.node), vInt st.1, .own k47 1 (st.2.map vInt ++ [vInt n])]), k + 1, .own k47 1 (st.2.map vInt ++ [vInt n]), some k47, (st.1, st.2 ++ [n])) ?_ ?_ ?_ ?_
        · show L.length - (k + 1) < L.length - k; omega
        · exact ⟨by show k + 1 ≤ L.length; omega, by rw [hfold, bstep, if_neg hc7, if_pos hc9], Store.set_get .., by rw [Store.set_ne _ _ n64]; exact u4, .inl ⟨k47, by rw [List.map_append]; rfl, by rw [Store.set_tok]; exact Store.newTok_get .., rfl⟩, subx_new n6 (SubX.newTok hsx hold hk47), (fun j hj => by cases hj; exact SubX.noTok hsx hk47), hb, by show (st.2 ++ [n]).length ≤ k + 1; rw [List.length_append]; simp; omega⟩
        · exact cv_
        · exact Store.Wk.refl _
      · replace hc9 := nm_ hc9
        refine awp_skip ?_
        refine awp_region (by kernel_rfl) ?_
        iterate 2 (refine aL_S rfl rfl v_ ?_)
        refine aL_nil ?_
        refine aNext (ι := Store × Nat × AVal × Option Nat × (Int × List Int)) (i := ⟨τ, k, g, old, st⟩) (τ, k + 1, g, old, st) ?_ ?_ ?_ ?_
        · show L.length - (k + 1) < L.length - k; omega
        · exact ⟨by show k + 1 ≤ L.length; omega, by rw [hfold, bstep, if_neg hc7, if_neg (by omega)], u6, u4, hno, hsx, hold, hb, by show st.2.length ≤ k + 1; omega⟩
        · exact cv_
        · exact Store.Wk.refl _
  · replace hc5 := nm_ hc5
    refine awp_exit ?_
    refine aThen_exit ?_
    refine aThen_exit ?_
    refine aBlock_hit ?_
    refine awp_seq ?_
    skip
    have hfin : bothS a b = ⟨a.node, st.1, st.2⟩ := by
      have : bothF a b = st := by rw [← hst, List.take_of_length_le (by omega), ← hL]; rfl
      rw [bothS, this]
    refine awp_wkCells o6 [.lit (.string a.node), vInt st.1, .sl 1 (st.2.map vInt) false] u6 ⟨.refl _, .refl _, hno.wk, trivial⟩ ?_
    have u4' : (τ.set o6 (.cells [.lit (.string a.node), vInt st.1, .sl 1 (st.2.map vInt) false])).heap o4 = some (.cells [.lit (.string ⟨#[]⟩), .lit (.int .i64 0), .lit (.slice none 0 0)]) := by rw [Store.set_ne _ _ n64]; exact u4
    have R := u4'
    refine awp_region (by kernel_rfl) ?_
    (refine aL_S rfl rfl v_ ?_)
    refine aL_store rfl rfl rfl v_ v_ h_ g_ rfl g_ c_ (by rfl) le_ v_ ?_
    refine aL_nil ?_
    refine awp_ret ?_
    rw [hfin]
    exact aEnd_ret (σ' := σ) va_ (subx_start (subx_new ho4 (subx_new n6 hsx))) ⟨rfl, rfl⟩
end Go.Proofs.YtbjloippgpilcaaGreat
end

section
set_option linter.all false
set_option maxRecDepth 100000
namespace Go.Ab
theorem ACalls.frozen {P : Program} {f : FuncId} {args : List AVal} {σ : Store} {sz : Nat} {l : List AVal} (h : ACalls P f args σ fun v σ' => CBp σ σ' sz l v) (hs : ∀ x ∈ l, x.cells.length = sz) : ACalls P f args σ fun v σ' => v = .sl sz l false ∧ σ = σ' := by
  refine h.after ?_
  rintro κ a σ' cv hI hr hC
  rcases hC with ⟨rfl, rfl, rfl⟩ | ⟨o, ho, rfl, rfl⟩
  · exact ⟨κ, _, _, rfl, .refl κ, hI, hr.wk (.nil sz false), rfl, rfl⟩
  · obtain ⟨κ', h1, h2, h3, h4⟩ := Ab.freeze hI hr (Store.set_get ..) (l := l) (by rw [List.take_of_length_le (by rw [flat_length hs]; exact Nat.le_refl _)]) rfl hs
    rw [Store.set_del ho] at h3
    exact ⟨κ', _, _, h1, h2, h3, h4, rfl, rfl⟩
theorem cbp_drop {σ σ' : Store} {sz : Nat} {l : List AVal} {a : AVal} {i : Nat} {y : AObj} (h : CBp (σ.set i y) σ' sz l a) (hi : σ.heap i = none) : ∃ τ, CBp σ τ sz l a ∧ τ.Sub σ' := by
  have hsub : ∀ τ : Store, τ.heap i = none → τ.Sub (τ.set i y) := fun τ hτ => ⟨fun j x hx => by rw [Store.set_ne _ _ (fun hh => by rw [hh, hτ] at hx; cases hx)]; exact hx, fun _ _ h => h⟩
  rcases h with ⟨h1, h2, rfl⟩ | ⟨o, ho, h1, rfl⟩
  · exact ⟨σ, .inl ⟨h1, h2, rfl⟩, hsub σ hi⟩
  · have hne : o ≠ i := fun hh => by rw [hh, Store.set_get] at ho; cases ho
    rw [Store.set_ne _ _ hne] at ho
    refine ⟨σ.set o (.cells (flat l)), .inr ⟨o, ho, h1, rfl⟩, ?_⟩
    rw [Go.Proofs.YtbjloippgpilcaaGreat.set_swap (Ne.symm hne)]
    exact hsub _ (by rw [Store.set_ne _ _ (Ne.symm hne)]; exact hi)
theorem cbp_tok {σ σ' : Store} {sz k : Nat} {l : List AVal} {a : AVal} {p : TypeId × Nat} (h : CBp σ σ' sz l a) : CBp (σ.newTok none k p) (σ'.newTok none k p) sz l a := by
  rcases h with ⟨h1, h2, rfl⟩ | ⟨o, ho, h1, rfl⟩
  · exact .inl ⟨h1, h2, rfl⟩
  · exact .inr ⟨o, ho, h1, rfl⟩
end Go.Ab
namespace Go.Proofs.YtbjloippgpilcaaGreat
open Go.Ab

def nodesS (a b : List Seen) : List ByteArray := compactL (sortSS ((a ++ b).map (·.node)))
def joinAll (a b : List Seen) : List Seen := (nodesS a b).map fun s => bothS (ofS a s) (ofS b s)
def joinS (a b : List Seen) : List Seen × Int := if ctxOk a && ctxOk b then (if ctxOk (joinAll a b) then (joinAll a b, 0) else ([], 4)) else ([], 1)
theorem ctxGo_all : ∀ (l : List Seen) (pv : Option ByteArray) (room : Int), ctxGo pv room l = true → ∀ x ∈ l, seenOk x = true ∧ (x.more.length : Int) ≤ room
  | [], _, _, _ => fun x hx => by cases hx
  | y :: l, pv, room, h => fun x hx => by
    simp only [ctxGo, Bool.and_eq_true, decide_eq_true_eq] at h
    obtain ⟨⟨⟨h1, h2⟩, h3⟩, h4⟩ := h
    rcases List.mem_cons.1 hx with rfl | hx
    · exact ⟨h1, h3⟩
    · have := ctxGo_all l _ _ h4 x hx
      exact ⟨this.1, by omega⟩
theorem riseOk_all : ∀ (l : List Int) (z : Int), riseOk z l = true → ∀ n ∈ l, z < n ∧ n ≤ 9007199254740992
  | [], _, _ => fun x hx => by cases hx
  | m :: l, z, h => fun n hn => by
    simp only [riseOk, Bool.and_eq_true, decide_eq_true_eq] at h
    obtain ⟨⟨h1, h2⟩, h3⟩ := h
    rcases List.mem_cons.1 hn with rfl | hn
    · exact ⟨h1, h2⟩
    · have := riseOk_all l m h3 n hn
      omega
structure SeenGd (x : Seen) : Prop where
  name : nameOk x.node = true
  size : x.node.size ≤ 16
  bd : SeenBd x
  len : x.more.length ≤ 4096
theorem ctxOk_gd {c : List Seen} (h : ctxOk c = true) : ∀ x ∈ c, SeenGd x := fun x hx => by
  obtain ⟨h1, h2⟩ := ctxGo_all c _ _ h x hx
  have h3 : x.more.length ≤ 4096 := by omega
  simp only [seenOk, seenHd, Bool.and_eq_true, decide_eq_true_eq] at h1
  obtain ⟨⟨⟨⟨h4, h5⟩, h6⟩, _⟩, h7⟩ := h1
  have h8 := h4
  simp only [nameOk, Bool.and_eq_true, decide_eq_true_eq] at h8
  exact ⟨h4, h8.1.2, ⟨h5, h6, fun n hn => (riseOk_all _ _ h7 n hn).2, by omega⟩, h3⟩
theorem ofS_node (c : List Seen) (s : ByteArray) : (ofS c s).node = s := by
  unfold ofS
  split
  · rename_i x hx
    have := List.find?_some hx
    simpa using this
  · rfl
theorem ofS_bd {c : List Seen} (h : ∀ x ∈ c, SeenGd x) (s : ByteArray) : SeenBd (ofS c s) ∧ (ofS c s).more.length ≤ 4096 := by
  unfold ofS
  split
  · rename_i x hx
    have := h x (List.mem_of_find?_eq_some hx)
    exact ⟨this.bd, this.len⟩
  · exact ⟨⟨Int.le_refl 0, by show (0 : Int) ≤ _; decide, (fun n hn => by cases hn), by show 0 ≤ _; decide⟩, by show 0 ≤ _; decide⟩
theorem bstep_len : ∀ (l : List Int) (st : Int × List Int), (l.foldl bstep st).2.length ≤ st.2.length + l.length
  | [], st => by simp
  | n :: l, st => by
    have := bstep_len l (bstep st n)
    have h2 : (bstep st n).2.length ≤ st.2.length + 1 := by
      unfold bstep
      split
      · simp
      · split <;> simp
    simp only [List.foldl_cons, List.length_cons]; omega
theorem bothS_len (a b : Seen) : (bothS a b).more.length ≤ a.more.length + b.more.length := by
  have h1 := bstep_len (onceI (a.more ++ b.more)) (max a.base b.base, [])
  have h2 := onceI_len (a.more ++ b.more)
  rw [List.length_append] at h2
  simp only [bothS, bothF]
  simp at h1
  omega
theorem compactL_mem {ss : List ByteArray} {s : ByteArray} (h : s ∈ compactL ss) : s ∈ ss := by
  unfold compactL at h
  obtain ⟨l, hl, rfl⟩ := List.mem_map.1 h
  obtain ⟨t, ht, rfl⟩ := List.mem_map.1 (compact_mem hl)
  rw [B_Lb]; exact ht
theorem sortSS_mem {ss : List ByteArray} {s : ByteArray} (h : s ∈ sortSS ss) : s ∈ ss := by
  unfold sortSS at h
  obtain ⟨l, hl, rfl⟩ := List.mem_map.1 h
  obtain ⟨t, ht, rfl⟩ := List.mem_map.1 (List.mem_mergeSort.1 hl)
  rw [B_Lb]; exact ht
theorem nodesS_mem {a b : List Seen} {s : ByteArray} (h : s ∈ nodesS a b) : ∃ x ∈ a ++ b, x.node = s := List.mem_map.1 (sortSS_mem (compactL_mem h))
theorem nodesS_len (a b : List Seen) : (nodesS a b).length ≤ a.length + b.length := by
  unfold nodesS compactL
  rw [List.length_map]
  refine Nat.le_trans (compact_le _) ?_
  simp [sortSS]
theorem sizes_gd {c : List Seen} (h : ∀ x ∈ c, SeenGd x) : ∀ x ∈ c, SeenSm x := fun x hx => ⟨by have := (h x hx).size; omega, by have := (h x hx).len; omega⟩
theorem joinAll_sm {a b : List Seen} (ha : ∀ x ∈ a, SeenGd x) (hb : ∀ x ∈ b, SeenGd x) : ∀ x ∈ joinAll a b, SeenSm x := fun x hx => by
  obtain ⟨s, hs, rfl⟩ := List.mem_map.1 hx
  obtain ⟨y, hy, rfl⟩ := nodesS_mem hs
  have h1 := (ofS_bd ha y.node).2
  have h2 := (ofS_bd hb y.node).2
  have h3 := bothS_len (ofS a y.node) (ofS b y.node)
  refine ⟨?_, by omega⟩
  show (ofS a y.node).node.size ≤ _
  rw [ofS_node]
  rcases List.mem_append.1 hy with h | h
  · have := (ha y h).size; omega
  · have := (hb y h).size; omega
theorem concatSeenF {L1 L2 : List Seen} {t1 t2 tt : Bool} {σ : Store} (h1 : L1.length ≤ 10000000) (h2 : L2.length ≤ 10000000) :
    ACalls Tryz.prog 140 [.sl 1 [.sl 3 (L1.map sSeen) t1, .sl 3 (L2.map sSeen) t2] tt] σ fun v σ' => v = .sl 3 ((L1 ++ L2).map sSeen) false ∧ σ = σ' :=
  (concatSeen_c h1 h2).frozen (szSeen _)
theorem chk0 {b : Bool} : ((if b = true then 0 else 1 : Int) = 0) ↔ b = true := by cases b <;> simp
theorem join_c {a b : List Seen} {ta tb : Bool} {σ : Store} (hA : ∀ x ∈ a, SeenSm x) (hB : ∀ x ∈ b, SeenSm x) (hna : a.length ≤ 100000) (hnb : b.length ≤ 100000) :
    ACalls Tryz.prog 128 [.sl 3 (a.map sSeen) ta, .sl 3 (b.map sSeen) tb] σ fun v σ' => v = .tup [.sl 3 ((joinS a b).1.map sSeen) false, vInt (joinS a b).2] ∧ σ = σ' := by
  refine ACalls_of Tryz.func128 rfl Tryz.ntmps128 (congrArg Array.toList Tryz.results128) (by simp only [List.length_cons, List.length_nil]; decide) ?_; simp only [envOf_cons, envOf_nil, Nat.reduceAdd]
  refine awp_seq ?_
  refine awp_region (by kernel_rfl) ?_
  iterate 2 (refine aL_S rfl rfl v_ ?_)
  refine aL_nil ?_
  refine awp_seq ?_
  refine awp_seq ?_
  refine awp_region (by kernel_rfl) ?_
  (refine aL_S rfl rfl v_ ?_)
  refine aL_X rfl rfl (AOp_use rfl rfl (.inr ⟨rfl, rfl, rfl⟩) g_ va_ (check_c hA (by omega)) ?_); rintro _ _ ⟨rfl, rfl⟩
  iterate 2 (refine aL_S rfl rfl v_ ?_)
  refine aL_GF rfl rfl v_ rfl vg_ ?_
  refine aL_GFX rfl rfl v_ rfl (fun hb => AOp_useV (by rfl) (by rfl) (.inr ⟨by rfl, by rfl, by rfl⟩) g_ cg_ (check_c hB (by omega))) ?_
  refine aL_GF rfl rfl v_ rfl vg_ ?_
  (refine aL_S rfl rfl v_ ?_)
  refine aL_nil ?_
  refine awp_cond v_ (fun hc1 => ?_) (fun hc1 => ?_)
  · replace hc1 := nm_ hc1
    skip
    have hj : joinS a b = ([], 1) := by
      rw [chk0, chk0] at hc1
      unfold joinS
      cases h1 : ctxOk a <;> cases h2 : ctxOk b <;> simp [h1, h2] at hc1 ⊢
    refine awp_seq ?_
    refine awp_region (by kernel_rfl) ?_
    iterate 2 (refine aL_S rfl rfl v_ ?_)
    refine aL_nil ?_
    refine awp_ret ?_
    rw [hj]
    exact aEnd_retW (v := .tup [.sl 3 [] false, vInt 1]) (v' := .tup [vNil, vInt 1]) va_ (.tup _ _ rfl (fun i hi hi' => by match i, hi with | 0, _ => exact .nil _ _ | 1, _ => exact .refl _)) sub_ ⟨rfl, rfl⟩
  · replace hc1 := nm_ hc1
    rw [chk0, chk0] at hc1
    have gA := ctxOk_gd hc1.1
    have gB := ctxOk_gd hc1.2
    have rA := ctxOk_rise hc1.1
    have rB := ctxOk_rise hc1.2
    have hlen : (a ++ b).length ≤ 200000 := by rw [List.length_append]; omega
    obtain ⟨D, hD⟩ : ∃ D, a ++ b = D := ⟨_, rfl⟩
    rw [hD] at hlen
    refine awp_skip ?_
    refine awp_seq ?_
    refine awp_region (by kernel_rfl) ?_
    (refine aL_S rfl rfl v_ ?_)
    refine aL_nil ?_
    refine awp_seq ?_
    refine awp_seq ?_
    refine awp_region (by kernel_rfl) ?_
    iterate 2 (refine aL_S rfl rfl v_ ?_)
    refine aL_buildSlice rfl rfl rfl g_ g_ rfl rfl h_ c2_ (by decide) ?_
    refine aL_X rfl rfl (AOp_use rfl rfl (.inr ⟨rfl, rfl, rfl⟩) g_ va_ (concatSeenF (L1 := a) (L2 := b) (by omega) (by omega)) ?_); rintro _ _ ⟨rfl, rfl⟩
    rw [hD]
    iterate 2 (refine aL_S rfl rfl v_ ?_)
    refine aL_nil ?_
    refine awp_block ?_
    refine awp_loop_env (ι := Store × AVal × Nat) (fun ⟨τ, g, k⟩ => D.length - k) (fun ⟨τ, g, k⟩ => k ≤ D.length ∧ CBp σ τ 1 (((D.take k).map (·.node)).map vStr) g) (fun ⟨τ, g, k⟩ => [(0, .sl 3 (a.map sSeen) ta), (1, .sl 3 (b.map sSeen) tb), (6, g), (23, .sl 3 (D.map sSeen) false), (24, vInt D.length), (25, vInt k)]) (fun ⟨τ, g, k⟩ => τ) (σ, vNil, 0) ?_ ?_ ?_ ?_
    · exact ⟨Nat.zero_le _, .inl ⟨rfl, rfl, rfl⟩⟩
    · exact cv_
    · exact Store.Wk.refl _
    rintro ⟨τ, g, k⟩ ⟨hk, hC⟩
    simp only [envL_cons, envL_nil]
    refine awp_seq ?_
    refine awp_region (by kernel_rfl) ?_
    (refine aL_S rfl rfl v_ ?_)
    refine aL_nil ?_
    refine awp_seq ?_
    refine awp_cond v_ (fun hc5 => ?_) (fun hc5 => ?_)
    · replace hc5 := nm_ hc5
      refine awp_skip ?_
      refine awp_seq ?_
      refine awp_block ?_
      refine awp_seq ?_
      obtain ⟨x, hx⟩ := get_some (l := D) (k := k) (by omega)
      have R := hx
      refine awp_region (by kernel_rfl) ?_
      iterate 2 (refine aL_S rfl rfl v_ ?_)
      refine aL_alloc rfl rfl rfl g_ gl_ fun o8 ho8 => ?_
      repeat (rw [none_set_iff] at ho8; obtain ⟨_, ho8⟩ := ho8)
      refine aL_store rfl rfl rfl v_ v_ h_ g_ rfl g_ c_ (by rfl) le_ v_ ?_
      refine aL_nil ?_
      skip
      have n8 : σ.heap o8 = none := by
        cases h : σ.heap o8 with
        | none => rfl
        | some y => have := hC.sub.heap o8 y h; rw [ho8] at this; cases this
      have hC1 := cbp_set2 (x := .cells [.lit (.string ⟨#[]⟩), .lit (.int .i64 0), .lit (.slice none 0 0)]) (y := .cells (sSeen x).cells) hC ho8
      refine awp_region (by kernel_rfl) ?_
      iterate 3 (refine aL_S rfl rfl v_ ?_)
      refine aL_buildSlice rfl rfl rfl g_ g_ rfl rfl h_ c2_ (by decide) ?_
      refine aL_X rfl rfl (AOp_appendC rfl g_ g_ hC1 va_ (fun y hy => by obtain ⟨s, _, rfl⟩ := List.mem_map.1 hy; rfl) va_ c_ (by simp; omega) fun a' σ' hC2 => ?_)
      obtain ⟨τ', hC3, hsub⟩ := cbp_drop hC2 n8
      (refine aL_S rfl rfl v_ ?_)
      refine aL_nil ?_
      refine awp_region (by kernel_rfl) ?_
      iterate 2 (refine aL_S rfl rfl v_ ?_)
      refine aL_nil ?_
      refine aNext (ι := Store × AVal × Nat) (i := ⟨τ, g, k⟩) (τ', a', k + 1) ?_ ?_ ?_ ?_
      · show D.length - (k + 1) < D.length - k; omega
      · exact ⟨by show k + 1 ≤ D.length; omega, by rw [take_snoc hx, List.map_append, List.map_append]; exact hC3⟩
      · exact cv_
      · exact hsub.wk
    · replace hc5 := nm_ hc5
      refine awp_exit ?_
      refine aThen_exit ?_
      refine aThen_exit ?_
      refine aBlock_hit ?_
      refine awp_seq ?_
      obtain rfl : k = D.length := by omega
      rw [List.take_length] at hC
      refine awp_region (by kernel_rfl) ?_
      (refine aL_S rfl rfl v_ ?_)
      refine aL_X rfl rfl (AOp_use rfl rfl (.inr ⟨rfl, rfl, rfl⟩) g_ va_ (sortStrC hC (by simp at hlen ⊢; omega)) ?_); rintro _ τ1 ⟨rfl, hC1⟩
      refine aL_nil ?_
      refine awp_seq ?_
      refine awp_region (by kernel_rfl) ?_
      refine aL_nilOwn 144 3 rfl rfl rfl (by rfl) fun k9 hk9 => ?_
      have hk9' : σ.tok k9 = none := by
        cases h : σ.tok k9 with
        | none => rfl
        | some y => have := hC1.sub.tok k9 y h; rw [hk9] at this; cases this
      refine aL_nil ?_
      refine awp_seq ?_
      refine awp_seq ?_
      refine awp_region (by kernel_rfl) ?_
      (refine aL_S rfl rfl v_ ?_)
      refine aL_X rfl rfl (AOp_use rfl rfl (.inr ⟨rfl, rfl, rfl⟩) g_ va_ (compactStrC (σ0 := σ.newTok none k9 (144, 3)) (ss := sortSS (D.map (·.node))) (cbp_tok hC1) (by simp [sortSS]; omega) (by refine Nat.le_trans (compact_le _) (by simp))) ?_); rintro _ _ ⟨rfl, rfl⟩
      rw [show compactL (sortSS (D.map (·.node))) = nodesS a b from by rw [← hD]; rfl]
      obtain ⟨Nd, hNd⟩ : ∃ Nd, nodesS a b = Nd := ⟨_, rfl⟩
      have hnl := nodesS_len a b
      rw [hNd] at hnl ⊢
      have hall : joinAll a b = Nd.map fun s => bothS (ofS a s) (ofS b s) := by rw [← hNd]; rfl
      iterate 2 (refine aL_S rfl rfl v_ ?_)
      refine aL_nil ?_
      refine awp_block ?_
      refine awp_loop_env (ι := Nat × Nat) (fun ⟨k, i⟩ => Nd.length - i) (fun ⟨k, i⟩ => i ≤ Nd.length ∧ σ.tok k = none) (fun ⟨k, i⟩ => [(0, .sl 3 (a.map sSeen) ta), (1, .sl 3 (b.map sSeen) tb), (9, .own k 3 (((Nd.take i).map fun s => bothS (ofS a s) (ofS b s)).map sSeen)), (38, .sl 1 (Nd.map vStr) false), (39, vInt Nd.length), (40, vInt i)]) (fun ⟨k, i⟩ => (σ.newTok none k (144, 3))) (k9, 0) ?_ ?_ ?_ ?_
      · exact ⟨Nat.zero_le _, hk9'⟩
      · exact cv_
      · exact Store.Wk.refl _
      rintro ⟨k, i⟩ ⟨hi, hk⟩
      simp only [envL_cons, envL_nil]
      refine awp_seq ?_
      refine awp_region (by kernel_rfl) ?_
      (refine aL_S rfl rfl v_ ?_)
      refine aL_nil ?_
      refine awp_seq ?_
      refine awp_cond v_ (fun hc12 => ?_) (fun hc12 => ?_)
      · replace hc12 := nm_ hc12
        refine awp_skip ?_
        refine awp_seq ?_
        refine awp_block ?_
        refine awp_seq ?_
        obtain ⟨n, hn⟩ := get_some (l := Nd) (k := i) (by omega)
        have R := hn
        refine awp_region (by kernel_rfl) ?_
        iterate 3 (refine aL_S rfl rfl v_ ?_)
        refine aL_nil ?_
        refine awp_region (by kernel_rfl) ?_
        iterate 3 (refine aL_S rfl rfl v_ ?_)
        refine aL_X rfl rfl (AOp_use rfl rfl (.inr ⟨rfl, rfl, rfl⟩) g_ va_ (of_c rA (by omega)) ?_); rintro _ _ ⟨rfl, rfl⟩
        iterate 2 (refine aL_S rfl rfl v_ ?_)
        refine aL_X rfl rfl (AOp_use rfl rfl (.inr ⟨rfl, rfl, rfl⟩) g_ va_ (of_c rB (by omega)) ?_); rintro _ _ ⟨rfl, rfl⟩
        refine aL_X rfl rfl (AOp_use rfl rfl (.inr ⟨rfl, rfl, rfl⟩) g_ va_ (both_c (ofS_bd gA _).1 (ofS_bd gB _).1) ?_); rintro _ _ ⟨rfl, rfl⟩
        refine aL_buildSlice rfl rfl rfl g_ g_ rfl rfl h_ c2_ (by decide) ?_
        refine aL_append rfl rfl rfl g_ g_ v_ h_ v_ c_ (by simp; omega) fun k53 hk53 => ?_
        (refine aL_S rfl rfl v_ ?_)
        refine aL_nil ?_
        refine awp_region (by kernel_rfl) ?_
        iterate 2 (refine aL_S rfl rfl v_ ?_)
        refine aL_nil ?_
        refine aNext (ι := Nat × Nat) (i := ⟨k, i⟩) (k53, i + 1) ?_ ?_ ?_ ?_
        · show Nd.length - (i + 1) < Nd.length - i; omega
        · exact ⟨by show i + 1 ≤ Nd.length; omega, (newTok_none hk53).2⟩
        · have R := (show ((Nd.take (i + 1)).map fun s => bothS (ofS a s) (ofS b s)).map sSeen = ((Nd.take i).map fun s => bothS (ofS a s) (ofS b s)).map sSeen ++ [sSeen (bothS (ofS a n) (ofS b n))] from by rw [take_snoc hn, List.map_append, List.map_append]; rfl); exact cv_
        · rw [Store.newTok_step hk]; exact Store.Wk.refl _
      · replace hc12 := nm_ hc12
        refine awp_exit ?_
        refine aThen_exit ?_
        refine aThen_exit ?_
        refine aBlock_hit ?_
        refine awp_seq ?_
        refine awp_seq ?_
        obtain rfl : i = Nd.length := by omega
        rw [List.take_length, ← hall]
        have hjl : (joinAll a b).length ≤ 1000000 := by rw [hall, List.length_map]; omega
        refine awp_region (by kernel_rfl) ?_
        (refine aL_S rfl rfl v_ ?_)
        refine aL_X rfl rfl (AOp_use rfl rfl (.inr ⟨rfl, rfl, rfl⟩) g_ va_ (ACalls.wkA (args := [.own k 3 ((joinAll a b).map sSeen)]) (check_c (t := false) (joinAll_sm gA gB) hjl) rfl (fun j hj hj' => by match j, hj with | 0, _ => exact .own1 _ _ _)) ?_); rintro _ _ ⟨rfl, rfl⟩
        (refine aL_S rfl rfl v_ ?_)
        refine aL_nil ?_
        refine awp_cond v_ (fun hc16 => ?_) (fun hc16 => ?_)
        · replace hc16 := nm_ hc16
          refine awp_seq ?_
          refine awp_region (by kernel_rfl) ?_
          iterate 2 (refine aL_S rfl rfl v_ ?_)
          refine aL_nil ?_
          refine awp_ret ?_
          rw [chk0] at hc16
          have hj : joinS a b = ([], 4) := by simp [joinS, hc1.1, hc1.2, hc16]
          rw [hj]
          exact aEnd_retW (v := .tup [.sl 3 [] false, vInt 4]) (v' := .tup [vNil, vInt 4]) va_ (.tup _ _ rfl (fun i hi hi' => by match i, hi with | 0, _ => exact .nil _ _ | 1, _ => exact .refl _)) (subx_start (subx_newTok hk subx_refl)) ⟨rfl, rfl⟩
        · replace hc16 := nm_ hc16
          refine awp_skip ?_
          refine awp_seq ?_
          refine awp_region (by kernel_rfl) ?_
          iterate 3 (refine aL_S rfl rfl v_ ?_)
          refine aL_nil ?_
          refine awp_ret ?_
          rw [chk0] at hc16
          have hj : joinS a b = (joinAll a b, 0) := by simp [joinS, hc1.1, hc1.2, hc16]
          rw [hj]
          exact aEnd_retW (v := .tup [.sl 3 ((joinAll a b).map sSeen) false, vInt 0]) (v' := .tup [.own k 3 ((joinAll a b).map sSeen), vInt 0]) va_ (.tup _ _ rfl (fun i hi hi' => by match i, hi with | 0, _ => exact .own1 _ _ _ | 1, _ => exact .refl _)) (subx_start (subx_newTok hk subx_refl)) ⟨rfl, rfl⟩
end Go.Proofs.YtbjloippgpilcaaGreat
end
