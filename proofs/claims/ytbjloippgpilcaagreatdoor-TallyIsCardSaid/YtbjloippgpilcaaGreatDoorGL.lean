/-
  What the document says of deeds: the reference's lists, into which each is put where it belongs; The reference's counts and lanes. Own work (an AI agent).
-/
import Derived.Test.YtbjloippgpilcaaGreatDoorGJ

section
set_option linter.all false
set_option maxRecDepth 100000
namespace Go.Ab
theorem AOp_wk {P : Program} {o : Oper} {α : Operand → AVal} {σ : Store} {a a' : AVal} {Kk : AVal → Store → Prop} (h : AOp P o α σ fun v τ => v = a ∧ τ = σ) (hw : Wk a a') (hk : Kk a' σ) : AOp P o α σ Kk :=
  fun κ ev hI hx => (h κ ev hI hx).mono fun v w ⟨κ', b, τ, h1, h2, h3, h4, hb, hτ⟩ => by
    subst hb; subst hτ
    exact ⟨κ', a', τ, h1, h2, h3, h4.wk hw, hk⟩
end Go.Ab
namespace Go.Proofs.YtbjloippgpilcaaGreatDoor
open Go.Ab
theorem get_if {α : Type} [Inhabited α] (l : List α) (k : Nat) : ∃ x : α, k < l.length → l[k]? = some x := by
  by_cases h : k < l.length
  · exact ⟨l[k], fun _ => List.getElem?_eq_getElem h⟩
  · exact ⟨default, fun h' => absurd h' h⟩

theorem oneInt (l : List Int) : ∀ y ∈ l.map vInt, ∀ c ∈ y.cells, c.one = true := fun y hy c hc => by
  obtain ⟨x, _, rfl⟩ := List.mem_map.1 hy
  obtain rfl := List.mem_singleton.1 hc
  rfl
theorem oneStr (l : List ByteArray) : ∀ y ∈ l.map vStr, ∀ c ∈ y.cells, c.one = true := fun y hy c hc => by
  obtain ⟨x, _, rfl⟩ := List.mem_map.1 hy
  obtain rfl := List.mem_singleton.1 hc
  rfl
theorem oneCnt (l : List Cnt) : ∀ y ∈ l.map sCnt, ∀ c ∈ y.cells, c.one = true := fun y hy c hc => by
  obtain ⟨x, _, rfl⟩ := List.mem_map.1 hy
  simp only [sCnt, AVal.cells, List.mem_cons, List.not_mem_nil, or_false] at hc
  rcases hc with rfl | rfl | rfl <;> rfl
/-! ### how long -/
theorem rtook_c {d : Deed} {σ : Store} (hd : DeedI d) : ACalls Tryz.prog 34 [sDeed d] σ fun v σ' => v = vInt (tookS d) ∧ σ = σ' := by
  have h1 := hd.b0; have h2 := hd.b1; have h3 := hd.f0; have h4 := hd.f1
  have hw : IntKind.u64.wrap (IntKind.u64.wrap d.fin - IntKind.u64.wrap d.bgn) = (d.fin - d.bgn) % 18446744073709551616 := by
    unfold IntKind.wrap
    simp only [IntKind.bits, IntKind.signed, Bool.false_and]
    have e1 : (2 : Int) ^ 64 = 18446744073709551616 := by decide
    simp only [e1]
    simp
  refine ACalls_of Tryz.func34 rfl Tryz.ntmps34 (congrArg Array.toList Tryz.results34) (by simp only [List.length_cons, List.length_nil]; decide) ?_; simp only [envOf_cons, envOf_nil, Nat.reduceAdd]
  refine awp_seq ?_
  refine awp_region (by kernel_rfl) ?_
  refine aL_box rfl rfl rfl v_ rfl g_ fun o1 ho1 => ?_
  repeat (rw [none_set_iff] at ho1; obtain ⟨_, ho1⟩ := ho1)
  (refine aL_S rfl rfl v_ ?_)
  refine aL_nil ?_
  refine awp_seq ?_
  refine awp_seq ?_
  refine awp_region (by kernel_rfl) ?_
  iterate 6 (refine aL_S rfl rfl v_ ?_)
  refine aL_GF rfl rfl v_ rfl vg_ ?_
  refine aL_GF rfl rfl v_ rfl vg_ ?_
  refine aL_GF rfl rfl v_ rfl vg_ ?_
  refine aL_GF rfl rfl v_ rfl vg_ ?_
  refine aL_GF rfl rfl v_ rfl vg_ ?_
  refine aL_GF rfl rfl v_ rfl vg_ ?_
  refine aL_GF rfl rfl v_ rfl vg_ ?_
  refine aL_GF rfl rfl v_ rfl vg_ ?_
  (refine aL_S rfl rfl v_ ?_)
  refine aL_nil ?_
  refine awp_cond v_ (fun hc1 => ?_) (fun hc1 => ?_)
  · replace hc1 := nm_ hc1
    refine awp_seq ?_
    refine awp_region (by kernel_rfl) ?_
    (refine aL_S rfl rfl v_ ?_)
    refine aL_nil ?_
    refine awp_ret ?_
    refine aEnd_ret (σ' := σ) v_ sub_ ?_
    refine ⟨?_, rfl⟩
    rw [hw] at hc1
    rw [tookS, if_pos (by omega)]
  · replace hc1 := nm_ hc1
    refine awp_skip ?_
    refine awp_seq ?_
    refine awp_region (by kernel_rfl) ?_
    iterate 6 (refine aL_S rfl rfl v_ ?_)
    refine aL_nil ?_
    refine awp_ret ?_
    refine aEnd_ret (σ' := σ) v_ sub_ ?_
    refine ⟨?_, rfl⟩
    rw [hw] at hc1
    rw [tookS, if_neg (by omega)]
def insI (n : Int) : List Int → List Int
  | [] => [n]
  | x :: l => if x ≤ n then x :: insI n l else n :: x :: l
theorem insI_perm (n : Int) : ∀ (l : List Int), (insI n l).Perm (n :: l)
  | [] => .refl _
  | x :: l => by
    unfold insI
    split
    · exact (List.Perm.cons x (insI_perm n l)).trans (.swap n x l)
    · exact .refl _
theorem insI_so {n : Int} : ∀ {l : List Int}, l.Pairwise (· ≤ ·) → (insI n l).Pairwise (· ≤ ·)
  | [], _ => List.pairwise_singleton _ _
  | x :: l, h => by
    have hp := List.pairwise_cons.1 h
    unfold insI
    split
    · rename_i hx
      refine List.pairwise_cons.2 ⟨fun y hy => ?_, insI_so hp.2⟩
      rcases List.mem_cons.1 ((insI_perm n l).mem_iff.1 hy) with rfl | hy
      · exact hx
      · exact hp.1 y hy
    · rename_i hx
      exact List.pairwise_cons.2 ⟨fun y hy => by rcases List.mem_cons.1 hy with rfl | hy; omega; have := hp.1 y hy; omega, h⟩
theorem insI_at {n : Int} : ∀ {l : List Int} {k : Nat}, (∀ j x, j < k → l[j]? = some x → x ≤ n) → (∀ x, l[k]? = some x → ¬ x ≤ n) → k ≤ l.length → insI n l = l.take k ++ n :: l.drop k
  | [], k, _, _, hk => by
    obtain rfl : k = 0 := by simpa using hk
    simp [insI]
  | m :: l, 0, _, h2, _ => by
    have := h2 m rfl
    simp only [insI, if_neg this, List.take_zero, List.drop_zero, List.nil_append]
  | m :: l, k + 1, h1, h2, hk => by
    have hm := h1 0 m (by omega) rfl
    have ih := insI_at (n := n) (l := l) (k := k) (fun j x hj hx => h1 (j + 1) x (by omega) hx) (fun x hx => h2 x hx) (by simpa using hk)
    rw [insI, if_pos hm, ih]
    rfl
def tkR (L : List Deed) : List Int := (tookL L).foldl (fun acc n => insI n acc) []
theorem tk_fold : ∀ (M l : List Int), l.Pairwise (· ≤ ·) → (M.foldl (fun acc n => insI n acc) l).Pairwise (· ≤ ·) ∧ (M.foldl (fun acc n => insI n acc) l).Perm (M ++ l)
  | [], l, h => ⟨h, .refl _⟩
  | n :: M, l, h => by
    obtain ⟨h1, h2⟩ := tk_fold M (insI n l) (insI_so h)
    refine ⟨h1, h2.trans ?_⟩
    exact ((insI_perm n l).append_left M).trans List.perm_middle
theorem tkR_eq (L : List Deed) : tkR L = tookI L := by
  obtain ⟨h1, h2⟩ := tk_fold (tookL L) [] .nil
  rw [List.append_nil] at h2
  exact List.Perm.eq_of_pairwise (le := fun a b : Int => a ≤ b) (fun a b _ _ h h' => by omega) h1 (tookI_so L) (h2.trans (tookI_perm L).symm)
theorem tkR_len (L : List Deed) : (tkR L).length ≤ L.length := by
  rw [tkR_eq, tookI_len]; exact dn_le L
theorem rTook_c {L : List Deed} {t : Bool} {σ : Store} (hd : ∀ d ∈ L, DeedI d) (hl : L.length ≤ 1000000) : ACalls Tryz.prog 15 [.sl 20 (L.map sDeed) t] σ fun v σ' => v = .sl 1 ((tookI L).map vInt) false ∧ σ = σ' := by
  rw [← tkR_eq]
  refine ACalls_of Tryz.func15 rfl Tryz.ntmps15 (congrArg Array.toList Tryz.results15) (by simp only [List.length_cons, List.length_nil]; decide) ?_; simp only [envOf_cons, envOf_nil, Nat.reduceAdd]
  refine awp_seq ?_
  refine awp_region (by kernel_rfl) ?_
  (refine aL_S rfl rfl v_ ?_)
  refine aL_nil ?_
  refine awp_seq ?_
  refine awp_region (by kernel_rfl) ?_
  refine aL_X rfl rfl (AOp_wk (a := vNil) (AOp_val (by rfl) ⟨rfl, rfl⟩) (.nil 1 false) ?_)
  refine aL_nil ?_
  refine awp_seq ?_
  refine awp_seq ?_
  refine awp_region (by kernel_rfl) ?_
  (refine aL_S rfl rfl v_ ?_)
  refine aL_nil ?_
  refine awp_block ?_
  refine awp_loop_env (ι := Nat) (fun i => L.length - i) (fun i => i ≤ L.length) (fun i => [(0, .sl 20 (L.map sDeed) t), (3, .sl 1 ((tkR (L.take i)).map vInt) false), (4, vInt i)]) (fun i => σ) 0 ?_ ?_ ?_ ?_
  · exact Nat.zero_le _
  · exact cv_
  · exact sub_
  rintro i hi
  simp only [envL_cons, envL_nil]
  refine awp_seq ?_
  refine awp_seq ?_
  refine awp_region (by kernel_rfl) ?_
  iterate 4 (refine aL_S rfl rfl v_ ?_)
  refine aL_nil ?_
  refine awp_cond v_ (fun hc3 => ?_) (fun hc3 => ?_)
  · replace hc3 := nm_ hc3
    refine awp_skip ?_
    refine awp_seq ?_
    refine awp_block ?_
    refine awp_seq ?_
    refine awp_seq ?_
    obtain ⟨x, hx⟩ := get_some (l := L) (k := i) (by omega)
    have hxi := hd x (List.mem_of_getElem? hx)
    have hle := tkR_len (L.take i)
    rw [List.length_take] at hle
    have R := hx
    refine awp_region (by kernel_rfl) ?_
    iterate 6 (refine aL_S rfl rfl v_ ?_)
    refine aL_nil ?_
    refine awp_cond v_ (fun hc5 => ?_) (fun hc5 => ?_)
    · replace hc5 := nm_ hc5
      have hcov : tkR (L.take (i + 1)) = tkR (L.take i) := by rw [take_snoc hx]; simp [tkR, tookL, dn, hc5]
      refine awp_exit ?_
      refine aThen_exit ?_
      refine aBlock_hit ?_
      refine awp_region (by kernel_rfl) ?_
      iterate 3 (refine aL_S rfl rfl v_ ?_)
      refine aL_nil ?_
      refine aNext (ι := Nat) (i := i) (i + 1) ?_ ?_ ?_ ?_
      · omega
      · exact (by omega)
      · have R := hcov; exact cv_
      · exact sub_
    · replace hc5 := nm_ hc5
      have hcov1 : tkR (L.take (i + 1)) = insI (tookS x) (tkR (L.take i)) := by rw [take_snoc hx]; simp [tkR, tookL, dn, hc5]
      obtain ⟨l, hl2⟩ : ∃ l, tkR (L.take i) = l := ⟨_, rfl⟩
      rw [hl2] at hle hcov1 ⊢
      refine awp_skip ?_
      refine awp_seq ?_
      have R := hx
      refine awp_region (by kernel_rfl) ?_
      iterate 4 (refine aL_S rfl rfl v_ ?_)
      refine aL_X rfl rfl (AOp_use rfl rfl (.inr ⟨rfl, rfl, rfl⟩) g_ va_ (rtook_c hxi) ?_); rintro _ _ ⟨rfl, rfl⟩
      (refine aL_S rfl rfl v_ ?_)
      refine aL_nil ?_
      refine awp_seq ?_
      refine awp_region (by kernel_rfl) ?_
      (refine aL_S rfl rfl v_ ?_)
      refine aL_nil ?_
      refine awp_seq ?_
      refine awp_block ?_
      refine awp_loop_env (ι := Nat) (fun k => l.length - k) (fun k => k ≤ l.length ∧ ∀ j y, j < k → l[j]? = some y → y ≤ tookS x) (fun k => [(0, .sl 20 (L.map sDeed) t), (3, .sl 1 (l.map vInt) false), (4, vInt i), (5, vInt (tookS x)), (6, vInt k)]) (fun k => σ) 0 ?_ ?_ ?_ ?_
      · exact ⟨Nat.zero_le _, fun j y h => by omega⟩
      · exact cv_
      · exact sub_
      rintro k ⟨hk, ha⟩
      simp only [envL_cons, envL_nil]
      refine awp_seq ?_
      refine awp_seq ?_
      obtain ⟨y, hy⟩ := get_if l k
      have R := hy
      refine awp_region (by kernel_rfl) ?_
      iterate 5 (refine aL_S rfl rfl v_ ?_)
      refine aL_GT rfl rfl v_ rfl vg_ ?_
      refine aL_GT rfl rfl v_ rfl vg_ ?_
      refine aL_GT rfl rfl v_ rfl vg_ ?_
      refine aL_GT rfl rfl v_ rfl vg_ ?_
      refine aL_GT rfl rfl v_ rfl vg_ ?_
      refine aL_GT rfl rfl v_ rfl vg_ ?_
      (refine aL_S rfl rfl v_ ?_)
      refine aL_nil ?_
      refine awp_cond v_ (fun hc8 => ?_) (fun hc8 => ?_)
      · replace hc8 := nm_ hc8
        refine awp_skip ?_
        refine awp_block ?_
        refine awp_region (by kernel_rfl) ?_
        iterate 3 (refine aL_S rfl rfl v_ ?_)
        refine aL_nil ?_
        refine aNext (ι := Nat) (i := k) (k + 1) ?_ ?_ ?_ ?_
        · omega
        · exact ⟨by omega, fun j z hj hz => by rcases Nat.lt_or_eq_of_le (Nat.le_of_lt_succ hj) with h | h; exact ha j z h hz; rw [h, hy (by omega)] at hz; obtain rfl := Option.some.inj hz; omega⟩
        · exact cv_
        · exact sub_
      · replace hc8 := nm_ hc8
        refine awp_exit ?_
        refine aThen_exit ?_
        refine aThen_exit ?_
        refine aBlock_hit ?_
        refine awp_seq ?_
        refine awp_region (by kernel_rfl) ?_
        refine aL_nilOwn 3 1 rfl rfl rfl (by rfl) fun k7 hk7 => ?_
        refine aL_nil ?_
        refine awp_seq ?_
        skip
        have hres : insI (tookS x) l = l.take k ++ tookS x :: l.drop k := insI_at ha (fun z hz => by
          have h1 := (List.getElem?_eq_some_iff.1 hz).1
          rw [hy h1] at hz; obtain rfl := Option.some.inj hz
          rcases hc8 with h | h <;> omega) hk
        have hcov : (tkR (L.take (i + 1))).map vInt = (l.take k).map vInt ++ [vInt (tookS x)] ++ (l.drop k).map vInt := by rw [hcov1.trans hres]; simp
        have m1 : (l.map vInt).take k = (l.take k).map vInt := List.map_take.symm
        have m2 : ((l.map vInt).take l.length).drop k = (l.drop k).map vInt := by rw [List.take_of_length_le (by simp), List.map_drop]
        have m3 : (l.map vInt).drop k = (l.drop k).map vInt := List.map_drop.symm
        have R := m1
        refine awp_region (by kernel_rfl) ?_
        iterate 4 (refine aL_S rfl rfl v_ ?_)
        refine aL_append rfl rfl rfl g_ g_ v_ h_ v_ (oneInt _) (by simp; omega) fun k43 hk43 => ?_
        have t43 := (newTok_none hk43).2
        (refine aL_S rfl rfl v_ ?_)
        refine aL_nil ?_
        refine awp_seq ?_
        refine awp_region (by kernel_rfl) ?_
        iterate 2 (refine aL_S rfl rfl v_ ?_)
        refine aL_buildSlice rfl rfl rfl g_ g_ rfl rfl h_ c2_ (by decide) ?_
        refine aL_append rfl rfl rfl g_ g_ v_ h_ v_ c_ (by simp; omega) fun k47 hk47 => ?_
        rw [Store.newTok_step hk7] at hk47
        have t47 := (newTok_none hk47).2
        (refine aL_S rfl rfl v_ ?_)
        refine aL_nil ?_
        refine awp_seq ?_
        have R := And.intro m2 m3
        refine awp_region (by kernel_rfl) ?_
        iterate 4 (refine aL_S rfl rfl v_ ?_)
        refine aL_append rfl rfl rfl g_ g_ v_ h_ v_ (oneInt _) (by simp; omega) fun k52 hk52 => ?_
        rw [Store.newTok_step hk7, Store.newTok_step t43] at hk52
        have t52 := (newTok_none hk52).2
        (refine aL_S rfl rfl v_ ?_)
        refine aL_nil ?_
        refine awp_region (by kernel_rfl) ?_
        (refine aL_S rfl rfl v_ ?_)
        refine aL_X rfl rfl (AOp_wk (a := .own k52 1 ((l.take k).map vInt ++ [vInt (tookS x)] ++ (l.drop k).map vInt)) (AOp_val (by rfl) ⟨rfl, rfl⟩) (.own1 _ _ _) ?_)
        refine aL_nil ?_
        refine awp_region (by kernel_rfl) ?_
        iterate 3 (refine aL_S rfl rfl v_ ?_)
        refine aL_nil ?_
        refine aNext (ι := Nat) (i := i) (i + 1) ?_ ?_ ?_ ?_
        · omega
        · exact (by omega)
        · have R := hcov; exact cv_
        · exact sub_
  · replace hc3 := nm_ hc3
    refine awp_exit ?_
    refine aThen_exit ?_
    refine aThen_exit ?_
    refine aBlock_hit ?_
    refine awp_seq ?_
    refine awp_region (by kernel_rfl) ?_
    iterate 2 (refine aL_S rfl rfl v_ ?_)
    refine aL_nil ?_
    refine awp_ret ?_
    refine aEnd_ret (σ' := σ) v_ sub_ ?_
    exact ⟨by rw [List.take_of_length_le (by omega)], rfl⟩
end Go.Proofs.YtbjloippgpilcaaGreatDoor
end

section
set_option linter.all false
set_option maxRecDepth 100000
namespace Go.Proofs.YtbjloippgpilcaaGreatDoor
open Go.Ab
def cLow (k e : Int) (x : Cnt) : Prop := x.kind < k ∨ (x.kind = k ∧ x.err < e)
theorem cntAdd_hit {k e : Int} : ∀ {l : List Cnt} {i : Nat} {x : Cnt}, (∀ j y, j < i → l[j]? = some y → cLow k e y) → l[i]? = some x → x.kind = k → x.err = e → cntAdd k e l = l.take i ++ ⟨k, e, x.n + 1⟩ :: l.drop (i + 1)
  | [], i, x, _, hx, _, _ => by simp at hx
  | m :: l, 0, x, _, hx, hk, he => by
    obtain rfl : m = x := by simpa using hx
    subst hk; subst he
    simp [cntAdd]
  | m :: l, i + 1, x, h1, hx, hk, he => by
    have hm := h1 0 m (by omega) rfl
    have ih := cntAdd_hit (k := k) (e := e) (l := l) (i := i) (x := x) (fun j y hj hy => h1 (j + 1) y (by omega) hy) (by simpa using hx) hk he
    unfold cLow at hm
    rw [cntAdd, if_pos hm, ih]
    rfl
theorem cntAdd_new {k e : Int} : ∀ {l : List Cnt} {i : Nat}, (∀ j y, j < i → l[j]? = some y → cLow k e y) → (∀ x, l[i]? = some x → ¬ cLow k e x ∧ ¬ (x.kind = k ∧ x.err = e)) → i ≤ l.length → cntAdd k e l = l.take i ++ ⟨k, e, 1⟩ :: l.drop i
  | [], i, _, _, hi => by
    obtain rfl : i = 0 := by simpa using hi
    simp [cntAdd]
  | m :: l, 0, _, h2, _ => by
    obtain ⟨h3, h4⟩ := h2 m rfl
    unfold cLow at h3
    rw [cntAdd, if_neg h3, if_neg (by omega)]
    rfl
  | m :: l, i + 1, h1, h2, hi => by
    have hm := h1 0 m (by omega) rfl
    have ih := cntAdd_new (k := k) (e := e) (l := l) (i := i) (fun j y hj hy => h1 (j + 1) y (by omega) hy) (fun x hx => h2 x hx) (by simpa using hi)
    unfold cLow at hm
    rw [cntAdd, if_pos hm, ih]
    rfl
theorem rCounts_c {L : List Deed} {t : Bool} {σ : Store} (hl : L.length ≤ 1000000) : ACalls Tryz.prog 12 [.sl 20 (L.map sDeed) t] σ fun v σ' => v = .sl 3 ((countsS L).map sCnt) false ∧ σ = σ' := by
  refine ACalls_of Tryz.func12 rfl Tryz.ntmps12 (congrArg Array.toList Tryz.results12) (by simp only [List.length_cons, List.length_nil]; decide) ?_; simp only [envOf_cons, envOf_nil, Nat.reduceAdd]
  refine awp_seq ?_
  refine awp_region (by kernel_rfl) ?_
  (refine aL_S rfl rfl v_ ?_)
  refine aL_nil ?_
  refine awp_seq ?_
  refine awp_region (by kernel_rfl) ?_
  refine aL_X rfl rfl (AOp_wk (a := vNil) (AOp_val (by rfl) ⟨rfl, rfl⟩) (.nil 3 false) ?_)
  refine aL_nil ?_
  refine awp_seq ?_
  refine awp_seq ?_
  refine awp_region (by kernel_rfl) ?_
  (refine aL_S rfl rfl v_ ?_)
  refine aL_nil ?_
  refine awp_block ?_
  refine awp_loop_env (ι := Nat) (fun i => L.length - i) (fun i => i ≤ L.length) (fun i => [(0, .sl 20 (L.map sDeed) t), (3, .sl 3 ((countsS (L.take i)).map sCnt) false), (4, vInt i)]) (fun i => σ) 0 ?_ ?_ ?_ ?_
  · exact Nat.zero_le _
  · exact cv_
  · exact sub_
  rintro i hi
  simp only [envL_cons, envL_nil]
  refine awp_seq ?_
  refine awp_seq ?_
  refine awp_region (by kernel_rfl) ?_
  iterate 4 (refine aL_S rfl rfl v_ ?_)
  refine aL_nil ?_
  refine awp_cond v_ (fun hc3 => ?_) (fun hc3 => ?_)
  · replace hc3 := nm_ hc3
    refine awp_skip ?_
    refine awp_seq ?_
    refine awp_block ?_
    refine awp_seq ?_
    refine awp_seq ?_
    obtain ⟨x, hx⟩ := get_some (l := L) (k := i) (by omega)
    have hle := countsS_len (L.take i)
    have hnn := countsS_n (L.take i)
    rw [List.length_take] at hle hnn
    have R := hx
    refine awp_region (by kernel_rfl) ?_
    iterate 6 (refine aL_S rfl rfl v_ ?_)
    refine aL_nil ?_
    refine awp_cond v_ (fun hc5 => ?_) (fun hc5 => ?_)
    · replace hc5 := nm_ hc5
      have hcov : countsS (L.take (i + 1)) = countsS (L.take i) := by rw [take_snoc hx]; simp [countsS, cStep, hc5]
      refine awp_exit ?_
      refine aThen_exit ?_
      refine aBlock_hit ?_
      refine awp_region (by kernel_rfl) ?_
      iterate 3 (refine aL_S rfl rfl v_ ?_)
      refine aL_nil ?_
      refine aNext (ι := Nat) (i := i) (i + 1) ?_ ?_ ?_ ?_
      · omega
      · exact (by omega)
      · have R := hcov; exact cv_
      · exact sub_
    · replace hc5 := nm_ hc5
      have hcov1 : countsS (L.take (i + 1)) = cntAdd x.kind x.err (countsS (L.take i)) := by rw [take_snoc hx]; simp [countsS, cStep, hc5]
      obtain ⟨l, hl2⟩ : ∃ l, countsS (L.take i) = l := ⟨_, rfl⟩
      rw [hl2] at hle hcov1 hnn ⊢
      refine awp_skip ?_
      refine awp_seq ?_
      have R := hx
      refine awp_draw (.op 0 0 (.op 1 0 (.op 2 0 (.op 3 0 (.op 4 0 (.op 5 0 (.op 6 0 (.op 7 0 (.op 8 0 (.op 9 0 (.op 10 0 (.op 11 0 (.op 12 0 (.op 13 0 .nil)))))))))))))) Tryz.mixed (by kernel_rfl) ?_
      iterate 14 (refine dR_S o_ (by rfl) (by rfl) v_ ?_)
      refine dR_nil ?_
      refine awp_seq ?_
      refine awp_region (by kernel_rfl) ?_
      (refine aL_S rfl rfl v_ ?_)
      refine aL_nil ?_
      refine awp_seq ?_
      refine awp_block ?_
      refine awp_loop_env (ι := Nat) (fun k => l.length - k) (fun k => k ≤ l.length ∧ ∀ j y, j < k → l[j]? = some y → cLow x.kind x.err y) (fun k => [(0, .sl 20 (L.map sDeed) t), (3, .sl 3 (l.map sCnt) false), (4, vInt i), (5, vInt x.kind), (6, vInt x.err), (7, vInt k)]) (fun k => σ) 0 ?_ ?_ ?_ ?_
      · exact ⟨Nat.zero_le _, fun j y h => by omega⟩
      · exact cv_
      · exact sub_
      rintro k ⟨hk, ha⟩
      simp only [envL_cons, envL_nil]
      refine awp_seq ?_
      refine awp_seq ?_
      obtain ⟨y, hy⟩ := get_if l k
      have R := hy
      refine awp_region (by kernel_rfl) ?_
      iterate 5 (refine aL_S rfl rfl v_ ?_)
      refine aL_GT rfl rfl v_ rfl vg_ ?_
      refine aL_GT rfl rfl v_ rfl vg_ ?_
      refine aL_GT rfl rfl v_ rfl vg_ ?_
      refine aL_GT rfl rfl v_ rfl vg_ ?_
      refine aL_GT rfl rfl v_ rfl vg_ ?_
      refine aL_GT rfl rfl v_ rfl vg_ ?_
      refine aL_GT rfl rfl v_ rfl vg_ ?_
      refine aL_GT rfl rfl v_ rfl vg_ ?_
      refine aL_GGF rfl rfl v_ rfl vg_ ?_
      refine aL_GGF rfl rfl v_ rfl vg_ ?_
      refine aL_GGF rfl rfl v_ rfl vg_ ?_
      refine aL_GGF rfl rfl v_ rfl vg_ ?_
      refine aL_GGF rfl rfl v_ rfl vg_ ?_
      refine aL_GGF rfl rfl v_ rfl vg_ ?_
      refine aL_GGF rfl rfl v_ rfl vg_ ?_
      refine aL_GGF rfl rfl v_ rfl vg_ ?_
      refine aL_GGT rfl rfl v_ rfl vg_ ?_
      refine aL_GGT rfl rfl v_ rfl vg_ ?_
      refine aL_GGT rfl rfl v_ rfl vg_ ?_
      refine aL_GGT rfl rfl v_ rfl vg_ ?_
      refine aL_GGT rfl rfl v_ rfl vg_ ?_
      refine aL_GGT rfl rfl v_ rfl vg_ ?_
      refine aL_GGT rfl rfl v_ rfl vg_ ?_
      refine aL_GGF rfl rfl v_ rfl vg_ ?_
      refine aL_GT rfl rfl v_ rfl vg_ ?_
      (refine aL_S rfl rfl v_ ?_)
      refine aL_nil ?_
      refine awp_cond v_ (fun hc8 => ?_) (fun hc8 => ?_)
      · replace hc8 := nm_ hc8
        refine awp_skip ?_
        refine awp_block ?_
        refine awp_region (by kernel_rfl) ?_
        iterate 3 (refine aL_S rfl rfl v_ ?_)
        refine aL_nil ?_
        refine aNext (ι := Nat) (i := k) (k + 1) ?_ ?_ ?_ ?_
        · omega
        · exact ⟨by omega, fun j z hj hz => by rcases Nat.lt_or_eq_of_le (Nat.le_of_lt_succ hj) with h | h; exact ha j z h hz; rw [h, hy (by omega)] at hz; obtain rfl := Option.some.inj hz; unfold cLow; omega⟩
        · exact cv_
        · exact sub_
      · replace hc8 := nm_ hc8
        refine awp_exit ?_
        refine aThen_exit ?_
        refine aThen_exit ?_
        refine aBlock_hit ?_
        refine awp_seq ?_
        refine awp_region (by kernel_rfl) ?_
        refine aL_nilOwn 58 3 rfl rfl rfl (by rfl) fun k8 hk8 => ?_
        refine aL_nil ?_
        refine awp_seq ?_
        skip
        have m1 : (l.map sCnt).take k = (l.take k).map sCnt := List.map_take.symm
        have m2 : ((l.map sCnt).take l.length).drop k = (l.drop k).map sCnt := by rw [List.take_of_length_le (by simp), List.map_drop]
        have m3 : (l.map sCnt).drop k = (l.drop k).map sCnt := List.map_drop.symm
        have m4 : ((l.map sCnt).take l.length).drop (k + 1) = (l.drop (k + 1)).map sCnt := by rw [List.take_of_length_le (by simp), List.map_drop]
        have m5 : (l.map sCnt).drop (k + 1) = (l.drop (k + 1)).map sCnt := List.map_drop.symm
        have htk : (l.take k).length ≤ 1000000 := by rw [List.length_take]; omega
        have hdr : (l.drop k).length ≤ 1000000 := by rw [List.length_drop]; omega
        have hdr1 : (l.drop (k + 1)).length ≤ 1000000 := by rw [List.length_drop]; omega
        have R := m1
        refine awp_region (by kernel_rfl) ?_
        iterate 4 (refine aL_S rfl rfl v_ ?_)
        refine aL_append rfl rfl rfl g_ g_ v_ h_ v_ (oneCnt _) (by simp; omega) fun k70 hk70 => ?_
        have t70 := (newTok_none hk70).2
        (refine aL_S rfl rfl v_ ?_)
        refine aL_nil ?_
        refine awp_seq ?_
        refine awp_seq ?_
        have R := hy
        refine awp_region (by kernel_rfl) ?_
        iterate 5 (refine aL_S rfl rfl v_ ?_)
        refine aL_GT rfl rfl v_ rfl vg_ ?_
        refine aL_GT rfl rfl v_ rfl vg_ ?_
        refine aL_GT rfl rfl v_ rfl vg_ ?_
        refine aL_GT rfl rfl v_ rfl vg_ ?_
        refine aL_GT rfl rfl v_ rfl vg_ ?_
        refine aL_GT rfl rfl v_ rfl vg_ ?_
        refine aL_GT rfl rfl v_ rfl vg_ ?_
        iterate 2 (refine aL_S rfl rfl v_ ?_)
        refine aL_GT rfl rfl v_ rfl vg_ ?_
        refine aL_GT rfl rfl v_ rfl vg_ ?_
        refine aL_GT rfl rfl v_ rfl vg_ ?_
        refine aL_GT rfl rfl v_ rfl vg_ ?_
        refine aL_GT rfl rfl v_ rfl vg_ ?_
        refine aL_GT rfl rfl v_ rfl vg_ ?_
        refine aL_GT rfl rfl v_ rfl vg_ ?_
        (refine aL_S rfl rfl v_ ?_)
        refine aL_nil ?_
        refine awp_cond v_ (fun hc12 => ?_) (fun hc12 => ?_)
        · replace hc12 := nm_ hc12
          skip
          have hyk := hy (by have := hc12.1.1; omega)
          have hk1 : ((k : Int) + 1).toNat = k + 1 := by omega
          have hyn := hnn y (List.mem_of_getElem? hyk)
          have hcov : (countsS (L.take (i + 1))).map sCnt = (l.take k).map sCnt ++ [sCnt ⟨x.kind, x.err, y.n + 1⟩] ++ (l.drop (k + 1)).map sCnt := by
            rw [hcov1, cntAdd_hit ha hyk hc12.1.2 hc12.2]; simp
          refine awp_seq ?_
          have R := hyk
          refine awp_region (by kernel_rfl) ?_
          iterate 10 (refine aL_S rfl rfl v_ ?_)
          refine aL_buildSlice rfl rfl rfl g_ g_ rfl rfl h_ c2_ (by decide) ?_
          refine aL_append rfl rfl rfl g_ g_ v_ h_ v_ c_ (by simp; omega) fun k104 hk104 => ?_
          rw [Store.newTok_step hk8] at hk104
          have t104 := (newTok_none hk104).2
          (refine aL_S rfl rfl v_ ?_)
          refine aL_nil ?_
          have R := And.intro hk1 (And.intro m4 m5)
          refine awp_region (by kernel_rfl) ?_
          iterate 5 (refine aL_S rfl rfl v_ ?_)
          refine aL_append rfl rfl rfl g_ g_ v_ h_ v_ (oneCnt _) (by simp; omega) fun k110 hk110 => ?_
          rw [Store.newTok_step hk8, Store.newTok_step t70] at hk110
          have t110 := (newTok_none hk110).2
          (refine aL_S rfl rfl v_ ?_)
          refine aL_nil ?_
          refine awp_region (by kernel_rfl) ?_
          (refine aL_S rfl rfl v_ ?_)
          first | (have _h := k110; refine aL_X rfl rfl (AOp_wk (a := .own k110 3 ((l.take k).map sCnt ++ [sCnt ⟨x.kind, x.err, y.n + 1⟩] ++ (l.drop (k + 1)).map sCnt)) (AOp_val (by rfl) ⟨rfl, rfl⟩) (.own1 _ _ _) ?_)) | (refine aL_X rfl rfl (AOp_wk (a := .own k121 3 ((l.take k).map sCnt ++ [sCnt ⟨x.kind, x.err, 1⟩] ++ (l.drop k).map sCnt)) (AOp_val (by rfl) ⟨rfl, rfl⟩) (.own1 _ _ _) ?_))
          refine aL_nil ?_
          refine awp_region (by kernel_rfl) ?_
          iterate 3 (refine aL_S rfl rfl v_ ?_)
          refine aL_nil ?_
          refine aNext (ι := Nat) (i := i) (i + 1) ?_ ?_ ?_ ?_
          · omega
          · exact (by omega)
          · have R := hcov; exact cv_
          · exact sub_
        · replace hc12 := nm_ hc12
          skip
          have hcov : (countsS (L.take (i + 1))).map sCnt = (l.take k).map sCnt ++ [sCnt ⟨x.kind, x.err, 1⟩] ++ (l.drop k).map sCnt := by
            rw [hcov1, cntAdd_new ha (fun z hz => by
              have h1 := (List.getElem?_eq_some_iff.1 hz).1
              rw [hy h1] at hz; obtain rfl := Option.some.inj hz
              unfold cLow
              omega) hk]; simp
          refine awp_seq ?_
          refine awp_region (by kernel_rfl) ?_
          iterate 4 (refine aL_S rfl rfl v_ ?_)
          refine aL_buildSlice rfl rfl rfl g_ g_ rfl rfl h_ c2_ (by decide) ?_
          refine aL_append rfl rfl rfl g_ g_ v_ h_ v_ c_ (by simp; omega) fun k116 hk116 => ?_
          rw [Store.newTok_step hk8] at hk116
          have t116 := (newTok_none hk116).2
          (refine aL_S rfl rfl v_ ?_)
          refine aL_nil ?_
          have R := And.intro m2 m3
          refine awp_region (by kernel_rfl) ?_
          iterate 4 (refine aL_S rfl rfl v_ ?_)
          refine aL_append rfl rfl rfl g_ g_ v_ h_ v_ (oneCnt _) (by simp; omega) fun k121 hk121 => ?_
          rw [Store.newTok_step hk8, Store.newTok_step t70] at hk121
          have t121 := (newTok_none hk121).2
          (refine aL_S rfl rfl v_ ?_)
          refine aL_nil ?_
          refine awp_region (by kernel_rfl) ?_
          (refine aL_S rfl rfl v_ ?_)
          first | (have _h := k110; refine aL_X rfl rfl (AOp_wk (a := .own k110 3 ((l.take k).map sCnt ++ [sCnt ⟨x.kind, x.err, y.n + 1⟩] ++ (l.drop (k + 1)).map sCnt)) (AOp_val (by rfl) ⟨rfl, rfl⟩) (.own1 _ _ _) ?_)) | (refine aL_X rfl rfl (AOp_wk (a := .own k121 3 ((l.take k).map sCnt ++ [sCnt ⟨x.kind, x.err, 1⟩] ++ (l.drop k).map sCnt)) (AOp_val (by rfl) ⟨rfl, rfl⟩) (.own1 _ _ _) ?_))
          refine aL_nil ?_
          refine awp_region (by kernel_rfl) ?_
          iterate 3 (refine aL_S rfl rfl v_ ?_)
          refine aL_nil ?_
          refine aNext (ι := Nat) (i := i) (i + 1) ?_ ?_ ?_ ?_
          · omega
          · exact (by omega)
          · have R := hcov; exact cv_
          · exact sub_
  · replace hc3 := nm_ hc3
    refine awp_exit ?_
    refine aThen_exit ?_
    refine aThen_exit ?_
    refine aBlock_hit ?_
    refine awp_seq ?_
    refine awp_region (by kernel_rfl) ?_
    iterate 2 (refine aL_S rfl rfl v_ ?_)
    refine aL_nil ?_
    refine awp_ret ?_
    refine aEnd_ret (σ' := σ) v_ sub_ ?_
    exact ⟨by rw [List.take_of_length_le (by omega)], rfl⟩
end Go.Proofs.YtbjloippgpilcaaGreatDoor
end
