/-
  The reference's lanes, sums and numbers; The reference's numbers as digits; The reference's lines; What any deeds came to, of each lane, and as lines: the program's answers are the document's. Own work (an AI agent).
-/
import Derived.Test.YtbjloippgpilcaaGreatDoorGL

section
set_option linter.all false
set_option maxRecDepth 100000
namespace Go.Proofs.YtbjloippgpilcaaGreatDoor
open Go.Ab
/-! ### lanes -/
def insS (s : ByteArray) : List ByteArray → List ByteArray
  | [] => [s]
  | x :: l => if sLt x s = true then x :: insS s l else if x = s then x :: l else s :: x :: l
theorem insS_mem {s x : ByteArray} : ∀ {l : List ByteArray}, x ∈ insS s l ↔ x = s ∨ x ∈ l
  | [] => by simp [insS]
  | m :: l => by
    unfold insS
    split
    · rw [List.mem_cons, insS_mem (l := l), List.mem_cons]
      constructor
      · rintro (h | h | h)
        · exact .inr (.inl h)
        · exact .inl h
        · exact .inr (.inr h)
      · rintro (h | h | h)
        · exact .inr (.inl h)
        · exact .inl h
        · exact .inr (.inr h)
    · split
      · rename_i h; subst h; simp
      · simp
theorem insS_rise {s : ByteArray} : ∀ {l : List ByteArray}, RiseN l → RiseN (insS s l)
  | [], _ => List.pairwise_singleton _ _
  | m :: l, h => by
    have h' : RiseN (m :: l) := h
    unfold RiseN at h
    have hp := List.pairwise_cons.1 h
    unfold insS
    split
    · rename_i hm
      exact List.pairwise_cons.2 ⟨fun x hx => by rcases insS_mem.1 hx with rfl | hx; exact hm; exact hp.1 x hx, insS_rise hp.2⟩
    · rename_i hm
      split
      · exact h'
      · rename_i hn
        have hlt : sLt s m = true := sLt_tri (by simpa using hm) hn
        exact List.pairwise_cons.2 ⟨fun x hx => by rcases List.mem_cons.1 hx with rfl | hx; exact hlt; exact sLt_trans hlt (hp.1 x hx), h⟩
theorem insS_at {s : ByteArray} : ∀ {l : List ByteArray} {k : Nat}, (∀ j x, j < k → l[j]? = some x → sLt x s = true) → (∀ x, l[k]? = some x → sLt x s = false) → k ≤ l.length → insS s l = if l[k]? = some s then l else l.take k ++ s :: l.drop k
  | [], k, _, _, hk => by
    obtain rfl : k = 0 := by simpa using hk
    simp [insS]
  | m :: l, 0, _, h2, _ => by
    have := h2 m rfl
    simp only [insS, this, List.getElem?_cons_zero, Option.some.injEq, List.take_zero, List.drop_zero, List.nil_append]
    rfl
  | m :: l, k + 1, h1, h2, hk => by
    have hm := h1 0 m (by omega) rfl
    have ih := insS_at (s := s) (l := l) (k := k) (fun j x hj hx => h1 (j + 1) x (by omega) hx) (fun x hx => h2 x hx) (by simpa using hk)
    rw [insS, if_pos hm, ih]
    simp only [List.getElem?_cons_succ, List.take_succ_cons, List.drop_succ_cons, List.cons_append]
    split <;> rfl
def lnR (L : List Deed) : List ByteArray := (L.map (·.lane)).foldl (fun acc s => insS s acc) []
theorem ln_fold : ∀ (M l : List ByteArray), RiseN l → RiseN (M.foldl (fun acc s => insS s acc) l) ∧ ∀ x, x ∈ M.foldl (fun acc s => insS s acc) l ↔ x ∈ l ∨ x ∈ M
  | [], l, h => ⟨h, fun x => by simp⟩
  | s :: M, l, h => by
    obtain ⟨h1, h2⟩ := ln_fold M (insS s l) (insS_rise h)
    refine ⟨h1, fun x => ?_⟩
    rw [List.foldl_cons, h2, insS_mem, List.mem_cons]
    constructor
    · rintro ((h | h) | h)
      · exact .inr (.inl h)
      · exact .inl h
      · exact .inr (.inr h)
    · rintro (h | h | h)
      · exact .inl (.inr h)
      · exact .inl (.inl h)
      · exact .inr h
theorem lnR_eq (L : List Deed) : lnR L = lanesS L := by
  obtain ⟨h1, h2⟩ := ln_fold (L.map (·.lane)) [] .nil
  exact riseN_unique h1 (lanesS_rise L) fun x => by rw [lanesS_mem]; exact (h2 x).trans (by simp)
theorem lnR_len (L : List Deed) : (lnR L).length ≤ L.length := by rw [lnR_eq]; exact lanesS_len L
theorem rLanes_c {L : List Deed} {t : Bool} {σ : Store} (hl : L.length ≤ 1000000) : ACalls Tryz.prog 6 [.sl 20 (L.map sDeed) t] σ fun v σ' => v = .sl 1 ((lanesS L).map vStr) false ∧ σ = σ' := by
  rw [← lnR_eq]
  refine ACalls_of Tryz.func6 rfl Tryz.ntmps6 (congrArg Array.toList Tryz.results6) (by simp only [List.length_cons, List.length_nil]; decide) ?_; simp only [envOf_cons, envOf_nil, Nat.reduceAdd]
  refine awp_seq ?_
  refine awp_region (by kernel_rfl) ?_
  (refine aL_S rfl rfl v_ ?_)
  refine aL_nil ?_
  refine awp_seq ?_
  refine awp_region (by kernel_rfl) ?_
  refine aL_X rfl rfl (AOp_wk (a := vNil) (AOp_val (by rfl) ⟨rfl, rfl⟩) (.nil 1 false) ?_)
  refine aL_nil ?_
  refine awp_seq ?_
  refine awp_seq ?_
  refine awp_region (by kernel_rfl) ?_
  (refine aL_S rfl rfl v_ ?_)
  refine aL_nil ?_
  refine awp_block ?_
  refine awp_loop_env (ι := Nat) (fun i => L.length - i) (fun i => i ≤ L.length) (fun i => [(0, .sl 20 (L.map sDeed) t), (3, .sl 1 ((lnR (L.take i)).map vStr) false), (4, vInt i)]) (fun i => σ) 0 ?_ ?_ ?_ ?_
  · exact Nat.zero_le _
  · exact cv_
  · exact sub_
  rintro i hi
  simp only [envL_cons, envL_nil]
  refine awp_seq ?_
  refine awp_seq ?_
  refine awp_region (by kernel_rfl) ?_
  iterate 4 (refine aL_S rfl rfl v_ ?_)
  refine aL_nil ?_
  refine awp_cond v_ (fun hc3 => ?_) (fun hc3 => ?_)
  · replace hc3 := nm_ hc3
    refine awp_skip ?_
    refine awp_seq ?_
    refine awp_block ?_
    refine awp_seq ?_
    obtain ⟨x, hx⟩ := get_some (l := L) (k := i) (by omega)
    have hle := lnR_len (L.take i)
    rw [List.length_take] at hle
    have hcov1 : lnR (L.take (i + 1)) = insS x.lane (lnR (L.take i)) := by rw [take_snoc hx]; simp [lnR]
    obtain ⟨l, hl2⟩ : ∃ l, lnR (L.take i) = l := ⟨_, rfl⟩
    rw [hl2] at hle hcov1 ⊢
    refine awp_region (by kernel_rfl) ?_
    (refine aL_S rfl rfl v_ ?_)
    refine aL_nil ?_
    refine awp_seq ?_
    refine awp_block ?_
    refine awp_loop_env (ι := Nat) (fun k => l.length - k) (fun k => k ≤ l.length ∧ ∀ j y, j < k → l[j]? = some y → sLt y x.lane = true) (fun k => [(0, .sl 20 (L.map sDeed) t), (3, .sl 1 (l.map vStr) false), (4, vInt i), (5, vInt k)]) (fun k => σ) 0 ?_ ?_ ?_ ?_
    · exact ⟨Nat.zero_le _, fun j y h => by omega⟩
    · exact cv_
    · exact sub_
    rintro k ⟨hk, ha⟩
    simp only [envL_cons, envL_nil]
    refine awp_seq ?_
    refine awp_seq ?_
    obtain ⟨y, hy⟩ := get_if l k
    have R := And.intro hy hx
    refine awp_draw (.op 0 0 (.op 1 0 (.op 2 0 (.op 3 0 (.op 4 0 (.op 5 0 (.op 6 0 (.op 7 0 (.op 8 0 (.op 9 0 (.op 10 0 (.op 11 0 (.op 12 0 (.op 13 0 (.op 14 0 (.op 15 0 .nil)))))))))))))))) Tryz.mixed (by kernel_rfl) ?_
    iterate 5 (refine dR_S o_ (by rfl) (by rfl) v_ ?_)
    refine dR_GT o_ (by rfl) (by rfl) v_ (by rfl) vg_ ?_
    refine dR_GT o_ (by rfl) (by rfl) v_ (by rfl) vg_ ?_
    refine dR_GT o_ (by rfl) (by rfl) v_ (by rfl) vg_ ?_
    refine dR_GT o_ (by rfl) (by rfl) v_ (by rfl) vg_ ?_
    refine dR_GT o_ (by rfl) (by rfl) v_ (by rfl) vg_ ?_
    refine dR_GT o_ (by rfl) (by rfl) v_ (by rfl) vg_ ?_
    refine dR_GT o_ (by rfl) (by rfl) v_ (by rfl) vg_ ?_
    refine dR_GT o_ (by rfl) (by rfl) v_ (by rfl) vg_ ?_
    refine dR_GT o_ (by rfl) (by rfl) v_ (by rfl) vg_ ?_
    refine dR_GT o_ (by rfl) (by rfl) v_ (by rfl) vg_ ?_
    (refine dR_S o_ (by rfl) (by rfl) v_ ?_)
    refine dR_nil ?_
    refine awp_cond v_ (fun hc6 => ?_) (fun hc6 => ?_)
    · replace hc6 := nm_ hc6
      refine awp_skip ?_
      refine awp_block ?_
      refine awp_region (by kernel_rfl) ?_
      iterate 3 (refine aL_S rfl rfl v_ ?_)
      refine aL_nil ?_
      refine aNext (ι := Nat) (i := k) (k + 1) ?_ ?_ ?_ ?_
      · omega
      · exact ⟨by omega, fun j z hj hz => by rcases Nat.lt_or_eq_of_le (Nat.le_of_lt_succ hj) with h | h; exact ha j z h hz; rw [h, hy (by omega)] at hz; obtain rfl := Option.some.inj hz; exact hc6.2⟩
      · exact cv_
      · exact sub_
    · replace hc6 := nm_ hc6
      refine awp_exit ?_
      refine aThen_exit ?_
      refine aThen_exit ?_
      refine aBlock_hit ?_
      refine awp_seq ?_
      refine awp_seq ?_
      skip
      have hat : insS x.lane l = if l[k]? = some x.lane then l else l.take k ++ x.lane :: l.drop k := insS_at ha (fun z hz => by
        have h1 := (List.getElem?_eq_some_iff.1 hz).1
        rw [hy h1] at hz; obtain rfl := Option.some.inj hz
        rcases hc6 with h | h
        · omega
        · simpa using h) hk
      have R := And.intro hy hx
      refine awp_draw (.op 0 0 (.op 1 0 (.op 2 0 (.op 3 0 (.op 4 0 (.op 5 0 (.op 6 0 (.op 7 0 (.op 8 0 (.op 9 0 (.op 10 0 (.op 11 0 (.op 12 0 (.op 13 0 (.op 14 0 (.op 15 0 .nil)))))))))))))))) Tryz.mixed (by kernel_rfl) ?_
      iterate 5 (refine dR_S o_ (by rfl) (by rfl) v_ ?_)
      refine dR_GT o_ (by rfl) (by rfl) v_ (by rfl) vg_ ?_
      refine dR_GT o_ (by rfl) (by rfl) v_ (by rfl) vg_ ?_
      refine dR_GT o_ (by rfl) (by rfl) v_ (by rfl) vg_ ?_
      refine dR_GT o_ (by rfl) (by rfl) v_ (by rfl) vg_ ?_
      refine dR_GT o_ (by rfl) (by rfl) v_ (by rfl) vg_ ?_
      refine dR_GT o_ (by rfl) (by rfl) v_ (by rfl) vg_ ?_
      refine dR_GT o_ (by rfl) (by rfl) v_ (by rfl) vg_ ?_
      refine dR_GT o_ (by rfl) (by rfl) v_ (by rfl) vg_ ?_
      refine dR_GT o_ (by rfl) (by rfl) v_ (by rfl) vg_ ?_
      refine dR_GT o_ (by rfl) (by rfl) v_ (by rfl) vg_ ?_
      (refine dR_S o_ (by rfl) (by rfl) v_ ?_)
      refine dR_nil ?_
      refine awp_cond v_ (fun hc8 => ?_) (fun hc8 => ?_)
      · replace hc8 := nm_ hc8
        skip
        have hcov : (lnR (L.take (i + 1))).map vStr = l.map vStr := by rw [hcov1, hat, hy (by have := hc8.1; omega), if_pos (by rw [hc8.2])]
        refine awp_exit ?_
        refine aThen_exit ?_
        refine aBlock_hit ?_
        refine awp_region (by kernel_rfl) ?_
        iterate 3 (refine aL_S rfl rfl v_ ?_)
        refine aL_nil ?_
        refine aNext (ι := Nat) (i := i) (i + 1) ?_ ?_ ?_ ?_
        · omega
        · exact (by omega)
        · have R := hcov; exact cv_
        · exact sub_
      · replace hc8 := nm_ hc8
        skip
        have hcov : (lnR (L.take (i + 1))).map vStr = (l.take k).map vStr ++ [vStr x.lane] ++ (l.drop k).map vStr := by
          rw [hcov1, hat, if_neg]
          · simp
          · intro h
            have h1 := (List.getElem?_eq_some_iff.1 h).1
            rw [hy h1] at h
            have h2 := Option.some.inj h
            rcases hc8 with hh | hh
            · omega
            · exact hh h2
        have m1 : (l.map vStr).take k = (l.take k).map vStr := List.map_take.symm
        have m2 : ((l.map vStr).take l.length).drop k = (l.drop k).map vStr := by rw [List.take_of_length_le (by simp), List.map_drop]
        have m3 : (l.map vStr).drop k = (l.drop k).map vStr := List.map_drop.symm
        refine awp_skip ?_
        refine awp_seq ?_
        refine awp_region (by kernel_rfl) ?_
        refine aL_nilOwn 9 1 rfl rfl rfl (by rfl) fun k6 hk6 => ?_
        refine aL_nil ?_
        refine awp_seq ?_
        have R := m1
        refine awp_region (by kernel_rfl) ?_
        iterate 4 (refine aL_S rfl rfl v_ ?_)
        refine aL_append rfl rfl rfl g_ g_ v_ h_ v_ (oneStr _) (by simp; omega) fun k51 hk51 => ?_
        have t51 := (newTok_none hk51).2
        (refine aL_S rfl rfl v_ ?_)
        refine aL_nil ?_
        refine awp_seq ?_
        have R := hx
        refine awp_region (by kernel_rfl) ?_
        iterate 6 (refine aL_S rfl rfl v_ ?_)
        refine aL_buildSlice rfl rfl rfl g_ g_ rfl rfl h_ c2_ (by decide) ?_
        refine aL_append rfl rfl rfl g_ g_ v_ h_ v_ c_ (by simp; omega) fun k59 hk59 => ?_
        rw [Store.newTok_step hk6] at hk59
        have t59 := (newTok_none hk59).2
        (refine aL_S rfl rfl v_ ?_)
        refine aL_nil ?_
        refine awp_seq ?_
        have R := And.intro m2 m3
        refine awp_region (by kernel_rfl) ?_
        iterate 4 (refine aL_S rfl rfl v_ ?_)
        refine aL_append rfl rfl rfl g_ g_ v_ h_ v_ (oneStr _) (by simp; omega) fun k64 hk64 => ?_
        rw [Store.newTok_step hk6, Store.newTok_step t51] at hk64
        have t64 := (newTok_none hk64).2
        (refine aL_S rfl rfl v_ ?_)
        refine aL_nil ?_
        refine awp_region (by kernel_rfl) ?_
        (refine aL_S rfl rfl v_ ?_)
        refine aL_X rfl rfl (AOp_wk (a := .own k64 1 ((l.take k).map vStr ++ [vStr x.lane] ++ (l.drop k).map vStr)) (AOp_val (by rfl) ⟨rfl, rfl⟩) (.own1 _ _ _) ?_)
        refine aL_nil ?_
        refine awp_region (by kernel_rfl) ?_
        iterate 3 (refine aL_S rfl rfl v_ ?_)
        refine aL_nil ?_
        refine aNext (ι := Nat) (i := i) (i + 1) ?_ ?_ ?_ ?_
        · omega
        · exact (by omega)
        · have R := hcov; exact cv_
        · exact sub_
  · replace hc3 := nm_ hc3
    refine awp_exit ?_
    refine aThen_exit ?_
    refine aThen_exit ?_
    refine aBlock_hit ?_
    refine awp_seq ?_
    refine awp_region (by kernel_rfl) ?_
    iterate 2 (refine aL_S rfl rfl v_ ?_)
    refine aL_nil ?_
    refine awp_ret ?_
    refine aEnd_ret (σ' := σ) v_ sub_ ?_
    exact ⟨by rw [List.take_of_length_le (by omega)], rfl⟩

/-! ### sums -/
theorem rof_c {L : List Deed} {s : ByteArray} {t : Bool} {σ : Store} (hl : L.length ≤ 1000000) : ACalls Tryz.prog 26 [.sl 20 (L.map sDeed) t, vStr s] σ fun v σ' => v = .sl 20 ((own L s).map sDeed) false ∧ σ = σ' := by
  refine ACalls_of Tryz.func26 rfl Tryz.ntmps26 (congrArg Array.toList Tryz.results26) (by simp only [List.length_cons, List.length_nil]; decide) ?_; simp only [envOf_cons, envOf_nil, Nat.reduceAdd]
  refine awp_seq ?_
  refine awp_region (by kernel_rfl) ?_
  (refine aL_S rfl rfl v_ ?_)
  refine aL_nil ?_
  refine awp_seq ?_
  refine awp_region (by kernel_rfl) ?_
  refine aL_nilOwn 51 20 rfl rfl rfl (by rfl) fun k5 hk5 => ?_
  refine aL_nil ?_
  refine awp_seq ?_
  refine awp_seq ?_
  refine awp_region (by kernel_rfl) ?_
  (refine aL_S rfl rfl v_ ?_)
  refine aL_nil ?_
  refine awp_block ?_
  refine awp_loop_env (ι := Nat × Nat) (fun ⟨k, i⟩ => L.length - i) (fun ⟨k, i⟩ => i ≤ L.length ∧ σ.tok k = none) (fun ⟨k, i⟩ => [(0, .sl 20 (L.map sDeed) t), (1, vStr s), (5, .own k 20 ((own (L.take i) s).map sDeed)), (6, vInt i)]) (fun ⟨k, i⟩ => (σ.newTok none k (51, 20))) (k5, 0) ?_ ?_ ?_ ?_
  · exact ⟨Nat.zero_le _, hk5⟩
  · exact cv_
  · exact Store.Wk.refl _
  rintro ⟨k, i⟩ ⟨hi, hk⟩
  simp only [envL_cons, envL_nil]
  refine awp_seq ?_
  refine awp_seq ?_
  refine awp_region (by kernel_rfl) ?_
  iterate 4 (refine aL_S rfl rfl v_ ?_)
  refine aL_nil ?_
  refine awp_cond v_ (fun hc3 => ?_) (fun hc3 => ?_)
  · replace hc3 := nm_ hc3
    refine awp_skip ?_
    refine awp_seq ?_
    refine awp_block ?_
    refine awp_seq ?_
    obtain ⟨x, hx⟩ := get_some (l := L) (k := i) (by omega)
    have hlen : (own (L.take i) s).length ≤ i := Nat.le_trans (own_len _ _) (by simp; omega)
    have R := hx
    refine awp_region (by kernel_rfl) ?_
    iterate 7 (refine aL_S rfl rfl v_ ?_)
    refine aL_nil ?_
    refine awp_cond v_ (fun hc5 => ?_) (fun hc5 => ?_)
    · replace hc5 := nm_ hc5
      have hcov : (own (L.take (i + 1)) s).map sDeed = (own (L.take i) s).map sDeed ++ [sDeed x] := by rw [take_snoc hx, own, List.filter_append, List.map_append]; simp [own, hc5]
      have R := hx
      refine awp_region (by kernel_rfl) ?_
      iterate 5 (refine aL_S rfl rfl v_ ?_)
      refine aL_buildSlice rfl rfl rfl g_ g_ rfl rfl h_ c2_ (by decide) ?_
      refine aL_append rfl rfl rfl g_ g_ v_ h_ v_ c_ (by simp; omega) fun k26 hk26 => ?_
      (refine aL_S rfl rfl v_ ?_)
      refine aL_nil ?_
      refine awp_region (by kernel_rfl) ?_
      iterate 3 (refine aL_S rfl rfl v_ ?_)
      refine aL_nil ?_
      refine aNext (ι := Nat × Nat) (i := ⟨k, i⟩) (k26, i + 1) ?_ ?_ ?_ ?_
      · show L.length - (i + 1) < L.length - i; omega
      · exact ⟨by show i + 1 ≤ L.length; omega, (newTok_none hk26).2⟩
      · have R := hcov; exact cv_
      · exact sub_
    · replace hc5 := nm_ hc5
      have hcov : (own (L.take (i + 1)) s).map sDeed = (own (L.take i) s).map sDeed := by rw [take_snoc hx, own, List.filter_append, List.map_append]; simp [own, hc5]
      refine awp_skip ?_
      refine awp_region (by kernel_rfl) ?_
      iterate 3 (refine aL_S rfl rfl v_ ?_)
      refine aL_nil ?_
      refine aNext (ι := Nat × Nat) (i := ⟨k, i⟩) (k, i + 1) ?_ ?_ ?_ ?_
      · show L.length - (i + 1) < L.length - i; omega
      · exact ⟨by show i + 1 ≤ L.length; omega, hk⟩
      · have R := hcov; exact cv_
      · exact sub_
  · replace hc3 := nm_ hc3
    refine awp_exit ?_
    refine aThen_exit ?_
    refine aThen_exit ?_
    refine aBlock_hit ?_
    refine awp_seq ?_
    obtain rfl : i = L.length := by omega
    rw [List.take_length]
    refine awp_region (by kernel_rfl) ?_
    iterate 2 (refine aL_S rfl rfl v_ ?_)
    refine aL_nil ?_
    refine awp_ret ?_
    exact aEnd_retW (v := .sl 20 ((own L s).map sDeed) false) (v' := .own k 20 ((own L s).map sDeed)) va_ (.own1 _ _ _) sub_ ⟨rfl, rfl⟩
theorem rAt_c {l : List Int} {h : Int} {t : Bool} {σ : Store} (hl : l.length ≤ 1000000) : ACalls Tryz.prog 17 [.sl 1 (l.map vInt) t, vInt h] σ fun v σ' => v = vInt (atS l h) ∧ σ = σ' := by
  refine ACalls_of Tryz.func17 rfl Tryz.ntmps17 (congrArg Array.toList Tryz.results17) (by simp only [List.length_cons, List.length_nil]; decide) ?_; simp only [envOf_cons, envOf_nil, Nat.reduceAdd]
  refine awp_seq ?_
  refine awp_region (by kernel_rfl) ?_
  (refine aL_S rfl rfl v_ ?_)
  refine aL_nil ?_
  refine awp_seq ?_
  refine awp_seq ?_
  refine awp_region (by kernel_rfl) ?_
  iterate 3 (refine aL_S rfl rfl v_ ?_)
  refine aL_nil ?_
  refine awp_cond v_ (fun hc1 => ?_) (fun hc1 => ?_)
  · replace hc1 := nm_ hc1
    refine awp_seq ?_
    refine awp_region (by kernel_rfl) ?_
    (refine aL_S rfl rfl v_ ?_)
    refine aL_nil ?_
    refine awp_ret ?_
    refine aEnd_ret (σ' := σ) v_ sub_ ?_
    refine ⟨?_, rfl⟩
    have : l = [] := List.eq_nil_of_length_eq_zero (by omega)
    subst this; rfl
  · replace hc1 := nm_ hc1
    refine awp_skip ?_
    refine awp_seq ?_
    have h0 : l ≠ [] := fun hh => hc1 (by rw [hh]; rfl)
    have hn := at_n (h := h) h0 hl
    have hg := at_get (h := h) h0
    have R := And.intro hn hg
    refine awp_region (by kernel_rfl) ?_
    iterate 12 (refine aL_S rfl rfl v_ ?_)
    refine aL_nil ?_
    refine awp_ret ?_
    refine aEnd_ret (σ' := σ) v_ sub_ ?_
    exact ⟨rfl, rfl⟩
theorem rOf_c {L : List Deed} {s : ByteArray} {t : Bool} {σ : Store} (hd : ∀ d ∈ L, DeedI d) (hl : L.length ≤ 1000000) : ACalls Tryz.prog 9 [.sl 20 (L.map sDeed) t, vStr s] σ fun v σ' => v = sSm (ofS L s) ∧ σ = σ' := by
  have hdo := own_mem (s := s) hd
  have hlo := own_len L s
  have hto : (tookI (own L s)).length ≤ L.length := by
    rw [tookI_len]
    exact Nat.le_trans (List.length_filter_le ..) hlo
  refine ACalls_of Tryz.func9 rfl Tryz.ntmps9 (congrArg Array.toList Tryz.results9) (by simp only [List.length_cons, List.length_nil]; decide) ?_; simp only [envOf_cons, envOf_nil, Nat.reduceAdd]
  refine awp_seq ?_
  refine awp_region (by kernel_rfl) ?_
  refine aL_alloc rfl rfl rfl g_ gl_ fun o4 ho4 => ?_
  repeat (rw [none_set_iff] at ho4; obtain ⟨_, ho4⟩ := ho4)
  refine aL_nil ?_
  refine awp_seq ?_
  refine awp_region (by kernel_rfl) ?_
  iterate 2 (refine aL_S rfl rfl v_ ?_)
  refine aL_X rfl rfl (AOp_use rfl rfl (.inr ⟨rfl, rfl, rfl⟩) g_ va_ (rof_c hl) ?_); rintro _ _ ⟨rfl, rfl⟩
  (refine aL_S rfl rfl v_ ?_)
  refine aL_nil ?_
  refine awp_seq ?_
  refine awp_region (by kernel_rfl) ?_
  (refine aL_S rfl rfl v_ ?_)
  refine aL_X rfl rfl (AOp_use rfl rfl (.inr ⟨rfl, rfl, rfl⟩) g_ va_ (rTook_c hdo (by omega)) ?_); rintro _ _ ⟨rfl, rfl⟩
  (refine aL_S rfl rfl v_ ?_)
  refine aL_nil ?_
  refine awp_seq ?_
  refine awp_region (by kernel_rfl) ?_
  iterate 5 (refine aL_S rfl rfl v_ ?_)
  refine aL_X rfl rfl (AOp_use rfl rfl (.inr ⟨rfl, rfl, rfl⟩) g_ va_ (rCounts_c (by omega)) ?_); rintro _ _ ⟨rfl, rfl⟩
  (refine aL_S rfl rfl v_ ?_)
  refine aL_X rfl rfl (AOp_use rfl rfl (.inr ⟨rfl, rfl, rfl⟩) g_ va_ (rAt_c (by omega)) ?_); rintro _ _ ⟨rfl, rfl⟩
  (refine aL_S rfl rfl v_ ?_)
  refine aL_X rfl rfl (AOp_use rfl rfl (.inr ⟨rfl, rfl, rfl⟩) g_ va_ (rAt_c (by omega)) ?_); rintro _ _ ⟨rfl, rfl⟩
  (refine aL_S rfl rfl v_ ?_)
  refine aL_store rfl rfl rfl v_ v_ h_ g_ rfl g_ c_ (by rfl) le_ v_ ?_
  refine aL_nil ?_
  refine awp_ret ?_
  refine aEnd_ret (σ' := σ) v_ sub_ ?_
  exact ⟨rfl, rfl⟩
end Go.Proofs.YtbjloippgpilcaaGreatDoor
end

section
set_option linter.all false
set_option maxRecDepth 100000
namespace Go.Proofs.YtbjloippgpilcaaGreatDoor
open Go.Ab
def sg (n : Int) (m : Nat) : Int := if n < 0 then -(m : Int) else m
theorem sg_mod (n : Int) (m : Nat) : (sg n m).tmod 10 = sg n (m % 10) := by
  unfold sg
  split
  · rw [Int.neg_tmod, Int.tmod_eq_emod_of_nonneg (by omega)]; omega
  · rw [Int.tmod_eq_emod_of_nonneg (by omega)]; omega
theorem sg_div (n : Int) (m : Nat) : (sg n m).tdiv 10 = sg n (m / 10) := by
  unfold sg
  split
  · rw [Int.neg_tdiv, Int.tdiv_eq_ediv_of_nonneg (by omega)]; omega
  · rw [Int.tdiv_eq_ediv_of_nonneg (by omega)]; omega
theorem sg_abs (n : Int) : sg n n.natAbs = n := by unfold sg; split <;> omega
theorem dec_one {m : Nat} (h : m < 10) : Lib.decDigits m = [UInt8.ofNat (48 + m)] := by rw [Lib.decDigits, dif_pos h]
theorem dec_more {m : Nat} (h : ¬ m < 10) : Lib.decDigits m = Lib.decDigits (m / 10) ++ [UInt8.ofNat (48 + m % 10)] := by conv => lhs; rw [Lib.decDigits, dif_neg h]
theorem dig_cut {d : Nat} (h : d < 10) : ByteArray.extract ⟨#[48, 49, 50, 51, 52, 53, 54, 55, 56, 57]⟩ d (d + 1) = B [UInt8.ofNat (48 + d)] := by
  match d, h with
  | 0, _ => rfl
  | 1, _ => rfl
  | 2, _ => rfl
  | 3, _ => rfl
  | 4, _ => rfl
  | 5, _ => rfl
  | 6, _ => rfl
  | 7, _ => rfl
  | 8, _ => rfl
  | 9, _ => rfl
theorem addB {a b : List UInt8} (h : a.length + b.length ≤ 1000000000) : astr .add (B a) (B b) = some (.string (B (a ++ b))) := by
  rw [astr_add' _ _ (by rw [B_size, B_size]; exact h), B_append]
theorem rDec_c {n : Int} {σ : Store} (h0 : -9223372036854775808 ≤ n) (h1 : n ≤ 9223372036854775807) : ACalls Tryz.prog 39 [vInt n] σ fun v σ' => v = vStr (B (Lib.itoa n)) ∧ σ = σ' := by
  have hL := Lib.itoa_length_le n h0 h1
  have hD : (Lib.decDigits n.natAbs).length ≤ 21 := by
    unfold Lib.itoa at hL
    split at hL
    · simp at hL; omega
    · rw [show n.toNat = n.natAbs by omega] at hL; exact hL
  refine ACalls_of Tryz.func39 rfl Tryz.ntmps39 (congrArg Array.toList Tryz.results39) (by simp only [List.length_cons, List.length_nil]; decide) ?_; simp only [envOf_cons, envOf_nil, Nat.reduceAdd]
  refine awp_seq ?_
  refine awp_region (by kernel_rfl) ?_
  (refine aL_S rfl rfl v_ ?_)
  refine aL_nil ?_
  refine awp_seq ?_
  refine awp_seq ?_
  refine awp_region (by kernel_rfl) ?_
  iterate 2 (refine aL_S rfl rfl v_ ?_)
  refine aL_nil ?_
  refine awp_cond v_ (fun hc1 => ?_) (fun hc1 => ?_)
  · replace hc1 := nm_ hc1
    refine awp_seq ?_
    refine awp_region (by kernel_rfl) ?_
    (refine aL_S rfl rfl v_ ?_)
    refine aL_nil ?_
    refine awp_ret ?_
    refine aEnd_ret (σ' := σ) v_ sub_ ?_
    refine ⟨?_, rfl⟩
    rw [hc1, show Lib.itoa 0 = [48] from digit (u := 0) (by decide)]
    rfl
  · replace hc1 := nm_ hc1
    refine awp_skip ?_
    refine awp_seq ?_
    refine awp_region (by kernel_rfl) ?_
    (refine aL_S rfl rfl v_ ?_)
    refine aL_nil ?_
    refine awp_seq ?_
    refine awp_seq ?_
    have habs := sg_abs n
    refine awp_region (by kernel_rfl) ?_
    iterate 2 (refine aL_S rfl rfl v_ ?_)
    refine aL_nil ?_
    refine awp_block ?_
    refine awp_loop_env (ι := Nat × List UInt8) (fun ⟨m, s⟩ => m) (fun ⟨m, s⟩ => m ≤ n.natAbs ∧ ((m = 0 ∧ Lib.decDigits n.natAbs = s) ∨ (0 < m ∧ Lib.decDigits n.natAbs = Lib.decDigits m ++ s))) (fun ⟨m, s⟩ => [(0, vInt n), (3, vStr (B s)), (4, vInt (sg n m))]) (fun ⟨m, s⟩ => σ) (n.natAbs, []) ?_ ?_ ?_ ?_
    · exact ⟨Nat.le_refl _, .inr ⟨by omega, by simp⟩⟩
    · have R := habs; exact cv_
    · exact sub_
    rintro ⟨m, s⟩ ⟨hm, hs⟩
    simp only [envL_cons, envL_nil]
    refine awp_seq ?_
    refine awp_seq ?_
    refine awp_region (by kernel_rfl) ?_
    iterate 2 (refine aL_S rfl rfl v_ ?_)
    refine aL_nil ?_
    refine awp_cond v_ (fun hc5 => ?_) (fun hc5 => ?_)
    · replace hc5 := nm_ hc5
      refine awp_skip ?_
      refine awp_seq ?_
      refine awp_block ?_
      refine awp_seq ?_
      have hm0 : 0 < m := by
        rcases Nat.eq_zero_or_pos m with h | h
        · subst h; exact absurd (by unfold sg; split <;> rfl) hc5
        · exact h
      have hstep : m / 10 ≤ n.natAbs ∧ ((m / 10 = 0 ∧ Lib.decDigits n.natAbs = UInt8.ofNat (48 + m % 10) :: s) ∨ (0 < m / 10 ∧ Lib.decDigits n.natAbs = Lib.decDigits (m / 10) ++ UInt8.ofNat (48 + m % 10) :: s)) := by
        refine ⟨by omega, ?_⟩
        rcases hs with ⟨h, _⟩ | ⟨_, h⟩
        · omega
        · by_cases hlt : m < 10
          · left
            refine ⟨by omega, ?_⟩
            rw [h, dec_one hlt, Nat.mod_eq_of_lt hlt]; rfl
          · right
            refine ⟨by omega, ?_⟩
            rw [h, dec_more hlt]; simp
      have hmod := sg_mod n m
      have hdiv := sg_div n m
      have hsl : s.length ≤ 21 := by
        rcases hs with ⟨h, _⟩ | ⟨_, h⟩
        · omega
        · rw [h, List.length_append] at hD; omega
      have hdl : m % 10 < 10 := Nat.mod_lt _ (by decide)
      have hcut := dig_cut hdl
      have hadd := addB (a := [UInt8.ofNat (48 + m % 10)]) (b := s) (by simp; omega)
      have hk1 : (((m % 10 : Nat) : Int) + 1).toNat = m % 10 + 1 := by omega
      have hb1 : -9223372036854775808 ≤ sg n (m / 10) ∧ sg n (m / 10) ≤ 9223372036854775807 := by unfold sg; split <;> omega
      have hb2 : -10 < sg n (m % 10) ∧ sg n (m % 10) < 10 := by unfold sg; split <;> omega
      simp only [List.cons_append, List.nil_append] at hadd
      have hd1 : m % 10 ≤ m % 10 + 1 := by omega
      have hd2 : m % 10 + 1 ≤ 10 := by omega
      have R := hmod
      refine awp_region (by kernel_rfl) ?_
      iterate 3 (refine aL_S rfl rfl v_ ?_)
      refine aL_nil ?_
      refine awp_seq ?_
      refine awp_seq ?_
      refine awp_region (by kernel_rfl) ?_
      iterate 2 (refine aL_S rfl rfl v_ ?_)
      refine aL_nil ?_
      refine awp_cond v_ (fun hc8 => ?_) (fun hc8 => ?_)
      · replace hc8 := nm_ hc8
        have hneg : 0 - sg n (m % 10) = ((m % 10 : Nat) : Int) := by unfold sg at *; split <;> omega
        have R := hneg
        refine awp_region (by kernel_rfl) ?_
        iterate 3 (refine aL_S rfl rfl v_ ?_)
        refine aL_nil ?_
        have R := And.intro hk1 (And.intro hd1 (And.intro hd2 (And.intro hcut hadd)))
        refine awp_region (by kernel_rfl) ?_
        iterate 7 (refine aL_S rfl rfl v_ ?_)
        refine aL_nil ?_
        have R := hdiv
        refine awp_region (by kernel_rfl) ?_
        iterate 3 (refine aL_S rfl rfl v_ ?_)
        refine aL_nil ?_
        refine aNext (ι := Nat × List UInt8) (i := ⟨m, s⟩) (m / 10, UInt8.ofNat (48 + m % 10) :: s) ?_ ?_ ?_ ?_
        · show m / 10 < m; omega
        · exact hstep
        · exact cv_
        · exact sub_
      · replace hc8 := nm_ hc8
        have hpos : sg n (m % 10) = ((m % 10 : Nat) : Int) := by unfold sg at *; split <;> omega
        rw [hpos]
        refine awp_skip ?_
        have R := And.intro hk1 (And.intro hd1 (And.intro hd2 (And.intro hcut hadd)))
        refine awp_region (by kernel_rfl) ?_
        iterate 7 (refine aL_S rfl rfl v_ ?_)
        refine aL_nil ?_
        have R := hdiv
        refine awp_region (by kernel_rfl) ?_
        iterate 3 (refine aL_S rfl rfl v_ ?_)
        refine aL_nil ?_
        refine aNext (ι := Nat × List UInt8) (i := ⟨m, s⟩) (m / 10, UInt8.ofNat (48 + m % 10) :: s) ?_ ?_ ?_ ?_
        · show m / 10 < m; omega
        · exact hstep
        · exact cv_
        · exact sub_
    · replace hc5 := nm_ hc5
      have hm0 : m = 0 := by unfold sg at hc5; split at hc5 <;> omega
      obtain ⟨_, hs1⟩ : m = 0 ∧ Lib.decDigits n.natAbs = s := by
        rcases hs with h | h
        · exact h
        · omega
      have hadd := addB (a := [45]) (b := s) (by rw [← hs1]; simp; omega)
      have hadd' : astr .add ⟨#[45]⟩ (B s) = some (.string (B (45 :: s))) := hadd
      refine awp_exit ?_
      refine aThen_exit ?_
      refine aThen_exit ?_
      refine aBlock_hit ?_
      refine awp_seq ?_
      refine awp_seq ?_
      refine awp_region (by kernel_rfl) ?_
      iterate 2 (refine aL_S rfl rfl v_ ?_)
      refine aL_nil ?_
      refine awp_cond v_ (fun hc11 => ?_) (fun hc11 => ?_)
      · replace hc11 := nm_ hc11
        have R := hadd'
        refine awp_region (by kernel_rfl) ?_
        iterate 3 (refine aL_S rfl rfl v_ ?_)
        refine aL_nil ?_
        refine awp_seq ?_
        refine awp_region (by kernel_rfl) ?_
        iterate 2 (refine aL_S rfl rfl v_ ?_)
        refine aL_nil ?_
        refine awp_ret ?_
        refine aEnd_ret (σ' := σ) v_ sub_ ?_
        exact ⟨by rw [Lib.itoa, if_pos hc11, hs1], rfl⟩
      · replace hc11 := nm_ hc11
        refine awp_skip ?_
        refine awp_seq ?_
        refine awp_region (by kernel_rfl) ?_
        iterate 2 (refine aL_S rfl rfl v_ ?_)
        refine aL_nil ?_
        refine awp_ret ?_
        refine aEnd_ret (σ' := σ) v_ sub_ ?_
        exact ⟨by rw [Lib.itoa, if_neg (by omega), show n.toNat = n.natAbs by omega, hs1], rfl⟩
end Go.Proofs.YtbjloippgpilcaaGreatDoor
end

section
set_option linter.all false
set_option maxRecDepth 100000
namespace Go.Proofs.YtbjloippgpilcaaGreatDoor
open Go.Ab
theorem rLines_c {L : List Deed} {t : Bool} {σ : Store} (hd : ∀ d ∈ L, DeedI d) (hl : L.length ≤ 1000) (hs : ∀ d ∈ L, d.lane.size ≤ 1000) : ACalls Tryz.prog 21 [.sl 20 (L.map sDeed) t] σ fun v σ' => v = vStr (B (linesS L)) ∧ σ = σ' := by
  have hll := lanesS_len L
  have hsl : ∀ s ∈ lanesS L, s.size ≤ 1000 := fun s h => by
    obtain ⟨d, hd', rfl⟩ := List.mem_map.1 (lanesS_mem.1 h)
    exact hs d hd'
  have hlB : ∀ s ∈ lanesS L, (laneB L s).length ≤ 80000 := fun s h => laneB_le hd hl (hsl s h)
  have hlB2 : ∀ k, (((lanesS L).take k).flatMap (laneB L)).length ≤ 80000000 := fun k => by
    have h1 := fm_le (f := laneB L) (l := (lanesS L).take k) fun s h => hlB s (List.mem_of_mem_take h)
    have h2 : ((lanesS L).take k).length ≤ 1000 := by rw [List.length_take]; omega
    have h3 := Nat.mul_le_mul_left 80000 h2
    omega
  refine ACalls_of Tryz.func21 rfl Tryz.ntmps21 (congrArg Array.toList Tryz.results21) (by simp only [List.length_cons, List.length_nil]; decide) ?_; simp only [envOf_cons, envOf_nil, Nat.reduceAdd]
  refine awp_seq ?_
  refine awp_region (by kernel_rfl) ?_
  (refine aL_S rfl rfl v_ ?_)
  refine aL_nil ?_
  refine awp_seq ?_
  refine awp_region (by kernel_rfl) ?_
  (refine aL_S rfl rfl v_ ?_)
  refine aL_nil ?_
  refine awp_seq ?_
  refine awp_region (by kernel_rfl) ?_
  (refine aL_S rfl rfl v_ ?_)
  refine aL_X rfl rfl (AOp_use rfl rfl (.inr ⟨rfl, rfl, rfl⟩) g_ va_ (rLanes_c (by omega)) ?_); rintro _ _ ⟨rfl, rfl⟩
  (refine aL_S rfl rfl v_ ?_)
  refine aL_nil ?_
  refine awp_seq ?_
  refine awp_seq ?_
  refine awp_region (by kernel_rfl) ?_
  (refine aL_S rfl rfl v_ ?_)
  refine aL_nil ?_
  refine awp_block ?_
  refine awp_loop_env (ι := Nat) (fun i => (lanesS L).length - i) (fun i => i ≤ (lanesS L).length) (fun i => [(0, .sl 20 (L.map sDeed) t), (3, vStr (B (((lanesS L).take i).flatMap (laneB L)))), (4, .sl 1 ((lanesS L).map vStr) false), (5, vInt i)]) (fun i => σ) 0 ?_ ?_ ?_ ?_
  · exact Nat.zero_le _
  · exact cv_
  · exact sub_
  rintro i hi
  simp only [envL_cons, envL_nil]
  refine awp_seq ?_
  refine awp_seq ?_
  refine awp_region (by kernel_rfl) ?_
  iterate 4 (refine aL_S rfl rfl v_ ?_)
  refine aL_nil ?_
  refine awp_cond v_ (fun hc4 => ?_) (fun hc4 => ?_)
  · replace hc4 := nm_ hc4
    refine awp_skip ?_
    refine awp_seq ?_
    refine awp_block ?_
    refine awp_seq ?_
    obtain ⟨x, hx⟩ := get_some (l := lanesS L) (k := i) (by omega)
    have hxs := hsl x (List.mem_of_getElem? hx)
    have hlen := hlB2 i
    have hri := of_i (l := L) (s := x) (by omega)
    have hci : ∀ c ∈ (ofS L x).counts, ∀ n ∈ [c.kind, c.err, c.n], I64 n := fun c hc => cnt_i (own_mem hd) (by have := own_len L x; omega) hc
    have hcl : (ofS L x).counts.length ≤ 1000 := by have := countsS_len (own L x); have := own_len L x; show (countsS (own L x)).length ≤ 1000; omega
    have hcb : ∀ j, (((ofS L x).counts.take j).flatMap cntB).length ≤ 72000 := fun j => by
      have h1 := fm_le (f := cntB) (l := (ofS L x).counts.take j) fun c hc => cntB_le (own_mem hd) (by have := own_len L x; omega) (List.mem_of_mem_take hc)
      have h2 : ((ofS L x).counts.take j).length ≤ 1000 := by rw [List.length_take]; omega
      have h3 := Nat.mul_le_mul_left 72 h2
      omega
    have hlane : laneB L x = lineB ([108, 97, 110, 101, 32] ++ Lb x) [(ofS L x).calls, (ofS L x).done, (ofS L x).middle, (ofS L x).longest] ++ (ofS L x).counts.flatMap cntB := rfl
    have hcov0 : ((lanesS L).take (i + 1)).flatMap (laneB L) = ((lanesS L).take i).flatMap (laneB L) ++ laneB L x := by rw [take_snoc hx, List.flatMap_append]; simp
    rw [hlane] at hcov0
    generalize hS : ofS L x = S at *
    obtain ⟨ca, dq, C, md, lg⟩ := S
    simp only at hri hci hcl hcb hcov0
    generalize hp0 : ((lanesS L).take i).flatMap (laneB L) = p0 at *
    have i1 := hri ca (by simp); have i2 := hri dq (by simp); have i3 := hri md (by simp); have i4 := hri lg (by simp)
    have z1 := Lib.itoa_length_le ca i1.1 i1.2; have z2 := Lib.itoa_length_le dq i2.1 i2.2; have z3 := Lib.itoa_length_le md i3.1 i3.2; have z4 := Lib.itoa_length_le lg i4.1 i4.2
    obtain ⟨p1, ep1⟩ : ∃ p : List UInt8, p = p0 ++ [108, 97, 110, 101, 32] := ⟨_, rfl⟩
    have lp1 : p1.length = p0.length + 5 := by rw [ep1, List.length_append]; rfl
    have fp1 : astr .add (B p0) ⟨#[108, 97, 110, 101, 32]⟩ = some (.string (B p1)) := by rw [ep1]; exact addB (by simp only [List.length_cons, List.length_nil]; omega)
    obtain ⟨p2, ep2⟩ : ∃ p : List UInt8, p = p1 ++ Lb x := ⟨_, rfl⟩
    have lp2 : p2.length = p1.length + x.size := by rw [ep2, List.length_append]; rw [Lb_length]
    have fp2 : astr .add (B p1) x = some (.string (B p2)) := by rw [ep2]; have := addB (a := p1) (b := Lb x) (by rw [Lb_length]; omega); rwa [B_Lb] at this
    obtain ⟨p3, ep3⟩ : ∃ p : List UInt8, p = p2 ++ [32] := ⟨_, rfl⟩
    have lp3 : p3.length = p2.length + 1 := by rw [ep3, List.length_append]; rfl
    have fp3 : astr .add (B p2) ⟨#[32]⟩ = some (.string (B p3)) := by rw [ep3]; exact addB (by simp only [List.length_cons, List.length_nil]; omega)
    obtain ⟨p4, ep4⟩ : ∃ p : List UInt8, p = p3 ++ Lib.itoa ca := ⟨_, rfl⟩
    have lp4 : p4.length = p3.length + (Lib.itoa ca).length := by rw [ep4, List.length_append]
    have fp4 : astr .add (B p3) (B (Lib.itoa ca)) = some (.string (B p4)) := by rw [ep4]; exact addB (by omega)
    obtain ⟨p5, ep5⟩ : ∃ p : List UInt8, p = p4 ++ [32] := ⟨_, rfl⟩
    have lp5 : p5.length = p4.length + 1 := by rw [ep5, List.length_append]; rfl
    have fp5 : astr .add (B p4) ⟨#[32]⟩ = some (.string (B p5)) := by rw [ep5]; exact addB (by simp only [List.length_cons, List.length_nil]; omega)
    obtain ⟨p6, ep6⟩ : ∃ p : List UInt8, p = p5 ++ Lib.itoa dq := ⟨_, rfl⟩
    have lp6 : p6.length = p5.length + (Lib.itoa dq).length := by rw [ep6, List.length_append]
    have fp6 : astr .add (B p5) (B (Lib.itoa dq)) = some (.string (B p6)) := by rw [ep6]; exact addB (by omega)
    obtain ⟨p7, ep7⟩ : ∃ p : List UInt8, p = p6 ++ [32] := ⟨_, rfl⟩
    have lp7 : p7.length = p6.length + 1 := by rw [ep7, List.length_append]; rfl
    have fp7 : astr .add (B p6) ⟨#[32]⟩ = some (.string (B p7)) := by rw [ep7]; exact addB (by simp only [List.length_cons, List.length_nil]; omega)
    obtain ⟨p8, ep8⟩ : ∃ p : List UInt8, p = p7 ++ Lib.itoa md := ⟨_, rfl⟩
    have lp8 : p8.length = p7.length + (Lib.itoa md).length := by rw [ep8, List.length_append]
    have fp8 : astr .add (B p7) (B (Lib.itoa md)) = some (.string (B p8)) := by rw [ep8]; exact addB (by omega)
    obtain ⟨p9, ep9⟩ : ∃ p : List UInt8, p = p8 ++ [32] := ⟨_, rfl⟩
    have lp9 : p9.length = p8.length + 1 := by rw [ep9, List.length_append]; rfl
    have fp9 : astr .add (B p8) ⟨#[32]⟩ = some (.string (B p9)) := by rw [ep9]; exact addB (by simp only [List.length_cons, List.length_nil]; omega)
    obtain ⟨p10, ep10⟩ : ∃ p : List UInt8, p = p9 ++ Lib.itoa lg := ⟨_, rfl⟩
    have lp10 : p10.length = p9.length + (Lib.itoa lg).length := by rw [ep10, List.length_append]
    have fp10 : astr .add (B p9) (B (Lib.itoa lg)) = some (.string (B p10)) := by rw [ep10]; exact addB (by omega)
    obtain ⟨p11, ep11⟩ : ∃ p : List UInt8, p = p10 ++ [10] := ⟨_, rfl⟩
    have lp11 : p11.length = p10.length + 1 := by rw [ep11, List.length_append]; rfl
    have fp11 : astr .add (B p10) ⟨#[10]⟩ = some (.string (B p11)) := by rw [ep11]; exact addB (by simp only [List.length_cons, List.length_nil]; omega)
    have hp11 : p11 = p0 ++ lineB ([108, 97, 110, 101, 32] ++ Lb x) [ca, dq, md, lg] := by rw [ep11, ep10, ep9, ep8, ep7, ep6, ep5, ep4, ep3, ep2, ep1]; simp [lineB]
    rw [← List.append_assoc, ← hp11] at hcov0
    have R := hx
    refine awp_region (by kernel_rfl) ?_
    iterate 5 (refine aL_S rfl rfl v_ ?_)
    refine aL_X rfl rfl (AOp_use rfl rfl (.inr ⟨rfl, rfl, rfl⟩) g_ va_ (rOf_c hd (by omega)) ?_); rintro _ _ ⟨rfl, rfl⟩
    rw [hS]
    refine aL_alloc rfl rfl rfl g_ gl_ fun o6 ho6 => ?_
    repeat (rw [none_set_iff] at ho6; obtain ⟨_, ho6⟩ := ho6)
    refine aL_store rfl rfl rfl v_ v_ h_ g_ rfl g_ c_ (by rfl) le_ v_ ?_
    refine aL_nil ?_
    refine awp_seq ?_
    have R := And.intro hx (And.intro fp1 (And.intro fp2 (And.intro fp3 (And.intro fp4 (And.intro fp5 (And.intro fp6 (And.intro fp7 (And.intro fp8 (And.intro fp9 (And.intro fp10 fp11))))))))))
    refine awp_draw (.op 0 0 (.op 1 0 (.op 2 0 (.op 3 0 (.op 4 0 (.op 5 0 (.op 6 0 (.op 7 0 (.op 8 0 (.op 9 0 (.op 13 0 (.op 14 0 (.op 18 0 (.op 19 0 (.op 23 0 (.op 24 0 (.op 10 1 (.op 11 0 (.op 12 0 (.op 15 1 (.op 16 0 (.op 17 0 (.op 20 1 (.op 21 0 (.op 22 0 (.op 25 1 (.op 26 0 (.op 27 0 (.op 28 0 .nil))))))))))))))))))))))))))))) Tryz.mixed (by kernel_rfl) ?_
    iterate 16 (refine dR_S o_ (by rfl) (by rfl) v_ ?_)
    refine dR_X o_ (by rfl) (by rfl) (AOp_use (by rfl) (by rfl) (.inr ⟨by rfl, by rfl, by rfl⟩) g_ va_ (rDec_c i1.1 i1.2) ?_); rintro _ _ ⟨rfl, rfl⟩; refine ⟨sub_, ?_⟩
    iterate 2 (refine dR_S o_ (by rfl) (by rfl) v_ ?_)
    refine dR_X o_ (by rfl) (by rfl) (AOp_use (by rfl) (by rfl) (.inr ⟨by rfl, by rfl, by rfl⟩) g_ va_ (rDec_c i2.1 i2.2) ?_); rintro _ _ ⟨rfl, rfl⟩; refine ⟨sub_, ?_⟩
    iterate 2 (refine dR_S o_ (by rfl) (by rfl) v_ ?_)
    refine dR_X o_ (by rfl) (by rfl) (AOp_use (by rfl) (by rfl) (.inr ⟨by rfl, by rfl, by rfl⟩) g_ va_ (rDec_c i3.1 i3.2) ?_); rintro _ _ ⟨rfl, rfl⟩; refine ⟨sub_, ?_⟩
    iterate 2 (refine dR_S o_ (by rfl) (by rfl) v_ ?_)
    refine dR_X o_ (by rfl) (by rfl) (AOp_use (by rfl) (by rfl) (.inr ⟨by rfl, by rfl, by rfl⟩) g_ va_ (rDec_c i4.1 i4.2) ?_); rintro _ _ ⟨rfl, rfl⟩; refine ⟨sub_, ?_⟩
    iterate 3 (refine dR_S o_ (by rfl) (by rfl) v_ ?_)
    refine dR_nil ?_
    refine awp_seq ?_
    have hz0 : p11 ++ ([] : List Cnt).flatMap cntB = p11 := by simp
    refine awp_region (by kernel_rfl) ?_
    (refine aL_S rfl rfl v_ ?_)
    refine aL_nil ?_
    refine awp_block ?_
    refine awp_loop_env (ι := Nat) (fun j => C.length - j) (fun j => j ≤ C.length) (fun j => [(0, .sl 20 (L.map sDeed) t), (3, vStr (B (p11 ++ (C.take j).flatMap cntB))), (4, .sl 1 ((lanesS L).map vStr) false), (5, vInt i), (6, .ref o6 0), (7, vInt j)]) (fun j => (σ.set o6 (.cells [vInt ca, vInt dq, .sl 3 (C.map sCnt) false, vInt md, vInt lg]))) 0 ?_ ?_ ?_ ?_
    · exact Nat.zero_le _
    · have R := hz0; exact cv_
    · rw [Store.set_set]; exact Store.Wk.refl _
    rintro j hj
    simp only [envL_cons, envL_nil]
    refine awp_seq ?_
    refine awp_seq ?_
    refine awp_region (by kernel_rfl) ?_
    iterate 5 (refine aL_S rfl rfl v_ ?_)
    refine aL_nil ?_
    refine awp_cond v_ (fun hc9 => ?_) (fun hc9 => ?_)
    · replace hc9 := nm_ hc9
      refine awp_skip ?_
      refine awp_seq ?_
      refine awp_block ?_
      refine awp_seq ?_
      obtain ⟨y, hy⟩ := get_some (l := C) (k := j) (by omega)
      have hyi := hci y (List.mem_of_getElem? hy)
      have j1 := hyi y.kind (by simp); have j2 := hyi y.err (by simp); have j3 := hyi y.n (by simp)
      have y1 := Lib.itoa_length_le y.kind j1.1 j1.2; have y2 := Lib.itoa_length_le y.err j2.1 j2.2; have y3 := Lib.itoa_length_le y.n j3.1 j3.2
      have hcj := hcb j
      have hcov0' : p11 ++ (C.take (j + 1)).flatMap cntB = p11 ++ (C.take j).flatMap cntB ++ cntB y := by rw [take_snoc hy, List.flatMap_append]; simp
      have hq0l : (p11 ++ (C.take j).flatMap cntB).length = p11.length + ((C.take j).flatMap cntB).length := List.length_append
      generalize hq0 : p11 ++ (C.take j).flatMap cntB = q0 at *
      obtain ⟨q1, eq1⟩ : ∃ p : List UInt8, p = q0 ++ [99, 111, 117, 110, 116, 32] := ⟨_, rfl⟩
      have lq1 : q1.length = q0.length + 6 := by rw [eq1, List.length_append]; rfl
      have fq1 : astr .add (B q0) ⟨#[99, 111, 117, 110, 116, 32]⟩ = some (.string (B q1)) := by rw [eq1]; exact addB (by simp only [List.length_cons, List.length_nil]; omega)
      obtain ⟨q2, eq2⟩ : ∃ p : List UInt8, p = q1 ++ Lib.itoa y.kind := ⟨_, rfl⟩
      have lq2 : q2.length = q1.length + (Lib.itoa y.kind).length := by rw [eq2, List.length_append]
      have fq2 : astr .add (B q1) (B (Lib.itoa y.kind)) = some (.string (B q2)) := by rw [eq2]; exact addB (by omega)
      obtain ⟨q3, eq3⟩ : ∃ p : List UInt8, p = q2 ++ [32] := ⟨_, rfl⟩
      have lq3 : q3.length = q2.length + 1 := by rw [eq3, List.length_append]; rfl
      have fq3 : astr .add (B q2) ⟨#[32]⟩ = some (.string (B q3)) := by rw [eq3]; exact addB (by simp only [List.length_cons, List.length_nil]; omega)
      obtain ⟨q4, eq4⟩ : ∃ p : List UInt8, p = q3 ++ Lib.itoa y.err := ⟨_, rfl⟩
      have lq4 : q4.length = q3.length + (Lib.itoa y.err).length := by rw [eq4, List.length_append]
      have fq4 : astr .add (B q3) (B (Lib.itoa y.err)) = some (.string (B q4)) := by rw [eq4]; exact addB (by omega)
      obtain ⟨q5, eq5⟩ : ∃ p : List UInt8, p = q4 ++ [32] := ⟨_, rfl⟩
      have lq5 : q5.length = q4.length + 1 := by rw [eq5, List.length_append]; rfl
      have fq5 : astr .add (B q4) ⟨#[32]⟩ = some (.string (B q5)) := by rw [eq5]; exact addB (by simp only [List.length_cons, List.length_nil]; omega)
      obtain ⟨q6, eq6⟩ : ∃ p : List UInt8, p = q5 ++ Lib.itoa y.n := ⟨_, rfl⟩
      have lq6 : q6.length = q5.length + (Lib.itoa y.n).length := by rw [eq6, List.length_append]
      have fq6 : astr .add (B q5) (B (Lib.itoa y.n)) = some (.string (B q6)) := by rw [eq6]; exact addB (by omega)
      obtain ⟨q7, eq7⟩ : ∃ p : List UInt8, p = q6 ++ [10] := ⟨_, rfl⟩
      have lq7 : q7.length = q6.length + 1 := by rw [eq7, List.length_append]; rfl
      have fq7 : astr .add (B q6) ⟨#[10]⟩ = some (.string (B q7)) := by rw [eq7]; exact addB (by simp only [List.length_cons, List.length_nil]; omega)
      have hcov : p11 ++ (C.take (j + 1)).flatMap cntB = q7 := by rw [hcov0', eq7, eq6, eq5, eq4, eq3, eq2, eq1]; simp [cntB, lineB]
      have R := hy
      refine awp_region (by kernel_rfl) ?_
      iterate 5 (refine aL_S rfl rfl v_ ?_)
      refine aL_alloc rfl rfl rfl g_ gl_ fun o8 ho8 => ?_
      repeat (rw [none_set_iff] at ho8; obtain ⟨_, ho8⟩ := ho8)
      refine aL_store rfl rfl rfl v_ v_ h_ g_ rfl g_ c_ (by rfl) le_ v_ ?_
      refine aL_nil ?_
      have R := And.intro fq1 (And.intro fq2 (And.intro fq3 (And.intro fq4 (And.intro fq5 (And.intro fq6 fq7)))))
      refine awp_draw (.op 0 0 (.op 1 0 (.op 2 0 (.op 3 0 (.op 7 0 (.op 8 0 (.op 12 0 (.op 13 0 (.op 4 1 (.op 5 0 (.op 6 0 (.op 9 1 (.op 10 0 (.op 11 0 (.op 14 1 (.op 15 0 (.op 16 0 (.op 17 0 .nil)))))))))))))))))) Tryz.mixed (by kernel_rfl) ?_
      iterate 8 (refine dR_S o_ (by rfl) (by rfl) v_ ?_)
      refine dR_X o_ (by rfl) (by rfl) (AOp_use (by rfl) (by rfl) (.inr ⟨by rfl, by rfl, by rfl⟩) g_ va_ (rDec_c j1.1 j1.2) ?_); rintro _ _ ⟨rfl, rfl⟩; refine ⟨sub_, ?_⟩
      iterate 2 (refine dR_S o_ (by rfl) (by rfl) v_ ?_)
      refine dR_X o_ (by rfl) (by rfl) (AOp_use (by rfl) (by rfl) (.inr ⟨by rfl, by rfl, by rfl⟩) g_ va_ (rDec_c j2.1 j2.2) ?_); rintro _ _ ⟨rfl, rfl⟩; refine ⟨sub_, ?_⟩
      iterate 2 (refine dR_S o_ (by rfl) (by rfl) v_ ?_)
      refine dR_X o_ (by rfl) (by rfl) (AOp_use (by rfl) (by rfl) (.inr ⟨by rfl, by rfl, by rfl⟩) g_ va_ (rDec_c j3.1 j3.2) ?_); rintro _ _ ⟨rfl, rfl⟩; refine ⟨sub_, ?_⟩
      iterate 3 (refine dR_S o_ (by rfl) (by rfl) v_ ?_)
      refine dR_nil ?_
      refine awp_region (by kernel_rfl) ?_
      iterate 3 (refine aL_S rfl rfl v_ ?_)
      refine aL_nil ?_
      refine aNext (ι := Nat) (i := j) (j + 1) ?_ ?_ ?_ ?_
      · omega
      · exact (by omega)
      · have R := hcov; exact cv_
      · exact sub_
    · replace hc9 := nm_ hc9
      have hcovL : ((lanesS L).take (i + 1)).flatMap (laneB L) = p11 ++ (C.take j).flatMap cntB := by rw [hcov0, List.take_of_length_le (by omega)]
      refine awp_exit ?_
      refine aThen_exit ?_
      refine aThen_exit ?_
      refine aBlock_hit ?_
      refine awp_region (by kernel_rfl) ?_
      iterate 3 (refine aL_S rfl rfl v_ ?_)
      refine aL_nil ?_
      refine aNext (ι := Nat) (i := i) (i + 1) ?_ ?_ ?_ ?_
      · omega
      · exact (by omega)
      · have R := hcovL; exact cv_
      · exact sub_
  · replace hc4 := nm_ hc4
    refine awp_exit ?_
    refine aThen_exit ?_
    refine aThen_exit ?_
    refine aBlock_hit ?_
    refine awp_seq ?_
    refine awp_region (by kernel_rfl) ?_
    iterate 2 (refine aL_S rfl rfl v_ ?_)
    refine aL_nil ?_
    refine awp_ret ?_
    refine aEnd_ret (σ' := σ) v_ sub_ ?_
    exact ⟨by rw [List.take_of_length_le (by omega)]; rfl, rfl⟩
end Go.Proofs.YtbjloippgpilcaaGreatDoor
end

section
set_option linter.all false
set_option maxRecDepth 100000
namespace Go.Proofs.YtbjloippgpilcaaGreatDoor
open Go.Ab
theorem tallyIs_c {L : List Deed} {ns : List Int} {h : Int} {t t2 : Bool} {σ : Store} (hd : ∀ d ∈ L, DeedI d) : ACalls Tryz.prog 3 [.sl 20 (L.map sDeed) t, .sl 1 (ns.map vInt) t2, vInt h] σ fun v σ' => v = vB true ∧ σ = σ' := by
  refine ACalls_of Tryz.func3 rfl Tryz.ntmps3 (congrArg Array.toList Tryz.results3) (by simp only [List.length_cons, List.length_nil]; decide) ?_; simp only [envOf_cons, envOf_nil, Nat.reduceAdd]
  refine awp_seq ?_
  refine awp_region (by kernel_rfl) ?_
  (refine aL_S rfl rfl v_ ?_)
  refine aL_nil ?_
  refine awp_seq ?_
  refine awp_seq ?_
  refine awp_region (by kernel_rfl) ?_
  (refine aL_S rfl rfl v_ ?_)
  refine aL_X rfl rfl (AOp_use rfl rfl (.inr ⟨rfl, rfl, rfl⟩) g_ va_ (few44_c) ?_); rintro _ _ ⟨⟨r, rfl, hr⟩, rfl⟩
  iterate 2 (refine aL_S rfl rfl v_ ?_)
  refine aL_GF rfl rfl v_ rfl vg_ ?_
  refine aL_GF rfl rfl v_ rfl vg_ ?_
  refine aL_GF rfl rfl v_ rfl vg_ ?_
  (refine aL_S rfl rfl v_ ?_)
  refine aL_nil ?_
  refine awp_cond v_ (fun hc1 => ?_) (fun hc1 => ?_)
  · replace hc1 := nm_ hc1
    refine awp_seq ?_
    refine awp_region (by kernel_rfl) ?_
    refine aL_X rfl rfl (AOp_use rfl rfl (.inr ⟨rfl, rfl, rfl⟩) g_ va_ (awake55_c) ?_); rintro _ _ ⟨rfl, rfl⟩
    (refine aL_S rfl rfl v_ ?_)
    refine aL_nil ?_
    refine awp_ret ?_
    refine aEnd_ret (σ' := σ) v_ sub_ ?_
    exact ⟨rfl, rfl⟩
  · replace hc1 := nm_ hc1
    obtain ⟨hl, hs⟩ := hr hc1.1
    have hns : ns.length ≤ 30 := by have := hc1.2; omega
    have hll := lanesS_len L
    have hs' : ∀ d ∈ L, d.lane.size ≤ 1000 := fun d h => by have := hs d h; omega
    have htl : (tookI L).length ≤ 1000000 := by rw [tookI_len]; have := dn_le L; omega
    have hcl : (countsS L).length ≤ 1000000 := by have := countsS_len L; omega
    refine awp_skip ?_
    refine awp_seq ?_
    refine awp_region (by kernel_rfl) ?_
    (refine aL_S rfl rfl v_ ?_)
    refine aL_X rfl rfl (AOp_use rfl rfl (.inr ⟨rfl, rfl, rfl⟩) g_ va_ (rLanes_c (by omega)) ?_); rintro _ _ ⟨rfl, rfl⟩
    (refine aL_S rfl rfl v_ ?_)
    refine aL_nil ?_
    refine awp_seq ?_
    refine awp_seq ?_
    refine awp_region (by kernel_rfl) ?_
    (refine aL_S rfl rfl v_ ?_)
    refine aL_nil ?_
    refine awp_block ?_
    refine awp_loop_env (ι := Nat) (fun i => (lanesS L).length - i) (fun i => i ≤ (lanesS L).length) (fun i => [(0, .sl 20 (L.map sDeed) t), (1, .sl 1 (ns.map vInt) t2), (2, vInt h), (7, .sl 1 ((lanesS L).map vStr) false), (8, vInt i)]) (fun i => σ) 0 ?_ ?_ ?_ ?_
    · exact Nat.zero_le _
    · exact cv_
    · exact sub_
    rintro i hi
    simp only [envL_cons, envL_nil]
    refine awp_seq ?_
    refine awp_seq ?_
    refine awp_region (by kernel_rfl) ?_
    iterate 4 (refine aL_S rfl rfl v_ ?_)
    refine aL_nil ?_
    refine awp_cond v_ (fun hc5 => ?_) (fun hc5 => ?_)
    · replace hc5 := nm_ hc5
      refine awp_skip ?_
      refine awp_seq ?_
      refine awp_block ?_
      refine awp_seq ?_
      obtain ⟨x, hx⟩ := get_some (l := lanesS L) (k := i) (by omega)
      have R := hx
      refine awp_draw (.op 0 0 (.op 1 0 (.op 2 0 (.op 3 0 (.op 4 0 (.op 6 0 (.op 7 0 (.op 8 0 (.op 9 0 (.op 10 0 (.op 5 1 (.op 11 1 (.op 12 1 (.op 13 0 .nil)))))))))))))) Tryz.mixed (by kernel_rfl) ?_
      iterate 10 (refine dR_S o_ (by rfl) (by rfl) v_ ?_)
      refine dR_X o_ (by rfl) (by rfl) (AOp_use (by rfl) (by rfl) (.inr ⟨by rfl, by rfl, by rfl⟩) g_ va_ (of_c hd (by omega)) ?_); rintro _ _ ⟨rfl, rfl⟩; refine ⟨sub_, ?_⟩
      refine dR_X o_ (by rfl) (by rfl) (AOp_use (by rfl) (by rfl) (.inr ⟨by rfl, by rfl, by rfl⟩) g_ va_ (rOf_c hd (by omega)) ?_); rintro _ _ ⟨rfl, rfl⟩; refine ⟨sub_, ?_⟩
      refine dR_X o_ (by rfl) (by rfl) (AOp_use (by rfl) (by rfl) (.inr ⟨by rfl, by rfl, by rfl⟩) g_ va_ (same_c (by have := countsS_len (own L x); have := own_len L x; show (countsS (own L x)).length ≤ 1000000; omega)) ?_); rintro _ _ ⟨rfl, rfl⟩; refine ⟨sub_, ?_⟩
      (refine dR_S o_ (by rfl) (by rfl) v_ ?_)
      refine dR_nil ?_
      refine awp_cond v_ (fun hc7 => ?_) (fun hc7 => ?_)
      · replace hc7 := nm_ hc7
        simp at hc7
      · replace hc7 := nm_ hc7
        refine awp_skip ?_
        refine awp_region (by kernel_rfl) ?_
        iterate 3 (refine aL_S rfl rfl v_ ?_)
        refine aL_nil ?_
        refine aNext (ι := Nat) (i := i) (i + 1) ?_ ?_ ?_ ?_
        · omega
        · exact (by omega)
        · exact cv_
        · exact sub_
    · replace hc5 := nm_ hc5
      refine awp_exit ?_
      refine aThen_exit ?_
      refine aThen_exit ?_
      refine aBlock_hit ?_
      refine awp_seq ?_
      refine awp_region (by kernel_rfl) ?_
      (refine aL_S rfl rfl v_ ?_)
      refine aL_X rfl rfl (AOp_use rfl rfl (.inr ⟨rfl, rfl, rfl⟩) g_ va_ (counts_c hd (by omega)) ?_); rintro _ _ ⟨rfl, rfl⟩
      (refine aL_S rfl rfl v_ ?_)
      refine aL_X rfl rfl (AOp_use rfl rfl (.inr ⟨rfl, rfl, rfl⟩) g_ va_ (rCounts_c (by omega)) ?_); rintro _ _ ⟨rfl, rfl⟩
      refine aL_X rfl rfl (AOp_use rfl rfl (.inr ⟨rfl, rfl, rfl⟩) g_ va_ (sameCounts_c hcl) ?_); rintro _ _ ⟨rfl, rfl⟩
      (refine aL_S rfl rfl v_ ?_)
      refine aL_SY (wantedA_yes rfl rfl v_ (by rfl)) rfl v_ ?_
      refine aL_XY (wantedA_yes rfl rfl v_ (by rfl)) rfl (AOp_use rfl rfl (.inr ⟨rfl, rfl, rfl⟩) g_ va_ (tookA_c hd (by omega)) ?_); rintro _ _ ⟨rfl, rfl⟩
      refine aL_SY (wantedA_yes rfl rfl v_ (by rfl)) rfl v_ ?_
      refine aL_XY (wantedA_yes rfl rfl v_ (by rfl)) rfl (AOp_use rfl rfl (.inr ⟨rfl, rfl, rfl⟩) g_ va_ (rTook_c hd (by omega)) ?_); rintro _ _ ⟨rfl, rfl⟩
      refine aL_XY (wantedA_yes rfl rfl v_ (by rfl)) rfl (AOp_use rfl rfl (.inr ⟨rfl, rfl, rfl⟩) g_ va_ (sameInts_c htl) ?_); rintro _ _ ⟨rfl, rfl⟩
      iterate 2 (refine aL_S rfl rfl v_ ?_)
      refine aL_SY (wantedA_yes rfl rfl v_ (by rfl)) rfl v_ ?_
      refine aL_SY (wantedA_yes rfl rfl v_ (by rfl)) rfl v_ ?_
      refine aL_XY (wantedA_yes rfl rfl v_ (by rfl)) rfl (AOp_use rfl rfl (.inr ⟨rfl, rfl, rfl⟩) g_ va_ (at_c (by omega)) ?_); rintro _ _ ⟨rfl, rfl⟩
      refine aL_SY (wantedA_yes rfl rfl v_ (by rfl)) rfl v_ ?_
      refine aL_SY (wantedA_yes rfl rfl v_ (by rfl)) rfl v_ ?_
      refine aL_XY (wantedA_yes rfl rfl v_ (by rfl)) rfl (AOp_use rfl rfl (.inr ⟨rfl, rfl, rfl⟩) g_ va_ (rAt_c (by omega)) ?_); rintro _ _ ⟨rfl, rfl⟩
      refine aL_SY (wantedA_yes rfl rfl v_ (by rfl)) rfl v_ ?_
      iterate 2 (refine aL_S rfl rfl v_ ?_)
      refine aL_SY (wantedA_yes rfl rfl v_ (by rfl)) rfl v_ ?_
      refine aL_XY (wantedA_yes rfl rfl v_ (by rfl)) rfl (AOp_use rfl rfl (.inr ⟨rfl, rfl, rfl⟩) g_ va_ (lanes_c (by omega)) ?_); rintro _ _ ⟨rfl, rfl⟩
      refine aL_SY (wantedA_yes rfl rfl v_ (by rfl)) rfl v_ ?_
      refine aL_XY (wantedA_yes rfl rfl v_ (by rfl)) rfl (AOp_use rfl rfl (.inr ⟨rfl, rfl, rfl⟩) g_ va_ (sameTexts_c (by omega)) ?_); rintro _ _ ⟨rfl, rfl⟩
      iterate 2 (refine aL_S rfl rfl v_ ?_)
      refine aL_SY (wantedA_yes rfl rfl v_ (by rfl)) rfl v_ ?_
      refine aL_XY (wantedA_yes rfl rfl v_ (by rfl)) rfl (AOp_use rfl rfl (.inr ⟨rfl, rfl, rfl⟩) g_ va_ (lines_c hd (by omega) hs') ?_); rintro _ _ ⟨rfl, rfl⟩
      refine aL_SY (wantedA_yes rfl rfl v_ (by rfl)) rfl v_ ?_
      refine aL_XY (wantedA_yes rfl rfl v_ (by rfl)) rfl (AOp_use rfl rfl (.inr ⟨rfl, rfl, rfl⟩) g_ va_ (rLines_c hd (by omega) hs') ?_); rintro _ _ ⟨rfl, rfl⟩
      refine aL_SY (wantedA_yes rfl rfl v_ (by rfl)) rfl v_ ?_
      iterate 2 (refine aL_S rfl rfl v_ ?_)
      refine aL_XY (wantedA_yes rfl rfl v_ (by rfl)) rfl (AOp_use rfl rfl (.inr ⟨rfl, rfl, rfl⟩) g_ va_ (awake55_c) ?_); rintro _ _ ⟨rfl, rfl⟩
      iterate 2 (refine aL_S rfl rfl v_ ?_)
      refine aL_nil ?_
      refine awp_ret ?_
      refine aEnd_ret (σ' := σ) v_ sub_ ?_
      exact ⟨rfl, rfl⟩
end Go.Proofs.YtbjloippgpilcaaGreatDoor
end
