/-
  One entry more; TenantSound: the walk; TenantSound: the walk. Own work (an AI agent).
-/
import Derived.Test.YtbomkkjhafdhiaaGreatDoorGG

section
set_option linter.all false
set_option maxRecDepth 100000
namespace Go.Proofs.YtbomkkjhafdhiaaGreatDoor
open Go.Ab
theorem sGt {a b : ByteArray} : (!(sLt a b || decide (a = b))) = sLt b a := by
  by_cases h : a = b
  · subst h; simp [sLt_irrefl]
  · cases h1 : sLt a b with
    | false => rw [sLt_tri h1 h]; simp [h]
    | true =>
      cases h2 : sLt b a with
      | false => rfl
      | true => have := sLt_trans h1 h2; rw [sLt_irrefl] at this; cases this
theorem rNewer_c {a b : Ent} {σ : Store} : ACalls Tryz.prog 101 [sReg a, sReg b] σ fun v σ' => v = vB (newerS a b) ∧ σ = σ' := by
  refine ACalls_of Tryz.func101 rfl Tryz.ntmps101 (congrArg Array.toList Tryz.results101) (by simp only [List.length_cons, List.length_nil]; decide) ?_; simp only [envOf_cons, envOf_nil, Nat.reduceAdd]
  refine awp_seq ?_
  refine awp_region (by kernel_rfl) ?_
  refine aL_box rfl rfl rfl v_ rfl g_ fun o2 ho2 => ?_
  repeat (rw [none_set_iff] at ho2; obtain ⟨_, ho2⟩ := ho2)
  refine aL_box rfl rfl rfl v_ rfl g_ fun o3 ho3 => ?_
  repeat (rw [none_set_iff] at ho3; obtain ⟨_, ho3⟩ := ho3)
  (refine aL_S rfl rfl v_ ?_)
  refine aL_nil ?_
  refine awp_seq ?_
  refine awp_seq ?_
  refine awp_region (by kernel_rfl) ?_
  iterate 5 (refine aL_S rfl rfl v_ ?_)
  refine aL_nil ?_
  refine awp_cond v_ (fun hc1 => ?_) (fun hc1 => ?_)
  · replace hc1 := nm_ hc1
    refine awp_seq ?_
    refine awp_region (by kernel_rfl) ?_
    iterate 6 (refine aL_S rfl rfl v_ ?_)
    refine aL_nil ?_
    refine awp_ret ?_
    refine aEnd_ret (σ' := σ) v_ sub_ ?_
    exact ⟨by rw [newerS, if_pos hc1], rfl⟩
  · replace hc1 := nm_ hc1
    refine awp_skip ?_
    refine awp_seq ?_
    refine awp_seq ?_
    refine awp_region (by kernel_rfl) ?_
    iterate 5 (refine aL_S rfl rfl v_ ?_)
    refine aL_nil ?_
    refine awp_cond v_ (fun hc3 => ?_) (fun hc3 => ?_)
    · replace hc3 := nm_ hc3
      refine awp_seq ?_
      refine awp_region (by kernel_rfl) ?_
      iterate 6 (refine aL_S rfl rfl v_ ?_)
      refine aL_nil ?_
      refine awp_ret ?_
      refine aEnd_ret (σ' := σ) v_ sub_ ?_
      exact ⟨by rw [newerS, if_neg (by simpa using hc1), if_pos hc3, sGt], rfl⟩
    · replace hc3 := nm_ hc3
      refine awp_skip ?_
      refine awp_seq ?_
      refine awp_region (by kernel_rfl) ?_
      iterate 6 (refine aL_S rfl rfl v_ ?_)
      refine aL_nil ?_
      refine awp_ret ?_
      refine aEnd_ret (σ' := σ) v_ sub_ ?_
      exact ⟨by rw [newerS, if_neg (by simpa using hc1), if_neg (by simpa using hc3), sGt], rfl⟩
theorem rJoin09_c {a b : Ent} {σ : Store} : ACalls Tryz.prog 72 [sReg a, sReg b] σ fun v σ' => v = sReg (if newerS b a then b else a) ∧ σ = σ' := by
  refine ACalls_of Tryz.func72 rfl Tryz.ntmps72 (congrArg Array.toList Tryz.results72) (by simp only [List.length_cons, List.length_nil]; decide) ?_; simp only [envOf_cons, envOf_nil, Nat.reduceAdd]
  refine awp_seq ?_
  refine awp_region (by kernel_rfl) ?_
  refine aL_box rfl rfl rfl v_ rfl g_ fun o2 ho2 => ?_
  repeat (rw [none_set_iff] at ho2; obtain ⟨_, ho2⟩ := ho2)
  refine aL_box rfl rfl rfl v_ rfl g_ fun o3 ho3 => ?_
  repeat (rw [none_set_iff] at ho3; obtain ⟨_, ho3⟩ := ho3)
  refine aL_alloc rfl rfl rfl g_ gl_ fun o4 ho4 => ?_
  repeat (rw [none_set_iff] at ho4; obtain ⟨_, ho4⟩ := ho4)
  refine aL_nil ?_
  refine awp_seq ?_
  refine awp_seq ?_
  refine awp_region (by kernel_rfl) ?_
  iterate 2 (refine aL_S rfl rfl v_ ?_)
  refine aL_X rfl rfl (AOp_use rfl rfl (.inr ⟨rfl, rfl, rfl⟩) g_ va_ (rNewer_c) ?_); rintro _ _ ⟨rfl, rfl⟩
  refine aL_nil ?_
  refine awp_cond v_ (fun hc1 => ?_) (fun hc1 => ?_)
  · replace hc1 := nm_ hc1
    refine awp_seq ?_
    refine awp_region (by kernel_rfl) ?_
    (refine aL_S rfl rfl v_ ?_)
    refine aL_store rfl rfl rfl v_ v_ h_ g_ rfl g_ c_ (by rfl) le_ v_ ?_
    refine aL_nil ?_
    refine awp_ret ?_
    refine aEnd_ret (σ' := σ) v_ sub_ ?_
    exact ⟨by rw [if_pos hc1], rfl⟩
  · replace hc1 := nm_ hc1
    refine awp_skip ?_
    refine awp_seq ?_
    refine awp_region (by kernel_rfl) ?_
    (refine aL_S rfl rfl v_ ?_)
    refine aL_store rfl rfl rfl v_ v_ h_ g_ rfl g_ c_ (by rfl) le_ v_ ?_
    refine aL_nil ?_
    refine awp_ret ?_
    refine aEnd_ret (σ' := σ) v_ sub_ ?_
    exact ⟨by rw [if_neg (by simpa using hc1)], rfl⟩
theorem putS_at {y : Ent} : ∀ {l : List Ent} {k : Nat}, (∀ j x, j < k → l[j]? = some x → sLt x.key y.key = true) → (∀ x, l[k]? = some x → sLt x.key y.key = false) → k ≤ l.length → putS y l = match l[k]? with | some x => if x.key = y.key then l.take k ++ (if newerS y x then y else x) :: l.drop (k + 1) else l.take k ++ y :: l.drop k | none => l.take k ++ y :: l.drop k
  | [], k, _, _, hk => by
    obtain rfl : k = 0 := by simpa using hk
    simp [putS]
  | m :: l, 0, _, h2, _ => by
    have := h2 m rfl
    simp only [putS, this, List.getElem?_cons_zero, List.take_zero, List.drop_zero, List.nil_append, List.drop_succ_cons]
    simp
  | m :: l, k + 1, h1, h2, hk => by
    have hm := h1 0 m (by omega) rfl
    have ih := putS_at (y := y) (l := l) (k := k) (fun j x hj hx => h1 (j + 1) x (by omega) hx) (fun x hx => h2 x hx) (by simpa using hk)
    rw [putS, if_pos hm, ih]
    simp only [List.getElem?_cons_succ, List.take_succ_cons, List.drop_succ_cons, List.cons_append]
    split
    · split <;> rfl
    · rfl
theorem oneEnt (l : List Ent) : ∀ y ∈ l.map sEnt, ∀ c ∈ y.cells, c.one = true := fun y hy c hc => by
  obtain ⟨s, _, rfl⟩ := List.mem_map.1 hy
  simp [AVal.cells] at hc; rcases hc with rfl | rfl | rfl | rfl <;> rfl
theorem sEnt_join {x y : Ent} (h : x.key = y.key) : AVal.agg [vStr y.key, vInt (if newerS y x then y else x).n, vStr (if newerS y x then y else x).who, vStr (if newerS y x then y else x).value] = sEnt (if newerS y x then y else x) := by
  split
  · rfl
  · rw [← h]
set_option maxHeartbeats 2000000 in
theorem put_c {l : List Ent} {t : Bool} {y : Ent} {σ : Store} (hl : l.length ≤ 1000000) : ACalls Tryz.prog 48 [.sl 4 (l.map sEnt) t, sEnt y] σ fun v σ' => v = .sl 4 ((putS y l).map sEnt) false ∧ σ = σ' := by
  refine ACalls_of Tryz.func48 rfl Tryz.ntmps48 (congrArg Array.toList Tryz.results48) (by simp only [List.length_cons, List.length_nil]; decide) ?_; simp only [envOf_cons, envOf_nil, Nat.reduceAdd]
  refine awp_seq ?_
  refine awp_region (by kernel_rfl) ?_
  refine aL_box rfl rfl rfl v_ rfl g_ fun o3 ho3 => ?_
  repeat (rw [none_set_iff] at ho3; obtain ⟨_, ho3⟩ := ho3)
  (refine aL_S rfl rfl v_ ?_)
  refine aL_nil ?_
  refine awp_seq ?_
  refine awp_region (by kernel_rfl) ?_
  (refine aL_S rfl rfl v_ ?_)
  refine aL_nil ?_
  refine awp_seq ?_
  refine awp_block ?_
  refine awp_loop_env (ι := Nat) (fun k => l.length - k) (fun k => k ≤ l.length ∧ ∀ j x, j < k → l[j]? = some x → sLt x.key y.key = true) (fun k => [(0, .sl 4 (l.map sEnt) t), (3, .ref o3 0), (5, vInt k)]) (fun k => (σ.set o3 (.cells (sEnt y).cells))) 0 ?_ ?_ ?_ ?_
  · exact ⟨Nat.zero_le _, fun j x h => by omega⟩
  · exact cv_
  · exact Store.Wk.refl _
  rintro k ⟨hk, hal⟩
  simp only [envL_cons, envL_nil]
  refine awp_seq ?_
  refine awp_seq ?_
  obtain ⟨x, hx⟩ := get_if l k
  have R := hx
  refine awp_draw (.op 0 0 (.op 1 0 (.op 2 0 (.op 3 0 (.op 4 0 (.op 5 0 (.op 6 0 (.op 7 0 (.op 8 0 (.op 9 0 (.op 10 0 (.op 11 0 (.op 12 0 (.op 13 0 .nil)))))))))))))) Tryz.mixed (by kernel_rfl) ?_
  iterate 5 (refine dR_S o_ (by rfl) (by rfl) v_ ?_)
  refine dR_GT o_ (by rfl) (by rfl) v_ (by rfl) vg_ ?_
  refine dR_GT o_ (by rfl) (by rfl) v_ (by rfl) vg_ ?_
  refine dR_GT o_ (by rfl) (by rfl) v_ (by rfl) vg_ ?_
  refine dR_GT o_ (by rfl) (by rfl) v_ (by rfl) vg_ ?_
  refine dR_GT o_ (by rfl) (by rfl) v_ (by rfl) vg_ ?_
  refine dR_GT o_ (by rfl) (by rfl) v_ (by rfl) vg_ ?_
  refine dR_GT o_ (by rfl) (by rfl) v_ (by rfl) vg_ ?_
  refine dR_GT o_ (by rfl) (by rfl) v_ (by rfl) vg_ ?_
  (refine dR_S o_ (by rfl) (by rfl) v_ ?_)
  refine dR_nil ?_
  refine awp_cond v_ (fun hc2 => ?_) (fun hc2 => ?_)
  · replace hc2 := nm_ hc2
    refine awp_skip ?_
    refine awp_block ?_
    refine awp_region (by kernel_rfl) ?_
    iterate 3 (refine aL_S rfl rfl v_ ?_)
    refine aL_nil ?_
    refine aNext (ι := Nat) (i := k) (k + 1) ?_ ?_ ?_ ?_
    · omega
    · exact ⟨by omega, fun j z hj hz => by rcases Nat.lt_or_eq_of_le (Nat.le_of_lt_succ hj) with h | h; exact hal j z h hz; rw [h, hx (by omega)] at hz; obtain rfl := Option.some.inj hz; exact hc2.2⟩
    · exact cv_
    · exact sub_
  · replace hc2 := nm_ hc2
    refine awp_exit ?_
    refine aThen_exit ?_
    refine aThen_exit ?_
    refine aBlock_hit ?_
    refine awp_seq ?_
    skip
    have hat := putS_at (y := y) hal (fun z hz => by
      have h1 := (List.getElem?_eq_some_iff.1 hz).1
      rw [hx h1] at hz; obtain rfl := Option.some.inj hz
      rcases hc2 with h | h
      · omega
      · simpa using h) hk
    have m1 : (l.map sEnt).take k = (l.take k).map sEnt := List.map_take.symm
    have m2 : ((l.map sEnt).take l.length).drop k = (l.drop k).map sEnt := by rw [List.take_of_length_le (by simp), List.map_drop]
    have m3 : (l.map sEnt).drop k = (l.drop k).map sEnt := List.map_drop.symm
    refine awp_region (by kernel_rfl) ?_
    refine aL_nilOwn 38 4 rfl rfl rfl (by rfl) fun k6 hk6 => ?_
    refine aL_nil ?_
    refine awp_seq ?_
    have R := m1
    refine awp_region (by kernel_rfl) ?_
    iterate 4 (refine aL_S rfl rfl v_ ?_)
    refine aL_append rfl rfl rfl g_ g_ v_ h_ v_ (oneEnt _) (by simp; omega) fun k27 hk27 => ?_
    have t27 := (newTok_none hk27).2
    have u6 : σ.tok k6 = none := by simpa only [Store.set_tok] using hk6
    have u27 : σ.tok k27 = none := by simpa only [Store.set_tok] using t27
    (refine aL_S rfl rfl v_ ?_)
    refine aL_nil ?_
    refine awp_seq ?_
    refine awp_seq ?_
    have R := hx
    refine awp_draw (.op 0 0 (.op 1 0 (.op 2 0 (.op 3 0 (.op 4 0 (.op 5 0 (.op 6 0 (.op 7 0 (.op 8 0 (.op 9 0 (.op 10 0 (.op 11 0 (.op 12 0 (.op 13 0 .nil)))))))))))))) Tryz.mixed (by kernel_rfl) ?_
    iterate 5 (refine dR_S o_ (by rfl) (by rfl) v_ ?_)
    refine dR_GT o_ (by rfl) (by rfl) v_ (by rfl) vg_ ?_
    refine dR_GT o_ (by rfl) (by rfl) v_ (by rfl) vg_ ?_
    refine dR_GT o_ (by rfl) (by rfl) v_ (by rfl) vg_ ?_
    refine dR_GT o_ (by rfl) (by rfl) v_ (by rfl) vg_ ?_
    refine dR_GT o_ (by rfl) (by rfl) v_ (by rfl) vg_ ?_
    refine dR_GT o_ (by rfl) (by rfl) v_ (by rfl) vg_ ?_
    refine dR_GT o_ (by rfl) (by rfl) v_ (by rfl) vg_ ?_
    refine dR_GT o_ (by rfl) (by rfl) v_ (by rfl) vg_ ?_
    (refine dR_S o_ (by rfl) (by rfl) v_ ?_)
    refine dR_nil ?_
    refine awp_cond v_ (fun hc6 => ?_) (fun hc6 => ?_)
    · replace hc6 := nm_ hc6
      have hxk := hx (by omega)
      have hput : putS y l = l.take k ++ (if newerS y x then y else x) :: l.drop (k + 1) := by rw [hat, hxk]; simp only; rw [if_pos hc6.2]
      have hrow : (l.take k).map sEnt ++ [.agg [vStr y.key, vInt (if newerS y x then y else x).n, vStr (if newerS y x then y else x).who, vStr (if newerS y x then y else x).value]] ++ (l.drop (k + 1)).map sEnt = (putS y l).map sEnt := by rw [hput, sEnt_join hc6.2]; simp
      have m4 : ((l.map sEnt).take l.length).drop (k + 1) = (l.drop (k + 1)).map sEnt := by rw [List.take_of_length_le (by simp), List.map_drop]
      have m5 : (l.map sEnt).drop (k + 1) = (l.drop (k + 1)).map sEnt := List.map_drop.symm
      have m6 : ((k : Int) + 1).toNat = k + 1 := by omega
      refine awp_seq ?_
      have R := hxk
      refine awp_draw (.op 0 0 (.op 1 0 (.op 2 0 (.op 3 0 (.op 4 0 (.op 5 0 (.op 6 0 (.op 7 0 (.op 8 0 (.op 9 0 (.op 10 1 (.op 11 0 (.op 12 1 (.op 13 2 (.op 14 0 .nil))))))))))))))) Tryz.mixed (by kernel_rfl) ?_
      iterate 10 (refine dR_S o_ (by rfl) (by rfl) v_ ?_)
      refine dR_X o_ (by rfl) (by rfl) (AOp_use (by rfl) (by rfl) (.inr ⟨by rfl, by rfl, by rfl⟩) g_ va_ (rJoin09_c) ?_); rintro _ _ ⟨rfl, rfl⟩; refine ⟨sub_, ?_⟩
      (refine dR_S o_ (by rfl) (by rfl) v_ ?_)
      refine dR_X o_ (by rfl) (by rfl) (AOp_buildSlice' (by rfl) g_ g_ (by rfl) (by rfl) h_ c2_ (by decide) ⟨sub_, ?_⟩)
      refine dR_T o_ (by rfl) (by rfl) (AOp_appendS (by rfl) g_ g_ (.inl ⟨_, va_, h_, rfl⟩) (.inl ⟨⟨_, g_⟩, .inl v_, c_⟩) (by simp; omega) fun k55 hk55 => ?_)
      (refine dR_S o_ (by rfl) (by rfl) v_ ?_)
      refine dR_nil ?_
      rw [Store.newTok_step (by exact hk6)] at hk55
      have t55 := (newTok_none hk55).2
      have u55 : σ.tok k55 = none := by simpa only [Store.set_tok] using t55
      refine awp_seq ?_
      have R := And.intro m6 (And.intro m4 m5)
      refine awp_region (by kernel_rfl) ?_
      iterate 5 (refine aL_S rfl rfl v_ ?_)
      refine aL_append rfl rfl rfl g_ g_ v_ h_ v_ (oneEnt _) (by simp; omega) fun k61 hk61 => ?_
      rw [Store.newTok_step (by exact hk6), Store.newTok_step (by exact t27)] at hk61
      have t61 := (newTok_none hk61).2
      have u61 : σ.tok k61 = none := by simpa only [Store.set_tok] using t61
      (refine aL_S rfl rfl v_ ?_)
      refine aL_nil ?_
      refine awp_seq ?_
      refine awp_region (by kernel_rfl) ?_
      iterate 2 (refine aL_S rfl rfl v_ ?_)
      refine aL_nil ?_
      refine awp_ret ?_
      exact aEnd_retW (v := .sl 4 ((putS y l).map sEnt) false) (v' := .own k61 4 ((putS y l).map sEnt)) (by rw [← hrow]; first | exact va_ | exact vb_) (.own1 _ _ _) sub_ ⟨rfl, rfl⟩
    · replace hc6 := nm_ hc6
      skip
      have hput : putS y l = l.take k ++ y :: l.drop k := by
        rw [hat]
        cases hg : l[k]? with
        | none => rfl
        | some z =>
          have h1 := (List.getElem?_eq_some_iff.1 hg).1
          rw [hx h1] at hg; obtain rfl := Option.some.inj hg
          simp only
          rw [if_neg (by rcases hc6 with h | h; omega; exact h)]
      have hrow : (l.take k).map sEnt ++ [sEnt y] ++ (l.drop k).map sEnt = (putS y l).map sEnt := by rw [hput]; simp
      refine awp_skip ?_
      refine awp_seq ?_
      refine awp_region (by kernel_rfl) ?_
      iterate 2 (refine aL_S rfl rfl v_ ?_)
      refine aL_buildSlice rfl rfl rfl g_ g_ rfl rfl h_ c2_ (by decide) ?_
      refine aL_append rfl rfl rfl g_ g_ v_ h_ v_ c_ (by simp; omega) fun k66 hk66 => ?_
      (refine aL_S rfl rfl v_ ?_)
      refine aL_nil ?_
      rw [Store.newTok_step (by exact hk6)] at hk66
      have t66 := (newTok_none hk66).2
      have u66 : σ.tok k66 = none := by simpa only [Store.set_tok] using t66
      refine awp_seq ?_
      have R := And.intro m2 m3
      refine awp_region (by kernel_rfl) ?_
      iterate 4 (refine aL_S rfl rfl v_ ?_)
      refine aL_append rfl rfl rfl g_ g_ v_ h_ v_ (oneEnt _) (by simp; omega) fun k71 hk71 => ?_
      rw [Store.newTok_step (by exact hk6), Store.newTok_step (by exact t27)] at hk71
      have t71 := (newTok_none hk71).2
      have u71 : σ.tok k71 = none := by simpa only [Store.set_tok] using t71
      (refine aL_S rfl rfl v_ ?_)
      refine aL_nil ?_
      refine awp_seq ?_
      refine awp_region (by kernel_rfl) ?_
      iterate 2 (refine aL_S rfl rfl v_ ?_)
      refine aL_nil ?_
      refine awp_ret ?_
      exact aEnd_retW (v := .sl 4 ((putS y l).map sEnt) false) (v' := .own k71 4 ((putS y l).map sEnt)) (by rw [← hrow]; first | exact va_ | exact vb_) (.own1 _ _ _) sub_ ⟨rfl, rfl⟩
def putE (l : List Ent) (y : Ent) : List Ent × Int := if !entsOk l || !entOk y then ([], 1) else if 4096 < (putS y l).length then ([], 4) else (putS y l, 0)
theorem rPut_c {l : List Ent} {t : Bool} {y : Ent} {σ : Store} (hl : l.length ≤ 100000) (hs : ∀ x ∈ l, EntSm x) (hy : EntSm y) : ACalls Tryz.prog 22 [.sl 4 (l.map sEnt) t, sEnt y] σ fun v σ' => v = .tup [.sl 4 ((putE l y).1.map sEnt) false, vInt (putE l y).2] ∧ σ = σ' := by
  have hpl := putS_len y l
  refine ACalls_of Tryz.func22 rfl Tryz.ntmps22 (congrArg Array.toList Tryz.results22) (by simp only [List.length_cons, List.length_nil]; decide) ?_; simp only [envOf_cons, envOf_nil, Nat.reduceAdd]
  refine awp_seq ?_
  refine awp_region (by kernel_rfl) ?_
  refine aL_box rfl rfl rfl v_ rfl g_ fun o3 ho3 => ?_
  repeat (rw [none_set_iff] at ho3; obtain ⟨_, ho3⟩ := ho3)
  iterate 2 (refine aL_S rfl rfl v_ ?_)
  refine aL_nil ?_
  refine awp_seq ?_
  refine awp_seq ?_
  refine awp_region (by kernel_rfl) ?_
  (refine aL_S rfl rfl v_ ?_)
  refine aL_X rfl rfl (AOp_use rfl rfl (.inr ⟨rfl, rfl, rfl⟩) g_ va_ (rMay10_c hs (by omega)) ?_); rintro _ _ ⟨rfl, rfl⟩
  iterate 2 (refine aL_S rfl rfl v_ ?_)
  refine aL_GF rfl rfl v_ rfl vg_ ?_
  refine aL_GFX rfl rfl v_ rfl (fun hb => AOp_useV (by rfl) (by rfl) (.inr ⟨by rfl, by rfl, by rfl⟩) g_ cg_ (rIsEntry_c hy)) ?_
  refine aL_GF rfl rfl v_ rfl vg_ ?_
  (refine aL_S rfl rfl v_ ?_)
  refine aL_nil ?_
  refine awp_cond v_ (fun hc1 => ?_) (fun hc1 => ?_)
  · replace hc1 := nm_ hc1
    have he : putE l y = ([], 1) := by rw [putE, if_pos (by rcases hc1 with h | h <;> simp [h])]
    refine awp_seq ?_
    refine awp_region (by kernel_rfl) ?_
    iterate 2 (refine aL_S rfl rfl v_ ?_)
    refine aL_nil ?_
    refine awp_ret ?_
    exact aEnd_retW (v := .tup [.sl 4 [] false, vInt 1]) (v' := .tup [vNil, vInt 1]) va_ (.tup _ _ rfl fun i h h' => by match i, h with | 0, _ => exact .nil _ _ | 1, _ => exact .refl _) sub_ ⟨by rw [he]; rfl, rfl⟩
  · replace hc1 := nm_ hc1
    have he : putE l y = if 4096 < (putS y l).length then ([], 4) else (putS y l, 0) := by rw [putE, if_neg (by simp [hc1.1, hc1.2])]
    refine awp_skip ?_
    refine awp_seq ?_
    refine awp_region (by kernel_rfl) ?_
    iterate 2 (refine aL_S rfl rfl v_ ?_)
    refine aL_X rfl rfl (AOp_use rfl rfl (.inr ⟨rfl, rfl, rfl⟩) g_ va_ (put_c (by omega)) ?_); rintro _ _ ⟨rfl, rfl⟩
    (refine aL_S rfl rfl v_ ?_)
    refine aL_nil ?_
    refine awp_seq ?_
    refine awp_seq ?_
    refine awp_region (by kernel_rfl) ?_
    iterate 3 (refine aL_S rfl rfl v_ ?_)
    refine aL_nil ?_
    refine awp_cond v_ (fun hc4 => ?_) (fun hc4 => ?_)
    · replace hc4 := nm_ hc4
      refine awp_seq ?_
      refine awp_region (by kernel_rfl) ?_
      iterate 2 (refine aL_S rfl rfl v_ ?_)
      refine aL_nil ?_
      refine awp_ret ?_
      exact aEnd_retW (v := .tup [.sl 4 [] false, vInt 4]) (v' := .tup [vNil, vInt 4]) va_ (.tup _ _ rfl fun i h h' => by match i, h with | 0, _ => exact .nil _ _ | 1, _ => exact .refl _) sub_ ⟨by rw [he, if_pos (by omega)]; rfl, rfl⟩
    · replace hc4 := nm_ hc4
      refine awp_skip ?_
      refine awp_seq ?_
      refine awp_region (by kernel_rfl) ?_
      iterate 3 (refine aL_S rfl rfl v_ ?_)
      refine aL_nil ?_
      refine awp_ret ?_
      refine aEnd_ret (σ' := σ) v_ sub_ ?_
      exact ⟨by rw [he, if_neg (by omega)], rfl⟩
theorem putE_get {l : List Ent} {y : Ent} {k : ByteArray} (h : (putE l y).2 = 0) (hk : y.key ≠ k) : getS (putE l y).1 k = getS l k := by
  unfold putE at h ⊢
  split
  · rename_i h1; rw [if_pos h1] at h; cases h
  · rename_i h1
    rw [if_neg h1] at h
    split
    · rename_i h2; rw [if_pos h2] at h; cases h
    · exact putS_get hk
theorem putE_mem {l : List Ent} {y : Ent} : ∀ z ∈ (putE l y).1, z = y ∨ z ∈ l := fun z h => by
  unfold putE at h
  split at h
  · cases h
  · split at h
    · cases h
    · exact putS_mem z h
theorem putE_len (l : List Ent) (y : Ent) : (putE l y).1.length ≤ l.length + 1 := by
  have := putS_len y l
  unfold putE
  split
  · simp
  · split
    · simp
    · exact this
theorem riseN_at {m : List ByteArray} (h : RiseN m) {i : Nat} {x y : ByteArray} (hi : 0 < i) (hx : m[i - 1]? = some x) (hy : m[i]? = some y) : sLt x y = true := by
  obtain ⟨h1, rfl⟩ := List.getElem?_eq_some_iff.1 hx
  obtain ⟨h2, rfl⟩ := List.getElem?_eq_some_iff.1 hy
  exact List.pairwise_iff_getElem.1 h _ _ h1 h2 (by omega)
end Go.Proofs.YtbomkkjhafdhiaaGreatDoor
end

section
set_option linter.all false
set_option maxRecDepth 100000
namespace Go.Proofs.YtbomkkjhafdhiaaGreatDoor
open Go.Ab
theorem gv2 {a b : Bool} (h : (!(!a || !b)) = true) : a = true ∧ b = true := by cases a <;> cases b <;> simp at h ⊢
/-- what the law asks of a tenant, as it is decided -/
theorem sound_facts (l : List Ent) (a : ByteArray) : (tenOk l a = true ∧ decide ((tenS l a).name = a) = true ∧ decide (((tenS l a).secret.size : Int) < 1) = false ∧ decide (64 < ((tenS l a).secret.size : Int)) = false ∧ decide ((tenS l a).bytes < 0) = false ∧ decide (1099511627776 < (tenS l a).bytes) = false ∧ decide ((tenS l a).rate < 0) = false ∧ decide (1048576 < (tenS l a).rate) = false ∧ decide ((tenS l a).burst < 0) = false ∧ decide (1048576 < (tenS l a).burst) = false ∧ decide ((tenS l a).queue < 0) = false ∧ decide (64 < (tenS l a).queue) = false) ∨
    (tenOk l a = false ∧ tenOk l a = false ∧ tenOk l a = false ∧ tenOk l a = false ∧ tenOk l a = false ∧ tenOk l a = false ∧ tenOk l a = false ∧ tenOk l a = false ∧ tenOk l a = false ∧ tenOk l a = false ∧ tenOk l a = false ∧ tenOk l a = false) := by
  cases h : tenOk l a with
  | false => simp
  | true =>
    obtain ⟨h0, h1, h2, h3, h4, h5, h6⟩ := ten_sound h
    refine .inl ⟨rfl, decide_eq_true h0, decide_eq_false ?_, decide_eq_false ?_, decide_eq_false ?_, decide_eq_false ?_, decide_eq_false ?_, decide_eq_false ?_, decide_eq_false ?_, decide_eq_false ?_, decide_eq_false ?_, decide_eq_false ?_⟩ <;> omega
set_option maxHeartbeats 4000000 in
theorem tenantSound_c {l : List Ent} {t : Bool} {a : ByteArray} {y : Ent} {σ : Store} : ACalls Tryz.prog 5 [.sl 4 (l.map sEnt) t, vStr a, sEnt y] σ fun v σ' => v = vB true ∧ σ = σ' := by
  refine ACalls_of Tryz.func5 rfl Tryz.ntmps5 (congrArg Array.toList Tryz.results5) (by simp only [List.length_cons, List.length_nil]; decide) ?_; simp only [envOf_cons, envOf_nil, Nat.reduceAdd]
  refine awp_seq ?_
  refine awp_region (by kernel_rfl) ?_
  refine aL_box rfl rfl rfl v_ rfl g_ fun o5 ho5 => ?_
  repeat (rw [none_set_iff] at ho5; obtain ⟨_, ho5⟩ := ho5)
  (refine aL_S rfl rfl v_ ?_)
  refine aL_nil ?_
  refine awp_seq ?_
  refine awp_seq ?_
  refine awp_region (by kernel_rfl) ?_
  (refine aL_S rfl rfl v_ ?_)
  refine aL_X rfl rfl (AOp_use rfl rfl (.inr ⟨rfl, rfl, rfl⟩) g_ va_ (fewEn_c (n := 30) (by decide)) ?_); rintro _ _ ⟨rfl, rfl⟩
  iterate 2 (refine aL_S rfl rfl v_ ?_)
  refine aL_GF rfl rfl v_ rfl vg_ ?_
  refine aL_GFX rfl rfl v_ rfl (fun hb => AOp_useV (by rfl) (by rfl) (.inr ⟨by rfl, by rfl, by rfl⟩) g_ cg_ (rMay10_c (fewEn_sm (show fewEn l 30 = true from by simp_all)).2.1 (by have := (fewEn_sm (show fewEn l 30 = true from by simp_all)).1; omega))) ?_
  refine aL_GF rfl rfl v_ rfl vg_ ?_
  iterate 2 (refine aL_S rfl rfl v_ ?_)
  refine aL_GF rfl rfl v_ rfl vg_ ?_
  refine aL_GFX (b := (!fewEn l 30 || !entsOk l)) rfl rfl va_ rfl (a := .sl 4 [sEnt y] true) (fun hb' => by have hb := gv2 hb'; clear hb'; exact AOp_buildSlice' (l := [sEnt y]) (by rfl) g_ g_ (by rfl) (by rfl) vh_ (by simp [go_sem, hb.1, hb.2, AVal.one, AVal.cells, AVal.solid]) (by decide) ⟨rfl, rfl⟩) ?_
  refine aL_GFX (b := (!fewEn l 30 || !entsOk l)) rfl rfl va_ rfl (a := vB (fewEn [y] 1)) (fun hb' => by have hb := gv2 hb'; clear hb'; exact AOp_useV (by rfl) (by rfl) (.inr ⟨by rfl, by rfl, by rfl⟩) g_ vh_ (fewEn_c (l := [y]) (n := 1) (t := true) (by decide))) ?_
  refine aL_GF rfl rfl v_ rfl vg_ ?_
  iterate 2 (refine aL_S rfl rfl v_ ?_)
  refine aL_GF rfl rfl v_ rfl vg_ ?_
  refine aL_GF rfl rfl v_ rfl vg_ ?_
  refine aL_GF rfl rfl v_ rfl vg_ ?_
  (refine aL_S rfl rfl v_ ?_)
  refine aL_nil ?_
  refine awp_cond v_ (fun hc1 => ?_) (fun hc1 => ?_)
  · replace hc1 := nm_ hc1
    refine awp_seq ?_
    refine awp_region (by kernel_rfl) ?_
    refine aL_X rfl rfl (AOp_use rfl rfl (.inr ⟨rfl, rfl, rfl⟩) g_ va_ (awake23_c) ?_); rintro _ _ ⟨rfl, rfl⟩
    (refine aL_S rfl rfl v_ ?_)
    refine aL_nil ?_
    refine awp_ret ?_
    refine aEnd_ret (σ' := σ) v_ sub_ ?_
    exact ⟨rfl, rfl⟩
  · replace hc1 := nm_ hc1
    obtain ⟨nl, hs, hk⟩ := fewEn_sm hc1.1.1.1
    obtain ⟨_, hsy, _⟩ := fewEn_sm hc1.1.2
    have hy := hsy y (.head _)
    have ha : a.size ≤ 100 := by omega
    have hk4 : ∀ x ∈ l, x.key.size ≤ 400000 := fun x hx => by have := (hk x hx).1; omega
    have hal := all_len l
    refine awp_skip ?_
    refine awp_seq ?_
    refine awp_region (by kernel_rfl) ?_
    iterate 2 (refine aL_S rfl rfl v_ ?_)
    refine aL_X rfl rfl (AOp_use rfl rfl (.inr ⟨rfl, rfl, rfl⟩) g_ va_ (of_c (by omega) hs (by omega)) ?_); rintro _ _ ⟨rfl, rfl⟩
    iterate 3 (refine aL_S rfl rfl v_ ?_)
    refine aL_alloc rfl rfl rfl g_ gl_ fun o7 ho7 => ?_
    repeat (rw [none_set_iff] at ho7; obtain ⟨_, ho7⟩ := ho7)
    refine aL_store rfl rfl rfl v_ v_ h_ g_ rfl g_ c_ (by rfl) le_ v_ ?_
    (refine aL_S rfl rfl v_ ?_)
    refine aL_nil ?_
    refine awp_seq_mid (ι := Unit) (fun _ => True) (fun _ => [(0, .sl 4 (l.map sEnt) t), (1, vStr a), (5, .ref o5 0), (7, .ref o7 0), (8, vB (tenOk l a))]) (fun _ => ((σ.set o5 (.cells (sEnt y).cells)).set o7 (.cells (sTen (tenS l a)).cells))) ?_ ?_
    · refine awp_seq ?_
      rcases sound_facts l a with ⟨ho, f0, f1, f2, f3, f4, f5, f6, f7, f8, f9, f10⟩ | ⟨ho, f0, f1, f2, f3, f4, f5, f6, f7, f8, f9, f10⟩
      · have R := And.intro ho (And.intro f0 (And.intro f1 (And.intro f2 (And.intro f3 (And.intro f4 (And.intro f5 (And.intro f6 (And.intro f7 (And.intro f8 (And.intro f9 f10))))))))))
        refine awp_region (by kernel_rfl) ?_
        iterate 2 (refine aL_S rfl rfl v_ ?_)
        first | (refine aL_SN wn_ rfl ?_) | (refine aL_SY (wantedA_yes rfl rfl v_ (by rfl)) rfl v_ ?_)
        first | (refine aL_SN wn_ rfl ?_) | (refine aL_SY (wantedA_yes rfl rfl v_ (by rfl)) rfl v_ ?_)
        first | (refine aL_SN wn_ rfl ?_) | (refine aL_SY (wantedA_yes rfl rfl v_ (by rfl)) rfl v_ ?_)
        first | (refine aL_SN wn_ rfl ?_) | (refine aL_SY (wantedA_yes rfl rfl v_ (by rfl)) rfl v_ ?_)
        first | (refine aL_SN wn_ rfl ?_) | (refine aL_SY (wantedA_yes rfl rfl v_ (by rfl)) rfl v_ ?_)
        first | (refine aL_SN wn_ rfl ?_) | (refine aL_SY (wantedA_yes rfl rfl v_ (by rfl)) rfl v_ ?_)
        first | (refine aL_SN wn_ rfl ?_) | (refine aL_SY (wantedA_yes rfl rfl v_ (by rfl)) rfl v_ ?_)
        first | (refine aL_SN wn_ rfl ?_) | (refine aL_SY (wantedA_yes rfl rfl v_ (by rfl)) rfl v_ ?_)
        first | (refine aL_SN wn_ rfl ?_) | (refine aL_SY (wantedA_yes rfl rfl v_ (by rfl)) rfl v_ ?_)
        first | (refine aL_SN wn_ rfl ?_) | (refine aL_SY (wantedA_yes rfl rfl v_ (by rfl)) rfl v_ ?_)
        first | (refine aL_SN wn_ rfl ?_) | (refine aL_SY (wantedA_yes rfl rfl v_ (by rfl)) rfl v_ ?_)
        first | (refine aL_SN wn_ rfl ?_) | (refine aL_SY (wantedA_yes rfl rfl v_ (by rfl)) rfl v_ ?_)
        first | (refine aL_SN wn_ rfl ?_) | (refine aL_SY (wantedA_yes rfl rfl v_ (by rfl)) rfl v_ ?_)
        first | (refine aL_SN wn_ rfl ?_) | (refine aL_SY (wantedA_yes rfl rfl v_ (by rfl)) rfl v_ ?_)
        first | (refine aL_SN wn_ rfl ?_) | (refine aL_SY (wantedA_yes rfl rfl v_ (by rfl)) rfl v_ ?_)
        first | (refine aL_SN wn_ rfl ?_) | (refine aL_SY (wantedA_yes rfl rfl v_ (by rfl)) rfl v_ ?_)
        first | (refine aL_SN wn_ rfl ?_) | (refine aL_SY (wantedA_yes rfl rfl v_ (by rfl)) rfl v_ ?_)
        first | (refine aL_SN wn_ rfl ?_) | (refine aL_SY (wantedA_yes rfl rfl v_ (by rfl)) rfl v_ ?_)
        first | (refine aL_SN wn_ rfl ?_) | (refine aL_SY (wantedA_yes rfl rfl v_ (by rfl)) rfl v_ ?_)
        first | (refine aL_SN wn_ rfl ?_) | (refine aL_SY (wantedA_yes rfl rfl v_ (by rfl)) rfl v_ ?_)
        first | (refine aL_SN wn_ rfl ?_) | (refine aL_SY (wantedA_yes rfl rfl v_ (by rfl)) rfl v_ ?_)
        first | (refine aL_SN wn_ rfl ?_) | (refine aL_SY (wantedA_yes rfl rfl v_ (by rfl)) rfl v_ ?_)
        first | (refine aL_SN wn_ rfl ?_) | (refine aL_SY (wantedA_yes rfl rfl v_ (by rfl)) rfl v_ ?_)
        first | (refine aL_SN wn_ rfl ?_) | (refine aL_SY (wantedA_yes rfl rfl v_ (by rfl)) rfl v_ ?_)
        first | (refine aL_SN wn_ rfl ?_) | (refine aL_SY (wantedA_yes rfl rfl v_ (by rfl)) rfl v_ ?_)
        first | (refine aL_SN wn_ rfl ?_) | (refine aL_SY (wantedA_yes rfl rfl v_ (by rfl)) rfl v_ ?_)
        first | (refine aL_SN wn_ rfl ?_) | (refine aL_SY (wantedA_yes rfl rfl v_ (by rfl)) rfl v_ ?_)
        first | (refine aL_SN wn_ rfl ?_) | (refine aL_SY (wantedA_yes rfl rfl v_ (by rfl)) rfl v_ ?_)
        first | (refine aL_SN wn_ rfl ?_) | (refine aL_SY (wantedA_yes rfl rfl v_ (by rfl)) rfl v_ ?_)
        first | (refine aL_SN wn_ rfl ?_) | (refine aL_SY (wantedA_yes rfl rfl v_ (by rfl)) rfl v_ ?_)
        first | (refine aL_SN wn_ rfl ?_) | (refine aL_SY (wantedA_yes rfl rfl v_ (by rfl)) rfl v_ ?_)
        first | (refine aL_SN wn_ rfl ?_) | (refine aL_SY (wantedA_yes rfl rfl v_ (by rfl)) rfl v_ ?_)
        first | (refine aL_SN wn_ rfl ?_) | (refine aL_SY (wantedA_yes rfl rfl v_ (by rfl)) rfl v_ ?_)
        first | (refine aL_SN wn_ rfl ?_) | (refine aL_SY (wantedA_yes rfl rfl v_ (by rfl)) rfl v_ ?_)
        first | (refine aL_SN wn_ rfl ?_) | (refine aL_SY (wantedA_yes rfl rfl v_ (by rfl)) rfl v_ ?_)
        first | (refine aL_SN wn_ rfl ?_) | (refine aL_SY (wantedA_yes rfl rfl v_ (by rfl)) rfl v_ ?_)
        first | (refine aL_SN wn_ rfl ?_) | (refine aL_SY (wantedA_yes rfl rfl v_ (by rfl)) rfl v_ ?_)
        first | (refine aL_SN wn_ rfl ?_) | (refine aL_SY (wantedA_yes rfl rfl v_ (by rfl)) rfl v_ ?_)
        first | (refine aL_SN wn_ rfl ?_) | (refine aL_SY (wantedA_yes rfl rfl v_ (by rfl)) rfl v_ ?_)
        first | (refine aL_SN wn_ rfl ?_) | (refine aL_SY (wantedA_yes rfl rfl v_ (by rfl)) rfl v_ ?_)
        first | (refine aL_SN wn_ rfl ?_) | (refine aL_SY (wantedA_yes rfl rfl v_ (by rfl)) rfl v_ ?_)
        first | (refine aL_SN wn_ rfl ?_) | (refine aL_SY (wantedA_yes rfl rfl v_ (by rfl)) rfl v_ ?_)
        first | (refine aL_SN wn_ rfl ?_) | (refine aL_SY (wantedA_yes rfl rfl v_ (by rfl)) rfl v_ ?_)
        first | (refine aL_SN wn_ rfl ?_) | (refine aL_SY (wantedA_yes rfl rfl v_ (by rfl)) rfl v_ ?_)
        first | (refine aL_SN wn_ rfl ?_) | (refine aL_SY (wantedA_yes rfl rfl v_ (by rfl)) rfl v_ ?_)
        first | (refine aL_SN wn_ rfl ?_) | (refine aL_SY (wantedA_yes rfl rfl v_ (by rfl)) rfl v_ ?_)
        first | (refine aL_SN wn_ rfl ?_) | (refine aL_SY (wantedA_yes rfl rfl v_ (by rfl)) rfl v_ ?_)
        first | (refine aL_SN wn_ rfl ?_) | (refine aL_SY (wantedA_yes rfl rfl v_ (by rfl)) rfl v_ ?_)
        first | (refine aL_SN wn_ rfl ?_) | (refine aL_SY (wantedA_yes rfl rfl v_ (by rfl)) rfl v_ ?_)
        first | (refine aL_SN wn_ rfl ?_) | (refine aL_SY (wantedA_yes rfl rfl v_ (by rfl)) rfl v_ ?_)
        first | (refine aL_SN wn_ rfl ?_) | (refine aL_SY (wantedA_yes rfl rfl v_ (by rfl)) rfl v_ ?_)
        first | (refine aL_SN wn_ rfl ?_) | (refine aL_SY (wantedA_yes rfl rfl v_ (by rfl)) rfl v_ ?_)
        first | (refine aL_SN wn_ rfl ?_) | (refine aL_SY (wantedA_yes rfl rfl v_ (by rfl)) rfl v_ ?_)
        first | (refine aL_SN wn_ rfl ?_) | (refine aL_SY (wantedA_yes rfl rfl v_ (by rfl)) rfl v_ ?_)
        first | (refine aL_SN wn_ rfl ?_) | (refine aL_SY (wantedA_yes rfl rfl v_ (by rfl)) rfl v_ ?_)
        first | (refine aL_SN wn_ rfl ?_) | (refine aL_SY (wantedA_yes rfl rfl v_ (by rfl)) rfl v_ ?_)
        (refine aL_S rfl rfl v_ ?_)
        refine aL_nil ?_
        refine awp_cond v_ (fun hc4 => ?_) (fun hc4 => ?_)
        · replace hc4 := nm_ hc4
          simp at hc4
        · replace hc4 := nm_ hc4
          refine awp_skip ?_
          refine ⟨(), ?_, ?_, ?_⟩
          · trivial
          · exact cv_
          · (try dsimp only); rw [Store.set_set]; exact Store.Wk.refl _
      · have R := And.intro ho (And.intro f0 (And.intro f1 (And.intro f2 (And.intro f3 (And.intro f4 (And.intro f5 (And.intro f6 (And.intro f7 (And.intro f8 (And.intro f9 f10))))))))))
        refine awp_region (by kernel_rfl) ?_
        iterate 2 (refine aL_S rfl rfl v_ ?_)
        first | (refine aL_SN wn_ rfl ?_) | (refine aL_SY (wantedA_yes rfl rfl v_ (by rfl)) rfl v_ ?_)
        first | (refine aL_SN wn_ rfl ?_) | (refine aL_SY (wantedA_yes rfl rfl v_ (by rfl)) rfl v_ ?_)
        first | (refine aL_SN wn_ rfl ?_) | (refine aL_SY (wantedA_yes rfl rfl v_ (by rfl)) rfl v_ ?_)
        first | (refine aL_SN wn_ rfl ?_) | (refine aL_SY (wantedA_yes rfl rfl v_ (by rfl)) rfl v_ ?_)
        first | (refine aL_SN wn_ rfl ?_) | (refine aL_SY (wantedA_yes rfl rfl v_ (by rfl)) rfl v_ ?_)
        first | (refine aL_SN wn_ rfl ?_) | (refine aL_SY (wantedA_yes rfl rfl v_ (by rfl)) rfl v_ ?_)
        first | (refine aL_SN wn_ rfl ?_) | (refine aL_SY (wantedA_yes rfl rfl v_ (by rfl)) rfl v_ ?_)
        first | (refine aL_SN wn_ rfl ?_) | (refine aL_SY (wantedA_yes rfl rfl v_ (by rfl)) rfl v_ ?_)
        first | (refine aL_SN wn_ rfl ?_) | (refine aL_SY (wantedA_yes rfl rfl v_ (by rfl)) rfl v_ ?_)
        first | (refine aL_SN wn_ rfl ?_) | (refine aL_SY (wantedA_yes rfl rfl v_ (by rfl)) rfl v_ ?_)
        first | (refine aL_SN wn_ rfl ?_) | (refine aL_SY (wantedA_yes rfl rfl v_ (by rfl)) rfl v_ ?_)
        first | (refine aL_SN wn_ rfl ?_) | (refine aL_SY (wantedA_yes rfl rfl v_ (by rfl)) rfl v_ ?_)
        first | (refine aL_SN wn_ rfl ?_) | (refine aL_SY (wantedA_yes rfl rfl v_ (by rfl)) rfl v_ ?_)
        first | (refine aL_SN wn_ rfl ?_) | (refine aL_SY (wantedA_yes rfl rfl v_ (by rfl)) rfl v_ ?_)
        first | (refine aL_SN wn_ rfl ?_) | (refine aL_SY (wantedA_yes rfl rfl v_ (by rfl)) rfl v_ ?_)
        first | (refine aL_SN wn_ rfl ?_) | (refine aL_SY (wantedA_yes rfl rfl v_ (by rfl)) rfl v_ ?_)
        first | (refine aL_SN wn_ rfl ?_) | (refine aL_SY (wantedA_yes rfl rfl v_ (by rfl)) rfl v_ ?_)
        first | (refine aL_SN wn_ rfl ?_) | (refine aL_SY (wantedA_yes rfl rfl v_ (by rfl)) rfl v_ ?_)
        first | (refine aL_SN wn_ rfl ?_) | (refine aL_SY (wantedA_yes rfl rfl v_ (by rfl)) rfl v_ ?_)
        first | (refine aL_SN wn_ rfl ?_) | (refine aL_SY (wantedA_yes rfl rfl v_ (by rfl)) rfl v_ ?_)
        first | (refine aL_SN wn_ rfl ?_) | (refine aL_SY (wantedA_yes rfl rfl v_ (by rfl)) rfl v_ ?_)
        first | (refine aL_SN wn_ rfl ?_) | (refine aL_SY (wantedA_yes rfl rfl v_ (by rfl)) rfl v_ ?_)
        first | (refine aL_SN wn_ rfl ?_) | (refine aL_SY (wantedA_yes rfl rfl v_ (by rfl)) rfl v_ ?_)
        first | (refine aL_SN wn_ rfl ?_) | (refine aL_SY (wantedA_yes rfl rfl v_ (by rfl)) rfl v_ ?_)
        first | (refine aL_SN wn_ rfl ?_) | (refine aL_SY (wantedA_yes rfl rfl v_ (by rfl)) rfl v_ ?_)
        first | (refine aL_SN wn_ rfl ?_) | (refine aL_SY (wantedA_yes rfl rfl v_ (by rfl)) rfl v_ ?_)
        first | (refine aL_SN wn_ rfl ?_) | (refine aL_SY (wantedA_yes rfl rfl v_ (by rfl)) rfl v_ ?_)
        first | (refine aL_SN wn_ rfl ?_) | (refine aL_SY (wantedA_yes rfl rfl v_ (by rfl)) rfl v_ ?_)
        first | (refine aL_SN wn_ rfl ?_) | (refine aL_SY (wantedA_yes rfl rfl v_ (by rfl)) rfl v_ ?_)
        first | (refine aL_SN wn_ rfl ?_) | (refine aL_SY (wantedA_yes rfl rfl v_ (by rfl)) rfl v_ ?_)
        first | (refine aL_SN wn_ rfl ?_) | (refine aL_SY (wantedA_yes rfl rfl v_ (by rfl)) rfl v_ ?_)
        first | (refine aL_SN wn_ rfl ?_) | (refine aL_SY (wantedA_yes rfl rfl v_ (by rfl)) rfl v_ ?_)
        first | (refine aL_SN wn_ rfl ?_) | (refine aL_SY (wantedA_yes rfl rfl v_ (by rfl)) rfl v_ ?_)
        first | (refine aL_SN wn_ rfl ?_) | (refine aL_SY (wantedA_yes rfl rfl v_ (by rfl)) rfl v_ ?_)
        first | (refine aL_SN wn_ rfl ?_) | (refine aL_SY (wantedA_yes rfl rfl v_ (by rfl)) rfl v_ ?_)
        first | (refine aL_SN wn_ rfl ?_) | (refine aL_SY (wantedA_yes rfl rfl v_ (by rfl)) rfl v_ ?_)
        first | (refine aL_SN wn_ rfl ?_) | (refine aL_SY (wantedA_yes rfl rfl v_ (by rfl)) rfl v_ ?_)
        first | (refine aL_SN wn_ rfl ?_) | (refine aL_SY (wantedA_yes rfl rfl v_ (by rfl)) rfl v_ ?_)
        first | (refine aL_SN wn_ rfl ?_) | (refine aL_SY (wantedA_yes rfl rfl v_ (by rfl)) rfl v_ ?_)
        first | (refine aL_SN wn_ rfl ?_) | (refine aL_SY (wantedA_yes rfl rfl v_ (by rfl)) rfl v_ ?_)
        first | (refine aL_SN wn_ rfl ?_) | (refine aL_SY (wantedA_yes rfl rfl v_ (by rfl)) rfl v_ ?_)
        first | (refine aL_SN wn_ rfl ?_) | (refine aL_SY (wantedA_yes rfl rfl v_ (by rfl)) rfl v_ ?_)
        first | (refine aL_SN wn_ rfl ?_) | (refine aL_SY (wantedA_yes rfl rfl v_ (by rfl)) rfl v_ ?_)
        first | (refine aL_SN wn_ rfl ?_) | (refine aL_SY (wantedA_yes rfl rfl v_ (by rfl)) rfl v_ ?_)
        first | (refine aL_SN wn_ rfl ?_) | (refine aL_SY (wantedA_yes rfl rfl v_ (by rfl)) rfl v_ ?_)
        first | (refine aL_SN wn_ rfl ?_) | (refine aL_SY (wantedA_yes rfl rfl v_ (by rfl)) rfl v_ ?_)
        first | (refine aL_SN wn_ rfl ?_) | (refine aL_SY (wantedA_yes rfl rfl v_ (by rfl)) rfl v_ ?_)
        first | (refine aL_SN wn_ rfl ?_) | (refine aL_SY (wantedA_yes rfl rfl v_ (by rfl)) rfl v_ ?_)
        first | (refine aL_SN wn_ rfl ?_) | (refine aL_SY (wantedA_yes rfl rfl v_ (by rfl)) rfl v_ ?_)
        first | (refine aL_SN wn_ rfl ?_) | (refine aL_SY (wantedA_yes rfl rfl v_ (by rfl)) rfl v_ ?_)
        first | (refine aL_SN wn_ rfl ?_) | (refine aL_SY (wantedA_yes rfl rfl v_ (by rfl)) rfl v_ ?_)
        first | (refine aL_SN wn_ rfl ?_) | (refine aL_SY (wantedA_yes rfl rfl v_ (by rfl)) rfl v_ ?_)
        first | (refine aL_SN wn_ rfl ?_) | (refine aL_SY (wantedA_yes rfl rfl v_ (by rfl)) rfl v_ ?_)
        first | (refine aL_SN wn_ rfl ?_) | (refine aL_SY (wantedA_yes rfl rfl v_ (by rfl)) rfl v_ ?_)
        first | (refine aL_SN wn_ rfl ?_) | (refine aL_SY (wantedA_yes rfl rfl v_ (by rfl)) rfl v_ ?_)
        first | (refine aL_SN wn_ rfl ?_) | (refine aL_SY (wantedA_yes rfl rfl v_ (by rfl)) rfl v_ ?_)
        (refine aL_S rfl rfl v_ ?_)
        refine aL_nil ?_
        refine awp_cond v_ (fun hc4 => ?_) (fun hc4 => ?_)
        · replace hc4 := nm_ hc4
          simp at hc4
        · replace hc4 := nm_ hc4
          refine awp_skip ?_
          refine ⟨(), ?_, ?_, ?_⟩
          · trivial
          · exact cv_
          · (try dsimp only); rw [Store.set_set]; exact Store.Wk.refl _
    · rintro _ -
      simp only [envL_cons, envL_nil]
      refine awp_seq ?_
      refine awp_region (by kernel_rfl) ?_
      (refine aL_S rfl rfl v_ ?_)
      refine aL_X rfl rfl (AOp_use rfl rfl (.inr ⟨rfl, rfl, rfl⟩) g_ va_ (all_c (by omega) hs hk4) ?_); rintro _ _ ⟨rfl, rfl⟩
      (refine aL_S rfl rfl v_ ?_)
      refine aL_nil ?_
      obtain ⟨A, hA⟩ : ∃ A, allS l = A := ⟨_, rfl⟩
      have hAm : ∀ s, s ∈ A ↔ tenOk l s = true := fun s => by rw [← hA]; exact all_mem
      have hAr : RiseN A := by rw [← hA]; exact all_rise l
      rw [hA] at hal ⊢
      refine awp_seq ?_
      refine awp_region (by kernel_rfl) ?_
      (refine aL_S rfl rfl v_ ?_)
      refine aL_nil ?_
      refine awp_seq ?_
      refine awp_seq ?_
      refine awp_region (by kernel_rfl) ?_
      (refine aL_S rfl rfl v_ ?_)
      refine aL_nil ?_
      refine awp_block ?_
      refine awp_loop_env (ι := Nat) (fun i => A.length - i) (fun i => i ≤ A.length) (fun i => [(0, .sl 4 (l.map sEnt) t), (1, vStr a), (5, .ref o5 0), (7, .ref o7 0), (8, vB (tenOk l a)), (9, .sl 1 (A.map vStr) false), (10, vB ((A.take i).any fun s => decide (s = a))), (11, vInt i)]) (fun i => ((σ.set o5 (.cells (sEnt y).cells)).set o7 (.cells (sTen (tenS l a)).cells))) 0 ?_ ?_ ?_ ?_
      · exact Nat.zero_le _
      · exact cv_
      · exact Store.Wk.refl _
      rintro i hi
      simp only [envL_cons, envL_nil]
      refine awp_seq ?_
      refine awp_seq ?_
      refine awp_region (by kernel_rfl) ?_
      iterate 4 (refine aL_S rfl rfl v_ ?_)
      refine aL_nil ?_
      refine awp_cond v_ (fun hc9 => ?_) (fun hc9 => ?_)
      · replace hc9 := nm_ hc9
        refine awp_skip ?_
        refine awp_seq ?_
        refine awp_block ?_
        refine awp_seq ?_
        obtain ⟨x, hx⟩ := get_some (l := A) (k := i) (by omega)
        have hth : tenOk l x = true := (hAm x).1 (List.mem_of_getElem? hx)
        have hxz := name_size (by unfold tenOk at hth; simp only [Bool.and_eq_true] at hth; exact hth.1)
        obtain ⟨w, hw⟩ := get_if A ((i : Int) - 1).toNat
        have hlt : 0 < i → sLt w x = true := fun h0 => riseN_at hAr h0 (by have := hw (by omega); rwa [show ((i : Int) - 1).toNat = i - 1 by omega] at this) hx
        have hcv : (A.take (i + 1)).any (fun s => decide (s = a)) = ((A.take i).any (fun s => decide (s = a)) || decide (x = a)) := by rw [take_snoc hx, List.any_append]; simp
        have R := hx
        refine awp_region (by kernel_rfl) ?_
        iterate 2 (refine aL_S rfl rfl v_ ?_)
        refine aL_GF rfl rfl v_ rfl vg_ ?_
        refine aL_GF rfl rfl v_ rfl vg_ ?_
        refine aL_GF rfl rfl v_ rfl vg_ ?_
        refine aL_GF rfl rfl v_ rfl vg_ ?_
        refine aL_GF rfl rfl v_ rfl vg_ ?_
        refine aL_GF rfl rfl v_ rfl vg_ ?_
        iterate 2 (refine aL_S rfl rfl v_ ?_)
        refine aL_nil ?_
        refine awp_seq ?_
        have R := hx
        refine awp_region (by kernel_rfl) ?_
        iterate 5 (refine aL_S rfl rfl v_ ?_)
        refine aL_X rfl rfl (AOp_use rfl rfl (.inr ⟨rfl, rfl, rfl⟩) g_ va_ (of_c (by omega) hs (by omega)) ?_); rintro _ _ ⟨rfl, rfl⟩
        iterate 3 (refine aL_S rfl rfl v_ ?_)
        refine aL_alloc rfl rfl rfl g_ gl_ fun o12 ho12 => ?_
        repeat (rw [none_set_iff] at ho12; obtain ⟨_, ho12⟩ := ho12)
        refine aL_store rfl rfl rfl v_ v_ h_ g_ rfl g_ c_ (by rfl) le_ v_ ?_
        (refine aL_S rfl rfl v_ ?_)
        refine aL_nil ?_
        refine awp_seq ?_
        have R := And.intro hx hw
        refine awp_draw (.op 0 0 (.op 1 0 (.op 2 0 (.op 3 0 (.op 4 0 (.op 5 0 (.op 6 0 (.op 7 0 (.op 8 0 (.op 9 0 (.op 10 0 (.op 11 0 (.op 12 0 (.op 13 0 (.op 14 0 (.op 15 0 (.op 16 0 (.op 17 0 .nil)))))))))))))))))) Tryz.mixed (by kernel_rfl) ?_
        iterate 3 (refine dR_S o_ (by rfl) (by rfl) v_ ?_)
        refine dR_GF o_ (by rfl) (by rfl) v_ (by rfl) vg_ ?_
        refine dR_GF o_ (by rfl) (by rfl) v_ (by rfl) vg_ ?_
        refine dR_GF o_ (by rfl) (by rfl) v_ (by rfl) vg_ ?_
        refine dR_GGT o_ (by rfl) (by rfl) v_ (by rfl) vg_ ?_
        refine dR_GGT o_ (by rfl) (by rfl) v_ (by rfl) vg_ ?_
        refine dR_GGT o_ (by rfl) (by rfl) v_ (by rfl) vg_ ?_
        refine dR_GGT o_ (by rfl) (by rfl) v_ (by rfl) vg_ ?_
        refine dR_GGT o_ (by rfl) (by rfl) v_ (by rfl) vg_ ?_
        refine dR_GGT o_ (by rfl) (by rfl) v_ (by rfl) vg_ ?_
        refine dR_GGT o_ (by rfl) (by rfl) v_ (by rfl) vg_ ?_
        refine dR_GGT o_ (by rfl) (by rfl) v_ (by rfl) vg_ ?_
        refine dR_GGT o_ (by rfl) (by rfl) v_ (by rfl) vg_ ?_
        refine dR_GGT o_ (by rfl) (by rfl) v_ (by rfl) vg_ ?_
        refine dR_GF o_ (by rfl) (by rfl) v_ (by rfl) vg_ ?_
        (refine dR_S o_ (by rfl) (by rfl) v_ ?_)
        refine dR_nil ?_
        refine awp_cond v_ (fun hc13 => ?_) (fun hc13 => ?_)
        · replace hc13 := nm_ hc13
          rcases hc13 with h | ⟨h1, h2⟩; rw [hth] at h; cases h; have := hlt (by omega); rw [this] at h2; cases h2
        · replace hc13 := nm_ hc13
          refine awp_skip ?_
          refine awp_region (by kernel_rfl) ?_
          iterate 3 (refine aL_S rfl rfl v_ ?_)
          refine aL_nil ?_
          refine aNext (ι := Nat) (i := i) (i + 1) ?_ ?_ ?_ ?_
          · omega
          · exact (by omega)
          · have R := hcv; exact cv_
          · exact sub_
      · replace hc9 := nm_ hc9
        refine awp_exit ?_
        refine aThen_exit ?_
        refine aThen_exit ?_
        refine aBlock_hit ?_
        refine awp_seq ?_
        obtain rfl : i = A.length := by omega
        have his : (A.take A.length).any (fun s => decide (s = a)) = tenOk l a := by
          rw [List.take_length, Bool.eq_iff_iff, ← hAm, List.any_eq_true]
          exact ⟨fun ⟨s, h1, h2⟩ => by rw [← of_decide_eq_true h2]; exact h1, fun h => ⟨a, h, decide_eq_true rfl⟩⟩
        obtain ⟨b0, hb0⟩ : ∃ b0, (A.take A.length).any (fun s => decide (s = a)) = b0 := ⟨_, rfl⟩
        rw [hb0] at his ⊢
        refine awp_region (by kernel_rfl) ?_
        (refine aL_S rfl rfl v_ ?_)
        refine aL_X rfl rfl (AOp_use rfl rfl (.inr ⟨rfl, rfl, rfl⟩) g_ va_ (rKey_c (f := ⟨#[]⟩) (by omega) (by decide)) ?_); rintro _ _ ⟨rfl, rfl⟩
        (refine aL_S rfl rfl v_ ?_)
        refine aL_nil ?_
        refine awp_seq ?_
        refine awp_seq ?_
        refine awp_region (by kernel_rfl) ?_
        iterate 4 (refine aL_S rfl rfl v_ ?_)
        refine aL_GF rfl rfl v_ rfl vg_ ?_
        refine aL_GF rfl rfl v_ rfl vg_ ?_
        refine aL_GF rfl rfl v_ rfl vg_ ?_
        refine aL_GF rfl rfl v_ rfl vg_ ?_
        refine aL_GF rfl rfl v_ rfl vg_ ?_
        refine aL_GF rfl rfl v_ rfl vg_ ?_
        refine aL_GF rfl rfl v_ rfl vg_ ?_
        refine aL_GGT rfl rfl v_ rfl vg_ ?_
        refine aL_GGT rfl rfl v_ rfl vg_ ?_
        refine aL_GGT rfl rfl v_ rfl vg_ ?_
        refine aL_GGT rfl rfl v_ rfl vg_ ?_
        refine aL_GGT rfl rfl v_ rfl vg_ ?_
        refine aL_GGT rfl rfl v_ rfl vg_ ?_
        refine aL_GGT rfl rfl v_ rfl vg_ ?_
        refine aL_GF rfl rfl v_ rfl vg_ ?_
        iterate 2 (refine aL_S rfl rfl v_ ?_)
        refine aL_GF rfl rfl v_ rfl vg_ ?_
        refine aL_GFX rfl rfl v_ rfl (fun hb => AOp_useV (by rfl) (by rfl) (.inr ⟨by rfl, by rfl, by rfl⟩) g_ cg_ (rIs_c (by omega))) ?_
        refine aL_GF rfl rfl v_ rfl vg_ ?_
        (refine aL_S rfl rfl v_ ?_)
        refine aL_nil ?_
        refine awp_cond v_ (fun hc16 => ?_) (fun hc16 => ?_)
        · replace hc16 := nm_ hc16
          refine awp_seq ?_
          refine awp_region (by kernel_rfl) ?_
          iterate 4 (refine aL_S rfl rfl v_ ?_)
          refine aL_GTX rfl rfl v_ rfl (fun hb => AOp_useV (by rfl) (by rfl) (.inr ⟨by rfl, by rfl, by rfl⟩) g_ cg_ (awake23_c)) ?_
          iterate 2 (refine aL_S rfl rfl v_ ?_)
          refine aL_nil ?_
          refine awp_ret ?_
          refine aEnd_ret (σ' := σ) v_ sub_ ?_
          exact ⟨by rw [his]; simp, rfl⟩
        · replace hc16 := nm_ hc16
          obtain ⟨⟨q1, q2⟩, q3⟩ := hc16
          have hyo : ∀ f, y.key ≠ keyS a f := fun f => key_other fun ⟨h1, h2⟩ => by rcases q2 with h | h; omega; exact h h2
          obtain ⟨m, hm⟩ : ∃ m, (putE l y).1 = m := ⟨_, rfl⟩
          have hml := putE_len l y
          have hms : ∀ x ∈ m, EntSm x := fun x hx => by rw [← hm] at hx; rcases putE_mem x hx with rfl | h; exact hy; exact hs x h
          have hq : (decide ((putE l y).2 = 0) = true ∧ tenOk m a = tenOk l a ∧ tenS m a = tenS l a) ∨ (decide ((putE l y).2 = 0) = false ∧ tenOk m a = tenOk m a ∧ tenS m a = tenS m a) := by
            by_cases he : (putE l y).2 = 0
            · exact .inl ⟨decide_eq_true he, ten_get fun f => by rw [← hm]; exact putE_get he (hyo f)⟩
            · exact .inr ⟨decide_eq_false he, rfl, rfl⟩
          rw [hm] at hml
          refine awp_skip ?_
          refine awp_seq ?_
          refine awp_region (by kernel_rfl) ?_
          iterate 2 (refine aL_S rfl rfl v_ ?_)
          refine aL_X rfl rfl (AOp_use rfl rfl (.inr ⟨rfl, rfl, rfl⟩) g_ va_ (rPut_c (by omega) hs hy) ?_); rintro _ _ ⟨rfl, rfl⟩
          iterate 5 (refine aL_S rfl rfl v_ ?_)
          refine aL_nil ?_
          rw [hm]
          refine awp_seq ?_
          refine awp_region (by kernel_rfl) ?_
          iterate 2 (refine aL_S rfl rfl v_ ?_)
          refine aL_X rfl rfl (AOp_use rfl rfl (.inr ⟨rfl, rfl, rfl⟩) g_ va_ (of_c (by omega) hms (by omega)) ?_); rintro _ _ ⟨rfl, rfl⟩
          iterate 3 (refine aL_S rfl rfl v_ ?_)
          refine aL_alloc rfl rfl rfl g_ gl_ fun o17 ho17 => ?_
          repeat (rw [none_set_iff] at ho17; obtain ⟨_, ho17⟩ := ho17)
          refine aL_store rfl rfl rfl v_ v_ h_ g_ rfl g_ c_ (by rfl) le_ v_ ?_
          (refine aL_S rfl rfl v_ ?_)
          refine aL_nil ?_
          refine awp_seq ?_
          rcases hq with ⟨he, g1, g2⟩ | ⟨he, g1, g2⟩
          · have R := And.intro he (And.intro g1 g2)
            refine awp_region (by kernel_rfl) ?_
            iterate 3 (refine aL_S rfl rfl v_ ?_)
            first | (refine aL_SN wn_ rfl ?_) | (refine aL_SY (wantedA_yes rfl rfl v_ (by rfl)) rfl v_ ?_)
            first | (refine aL_SN wn_ rfl ?_) | (refine aL_SY (wantedA_yes rfl rfl v_ (by rfl)) rfl v_ ?_)
            first | (refine aL_SN wn_ rfl ?_) | (refine aL_SY (wantedA_yes rfl rfl v_ (by rfl)) rfl v_ ?_)
            first | (refine aL_SN wn_ rfl ?_) | (refine aL_SY (wantedA_yes rfl rfl v_ (by rfl)) rfl v_ ?_)
            first | (refine aL_SN wn_ rfl ?_) | (refine aL_SY (wantedA_yes rfl rfl v_ (by rfl)) rfl v_ ?_)
            first | (refine aL_SN wn_ rfl ?_) | (refine aL_SY (wantedA_yes rfl rfl v_ (by rfl)) rfl v_ ?_)
            first | (refine aL_SN wn_ rfl ?_) | (refine aL_SY (wantedA_yes rfl rfl v_ (by rfl)) rfl v_ ?_)
            first | (refine aL_SN wn_ rfl ?_) | (refine aL_SY (wantedA_yes rfl rfl v_ (by rfl)) rfl v_ ?_)
            iterate 2 (refine aL_S rfl rfl v_ ?_)
            first | (refine aL_SN wn_ rfl ?_) | (refine aL_XY (wantedA_yes rfl rfl v_ (by rfl)) rfl (AOp_use rfl rfl (.inr ⟨rfl, rfl, rfl⟩) g_ va_ (awake23_c) ?_); rintro _ _ ⟨rfl, rfl⟩)
            iterate 2 (refine aL_S rfl rfl v_ ?_)
            refine aL_nil ?_
            refine awp_ret ?_
            refine aEnd_ret (σ' := σ) v_ sub_ ?_
            exact ⟨rfl, rfl⟩
          · have R := And.intro he (And.intro g1 g2)
            refine awp_region (by kernel_rfl) ?_
            iterate 3 (refine aL_S rfl rfl v_ ?_)
            first | (refine aL_SN wn_ rfl ?_) | (refine aL_SY (wantedA_yes rfl rfl v_ (by rfl)) rfl v_ ?_)
            first | (refine aL_SN wn_ rfl ?_) | (refine aL_SY (wantedA_yes rfl rfl v_ (by rfl)) rfl v_ ?_)
            first | (refine aL_SN wn_ rfl ?_) | (refine aL_SY (wantedA_yes rfl rfl v_ (by rfl)) rfl v_ ?_)
            first | (refine aL_SN wn_ rfl ?_) | (refine aL_SY (wantedA_yes rfl rfl v_ (by rfl)) rfl v_ ?_)
            first | (refine aL_SN wn_ rfl ?_) | (refine aL_SY (wantedA_yes rfl rfl v_ (by rfl)) rfl v_ ?_)
            first | (refine aL_SN wn_ rfl ?_) | (refine aL_SY (wantedA_yes rfl rfl v_ (by rfl)) rfl v_ ?_)
            first | (refine aL_SN wn_ rfl ?_) | (refine aL_SY (wantedA_yes rfl rfl v_ (by rfl)) rfl v_ ?_)
            first | (refine aL_SN wn_ rfl ?_) | (refine aL_SY (wantedA_yes rfl rfl v_ (by rfl)) rfl v_ ?_)
            iterate 2 (refine aL_S rfl rfl v_ ?_)
            first | (refine aL_SN wn_ rfl ?_) | (refine aL_XY (wantedA_yes rfl rfl v_ (by rfl)) rfl (AOp_use rfl rfl (.inr ⟨rfl, rfl, rfl⟩) g_ va_ (awake23_c) ?_); rintro _ _ ⟨rfl, rfl⟩)
            iterate 2 (refine aL_S rfl rfl v_ ?_)
            refine aL_nil ?_
            refine awp_ret ?_
            refine aEnd_ret (σ' := σ) v_ sub_ ?_
            exact ⟨rfl, rfl⟩
end Go.Proofs.YtbomkkjhafdhiaaGreatDoor
end
