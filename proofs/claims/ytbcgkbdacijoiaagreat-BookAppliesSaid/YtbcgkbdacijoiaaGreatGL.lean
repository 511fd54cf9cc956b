/-
  Replay of books, both sides; A book's bytes; What must come, whatever the arguments are: books; BookRecords, BookApplies, BookBack; BookBack; BookTorn. Own work (an AI agent).
-/
import Derived.Test.YtbcgkbdacijoiaaGreatGK
import Derived.Test.YtbcgkbdacijoiaaGreatGG
import Derived.Test.YtbcgkbdacijoiaaGreatGF

section
set_option linter.all false
set_option maxRecDepth 100000
namespace Go.Proofs.YtbcgkbdacijoiaaGreat
open Go.Ab
/-- a book of so many things -/
structure BkN (n : Nat) (b : Bk) : Prop where
  items : ∀ x ∈ b.items, ItemSm x
  mints : ∀ x ∈ b.mints, x.place.size ≤ 1000000
  ni : b.items.length ≤ n
  nm : b.mints.length ≤ n
theorem BkN.sm {n : Nat} {b : Bk} (h : BkN n b) (hn : n ≤ 100000) : BkSm b := ⟨h.items, h.mints, Nat.le_trans h.ni hn, Nat.le_trans h.nm hn⟩
theorem BkN.apl {n : Nat} {b : Bk} {r : List UInt8} (h : BkN n b) (ho : ObjSm (rdObj (hdX r)).1) : BkN (n + 1) (apl b r).1 := by
  have h1 := h.ni; have h2 := h.nm
  have hb : BkN (n + 1) b := ⟨h.items, h.mints, by omega, by omega⟩
  unfold Go.Proofs.YtbcgkbdacijoiaaGreat.apl
  split
  · rename_i hp
    have hs := placeOk_size hp
    split
    · refine ⟨fun x hx => ?_, h.mints, Nat.le_trans insK_len (by omega), by show b.mints.length ≤ n + 1; omega⟩
      rcases insK_mem hx with rfl | hx
      · exact ⟨by show (hdP r).size ≤ 1000000; omega, ho⟩
      · exact h.items x hx
    · split
      · exact ⟨fun x hx => h.items x ((List.mem_filter.1 hx).1), h.mints, Nat.le_trans (List.length_filter_le ..) (by omega), by show b.mints.length ≤ n + 1; omega⟩
      · split
        · refine ⟨h.items, fun x hx => ?_, by show b.items.length ≤ n + 1; omega, Nat.le_trans insK_len (by omega)⟩
          rcases insK_mem hx with rfl | hx
          · show (hdP r).size ≤ 1000000; omega
          · exact h.mints x hx
        · exact hb
  · exact hb
theorem bkN0 (n : Nat) : BkN n bk0 := ⟨fun x hx => absurd hx List.not_mem_nil, fun x hx => absurd hx List.not_mem_nil, Nat.zero_le _, Nat.zero_le _⟩
theorem BkN.le {n m : Nat} {b : Bk} (h : BkN n b) (hn : n ≤ m) : BkN m b := ⟨h.items, h.mints, Nat.le_trans h.ni hn, Nat.le_trans h.nm hn⟩
theorem bk0_ok : bkOk bk0 = true := rfl
theorem rpl_at {l : List (List UInt8)} {k : Nat} {b : Bk} (h : Runs bk0 (l.take k) b) : rpl bk0 l = ((rpl b (l.drop k)).1, (allF (l.take k)).length + (rpl b (l.drop k)).2) := by
  have := rpl_app (m := l.drop k) h
  rwa [List.take_append_drop] at this
theorem runs_next {l : List (List UInt8)} {k : Nat} {b : Bk} {r : List UInt8} (h : Runs bk0 (l.take k) b) (hr : l[k]? = some r) (hok : (apl b r).2 = true) : Runs bk0 (l.take (k + 1)) (apl b r).1 := by
  rw [take_snoc hr]; exact h.snoc hok
set_option maxHeartbeats 2000000 in
theorem replay_c {s : List UInt8} {σ : Store} (hs : s.length ≤ 100000000) (hn : (scanF s).length ≤ 10000) (ho : ∀ r ∈ scanF s, ObjSm (rdObj (hdX r)).1) : ACalls Tryz.prog 39 [vStr (B s)] σ fun v σ' => v = .tup [sBk (rpl bk0 (scanF s)).1, vInt (rpl bk0 (scanF s)).2] ∧ σ = σ' := by
  obtain ⟨l, hl⟩ : ∃ l, scanF s = l := ⟨_, rfl⟩
  obtain ⟨u, hu, _⟩ := scanF_len s
  have hal : (allF l).length ≤ s.length := by rw [hl] at hu; rw [hu, List.length_append]; omega
  rw [hl] at hn ho
  have hle := allF_le l
  refine ACalls_of Tryz.func39 rfl Tryz.ntmps39 (congrArg Array.toList Tryz.results39) (by simp only [List.length_cons, List.length_nil]; decide) ?_; simp only [envOf_cons, envOf_nil, Nat.reduceAdd]
  refine awp_seq ?_
  refine awp_region (by kernel_rfl) ?_
  refine aL_alloc rfl rfl rfl g_ gl_ fun o2 ho2 => ?_
  repeat (rw [none_set_iff] at ho2; obtain ⟨_, ho2⟩ := ho2)
  (refine aL_S rfl rfl v_ ?_)
  refine aL_nil ?_
  refine awp_seq ?_
  refine awp_region (by kernel_rfl) ?_
  refine aL_alloc rfl rfl rfl g_ gl_ fun o4 ho4 => ?_
  repeat (rw [none_set_iff] at ho4; obtain ⟨_, ho4⟩ := ho4)
  refine aL_nil ?_
  refine awp_seq ?_
  refine awp_region (by kernel_rfl) ?_
  (refine aL_S rfl rfl v_ ?_)
  refine aL_nil ?_
  refine awp_seq ?_
  refine awp_region (by kernel_rfl) ?_
  (refine aL_S rfl rfl v_ ?_)
  refine aL_X rfl rfl (AOp_use rfl rfl (.inr ⟨rfl, rfl, rfl⟩) g_ va_ (scan_c hs) ?_); rintro _ _ ⟨rfl, rfl⟩
  rw [hl]
  iterate 5 (refine aL_S rfl rfl v_ ?_)
  refine aL_nil ?_
  refine awp_seq ?_
  refine awp_seq ?_
  refine awp_region (by kernel_rfl) ?_
  iterate 3 (refine aL_S rfl rfl v_ ?_)
  refine aL_nil ?_
  refine awp_wkCells o4 (cs := [vNil, vNil]) (sBk bk0).cells h_ ⟨.nil _ _, .nil _ _, trivial⟩ ?_
  refine awp_block ?_
  refine awp_loop_env (ι := Nat × Bk) (fun ⟨k, b⟩ => l.length - k) (fun ⟨k, b⟩ => k ≤ l.length ∧ Runs bk0 (l.take k) b ∧ BkN k b) (fun ⟨k, b⟩ => [(2, .ref o2 0), (4, .ref o4 0), (5, vInt (allF (l.take k)).length), (17, .sl 1 (vBs l) false), (18, vInt l.length), (19, vInt k)]) (fun ⟨k, b⟩ => ((σ.set o2 (.cells [vNil, vNil])).set o4 (.cells (sBk b).cells))) (0, bk0) ?_ ?_ ?_ ?_
  · exact ⟨Nat.zero_le _, rfl, bkN0 0⟩
  · exact cv_
  · (try dsimp only); simp only [Store.set_set]; exact Store.Wk.refl _
  rintro ⟨k, b⟩ ⟨hk, hR, hN⟩
  simp only [envL_cons, envL_nil]
  refine awp_seq ?_
  refine awp_region (by kernel_rfl) ?_
  (refine aL_S rfl rfl v_ ?_)
  refine aL_nil ?_
  refine awp_seq ?_
  refine awp_cond v_ (fun hc5 => ?_) (fun hc5 => ?_)
  · replace hc5 := nm_ hc5
    refine awp_skip ?_
    refine awp_seq ?_
    refine awp_block ?_
    refine awp_seq ?_
    obtain ⟨r, hr⟩ := get_some (l := l) (k := k) (by omega)
    have hor := ho r (List.mem_of_getElem? hr)
    have hb := hR.ok bk0_ok
    have hBr := B_size r
    have hk2 := hle (k + 1)
    have R := hr
    refine awp_region (by kernel_rfl) ?_
    iterate 3 (refine aL_S rfl rfl v_ ?_)
    refine aL_nil ?_
    refine awp_seq ?_
    refine awp_region (by kernel_rfl) ?_
    iterate 2 (refine aL_S rfl rfl v_ ?_)
    refine aL_X rfl rfl (AOp_use rfl rfl (.inr ⟨rfl, rfl, rfl⟩) g_ va_ (apply_c hb (hN.sm (by omega)) hor) ?_); rintro _ _ ⟨rfl, rfl⟩
    iterate 3 (refine aL_S rfl rfl v_ ?_)
    refine aL_alloc rfl rfl rfl g_ gl_ fun o10 ho10 => ?_
    repeat (rw [none_set_iff] at ho10; obtain ⟨_, ho10⟩ := ho10)
    refine aL_store rfl rfl rfl v_ v_ h_ g_ rfl g_ c_ (by rfl) le_ v_ ?_
    (refine aL_S rfl rfl v_ ?_)
    refine aL_nil ?_
    refine awp_seq ?_
    refine awp_seq ?_
    refine awp_region (by kernel_rfl) ?_
    iterate 2 (refine aL_S rfl rfl v_ ?_)
    refine aL_nil ?_
    refine awp_cond v_ (fun hc8 => ?_) (fun hc8 => ?_)
    · replace hc8 := nm_ hc8
      have hrest : rpl b (l.drop k) = (b, 0) := by rw [drop_cons hr, rpl, if_neg (by simpa using hc8)]
      refine awp_exit ?_
      refine aThen_exit ?_
      refine aBlock_miss (by decide) ?_
      refine aThen_exit ?_
      refine aThen_exit ?_
      refine aBlock_hit ?_
      refine awp_seq ?_
      refine awp_region (by kernel_rfl) ?_
      iterate 2 (refine aL_S rfl rfl v_ ?_)
      refine aL_store rfl rfl rfl v_ v_ h_ g_ rfl g_ c_ (by rfl) le_ v_ ?_
      (refine aL_S rfl rfl v_ ?_)
      refine aL_nil ?_
      refine awp_ret ?_
      refine aEnd_ret (σ' := σ) v_ sub_ ?_
      exact ⟨by rw [rpl_at hR, show rpl b (l.drop k) = (b, 0) from by first | exact hrest | (rw [List.drop_eq_nil_of_le (by omega)]; rfl), Nat.add_zero], rfl⟩
    · replace hc8 := nm_ hc8
      have hok : (apl b r).2 = true := by simpa using hc8
      have hcv : (((allF (l.take (k + 1))).length : Nat) : Int) = (allF (l.take k)).length + (8 + (r.length : Int)) := by rw [allF_take hr, List.length_append, putF_len]; omega
      refine awp_skip ?_
      refine awp_seq ?_
      refine awp_region (by kernel_rfl) ?_
      (refine aL_S rfl rfl v_ ?_)
      refine aL_store rfl rfl rfl v_ v_ h_ g_ rfl g_ c_ (by rfl) le_ v_ ?_
      refine aL_nil ?_
      have R := hBr
      refine awp_region (by kernel_rfl) ?_
      iterate 6 (refine aL_S rfl rfl v_ ?_)
      refine aL_nil ?_
      refine awp_region (by kernel_rfl) ?_
      iterate 2 (refine aL_S rfl rfl v_ ?_)
      refine aL_nil ?_
      refine aNext (ι := Nat × Bk) (i := ⟨k, b⟩) (k + 1, (apl b r).1) ?_ ?_ ?_ ?_
      · show l.length - (k + 1) < l.length - k; omega
      · exact ⟨by show k + 1 ≤ l.length; omega, runs_next hR hr hok, hN.apl hor⟩
      · have R := hcv; exact cv_
      · exact sub_
  · replace hc5 := nm_ hc5
    refine awp_exit ?_
    refine aThen_exit ?_
    refine aThen_exit ?_
    refine aBlock_hit ?_
    refine awp_seq ?_
    refine awp_region (by kernel_rfl) ?_
    iterate 2 (refine aL_S rfl rfl v_ ?_)
    refine aL_store rfl rfl rfl v_ v_ h_ g_ rfl g_ c_ (by rfl) le_ v_ ?_
    (refine aL_S rfl rfl v_ ?_)
    refine aL_nil ?_
    refine awp_ret ?_
    refine aEnd_ret (σ' := σ) v_ sub_ ?_
    exact ⟨by rw [rpl_at hR, show rpl b (l.drop k) = (b, 0) from by first | exact hrest | (rw [List.drop_eq_nil_of_le (by omega)]; rfl), Nat.add_zero], rfl⟩
set_option maxHeartbeats 2000000 in
theorem rReplay27_c {s : List UInt8} {σ : Store} (hs : s.length ≤ 100000000) (hn : (scanF s).length ≤ 10000) (ho : ∀ r ∈ scanF s, ObjSm (rdObj (hdX r)).1) : ACalls Tryz.prog 40 [vStr (B s)] σ fun v σ' => v = .tup [sBk (rpl bk0 (scanF s)).1, vInt (rpl bk0 (scanF s)).2] ∧ σ = σ' := by
  obtain ⟨l, hl⟩ : ∃ l, scanF s = l := ⟨_, rfl⟩
  obtain ⟨u, hu, _⟩ := scanF_len s
  have hal : (allF l).length ≤ s.length := by rw [hl] at hu; rw [hu, List.length_append]; omega
  rw [hl] at hn ho
  have hle := allF_le l
  refine ACalls_of Tryz.func40 rfl Tryz.ntmps40 (congrArg Array.toList Tryz.results40) (by simp only [List.length_cons, List.length_nil]; decide) ?_; simp only [envOf_cons, envOf_nil, Nat.reduceAdd]
  refine awp_seq ?_
  refine awp_region (by kernel_rfl) ?_
  refine aL_alloc rfl rfl rfl g_ gl_ fun o2 ho2 => ?_
  repeat (rw [none_set_iff] at ho2; obtain ⟨_, ho2⟩ := ho2)
  (refine aL_S rfl rfl v_ ?_)
  refine aL_nil ?_
  refine awp_seq ?_
  refine awp_region (by kernel_rfl) ?_
  (refine aL_S rfl rfl v_ ?_)
  refine aL_X rfl rfl (AOp_use rfl rfl (.inr ⟨rfl, rfl, rfl⟩) g_ va_ (rScan26_c hs) ?_); rintro _ _ ⟨rfl, rfl⟩
  rw [hl]
  iterate 5 (refine aL_S rfl rfl v_ ?_)
  refine aL_nil ?_
  refine awp_seq ?_
  refine awp_region (by kernel_rfl) ?_
  (refine aL_S rfl rfl v_ ?_)
  refine aL_alloc rfl rfl rfl g_ gl_ fun o6 ho6 => ?_
  repeat (rw [none_set_iff] at ho6; obtain ⟨_, ho6⟩ := ho6)
  refine aL_store rfl rfl rfl v_ v_ h_ g_ rfl g_ c_ (by rfl) le_ v_ ?_
  refine aL_nil ?_
  refine awp_seq ?_
  refine awp_region (by kernel_rfl) ?_
  (refine aL_S rfl rfl v_ ?_)
  refine aL_nil ?_
  refine awp_seq ?_
  refine awp_seq ?_
  refine awp_region (by kernel_rfl) ?_
  (refine aL_S rfl rfl v_ ?_)
  refine aL_nil ?_
  refine awp_wkCells o6 (cs := [vNil, vNil]) (sBk bk0).cells h_ ⟨.nil _ _, .nil _ _, trivial⟩ ?_
  refine awp_block ?_
  refine awp_loop_env (ι := Nat × Bk) (fun ⟨k, b⟩ => l.length - k) (fun ⟨k, b⟩ => k ≤ l.length ∧ Runs bk0 (l.take k) b ∧ BkN k b) (fun ⟨k, b⟩ => [(2, .ref o2 0), (4, .sl 1 (vBs l) false), (6, .ref o6 0), (7, vInt (allF (l.take k)).length), (8, vInt k)]) (fun ⟨k, b⟩ => ((σ.set o2 (.cells [vNil, vNil])).set o6 (.cells (sBk b).cells))) (0, bk0) ?_ ?_ ?_ ?_
  · exact ⟨Nat.zero_le _, rfl, bkN0 0⟩
  · exact cv_
  · (try dsimp only); simp only [Store.set_set]; exact Store.Wk.refl _
  rintro ⟨k, b⟩ ⟨hk, hR, hN⟩
  simp only [envL_cons, envL_nil]
  refine awp_seq ?_
  refine awp_seq ?_
  refine awp_region (by kernel_rfl) ?_
  iterate 4 (refine aL_S rfl rfl v_ ?_)
  refine aL_nil ?_
  refine awp_cond v_ (fun hc5 => ?_) (fun hc5 => ?_)
  · replace hc5 := nm_ hc5
    obtain ⟨r, hr⟩ := get_some (l := l) (k := k) (by omega)
    have hor := ho r (List.mem_of_getElem? hr)
    have hb := hR.ok bk0_ok
    have hBr := B_size r
    have hk2 := hle (k + 1)
    have hrl : r.length ≤ 1000000000 := by rw [allF_take hr, List.length_append, putF_len] at hk2; omega
    refine awp_skip ?_
    refine awp_seq ?_
    refine awp_block ?_
    refine awp_seq_mid (ι := Nat) (fun p9 => p9 ≠ o2 ∧ p9 ≠ o6 ∧ σ.heap p9 = none) (fun p9 => [(2, .ref o2 0), (4, .sl 1 (vBs l) false), (6, .ref o6 0), (7, vInt (allF (l.take k)).length), (8, vInt k), (9, .ref p9 0), (10, vInt (apS b r).2)]) (fun p9 => (((σ.set o2 (.cells [vNil, vNil])).set o6 (.cells (sBk b).cells)).set p9 (.cells (sBk (apS b r).1).cells))) ?_ ?_
    · have R := hr
      refine awp_draw (.op 0 0 (.op 1 0 (.op 2 0 (.op 3 0 (.op 4 0 (.alt 5 1 (.op 6 0 (.op 7 0 (.op 8 0 (.op 9 1 (.op 10 2 (.op 11 0 .nil)))))) (.op 9 1 (.op 5 1 (.op 6 0 (.op 7 0 (.op 8 0 (.op 10 2 (.op 11 0 .nil))))))))))))) Tryz.mixed (by kernel_rfl) ?_
      iterate 5 (refine dR_S o_ (by rfl) (by rfl) v_ ?_)
      refine dR_alt ?_ ?_
      · refine dR_X o_ (by rfl) (by rfl) (AOp_use (by rfl) (by rfl) (.inr ⟨by rfl, by rfl, by rfl⟩) g_ va_ (rApply27_c (hN.sm (by omega)) hrl hor) ?_); rintro _ _ ⟨rfl, rfl⟩; refine ⟨sub_, ?_⟩
        iterate 3 (refine dR_S o_ (by rfl) (by rfl) v_ ?_)
        refine dR_alloc o_ (by rfl) (by rfl) (by rfl) g_ gl_ sub_ fun o9 ho9 => ?_
        repeat (rw [none_set_iff] at ho9; obtain ⟨_, ho9⟩ := ho9)
        refine dR_store o_ (by rfl) (by rfl) (by rfl) v_ v_ h_ g_ rfl g_ c_ (by rfl) le_ v_ ?_
        (refine dR_S o_ (by rfl) (by rfl) v_ ?_)
        refine dR_nil ?_
        refine ⟨o9, ?_, ?_, ?_⟩
        · exact ⟨by assumption, by assumption, ho9⟩
        · exact cv_
        · (try dsimp only); (try rw [Store.set_set]); exact sub_
      refine dR_alloc o_ (by rfl) (by rfl) (by rfl) g_ gl_ sub_ fun o9 ho9 => ?_
      repeat (rw [none_set_iff] at ho9; obtain ⟨_, ho9⟩ := ho9)
      refine dR_X o_ (by rfl) (by rfl) (AOp_use (by rfl) (by rfl) (.inr ⟨by rfl, by rfl, by rfl⟩) g_ va_ (rApply27_c (hN.sm (by omega)) hrl hor) ?_); rintro _ _ ⟨rfl, rfl⟩; refine ⟨sub_, ?_⟩
      iterate 3 (refine dR_S o_ (by rfl) (by rfl) v_ ?_)
      refine dR_store o_ (by rfl) (by rfl) (by rfl) v_ v_ h_ g_ rfl g_ c_ (by rfl) le_ v_ ?_
      (refine dR_S o_ (by rfl) (by rfl) v_ ?_)
      refine dR_nil ?_
      refine ⟨o9, ?_, ?_, ?_⟩
      · exact ⟨by assumption, by assumption, ho9⟩
      · exact cv_
      · (try dsimp only); (try rw [Store.set_set]); exact sub_
    · rintro p9 ⟨n92, n96, h9⟩
      simp only [envL_cons, envL_nil]
      refine awp_seq ?_
      refine awp_seq ?_
      refine awp_region (by kernel_rfl) ?_
      iterate 2 (refine aL_S rfl rfl v_ ?_)
      refine aL_nil ?_
      refine awp_cond v_ (fun hc8 => ?_) (fun hc8 => ?_)
      · replace hc8 := nm_ hc8
        skip
        have hrest : rpl b (l.drop k) = (b, 0) := by
          rw [drop_cons hr, rpl, if_neg]
          intro h
          rw [apS, hb, h] at hc8; simp at hc8
        refine awp_seq ?_
        refine awp_region (by kernel_rfl) ?_
        iterate 2 (refine aL_S rfl rfl v_ ?_)
        refine aL_store rfl rfl rfl v_ v_ h_ g_ rfl g_ c_ (by rfl) le_ v_ ?_
        (refine aL_S rfl rfl v_ ?_)
        refine aL_nil ?_
        refine awp_ret ?_
        refine aEnd_ret (σ' := σ) v_ sub_ ?_
        exact ⟨by rw [rpl_at hR, show rpl b (l.drop k) = (b, 0) from by first | exact hrest | (rw [List.drop_eq_nil_of_le (by omega)]; rfl), Nat.add_zero], rfl⟩
      · replace hc8 := nm_ hc8
        skip
        have hok : (apl b r).2 = true := by
          cases h : (apl b r).2 with
          | true => rfl
          | false => rw [apS, hb, h] at hc8; simp at hc8
        have hap : apS b r = ((apl b r).1, 0) := by rw [apS, hb, hok]; rfl
        have hap1 : (apS b r).1 = (apl b r).1 := by rw [hap]
        have hcv : (((allF (l.take (k + 1))).length : Nat) : Int) = (allF (l.take k)).length + 8 + (r.length : Int) := by rw [allF_take hr, List.length_append, putF_len]; omega
        refine awp_skip ?_
        refine awp_seq ?_
        have R := hap1
        refine awp_region (by kernel_rfl) ?_
        (refine aL_S rfl rfl v_ ?_)
        refine aL_store rfl rfl rfl v_ v_ h_ g_ rfl g_ c_ (by rfl) le_ v_ ?_
        refine aL_nil ?_
        have R := And.intro hr hBr
        refine awp_region (by kernel_rfl) ?_
        iterate 9 (refine aL_S rfl rfl v_ ?_)
        refine aL_nil ?_
        refine awp_region (by kernel_rfl) ?_
        iterate 3 (refine aL_S rfl rfl v_ ?_)
        refine aL_nil ?_
        refine aNext (ι := Nat × Bk) (i := ⟨k, b⟩) (k + 1, (apl b r).1) ?_ ?_ ?_ ?_
        · show l.length - (k + 1) < l.length - k; omega
        · exact ⟨by show k + 1 ≤ l.length; omega, runs_next hR hr hok, hN.apl hor⟩
        · have R := hcv; exact cv_
        · exact sub_
  · replace hc5 := nm_ hc5
    refine awp_exit ?_
    refine aThen_exit ?_
    refine aThen_exit ?_
    refine aBlock_hit ?_
    refine awp_seq ?_
    refine awp_region (by kernel_rfl) ?_
    iterate 2 (refine aL_S rfl rfl v_ ?_)
    refine aL_store rfl rfl rfl v_ v_ h_ g_ rfl g_ c_ (by rfl) le_ v_ ?_
    (refine aL_S rfl rfl v_ ?_)
    refine aL_nil ?_
    refine awp_ret ?_
    refine aEnd_ret (σ' := σ) v_ sub_ ?_
    exact ⟨by rw [rpl_at hR, show rpl b (l.drop k) = (b, 0) from by first | exact hrest | (rw [List.drop_eq_nil_of_le (by omega)]; rfl), Nat.add_zero], rfl⟩
end Go.Proofs.YtbcgkbdacijoiaaGreat
end

section
set_option linter.all false
set_option maxRecDepth 100000
namespace Go.Proofs.YtbcgkbdacijoiaaGreat
open Go.Ab
def bytS (b : Bk) : List UInt8 × Int := if bkOk b then (bytesK b, 0) else ([], 1)
theorem vBs_snoc {α : Type} {f : α → List UInt8} {A : List (List UInt8)} {l : List α} {k : Nat} {x : α} (h : l[k]? = some x) : vBs (A ++ (l.take (k + 1)).map f) = vBs (A ++ (l.take k).map f) ++ [vStr (B (f x))] := by
  rw [take_snoc h]; simp [vBs]
theorem vBs_len (l : List (List UInt8)) : (vBs l).length = l.length := by simp [vBs]
set_option maxHeartbeats 2000000 in
theorem bytes_c {b : Bk} {σ : Store} (hs : BkSm b) (hT : (bytesK b).length ≤ 100000000) : ACalls Tryz.prog 43 [sBk b] σ fun v σ' => v = .tup [vStr (B (bytS b).1), vInt (bytS b).2] ∧ σ = σ' := by
  have ni := hs.ni; have nm := hs.nm
  refine ACalls_of Tryz.func43 rfl Tryz.ntmps43 (congrArg Array.toList Tryz.results43) (by simp only [List.length_cons, List.length_nil]; decide) ?_; simp only [envOf_cons, envOf_nil, Nat.reduceAdd]
  refine awp_seq ?_
  refine awp_region (by kernel_rfl) ?_
  refine aL_box rfl rfl rfl v_ rfl g_ fun o1 ho1 => ?_
  repeat (rw [none_set_iff] at ho1; obtain ⟨_, ho1⟩ := ho1)
  iterate 2 (refine aL_S rfl rfl v_ ?_)
  refine aL_nil ?_
  refine awp_seq ?_
  refine awp_seq ?_
  refine awp_region (by kernel_rfl) ?_
  (refine aL_S rfl rfl v_ ?_)
  refine aL_X rfl rfl (AOp_use rfl rfl (.inr ⟨rfl, rfl, rfl⟩) g_ va_ (bkCheck_c hs) ?_); rintro _ _ ⟨rfl, rfl⟩
  (refine aL_S rfl rfl v_ ?_)
  refine aL_nil ?_
  refine awp_cond v_ (fun hc1 => ?_) (fun hc1 => ?_)
  · replace hc1 := nm_ hc1
    refine awp_seq ?_
    refine awp_region (by kernel_rfl) ?_
    iterate 2 (refine aL_S rfl rfl v_ ?_)
    refine aL_nil ?_
    refine awp_ret ?_
    refine aEnd_ret (σ' := σ) v_ sub_ ?_
    exact ⟨by rw [show bytS b = ([], 1) from by rw [bytS, if_neg]; intro h; rw [h] at hc1; simp at hc1]; rfl, rfl⟩
  · replace hc1 := nm_ hc1
    skip
    have hb : bkOk b = true := by cases h : bkOk b with | true => rfl | false => rw [h] at hc1; simp at hc1
    obtain ⟨⟨ri, ci⟩, rm, cm⟩ := bkOk_iff.1 hb
    refine awp_skip ?_
    refine awp_seq ?_
    refine awp_region (by kernel_rfl) ?_
    refine aL_nilOwn 9 1 rfl rfl rfl (by rfl) fun k4 hk4 => ?_
    refine aL_nil ?_
    refine awp_seq ?_
    refine awp_seq ?_
    refine awp_region (by kernel_rfl) ?_
    iterate 4 (refine aL_S rfl rfl v_ ?_)
    refine aL_nil ?_
    refine awp_block ?_
    refine awp_loop_env (ι := Nat × Nat) (fun ⟨tk, k⟩ => b.items.length - k) (fun ⟨tk, k⟩ => k ≤ b.items.length ∧ σ.tok tk = none) (fun ⟨tk, k⟩ => [(1, .ref o1 0), (4, .own tk 1 (vBs ((b.items.take k).map recI))), (17, .sl 3 (b.items.map sItem) false), (18, vInt b.items.length), (19, vInt k)]) (fun ⟨tk, k⟩ => ((σ.set o1 (.cells (sBk b).cells)).newTok none tk (9, 1))) (k4, 0) ?_ ?_ ?_ ?_
    · exact ⟨Nat.zero_le _, hk4⟩
    · exact cv_
    · exact Store.Wk.refl _
    rintro ⟨tk, k⟩ ⟨hk, htk⟩
    simp only [envL_cons, envL_nil]
    refine awp_seq ?_
    refine awp_region (by kernel_rfl) ?_
    (refine aL_S rfl rfl v_ ?_)
    refine aL_nil ?_
    refine awp_seq ?_
    refine awp_cond v_ (fun hc5 => ?_) (fun hc5 => ?_)
    · replace hc5 := nm_ hc5
      refine awp_skip ?_
      refine awp_seq ?_
      refine awp_block ?_
      refine awp_seq ?_
      obtain ⟨x, hx⟩ := get_some (l := b.items) (k := k) (by omega)
      have sx := hs.items x (List.mem_of_getElem? hx)
      have hcv : vBs ((b.items.take (k + 1)).map recI) = vBs ((b.items.take k).map recI) ++ [vStr (B (recI x))] := vBs_snoc (f := recI) (A := []) hx
      have hrec : putRS x.place x.obj = (recI x, 0) := by
        have h := ci x (List.mem_of_getElem? hx)
        rw [putRS, h.1, h.2]; rfl
      have R := hx
      refine awp_region (by kernel_rfl) ?_
      iterate 2 (refine aL_S rfl rfl v_ ?_)
      refine aL_alloc rfl rfl rfl g_ gl_ fun o6 ho6 => ?_
      repeat (rw [none_set_iff] at ho6; obtain ⟨_, ho6⟩ := ho6)
      refine aL_store rfl rfl rfl v_ v_ h_ g_ rfl g_ c_ (by rfl) le_ v_ ?_
      refine aL_nil ?_
      have h6 : o6 ≠ o1 ∧ σ.heap o6 = none := by
        have h := ho6
        simp only [Store.newTok_heap] at h
        rwa [none_set_iff] at h
      obtain ⟨n61, h6⟩ := h6
      refine awp_seq ?_
      refine awp_region (by kernel_rfl) ?_
      iterate 4 (refine aL_S rfl rfl v_ ?_)
      refine aL_X rfl rfl (AOp_use rfl rfl (.inr ⟨rfl, rfl, rfl⟩) g_ va_ (putRec_c sx.place sx.obj) ?_); rintro _ _ ⟨rfl, rfl⟩
      rw [hrec]
      iterate 5 (refine aL_S rfl rfl v_ ?_)
      refine aL_nil ?_
      refine awp_region (by kernel_rfl) ?_
      iterate 2 (refine aL_S rfl rfl v_ ?_)
      refine aL_buildSlice rfl rfl rfl g_ g_ rfl rfl h_ c2_ (by decide) ?_
      refine aL_append rfl rfl rfl g_ g_ v_ h_ v_ c_ (by simp [vBs_len]; omega) fun k34 hk34 => ?_
      have t34 : σ.tok k34 = none := (newTok_none hk34).2
      (refine aL_S rfl rfl v_ ?_)
      refine aL_nil ?_
      refine awp_region (by kernel_rfl) ?_
      iterate 2 (refine aL_S rfl rfl v_ ?_)
      refine aL_nil ?_
      refine aNext (ι := Nat × Nat) (i := ⟨tk, k⟩) (k34, k + 1) ?_ ?_ ?_ ?_
      · show b.items.length - (k + 1) < b.items.length - k; omega
      · exact ⟨by show k + 1 ≤ b.items.length; omega, t34⟩
      · have R := hcv; exact cv_
      · exact sub_
    · replace hc5 := nm_ hc5
      refine awp_exit ?_
      refine aThen_exit ?_
      refine aThen_exit ?_
      refine aBlock_hit ?_
      refine awp_seq ?_
      refine awp_seq ?_
      obtain rfl : k = b.items.length := by omega
      rw [List.take_length]
      have hi0 : vBs (b.items.map recI ++ (b.mints.take 0).map recM) = vBs (b.items.map recI) := by simp
      refine awp_region (by kernel_rfl) ?_
      iterate 4 (refine aL_S rfl rfl v_ ?_)
      refine aL_nil ?_
      refine awp_block ?_
      refine awp_loop_env (ι := Nat × Nat) (fun ⟨tj, j⟩ => b.mints.length - j) (fun ⟨tj, j⟩ => j ≤ b.mints.length ∧ σ.tok tj = none) (fun ⟨tj, j⟩ => [(4, .own tj 1 (vBs (b.items.map recI ++ (b.mints.take j).map recM))), (37, .sl 2 (b.mints.map sMnt) false), (38, vInt b.mints.length), (39, vInt j)]) (fun ⟨tj, j⟩ => ((σ.set o1 (.cells (sBk b).cells)).newTok none tj (9, 1))) (tk, 0) ?_ ?_ ?_ ?_
      · exact ⟨Nat.zero_le _, htk⟩
      · have R := hi0; exact cv_
      · exact Store.Wk.refl _
      rintro ⟨tj, j⟩ ⟨hj, htj⟩
      simp only [envL_cons, envL_nil]
      refine awp_seq ?_
      refine awp_region (by kernel_rfl) ?_
      (refine aL_S rfl rfl v_ ?_)
      refine aL_nil ?_
      refine awp_seq ?_
      refine awp_cond v_ (fun hc11 => ?_) (fun hc11 => ?_)
      · replace hc11 := nm_ hc11
        refine awp_skip ?_
        refine awp_seq ?_
        refine awp_block ?_
        refine awp_seq ?_
        obtain ⟨x, hx⟩ := get_some (l := b.mints) (k := j) (by omega)
        have sx := hs.mints x (List.mem_of_getElem? hx)
        have hcv := vBs_snoc (f := recM) (A := b.items.map recI) hx
        have hrec : mintRS x.place x.n = (recM x, 0) := by
          have h := cm x (List.mem_of_getElem? hx)
          rw [mintRS, h.1, h.2]; rfl
        have R := hx
        refine awp_region (by kernel_rfl) ?_
        iterate 2 (refine aL_S rfl rfl v_ ?_)
        refine aL_alloc rfl rfl rfl g_ gl_ fun o10 ho10 => ?_
        repeat (rw [none_set_iff] at ho10; obtain ⟨_, ho10⟩ := ho10)
        refine aL_store rfl rfl rfl v_ v_ h_ g_ rfl g_ c_ (by rfl) le_ v_ ?_
        refine aL_nil ?_
        have h10 : o10 ≠ o1 ∧ σ.heap o10 = none := by
          have h := ho10
          simp only [Store.newTok_heap] at h
          rwa [none_set_iff] at h
        obtain ⟨n101, h10⟩ := h10
        refine awp_seq ?_
        refine awp_region (by kernel_rfl) ?_
        iterate 4 (refine aL_S rfl rfl v_ ?_)
        refine aL_X rfl rfl (AOp_use rfl rfl (.inr ⟨rfl, rfl, rfl⟩) g_ va_ (mintRec_c sx) ?_); rintro _ _ ⟨rfl, rfl⟩
        rw [hrec]
        iterate 5 (refine aL_S rfl rfl v_ ?_)
        refine aL_nil ?_
        refine awp_region (by kernel_rfl) ?_
        iterate 2 (refine aL_S rfl rfl v_ ?_)
        refine aL_buildSlice rfl rfl rfl g_ g_ rfl rfl h_ c2_ (by decide) ?_
        refine aL_append rfl rfl rfl g_ g_ v_ h_ v_ c_ (by simp [vBs_len]; omega) fun k54 hk54 => ?_
        have t54 : σ.tok k54 = none := (newTok_none hk54).2
        (refine aL_S rfl rfl v_ ?_)
        refine aL_nil ?_
        refine awp_region (by kernel_rfl) ?_
        iterate 2 (refine aL_S rfl rfl v_ ?_)
        refine aL_nil ?_
        refine aNext (ι := Nat × Nat) (i := ⟨tj, j⟩) (k54, j + 1) ?_ ?_ ?_ ?_
        · show b.mints.length - (j + 1) < b.mints.length - j; omega
        · exact ⟨by show j + 1 ≤ b.mints.length; omega, t54⟩
        · have R := hcv; exact cv_
        · exact sub_
      · replace hc11 := nm_ hc11
        refine awp_exit ?_
        refine aThen_exit ?_
        refine aThen_exit ?_
        refine aBlock_hit ?_
        refine awp_seq ?_
        obtain rfl : j = b.mints.length := by omega
        rw [List.take_length, show b.items.map recI ++ b.mints.map recM = recsB b from rfl]
        refine awp_region (by kernel_rfl) ?_
        (refine aL_S rfl rfl v_ ?_)
        refine aL_X rfl rfl (AOp_use rfl rfl (.inr ⟨rfl, rfl, rfl⟩) g_ va_ (ACalls.wkA (args := [.own tj 1 (vBs (recsB b))]) (fAll_c (l := recsB b) (t := false) (by rw [recsB]; simp; omega) hT) rfl (fun i hi hi' => by match i, hi with | 0, _ => exact .own1 _ _ _)) ?_); rintro _ _ ⟨rfl, rfl⟩
        iterate 2 (refine aL_S rfl rfl v_ ?_)
        refine aL_nil ?_
        refine awp_ret ?_
        refine aEnd_ret (σ' := σ) v_ sub_ ?_
        exact ⟨by rw [show bytS b = (bytesK b, 0) from by rw [bytS, hb]; rfl]; rfl, rfl⟩
end Go.Proofs.YtbcgkbdacijoiaaGreat
end

section
set_option linter.all false
set_option maxRecDepth 100000
namespace Go.Proofs.YtbcgkbdacijoiaaGreat
open Go.Ab
theorem rdTake_rest (x : Rd) (n : Nat) : (rdTake x n).2.1.length ≤ x.1.length := by
  unfold rdTake; split
  · simp
  · exact Nat.le_refl _
theorem rdCnt_rest (x : Rd) (m : Nat) : (rdCnt x m).2.1.length ≤ x.1.length := by
  unfold rdCnt; split
  · exact rdTake_rest x 4
  · exact rdTake_rest x 4
theorem hdX_len (r : List UInt8) : (hdX r).1.length ≤ r.length := by
  unfold hdX rdText
  exact Nat.le_trans (rdTake_rest _ _) (Nat.le_trans (rdCnt_rest _ _) (rdTake_rest (r, true) 1))
theorem rec_sm {r : List UInt8} (h : r.length ≤ 4000) : ObjSm (rdObj (hdX r)).1 := rdObj_sm (Nat.le_trans (hdX_len r) h)
theorem scanF_nil : scanF [] = [] := rfl
theorem scanF_all {l : List (List UInt8)} (h : ∀ b ∈ l, b.length ≤ 1048576) : scanF (allF l) = l := by
  have := scanF_app (t := []) h
  rwa [List.append_nil, scanF_nil, List.append_nil] at this
/-! ### one book -/
def sA : Seen := ⟨⟨#[97]⟩, 1, []⟩
def oA : Obj' := ⟨[sA], []⟩
def pA : ByteArray := ⟨#[98, 47, 107]⟩
def bA : Bk := ⟨[⟨pA, oA⟩], [⟨pA, 3⟩]⟩
def rP : List UInt8 := putR pA oA
def rM : List UInt8 := mintR pA 3
def rD : List UInt8 := dropR pA
theorem oA_wk : Wk (.agg [.sl 3 [.agg [.lit (.string ⟨#[97]⟩), .lit (.int .i64 1), .lit (.slice none 0 0)]] true, .lit (.slice none 0 0)]) (sObj oA) := .agg _ _ rfl fun j hj hj' => by
  match j, hj with
  | 0, _ => exact .sl _ _ _ _ rfl (szSeen _) (fun k hk hk' => by
      match k, hk with
      | 0, _ => exact .agg _ _ rfl (fun n hn hn' => by match n, hn with | 0, _ => exact .refl _ | 1, _ => exact .refl _ | 2, _ => exact .nil _ _))
  | 1, _ => exact .nil _ _
theorem pA_ok : placeOk pA = true := by decide +kernel
theorem oA_ok : objOk oA = true := by decide +kernel
theorem oA_rt : ObjRt oA := objOk_rt oA_ok (by decide) (by decide)
theorem oA_sm : ObjSm oA := ⟨fun x hx => by rw [List.mem_singleton.1 hx]; exact ⟨by decide, by decide⟩, fun x hx => absurd hx List.not_mem_nil, by decide, by decide⟩
theorem n3_ok : cntOk 3 = true := by decide +kernel
theorem putRS_A : putRS pA oA = (rP, 0) := by rw [putRS, pA_ok, oA_ok]; rfl
theorem mintRS_A : mintRS pA 3 = (rM, 0) := by rw [mintRS, pA_ok, n3_ok]; rfl
theorem dropRS_A : dropRS pA = (rD, 0) := by rw [dropRS, pA_ok]; rfl
theorem lensA : rP.length ≤ 100 ∧ rM.length ≤ 100 ∧ rD.length ≤ 100 := by decide +kernel
theorem bA_ok : bkOk bA = true := by decide +kernel
theorem aplA1 : apl bk0 rP = (⟨[⟨pA, oA⟩], []⟩, true) := apl_put pA_ok oA_ok oA_rt
theorem aplA2 : apl ⟨[⟨pA, oA⟩], []⟩ rM = (bA, true) := apl_mint pA_ok n3_ok
theorem aplA3 : apl bA [120] = (bA, false) := apl_no (.inl (by decide +kernel))
theorem rplA : rpl bk0 [rP, rM, [120]] = (bA, (bytesK bA).length) := by
  have e : (bytesK bA).length = 8 + rP.length + (8 + rM.length) := by
    show (allF [rP, rM]).length = _
    simp only [allF, List.flatMap_cons, List.flatMap_nil, List.length_append, putF_len, List.length_nil, Nat.add_zero]
  rw [rpl, aplA1, if_pos rfl, rpl, aplA2, if_pos rfl, rpl, aplA3, if_neg (by decide), e]
  rfl
theorem apsA : apS bA rD = (⟨[], bA.mints⟩, 0) := by rw [apS, bA_ok, show apl bA rD = _ from apl_drop pA_ok]; rfl
theorem bytA : bytS bA = (bytesK bA, 0) := by rw [bytS, bA_ok]; rfl
theorem getA : getS bA.items pA = (oA, true) := by decide +kernel
theorem nextA : nextS bA.mints pA = 4 ∧ nextS bA.mints ⟨#[98, 47, 106]⟩ = 1 := by decide +kernel
theorem bA_sm : BkSm bA := ⟨fun x hx => by rw [List.mem_singleton.1 hx]; exact ⟨by decide, oA_sm⟩, fun x hx => by rw [List.mem_singleton.1 hx]; decide, by decide, by decide⟩
theorem scanA : scanF (allF [rP, rM, [120]]) = [rP, rM, [120]] := by
  obtain ⟨h1, h2, h3⟩ := lensA
  refine scanF_all fun b hb => ?_
  rcases List.mem_cons.1 hb with rfl | hb
  · omega
  rcases List.mem_cons.1 hb with rfl | hb
  · omega
  rw [List.mem_singleton.1 hb]; decide
theorem allA_len : (allF [rP, rM, [120]]).length ≤ 1000 := by
  obtain ⟨h1, h2, h3⟩ := lensA
  simp only [allF, List.flatMap_cons, List.flatMap_nil, List.length_append, putF_len, List.length_nil, List.length_cons]; omega
theorem bytA_len : (bytesK bA).length ≤ 1000 := by
  obtain ⟨h1, h2, h3⟩ := lensA
  show (allF [rP, rM]).length ≤ _
  simp only [allF, List.flatMap_cons, List.flatMap_nil, List.length_append, putF_len, List.length_nil]; omega
set_option maxHeartbeats 2000000 in
theorem awake27_c {σ : Store} : ACalls Tryz.prog 29 [] σ fun v σ' => v = vB true ∧ σ = σ' := by
  obtain ⟨q1, q2, q3⟩ := lensA
  have hl1 := B_size (bytesK bA)
  have hi1 : (bA.items.map sItem).length = 1 := rfl
  have hsz : ((bA.items.map fItm).sum : Nat) = 19 := by decide +kernel
  have dOO : (decide (oA = oA)) = true := decide_eq_true rfl
  refine ACalls_of Tryz.func29 rfl Tryz.ntmps29 (congrArg Array.toList Tryz.results29) (by simp only [List.length_cons, List.length_nil]; decide) ?_; simp only [envOf_cons, envOf_nil, Nat.reduceAdd]
  refine awp_seq ?_
  refine awp_region (by kernel_rfl) ?_
  (refine aL_S rfl rfl v_ ?_)
  refine aL_nil ?_
  refine awp_seq ?_
  refine awp_region (by kernel_rfl) ?_
  (refine aL_S rfl rfl v_ ?_)
  refine aL_buildSlice rfl rfl rfl g_ g_ rfl rfl h_ c2_ (by decide) ?_
  refine aL_X rfl rfl (AOp_wk (a := .agg [.sl 3 [.agg [.lit (.string ⟨#[97]⟩), .lit (.int .i64 1), .lit (.slice none 0 0)]] true, .lit (.slice none 0 0)]) (a' := sObj oA) (AOp_val (by rfl) ⟨rfl, rfl⟩) oA_wk ?_)
  refine aL_alloc rfl rfl rfl g_ gl_ fun o1 ho1 => ?_
  repeat (rw [none_set_iff] at ho1; obtain ⟨_, ho1⟩ := ho1)
  refine aL_store rfl rfl rfl v_ v_ h_ g_ rfl g_ c_ (by rfl) le_ v_ ?_
  refine aL_nil ?_
  refine awp_seq ?_
  refine awp_region (by kernel_rfl) ?_
  (refine aL_S rfl rfl v_ ?_)
  refine aL_X rfl rfl (AOp_use rfl rfl (.inr ⟨rfl, rfl, rfl⟩) g_ va_ (putRec_c (p := pA) (o := oA) (by decide) oA_sm) ?_); rintro _ _ ⟨rfl, rfl⟩
  rw [putRS_A]
  iterate 5 (refine aL_S rfl rfl v_ ?_)
  refine aL_nil ?_
  refine awp_seq ?_
  refine awp_region (by kernel_rfl) ?_
  refine aL_X rfl rfl (AOp_use rfl rfl (.inr ⟨rfl, rfl, rfl⟩) g_ va_ (mintRec_c (p := pA) (n := 3) (by decide)) ?_); rintro _ _ ⟨rfl, rfl⟩
  rw [mintRS_A]
  iterate 5 (refine aL_S rfl rfl v_ ?_)
  refine aL_nil ?_
  refine awp_seq ?_
  refine awp_region (by kernel_rfl) ?_
  refine aL_X rfl rfl (AOp_use rfl rfl (.inr ⟨rfl, rfl, rfl⟩) g_ va_ (dropRec_c (p := pA) (by decide)) ?_); rintro _ _ ⟨rfl, rfl⟩
  rw [dropRS_A]
  iterate 5 (refine aL_S rfl rfl v_ ?_)
  refine aL_nil ?_
  refine awp_seq ?_
  refine awp_region (by kernel_rfl) ?_
  iterate 2 (refine aL_S rfl rfl v_ ?_)
  refine aL_buildSlice rfl rfl rfl g_ g_ rfl rfl h_ c2_ (by decide) ?_
  refine aL_X rfl rfl (AOp_use rfl rfl (.inr ⟨rfl, rfl, rfl⟩) g_ va_ (rAll26_c (l := [rP, rM, [120]]) (by decide) (Nat.le_trans allA_len (by decide))) ?_); rintro _ _ ⟨rfl, rfl⟩
  refine aL_X rfl rfl (AOp_use rfl rfl (.inr ⟨rfl, rfl, rfl⟩) g_ va_ (replay_c (s := allF [rP, rM, [120]]) (Nat.le_trans allA_len (by decide)) (by rw [scanA]; decide) (by rw [scanA]; intro r hr; exact rec_sm (by rcases List.mem_cons.1 hr with rfl | hr; omega; rcases List.mem_cons.1 hr with rfl | hr; omega; rw [List.mem_singleton.1 hr]; decide))) ?_); rintro _ _ ⟨rfl, rfl⟩
  rw [scanA, rplA]
  iterate 3 (refine aL_S rfl rfl v_ ?_)
  refine aL_alloc rfl rfl rfl g_ gl_ fun o8 ho8 => ?_
  repeat (rw [none_set_iff] at ho8; obtain ⟨_, ho8⟩ := ho8)
  refine aL_store rfl rfl rfl v_ v_ h_ g_ rfl g_ c_ (by rfl) le_ v_ ?_
  (refine aL_S rfl rfl v_ ?_)
  refine aL_nil ?_
  refine awp_seq ?_
  refine awp_region (by kernel_rfl) ?_
  iterate 2 (refine aL_S rfl rfl v_ ?_)
  refine aL_X rfl rfl (AOp_use rfl rfl (.inr ⟨rfl, rfl, rfl⟩) g_ va_ (aApply_c (r := rD) bA_sm (rec_sm (by omega))) ?_); rintro _ _ ⟨rfl, rfl⟩
  rw [apsA]
  iterate 3 (refine aL_S rfl rfl v_ ?_)
  refine aL_alloc rfl rfl rfl g_ gl_ fun o10 ho10 => ?_
  repeat (rw [none_set_iff] at ho10; obtain ⟨_, ho10⟩ := ho10)
  refine aL_store rfl rfl rfl v_ v_ h_ g_ rfl g_ c_ (by rfl) le_ v_ ?_
  (refine aL_S rfl rfl v_ ?_)
  refine aL_nil ?_
  refine awp_seq ?_
  refine awp_region (by kernel_rfl) ?_
  (refine aL_S rfl rfl v_ ?_)
  refine aL_X rfl rfl (AOp_use rfl rfl (.inr ⟨rfl, rfl, rfl⟩) g_ va_ (get_c (b := bA) (s := pA) (by decide)) ?_); rintro _ _ ⟨rfl, rfl⟩
  rw [getA]
  iterate 3 (refine aL_S rfl rfl v_ ?_)
  refine aL_alloc rfl rfl rfl g_ gl_ fun o12 ho12 => ?_
  repeat (rw [none_set_iff] at ho12; obtain ⟨_, ho12⟩ := ho12)
  refine aL_store rfl rfl rfl v_ v_ h_ g_ rfl g_ c_ (by rfl) le_ v_ ?_
  (refine aL_S rfl rfl v_ ?_)
  refine aL_nil ?_
  refine awp_seq ?_
  refine awp_region (by kernel_rfl) ?_
  (refine aL_S rfl rfl v_ ?_)
  refine aL_X rfl rfl (AOp_use rfl rfl (.inr ⟨rfl, rfl, rfl⟩) g_ va_ (bytes_c bA_sm (Nat.le_trans bytA_len (by decide))) ?_); rintro _ _ ⟨rfl, rfl⟩
  rw [bytA]
  iterate 5 (refine aL_S rfl rfl v_ ?_)
  refine aL_nil ?_
  refine awp_seq ?_
  have R := And.intro hl1 hi1
  refine awp_region (by kernel_rfl) ?_
  iterate 3 (refine aL_S rfl rfl v_ ?_)
  refine aL_SY (wantedA_yes rfl rfl v_ (by rfl)) rfl v_ ?_
  refine aL_SY (wantedA_yes rfl rfl v_ (by rfl)) rfl v_ ?_
  iterate 2 (refine aL_S rfl rfl v_ ?_)
  refine aL_SY (wantedA_yes rfl rfl v_ (by rfl)) rfl v_ ?_
  refine aL_SY (wantedA_yes rfl rfl v_ (by rfl)) rfl v_ ?_
  iterate 2 (refine aL_S rfl rfl v_ ?_)
  refine aL_SY (wantedA_yes rfl rfl v_ (by rfl)) rfl v_ ?_
  refine aL_SY (wantedA_yes rfl rfl v_ (by rfl)) rfl v_ ?_
  iterate 2 (refine aL_S rfl rfl v_ ?_)
  refine aL_SY (wantedA_yes rfl rfl v_ (by rfl)) rfl v_ ?_
  refine aL_SY (wantedA_yes rfl rfl v_ (by rfl)) rfl v_ ?_
  iterate 2 (refine aL_S rfl rfl v_ ?_)
  refine aL_SY (wantedA_yes rfl rfl v_ (by rfl)) rfl v_ ?_
  refine aL_SY (wantedA_yes rfl rfl v_ (by rfl)) rfl v_ ?_
  refine aL_SY (wantedA_yes rfl rfl v_ (by rfl)) rfl v_ ?_
  refine aL_SY (wantedA_yes rfl rfl v_ (by rfl)) rfl v_ ?_
  iterate 2 (refine aL_S rfl rfl v_ ?_)
  refine aL_SY (wantedA_yes rfl rfl v_ (by rfl)) rfl v_ ?_
  refine aL_SY (wantedA_yes rfl rfl v_ (by rfl)) rfl v_ ?_
  refine aL_SY (wantedA_yes rfl rfl v_ (by rfl)) rfl v_ ?_
  refine aL_SY (wantedA_yes rfl rfl v_ (by rfl)) rfl v_ ?_
  iterate 2 (refine aL_S rfl rfl v_ ?_)
  refine aL_SY (wantedA_yes rfl rfl v_ (by rfl)) rfl v_ ?_
  refine aL_SY (wantedA_yes rfl rfl v_ (by rfl)) rfl v_ ?_
  refine aL_SY (wantedA_yes rfl rfl v_ (by rfl)) rfl v_ ?_
  refine aL_SY (wantedA_yes rfl rfl v_ (by rfl)) rfl v_ ?_
  iterate 2 (refine aL_S rfl rfl v_ ?_)
  refine aL_SY (wantedA_yes rfl rfl v_ (by rfl)) rfl v_ ?_
  refine aL_SY (wantedA_yes rfl rfl v_ (by rfl)) rfl v_ ?_
  refine aL_XY (wantedA_yes rfl rfl v_ (by rfl)) rfl (AOp_use rfl rfl (.inr ⟨rfl, rfl, rfl⟩) g_ va_ (same07_f oA_sm oA_sm) ?_); rintro _ _ ⟨rfl, rfl⟩
  rw [dOO]
  iterate 2 (refine aL_S rfl rfl v_ ?_)
  refine aL_SY (wantedA_yes rfl rfl v_ (by rfl)) rfl v_ ?_
  iterate 2 (refine aL_S rfl rfl v_ ?_)
  refine aL_SY (wantedA_yes rfl rfl v_ (by rfl)) rfl v_ ?_
  refine aL_XY (wantedA_yes rfl rfl v_ (by rfl)) rfl (AOp_use rfl rfl (.inr ⟨rfl, rfl, rfl⟩) g_ va_ (next_c (b := bA) (s := pA) (by decide) (fun x hx => by rw [List.mem_singleton.1 hx]; decide)) ?_); rintro _ _ ⟨rfl, rfl⟩
  rw [nextA.1]
  refine aL_SY (wantedA_yes rfl rfl v_ (by rfl)) rfl v_ ?_
  iterate 2 (refine aL_S rfl rfl v_ ?_)
  refine aL_SY (wantedA_yes rfl rfl v_ (by rfl)) rfl v_ ?_
  refine aL_XY (wantedA_yes rfl rfl v_ (by rfl)) rfl (AOp_use rfl rfl (.inr ⟨rfl, rfl, rfl⟩) g_ va_ (next_c (b := bA) (s := ⟨#[98, 47, 106]⟩) (by decide) (fun x hx => by rw [List.mem_singleton.1 hx]; decide)) ?_); rintro _ _ ⟨rfl, rfl⟩
  rw [nextA.2]
  refine aL_SY (wantedA_yes rfl rfl v_ (by rfl)) rfl v_ ?_
  iterate 2 (refine aL_S rfl rfl v_ ?_)
  refine aL_SY (wantedA_yes rfl rfl v_ (by rfl)) rfl v_ ?_
  refine aL_XY (wantedA_yes rfl rfl v_ (by rfl)) rfl (AOp_use rfl rfl (.inr ⟨rfl, rfl, rfl⟩) g_ va_ (bkSize_c (b := bA) bA_sm.items (by decide)) ?_); rintro _ _ ⟨rfl, rfl⟩
  rw [hsz]
  refine aL_SY (wantedA_yes rfl rfl v_ (by rfl)) rfl v_ ?_
  iterate 2 (refine aL_S rfl rfl v_ ?_)
  refine aL_SY (wantedA_yes rfl rfl v_ (by rfl)) rfl v_ ?_
  refine aL_XY (wantedA_yes rfl rfl v_ (by rfl)) rfl (AOp_use rfl rfl (.inr ⟨rfl, rfl, rfl⟩) g_ va_ (bkCheck_c bA_sm) ?_); rintro _ _ ⟨rfl, rfl⟩
  rw [bA_ok]
  refine aL_SY (wantedA_yes rfl rfl v_ (by rfl)) rfl v_ ?_
  iterate 2 (refine aL_S rfl rfl v_ ?_)
  refine aL_nil ?_
  refine awp_ret ?_
  refine aEnd_ret (σ' := σ) v_ sub_ ?_
  exact ⟨rfl, rfl⟩
end Go.Proofs.YtbcgkbdacijoiaaGreat
end

section
set_option linter.all false
set_option maxRecDepth 100000
namespace Go.Proofs.YtbcgkbdacijoiaaGreat
open Go.Ab
theorem scanF_mem {s r : List UInt8} (h : r ∈ scanF s) : r.length + 8 ≤ s.length := by
  obtain ⟨t, ht, _⟩ := scanF_len s
  have h1 : r.length + 8 ≤ (allF (scanF s)).length := by
    obtain ⟨i, hi, e⟩ := List.mem_iff_getElem.1 h
    have h2 := allF_take (l := scanF s) (k := i) (b := r) (by rw [List.getElem?_eq_getElem hi, e])
    have h3 := allF_le (scanF s) (i + 1)
    rw [h2, List.length_append, putF_len] at h3
    omega
  have h4 := congrArg List.length ht
  rw [List.length_append] at h4
  omega
theorem scanF_cnt (s : List UInt8) : (scanF s).length ≤ s.length := by
  obtain ⟨t, ht, _⟩ := scanF_len s
  have h1 := allF_ge (scanF s)
  have h4 := congrArg List.length ht
  rw [List.length_append] at h4
  omega
theorem fewBk_sm {b : Bk} (h : fewBk b = true) : BkN 8 b := by
  simp only [fewBk, fewMn, fewIt, Bool.and_eq_true, decide_eq_true_eq, List.all_eq_true] at h
  exact ⟨fun x hx => ⟨by have := (h.1.2 x hx).1; omega, (fewOb_iff.1 (h.1.2 x hx).2).sm⟩, fun x hx => by have := h.2.2 x hx; omega, h.1.1, h.2.1⟩
theorem apS_N {n : Nat} {b : Bk} {r : List UInt8} (h : BkN n b) (ho : ObjSm (rdObj (hdX r)).1) : BkN (n + 1) (apS b r).1 := by
  unfold apS
  split
  · split
    · exact h.apl ho
    · exact bkN0 _
  · exact bkN0 _
theorem rpl_N : ∀ {l : List (List UInt8)} {n : Nat} {b : Bk}, BkN n b → (∀ r ∈ l, ObjSm (rdObj (hdX r)).1) → BkN (n + l.length) (rpl b l).1
  | [], n, b, h, _ => h
  | r :: l, n, b, h, hr => by
    rw [rpl]
    split
    · have := rpl_N (l := l) (h.apl (hr r (.head _))) fun q hq => hr q (.tail _ hq)
      rw [show n + (r :: l).length = n + 1 + l.length by simp; omega]; exact this
    · exact h.le (by omega)
set_option maxHeartbeats 2000000 in
theorem bookApplies_c {b : Bk} {rec str : ByteArray} {σ : Store} : ACalls Tryz.prog 6 [sBk b, vStr rec, vStr str] σ fun v σ' => v = vB true ∧ σ = σ' := by
  obtain ⟨r, rfl⟩ : ∃ r, rec = B r := ⟨Lb rec, (B_Lb rec).symm⟩
  obtain ⟨s, rfl⟩ : ∃ s, str = B s := ⟨Lb str, (B_Lb str).symm⟩
  have hB1 := B_size r
  have hB2 := B_size s
  refine ACalls_of Tryz.func6 rfl Tryz.ntmps6 (congrArg Array.toList Tryz.results6) (by simp only [List.length_cons, List.length_nil]; decide) ?_; simp only [envOf_cons, envOf_nil, Nat.reduceAdd]
  refine awp_seq ?_
  refine awp_region (by kernel_rfl) ?_
  refine aL_box rfl rfl rfl v_ rfl g_ fun o3 ho3 => ?_
  repeat (rw [none_set_iff] at ho3; obtain ⟨_, ho3⟩ := ho3)
  (refine aL_S rfl rfl v_ ?_)
  refine aL_nil ?_
  refine awp_seq ?_
  refine awp_seq ?_
  have R := And.intro hB1 hB2
  refine awp_region (by kernel_rfl) ?_
  (refine aL_S rfl rfl v_ ?_)
  refine aL_X rfl rfl (AOp_use rfl rfl (.inr ⟨rfl, rfl, rfl⟩) g_ va_ (fewBk_c) ?_); rintro _ _ ⟨rfl, rfl⟩
  iterate 2 (refine aL_S rfl rfl v_ ?_)
  refine aL_GF rfl rfl v_ rfl vg_ ?_
  refine aL_GF rfl rfl v_ rfl vg_ ?_
  refine aL_GF rfl rfl v_ rfl vg_ ?_
  iterate 2 (refine aL_S rfl rfl v_ ?_)
  refine aL_GF rfl rfl v_ rfl vg_ ?_
  refine aL_GF rfl rfl v_ rfl vg_ ?_
  refine aL_GF rfl rfl v_ rfl vg_ ?_
  (refine aL_S rfl rfl v_ ?_)
  refine aL_nil ?_
  refine awp_cond v_ (fun hc1 => ?_) (fun hc1 => ?_)
  · replace hc1 := nm_ hc1
    refine awp_seq ?_
    refine awp_region (by kernel_rfl) ?_
    refine aL_X rfl rfl (AOp_use rfl rfl (.inr ⟨rfl, rfl, rfl⟩) g_ va_ (awake27_c) ?_); rintro _ _ ⟨rfl, rfl⟩
    (refine aL_S rfl rfl v_ ?_)
    refine aL_nil ?_
    refine awp_ret ?_
    refine aEnd_ret (σ' := σ) v_ sub_ ?_
    exact ⟨rfl, rfl⟩
  · replace hc1 := nm_ hc1
    have hN := fewBk_sm hc1.1.1
    have hrs : ObjSm (rdObj (hdX r)).1 := rec_sm (by omega)
    have hN2 := apS_N hN hrs
    have hss : ∀ q ∈ scanF s, ObjSm (rdObj (hdX q)).1 := fun q hq => rec_sm (by have := scanF_mem hq; omega)
    have hcn := scanF_cnt s
    have hN3 := rpl_N (bkN0 0) hss
    have dd : ∀ {x : Bk}, (decide (x.items = x.items) && decide (x.mints = x.mints)) = true := fun {x} => by simp
    refine awp_skip ?_
    refine awp_seq ?_
    refine awp_region (by kernel_rfl) ?_
    iterate 2 (refine aL_S rfl rfl v_ ?_)
    refine aL_X rfl rfl (AOp_use rfl rfl (.inr ⟨rfl, rfl, rfl⟩) g_ va_ (aApply_c (hN.sm (by omega)) hrs) ?_); rintro _ _ ⟨rfl, rfl⟩
    iterate 3 (refine aL_S rfl rfl v_ ?_)
    refine aL_alloc rfl rfl rfl g_ gl_ fun o7 ho7 => ?_
    repeat (rw [none_set_iff] at ho7; obtain ⟨_, ho7⟩ := ho7)
    refine aL_store rfl rfl rfl v_ v_ h_ g_ rfl g_ c_ (by rfl) le_ v_ ?_
    (refine aL_S rfl rfl v_ ?_)
    refine aL_nil ?_
    refine awp_seq ?_
    refine awp_region (by kernel_rfl) ?_
    iterate 2 (refine aL_S rfl rfl v_ ?_)
    refine aL_X rfl rfl (AOp_use rfl rfl (.inr ⟨rfl, rfl, rfl⟩) g_ va_ (rApply27_c (hN.sm (by omega)) (by omega) hrs) ?_); rintro _ _ ⟨rfl, rfl⟩
    iterate 3 (refine aL_S rfl rfl v_ ?_)
    refine aL_alloc rfl rfl rfl g_ gl_ fun o9 ho9 => ?_
    repeat (rw [none_set_iff] at ho9; obtain ⟨_, ho9⟩ := ho9)
    refine aL_store rfl rfl rfl v_ v_ h_ g_ rfl g_ c_ (by rfl) le_ v_ ?_
    (refine aL_S rfl rfl v_ ?_)
    refine aL_nil ?_
    refine awp_seq ?_
    refine awp_region (by kernel_rfl) ?_
    (refine aL_S rfl rfl v_ ?_)
    refine aL_X rfl rfl (AOp_use rfl rfl (.inr ⟨rfl, rfl, rfl⟩) g_ va_ (replay_c (by omega) (by omega) hss) ?_); rintro _ _ ⟨rfl, rfl⟩
    iterate 3 (refine aL_S rfl rfl v_ ?_)
    refine aL_alloc rfl rfl rfl g_ gl_ fun o11 ho11 => ?_
    repeat (rw [none_set_iff] at ho11; obtain ⟨_, ho11⟩ := ho11)
    refine aL_store rfl rfl rfl v_ v_ h_ g_ rfl g_ c_ (by rfl) le_ v_ ?_
    (refine aL_S rfl rfl v_ ?_)
    refine aL_nil ?_
    refine awp_seq ?_
    refine awp_region (by kernel_rfl) ?_
    (refine aL_S rfl rfl v_ ?_)
    refine aL_X rfl rfl (AOp_use rfl rfl (.inr ⟨rfl, rfl, rfl⟩) g_ va_ (rReplay27_c (by omega) (by omega) hss) ?_); rintro _ _ ⟨rfl, rfl⟩
    iterate 3 (refine aL_S rfl rfl v_ ?_)
    refine aL_alloc rfl rfl rfl g_ gl_ fun o13 ho13 => ?_
    repeat (rw [none_set_iff] at ho13; obtain ⟨_, ho13⟩ := ho13)
    refine aL_store rfl rfl rfl v_ v_ h_ g_ rfl g_ c_ (by rfl) le_ v_ ?_
    (refine aL_S rfl rfl v_ ?_)
    refine aL_nil ?_
    refine awp_seq ?_
    refine awp_region (by kernel_rfl) ?_
    iterate 2 (refine aL_S rfl rfl v_ ?_)
    refine aL_X rfl rfl (AOp_use rfl rfl (.inr ⟨rfl, rfl, rfl⟩) g_ va_ (sameBk_c (hN2.sm (by omega)) (hN2.sm (by omega))) ?_); rintro _ _ ⟨rfl, rfl⟩
    rw [dd]
    (refine aL_S rfl rfl v_ ?_)
    refine aL_GT rfl rfl v_ rfl vg_ ?_
    refine aL_GT rfl rfl v_ rfl vg_ ?_
    refine aL_GT rfl rfl v_ rfl vg_ ?_
    iterate 2 (refine aL_S rfl rfl v_ ?_)
    refine aL_GT rfl rfl v_ rfl vg_ ?_
    refine aL_GT rfl rfl v_ rfl vg_ ?_
    refine aL_GTX rfl rfl v_ rfl (fun hb => AOp_useV (by rfl) (by rfl) (.inr ⟨by rfl, by rfl, by rfl⟩) g_ cg_ (sameBk_c (hN3.sm (by omega)) (hN3.sm (by omega)))) ?_
    iterate 2 (refine aL_S rfl rfl v_ ?_)
    refine aL_GT rfl rfl v_ rfl vg_ ?_
    refine aL_GT rfl rfl v_ rfl vg_ ?_
    refine aL_GT rfl rfl v_ rfl vg_ ?_
    iterate 2 (refine aL_S rfl rfl v_ ?_)
    refine aL_GTX rfl rfl v_ rfl (fun hb => AOp_useV (by rfl) (by rfl) (.inr ⟨by rfl, by rfl, by rfl⟩) g_ cg_ (awake27_c)) ?_
    iterate 2 (refine aL_S rfl rfl v_ ?_)
    refine aL_nil ?_
    refine awp_ret ?_
    refine aEnd_ret (σ' := σ) v_ sub_ ?_
    exact ⟨by simp, rfl⟩
end Go.Proofs.YtbcgkbdacijoiaaGreat
end

section
set_option linter.all false
set_option maxRecDepth 100000
namespace Go.Proofs.YtbcgkbdacijoiaaGreat
open Go.Ab
end Go.Proofs.YtbcgkbdacijoiaaGreat
end

section
set_option linter.all false
set_option maxRecDepth 100000
namespace Go.Proofs.YtbcgkbdacijoiaaGreat
open Go.Ab
/-- the books behind each part of a row of records -/
structure Beh (L : List (List UInt8)) (i : Nat) (bs : List Bk) : Prop where
  len : bs.length = i + 1
  at_ : ∀ j c, bs[j]? = some c → Runs bk0 (L.take j) c ∧ BkN j c
theorem Beh.next {L : List (List UInt8)} {i : Nat} {bs : List Bk} {b : Bk} {r : List UInt8} (h : Beh L i bs) (hb : bs[i]? = some b) (hr : L[i]? = some r) (hok : (apl b r).2 = true) (ho : ObjSm (rdObj (hdX r)).1) : Beh L (i + 1) (bs ++ [(apl b r).1]) ∧ (bs ++ [(apl b r).1])[i + 1]? = some (apl b r).1 := by
  have hl := h.len
  refine ⟨⟨by simp [hl], fun j c hj => ?_⟩, by rw [List.getElem?_append_right (by omega), hl]; simp⟩
  by_cases hlt : j < bs.length
  · rw [List.getElem?_append_left hlt] at hj; exact h.at_ j c hj
  · rw [List.getElem?_append_right (by omega)] at hj
    have hj1 : j = i + 1 := by
      have := (List.getElem?_eq_some_iff.1 hj).1
      simp at this; omega
    subst hj1
    rw [hl] at hj
    simp at hj
    subst hj
    obtain ⟨h1, h2⟩ := h.at_ i b hb
    exact ⟨runs_next h1 hr hok, h2.apl ho⟩
end Go.Proofs.YtbcgkbdacijoiaaGreat
end
