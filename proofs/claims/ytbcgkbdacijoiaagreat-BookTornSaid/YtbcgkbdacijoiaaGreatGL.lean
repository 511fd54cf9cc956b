/-
  Replay of books, both sides; A book's bytes; What must come, whatever the arguments are: books; BookRecords, BookApplies, BookBack; BookBack; BookTorn. Own work (an AI agent).
-/
import Derived.Test.YtbcgkbdacijoiaaGreatGK
import Derived.Test.YtbcgkbdacijoiaaGreatGG
import Derived.Test.YtbcgkbdacijoiaaGreatGF

section
set_option linter.all false
set_option maxRecDepth 100000
namespace Go.Proofs.YtbcgkbdacijoiaaGreat
open Go.Ab
/-- a book of so many things -/
structure BkN (n : Nat) (b : Bk) : Prop where
  items : ∀ x ∈ b.items, ItemSm x
  mints : ∀ x ∈ b.mints, x.place.size ≤ 1000000
  ni : b.items.length ≤ n
  nm : b.mints.length ≤ n
theorem BkN.sm {n : Nat} {b : Bk} (h : BkN n b) (hn : n ≤ 100000) : BkSm b := ⟨h.items, h.mints, Nat.le_trans h.ni hn, Nat.le_trans h.nm hn⟩
theorem BkN.apl {n : Nat} {b : Bk} {r : List UInt8} (h : BkN n b) (ho : ObjSm (rdObj (hdX r)).1) : BkN (n + 1) (apl b r).1 := by
  have h1 := h.ni; have h2 := h.nm
  have hb : BkN (n + 1) b := ⟨h.items, h.mints, by omega, by omega⟩
  unfold Go.Proofs.YtbcgkbdacijoiaaGreat.apl
  split
  · rename_i hp
    have hs := placeOk_size hp
    split
    · refine ⟨fun x hx => ?_, h.mints, Nat.le_trans insK_len (by omega), by show b.mints.length ≤ n + 1; omega⟩
      rcases insK_mem hx with rfl | hx
      · exact ⟨by show (hdP r).size ≤ 1000000; omega, ho⟩
      · exact h.items x hx
    · split
      · exact ⟨fun x hx => h.items x ((List.mem_filter.1 hx).1), h.mints, Nat.le_trans (List.length_filter_le ..) (by omega), by show b.mints.length ≤ n + 1; omega⟩
      · split
        · refine ⟨h.items, fun x hx => ?_, by show b.items.length ≤ n + 1; omega, Nat.le_trans insK_len (by omega)⟩
          rcases insK_mem hx with rfl | hx
          · show (hdP r).size ≤ 1000000; omega
          · exact h.mints x hx
        · exact hb
  · exact hb
theorem bkN0 (n : Nat) : BkN n bk0 := ⟨fun x hx => absurd hx List.not_mem_nil, fun x hx => absurd hx List.not_mem_nil, Nat.zero_le _, Nat.zero_le _⟩
theorem BkN.le {n m : Nat} {b : Bk} (h : BkN n b) (hn : n ≤ m) : BkN m b := ⟨h.items, h.mints, Nat.le_trans h.ni hn, Nat.le_trans h.nm hn⟩
theorem bk0_ok : bkOk bk0 = true := rfl
theorem rpl_at {l : List (List UInt8)} {k : Nat} {b : Bk} (h : Runs bk0 (l.take k) b) : rpl bk0 l = ((rpl b (l.drop k)).1, (allF (l.take k)).length + (rpl b (l.drop k)).2) := by
  have := rpl_app (m := l.drop k) h
  rwa [List.take_append_drop] at this
theorem runs_next {l : List (List UInt8)} {k : Nat} {b : Bk} {r : List UInt8} (h : Runs bk0 (l.take k) b) (hr : l[k]? = some r) (hok : (apl b r).2 = true) : Runs bk0 (l.take (k + 1)) (apl b r).1 := by
  rw [take_snoc hr]; exact h.snoc hok
set_option maxHeartbeats 2000000 in
theorem replay_c {s : List UInt8} {σ : Store} (hs : s.length ≤ 100000000) (hn : (scanF s).length ≤ 10000) (ho : ∀ r ∈ scanF s, ObjSm (rdObj (hdX r)).1) : ACalls Tryz.prog 39 [vStr (B s)] σ fun v σ' => v = .tup [sBk (rpl bk0 (scanF s)).1, vInt (rpl bk0 (scanF s)).2] ∧ σ = σ' := by
  obtain ⟨l, hl⟩ : ∃ l, scanF s = l := ⟨_, rfl⟩
  obtain ⟨u, hu, _⟩ := scanF_len s
  have hal : (allF l).length ≤ s.length := by rw [hl] at hu; rw [hu, List.length_append]; omega
  rw [hl] at hn ho
  have hle := allF_le l
  refine ACalls_of Tryz.func39 rfl Tryz.ntmps39 (congrArg Array.toList Tryz.results39) (by simp only [List.length_cons, List.length_nil]; decide) ?_; simp only [envOf_cons, envOf_nil, Nat.reduceAdd]
  refine awp_seq ?_
  refine awp_region (by kernel_rfl) ?_
  refine aL_alloc rfl rfl rfl g_ gl_ fun o2 ho2 => ?_
  repeat (rw [none_set_iff] at ho2; obtain ⟨_, ho2⟩ := ho2)
  (refine aL_S rfl rfl v_ ?_)
  refine aL_nil ?_
  refine awp_seq ?_
  refine awp_region (by kernel_rfl) ?_
  refine aL_alloc rfl rfl rfl g_ gl_ fun o4 ho4 => ?_
  repeat (rw [none_set_iff] at ho4; obtain ⟨_, ho4⟩ := ho4)
  refine aL_nil ?_
  refine awp_seq ?_
  refine awp_region (by kernel_rfl) ?_
  (refine aL_S rfl rfl v_ ?_)
  refine aL_nil ?_
  refine awp_seq ?_
  refine awp_region (by kernel_rfl) ?_
  (refine aL_S rfl rfl v_ ?_)
  refine aL_X rfl rfl (AOp_use rfl rfl (.inr ⟨rfl, rfl, rfl⟩) g_ va_ (scan_c hs) ?_); rintro _ _ ⟨rfl, rfl⟩
  rw [hl]
  iterate 5 (refine aL_S rfl rfl v_ ?_)
  refine aL_nil ?_
  refine awp_seq ?_
  refine awp_seq ?_
  refine awp_region (by kernel_rfl) ?_
  iterate 3 (refine aL_S rfl rfl v_ ?_)
  refine aL_nil ?_
  refine awp_wkCells o4 (cs := [vNil, vNil]) (sBk bk0).cells h_ ⟨.nil _ _, .nil _ _, trivial⟩ ?_
  refine awp_block ?_
  refine awp_loop_env (ι := Nat × Bk) (fun ⟨k, b⟩ => l.length - k) (fun ⟨k, b⟩ => k ≤ l.length ∧ Runs bk0 (l.take k) b ∧ BkN k b) (fun ⟨k, b⟩ => [(2, .ref o2 0), (4, .ref o4 0), (5, vInt (allF (l.take k)).length), (17, .sl 1 (vBs l) false), (18, vInt l.length), (19, vInt k)]) (fun ⟨k, b⟩ => ((σ.set o2 (.cells [vNil, vNil])).set o4 (.cells (sBk b).cells))) (0, bk0) ?_ ?_ ?_ ?_
  · exact ⟨Nat.zero_le _, rfl, bkN0 0⟩
  · exact cv_
  · (try dsimp only); simp only [Store.set_set]; exact Store.Wk.refl _
  rintro ⟨k, b⟩ ⟨hk, hR, hN⟩
  simp only [envL_cons, envL_nil]
  refine awp_seq ?_
  refine awp_region (by kernel_rfl) ?_
  (refine aL_S rfl rfl v_ ?_)
  refine aL_nil ?_
  refine awp_seq ?_
  refine awp_cond v_ (fun hc5 => ?_) (fun hc5 => ?_)
  · replace hc5 := nm_ hc5
    refine awp_skip ?_
    refine awp_seq ?_
    refine awp_block ?_
    refine awp_seq ?_
    obtain ⟨r, hr⟩ := get_some (l := l) (k := k) (by omega)
    have hor := ho r (List.mem_of_getElem? hr)
    have hb := hR.ok bk0_ok
    have hBr := B_size r
    have hk2 := hle (k + 1)
    have R := hr
    refine awp_region (by kernel_rfl) ?_
    iterate 3 (refine aL_S rfl rfl v_ ?_)
    refine aL_nil ?_
    refine awp_seq ?_
    refine awp_region (by kernel_rfl) ?_
    iterate 2 (refine aL_S rfl rfl v_ ?_)
    refine aL_X rfl rfl (AOp_use rfl rfl (.inr ⟨rfl, rfl, rfl⟩) g_ va_ (apply_c hb (hN.sm (by omega)) hor) ?_); rintro _ _ ⟨rfl, rfl⟩
    iterate 3 (refine aL_S rfl rfl v_ ?_)
    refine aL_alloc rfl rfl rfl g_ gl_ fun o10 ho10 => ?_
    repeat (rw [none_set_iff] at ho10; obtain ⟨_, ho10⟩ := ho10)
    refine aL_store rfl rfl rfl v_ v_ h_ g_ rfl g_ c_ (by rfl) le_ v_ ?_
    (refine aL_S rfl rfl v_ ?_)
    refine aL_nil ?_
    refine awp_seq ?_
    refine awp_seq ?_
    refine awp_region (by kernel_rfl) ?_
    iterate 2 (refine aL_S rfl rfl v_ ?_)
    refine aL_nil ?_
    refine awp_cond v_ (fun hc8 => ?_) (fun hc8 => ?_)
    · replace hc8 := nm_ hc8
      have hrest : rpl b (l.drop k) = (b, 0) := by rw [drop_cons hr, rpl, if_neg (by simpa using hc8)]
      refine awp_exit ?_
      refine aThen_exit ?_
      refine aBlock_miss (by decide) ?_
      refine aThen_exit ?_
      refine aThen_exit ?_
      refine aBlock_hit ?_
      refine awp_seq ?_
      refine awp_region (by kernel_rfl) ?_
      iterate 2 (refine aL_S rfl rfl v_ ?_)
      refine aL_store rfl rfl rfl v_ v_ h_ g_ rfl g_ c_ (by rfl) le_ v_ ?_
      (refine aL_S rfl rfl v_ ?_)
      refine aL_nil ?_
      refine awp_ret ?_
      refine aEnd_ret (σ' := σ) v_ sub_ ?_
      exact ⟨by rw [rpl_at hR, show rpl b (l.drop k) = (b, 0) from by first | exact hrest | (rw [List.drop_eq_nil_of_le (by omega)]; rfl), Nat.add_zero], rfl⟩
    · replace hc8 := nm_ hc8
      have hok : (apl b r).2 = true := by simpa using hc8
      have hcv : (((allF (l.take (k + 1))).length : Nat) : Int) = (allF (l.take k)).length + (8 + (r.length : Int)) := by rw [allF_take hr, List.length_append, putF_len]; omega
      refine awp_skip ?_
      refine awp_seq ?_
      refine awp_region (by kernel_rfl) ?_
      (refine aL_S rfl rfl v_ ?_)
      refine aL_store rfl rfl rfl v_ v_ h_ g_ rfl g_ c_ (by rfl) le_ v_ ?_
      refine aL_nil ?_
      have R := hBr
      refine awp_region (by kernel_rfl) ?_
      iterate 6 (refine aL_S rfl rfl v_ ?_)
      refine aL_nil ?_
      refine awp_region (by kernel_rfl) ?_
      iterate 2 (refine aL_S rfl rfl v_ ?_)
      refine aL_nil ?_
      refine aNext (ι := Nat × Bk) (i := ⟨k, b⟩) (k + 1, (apl b r).1) ?_ ?_ ?_ ?_
      · show l.length - (k + 1) < l.length - k; omega
      · exact ⟨by show k + 1 ≤ l.length; omega, runs_next hR hr hok, hN.apl hor⟩
      · have R := hcv; exact cv_
      · exact sub_
  · replace hc5 := nm_ hc5
    refine awp_exit ?_
    refine aThen_exit ?_
    refine aThen_exit ?_
    refine aBlock_hit ?_
    refine awp_seq ?_
    refine awp_region (by kernel_rfl) ?_
    iterate 2 (refine aL_S rfl rfl v_ ?_)
    refine aL_store rfl rfl rfl v_ v_ h_ g_ rfl g_ c_ (by rfl) le_ v_ ?_
    (refine aL_S rfl rfl v_ ?_)
    refine aL_nil ?_
    refine awp_ret ?_
    refine aEnd_ret (σ' := σ) v_ sub_ ?_
    exact ⟨by rw [rpl_at hR, show rpl b (l.drop k) = (b, 0) from by first | exact hrest | (rw [List.drop_eq_nil_of_le (by omega)]; rfl), Nat.add_zero], rfl⟩
end Go.Proofs.YtbcgkbdacijoiaaGreat
end

section
set_option linter.all false
set_option maxRecDepth 100000
namespace Go.Proofs.YtbcgkbdacijoiaaGreat
open Go.Ab
def bytS (b : Bk) : List UInt8 × Int := if bkOk b then (bytesK b, 0) else ([], 1)
theorem vBs_snoc {α : Type} {f : α → List UInt8} {A : List (List UInt8)} {l : List α} {k : Nat} {x : α} (h : l[k]? = some x) : vBs (A ++ (l.take (k + 1)).map f) = vBs (A ++ (l.take k).map f) ++ [vStr (B (f x))] := by
  rw [take_snoc h]; simp [vBs]
theorem vBs_len (l : List (List UInt8)) : (vBs l).length = l.length := by simp [vBs]
set_option maxHeartbeats 2000000 in
theorem bytes_c {b : Bk} {σ : Store} (hs : BkSm b) (hT : (bytesK b).length ≤ 100000000) : ACalls Tryz.prog 43 [sBk b] σ fun v σ' => v = .tup [vStr (B (bytS b).1), vInt (bytS b).2] ∧ σ = σ' := by
  have ni := hs.ni; have nm := hs.nm
  refine ACalls_of Tryz.func43 rfl Tryz.ntmps43 (congrArg Array.toList Tryz.results43) (by simp only [List.length_cons, List.length_nil]; decide) ?_; simp only [envOf_cons, envOf_nil, Nat.reduceAdd]
  refine awp_seq ?_
  refine awp_region (by kernel_rfl) ?_
  refine aL_box rfl rfl rfl v_ rfl g_ fun o1 ho1 => ?_
  repeat (rw [none_set_iff] at ho1; obtain ⟨_, ho1⟩ := ho1)
  iterate 2 (refine aL_S rfl rfl v_ ?_)
  refine aL_nil ?_
  refine awp_seq ?_
  refine awp_seq ?_
  refine awp_region (by kernel_rfl) ?_
  (refine aL_S rfl rfl v_ ?_)
  refine aL_X rfl rfl (AOp_use rfl rfl (.inr ⟨rfl, rfl, rfl⟩) g_ va_ (bkCheck_c hs) ?_); rintro _ _ ⟨rfl, rfl⟩
  (refine aL_S rfl rfl v_ ?_)
  refine aL_nil ?_
  refine awp_cond v_ (fun hc1 => ?_) (fun hc1 => ?_)
  · replace hc1 := nm_ hc1
    refine awp_seq ?_
    refine awp_region (by kernel_rfl) ?_
    iterate 2 (refine aL_S rfl rfl v_ ?_)
    refine aL_nil ?_
    refine awp_ret ?_
    refine aEnd_ret (σ' := σ) v_ sub_ ?_
    exact ⟨by rw [show bytS b = ([], 1) from by rw [bytS, if_neg]; intro h; rw [h] at hc1; simp at hc1]; rfl, rfl⟩
  · replace hc1 := nm_ hc1
    skip
    have hb : bkOk b = true := by cases h : bkOk b with | true => rfl | false => rw [h] at hc1; simp at hc1
    obtain ⟨⟨ri, ci⟩, rm, cm⟩ := bkOk_iff.1 hb
    refine awp_skip ?_
    refine awp_seq ?_
    refine awp_region (by kernel_rfl) ?_
    refine aL_nilOwn 9 1 rfl rfl rfl (by rfl) fun k4 hk4 => ?_
    refine aL_nil ?_
    refine awp_seq ?_
    refine awp_seq ?_
    refine awp_region (by kernel_rfl) ?_
    iterate 4 (refine aL_S rfl rfl v_ ?_)
    refine aL_nil ?_
    refine awp_block ?_
    refine awp_loop_env (ι := Nat × Nat) (fun ⟨tk, k⟩ => b.items.length - k) (fun ⟨tk, k⟩ => k ≤ b.items.length ∧ σ.tok tk = none) (fun ⟨tk, k⟩ => [(1, .ref o1 0), (4, .own tk 1 (vBs ((b.items.take k).map recI))), (17, .sl 3 (b.items.map sItem) false), (18, vInt b.items.length), (19, vInt k)]) (fun ⟨tk, k⟩ => ((σ.set o1 (.cells (sBk b).cells)).newTok none tk (9, 1))) (k4, 0) ?_ ?_ ?_ ?_
    · exact ⟨Nat.zero_le _, hk4⟩
    · exact cv_
    · exact Store.Wk.refl _
    rintro ⟨tk, k⟩ ⟨hk, htk⟩
    simp only [envL_cons, envL_nil]
    refine awp_seq ?_
    refine awp_region (by kernel_rfl) ?_
    (refine aL_S rfl rfl v_ ?_)
    refine aL_nil ?_
    refine awp_seq ?_
    refine awp_cond v_ (fun hc5 => ?_) (fun hc5 => ?_)
    · replace hc5 := nm_ hc5
      refine awp_skip ?_
      refine awp_seq ?_
      refine awp_block ?_
      refine awp_seq ?_
      obtain ⟨x, hx⟩ := get_some (l := b.items) (k := k) (by omega)
      have sx := hs.items x (List.mem_of_getElem? hx)
      have hcv : vBs ((b.items.take (k + 1)).map recI) = vBs ((b.items.take k).map recI) ++ [vStr (B (recI x))] := vBs_snoc (f := recI) (A := []) hx
      have hrec : putRS x.place x.obj = (recI x, 0) := by
        have h := ci x (List.mem_of_getElem? hx)
        rw [putRS, h.1, h.2]; rfl
      have R := hx
      refine awp_region (by kernel_rfl) ?_
      iterate 2 (refine aL_S rfl rfl v_ ?_)
      refine aL_alloc rfl rfl rfl g_ gl_ fun o6 ho6 => ?_
      repeat (rw [none_set_iff] at ho6; obtain ⟨_, ho6⟩ := ho6)
      refine aL_store rfl rfl rfl v_ v_ h_ g_ rfl g_ c_ (by rfl) le_ v_ ?_
      refine aL_nil ?_
      have h6 : o6 ≠ o1 ∧ σ.heap o6 = none := by
        have h := ho6
        simp only [Store.newTok_heap] at h
        rwa [none_set_iff] at h
      obtain ⟨n61, h6⟩ := h6
      refine awp_seq ?_
      refine awp_region (by kernel_rfl) ?_
      iterate 4 (refine aL_S rfl rfl v_ ?_)
      refine aL_X rfl rfl (AOp_use rfl rfl (.inr ⟨rfl, rfl, rfl⟩) g_ va_ (putRec_c sx.place sx.obj) ?_); rintro _ _ ⟨rfl, rfl⟩
      rw [hrec]
      iterate 5 (refine aL_S rfl rfl v_ ?_)
      refine aL_nil ?_
      refine awp_region (by kernel_rfl) ?_
      iterate 2 (refine aL_S rfl rfl v_ ?_)
      refine aL_buildSlice rfl rfl rfl g_ g_ rfl rfl h_ c2_ (by decide) ?_
      refine aL_append rfl rfl rfl g_ g_ v_ h_ v_ c_ (by simp [vBs_len]; omega) fun k34 hk34 => ?_
      have t34 : σ.tok k34 = none := (newTok_none hk34).2
      (refine aL_S rfl rfl v_ ?_)
      refine aL_nil ?_
      refine awp_region (by kernel_rfl) ?_
      iterate 2 (refine aL_S rfl rfl v_ ?_)
      refine aL_nil ?_
      refine aNext (ι := Nat × Nat) (i := ⟨tk, k⟩) (k34, k + 1) ?_ ?_ ?_ ?_
      · show b.items.length - (k + 1) < b.items.length - k; omega
      · exact ⟨by show k + 1 ≤ b.items.length; omega, t34⟩
      · have R := hcv; exact cv_
      · exact sub_
    · replace hc5 := nm_ hc5
      refine awp_exit ?_
      refine aThen_exit ?_
      refine aThen_exit ?_
      refine aBlock_hit ?_
      refine awp_seq ?_
      refine awp_seq ?_
      obtain rfl : k = b.items.length := by omega
      rw [List.take_length]
      have hi0 : vBs (b.items.map recI ++ (b.mints.take 0).map recM) = vBs (b.items.map recI) := by simp
      refine awp_region (by kernel_rfl) ?_
      iterate 4 (refine aL_S rfl rfl v_ ?_)
      refine aL_nil ?_
      refine awp_block ?_
      refine awp_loop_env (ι := Nat × Nat) (fun ⟨tj, j⟩ => b.mints.length - j) (fun ⟨tj, j⟩ => j ≤ b.mints.length ∧ σ.tok tj = none) (fun ⟨tj, j⟩ => [(4, .own tj 1 (vBs (b.items.map recI ++ (b.mints.take j).map recM))), (37, .sl 2 (b.mints.map sMnt) false), (38, vInt b.mints.length), (39, vInt j)]) (fun ⟨tj, j⟩ => ((σ.set o1 (.cells (sBk b).cells)).newTok none tj (9, 1))) (tk, 0) ?_ ?_ ?_ ?_
      · exact ⟨Nat.zero_le _, htk⟩
      · have R := hi0; exact cv_
      · exact Store.Wk.refl _
      rintro ⟨tj, j⟩ ⟨hj, htj⟩
      simp only [envL_cons, envL_nil]
      refine awp_seq ?_
      refine awp_region (by kernel_rfl) ?_
      (refine aL_S rfl rfl v_ ?_)
      refine aL_nil ?_
      refine awp_seq ?_
      refine awp_cond v_ (fun hc11 => ?_) (fun hc11 => ?_)
      · replace hc11 := nm_ hc11
        refine awp_skip ?_
        refine awp_seq ?_
        refine awp_block ?_
        refine awp_seq ?_
        obtain ⟨x, hx⟩ := get_some (l := b.mints) (k := j) (by omega)
        have sx := hs.mints x (List.mem_of_getElem? hx)
        have hcv := vBs_snoc (f := recM) (A := b.items.map recI) hx
        have hrec : mintRS x.place x.n = (recM x, 0) := by
          have h := cm x (List.mem_of_getElem? hx)
          rw [mintRS, h.1, h.2]; rfl
        have R := hx
        refine awp_region (by kernel_rfl) ?_
        iterate 2 (refine aL_S rfl rfl v_ ?_)
        refine aL_alloc rfl rfl rfl g_ gl_ fun o10 ho10 => ?_
        repeat (rw [none_set_iff] at ho10; obtain ⟨_, ho10⟩ := ho10)
        refine aL_store rfl rfl rfl v_ v_ h_ g_ rfl g_ c_ (by rfl) le_ v_ ?_
        refine aL_nil ?_
        have h10 : o10 ≠ o1 ∧ σ.heap o10 = none := by
          have h := ho10
          simp only [Store.newTok_heap] at h
          rwa [none_set_iff] at h
        obtain ⟨n101, h10⟩ := h10
        refine awp_seq ?_
        refine awp_region (by kernel_rfl) ?_
        iterate 4 (refine aL_S rfl rfl v_ ?_)
        refine aL_X rfl rfl (AOp_use rfl rfl (.inr ⟨rfl, rfl, rfl⟩) g_ va_ (mintRec_c sx) ?_); rintro _ _ ⟨rfl, rfl⟩
        rw [hrec]
        iterate 5 (refine aL_S rfl rfl v_ ?_)
        refine aL_nil ?_
        refine awp_region (by kernel_rfl) ?_
        iterate 2 (refine aL_S rfl rfl v_ ?_)
        refine aL_buildSlice rfl rfl rfl g_ g_ rfl rfl h_ c2_ (by decide) ?_
        refine aL_append rfl rfl rfl g_ g_ v_ h_ v_ c_ (by simp [vBs_len]; omega) fun k54 hk54 => ?_
        have t54 : σ.tok k54 = none := (newTok_none hk54).2
        (refine aL_S rfl rfl v_ ?_)
        refine aL_nil ?_
        refine awp_region (by kernel_rfl) ?_
        iterate 2 (refine aL_S rfl rfl v_ ?_)
        refine aL_nil ?_
        refine aNext (ι := Nat × Nat) (i := ⟨tj, j⟩) (k54, j + 1) ?_ ?_ ?_ ?_
        · show b.mints.length - (j + 1) < b.mints.length - j; omega
        · exact ⟨by show j + 1 ≤ b.mints.length; omega, t54⟩
        · have R := hcv; exact cv_
        · exact sub_
      · replace hc11 := nm_ hc11
        refine awp_exit ?_
        refine aThen_exit ?_
        refine aThen_exit ?_
        refine aBlock_hit ?_
        refine awp_seq ?_
        obtain rfl : j = b.mints.length := by omega
        rw [List.take_length, show b.items.map recI ++ b.mints.map recM = recsB b from rfl]
        refine awp_region (by kernel_rfl) ?_
        (refine aL_S rfl rfl v_ ?_)
        refine aL_X rfl rfl (AOp_use rfl rfl (.inr ⟨rfl, rfl, rfl⟩) g_ va_ (ACalls.wkA (args := [.own tj 1 (vBs (recsB b))]) (fAll_c (l := recsB b) (t := false) (by rw [recsB]; simp; omega) hT) rfl (fun i hi hi' => by match i, hi with | 0, _ => exact .own1 _ _ _)) ?_); rintro _ _ ⟨rfl, rfl⟩
        iterate 2 (refine aL_S rfl rfl v_ ?_)
        refine aL_nil ?_
        refine awp_ret ?_
        refine aEnd_ret (σ' := σ) v_ sub_ ?_
        exact ⟨by rw [show bytS b = (bytesK b, 0) from by rw [bytS, hb]; rfl]; rfl, rfl⟩
end Go.Proofs.YtbcgkbdacijoiaaGreat
end

section
set_option linter.all false
set_option maxRecDepth 100000
namespace Go.Proofs.YtbcgkbdacijoiaaGreat
open Go.Ab
theorem rdTake_rest (x : Rd) (n : Nat) : (rdTake x n).2.1.length ≤ x.1.length := by
  unfold rdTake; split
  · simp
  · exact Nat.le_refl _
theorem rdCnt_rest (x : Rd) (m : Nat) : (rdCnt x m).2.1.length ≤ x.1.length := by
  unfold rdCnt; split
  · exact rdTake_rest x 4
  · exact rdTake_rest x 4
theorem hdX_len (r : List UInt8) : (hdX r).1.length ≤ r.length := by
  unfold hdX rdText
  exact Nat.le_trans (rdTake_rest _ _) (Nat.le_trans (rdCnt_rest _ _) (rdTake_rest (r, true) 1))
theorem rec_sm {r : List UInt8} (h : r.length ≤ 4000) : ObjSm (rdObj (hdX r)).1 := rdObj_sm (Nat.le_trans (hdX_len r) h)
theorem recI_sm {x : Itm} (hp : placeOk x.place = true) (hr : ObjRt x.obj) (hs : ObjSm x.obj) : ObjSm (rdObj (hdX (recI x))).1 := by
  obtain ⟨_, _, e3⟩ := hd_put (k := 1) (l := objB x.obj) (p := x.place) (by have := placeOk_size hp; omega)
  have e4 := rdObj_app hr []
  rw [List.append_nil] at e4
  have f3 : hdX (recI x) = (objB x.obj, true) := e3
  rw [f3, e4]; exact hs
theorem recM_len {x : Mnt} (hp : placeOk x.place = true) : (recM x).length ≤ 200 := by
  have h := placeOk_size hp
  have h2 := textB_length x.place
  have h3 := beI_length 8 x.n
  simp only [recM, mintR, List.length_cons, List.length_append]; omega
theorem scanF_nil : scanF [] = [] := rfl
theorem scanF_all {l : List (List UInt8)} (h : ∀ b ∈ l, b.length ≤ 1048576) : scanF (allF l) = l := by
  have := scanF_app (t := []) h
  rwa [List.append_nil, scanF_nil, List.append_nil] at this
/-! ### one book -/
def sA : Seen := ⟨⟨#[97]⟩, 1, []⟩
def oA : Obj' := ⟨[sA], []⟩
def pA : ByteArray := ⟨#[98, 47, 107]⟩
def bA : Bk := ⟨[⟨pA, oA⟩], [⟨pA, 3⟩]⟩
def rP : List UInt8 := putR pA oA
def rM : List UInt8 := mintR pA 3
def rD : List UInt8 := dropR pA
theorem oA_wk : Wk (.agg [.sl 3 [.agg [.lit (.string ⟨#[97]⟩), .lit (.int .i64 1), .lit (.slice none 0 0)]] true, .lit (.slice none 0 0)]) (sObj oA) := .agg _ _ rfl fun j hj hj' => by
  match j, hj with
  | 0, _ => exact .sl _ _ _ _ rfl (szSeen _) (fun k hk hk' => by
      match k, hk with
      | 0, _ => exact .agg _ _ rfl (fun n hn hn' => by match n, hn with | 0, _ => exact .refl _ | 1, _ => exact .refl _ | 2, _ => exact .nil _ _))
  | 1, _ => exact .nil _ _
theorem pA_ok : placeOk pA = true := by decide +kernel
theorem oA_ok : objOk oA = true := by decide +kernel
theorem oA_rt : ObjRt oA := objOk_rt oA_ok (by decide) (by decide)
theorem oA_sm : ObjSm oA := ⟨fun x hx => by rw [List.mem_singleton.1 hx]; exact ⟨by decide, by decide⟩, fun x hx => absurd hx List.not_mem_nil, by decide, by decide⟩
theorem n3_ok : cntOk 3 = true := by decide +kernel
theorem putRS_A : putRS pA oA = (rP, 0) := by rw [putRS, pA_ok, oA_ok]; rfl
theorem mintRS_A : mintRS pA 3 = (rM, 0) := by rw [mintRS, pA_ok, n3_ok]; rfl
theorem dropRS_A : dropRS pA = (rD, 0) := by rw [dropRS, pA_ok]; rfl
theorem lensA : rP.length ≤ 100 ∧ rM.length ≤ 100 ∧ rD.length ≤ 100 := by decide +kernel
theorem bA_ok : bkOk bA = true := by decide +kernel
theorem aplA1 : apl bk0 rP = (⟨[⟨pA, oA⟩], []⟩, true) := apl_put pA_ok oA_ok oA_rt
theorem aplA2 : apl ⟨[⟨pA, oA⟩], []⟩ rM = (bA, true) := apl_mint pA_ok n3_ok
theorem aplA3 : apl bA [120] = (bA, false) := apl_no (.inl (by decide +kernel))
theorem rplA : rpl bk0 [rP, rM, [120]] = (bA, (bytesK bA).length) := by
  have e : (bytesK bA).length = 8 + rP.length + (8 + rM.length) := by
    show (allF [rP, rM]).length = _
    simp only [allF, List.flatMap_cons, List.flatMap_nil, List.length_append, putF_len, List.length_nil, Nat.add_zero]
  rw [rpl, aplA1, if_pos rfl, rpl, aplA2, if_pos rfl, rpl, aplA3, if_neg (by decide), e]
  rfl
theorem apsA : apS bA rD = (⟨[], bA.mints⟩, 0) := by rw [apS, bA_ok, show apl bA rD = _ from apl_drop pA_ok]; rfl
theorem bytA : bytS bA = (bytesK bA, 0) := by rw [bytS, bA_ok]; rfl
theorem getA : getS bA.items pA = (oA, true) := by decide +kernel
theorem nextA : nextS bA.mints pA = 4 ∧ nextS bA.mints ⟨#[98, 47, 106]⟩ = 1 := by decide +kernel
theorem bA_sm : BkSm bA := ⟨fun x hx => by rw [List.mem_singleton.1 hx]; exact ⟨by decide, oA_sm⟩, fun x hx => by rw [List.mem_singleton.1 hx]; decide, by decide, by decide⟩
theorem scanA : scanF (allF [rP, rM, [120]]) = [rP, rM, [120]] := by
  obtain ⟨h1, h2, h3⟩ := lensA
  refine scanF_all fun b hb => ?_
  rcases List.mem_cons.1 hb with rfl | hb
  · omega
  rcases List.mem_cons.1 hb with rfl | hb
  · omega
  rw [List.mem_singleton.1 hb]; decide
theorem allA_len : (allF [rP, rM, [120]]).length ≤ 1000 := by
  obtain ⟨h1, h2, h3⟩ := lensA
  simp only [allF, List.flatMap_cons, List.flatMap_nil, List.length_append, putF_len, List.length_nil, List.length_cons]; omega
theorem bytA_len : (bytesK bA).length ≤ 1000 := by
  obtain ⟨h1, h2, h3⟩ := lensA
  show (allF [rP, rM]).length ≤ _
  simp only [allF, List.flatMap_cons, List.flatMap_nil, List.length_append, putF_len, List.length_nil]; omega
set_option maxHeartbeats 2000000 in
theorem awake27_c {σ : Store} : ACalls Tryz.prog 29 [] σ fun v σ' => v = vB true ∧ σ = σ' := by
  obtain ⟨q1, q2, q3⟩ := lensA
  have hl1 := B_size (bytesK bA)
  have hi1 : (bA.items.map sItem).length = 1 := rfl
  have hsz : ((bA.items.map fItm).sum : Nat) = 19 := by decide +kernel
  have dOO : (decide (oA = oA)) = true := decide_eq_true rfl
  refine ACalls_of Tryz.func29 rfl Tryz.ntmps29 (congrArg Array.toList Tryz.results29) (by simp only [List.length_cons, List.length_nil]; decide) ?_; simp only [envOf_cons, envOf_nil, Nat.reduceAdd]
  refine awp_seq ?_
  refine awp_region (by kernel_rfl) ?_
  (refine aL_S rfl rfl v_ ?_)
  refine aL_nil ?_
  refine awp_seq ?_
  refine awp_region (by kernel_rfl) ?_
  (refine aL_S rfl rfl v_ ?_)
  refine aL_buildSlice rfl rfl rfl g_ g_ rfl rfl h_ c2_ (by decide) ?_
  refine aL_X rfl rfl (AOp_wk (a := .agg [.sl 3 [.agg [.lit (.string ⟨#[97]⟩), .lit (.int .i64 1), .lit (.slice none 0 0)]] true, .lit (.slice none 0 0)]) (a' := sObj oA) (AOp_val (by rfl) ⟨rfl, rfl⟩) oA_wk ?_)
  refine aL_alloc rfl rfl rfl g_ gl_ fun o1 ho1 => ?_
  repeat (rw [none_set_iff] at ho1; obtain ⟨_, ho1⟩ := ho1)
  refine aL_store rfl rfl rfl v_ v_ h_ g_ rfl g_ c_ (by rfl) le_ v_ ?_
  refine aL_nil ?_
  refine awp_seq ?_
  refine awp_region (by kernel_rfl) ?_
  (refine aL_S rfl rfl v_ ?_)
  refine aL_X rfl rfl (AOp_use rfl rfl (.inr ⟨rfl, rfl, rfl⟩) g_ va_ (putRec_c (p := pA) (o := oA) (by decide) oA_sm) ?_); rintro _ _ ⟨rfl, rfl⟩
  rw [putRS_A]
  iterate 5 (refine aL_S rfl rfl v_ ?_)
  refine aL_nil ?_
  refine awp_seq ?_
  refine awp_region (by kernel_rfl) ?_
  refine aL_X rfl rfl (AOp_use rfl rfl (.inr ⟨rfl, rfl, rfl⟩) g_ va_ (mintRec_c (p := pA) (n := 3) (by decide)) ?_); rintro _ _ ⟨rfl, rfl⟩
  rw [mintRS_A]
  iterate 5 (refine aL_S rfl rfl v_ ?_)
  refine aL_nil ?_
  refine awp_seq ?_
  refine awp_region (by kernel_rfl) ?_
  refine aL_X rfl rfl (AOp_use rfl rfl (.inr ⟨rfl, rfl, rfl⟩) g_ va_ (dropRec_c (p := pA) (by decide)) ?_); rintro _ _ ⟨rfl, rfl⟩
  rw [dropRS_A]
  iterate 5 (refine aL_S rfl rfl v_ ?_)
  refine aL_nil ?_
  refine awp_seq ?_
  refine awp_region (by kernel_rfl) ?_
  iterate 2 (refine aL_S rfl rfl v_ ?_)
  refine aL_buildSlice rfl rfl rfl g_ g_ rfl rfl h_ c2_ (by decide) ?_
  refine aL_X rfl rfl (AOp_use rfl rfl (.inr ⟨rfl, rfl, rfl⟩) g_ va_ (rAll26_c (l := [rP, rM, [120]]) (by decide) (Nat.le_trans allA_len (by decide))) ?_); rintro _ _ ⟨rfl, rfl⟩
  refine aL_X rfl rfl (AOp_use rfl rfl (.inr ⟨rfl, rfl, rfl⟩) g_ va_ (replay_c (s := allF [rP, rM, [120]]) (Nat.le_trans allA_len (by decide)) (by rw [scanA]; decide) (by rw [scanA]; intro r hr; exact rec_sm (by rcases List.mem_cons.1 hr with rfl | hr; omega; rcases List.mem_cons.1 hr with rfl | hr; omega; rw [List.mem_singleton.1 hr]; decide))) ?_); rintro _ _ ⟨rfl, rfl⟩
  rw [scanA, rplA]
  iterate 3 (refine aL_S rfl rfl v_ ?_)
  refine aL_alloc rfl rfl rfl g_ gl_ fun o8 ho8 => ?_
  repeat (rw [none_set_iff] at ho8; obtain ⟨_, ho8⟩ := ho8)
  refine aL_store rfl rfl rfl v_ v_ h_ g_ rfl g_ c_ (by rfl) le_ v_ ?_
  (refine aL_S rfl rfl v_ ?_)
  refine aL_nil ?_
  refine awp_seq ?_
  refine awp_region (by kernel_rfl) ?_
  iterate 2 (refine aL_S rfl rfl v_ ?_)
  refine aL_X rfl rfl (AOp_use rfl rfl (.inr ⟨rfl, rfl, rfl⟩) g_ va_ (aApply_c (r := rD) bA_sm (rec_sm (by omega))) ?_); rintro _ _ ⟨rfl, rfl⟩
  rw [apsA]
  iterate 3 (refine aL_S rfl rfl v_ ?_)
  refine aL_alloc rfl rfl rfl g_ gl_ fun o10 ho10 => ?_
  repeat (rw [none_set_iff] at ho10; obtain ⟨_, ho10⟩ := ho10)
  refine aL_store rfl rfl rfl v_ v_ h_ g_ rfl g_ c_ (by rfl) le_ v_ ?_
  (refine aL_S rfl rfl v_ ?_)
  refine aL_nil ?_
  refine awp_seq ?_
  refine awp_region (by kernel_rfl) ?_
  (refine aL_S rfl rfl v_ ?_)
  refine aL_X rfl rfl (AOp_use rfl rfl (.inr ⟨rfl, rfl, rfl⟩) g_ va_ (get_c (b := bA) (s := pA) (by decide)) ?_); rintro _ _ ⟨rfl, rfl⟩
  rw [getA]
  iterate 3 (refine aL_S rfl rfl v_ ?_)
  refine aL_alloc rfl rfl rfl g_ gl_ fun o12 ho12 => ?_
  repeat (rw [none_set_iff] at ho12; obtain ⟨_, ho12⟩ := ho12)
  refine aL_store rfl rfl rfl v_ v_ h_ g_ rfl g_ c_ (by rfl) le_ v_ ?_
  (refine aL_S rfl rfl v_ ?_)
  refine aL_nil ?_
  refine awp_seq ?_
  refine awp_region (by kernel_rfl) ?_
  (refine aL_S rfl rfl v_ ?_)
  refine aL_X rfl rfl (AOp_use rfl rfl (.inr ⟨rfl, rfl, rfl⟩) g_ va_ (bytes_c bA_sm (Nat.le_trans bytA_len (by decide))) ?_); rintro _ _ ⟨rfl, rfl⟩
  rw [bytA]
  iterate 5 (refine aL_S rfl rfl v_ ?_)
  refine aL_nil ?_
  refine awp_seq ?_
  have R := And.intro hl1 hi1
  refine awp_region (by kernel_rfl) ?_
  iterate 3 (refine aL_S rfl rfl v_ ?_)
  refine aL_SY (wantedA_yes rfl rfl v_ (by rfl)) rfl v_ ?_
  refine aL_SY (wantedA_yes rfl rfl v_ (by rfl)) rfl v_ ?_
  iterate 2 (refine aL_S rfl rfl v_ ?_)
  refine aL_SY (wantedA_yes rfl rfl v_ (by rfl)) rfl v_ ?_
  refine aL_SY (wantedA_yes rfl rfl v_ (by rfl)) rfl v_ ?_
  iterate 2 (refine aL_S rfl rfl v_ ?_)
  refine aL_SY (wantedA_yes rfl rfl v_ (by rfl)) rfl v_ ?_
  refine aL_SY (wantedA_yes rfl rfl v_ (by rfl)) rfl v_ ?_
  iterate 2 (refine aL_S rfl rfl v_ ?_)
  refine aL_SY (wantedA_yes rfl rfl v_ (by rfl)) rfl v_ ?_
  refine aL_SY (wantedA_yes rfl rfl v_ (by rfl)) rfl v_ ?_
  iterate 2 (refine aL_S rfl rfl v_ ?_)
  refine aL_SY (wantedA_yes rfl rfl v_ (by rfl)) rfl v_ ?_
  refine aL_SY (wantedA_yes rfl rfl v_ (by rfl)) rfl v_ ?_
  refine aL_SY (wantedA_yes rfl rfl v_ (by rfl)) rfl v_ ?_
  refine aL_SY (wantedA_yes rfl rfl v_ (by rfl)) rfl v_ ?_
  iterate 2 (refine aL_S rfl rfl v_ ?_)
  refine aL_SY (wantedA_yes rfl rfl v_ (by rfl)) rfl v_ ?_
  refine aL_SY (wantedA_yes rfl rfl v_ (by rfl)) rfl v_ ?_
  refine aL_SY (wantedA_yes rfl rfl v_ (by rfl)) rfl v_ ?_
  refine aL_SY (wantedA_yes rfl rfl v_ (by rfl)) rfl v_ ?_
  iterate 2 (refine aL_S rfl rfl v_ ?_)
  refine aL_SY (wantedA_yes rfl rfl v_ (by rfl)) rfl v_ ?_
  refine aL_SY (wantedA_yes rfl rfl v_ (by rfl)) rfl v_ ?_
  refine aL_SY (wantedA_yes rfl rfl v_ (by rfl)) rfl v_ ?_
  refine aL_SY (wantedA_yes rfl rfl v_ (by rfl)) rfl v_ ?_
  iterate 2 (refine aL_S rfl rfl v_ ?_)
  refine aL_SY (wantedA_yes rfl rfl v_ (by rfl)) rfl v_ ?_
  refine aL_SY (wantedA_yes rfl rfl v_ (by rfl)) rfl v_ ?_
  refine aL_XY (wantedA_yes rfl rfl v_ (by rfl)) rfl (AOp_use rfl rfl (.inr ⟨rfl, rfl, rfl⟩) g_ va_ (same07_f oA_sm oA_sm) ?_); rintro _ _ ⟨rfl, rfl⟩
  rw [dOO]
  iterate 2 (refine aL_S rfl rfl v_ ?_)
  refine aL_SY (wantedA_yes rfl rfl v_ (by rfl)) rfl v_ ?_
  iterate 2 (refine aL_S rfl rfl v_ ?_)
  refine aL_SY (wantedA_yes rfl rfl v_ (by rfl)) rfl v_ ?_
  refine aL_XY (wantedA_yes rfl rfl v_ (by rfl)) rfl (AOp_use rfl rfl (.inr ⟨rfl, rfl, rfl⟩) g_ va_ (next_c (b := bA) (s := pA) (by decide) (fun x hx => by rw [List.mem_singleton.1 hx]; decide)) ?_); rintro _ _ ⟨rfl, rfl⟩
  rw [nextA.1]
  refine aL_SY (wantedA_yes rfl rfl v_ (by rfl)) rfl v_ ?_
  iterate 2 (refine aL_S rfl rfl v_ ?_)
  refine aL_SY (wantedA_yes rfl rfl v_ (by rfl)) rfl v_ ?_
  refine aL_XY (wantedA_yes rfl rfl v_ (by rfl)) rfl (AOp_use rfl rfl (.inr ⟨rfl, rfl, rfl⟩) g_ va_ (next_c (b := bA) (s := ⟨#[98, 47, 106]⟩) (by decide) (fun x hx => by rw [List.mem_singleton.1 hx]; decide)) ?_); rintro _ _ ⟨rfl, rfl⟩
  rw [nextA.2]
  refine aL_SY (wantedA_yes rfl rfl v_ (by rfl)) rfl v_ ?_
  iterate 2 (refine aL_S rfl rfl v_ ?_)
  refine aL_SY (wantedA_yes rfl rfl v_ (by rfl)) rfl v_ ?_
  refine aL_XY (wantedA_yes rfl rfl v_ (by rfl)) rfl (AOp_use rfl rfl (.inr ⟨rfl, rfl, rfl⟩) g_ va_ (bkSize_c (b := bA) bA_sm.items (by decide)) ?_); rintro _ _ ⟨rfl, rfl⟩
  rw [hsz]
  refine aL_SY (wantedA_yes rfl rfl v_ (by rfl)) rfl v_ ?_
  iterate 2 (refine aL_S rfl rfl v_ ?_)
  refine aL_SY (wantedA_yes rfl rfl v_ (by rfl)) rfl v_ ?_
  refine aL_XY (wantedA_yes rfl rfl v_ (by rfl)) rfl (AOp_use rfl rfl (.inr ⟨rfl, rfl, rfl⟩) g_ va_ (bkCheck_c bA_sm) ?_); rintro _ _ ⟨rfl, rfl⟩
  rw [bA_ok]
  refine aL_SY (wantedA_yes rfl rfl v_ (by rfl)) rfl v_ ?_
  iterate 2 (refine aL_S rfl rfl v_ ?_)
  refine aL_nil ?_
  refine awp_ret ?_
  refine aEnd_ret (σ' := σ) v_ sub_ ?_
  exact ⟨rfl, rfl⟩
end Go.Proofs.YtbcgkbdacijoiaaGreat
end

section
set_option linter.all false
set_option maxRecDepth 100000
namespace Go.Proofs.YtbcgkbdacijoiaaGreat
open Go.Ab
theorem bookRecords_c {p : ByteArray} {o : Obj'} {n : Int} {σ : Store} : ACalls Tryz.prog 5 [vStr p, sObj o, vInt n] σ fun v σ' => v = vB true ∧ σ = σ' := by
  refine ACalls_of Tryz.func5 rfl Tryz.ntmps5 (congrArg Array.toList Tryz.results5) (by simp only [List.length_cons, List.length_nil]; decide) ?_; simp only [envOf_cons, envOf_nil, Nat.reduceAdd]
  refine awp_seq ?_
  refine awp_region (by kernel_rfl) ?_
  refine aL_box rfl rfl rfl v_ rfl g_ fun o4 ho4 => ?_
  repeat (rw [none_set_iff] at ho4; obtain ⟨_, ho4⟩ := ho4)
  (refine aL_S rfl rfl v_ ?_)
  refine aL_nil ?_
  refine awp_seq ?_
  refine awp_seq ?_
  refine awp_region (by kernel_rfl) ?_
  iterate 4 (refine aL_S rfl rfl v_ ?_)
  refine aL_GF rfl rfl v_ rfl vg_ ?_
  refine aL_GFX rfl rfl v_ rfl (fun hb => AOp_useV (by rfl) (by rfl) (.inr ⟨by rfl, by rfl, by rfl⟩) g_ cg_ (few07_f)) ?_
  refine aL_GF rfl rfl v_ rfl vg_ ?_
  (refine aL_S rfl rfl v_ ?_)
  refine aL_nil ?_
  refine awp_cond v_ (fun hc1 => ?_) (fun hc1 => ?_)
  · replace hc1 := nm_ hc1
    refine awp_seq ?_
    refine awp_region (by kernel_rfl) ?_
    refine aL_X rfl rfl (AOp_use rfl rfl (.inr ⟨rfl, rfl, rfl⟩) g_ va_ (awake27_c) ?_); rintro _ _ ⟨rfl, rfl⟩
    (refine aL_S rfl rfl v_ ?_)
    refine aL_nil ?_
    refine awp_ret ?_
    refine aEnd_ret (σ' := σ) v_ sub_ ?_
    exact ⟨rfl, rfl⟩
  · replace hc1 := nm_ hc1
    have so := (fewOb_iff.1 hc1.2).sm
    refine awp_skip ?_
    refine awp_seq ?_
    refine awp_region (by kernel_rfl) ?_
    iterate 2 (refine aL_S rfl rfl v_ ?_)
    refine aL_X rfl rfl (AOp_use rfl rfl (.inr ⟨rfl, rfl, rfl⟩) g_ va_ (putRec_c (by omega) so) ?_); rintro _ _ ⟨rfl, rfl⟩
    iterate 5 (refine aL_S rfl rfl v_ ?_)
    refine aL_nil ?_
    refine awp_seq ?_
    refine awp_region (by kernel_rfl) ?_
    iterate 2 (refine aL_S rfl rfl v_ ?_)
    refine aL_X rfl rfl (AOp_use rfl rfl (.inr ⟨rfl, rfl, rfl⟩) g_ va_ (rPutRec_c (by omega) so) ?_); rintro _ _ ⟨rfl, rfl⟩
    iterate 5 (refine aL_S rfl rfl v_ ?_)
    refine aL_nil ?_
    refine awp_seq ?_
    refine awp_region (by kernel_rfl) ?_
    (refine aL_S rfl rfl v_ ?_)
    refine aL_X rfl rfl (AOp_use rfl rfl (.inr ⟨rfl, rfl, rfl⟩) g_ va_ (dropRec_c (by omega)) ?_); rintro _ _ ⟨rfl, rfl⟩
    iterate 5 (refine aL_S rfl rfl v_ ?_)
    refine aL_nil ?_
    refine awp_seq ?_
    refine awp_region (by kernel_rfl) ?_
    (refine aL_S rfl rfl v_ ?_)
    refine aL_X rfl rfl (AOp_use rfl rfl (.inr ⟨rfl, rfl, rfl⟩) g_ va_ (rDropRec_c (by omega)) ?_); rintro _ _ ⟨rfl, rfl⟩
    iterate 5 (refine aL_S rfl rfl v_ ?_)
    refine aL_nil ?_
    refine awp_seq ?_
    refine awp_region (by kernel_rfl) ?_
    iterate 2 (refine aL_S rfl rfl v_ ?_)
    refine aL_X rfl rfl (AOp_use rfl rfl (.inr ⟨rfl, rfl, rfl⟩) g_ va_ (mintRec_c (by omega)) ?_); rintro _ _ ⟨rfl, rfl⟩
    iterate 5 (refine aL_S rfl rfl v_ ?_)
    refine aL_nil ?_
    refine awp_seq ?_
    refine awp_region (by kernel_rfl) ?_
    iterate 2 (refine aL_S rfl rfl v_ ?_)
    refine aL_X rfl rfl (AOp_use rfl rfl (.inr ⟨rfl, rfl, rfl⟩) g_ va_ (rMintRec_c (by omega)) ?_); rintro _ _ ⟨rfl, rfl⟩
    iterate 5 (refine aL_S rfl rfl v_ ?_)
    refine aL_nil ?_
    refine awp_seq ?_
    refine awp_region (by kernel_rfl) ?_
    iterate 4 (refine aL_S rfl rfl v_ ?_)
    refine aL_GT rfl rfl v_ rfl vg_ ?_
    refine aL_GT rfl rfl v_ rfl vg_ ?_
    refine aL_GT rfl rfl v_ rfl vg_ ?_
    iterate 2 (refine aL_S rfl rfl v_ ?_)
    refine aL_GT rfl rfl v_ rfl vg_ ?_
    refine aL_GT rfl rfl v_ rfl vg_ ?_
    refine aL_GT rfl rfl v_ rfl vg_ ?_
    iterate 2 (refine aL_S rfl rfl v_ ?_)
    refine aL_GT rfl rfl v_ rfl vg_ ?_
    refine aL_GT rfl rfl v_ rfl vg_ ?_
    refine aL_GT rfl rfl v_ rfl vg_ ?_
    iterate 2 (refine aL_S rfl rfl v_ ?_)
    refine aL_GT rfl rfl v_ rfl vg_ ?_
    refine aL_GT rfl rfl v_ rfl vg_ ?_
    refine aL_GT rfl rfl v_ rfl vg_ ?_
    iterate 2 (refine aL_S rfl rfl v_ ?_)
    refine aL_GT rfl rfl v_ rfl vg_ ?_
    refine aL_GT rfl rfl v_ rfl vg_ ?_
    refine aL_GT rfl rfl v_ rfl vg_ ?_
    iterate 2 (refine aL_S rfl rfl v_ ?_)
    refine aL_GTX rfl rfl v_ rfl (fun hb => AOp_useV (by rfl) (by rfl) (.inr ⟨by rfl, by rfl, by rfl⟩) g_ cg_ (awake27_c)) ?_
    iterate 2 (refine aL_S rfl rfl v_ ?_)
    refine aL_nil ?_
    refine awp_ret ?_
    refine aEnd_ret (σ' := σ) v_ sub_ ?_
    exact ⟨by simp, rfl⟩
theorem fewBk_sm {b : Bk} (h : fewBk b = true) : BkN 8 b := by
  simp only [fewBk, fewMn, fewIt, Bool.and_eq_true, decide_eq_true_eq, List.all_eq_true] at h
  exact ⟨fun x hx => ⟨by have := (h.1.2 x hx).1; omega, (fewOb_iff.1 (h.1.2 x hx).2).sm⟩, fun x hx => by have := h.2.2 x hx; omega, h.1.1, h.2.1⟩
theorem apS_N {n : Nat} {b : Bk} {r : List UInt8} (h : BkN n b) (ho : ObjSm (rdObj (hdX r)).1) : BkN (n + 1) (apS b r).1 := by
  unfold apS
  split
  · split
    · exact h.apl ho
    · exact bkN0 _
  · exact bkN0 _
theorem rpl_N : ∀ {l : List (List UInt8)} {n : Nat} {b : Bk}, BkN n b → (∀ r ∈ l, ObjSm (rdObj (hdX r)).1) → BkN (n + l.length) (rpl b l).1
  | [], n, b, h, _ => h
  | r :: l, n, b, h, hr => by
    rw [rpl]
    split
    · have := rpl_N (l := l) (h.apl (hr r (.head _))) fun q hq => hr q (.tail _ hq)
      rw [show n + (r :: l).length = n + 1 + l.length by simp; omega]; exact this
    · exact h.le (by omega)
theorem allF_bd {l : List (List UInt8)} {c : Nat} (h : ∀ r ∈ l, r.length ≤ c) : (allF l).length ≤ (c + 8) * l.length := flat_le _ fun r hr => by
  have := h r hr
  rw [putF_len]; omega
end Go.Proofs.YtbcgkbdacijoiaaGreat
end

section
set_option linter.all false
set_option maxRecDepth 100000
namespace Go.Proofs.YtbcgkbdacijoiaaGreat
open Go.Ab
theorem few_objB {o : Obj'} (h : FewO o) : (objB o).length ≤ 10400 := by
  obtain ⟨⟨c1, c2⟩, s1, s2⟩ := h
  have e1 : (o.ctx.flatMap seenB).length ≤ 436 * o.ctx.length := flat_le _ fun x hx => by
    obtain ⟨h1, h2⟩ := c2 x hx
    have h3 := textB_length x.node
    have h4 : (x.more.flatMap (beI 8)).length ≤ 8 * x.more.length := flat_le _ fun y _ => by rw [beI_length]; exact Nat.le_refl _
    simp only [seenB, listB, List.length_append, beI_length]; omega
  have e2 : (o.sibs.flatMap sibB).length ≤ 425 * o.sibs.length := flat_le _ fun x hx => by
    obtain ⟨h1, h2⟩ := s2 x hx
    have h3 := textB_length x.node
    have h4 := textB_length x.value
    simp only [sibB, List.length_append, beI_length]; omega
  simp only [objB, ctxB, listB, List.length_append, beI_length]; omega
theorem recs_len {b : Bk} (hf : fewBk b = true) (hb : bkOk b = true) : ∀ r ∈ recsB b, r.length ≤ 11000 := by
  obtain ⟨⟨_, i2⟩, _, m2⟩ := bkOk_iff.1 hb
  intro r hr
  rcases List.mem_append.1 hr with h | h
  · obtain ⟨x, hx, rfl⟩ := List.mem_map.1 h
    simp only [fewBk, fewIt, Bool.and_eq_true, decide_eq_true_eq, List.all_eq_true] at hf
    have h1 := few_objB (fewOb_iff.1 (hf.1.2 x hx).2)
    have h2 := placeOk_size (i2 x hx).1
    have h3 := textB_length x.place
    simp only [recI, putR, List.length_cons, List.length_append]; omega
  · obtain ⟨x, hx, rfl⟩ := List.mem_map.1 h
    have := recM_len (m2 x hx).1
    omega
theorem few_rt {b : Bk} (hf : fewBk b = true) (hb : bkOk b = true) : ∀ x ∈ b.items, ObjRt x.obj := fun x hx => by
  obtain ⟨⟨_, i2⟩, _⟩ := bkOk_iff.1 hb
  have hs := (fewBk_sm hf).items x hx
  exact objOk_rt (i2 x hx).2 (Nat.le_trans hs.obj.nc (by decide)) (Nat.le_trans hs.obj.ns (by decide))
theorem recs_sm {b : Bk} (hf : fewBk b = true) (hb : bkOk b = true) : ∀ r ∈ recsB b, ObjSm (rdObj (hdX r)).1 := by
  obtain ⟨⟨_, i2⟩, _, m2⟩ := bkOk_iff.1 hb
  intro r hr
  rcases List.mem_append.1 hr with h | h
  · obtain ⟨x, hx, rfl⟩ := List.mem_map.1 h
    exact recI_sm (i2 x hx).1 (few_rt hf hb x hx) ((fewBk_sm hf).items x hx).obj
  · obtain ⟨x, hx, rfl⟩ := List.mem_map.1 h
    exact rec_sm (Nat.le_trans (recM_len (m2 x hx).1) (by decide))
theorem sameB_self (x : Bk) : (decide (x.items = x.items) && decide (x.mints = x.mints)) = true := by simp
theorem allF_one (l : List (List UInt8)) (r : List UInt8) : allF l ++ putF r = allF (l ++ [r]) := by simp [allF]
/-- what is replayed of a book's bytes and one record more -/
theorem rpl_one {b : Bk} {r : List UInt8} (hR : Runs bk0 (recsB b) b) : rpl bk0 (recsB b ++ [r]) = if (apl b r).2 then ((apl b r).1, (bytesK b).length + (putF r).length) else (b, (bytesK b).length) := by
  rw [rpl_app hR, rpl]
  split
  · rw [putF_len]; rfl
  · rfl
set_option maxHeartbeats 4000000 in
theorem bookBack_c {b : Bk} {rec : ByteArray} {cut : Int} {σ : Store} (h0 : 0 ≤ cut) (h1 : cut ≤ 65535) : ACalls Tryz.prog 7 [sBk b, vStr rec, .lit (.int .u16 cut)] σ fun v σ' => v = vB true ∧ σ = σ' := by
  obtain ⟨r, rfl⟩ : ∃ r, rec = B r := ⟨Lb rec, (B_Lb rec).symm⟩
  have hB1 := B_size r
  have hB2 := B_size (bytesK b)
  have hB3 := B_size (putF r)
  have hpl := putF_len r
  refine ACalls_of Tryz.func7 rfl Tryz.ntmps7 (congrArg Array.toList Tryz.results7) (by simp only [List.length_cons, List.length_nil]; decide) ?_; simp only [envOf_cons, envOf_nil, Nat.reduceAdd]
  refine awp_seq ?_
  refine awp_region (by kernel_rfl) ?_
  refine aL_box rfl rfl rfl v_ rfl g_ fun o3 ho3 => ?_
  repeat (rw [none_set_iff] at ho3; obtain ⟨_, ho3⟩ := ho3)
  (refine aL_S rfl rfl v_ ?_)
  refine aL_nil ?_
  refine awp_seq ?_
  refine awp_seq ?_
  have R := hB1
  refine awp_region (by kernel_rfl) ?_
  (refine aL_S rfl rfl v_ ?_)
  refine aL_X rfl rfl (AOp_use rfl rfl (.inr ⟨rfl, rfl, rfl⟩) g_ va_ (fewBk_c) ?_); rintro _ _ ⟨rfl, rfl⟩
  iterate 2 (refine aL_S rfl rfl v_ ?_)
  refine aL_GF rfl rfl v_ rfl vg_ ?_
  refine aL_GFX rfl rfl v_ rfl (fun hb => AOp_useV (by rfl) (by rfl) (.inr ⟨by rfl, by rfl, by rfl⟩) g_ cg_ (rMayB_c ((fewBk_sm (by simpa using hb)).sm (by omega)))) ?_
  refine aL_GF rfl rfl v_ rfl vg_ ?_
  iterate 2 (refine aL_S rfl rfl v_ ?_)
  refine aL_GF rfl rfl v_ rfl vg_ ?_
  refine aL_GF rfl rfl v_ rfl vg_ ?_
  refine aL_GF rfl rfl v_ rfl vg_ ?_
  (refine aL_S rfl rfl v_ ?_)
  refine aL_nil ?_
  refine awp_cond v_ (fun hc1 => ?_) (fun hc1 => ?_)
  · replace hc1 := nm_ hc1
    refine awp_seq ?_
    refine awp_region (by kernel_rfl) ?_
    refine aL_X rfl rfl (AOp_use rfl rfl (.inr ⟨rfl, rfl, rfl⟩) g_ va_ (awake27_c) ?_); rintro _ _ ⟨rfl, rfl⟩
    (refine aL_S rfl rfl v_ ?_)
    refine aL_nil ?_
    refine awp_ret ?_
    refine aEnd_ret (σ' := σ) v_ sub_ ?_
    exact ⟨rfl, rfl⟩
  · replace hc1 := nm_ hc1
    have hf : fewBk b = true := hc1.1.1
    have hb : bkOk b = true := hc1.1.2
    have hN := fewBk_sm hf
    have hrl := recs_len hf hb
    have hR : Runs bk0 (recsB b) b := runs_back hb (few_rt hf hb)
    have hT : (bytesK b).length ≤ 200000 := by
      have h2 := allF_bd hrl
      have h3 : (recsB b).length ≤ 16 := by have h4 := hN.ni; have h5 := hN.nm; rw [recsB]; simp; omega
      have h6 := Nat.mul_le_mul_left (11000 + 8) h3
      exact Nat.le_trans h2 (Nat.le_trans h6 (by decide))
    have hsc : scanF (bytesK b) = recsB b := scanF_all fun q hq => by have := hrl q hq; omega
    have hb1 : bytS b = (bytesK b, 0) := by rw [bytS, hb]; rfl
    have hrs : ObjSm (rdObj (hdX r)).1 := rec_sm (by omega)
    have hr0 : rpl bk0 (recsB b) = (b, (bytesK b).length) := by
      have := rpl_app (m := []) hR
      rw [List.append_nil] at this
      rw [this]; rfl
    have hcn : (recsB b).length ≤ 16 := by have h4 := hN.ni; have h5 := hN.nm; rw [recsB]; simp; omega
    refine awp_skip ?_
    refine awp_seq ?_
    refine awp_region (by kernel_rfl) ?_
    (refine aL_S rfl rfl v_ ?_)
    refine aL_X rfl rfl (AOp_use rfl rfl (.inr ⟨rfl, rfl, rfl⟩) g_ va_ (bytes_c (hN.sm (by omega)) (by omega)) ?_); rintro _ _ ⟨rfl, rfl⟩
    rw [hb1]
    iterate 5 (refine aL_S rfl rfl v_ ?_)
    refine aL_nil ?_
    refine awp_seq ?_
    refine awp_region (by kernel_rfl) ?_
    (refine aL_S rfl rfl v_ ?_)
    refine aL_X rfl rfl (AOp_use rfl rfl (.inr ⟨rfl, rfl, rfl⟩) g_ va_ (replay_c (s := bytesK b) (by omega) (by rw [hsc]; omega) (by rw [hsc]; exact recs_sm hf hb)) ?_); rintro _ _ ⟨rfl, rfl⟩
    rw [hsc, hr0]
    iterate 3 (refine aL_S rfl rfl v_ ?_)
    refine aL_alloc rfl rfl rfl g_ gl_ fun o9 ho9 => ?_
    repeat (rw [none_set_iff] at ho9; obtain ⟨_, ho9⟩ := ho9)
    refine aL_store rfl rfl rfl v_ v_ h_ g_ rfl g_ c_ (by rfl) le_ v_ ?_
    (refine aL_S rfl rfl v_ ?_)
    refine aL_nil ?_
    refine awp_seq ?_
    refine awp_seq ?_
    have R := hB2
    refine awp_region (by kernel_rfl) ?_
    iterate 3 (refine aL_S rfl rfl v_ ?_)
    refine aL_GF rfl rfl v_ rfl vg_ ?_
    refine aL_GF rfl rfl v_ rfl vg_ ?_
    refine aL_GFX rfl rfl v_ rfl (fun hb => AOp_useV (by rfl) (by rfl) (.inr ⟨by rfl, by rfl, by rfl⟩) g_ cg_ (sameBk_c (hN.sm (by omega)) (hN.sm (by omega)))) ?_
    rw [sameB_self]
    refine aL_GF rfl rfl v_ rfl vg_ ?_
    iterate 2 (refine aL_S rfl rfl v_ ?_)
    refine aL_GF rfl rfl v_ rfl vg_ ?_
    refine aL_GF rfl rfl v_ rfl vg_ ?_
    refine aL_GF rfl rfl v_ rfl vg_ ?_
    refine aL_GF rfl rfl v_ rfl vg_ ?_
    (refine aL_S rfl rfl v_ ?_)
    refine aL_nil ?_
    refine awp_cond v_ (fun hc5 => ?_) (fun hc5 => ?_)
    · replace hc5 := nm_ hc5
      simp at hc5
    · replace hc5 := nm_ hc5
      have hsc2 : scanF (bytesK b ++ putF r) = recsB b ++ [r] := by
        show scanF (allF (recsB b) ++ putF r) = _
        rw [allF_one]
        refine scanF_all fun q hq => ?_
        rcases List.mem_append.1 hq with h | h
        · have := hrl q h; omega
        · rw [List.mem_singleton.1 h]; omega
      have hss : ∀ q ∈ recsB b ++ [r], ObjSm (rdObj (hdX q)).1 := fun q hq => by
        rcases List.mem_append.1 hq with h | h
        · exact recs_sm hf hb q h
        · rw [List.mem_singleton.1 h]; exact hrs
      have hNy := rpl_N (bkN0 0) hss
      have hNz := apS_N hN hrs
      have hca : (rpl bk0 (recsB b ++ [r]) = ((apS b r).1, (bytesK b).length + (putF r).length) ∧ (apS b r).2 = 0 ∧ bkOk (apS b r).1 = true) ∨ (rpl bk0 (recsB b ++ [r]) = (b, (bytesK b).length) ∧ (apS b r).2 = 3) := by
        rw [rpl_one hR]
        unfold apS
        rw [hb]
        cases hk : (apl b r).2 with
        | true => exact .inl ⟨rfl, rfl, apl_ok hb hk⟩
        | false => exact .inr ⟨rfl, rfl⟩
      obtain ⟨y, hy⟩ : ∃ y, rpl bk0 (recsB b ++ [r]) = y := ⟨_, rfl⟩
      obtain ⟨z, hz⟩ : ∃ z, apS b r = z := ⟨_, rfl⟩
      rw [hy] at hNy hca
      rw [hz] at hNz hca
      have hNy' : BkN 100 y.1 := hNy.le (by rw [List.length_append, List.length_singleton]; omega)
      have hlen2 : (bytesK b ++ putF r).length = (bytesK b).length + (putF r).length := List.length_append ..
      refine awp_skip ?_
      refine awp_seq ?_
      refine awp_region (by kernel_rfl) ?_
      (refine aL_S rfl rfl v_ ?_)
      refine aL_X rfl rfl (AOp_use rfl rfl (.inr ⟨rfl, rfl, rfl⟩) g_ va_ (rPut26_c (by omega)) ?_); rintro _ _ ⟨rfl, rfl⟩
      (refine aL_S rfl rfl v_ ?_)
      refine aL_nil ?_
      refine awp_seq ?_
      refine awp_region (by kernel_rfl) ?_
      iterate 3 (refine aL_S rfl rfl v_ ?_)
      refine aL_X rfl rfl (AOp_use rfl rfl (.inr ⟨rfl, rfl, rfl⟩) g_ va_ (replay_c (s := bytesK b ++ putF r) (by omega) (by rw [hsc2, List.length_append, List.length_singleton]; omega) (by rw [hsc2]; exact hss)) ?_); rintro _ _ ⟨rfl, rfl⟩
      rw [hsc2, hy]
      iterate 3 (refine aL_S rfl rfl v_ ?_)
      refine aL_alloc rfl rfl rfl g_ gl_ fun o12 ho12 => ?_
      repeat (rw [none_set_iff] at ho12; obtain ⟨_, ho12⟩ := ho12)
      refine aL_store rfl rfl rfl v_ v_ h_ g_ rfl g_ c_ (by rfl) le_ v_ ?_
      (refine aL_S rfl rfl v_ ?_)
      refine aL_nil ?_
      refine awp_seq ?_
      refine awp_region (by kernel_rfl) ?_
      iterate 2 (refine aL_S rfl rfl v_ ?_)
      refine aL_X rfl rfl (AOp_use rfl rfl (.inr ⟨rfl, rfl, rfl⟩) g_ va_ (aApply_c (hN.sm (by omega)) hrs) ?_); rintro _ _ ⟨rfl, rfl⟩
      rw [hz]
      iterate 3 (refine aL_S rfl rfl v_ ?_)
      refine aL_alloc rfl rfl rfl g_ gl_ fun o14 ho14 => ?_
      repeat (rw [none_set_iff] at ho14; obtain ⟨_, ho14⟩ := ho14)
      refine aL_store rfl rfl rfl v_ v_ h_ g_ rfl g_ c_ (by rfl) le_ v_ ?_
      (refine aL_S rfl rfl v_ ?_)
      refine aL_nil ?_
      refine awp_seq ?_
      refine awp_seq ?_
      have R := And.intro hB2 hB3
      refine awp_region (by kernel_rfl) ?_
      iterate 3 (refine aL_S rfl rfl v_ ?_)
      refine aL_GT rfl rfl v_ rfl vg_ ?_
      refine aL_GT rfl rfl v_ rfl vg_ ?_
      refine aL_GTX rfl rfl v_ rfl (fun hb => AOp_useV (by rfl) (by rfl) (.inr ⟨by rfl, by rfl, by rfl⟩) g_ cg_ (sameBk_c (hNy'.sm (by omega)) (hNz.sm (by omega)))) ?_
      refine aL_GT rfl rfl v_ rfl vg_ ?_
      refine aL_GT rfl rfl v_ rfl vg_ ?_
      refine aL_GGF rfl rfl v_ rfl vg_ ?_
      refine aL_GGF rfl rfl v_ rfl vg_ ?_
      refine aL_GGF rfl rfl v_ rfl vg_ ?_
      refine aL_GGF rfl rfl v_ rfl vg_ ?_
      refine aL_GGF rfl rfl v_ rfl vg_ ?_
      refine aL_GGF rfl rfl v_ rfl vg_ ?_
      refine aL_GGF rfl rfl v_ rfl vg_ ?_
      refine aL_GT rfl rfl v_ rfl vg_ ?_
      refine aL_GT rfl rfl v_ rfl vg_ ?_
      refine aL_GGF rfl rfl v_ rfl vg_ ?_
      refine aL_GGFX rfl rfl v_ rfl (fun hb => AOp_useV (by rfl) (by rfl) (.inr ⟨by rfl, by rfl, by rfl⟩) g_ cg_ (rMayB_c (hNz.sm (by omega)))) ?_
      refine aL_GGF rfl rfl v_ rfl vg_ ?_
      refine aL_GT rfl rfl v_ rfl vg_ ?_
      iterate 2 (refine aL_S rfl rfl v_ ?_)
      refine aL_GF rfl rfl v_ rfl vg_ ?_
      refine aL_GF rfl rfl v_ rfl vg_ ?_
      refine aL_GF rfl rfl v_ rfl vg_ ?_
      refine aL_GGT rfl rfl v_ rfl vg_ ?_
      refine aL_GGT rfl rfl v_ rfl vg_ ?_
      refine aL_GGTX rfl rfl v_ rfl (fun hb => AOp_useV (by rfl) (by rfl) (.inr ⟨by rfl, by rfl, by rfl⟩) g_ cg_ (sameBk_c (hNy'.sm (by omega)) (hN.sm (by omega)))) ?_
      refine aL_GGT rfl rfl v_ rfl vg_ ?_
      refine aL_GGT rfl rfl v_ rfl vg_ ?_
      refine aL_GGF rfl rfl v_ rfl vg_ ?_
      refine aL_GGF rfl rfl v_ rfl vg_ ?_
      refine aL_GGF rfl rfl v_ rfl vg_ ?_
      refine aL_GGT rfl rfl v_ rfl vg_ ?_
      refine aL_GF rfl rfl v_ rfl vg_ ?_
      (refine aL_S rfl rfl v_ ?_)
      refine aL_nil ?_
      refine awp_cond v_ (fun hc10 => ?_) (fun hc10 => ?_)
      · replace hc10 := nm_ hc10
        (rcases hca with ⟨rfl, e2, e3⟩ | ⟨rfl, e2⟩; (simp [e2, e3] at hc10); (simp [e2] at hc10))
      · replace hc10 := nm_ hc10
        refine awp_skip ?_
        refine awp_seq ?_
        obtain ⟨c, rfl⟩ : ∃ c : Nat, cut = c := ⟨cut.toNat, by omega⟩
        obtain ⟨L, hL⟩ : ∃ L, (putF r).length = L := ⟨_, rfl⟩
        rw [hL] at hB3 hpl
        have hk : c % L < L := Nat.mod_lt _ (by omega)
        have htm : aint .rem .i64 (c : Int) .i64 (L : Int) = some (.int .i64 ((c % L : Nat) : Int)) := aint_rem .i64 _ _ (by omega)
        have hex : (B (putF r)).extract 0 (c % L) = B ((putF r).take (c % L)) := by rw [extract_B, Lb_B]; rfl
        have htl : ((putF r).take (c % L)).length ≤ L := by rw [List.length_take]; omega
        have hsc3 : scanF (bytesK b ++ (putF r).take (c % L)) = recsB b := by
          show scanF (allF (recsB b) ++ _) = _
          rw [scanF_app fun q hq => by have := hrl q hq; omega, scanF_cut (by omega) (by omega), List.append_nil]
        have hlen3 : (bytesK b ++ (putF r).take (c % L)).length = (bytesK b).length + ((putF r).take (c % L)).length := List.length_append ..
        have R := And.intro hB3 (And.intro htm hex)
        refine awp_region (by kernel_rfl) ?_
        iterate 9 (refine aL_S rfl rfl v_ ?_)
        refine aL_X rfl rfl (AOp_use rfl rfl (.inr ⟨rfl, rfl, rfl⟩) g_ va_ (replay_c (s := bytesK b ++ (putF r).take (c % L)) (by omega) (by rw [hsc3]; omega) (by rw [hsc3]; exact recs_sm hf hb)) ?_); rintro _ _ ⟨rfl, rfl⟩
        rw [hsc3, hr0]
        iterate 3 (refine aL_S rfl rfl v_ ?_)
        refine aL_alloc rfl rfl rfl g_ gl_ fun o16 ho16 => ?_
        repeat (rw [none_set_iff] at ho16; obtain ⟨_, ho16⟩ := ho16)
        refine aL_store rfl rfl rfl v_ v_ h_ g_ rfl g_ c_ (by rfl) le_ v_ ?_
        (refine aL_S rfl rfl v_ ?_)
        refine aL_nil ?_
        refine awp_seq ?_
        refine awp_region (by kernel_rfl) ?_
        iterate 2 (refine aL_S rfl rfl v_ ?_)
        refine aL_X rfl rfl (AOp_use rfl rfl (.inr ⟨rfl, rfl, rfl⟩) g_ va_ (sameBk_c (hN.sm (by omega)) (hN.sm (by omega))) ?_); rintro _ _ ⟨rfl, rfl⟩
        rw [sameB_self]
        (refine aL_S rfl rfl v_ ?_)
        refine aL_GT rfl rfl v_ rfl vg_ ?_
        refine aL_GT rfl rfl v_ rfl vg_ ?_
        refine aL_GT rfl rfl v_ rfl vg_ ?_
        iterate 2 (refine aL_S rfl rfl v_ ?_)
        refine aL_GTX rfl rfl v_ rfl (fun hb => AOp_useV (by rfl) (by rfl) (.inr ⟨by rfl, by rfl, by rfl⟩) g_ cg_ (awake27_c)) ?_
        iterate 2 (refine aL_S rfl rfl v_ ?_)
        refine aL_nil ?_
        refine awp_ret ?_
        refine aEnd_ret (σ' := σ) v_ sub_ ?_
        exact ⟨rfl, rfl⟩
end Go.Proofs.YtbcgkbdacijoiaaGreat
end

section
set_option linter.all false
set_option maxRecDepth 100000
namespace Go.Proofs.YtbcgkbdacijoiaaGreat
open Go.Ab
/-- the books behind each part of a row of records -/
structure Beh (L : List (List UInt8)) (i : Nat) (bs : List Bk) : Prop where
  len : bs.length = i + 1
  at_ : ∀ j c, bs[j]? = some c → Runs bk0 (L.take j) c ∧ BkN j c
theorem Beh.next {L : List (List UInt8)} {i : Nat} {bs : List Bk} {b : Bk} {r : List UInt8} (h : Beh L i bs) (hb : bs[i]? = some b) (hr : L[i]? = some r) (hok : (apl b r).2 = true) (ho : ObjSm (rdObj (hdX r)).1) : Beh L (i + 1) (bs ++ [(apl b r).1]) ∧ (bs ++ [(apl b r).1])[i + 1]? = some (apl b r).1 := by
  have hl := h.len
  refine ⟨⟨by simp [hl], fun j c hj => ?_⟩, by rw [List.getElem?_append_right (by omega), hl]; simp⟩
  by_cases hlt : j < bs.length
  · rw [List.getElem?_append_left hlt] at hj; exact h.at_ j c hj
  · rw [List.getElem?_append_right (by omega)] at hj
    have hj1 : j = i + 1 := by
      have := (List.getElem?_eq_some_iff.1 hj).1
      simp at this; omega
    subst hj1
    rw [hl] at hj
    simp at hj
    subst hj
    obtain ⟨h1, h2⟩ := h.at_ i b hb
    exact ⟨runs_next h1 hr hok, h2.apl ho⟩
theorem beh0 (L : List (List UInt8)) : Beh L 0 [bk0] := ⟨rfl, fun j c hj => by
  have := (List.getElem?_eq_some_iff.1 hj).1
  simp only [List.length_singleton] at this
  obtain rfl : j = 0 := by omega
  simp at hj; subst hj
  exact ⟨by simp [Runs], bkN0 0⟩⟩
set_option maxHeartbeats 4000000 in
theorem bookTorn_c {L : List (List UInt8)} {sure cut : Int} {σ : Store} (s0 : 0 ≤ sure) (s1 : sure ≤ 255) (h0 : 0 ≤ cut) (h1 : cut ≤ 65535) : ACalls Tryz.prog 8 [.sl 1 (vBs L) false, .lit (.int .u8 sure), .lit (.int .u16 cut)] σ fun v σ' => v = vB true ∧ σ = σ' := by
  refine ACalls_of Tryz.func8 rfl Tryz.ntmps8 (congrArg Array.toList Tryz.results8) (by simp only [List.length_cons, List.length_nil]; decide) ?_; simp only [envOf_cons, envOf_nil, Nat.reduceAdd]
  refine awp_seq ?_
  refine awp_region (by kernel_rfl) ?_
  (refine aL_S rfl rfl v_ ?_)
  refine aL_nil ?_
  refine awp_seq ?_
  refine awp_seq ?_
  refine awp_region (by kernel_rfl) ?_
  iterate 3 (refine aL_S rfl rfl v_ ?_)
  refine aL_nil ?_
  refine awp_cond v_ (fun hc1 => ?_) (fun hc1 => ?_)
  · replace hc1 := nm_ hc1
    refine awp_seq ?_
    refine awp_region (by kernel_rfl) ?_
    refine aL_X rfl rfl (AOp_use rfl rfl (.inr ⟨rfl, rfl, rfl⟩) g_ va_ (awake27_c) ?_); rintro _ _ ⟨rfl, rfl⟩
    (refine aL_S rfl rfl v_ ?_)
    refine aL_nil ?_
    refine awp_ret ?_
    refine aEnd_ret (σ' := σ) v_ sub_ ?_
    exact ⟨rfl, rfl⟩
  · replace hc1 := nm_ hc1
    refine awp_skip ?_
    refine awp_seq ?_
    refine awp_region (by kernel_rfl) ?_
    refine aL_nilOwn 67 2 rfl rfl rfl (by rfl) fun k7 hk7 => ?_
    refine aL_nil ?_
    refine awp_seq ?_
    refine awp_region (by kernel_rfl) ?_
    (refine aL_S rfl rfl v_ ?_)
    refine aL_alloc rfl rfl rfl g_ gl_ fun o8 ho8 => ?_
    (try simp only [Store.newTok_heap] at ho8); repeat (rw [none_set_iff] at ho8; obtain ⟨_, ho8⟩ := ho8)
    refine aL_store rfl rfl rfl v_ v_ h_ g_ rfl g_ c_ (by rfl) le_ v_ ?_
    refine aL_nil ?_
    refine awp_wkCells o8 (cs := [vNil, vNil]) (sBk bk0).cells h_ ⟨.nil _ _, .nil _ _, trivial⟩ ?_
    refine awp_seq ?_
    refine awp_region (by kernel_rfl) ?_
    iterate 2 (refine aL_S rfl rfl v_ ?_)
    refine aL_buildSlice rfl rfl rfl g_ g_ rfl rfl h_ c2_ (by decide) ?_
    refine aL_append rfl rfl rfl g_ g_ v_ h_ v_ c_ (by simp) fun k27 hk27 => ?_
    have t27 : σ.tok k27 = none := (newTok_none hk27).2
    (refine aL_S rfl rfl v_ ?_)
    refine aL_nil ?_
    refine awp_seq ?_
    refine awp_seq ?_
    refine awp_region (by kernel_rfl) ?_
    (refine aL_S rfl rfl v_ ?_)
    refine aL_nil ?_
    refine awp_block ?_
    refine awp_loop_env (ι := Nat × Nat × Bk × List Bk) (fun ⟨tk, i, b, bs⟩ => L.length - i) (fun ⟨tk, i, b, bs⟩ => i ≤ L.length ∧ σ.tok tk = none ∧ Beh L i bs ∧ bs[i]? = some b ∧ ∀ r ∈ L.take i, r.length ≤ 512) (fun ⟨tk, i, b, bs⟩ => [(0, .sl 1 (vBs L) false), (1, .lit (.int .u8 sure)), (2, .lit (.int .u16 cut)), (7, .own tk 2 (bs.map sBk)), (8, .ref o8 0), (9, vInt i)]) (fun ⟨tk, i, b, bs⟩ => ((σ.set o8 (.cells (sBk b).cells)).newTok none tk (67, 2))) (k27, 0, bk0, [bk0]) ?_ ?_ ?_ ?_
    · exact ⟨Nat.zero_le _, t27, beh0 L, rfl, fun r hr => by simp at hr⟩
    · exact cv_
    · (try dsimp only); (try simp only [Store.set_set]); exact sub_
    rintro ⟨tk, i, b, bs⟩ ⟨hi, htk, hB, hbi, hsz⟩
    simp only [envL_cons, envL_nil]
    refine awp_seq ?_
    refine awp_seq ?_
    refine awp_region (by kernel_rfl) ?_
    iterate 4 (refine aL_S rfl rfl v_ ?_)
    refine aL_nil ?_
    refine awp_cond v_ (fun hc7 => ?_) (fun hc7 => ?_)
    · replace hc7 := nm_ hc7
      obtain ⟨r, hr⟩ := get_some (l := L) (k := i) (by omega)
      have hBr := B_size r
      obtain ⟨hRb, hNb⟩ := hB.at_ i b hbi
      refine awp_skip ?_
      refine awp_seq ?_
      refine awp_block ?_
      refine awp_seq ?_
      refine awp_seq ?_
      have R := And.intro hr hBr
      refine awp_region (by kernel_rfl) ?_
      iterate 6 (refine aL_S rfl rfl v_ ?_)
      refine aL_nil ?_
      refine awp_cond v_ (fun hc9 => ?_) (fun hc9 => ?_)
      · replace hc9 := nm_ hc9
        refine awp_seq ?_
        refine awp_region (by kernel_rfl) ?_
        refine aL_X rfl rfl (AOp_use rfl rfl (.inr ⟨rfl, rfl, rfl⟩) g_ va_ (awake27_c) ?_); rintro _ _ ⟨rfl, rfl⟩
        (refine aL_S rfl rfl v_ ?_)
        refine aL_nil ?_
        refine awp_ret ?_
        refine aEnd_ret (σ' := σ) v_ sub_ ?_
        exact ⟨rfl, rfl⟩
      · replace hc9 := nm_ hc9
        have hrs : ObjSm (rdObj (hdX r)).1 := rec_sm (by omega)
        refine awp_skip ?_
        refine awp_seq_mid (ι := Nat) (fun p10 => p10 ≠ o8 ∧ σ.heap p10 = none) (fun p10 => [(0, .sl 1 (vBs L) false), (1, .lit (.int .u8 sure)), (2, .lit (.int .u16 cut)), (7, .own tk 2 (bs.map sBk)), (8, .ref o8 0), (9, vInt i), (10, .ref p10 0), (11, vInt (apS b r).2)]) (fun p10 => (((σ.set o8 (.cells (sBk b).cells)).newTok none tk (67, 2)).set p10 (.cells (sBk (apS b r).1).cells))) ?_ ?_
        · have R := hr
          refine awp_draw (.op 0 0 (.op 1 0 (.op 2 0 (.op 3 0 (.op 4 0 (.alt 5 1 (.op 6 0 (.op 7 0 (.op 8 0 (.op 9 1 (.op 10 2 (.op 11 0 .nil)))))) (.op 9 1 (.op 5 1 (.op 6 0 (.op 7 0 (.op 8 0 (.op 10 2 (.op 11 0 .nil))))))))))))) Tryz.mixed (by kernel_rfl) ?_
          iterate 5 (refine dR_S o_ (by rfl) (by rfl) v_ ?_)
          refine dR_alt ?_ ?_
          · refine dR_X o_ (by rfl) (by rfl) (AOp_use (by rfl) (by rfl) (.inr ⟨by rfl, by rfl, by rfl⟩) g_ va_ (aApply_c (hNb.sm (by omega)) hrs) ?_); rintro _ _ ⟨rfl, rfl⟩; refine ⟨sub_, ?_⟩
            iterate 3 (refine dR_S o_ (by rfl) (by rfl) v_ ?_)
            refine dR_alloc o_ (by rfl) (by rfl) (by rfl) g_ gl_ sub_ fun o10 ho10 => ?_
            (try simp only [Store.newTok_heap] at ho10); repeat (rw [none_set_iff] at ho10; obtain ⟨_, ho10⟩ := ho10)
            refine dR_store o_ (by rfl) (by rfl) (by rfl) v_ v_ h_ g_ rfl g_ c_ (by rfl) le_ v_ ?_
            (refine dR_S o_ (by rfl) (by rfl) v_ ?_)
            refine dR_nil ?_
            refine ⟨o10, ?_, ?_, ?_⟩
            · exact ⟨by assumption, ho10⟩
            · exact cv_
            · (try dsimp only); (try rw [Store.set_set]); exact sub_
          refine dR_alloc o_ (by rfl) (by rfl) (by rfl) g_ gl_ sub_ fun o10 ho10 => ?_
          (try simp only [Store.newTok_heap] at ho10); repeat (rw [none_set_iff] at ho10; obtain ⟨_, ho10⟩ := ho10)
          refine dR_X o_ (by rfl) (by rfl) (AOp_use (by rfl) (by rfl) (.inr ⟨by rfl, by rfl, by rfl⟩) g_ va_ (aApply_c (hNb.sm (by omega)) hrs) ?_); rintro _ _ ⟨rfl, rfl⟩; refine ⟨sub_, ?_⟩
          iterate 3 (refine dR_S o_ (by rfl) (by rfl) v_ ?_)
          refine dR_store o_ (by rfl) (by rfl) (by rfl) v_ v_ h_ g_ rfl g_ c_ (by rfl) le_ v_ ?_
          (refine dR_S o_ (by rfl) (by rfl) v_ ?_)
          refine dR_nil ?_
          refine ⟨o10, ?_, ?_, ?_⟩
          · exact ⟨by assumption, ho10⟩
          · exact cv_
          · (try dsimp only); (try rw [Store.set_set]); exact sub_
        · rintro p10 ⟨n108, h10⟩
          simp only [envL_cons, envL_nil]
          refine awp_seq ?_
          refine awp_seq ?_
          refine awp_region (by kernel_rfl) ?_
          iterate 2 (refine aL_S rfl rfl v_ ?_)
          refine aL_nil ?_
          refine awp_cond v_ (fun hc12 => ?_) (fun hc12 => ?_)
          · replace hc12 := nm_ hc12
            refine awp_seq ?_
            refine awp_region (by kernel_rfl) ?_
            refine aL_X rfl rfl (AOp_use rfl rfl (.inr ⟨rfl, rfl, rfl⟩) g_ va_ (awake27_c) ?_); rintro _ _ ⟨rfl, rfl⟩
            (refine aL_S rfl rfl v_ ?_)
            refine aL_nil ?_
            refine awp_ret ?_
            refine aEnd_ret (σ' := σ) v_ sub_ ?_
            exact ⟨rfl, rfl⟩
          · replace hc12 := nm_ hc12
            skip
            have hok : (apl b r).2 = true := by
              cases h : (apl b r).2 with
              | true => rfl
              | false => rw [apS, hRb.ok bk0_ok, h] at hc12; simp at hc12
            have hap1 : (apS b r).1 = (apl b r).1 := by rw [apS, hRb.ok bk0_ok, hok]; rfl
            have hbl := hB.len
            refine awp_skip ?_
            refine awp_seq ?_
            have R := hap1
            refine awp_region (by kernel_rfl) ?_
            (refine aL_S rfl rfl v_ ?_)
            refine aL_store rfl rfl rfl v_ v_ h_ g_ rfl g_ c_ (by rfl) le_ v_ ?_
            refine aL_nil ?_
            refine awp_region (by kernel_rfl) ?_
            iterate 2 (refine aL_S rfl rfl v_ ?_)
            refine aL_buildSlice rfl rfl rfl g_ g_ rfl rfl h_ c2_ (by decide) ?_
            refine aL_append rfl rfl rfl g_ g_ v_ h_ v_ c_ (by simp; omega) fun k57 hk57 => ?_
            have t57 : σ.tok k57 = none := (newTok_none hk57).2
            (refine aL_S rfl rfl v_ ?_)
            refine aL_nil ?_
            refine awp_region (by kernel_rfl) ?_
            iterate 3 (refine aL_S rfl rfl v_ ?_)
            refine aL_nil ?_
            refine aNext (ι := Nat × Nat × Bk × List Bk) (i := ⟨tk, i, b, bs⟩) (k57, i + 1, (apl b r).1, bs ++ [(apl b r).1]) ?_ ?_ ?_ ?_
            · show L.length - (i + 1) < L.length - i; omega
            · exact ⟨by show i + 1 ≤ L.length; omega, t57, (hB.next hbi hr hok hrs).1, (hB.next hbi hr hok hrs).2, fun q hq => by rw [take_snoc hr] at hq; rcases List.mem_append.1 hq with h | h; exact hsz q h; rw [List.mem_singleton.1 h]; omega⟩
            · exact cv_
            · exact sub_
    · replace hc7 := nm_ hc7
      refine awp_exit ?_
      refine aThen_exit ?_
      refine aThen_exit ?_
      refine aBlock_hit ?_
      refine awp_seq ?_
      obtain rfl : i = L.length := by omega
      obtain ⟨su, rfl⟩ : ∃ c : Nat, sure = c := ⟨sure.toNat, by omega⟩
      obtain ⟨cu, rfl⟩ : ∃ c : Nat, cut = c := ⟨cut.toNat, by omega⟩
      rw [List.take_length] at hsz
      obtain ⟨N, hN⟩ : ∃ N, su % (L.length + 1) = N := ⟨_, rfl⟩
      have hNl : N ≤ L.length := by have := Nat.mod_lt su (show 0 < L.length + 1 by omega); omega
      have htm1 : aint .rem .i64 (su : Int) .i64 ((L.length : Int) + 1) = some (.int .i64 (N : Int)) := by rw [← hN]; exact aint_rem .i64 su (L.length + 1) (by omega)
      have hT : (allF L).length ≤ 5000 := by
        have h2 := allF_bd hsz
        have h3 := Nat.mul_le_mul_left (512 + 8) (show L.length ≤ 8 by omega)
        omega
      have hFT := allF_le L N
      have hvt : (vBs L).take N = vBs (L.take N) := (List.map_take ..).symm
      have hB4 := B_size (allF (L.take N))
      have hB5 := B_size (allF L)
      obtain ⟨F, hF⟩ : ∃ F, (allF (L.take N)).length = F := ⟨_, rfl⟩
      obtain ⟨T, hTT⟩ : ∃ T, (allF L).length = T := ⟨_, rfl⟩
      have htm2 : aint .rem .i64 (cu : Int) .i64 ((T : Int) - (F : Int) + 1) = some (.int .i64 ((cu % (T - F + 1) : Nat) : Int)) := by
        have h : aint .rem .i64 (cu : Int) .i64 ((T - F + 1 : Nat) : Int) = some (.int .i64 ((cu % (T - F + 1) : Nat) : Int)) := aint_rem .i64 _ _ (by omega)
        rwa [show ((T - F + 1 : Nat) : Int) = (T : Int) - (F : Int) + 1 by omega] at h
      have hm2 := Nat.mod_lt cu (show 0 < T - F + 1 by omega)
      obtain ⟨K, hK⟩ : ∃ K, F + cu % (T - F + 1) = K := ⟨_, rfl⟩
      have hK1 : (F : Int) + ((cu % (T - F + 1) : Nat) : Int) = (K : Int) := by omega
      have hKT : K ≤ T := by omega
      obtain ⟨i0, t0, hi0, hcut, ht0, hmax⟩ := allF_cut L K (by omega)
      have hNi : N ≤ i0 := hmax N hNl (by omega)
      have hsc : scanF ((allF L).take K) = L.take i0 := by
        rw [hcut, scanF_app fun q hq => by have := hsz q (List.mem_of_mem_take hq); omega]
        rcases ht0 with rfl | ⟨q, j, hq, hj, rfl⟩
        · rw [scanF_nil, List.append_nil]
        · rw [scanF_cut (by have := hsz q hq; omega) hj, List.append_nil]
      have hbl := hB.len
      obtain ⟨c0, hc0⟩ := get_some (l := bs) (k := i0) (by omega)
      obtain ⟨hR0, hN0⟩ := hB.at_ i0 c0 hc0
      obtain ⟨m0, hrp⟩ : ∃ m0, rpl bk0 (L.take i0) = (c0, m0) := by
        have := rpl_app (m := []) hR0
        rw [List.append_nil] at this
        exact ⟨_, this⟩
      have hex : (B (allF L)).extract 0 K = B ((allF L).take K) := by rw [extract_B, Lb_B]; rfl
      have htl : ((allF L).take K).length ≤ 5000 := by rw [List.length_take]; omega
      rw [hF] at hB4
      rw [hTT] at hB5
      have R := htm1
      refine awp_region (by kernel_rfl) ?_
      iterate 7 (refine aL_S rfl rfl v_ ?_)
      refine aL_nil ?_
      refine awp_seq ?_
      refine awp_region (by kernel_rfl) ?_
      (refine aL_S rfl rfl v_ ?_)
      refine aL_X rfl rfl (AOp_use rfl rfl (.inr ⟨rfl, rfl, rfl⟩) g_ va_ (rAll26_c (l := L) (by omega) (by omega)) ?_); rintro _ _ ⟨rfl, rfl⟩
      (refine aL_S rfl rfl v_ ?_)
      refine aL_nil ?_
      refine awp_seq ?_
      have R := And.intro hvt hB4
      refine awp_region (by kernel_rfl) ?_
      iterate 3 (refine aL_S rfl rfl v_ ?_)
      refine aL_X rfl rfl (AOp_use rfl rfl (.inr ⟨rfl, rfl, rfl⟩) g_ va_ (rAll26_c (l := L.take N) (by rw [List.length_take]; omega) (by omega)) ?_); rintro _ _ ⟨rfl, rfl⟩
      iterate 2 (refine aL_S rfl rfl v_ ?_)
      refine aL_nil ?_
      refine awp_seq ?_
      have R := And.intro hB5 (And.intro htm2 hK1)
      refine awp_region (by kernel_rfl) ?_
      iterate 11 (refine aL_S rfl rfl v_ ?_)
      refine aL_nil ?_
      refine awp_seq ?_
      have R := And.intro hB5 hex
      refine awp_region (by kernel_rfl) ?_
      iterate 3 (refine aL_S rfl rfl v_ ?_)
      refine aL_X rfl rfl (AOp_use rfl rfl (.inr ⟨rfl, rfl, rfl⟩) g_ va_ (replay_c (s := (allF L).take K) (by omega) (by rw [hsc, List.length_take]; omega) (by rw [hsc]; exact fun q hq => rec_sm (by have := hsz q (List.mem_of_mem_take hq); omega))) ?_); rintro _ _ ⟨rfl, rfl⟩
      rw [hsc, hrp]
      iterate 3 (refine aL_S rfl rfl v_ ?_)
      refine aL_alloc rfl rfl rfl g_ gl_ fun o16 ho16 => ?_
      (try simp only [Store.newTok_heap] at ho16); repeat (rw [none_set_iff] at ho16; obtain ⟨_, ho16⟩ := ho16)
      refine aL_store rfl rfl rfl v_ v_ h_ g_ rfl g_ c_ (by rfl) le_ v_ ?_
      (refine aL_S rfl rfl v_ ?_)
      refine aL_nil ?_
      refine awp_seq ?_
      refine awp_seq ?_
      refine awp_region (by kernel_rfl) ?_
      iterate 2 (refine aL_S rfl rfl v_ ?_)
      refine aL_nil ?_
      refine awp_block ?_
      refine awp_loop_env (ι := Nat) (fun j => bs.length - j) (fun j => N ≤ j ∧ j ≤ i0) (fun j => [(7, .own tk 2 (bs.map sBk)), (16, .ref o16 0), (18, vInt j)]) (fun j => (((σ.set o8 (.cells (sBk b).cells)).newTok none tk (67, 2)).set o16 (.cells (sBk c0).cells))) N ?_ ?_ ?_ ?_
      · exact ⟨Nat.le_refl _, hNi⟩
      · exact cv_
      · (try dsimp only); (try simp only [Store.set_set]); exact Store.Wk.refl _
      rintro j ⟨hj1, hj2⟩
      simp only [envL_cons, envL_nil]
      refine awp_seq ?_
      refine awp_seq ?_
      refine awp_region (by kernel_rfl) ?_
      iterate 4 (refine aL_S rfl rfl v_ ?_)
      refine aL_nil ?_
      refine awp_cond v_ (fun hc22 => ?_) (fun hc22 => ?_)
      · replace hc22 := nm_ hc22
        refine awp_skip ?_
        refine awp_seq ?_
        refine awp_block ?_
        refine awp_seq ?_
        obtain ⟨cj, hcj⟩ := get_some (l := bs) (k := j) (by omega)
        obtain ⟨_, hNj⟩ := hB.at_ j cj hcj
        have R := hcj
        refine awp_draw (.op 0 0 (.op 1 0 (.op 2 0 (.op 3 0 (.op 4 0 (.op 5 2 .nil)))))) Tryz.mixed (by kernel_rfl) ?_
        iterate 5 (refine dR_S o_ (by rfl) (by rfl) v_ ?_)
        refine dR_T o_ (by rfl) (by rfl) (AOp_use (by rfl) (by rfl) (.inr ⟨by rfl, by rfl, by rfl⟩) g_ va_ (sameBk_c (hN0.sm (by omega)) (hNj.sm (by omega))) ?_); rintro _ _ ⟨rfl, rfl⟩
        refine dR_nil ?_
        refine awp_cond v_ (fun hc24 => ?_) (fun hc24 => ?_)
        · replace hc24 := nm_ hc24
          refine awp_seq ?_
          refine awp_region (by kernel_rfl) ?_
          refine aL_X rfl rfl (AOp_use rfl rfl (.inr ⟨rfl, rfl, rfl⟩) g_ va_ (awake27_c) ?_); rintro _ _ ⟨rfl, rfl⟩
          (refine aL_S rfl rfl v_ ?_)
          refine aL_nil ?_
          refine awp_ret ?_
          refine aEnd_ret (σ' := σ) v_ sub_ ?_
          exact ⟨rfl, rfl⟩
        · replace hc24 := nm_ hc24
          refine awp_skip ?_
          refine awp_region (by kernel_rfl) ?_
          iterate 3 (refine aL_S rfl rfl v_ ?_)
          refine aL_nil ?_
          refine aNext (ι := Nat) (i := j) (j + 1) ?_ ?_ ?_ ?_
          · omega
          · exact ⟨by omega, by rcases Nat.lt_or_ge j i0 with h | h; omega; exact absurd (show j = i0 by omega) (fun e => by subst e; rw [hc0] at hcj; obtain rfl := Option.some.inj hcj; simp at hc24)⟩
          · exact cv_
          · exact sub_
      · replace hc22 := nm_ hc22
        omega
end Go.Proofs.YtbcgkbdacijoiaaGreat
end
