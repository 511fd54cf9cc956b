/-
  Messages read of bytes: the program's; Registries and messages read of bytes: the program's. Own work (an AI agent).
-/
import Derived.Test.YtbjloippgpilcaaGreatGG
import Derived.Test.YtbjloippgpilcaaGreatGH
import Derived.Test.YtbjloippgpilcaaGreatJB

section
set_option linter.all false
set_option maxRecDepth 100000
namespace Go.Proofs.YtbjloippgpilcaaGreat
open Go.Ab

def rdTx (x : Rd) : ByteArray × Rd := (B (rdText x).1, (rdText x).2)
def rdLeaf (x : Rd) : Leaf × Rd :=
  let a := rdText x; let b := rdText a.2
  (⟨B a.1, B b.1⟩, b.2)
def rdItem (x : Rd) : Itm × Rd :=
  let a := rdText x; let b := rdObj a.2
  (⟨B a.1, b.1⟩, b.2)
def rdEnt (x : Rd) : Ent × Rd :=
  let a := rdText x; let b := rdNum a.2 8; let c := rdText b.2; let d := rdText c.2
  (⟨B a.1, b.1, B c.1, B d.1⟩, d.2)
def rdRow {α : Type} (f : Rd → α × Rd) (x : Rd) : List α × Rd := rdMany f (rdCnt x 65536).1 (rdCnt x 65536).2
theorem rdText_m {o : Nat} {x : Rd} {σ : Store} (ho : σ.heap o = some (rdO x)) : ACalls Tryz.prog 87 ([.ref o 0] ++ [] ++ []) σ fun v σ' => v = vStr (rdTx x).1 ∧ σ'.heap o = some (rdO (rdTx x).2) ∧ SubX [o] σ σ' :=
  (rdText_c ho).mono fun v τ ⟨h1, h2⟩ => ⟨h1, by rw [h2]; exact Store.set_get .., by rw [h2]; exact SubX.self⟩

theorem sevText_c {o G N : Nat} {x0 : Rd} {σ : Store} {fs cp : List AVal} {f : Rd → ByteArray × Rd} (Kp : Store → Prop) (hgo : isGo Tryz.prog G = true) (hK : ∀ τ τ', Kp τ → SubX [o] τ τ' → Kp τ') (ho : σ.heap o = some (rdO x0)) (hKσ : Kp σ) (hNb : N ≤ 65536)
    (hf : ∀ τ y, τ.heap o = some (rdO y) → Kp τ → ACalls Tryz.prog G (fs ++ [] ++ cp) τ fun v τ' => v = vStr (f y).1 ∧ τ'.heap o = some (rdO (f y).2) ∧ SubX [o] τ τ') :
    ACalls Tryz.prog 124 [.ref o 0, vInt N, .fn (.func G) fs cp] σ fun v σ' => v = .sl 1 ((if (rdMany f N x0).2.2 then (rdMany f N x0).1 else []).map vStr) false ∧ σ'.heap o = some (rdO (rdMany f N x0).2) ∧ SubX [o] σ σ' := by
  refine ACalls_of Tryz.func124 rfl Tryz.ntmps124 (congrArg Array.toList Tryz.results124) (by simp only [List.length_cons, List.length_nil]; decide) ?_; simp only [envOf_cons, envOf_nil, Nat.reduceAdd]
  refine awp_seq ?_
  refine awp_region (by kernel_rfl) ?_
  (refine aL_S rfl rfl v_ ?_)
  refine aL_nil ?_
  refine awp_seq ?_
  refine awp_region (by kernel_rfl) ?_
  refine aL_nilOwn 9 1 rfl rfl rfl (by rfl) fun k7 hk7 => ?_
  refine aL_nil ?_
  refine awp_seq ?_
  refine awp_seq ?_
  refine awp_region (by kernel_rfl) ?_
  (refine aL_S rfl rfl v_ ?_)
  refine aL_nil ?_
  refine awp_block ?_
  refine awp_loop_env (ι := Store × Nat × List ByteArray × Rd × Nat) (fun ⟨τ, i, L, y, k⟩ => N - i) (fun ⟨τ, i, L, y, k⟩ => i ≤ N ∧ rdMany f N x0 = (L ++ (rdMany f (N - i) y).1, (rdMany f (N - i) y).2) ∧ L.length = i ∧ τ.heap o = some (rdO y) ∧ SubX [o] σ τ ∧ τ.tok k = some (9, 1) ∧ σ.tok k = none) (fun ⟨τ, i, L, y, k⟩ => [(0, .ref o 0), (1, vInt N), (2, .fn (.func G) fs cp), (7, .own k 1 (L.map vStr)), (8, vInt i)]) (fun ⟨τ, i, L, y, k⟩ => τ) (σ.newTok none k7 (9, 1), 0, [], x0, k7) ?_ ?_ ?_ ?_
  · exact ⟨Nat.zero_le _, rfl, rfl, by rw [Store.newTok_heap]; exact ho, subx_newTok hk7 subx_refl, Store.newTok_get .., hk7⟩
  · exact cv_
  · exact Store.Wk.refl _
  rintro ⟨τ, i, L, y, k⟩ ⟨hi, h1, h2, h3, h4, h5, h6⟩
  simp only [envL_cons, envL_nil]
  refine awp_seq ?_
  refine awp_seq ?_
  have R := h3
  refine awp_region (by kernel_rfl) ?_
  iterate 4 (refine aL_S rfl rfl v_ ?_)
  refine aL_GT rfl rfl v_ rfl vg_ ?_
  refine aL_GTX rfl rfl v_ rfl (fun hb => AOp_useV (by rfl) (by rfl) (.inr ⟨by rfl, by rfl, by rfl⟩) g_ cg_ (bad_x h3)) ?_
  refine aL_GT rfl rfl v_ rfl vg_ ?_
  (refine aL_S rfl rfl v_ ?_)
  refine aL_nil ?_
  refine awp_cond v_ (fun hc3 => ?_) (fun hc3 => ?_)
  · replace hc3 := nm_ hc3
    refine awp_skip ?_
    refine awp_seq ?_
    refine awp_block ?_
    have hn0 : i < N ∧ y.2 = true := by simpa using hc3
    have hn1 : N - i = (N - i - 1) + 1 := by omega
    have hy := hn0.2
    refine awp_region (by kernel_rfl) ?_
    iterate 2 (refine aL_S rfl rfl v_ ?_)
    refine aL_X rfl rfl (AOp_use rfl rfl (.inl v_) g_ va_ (hf _ _ h3 (hK _ _ hKσ h4)) ?_); rintro _ υ ⟨rfl, hu1, hu2⟩
    refine aL_buildSlice rfl rfl rfl g_ g_ rfl rfl h_ c2_ (by decide) ?_
    have R := hu2.2 _ _ h5
    refine aL_append rfl rfl rfl g_ g_ v_ h_ v_ c_ (by simp; omega) fun k23 hk23 => ?_
    (refine aL_S rfl rfl v_ ?_)
    refine aL_nil ?_
    refine awp_region (by kernel_rfl) ?_
    iterate 3 (refine aL_S rfl rfl v_ ?_)
    refine aL_nil ?_
    refine aNext (ι := Store × Nat × List ByteArray × Rd × Nat) (i := ⟨τ, i, L, y, k⟩) (υ.newTok (some k) k23 (9, 1), i + 1, L ++ [(f y).1], (f y).2, k23) ?_ ?_ ?_ ?_
    · show N - (i + 1) < N - i; omega
    · exact ⟨by show i + 1 ≤ N; omega, by rw [h1, hn1, rdMany, hy]; simp [show N - i - 1 = N - (i + 1) by omega], by simp [h2], by rw [Store.newTok_heap]; exact hu1, SubX.newTok (SubX.trans h4 hu2) (fun j hj => by cases hj; exact h6) hk23, Store.newTok_get .., SubX.noTok (SubX.trans h4 hu2) hk23⟩
    · exact cv_
    · exact Store.Wk.refl _
  · replace hc3 := nm_ hc3
    refine awp_exit ?_
    refine aThen_exit ?_
    refine aThen_exit ?_
    refine aBlock_hit ?_
    refine awp_seq ?_
    refine awp_seq ?_
    skip
    have hs : rdMany f N x0 = (L, y) := by
      have hd : N - i = 0 ∨ y.2 = false := by
        rcases hc3 with h | h
        · exact .inl (by omega)
        · exact .inr (by simpa using h)
      rw [h1, rdMany_done f hd]; simp
    refine awp_region (by kernel_rfl) ?_
    (refine aL_S rfl rfl v_ ?_)
    refine aL_X rfl rfl (AOp_use rfl rfl (.inr ⟨rfl, rfl, rfl⟩) g_ va_ (bad_x h3) ?_); rintro _ _ ⟨rfl, rfl⟩
    refine aL_nil ?_
    refine awp_cond v_ (fun hc6 => ?_) (fun hc6 => ?_)
    · replace hc6 := nm_ hc6
      refine awp_seq ?_
      refine awp_region (by kernel_rfl) ?_
      (refine aL_S rfl rfl v_ ?_)
      refine aL_nil ?_
      refine awp_ret ?_
      have hy : y.2 = false := by simpa using hc6
      refine aEnd_retW (v := .sl 1 ((if (rdMany f N x0).2.2 then (rdMany f N x0).1 else []).map vStr) false) (v' := .lit (.slice none 0 0)) (σ' := τ) va_ ?_ (Store.Wk.refl _) ⟨rfl, ?_, h4⟩
      · rw [hs, hy]; exact .nil _ _
      · rw [hs]; exact h3
    · replace hc6 := nm_ hc6
      refine awp_skip ?_
      refine awp_seq ?_
      refine awp_region (by kernel_rfl) ?_
      iterate 2 (refine aL_S rfl rfl v_ ?_)
      refine aL_nil ?_
      refine awp_ret ?_
      have hy : y.2 = true := by simpa using hc6
      refine aEnd_retW (v := .sl 1 ((if (rdMany f N x0).2.2 then (rdMany f N x0).1 else []).map vStr) false) (v' := .own k 1 (L.map vStr)) (σ' := τ) va_ ?_ (Store.Wk.refl _) ⟨rfl, ?_, h4⟩
      · rw [hs, hy]; exact .own1 _ _ _
      · rw [hs]; exact h3
theorem rdSev_eq {α : Type} {f : Rd → α × Rd} {x : Rd} : rdSev f x = (if (rdRow f x).2.2 then (rdRow f x).1 else [], (rdRow f x).2) := by
  unfold rdSev rdRow
  dsimp only
  split <;> rfl
theorem texts_c {o : Nat} {x : Rd} {σ : Store} (ho : σ.heap o = some (rdO x)) : ACalls Tryz.prog 90 [.ref o 0] σ fun v σ' => v = .sl 1 ((rdSev rdTx x).1.map vStr) false ∧ σ'.heap o = some (rdO (rdSev rdTx x).2) ∧ SubX [o] σ σ' := by
  obtain ⟨N, hN⟩ : ∃ N, (rdCnt x 65536).1 = N := ⟨_, rfl⟩
  have hNb : N ≤ 65536 := by rw [← hN]; exact rdCnt_le _ _
  refine ACalls_of Tryz.func90 rfl Tryz.ntmps90 (congrArg Array.toList Tryz.results90) (by simp only [List.length_cons, List.length_nil]; decide) ?_; simp only [envOf_cons, envOf_nil, Nat.reduceAdd]
  refine awp_seq ?_
  refine awp_region (by kernel_rfl) ?_
  (refine aL_S rfl rfl v_ ?_)
  refine aL_nil ?_
  refine awp_seq ?_
  have R := hN
  refine awp_region (by kernel_rfl) ?_
  iterate 2 (refine aL_S rfl rfl v_ ?_)
  refine aL_X rfl rfl (AOp_use rfl rfl (.inr ⟨rfl, rfl, rfl⟩) g_ va_ (rdCount_c (m := 65536) ho) ?_); rintro _ _ ⟨rfl, rfl⟩
  iterate 2 (refine aL_S rfl rfl v_ ?_)
  refine aL_X rfl rfl (AOp_use rfl rfl (.inr ⟨rfl, rfl, rfl⟩) g_ va_ (sevText_c (N := N) (x0 := (rdCnt x 65536).2) (f := rdTx) (fun _ => True) (by kernel_rfl) (fun _ _ _ _ => trivial) (Store.set_get ..) trivial hNb (fun _ _ h _ => rdText_m h)) ?_); rintro _ υ ⟨rfl, u1, u2⟩
  (refine aL_S rfl rfl v_ ?_)
  refine aL_nil ?_
  refine awp_ret ?_
  refine aEnd_ret v_ (Store.Wk.refl _) ?_
  refine ⟨by rw [rdSev_eq, rdRow, hN], by rw [u1, rdSev_eq, rdRow, hN], SubX.trans SubX.self u2⟩
theorem sevLeaf_c {o G : Nat} {x : Rd} {σ : Store} {fs cp : List AVal} {f : Rd → Leaf × Rd} (Kp : Store → Prop) (hgo : isGo Tryz.prog G = true) (hK : ∀ τ τ', Kp τ → SubX [o] τ τ' → Kp τ') (ho : σ.heap o = some (rdO x)) (hKσ : Kp σ)
    (hf : ∀ τ y, τ.heap o = some (rdO y) → Kp τ → ACalls Tryz.prog G (fs ++ [] ++ cp) τ fun v τ' => v = sLeaf (f y).1 ∧ τ'.heap o = some (rdO (f y).2) ∧ SubX [o] τ τ') :
    ACalls Tryz.prog 91 [.ref o 0, .fn (.func G) fs cp] σ fun v σ' => v = .sl 2 ((rdRow f x).1.map sLeaf) false ∧ σ'.heap o = some (rdO (rdRow f x).2) ∧ SubX [o] σ σ' := by
  obtain ⟨N, hN⟩ : ∃ N, (rdCnt x 65536).1 = N := ⟨_, rfl⟩
  obtain ⟨x0, hx0⟩ : ∃ x0, (rdCnt x 65536).2 = x0 := ⟨_, rfl⟩
  have hNb : N ≤ 65536 := by rw [← hN]; exact rdCnt_le _ _
  refine ACalls_of Tryz.func91 rfl Tryz.ntmps91 (congrArg Array.toList Tryz.results91) (by simp only [List.length_cons, List.length_nil]; decide) ?_; simp only [envOf_cons, envOf_nil, Nat.reduceAdd]
  refine awp_seq ?_
  refine awp_region (by kernel_rfl) ?_
  (refine aL_S rfl rfl v_ ?_)
  refine aL_nil ?_
  refine awp_seq ?_
  refine awp_region (by kernel_rfl) ?_
  refine aL_nilOwn 63 2 rfl rfl rfl (by rfl) fun k5 hk5 => ?_
  refine aL_nil ?_
  refine awp_seq ?_
  refine awp_seq ?_
  have R := And.intro hN hx0
  refine awp_region (by kernel_rfl) ?_
  (refine aL_S rfl rfl v_ ?_)
  refine aL_X rfl rfl (AOp_use rfl rfl (.inr ⟨rfl, rfl, rfl⟩) g_ va_ (rdCount_c (m := 65536) ho) ?_); rintro _ _ ⟨rfl, rfl⟩
  (refine aL_S rfl rfl v_ ?_)
  refine aL_nil ?_
  refine awp_block ?_
  refine awp_loop_env (ι := Store × Nat × List Leaf × Rd × Nat) (fun ⟨τ, n, L, y, k⟩ => n) (fun ⟨τ, n, L, y, k⟩ => rdMany f N x0 = (L ++ (rdMany f n y).1, (rdMany f n y).2) ∧ L.length + n ≤ 65536 ∧ τ.heap o = some (rdO y) ∧ SubX [o] σ τ ∧ τ.tok k = some (63, 2) ∧ σ.tok k = none) (fun ⟨τ, n, L, y, k⟩ => [(0, .ref o 0), (1, .fn (.func G) fs cp), (5, .own k 2 (L.map sLeaf)), (6, vInt n)]) (fun ⟨τ, n, L, y, k⟩ => τ) ((σ.newTok none k5 (63, 2)).set o (rdO x0), N, [], x0, k5) ?_ ?_ ?_ ?_
  · exact ⟨rfl, by simpa using hNb, Store.set_get .., SubX.trans (subx_newTok hk5 subx_refl) SubX.self, by rw [Store.set_tok]; exact Store.newTok_get .., hk5⟩
  · have R := hN; exact cv_
  · rw [hx0]; exact Store.Wk.refl _
  rintro ⟨τ, n, L, y, k⟩ ⟨h1, h2, h3, h4, h5, h6⟩
  simp only [envL_cons, envL_nil]
  refine awp_seq ?_
  refine awp_seq ?_
  have R := h3
  refine awp_region (by kernel_rfl) ?_
  iterate 3 (refine aL_S rfl rfl v_ ?_)
  refine aL_GT rfl rfl v_ rfl vg_ ?_
  refine aL_GTX rfl rfl v_ rfl (fun hb => AOp_useV (by rfl) (by rfl) (.inr ⟨by rfl, by rfl, by rfl⟩) g_ cg_ (bad_x h3)) ?_
  refine aL_GT rfl rfl v_ rfl vg_ ?_
  (refine aL_S rfl rfl v_ ?_)
  refine aL_nil ?_
  refine awp_cond v_ (fun hc3 => ?_) (fun hc3 => ?_)
  · replace hc3 := nm_ hc3
    refine awp_skip ?_
    refine awp_seq ?_
    refine awp_block ?_
    have hn0 : 0 < n ∧ y.2 = true := by simpa using hc3
    have hn1 : n = (n - 1) + 1 := by omega
    have hn2 : (n : Int) - 1 = ((n - 1 : Nat) : Int) := by omega
    have hy := hn0.2
    refine awp_region (by kernel_rfl) ?_
    iterate 2 (refine aL_S rfl rfl v_ ?_)
    refine aL_X rfl rfl (AOp_use rfl rfl (.inl v_) g_ va_ (hf _ _ h3 (hK _ _ hKσ h4)) ?_); rintro _ υ ⟨rfl, hu1, hu2⟩
    refine aL_buildSlice rfl rfl rfl g_ g_ rfl rfl h_ c2_ (by decide) ?_
    have R := hu2.2 _ _ h5
    refine aL_append rfl rfl rfl g_ g_ v_ h_ v_ c_ (by simp; omega) fun k22 hk22 => ?_
    (refine aL_S rfl rfl v_ ?_)
    refine aL_nil ?_
    refine awp_region (by kernel_rfl) ?_
    iterate 3 (refine aL_S rfl rfl v_ ?_)
    refine aL_nil ?_
    refine aNext (ι := Store × Nat × List Leaf × Rd × Nat) (i := ⟨τ, n, L, y, k⟩) (υ.newTok (some k) k22 (63, 2), n - 1, L ++ [(f y).1], (f y).2, k22) ?_ ?_ ?_ ?_
    · show n - 1 < n; omega
    · exact ⟨by rw [h1, hn1, rdMany, hy]; simp, by simp; omega, hu1, SubX.newTok (SubX.trans h4 hu2) (fun j hj => by cases hj; exact h6) hk22, Store.newTok_get .., SubX.noTok (SubX.trans h4 hu2) hk22⟩
    · have R := hn2; exact cv_
    · exact Store.Wk.refl _
  · replace hc3 := nm_ hc3
    refine awp_exit ?_
    refine aThen_exit ?_
    refine aThen_exit ?_
    refine aBlock_hit ?_
    refine awp_seq ?_
    skip
    have hs : rdRow f x = (L, y) := by
      have hd : n = 0 ∨ y.2 = false := by
        rcases hc3 with h | h
        · exact .inl (by omega)
        · exact .inr (by simpa using h)
      unfold rdRow
      rw [hN, hx0, h1, rdMany_done f hd]; simp
    refine awp_region (by kernel_rfl) ?_
    iterate 2 (refine aL_S rfl rfl v_ ?_)
    refine aL_nil ?_
    refine awp_ret ?_
    refine aEnd_retW (v := .sl 2 ((rdRow f x).1.map sLeaf) false) (v' := .own k 2 (L.map sLeaf)) (σ' := τ) va_ ?_ (Store.Wk.refl _) ⟨rfl, ?_, h4⟩
    · rw [hs]; exact .own1 _ _ _
    · rw [hs]; exact h3
theorem sevItem_c {o G : Nat} {x : Rd} {σ : Store} {fs cp : List AVal} {f : Rd → Itm × Rd} (Kp : Store → Prop) (hgo : isGo Tryz.prog G = true) (hK : ∀ τ τ', Kp τ → SubX [o] τ τ' → Kp τ') (ho : σ.heap o = some (rdO x)) (hKσ : Kp σ)
    (hf : ∀ τ y, τ.heap o = some (rdO y) → Kp τ → ACalls Tryz.prog G (fs ++ [] ++ cp) τ fun v τ' => v = sItem (f y).1 ∧ τ'.heap o = some (rdO (f y).2) ∧ SubX [o] τ τ') :
    ACalls Tryz.prog 93 [.ref o 0, .fn (.func G) fs cp] σ fun v σ' => v = .sl 3 ((rdRow f x).1.map sItem) false ∧ σ'.heap o = some (rdO (rdRow f x).2) ∧ SubX [o] σ σ' := by
  obtain ⟨N, hN⟩ : ∃ N, (rdCnt x 65536).1 = N := ⟨_, rfl⟩
  obtain ⟨x0, hx0⟩ : ∃ x0, (rdCnt x 65536).2 = x0 := ⟨_, rfl⟩
  have hNb : N ≤ 65536 := by rw [← hN]; exact rdCnt_le _ _
  refine ACalls_of Tryz.func93 rfl Tryz.ntmps93 (congrArg Array.toList Tryz.results93) (by simp only [List.length_cons, List.length_nil]; decide) ?_; simp only [envOf_cons, envOf_nil, Nat.reduceAdd]
  refine awp_seq ?_
  refine awp_region (by kernel_rfl) ?_
  (refine aL_S rfl rfl v_ ?_)
  refine aL_nil ?_
  refine awp_seq ?_
  refine awp_region (by kernel_rfl) ?_
  refine aL_nilOwn 67 3 rfl rfl rfl (by rfl) fun k5 hk5 => ?_
  refine aL_nil ?_
  refine awp_seq ?_
  refine awp_seq ?_
  have R := And.intro hN hx0
  refine awp_region (by kernel_rfl) ?_
  (refine aL_S rfl rfl v_ ?_)
  refine aL_X rfl rfl (AOp_use rfl rfl (.inr ⟨rfl, rfl, rfl⟩) g_ va_ (rdCount_c (m := 65536) ho) ?_); rintro _ _ ⟨rfl, rfl⟩
  (refine aL_S rfl rfl v_ ?_)
  refine aL_nil ?_
  refine awp_block ?_
  refine awp_loop_env (ι := Store × Nat × List Itm × Rd × Nat) (fun ⟨τ, n, L, y, k⟩ => n) (fun ⟨τ, n, L, y, k⟩ => rdMany f N x0 = (L ++ (rdMany f n y).1, (rdMany f n y).2) ∧ L.length + n ≤ 65536 ∧ τ.heap o = some (rdO y) ∧ SubX [o] σ τ ∧ τ.tok k = some (67, 3) ∧ σ.tok k = none) (fun ⟨τ, n, L, y, k⟩ => [(0, .ref o 0), (1, .fn (.func G) fs cp), (5, .own k 3 (L.map sItem)), (6, vInt n)]) (fun ⟨τ, n, L, y, k⟩ => τ) ((σ.newTok none k5 (67, 3)).set o (rdO x0), N, [], x0, k5) ?_ ?_ ?_ ?_
  · exact ⟨rfl, by simpa using hNb, Store.set_get .., SubX.trans (subx_newTok hk5 subx_refl) SubX.self, by rw [Store.set_tok]; exact Store.newTok_get .., hk5⟩
  · have R := hN; exact cv_
  · rw [hx0]; exact Store.Wk.refl _
  rintro ⟨τ, n, L, y, k⟩ ⟨h1, h2, h3, h4, h5, h6⟩
  simp only [envL_cons, envL_nil]
  refine awp_seq ?_
  refine awp_seq ?_
  have R := h3
  refine awp_region (by kernel_rfl) ?_
  iterate 3 (refine aL_S rfl rfl v_ ?_)
  refine aL_GT rfl rfl v_ rfl vg_ ?_
  refine aL_GTX rfl rfl v_ rfl (fun hb => AOp_useV (by rfl) (by rfl) (.inr ⟨by rfl, by rfl, by rfl⟩) g_ cg_ (bad_x h3)) ?_
  refine aL_GT rfl rfl v_ rfl vg_ ?_
  (refine aL_S rfl rfl v_ ?_)
  refine aL_nil ?_
  refine awp_cond v_ (fun hc3 => ?_) (fun hc3 => ?_)
  · replace hc3 := nm_ hc3
    refine awp_skip ?_
    refine awp_seq ?_
    refine awp_block ?_
    have hn0 : 0 < n ∧ y.2 = true := by simpa using hc3
    have hn1 : n = (n - 1) + 1 := by omega
    have hn2 : (n : Int) - 1 = ((n - 1 : Nat) : Int) := by omega
    have hy := hn0.2
    refine awp_region (by kernel_rfl) ?_
    iterate 2 (refine aL_S rfl rfl v_ ?_)
    refine aL_X rfl rfl (AOp_use rfl rfl (.inl v_) g_ va_ (hf _ _ h3 (hK _ _ hKσ h4)) ?_); rintro _ υ ⟨rfl, hu1, hu2⟩
    refine aL_buildSlice rfl rfl rfl g_ g_ rfl rfl h_ c2_ (by decide) ?_
    have R := hu2.2 _ _ h5
    refine aL_append rfl rfl rfl g_ g_ v_ h_ v_ c_ (by simp; omega) fun k22 hk22 => ?_
    (refine aL_S rfl rfl v_ ?_)
    refine aL_nil ?_
    refine awp_region (by kernel_rfl) ?_
    iterate 3 (refine aL_S rfl rfl v_ ?_)
    refine aL_nil ?_
    refine aNext (ι := Store × Nat × List Itm × Rd × Nat) (i := ⟨τ, n, L, y, k⟩) (υ.newTok (some k) k22 (67, 3), n - 1, L ++ [(f y).1], (f y).2, k22) ?_ ?_ ?_ ?_
    · show n - 1 < n; omega
    · exact ⟨by rw [h1, hn1, rdMany, hy]; simp, by simp; omega, hu1, SubX.newTok (SubX.trans h4 hu2) (fun j hj => by cases hj; exact h6) hk22, Store.newTok_get .., SubX.noTok (SubX.trans h4 hu2) hk22⟩
    · have R := hn2; exact cv_
    · exact Store.Wk.refl _
  · replace hc3 := nm_ hc3
    refine awp_exit ?_
    refine aThen_exit ?_
    refine aThen_exit ?_
    refine aBlock_hit ?_
    refine awp_seq ?_
    skip
    have hs : rdRow f x = (L, y) := by
      have hd : n = 0 ∨ y.2 = false := by
        rcases hc3 with h | h
        · exact .inl (by omega)
        · exact .inr (by simpa using h)
      unfold rdRow
      rw [hN, hx0, h1, rdMany_done f hd]; simp
    refine awp_region (by kernel_rfl) ?_
    iterate 2 (refine aL_S rfl rfl v_ ?_)
    refine aL_nil ?_
    refine awp_ret ?_
    refine aEnd_retW (v := .sl 3 ((rdRow f x).1.map sItem) false) (v' := .own k 3 (L.map sItem)) (σ' := τ) va_ ?_ (Store.Wk.refl _) ⟨rfl, ?_, h4⟩
    · rw [hs]; exact .own1 _ _ _
    · rw [hs]; exact h3
theorem readLeaf_c {o ob : Nat} {x : Rd} {σ : Store} (ho : σ.heap o = some (rdO x)) (hb : σ.heap ob = some (.cells [.ref o 0])) : ACalls Tryz.prog 92 [.ref ob 0] σ fun v σ' => v = sLeaf (rdLeaf x).1 ∧ σ'.heap o = some (rdO (rdLeaf x).2) ∧ SubX [o] σ σ' := by
  have hne : ob ≠ o := fun hh => by rw [hh, ho] at hb; cases hb
  refine ACalls_of Tryz.func92 rfl Tryz.ntmps92 (congrArg Array.toList Tryz.results92) (by simp only [List.length_cons, List.length_nil]; decide) ?_; simp only [envOf_cons, envOf_nil, Nat.reduceAdd]
  refine awp_seq ?_
  refine awp_region (by kernel_rfl) ?_
  refine aL_alloc rfl rfl rfl g_ gl_ fun o1 ho1 => ?_
  repeat (rw [none_set_iff] at ho1; obtain ⟨_, ho1⟩ := ho1)
  refine aL_nil ?_
  have n1 := ne_of_heap ho ho1
  have n1b := ne_of_heap hb ho1
  refine awp_seq ?_
  have R := hb
  refine awp_region (by kernel_rfl) ?_
  (refine aL_S rfl rfl v_ ?_)
  refine aL_X rfl rfl (AOp_use rfl rfl (.inr ⟨rfl, rfl, rfl⟩) g_ va_ (rdText_c (x := x) (by first | exact ho | simp (disch := omega) only [Store.set_ne, ho])) ?_); rintro _ _ ⟨rfl, rfl⟩
  (refine aL_S rfl rfl v_ ?_)
  refine aL_nil ?_
  refine awp_seq ?_
  have R := hb
  refine awp_region (by kernel_rfl) ?_
  iterate 2 (refine aL_S rfl rfl v_ ?_)
  refine aL_X rfl rfl (AOp_use rfl rfl (.inr ⟨rfl, rfl, rfl⟩) g_ va_ (rdText_c (x := (rdText x).2) (Store.set_get ..)) ?_); rintro _ _ ⟨rfl, rfl⟩
  (refine aL_S rfl rfl v_ ?_)
  refine aL_store rfl rfl rfl v_ v_ h_ g_ rfl g_ c_ (by rfl) le_ v_ ?_
  refine aL_nil ?_
  refine awp_ret ?_
  refine aEnd_ret v_ (Store.Wk.refl _) ?_
  refine ⟨rfl, by simp (disch := omega) only [Store.set_ne, Store.set_get]; rfl, ?_⟩
  exact sub_
theorem readObj_q {o : Nat} {x : Rd} {Q : Obj' × Rd} {σ : Store} (hQ : rdObj x = Q) (ho : σ.heap o = some (rdO x)) : ACalls Tryz.prog 89 [.ref o 0] σ fun v σ' => v = sObj Q.1 ∧ σ'.heap o = some (rdO Q.2) ∧ SubX [o] σ σ' := by
  subst hQ; exact readObj_c ho
theorem rdItem_eq {x : Rd} {T : List UInt8} {y : Rd} {Q : Obj' × Rd} (h1 : rdText x = (T, y)) (h2 : rdObj y = Q) : rdItem x = (⟨B T, Q.1⟩, Q.2) := by
  unfold rdItem
  rw [h1]; dsimp only; rw [h2]
theorem readItem_c {o ob : Nat} {x : Rd} {σ : Store} (ho : σ.heap o = some (rdO x)) (hb : σ.heap ob = some (.cells [.ref o 0])) : ACalls Tryz.prog 94 [.ref ob 0] σ fun v σ' => v = sItem (rdItem x).1 ∧ σ'.heap o = some (rdO (rdItem x).2) ∧ SubX [o] σ σ' := by
  have hne : ob ≠ o := fun hh => by rw [hh, ho] at hb; cases hb
  obtain ⟨⟨T, y⟩, hT⟩ : ∃ Z, rdText x = Z := ⟨_, rfl⟩
  obtain ⟨Q, hQ⟩ : ∃ Q, rdObj y = Q := ⟨_, rfl⟩
  rw [rdItem_eq hT hQ]
  refine ACalls_of Tryz.func94 rfl Tryz.ntmps94 (congrArg Array.toList Tryz.results94) (by simp only [List.length_cons, List.length_nil]; decide) ?_; simp only [envOf_cons, envOf_nil, Nat.reduceAdd]
  refine awp_seq ?_
  refine awp_region (by kernel_rfl) ?_
  refine aL_alloc rfl rfl rfl g_ gl_ fun o1 ho1 => ?_
  repeat (rw [none_set_iff] at ho1; obtain ⟨_, ho1⟩ := ho1)
  refine aL_nil ?_
  have n1 := ne_of_heap ho ho1
  have n1b := ne_of_heap hb ho1
  refine awp_seq ?_
  have R := And.intro hb hT
  refine awp_region (by kernel_rfl) ?_
  (refine aL_S rfl rfl v_ ?_)
  refine aL_X rfl rfl (AOp_use rfl rfl (.inr ⟨rfl, rfl, rfl⟩) g_ va_ (rdText_c (x := x) (by first | exact ho | simp (disch := omega) only [Store.set_ne, ho])) ?_); rintro _ _ ⟨rfl, rfl⟩
  (refine aL_S rfl rfl v_ ?_)
  refine aL_nil ?_
  refine awp_seq ?_
  have R := And.intro hb hT
  refine awp_region (by kernel_rfl) ?_
  iterate 2 (refine aL_S rfl rfl v_ ?_)
  refine aL_X rfl rfl (AOp_use rfl rfl (.inr ⟨rfl, rfl, rfl⟩) g_ va_ (readObj_q (x := y) hQ (by rw [hT]; exact Store.set_get ..)) ?_); rintro _ υ ⟨rfl, u1, u2⟩
  have R := keep (i := o1) u2 h_ (by simp; omega)
  (refine aL_S rfl rfl v_ ?_)
  refine aL_store rfl rfl rfl v_ v_ h_ g_ rfl g_ c_ (by rfl) le_ v_ ?_
  refine aL_nil ?_
  refine awp_ret ?_
  refine aEnd_ret v_ (Store.Wk.refl _) ?_
  refine ⟨rfl, by simp (disch := omega) only [Store.set_ne, u1], ?_⟩
  exact subx_new ho1 (SubX.trans sub_ u2)
end Go.Proofs.YtbjloippgpilcaaGreat
end

section
set_option linter.all false
set_option maxRecDepth 100000
namespace Go.Proofs.YtbjloippgpilcaaGreat
open Go.Ab

theorem readEnt_c {o : Nat} {x : Rd} {σ : Store} (ho : σ.heap o = some (rdO x)) : ACalls Tryz.prog 125 [.agg [.ref o 0]] σ fun v σ' => v = sEnt (rdEnt x).1 ∧ σ'.heap o = some (rdO (rdEnt x).2) ∧ SubX [o] σ σ' := by
  obtain ⟨z, hz⟩ : ∃ z, AObj.cells [.lit (.string ⟨#[]⟩), .lit (.int .i64 0), .lit (.string ⟨#[]⟩), .lit (.string ⟨#[]⟩)] = z := ⟨_, rfl⟩
  obtain ⟨x1, e1⟩ : ∃ x1, rdNum (rdText x).2 8 = x1 := ⟨_, rfl⟩
  obtain ⟨x2, e2⟩ : ∃ x2, rdText x1.2 = x2 := ⟨_, rfl⟩
  obtain ⟨x3, e3⟩ : ∃ x3, rdText x2.2 = x3 := ⟨_, rfl⟩
  refine ACalls_of Tryz.func125 rfl Tryz.ntmps125 (congrArg Array.toList Tryz.results125) (by simp only [List.length_cons, List.length_nil]; decide) ?_; simp only [envOf_cons, envOf_nil, Nat.reduceAdd]
  refine awp_seq ?_
  refine awp_region (by kernel_rfl) ?_
  refine aL_box rfl rfl rfl v_ rfl g_ fun o1 ho1 => ?_
  repeat (rw [none_set_iff] at ho1; obtain ⟨_, ho1⟩ := ho1)
  refine aL_alloc rfl rfl rfl g_ gl_ fun o2 ho2 => ?_
  repeat (rw [none_set_iff] at ho2; obtain ⟨_, ho2⟩ := ho2)
  refine aL_nil ?_
  have n1 := ne_of_heap ho ho1
  have n2 := ne_of_heap ho ho2
  refine awp_seq ?_
  refine awp_region (by kernel_rfl) ?_
  refine aL_alloc rfl rfl rfl g_ gl_ fun o3 ho3 => ?_
  repeat (rw [none_set_iff] at ho3; obtain ⟨_, ho3⟩ := ho3)
  refine aL_nil ?_
  have n3 := ne_of_heap ho ho3
  refine awp_seq_mid (ι := Store) (fun υ => υ.heap o = some (rdO x1.2) ∧ υ.heap o1 = some (.cells [.ref o 0]) ∧ υ.heap o2 = some z ∧ υ.heap o3 = some (.cells [vStr (B (rdText x).1), vInt x1.1, .lit (.string ⟨#[]⟩), .lit (.string ⟨#[]⟩)]) ∧ SubX [o] σ υ) (fun υ => [(1, .ref o1 0), (2, .ref o2 0), (3, .ref o3 0)]) (fun υ => υ) ?_ ?_
  · refine awp_draw (.op 0 0 (.op 3 0 (.alt 1 2 (.alt 2 2 (.op 6 0 (.op 4 2 (.op 5 2 (.op 7 2 (.op 8 0 (.op 9 0 (.op 10 2 .nil))))))) (.op 4 2 (.op 2 2 (.op 6 0 (.op 5 2 (.op 7 2 (.op 8 0 (.op 9 0 (.op 10 2 .nil))))))))) (.op 4 2 (.op 1 2 (.op 2 2 (.op 6 0 (.op 5 2 (.op 7 2 (.op 8 0 (.op 9 0 (.op 10 2 .nil)))))))))))) Tryz.mixed (by kernel_rfl) ?_
    iterate 2 (refine dR_S o_ (by rfl) (by rfl) v_ ?_)
    refine dR_alt ?_ ?_
    · refine dR_T o_ (by rfl) (by rfl) (AOp_val v_ ?_)
      refine dR_alt ?_ ?_
      · refine dR_T o_ (by rfl) (by rfl) (AOp_use (by rfl) (by rfl) (.inr ⟨by rfl, by rfl, by rfl⟩) g_ va_ (rdText_c (x := x) (by first | exact ho | simp (disch := omega) only [Store.set_ne, ho])) ?_); rintro _ _ ⟨rfl, rfl⟩
        (refine dR_S o_ (by rfl) (by rfl) v_ ?_)
        refine dR_T o_ (by rfl) (by rfl) (AOp_val v_ ?_)
        refine dR_T o_ (by rfl) (by rfl) (AOp_use (by rfl) (by rfl) (.inr ⟨by rfl, by rfl, by rfl⟩) g_ va_ (rdInt_c (Store.set_get ..)) ?_); rintro _ _ ⟨rfl, rfl⟩
        refine dR_store o_ (by rfl) (by rfl) (by rfl) v_ v_ h_ g_ rfl g_ c_ (by rfl) le_ v_ ?_
        iterate 2 (refine dR_S o_ (by rfl) (by rfl) v_ ?_)
        refine dR_store o_ (by rfl) (by rfl) (by rfl) v_ v_ h_ g_ rfl g_ c_ (by rfl) le_ v_ ?_
        refine dR_nil ?_
        refine ⟨(((((((σ.set o1 (.cells [.ref o 0])).set o2 (.cells [.lit (.string ⟨#[]⟩), .lit (.int .i64 0), .lit (.string ⟨#[]⟩), .lit (.string ⟨#[]⟩)])).set o3 (.cells [.lit (.string ⟨#[]⟩), .lit (.int .i64 0), .lit (.string ⟨#[]⟩), .lit (.string ⟨#[]⟩)])).set o (rdO (rdText x).2)).set o (rdO (rdNum (rdText x).2 8).2)).set o3 (.cells [vStr (B (rdText x).1), .lit (.int .i64 0), .lit (.string ⟨#[]⟩), .lit (.string ⟨#[]⟩)])).set o3 (.cells [vStr (B (rdText x).1), vInt (rdNum (rdText x).2 8).1, .lit (.string ⟨#[]⟩), .lit (.string ⟨#[]⟩)])), ?_, ?_, ?_⟩
        · rw [← e1, ← hz]; exact ⟨h_, h_, h_, h_, sub_⟩
        · exact cv_
        · exact Store.Wk.refl _
      refine dR_T o_ (by rfl) (by rfl) (AOp_val v_ ?_)
      refine dR_T o_ (by rfl) (by rfl) (AOp_use (by rfl) (by rfl) (.inr ⟨by rfl, by rfl, by rfl⟩) g_ va_ (rdText_c (x := x) (by first | exact ho | simp (disch := omega) only [Store.set_ne, ho])) ?_); rintro _ _ ⟨rfl, rfl⟩
      (refine dR_S o_ (by rfl) (by rfl) v_ ?_)
      refine dR_T o_ (by rfl) (by rfl) (AOp_use (by rfl) (by rfl) (.inr ⟨by rfl, by rfl, by rfl⟩) g_ va_ (rdInt_c (Store.set_get ..)) ?_); rintro _ _ ⟨rfl, rfl⟩
      refine dR_store o_ (by rfl) (by rfl) (by rfl) v_ v_ h_ g_ rfl g_ c_ (by rfl) le_ v_ ?_
      iterate 2 (refine dR_S o_ (by rfl) (by rfl) v_ ?_)
      refine dR_store o_ (by rfl) (by rfl) (by rfl) v_ v_ h_ g_ rfl g_ c_ (by rfl) le_ v_ ?_
      refine dR_nil ?_
      refine ⟨(((((((σ.set o1 (.cells [.ref o 0])).set o2 (.cells [.lit (.string ⟨#[]⟩), .lit (.int .i64 0), .lit (.string ⟨#[]⟩), .lit (.string ⟨#[]⟩)])).set o3 (.cells [.lit (.string ⟨#[]⟩), .lit (.int .i64 0), .lit (.string ⟨#[]⟩), .lit (.string ⟨#[]⟩)])).set o (rdO (rdText x).2)).set o (rdO (rdNum (rdText x).2 8).2)).set o3 (.cells [vStr (B (rdText x).1), .lit (.int .i64 0), .lit (.string ⟨#[]⟩), .lit (.string ⟨#[]⟩)])).set o3 (.cells [vStr (B (rdText x).1), vInt (rdNum (rdText x).2 8).1, .lit (.string ⟨#[]⟩), .lit (.string ⟨#[]⟩)])), ?_, ?_, ?_⟩
      · rw [← e1, ← hz]; exact ⟨h_, h_, h_, h_, sub_⟩
      · exact cv_
      · exact Store.Wk.refl _
    refine dR_T o_ (by rfl) (by rfl) (AOp_val v_ ?_)
    refine dR_T o_ (by rfl) (by rfl) (AOp_val v_ ?_)
    refine dR_T o_ (by rfl) (by rfl) (AOp_use (by rfl) (by rfl) (.inr ⟨by rfl, by rfl, by rfl⟩) g_ va_ (rdText_c (x := x) (by first | exact ho | simp (disch := omega) only [Store.set_ne, ho])) ?_); rintro _ _ ⟨rfl, rfl⟩
    (refine dR_S o_ (by rfl) (by rfl) v_ ?_)
    refine dR_T o_ (by rfl) (by rfl) (AOp_use (by rfl) (by rfl) (.inr ⟨by rfl, by rfl, by rfl⟩) g_ va_ (rdInt_c (Store.set_get ..)) ?_); rintro _ _ ⟨rfl, rfl⟩
    refine dR_store o_ (by rfl) (by rfl) (by rfl) v_ v_ h_ g_ rfl g_ c_ (by rfl) le_ v_ ?_
    iterate 2 (refine dR_S o_ (by rfl) (by rfl) v_ ?_)
    refine dR_store o_ (by rfl) (by rfl) (by rfl) v_ v_ h_ g_ rfl g_ c_ (by rfl) le_ v_ ?_
    refine dR_nil ?_
    refine ⟨(((((((σ.set o1 (.cells [.ref o 0])).set o2 (.cells [.lit (.string ⟨#[]⟩), .lit (.int .i64 0), .lit (.string ⟨#[]⟩), .lit (.string ⟨#[]⟩)])).set o3 (.cells [.lit (.string ⟨#[]⟩), .lit (.int .i64 0), .lit (.string ⟨#[]⟩), .lit (.string ⟨#[]⟩)])).set o (rdO (rdText x).2)).set o (rdO (rdNum (rdText x).2 8).2)).set o3 (.cells [vStr (B (rdText x).1), .lit (.int .i64 0), .lit (.string ⟨#[]⟩), .lit (.string ⟨#[]⟩)])).set o3 (.cells [vStr (B (rdText x).1), vInt (rdNum (rdText x).2 8).1, .lit (.string ⟨#[]⟩), .lit (.string ⟨#[]⟩)])), ?_, ?_, ?_⟩
    · rw [← e1, ← hz]; exact ⟨h_, h_, h_, h_, sub_⟩
    · exact cv_
    · exact Store.Wk.refl _
  · rintro υ ⟨u1, u2, u3, u4, u5⟩
    simp only [envL_cons, envL_nil]
    refine awp_seq_mid (ι := Store) (fun φ => φ.heap o = some (rdO x3.2) ∧ φ.heap o2 = some z ∧ φ.heap o3 = some (.cells [vStr (B (rdText x).1), vInt x1.1, vStr (B x2.1), vStr (B x3.1)]) ∧ SubX [o] σ φ) (fun φ => [(1, .ref o1 0), (2, .ref o2 0), (3, .ref o3 0)]) (fun φ => φ) ?_ ?_
    · have R := And.intro u2 u4
      refine awp_draw (.op 0 0 (.op 3 0 (.alt 1 2 (.alt 2 2 (.op 6 0 (.op 7 0 (.op 4 2 (.op 5 2 (.op 8 2 (.op 9 0 (.op 10 0 (.op 11 2 .nil)))))))) (.op 4 2 (.op 2 2 (.op 6 0 (.op 7 0 (.op 5 2 (.op 8 2 (.op 9 0 (.op 10 0 (.op 11 2 .nil)))))))))) (.op 4 2 (.op 1 2 (.op 2 2 (.op 6 0 (.op 7 0 (.op 5 2 (.op 8 2 (.op 9 0 (.op 10 0 (.op 11 2 .nil))))))))))))) Tryz.mixed (by kernel_rfl) ?_
      iterate 2 (refine dR_S o_ (by rfl) (by rfl) v_ ?_)
      refine dR_alt ?_ ?_
      · refine dR_T o_ (by rfl) (by rfl) (AOp_val v_ ?_)
        refine dR_alt ?_ ?_
        · refine dR_T o_ (by rfl) (by rfl) (AOp_use (by rfl) (by rfl) (.inr ⟨by rfl, by rfl, by rfl⟩) g_ va_ (rdText_c (x := x1.2) (by simp (disch := omega) only [Store.set_ne, u1])) ?_); rintro _ _ ⟨rfl, rfl⟩
          iterate 2 (refine dR_S o_ (by rfl) (by rfl) v_ ?_)
          refine dR_T o_ (by rfl) (by rfl) (AOp_val v_ ?_)
          refine dR_T o_ (by rfl) (by rfl) (AOp_use (by rfl) (by rfl) (.inr ⟨by rfl, by rfl, by rfl⟩) g_ va_ (rdText_c (Store.set_get ..)) ?_); rintro _ _ ⟨rfl, rfl⟩
          refine dR_store o_ (by rfl) (by rfl) (by rfl) v_ v_ h_ g_ rfl g_ c_ (by rfl) le_ v_ ?_
          iterate 2 (refine dR_S o_ (by rfl) (by rfl) v_ ?_)
          refine dR_store o_ (by rfl) (by rfl) (by rfl) v_ v_ h_ g_ rfl g_ c_ (by rfl) le_ v_ ?_
          refine dR_nil ?_
          refine ⟨((((υ.set o (rdO (rdText x1.2).2)).set o (rdO (rdText (rdText x1.2).2).2)).set o3 (.cells [vStr (B (rdText x).1), vInt x1.1, vStr (B (rdText x1.2).1), .lit (.string ⟨#[]⟩)])).set o3 (.cells [vStr (B (rdText x).1), vInt x1.1, vStr (B (rdText x1.2).1), vStr (B (rdText (rdText x1.2).2).1)])), ?_, ?_, ?_⟩
          · rw [← e3, ← e2]; exact ⟨by simp (disch := omega) only [Store.set_ne, Store.set_get], by simp (disch := omega) only [Store.set_ne, u3], h_, subx_new ho3 (subx_new ho3 (subx_in (.head _) (subx_in (.head _) u5)))⟩
          · exact cv_
          · exact Store.Wk.refl _
        refine dR_T o_ (by rfl) (by rfl) (AOp_val v_ ?_)
        refine dR_T o_ (by rfl) (by rfl) (AOp_use (by rfl) (by rfl) (.inr ⟨by rfl, by rfl, by rfl⟩) g_ va_ (rdText_c (x := x1.2) (by simp (disch := omega) only [Store.set_ne, u1])) ?_); rintro _ _ ⟨rfl, rfl⟩
        iterate 2 (refine dR_S o_ (by rfl) (by rfl) v_ ?_)
        refine dR_T o_ (by rfl) (by rfl) (AOp_use (by rfl) (by rfl) (.inr ⟨by rfl, by rfl, by rfl⟩) g_ va_ (rdText_c (Store.set_get ..)) ?_); rintro _ _ ⟨rfl, rfl⟩
        refine dR_store o_ (by rfl) (by rfl) (by rfl) v_ v_ h_ g_ rfl g_ c_ (by rfl) le_ v_ ?_
        iterate 2 (refine dR_S o_ (by rfl) (by rfl) v_ ?_)
        refine dR_store o_ (by rfl) (by rfl) (by rfl) v_ v_ h_ g_ rfl g_ c_ (by rfl) le_ v_ ?_
        refine dR_nil ?_
        refine ⟨((((υ.set o (rdO (rdText x1.2).2)).set o (rdO (rdText (rdText x1.2).2).2)).set o3 (.cells [vStr (B (rdText x).1), vInt x1.1, vStr (B (rdText x1.2).1), .lit (.string ⟨#[]⟩)])).set o3 (.cells [vStr (B (rdText x).1), vInt x1.1, vStr (B (rdText x1.2).1), vStr (B (rdText (rdText x1.2).2).1)])), ?_, ?_, ?_⟩
        · rw [← e3, ← e2]; exact ⟨by simp (disch := omega) only [Store.set_ne, Store.set_get], by simp (disch := omega) only [Store.set_ne, u3], h_, subx_new ho3 (subx_new ho3 (subx_in (.head _) (subx_in (.head _) u5)))⟩
        · exact cv_
        · exact Store.Wk.refl _
      refine dR_T o_ (by rfl) (by rfl) (AOp_val v_ ?_)
      refine dR_T o_ (by rfl) (by rfl) (AOp_val v_ ?_)
      refine dR_T o_ (by rfl) (by rfl) (AOp_use (by rfl) (by rfl) (.inr ⟨by rfl, by rfl, by rfl⟩) g_ va_ (rdText_c (x := x1.2) (by simp (disch := omega) only [Store.set_ne, u1])) ?_); rintro _ _ ⟨rfl, rfl⟩
      iterate 2 (refine dR_S o_ (by rfl) (by rfl) v_ ?_)
      refine dR_T o_ (by rfl) (by rfl) (AOp_use (by rfl) (by rfl) (.inr ⟨by rfl, by rfl, by rfl⟩) g_ va_ (rdText_c (Store.set_get ..)) ?_); rintro _ _ ⟨rfl, rfl⟩
      refine dR_store o_ (by rfl) (by rfl) (by rfl) v_ v_ h_ g_ rfl g_ c_ (by rfl) le_ v_ ?_
      iterate 2 (refine dR_S o_ (by rfl) (by rfl) v_ ?_)
      refine dR_store o_ (by rfl) (by rfl) (by rfl) v_ v_ h_ g_ rfl g_ c_ (by rfl) le_ v_ ?_
      refine dR_nil ?_
      refine ⟨((((υ.set o (rdO (rdText x1.2).2)).set o (rdO (rdText (rdText x1.2).2).2)).set o3 (.cells [vStr (B (rdText x).1), vInt x1.1, vStr (B (rdText x1.2).1), .lit (.string ⟨#[]⟩)])).set o3 (.cells [vStr (B (rdText x).1), vInt x1.1, vStr (B (rdText x1.2).1), vStr (B (rdText (rdText x1.2).2).1)])), ?_, ?_, ?_⟩
      · rw [← e3, ← e2]; exact ⟨by simp (disch := omega) only [Store.set_ne, Store.set_get], by simp (disch := omega) only [Store.set_ne, u3], h_, subx_new ho3 (subx_new ho3 (subx_in (.head _) (subx_in (.head _) u5)))⟩
      · exact cv_
      · exact Store.Wk.refl _
    · rintro φ ⟨q1, q3, q4, q5⟩
      simp only [envL_cons, envL_nil]
      refine awp_seq ?_
      have q3' : φ.heap o2 = some (.cells [.lit (.string ⟨#[]⟩), .lit (.int .i64 0), .lit (.string ⟨#[]⟩), .lit (.string ⟨#[]⟩)]) := by rw [q3, hz]
      have R := And.intro q3' q4
      refine awp_region (by kernel_rfl) ?_
      (refine aL_S rfl rfl v_ ?_)
      refine aL_store rfl rfl rfl v_ v_ h_ g_ rfl g_ c_ (by rfl) le_ v_ ?_
      refine aL_nil ?_
      refine awp_ret ?_
      refine aEnd_ret v_ (Store.Wk.refl _) ?_
      refine ⟨by subst e3; subst e2; subst e1; rfl, by simp (disch := omega) only [Store.set_ne, q1]; subst e3; subst e2; subst e1; rfl, subx_new ho2 q5⟩
theorem readEnts_c {o : Nat} {x : Rd} {σ : Store} (ho : σ.heap o = some (rdO x)) : ACalls Tryz.prog 95 [.ref o 0] σ fun v σ' => v = .sl 4 ((rdSev rdEnt x).1.map sEnt) false ∧ σ'.heap o = some (rdO (rdSev rdEnt x).2) ∧ SubX [o] σ σ' := by
  obtain ⟨f, hf⟩ : ∃ f, rdEnt = f := ⟨_, rfl⟩
  obtain ⟨N, hN⟩ : ∃ N, (rdCnt x 65536).1 = N := ⟨_, rfl⟩
  obtain ⟨x0, hx0⟩ : ∃ x0, (rdCnt x 65536).2 = x0 := ⟨_, rfl⟩
  have hNb : N ≤ 65536 := by rw [← hN]; exact rdCnt_le _ _
  rw [hf]
  refine ACalls_of Tryz.func95 rfl Tryz.ntmps95 (congrArg Array.toList Tryz.results95) (by simp only [List.length_cons, List.length_nil]; decide) ?_; simp only [envOf_cons, envOf_nil, Nat.reduceAdd]
  refine awp_seq ?_
  refine awp_region (by kernel_rfl) ?_
  (refine aL_S rfl rfl v_ ?_)
  refine aL_nil ?_
  refine awp_seq ?_
  refine awp_region (by kernel_rfl) ?_
  iterate 4 (refine aL_S rfl rfl v_ ?_)
  refine aL_nil ?_
  refine awp_seq ?_
  refine awp_region (by kernel_rfl) ?_
  refine aL_nilOwn 99 4 rfl rfl rfl (by rfl) fun k4 hk4 => ?_
  refine aL_nil ?_
  refine awp_seq ?_
  refine awp_seq ?_
  have R := And.intro hN hx0
  refine awp_region (by kernel_rfl) ?_
  (refine aL_S rfl rfl v_ ?_)
  refine aL_X rfl rfl (AOp_use rfl rfl (.inr ⟨rfl, rfl, rfl⟩) g_ va_ (rdCount_c (m := 65536) ho) ?_); rintro _ _ ⟨rfl, rfl⟩
  (refine aL_S rfl rfl v_ ?_)
  refine aL_nil ?_
  refine awp_block ?_
  refine awp_loop_env (ι := Store × Nat × List Ent × Rd × Nat) (fun ⟨τ, n, L, y, k⟩ => n) (fun ⟨τ, n, L, y, k⟩ => rdMany f N x0 = (L ++ (rdMany f n y).1, (rdMany f n y).2) ∧ L.length + n ≤ 65536 ∧ τ.heap o = some (rdO y) ∧ SubX [o] σ τ ∧ τ.tok k = some (99, 4) ∧ σ.tok k = none) (fun ⟨τ, n, L, y, k⟩ => [(0, .ref o 0), (3, .fn (.func 125) [.agg [.ref o 0]] []), (4, .own k 4 (L.map sEnt)), (5, vInt n)]) (fun ⟨τ, n, L, y, k⟩ => τ) ((σ.newTok none k4 (99, 4)).set o (rdO x0), N, [], x0, k4) ?_ ?_ ?_ ?_
  · exact ⟨rfl, by simpa using hNb, Store.set_get .., SubX.trans (subx_newTok hk4 subx_refl) SubX.self, by rw [Store.set_tok]; exact Store.newTok_get .., hk4⟩
  · have R := hN; exact cv_
  · rw [hx0]; exact Store.Wk.refl _
  rintro ⟨τ, n, L, y, k⟩ ⟨h1, h2, h3, h4, h5, h6⟩
  simp only [envL_cons, envL_nil]
  refine awp_seq ?_
  refine awp_seq ?_
  have R := h3
  refine awp_region (by kernel_rfl) ?_
  iterate 3 (refine aL_S rfl rfl v_ ?_)
  refine aL_GT rfl rfl v_ rfl vg_ ?_
  refine aL_GTX rfl rfl v_ rfl (fun hb => AOp_useV (by rfl) (by rfl) (.inr ⟨by rfl, by rfl, by rfl⟩) g_ cg_ (bad_x h3)) ?_
  refine aL_GT rfl rfl v_ rfl vg_ ?_
  (refine aL_S rfl rfl v_ ?_)
  refine aL_nil ?_
  refine awp_cond v_ (fun hc4 => ?_) (fun hc4 => ?_)
  · replace hc4 := nm_ hc4
    refine awp_skip ?_
    refine awp_seq ?_
    refine awp_block ?_
    have hn0 : 0 < n ∧ y.2 = true := by simpa using hc4
    have hn1 : n = (n - 1) + 1 := by omega
    have hn2 : (n : Int) - 1 = ((n - 1 : Nat) : Int) := by omega
    have hy := hn0.2
    refine awp_region (by kernel_rfl) ?_
    iterate 2 (refine aL_S rfl rfl v_ ?_)
    refine aL_X rfl rfl (AOp_use rfl rfl (.inl v_) g_ va_ (hf ▸ readEnt_c h3) ?_); rintro _ υ ⟨rfl, hu1, hu2⟩
    refine aL_buildSlice rfl rfl rfl g_ g_ rfl rfl h_ c2_ (by decide) ?_
    have R := hu2.2 _ _ h5
    refine aL_append rfl rfl rfl g_ g_ v_ h_ v_ c_ (by simp; omega) fun k24 hk24 => ?_
    (refine aL_S rfl rfl v_ ?_)
    refine aL_nil ?_
    refine awp_region (by kernel_rfl) ?_
    iterate 3 (refine aL_S rfl rfl v_ ?_)
    refine aL_nil ?_
    refine aNext (ι := Store × Nat × List Ent × Rd × Nat) (i := ⟨τ, n, L, y, k⟩) (υ.newTok (some k) k24 (99, 4), n - 1, L ++ [(f y).1], (f y).2, k24) ?_ ?_ ?_ ?_
    · show n - 1 < n; omega
    · exact ⟨by rw [h1, hn1, rdMany, hy]; simp, by simp; omega, by rw [Store.newTok_heap]; exact hu1, SubX.newTok (SubX.trans h4 hu2) (fun j hj => by cases hj; exact h6) hk24, Store.newTok_get .., SubX.noTok (SubX.trans h4 hu2) hk24⟩
    · have R := hn2; exact cv_
    · exact Store.Wk.refl _
  · replace hc4 := nm_ hc4
    refine awp_exit ?_
    refine aThen_exit ?_
    refine aThen_exit ?_
    refine aBlock_hit ?_
    refine awp_seq ?_
    refine awp_seq ?_
    skip
    have hs : rdSev f x = if y.2 then (L ++ (rdMany f n y).1, (rdMany f n y).2) else ([], y) := by
      unfold rdSev
      rw [hN, hx0]
      dsimp only
      rw [h1]
      cases hy : y.2 with
      | false => rw [rdMany_bad f hy]; simp [hy]
      | true =>
        have : n = 0 := by rw [hy] at hc4; simp at hc4; omega
        subst this
        simp [rdMany, hy]
    refine awp_region (by kernel_rfl) ?_
    (refine aL_S rfl rfl v_ ?_)
    refine aL_X rfl rfl (AOp_use rfl rfl (.inr ⟨rfl, rfl, rfl⟩) g_ va_ (bad_x h3) ?_); rintro _ _ ⟨rfl, rfl⟩
    refine aL_nil ?_
    refine awp_cond v_ (fun hc7 => ?_) (fun hc7 => ?_)
    · replace hc7 := nm_ hc7
      refine awp_seq ?_
      refine awp_region (by kernel_rfl) ?_
      (refine aL_S rfl rfl v_ ?_)
      refine aL_nil ?_
      refine awp_ret ?_
      have hy : y.2 = false := by simpa using hc7
      rw [hy] at hs
      refine aEnd_retW (v := .sl 4 ((rdSev f x).1.map sEnt) false) (v' := .lit (.slice none 0 0)) (σ' := τ) va_ ?_ (Store.Wk.refl _) ⟨rfl, ?_, h4⟩
      · rw [hs]; exact .nil _ _
      · rw [hs]; exact h3
    · replace hc7 := nm_ hc7
      refine awp_skip ?_
      refine awp_seq ?_
      refine awp_region (by kernel_rfl) ?_
      iterate 2 (refine aL_S rfl rfl v_ ?_)
      refine aL_nil ?_
      refine awp_ret ?_
      have hy : y.2 = true := by simpa using hc7
      have hn : n = 0 := by rw [hy] at hc4; simp at hc4; omega
      rw [hy] at hs
      subst hn
      refine aEnd_retW (v := .sl 4 ((rdSev f x).1.map sEnt) false) (v' := .own k 4 (L.map sEnt)) (σ' := τ) va_ ?_ (Store.Wk.refl _) ⟨rfl, ?_, h4⟩
      · rw [hs]; simp [rdMany]; exact .own1 _ _ _
      · rw [hs]; exact h3
def rdMsg (x : Rd) : Msg × Rd :=
  let a := rdNum x 1; let b := rdText a.2; let c := rdText b.2; let d := rdNum c.2 8; let e := rdNum d.2 1; let f := rdText e.2
  let g := rdObj f.2; let h := rdSev rdTx g.2; let i := rdRow rdLeaf h.2; let j := rdRow rdItem i.2; let k := rdSev rdEnt j.2
  (⟨a.1, B b.1, B c.1, d.1, e.1, B f.1, g.1, h.1, i.1, j.1, k.1⟩, k.2)
theorem rdMsg_eq {x : Rd} {a : Int × Rd} {b c : List UInt8 × Rd} {d e : Int × Rd} {f : List UInt8 × Rd} {g : Obj' × Rd} {h : List ByteArray × Rd} {i : List Leaf × Rd} {j : List Itm × Rd} {k : List Ent × Rd} (ha : rdNum x 1 = a) (hb : rdText a.2 = b) (hc : rdText b.2 = c) (hd : rdNum c.2 8 = d) (he : rdNum d.2 1 = e) (hf : rdText e.2 = f)
    (hg : rdObj f.2 = g) (hh : rdSev rdTx g.2 = h) (hi : rdRow rdLeaf h.2 = i) (hj : rdRow rdItem i.2 = j) (hk : rdSev rdEnt j.2 = k) : rdMsg x = (⟨a.1, B b.1, B c.1, d.1, e.1, B f.1, g.1, h.1, i.1, j.1, k.1⟩, k.2) := by
  unfold rdMsg
  dsimp only
  rw [ha, hb, hc, hd, he, hf, hg, hh, hi, hj, hk]
theorem rdByte_q {o : Nat} {x : Rd} {q : Int × Rd} {σ : Store} (hq : rdNum x 1 = q) (ho : σ.heap o = some (rdO x)) : ACalls Tryz.prog 86 [.ref o 0] σ fun v σ' => v = vInt q.1 ∧ σ' = σ.set o (rdO q.2) := by
  subst hq; exact rdByte_c ho
theorem rdInt_q {o : Nat} {x : Rd} {q : Int × Rd} {σ : Store} (hq : rdNum x 8 = q) (ho : σ.heap o = some (rdO x)) : ACalls Tryz.prog 88 [.ref o 0] σ fun v σ' => v = vInt q.1 ∧ σ' = σ.set o (rdO q.2) := by
  subst hq; exact rdInt_c ho
theorem rdText_q {o : Nat} {x : Rd} {q : List UInt8 × Rd} {σ : Store} (hq : rdText x = q) (ho : σ.heap o = some (rdO x)) : ACalls Tryz.prog 87 [.ref o 0] σ fun v σ' => v = vStr (B q.1) ∧ σ' = σ.set o (rdO q.2) := by
  subst hq; exact rdText_c ho
theorem texts_q {o : Nat} {x : Rd} {q : List ByteArray × Rd} {σ : Store} (hq : rdSev rdTx x = q) (ho : σ.heap o = some (rdO x)) : ACalls Tryz.prog 90 [.ref o 0] σ fun v σ' => v = .sl 1 (q.1.map vStr) false ∧ σ'.heap o = some (rdO q.2) ∧ SubX [o] σ σ' := by
  subst hq; exact texts_c ho
theorem readEnts_q {o : Nat} {x : Rd} {q : List Ent × Rd} {σ : Store} (hq : rdSev rdEnt x = q) (ho : σ.heap o = some (rdO x)) : ACalls Tryz.prog 95 [.ref o 0] σ fun v σ' => v = .sl 4 (q.1.map sEnt) false ∧ σ'.heap o = some (rdO q.2) ∧ SubX [o] σ σ' := by
  subst hq; exact readEnts_c ho
theorem sevLeaf_q {o G : Nat} {x : Rd} {q : List Leaf × Rd} {σ : Store} {fs cp : List AVal} {f : Rd → Leaf × Rd} (Kp : Store → Prop) (hq : rdRow f x = q) (hgo : isGo Tryz.prog G = true) (hK : ∀ τ τ', Kp τ → SubX [o] τ τ' → Kp τ') (ho : σ.heap o = some (rdO x)) (hKσ : Kp σ)
    (hf : ∀ τ y, τ.heap o = some (rdO y) → Kp τ → ACalls Tryz.prog G (fs ++ [] ++ cp) τ fun v τ' => v = sLeaf (f y).1 ∧ τ'.heap o = some (rdO (f y).2) ∧ SubX [o] τ τ') :
    ACalls Tryz.prog 91 [.ref o 0, .fn (.func G) fs cp] σ fun v σ' => v = .sl 2 (q.1.map sLeaf) false ∧ σ'.heap o = some (rdO q.2) ∧ SubX [o] σ σ' := by
  subst hq; exact sevLeaf_c Kp hgo hK ho hKσ hf
theorem sevItem_q {o G : Nat} {x : Rd} {q : List Itm × Rd} {σ : Store} {fs cp : List AVal} {f : Rd → Itm × Rd} (Kp : Store → Prop) (hq : rdRow f x = q) (hgo : isGo Tryz.prog G = true) (hK : ∀ τ τ', Kp τ → SubX [o] τ τ' → Kp τ') (ho : σ.heap o = some (rdO x)) (hKσ : Kp σ)
    (hf : ∀ τ y, τ.heap o = some (rdO y) → Kp τ → ACalls Tryz.prog G (fs ++ [] ++ cp) τ fun v τ' => v = sItem (f y).1 ∧ τ'.heap o = some (rdO (f y).2) ∧ SubX [o] τ τ') :
    ACalls Tryz.prog 93 [.ref o 0, .fn (.func G) fs cp] σ fun v σ' => v = .sl 3 (q.1.map sItem) false ∧ σ'.heap o = some (rdO q.2) ∧ SubX [o] σ σ' := by
  subst hq; exact sevItem_c Kp hgo hK ho hKσ hf
end Go.Proofs.YtbjloippgpilcaaGreat
end
