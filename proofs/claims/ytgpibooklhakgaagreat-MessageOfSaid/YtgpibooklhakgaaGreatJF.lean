/-
  Texts and registries read of bytes: the reference's; Messages read of bytes: the reference's read. Own work (an AI agent).
-/
import Derived.Test.YtgpibooklhakgaaGreatJD
import Derived.Test.YtgpibooklhakgaaGreatJX

section
set_option linter.all false
set_option maxRecDepth 100000
namespace Go.Proofs.YtgpibooklhakgaaGreat
open Go.Ab

theorem rfTexts_c {o : Nat} {x : Rd} {σ : Store} (ho : σ.heap o = some (rfO x)) : ACalls Tryz.prog 176 [.ref o 0] σ fun v σ' => v = .sl 1 ((rdSev rdTx x).1.map vStr) false ∧ σ'.heap o = some (rfO (rdSev rdTx x).2) ∧ SubX [o] σ σ' := by
  obtain ⟨N, hN⟩ : ∃ N, (rdCnt x 65536).1 = N := ⟨_, rfl⟩
  obtain ⟨x0, hx0⟩ : ∃ x0, (rdCnt x 65536).2 = x0 := ⟨_, rfl⟩
  have hNb : N ≤ 65536 := by rw [← hN]; exact rdCnt_le _ _
  refine ACalls_of Tryz.func176 rfl Tryz.ntmps176 (congrArg Array.toList Tryz.results176) (by simp only [List.length_cons, List.length_nil]; decide) ?_; simp only [envOf_cons, envOf_nil, Nat.reduceAdd]
  refine awp_seq ?_
  refine awp_region (by kernel_rfl) ?_
  (refine aL_S rfl rfl v_ ?_)
  refine aL_nil ?_
  refine awp_seq ?_
  have R := And.intro hN hx0
  refine awp_region (by kernel_rfl) ?_
  (refine aL_S rfl rfl v_ ?_)
  refine aL_X rfl rfl (AOp_use rfl rfl (.inr ⟨rfl, rfl, rfl⟩) g_ va_ (rfCount_c (m := 65536) ho) ?_); rintro _ _ ⟨rfl, rfl⟩
  (refine aL_S rfl rfl v_ ?_)
  refine aL_nil ?_
  refine awp_seq ?_
  refine awp_region (by kernel_rfl) ?_
  refine aL_nilOwn 9 1 rfl rfl rfl (by rfl) fun k4 hk4 => ?_
  refine aL_nil ?_
  refine awp_seq ?_
  refine awp_seq ?_
  refine awp_region (by kernel_rfl) ?_
  (refine aL_S rfl rfl v_ ?_)
  refine aL_nil ?_
  refine awp_block ?_
  refine awp_loop_env (ι := Store × Nat × List ByteArray × Rd × Nat) (fun ⟨τ, i, L, y, k⟩ => N - i) (fun ⟨τ, i, L, y, k⟩ => i ≤ N ∧ L.length = i ∧ rdMany rdTx N x0 = (L ++ (rdMany rdTx (N - i) y).1, (rdMany rdTx (N - i) y).2) ∧ τ.heap o = some (rfO y) ∧ SubX [o] σ τ ∧ τ.tok k = some (9, 1) ∧ σ.tok k = none) (fun ⟨τ, i, L, y, k⟩ => [(0, .ref o 0), (3, vInt N), (4, .own k 1 (L.map vStr)), (5, vInt i)]) (fun ⟨τ, i, L, y, k⟩ => τ) ((σ.set o (rfO x0)).newTok none k4 (9, 1), 0, [], x0, k4) ?_ ?_ ?_ ?_
  · exact ⟨Nat.zero_le _, rfl, rfl, by rw [Store.newTok_heap]; exact Store.set_get .., subx_newTok hk4 SubX.self, Store.newTok_get .., hk4⟩
  · have R := hN; exact cv_
  · rw [hx0]; exact Store.Wk.refl _
  rintro ⟨τ, i, L, y, k⟩ ⟨h1, h2, h7, h3, h4, h5, h6⟩
  simp only [envL_cons, envL_nil]
  refine awp_seq ?_
  refine awp_seq ?_
  have R := h3
  refine awp_region (by kernel_rfl) ?_
  iterate 4 (refine aL_S rfl rfl v_ ?_)
  refine aL_GT rfl rfl v_ rfl vg_ ?_
  refine aL_GT rfl rfl v_ rfl vg_ ?_
  refine aL_GT rfl rfl v_ rfl vg_ ?_
  refine aL_GT rfl rfl v_ rfl vg_ ?_
  refine aL_GT rfl rfl v_ rfl vg_ ?_
  (refine aL_S rfl rfl v_ ?_)
  refine aL_nil ?_
  refine awp_cond v_ (fun hc4 => ?_) (fun hc4 => ?_)
  · replace hc4 := nm_ hc4
    obtain ⟨hcj, hy⟩ := hc4
    have hmi : N - i = (N - i - 1) + 1 := by omega
    refine awp_skip ?_
    refine awp_seq ?_
    refine awp_block ?_
    have R := h5
    refine awp_region (by kernel_rfl) ?_
    iterate 2 (refine aL_S rfl rfl v_ ?_)
    refine aL_X rfl rfl (AOp_use rfl rfl (.inr ⟨rfl, rfl, rfl⟩) g_ va_ (rfText_c h3) ?_); rintro _ _ ⟨rfl, rfl⟩
    refine aL_buildSlice rfl rfl rfl g_ g_ rfl rfl h_ c2_ (by decide) ?_
    refine aL_append rfl rfl rfl g_ g_ v_ h_ v_ c_ (by simp; omega) fun k24 hk24 => ?_
    (refine aL_S rfl rfl v_ ?_)
    refine aL_nil ?_
    refine awp_region (by kernel_rfl) ?_
    iterate 3 (refine aL_S rfl rfl v_ ?_)
    refine aL_nil ?_
    refine aNext (ι := Store × Nat × List ByteArray × Rd × Nat) (i := ⟨τ, i, L, y, k⟩) ((τ.set o (rfO (rdText y).2)).newTok (some k) k24 (9, 1), i + 1, L ++ [(rdTx y).1], (rdTx y).2, k24) ?_ ?_ ?_ ?_
    · show N - (i + 1) < N - i; omega
    · exact ⟨by show i + 1 ≤ N; omega, by simp [h2], by rw [h7, hmi, rdMany, hy]; simp [show N - i - 1 = N - (i + 1) by omega], by rw [Store.newTok_heap]; exact Store.set_get .., SubX.newTok (SubX.trans h4 SubX.self) (fun j hj => by cases hj; exact h6) hk24, Store.newTok_get .., SubX.noTok (SubX.trans h4 SubX.self) hk24⟩
    · have R := rdTx; exact cv_
    · exact Store.Wk.refl _
  · replace hc4 := nm_ hc4
    refine awp_exit ?_
    refine aThen_exit ?_
    refine aThen_exit ?_
    refine aBlock_hit ?_
    refine awp_seq ?_
    refine awp_seq ?_
    skip
    have hf : rdSev rdTx x = if y.2 then (L, y) else ([], y) := rdSev_of (by rw [hN, hx0, h7, rdMany_done (n := N - i) _ (by rcases hc4 with h | h; exact .inl (by omega); exact .inr h)]; simp)
    have R := h3
    refine awp_region (by kernel_rfl) ?_
    iterate 4 (refine aL_S rfl rfl v_ ?_)
    refine aL_nil ?_
    refine awp_cond v_ (fun hc7 => ?_) (fun hc7 => ?_)
    · replace hc7 := nm_ hc7
      refine awp_seq ?_
      refine awp_region (by kernel_rfl) ?_
      (refine aL_S rfl rfl v_ ?_)
      refine aL_nil ?_
      refine awp_ret ?_
      have hy : y.2 = false := by simpa using hc7
      rw [hy] at hf
      exact aEnd_retW (v := .sl 1 ((rdSev rdTx x).1.map vStr) false) (v' := .lit (.slice none 0 0)) va_ (by rw [hf]; exact .nil _ _) (Store.Wk.refl _) ⟨rfl, by rw [hf]; exact h3, h4⟩
    · replace hc7 := nm_ hc7
      refine awp_skip ?_
      refine awp_seq ?_
      refine awp_region (by kernel_rfl) ?_
      iterate 2 (refine aL_S rfl rfl v_ ?_)
      refine aL_nil ?_
      refine awp_ret ?_
      have hy : y.2 = true := by simpa using hc7
      rw [hy] at hf
      exact aEnd_retW (v := .sl 1 ((rdSev rdTx x).1.map vStr) false) (v' := .own k 1 (L.map vStr)) va_ (by rw [hf]; exact .own1 _ _ _) (Store.Wk.refl _) ⟨rfl, by rw [hf]; exact h3, h4⟩
theorem rfEnts_c {o : Nat} {x : Rd} {σ : Store} (ho : σ.heap o = some (rfO x)) : ACalls Tryz.prog 177 [.ref o 0] σ fun v σ' => v = .sl 4 ((rdSev rdEnt x).1.map sEnt) false ∧ σ'.heap o = some (rfO (rdSev rdEnt x).2) ∧ SubX [o] σ σ' := by
  obtain ⟨N, hN⟩ : ∃ N, (rdCnt x 65536).1 = N := ⟨_, rfl⟩
  obtain ⟨x0, hx0⟩ : ∃ x0, (rdCnt x 65536).2 = x0 := ⟨_, rfl⟩
  have hNb : N ≤ 65536 := by rw [← hN]; exact rdCnt_le _ _
  refine ACalls_of Tryz.func177 rfl Tryz.ntmps177 (congrArg Array.toList Tryz.results177) (by simp only [List.length_cons, List.length_nil]; decide) ?_; simp only [envOf_cons, envOf_nil, Nat.reduceAdd]
  refine awp_seq ?_
  refine awp_region (by kernel_rfl) ?_
  (refine aL_S rfl rfl v_ ?_)
  refine aL_nil ?_
  refine awp_seq ?_
  have R := And.intro hN hx0
  refine awp_region (by kernel_rfl) ?_
  (refine aL_S rfl rfl v_ ?_)
  refine aL_X rfl rfl (AOp_use rfl rfl (.inr ⟨rfl, rfl, rfl⟩) g_ va_ (rfCount_c (m := 65536) ho) ?_); rintro _ _ ⟨rfl, rfl⟩
  (refine aL_S rfl rfl v_ ?_)
  refine aL_nil ?_
  refine awp_seq ?_
  refine awp_region (by kernel_rfl) ?_
  refine aL_nilOwn 188 4 rfl rfl rfl (by rfl) fun k4 hk4 => ?_
  refine aL_nil ?_
  refine awp_seq ?_
  refine awp_seq ?_
  refine awp_region (by kernel_rfl) ?_
  (refine aL_S rfl rfl v_ ?_)
  refine aL_nil ?_
  refine awp_block ?_
  refine awp_loop_env (ι := Store × Nat × List Ent × Rd × Nat) (fun ⟨τ, i, L, y, k⟩ => N - i) (fun ⟨τ, i, L, y, k⟩ => i ≤ N ∧ L.length = i ∧ rdMany rdEnt N x0 = (L ++ (rdMany rdEnt (N - i) y).1, (rdMany rdEnt (N - i) y).2) ∧ τ.heap o = some (rfO y) ∧ SubX [o] σ τ ∧ τ.tok k = some (188, 4) ∧ σ.tok k = none) (fun ⟨τ, i, L, y, k⟩ => [(0, .ref o 0), (3, vInt N), (4, .own k 4 (L.map sEnt)), (5, vInt i)]) (fun ⟨τ, i, L, y, k⟩ => τ) ((σ.set o (rfO x0)).newTok none k4 (188, 4), 0, [], x0, k4) ?_ ?_ ?_ ?_
  · exact ⟨Nat.zero_le _, rfl, rfl, by rw [Store.newTok_heap]; exact Store.set_get .., subx_newTok hk4 SubX.self, Store.newTok_get .., hk4⟩
  · have R := hN; exact cv_
  · rw [hx0]; exact Store.Wk.refl _
  rintro ⟨τ, i, L, y, k⟩ ⟨h1, h2, h7, h3, h4, h5, h6⟩
  simp only [envL_cons, envL_nil]
  refine awp_seq ?_
  refine awp_seq ?_
  have R := h3
  refine awp_region (by kernel_rfl) ?_
  iterate 4 (refine aL_S rfl rfl v_ ?_)
  refine aL_GT rfl rfl v_ rfl vg_ ?_
  refine aL_GT rfl rfl v_ rfl vg_ ?_
  refine aL_GT rfl rfl v_ rfl vg_ ?_
  refine aL_GT rfl rfl v_ rfl vg_ ?_
  refine aL_GT rfl rfl v_ rfl vg_ ?_
  (refine aL_S rfl rfl v_ ?_)
  refine aL_nil ?_
  refine awp_cond v_ (fun hc4 => ?_) (fun hc4 => ?_)
  · replace hc4 := nm_ hc4
    obtain ⟨hcj, hy⟩ := hc4
    have hmi : N - i = (N - i - 1) + 1 := by omega
    obtain ⟨a, ha⟩ : ∃ q, rdText y = q := ⟨_, rfl⟩
    obtain ⟨b, hb⟩ : ∃ q, rdNum a.2 8 = q := ⟨_, rfl⟩
    obtain ⟨c, hc⟩ : ∃ q, rdText b.2 = q := ⟨_, rfl⟩
    obtain ⟨d, hd⟩ : ∃ q, rdText c.2 = q := ⟨_, rfl⟩
    have hent : rdEnt y = (⟨B a.1, b.1, B c.1, B d.1⟩, d.2) := by subst hd; subst hc; subst hb; subst ha; rfl
    have hsb : SubX [o] τ ((((τ.set o (rfO a.2)).set o (rfO b.2)).set o (rfO c.2)).set o (rfO d.2)) := SubX.trans (SubX.trans (SubX.trans SubX.self SubX.self) SubX.self) SubX.self
    refine awp_skip ?_
    refine awp_seq ?_
    refine awp_block ?_
    refine awp_seq ?_
    refine awp_region (by kernel_rfl) ?_
    (refine aL_S rfl rfl v_ ?_)
    refine aL_X rfl rfl (AOp_use rfl rfl (.inr ⟨rfl, rfl, rfl⟩) g_ va_ (rfText_q ha h3) ?_); rintro _ _ ⟨rfl, rfl⟩
    (refine aL_S rfl rfl v_ ?_)
    refine aL_nil ?_
    refine awp_seq ?_
    refine awp_region (by kernel_rfl) ?_
    (refine aL_S rfl rfl v_ ?_)
    refine aL_X rfl rfl (AOp_use rfl rfl (.inr ⟨rfl, rfl, rfl⟩) g_ va_ (rfInt_q hb (Store.set_get ..)) ?_); rintro _ _ ⟨rfl, rfl⟩
    (refine aL_S rfl rfl v_ ?_)
    refine aL_nil ?_
    refine awp_seq ?_
    refine awp_region (by kernel_rfl) ?_
    (refine aL_S rfl rfl v_ ?_)
    refine aL_X rfl rfl (AOp_use rfl rfl (.inr ⟨rfl, rfl, rfl⟩) g_ va_ (rfText_q hc (Store.set_get ..)) ?_); rintro _ _ ⟨rfl, rfl⟩
    (refine aL_S rfl rfl v_ ?_)
    refine aL_nil ?_
    have R := h5
    refine awp_region (by kernel_rfl) ?_
    iterate 5 (refine aL_S rfl rfl v_ ?_)
    refine aL_X rfl rfl (AOp_use rfl rfl (.inr ⟨rfl, rfl, rfl⟩) g_ va_ (rfText_q hd (Store.set_get ..)) ?_); rintro _ _ ⟨rfl, rfl⟩
    iterate 2 (refine aL_S rfl rfl v_ ?_)
    refine aL_buildSlice rfl rfl rfl g_ g_ rfl rfl h_ c2_ (by decide) ?_
    refine aL_append rfl rfl rfl g_ g_ v_ h_ v_ c_ (by simp; omega) fun k38 hk38 => ?_
    (refine aL_S rfl rfl v_ ?_)
    refine aL_nil ?_
    refine awp_region (by kernel_rfl) ?_
    iterate 3 (refine aL_S rfl rfl v_ ?_)
    refine aL_nil ?_
    refine aNext (ι := Store × Nat × List Ent × Rd × Nat) (i := ⟨τ, i, L, y, k⟩) (((((τ.set o (rfO a.2)).set o (rfO b.2)).set o (rfO c.2)).set o (rfO d.2)).newTok (some k) k38 (188, 4), i + 1, L ++ [⟨B a.1, b.1, B c.1, B d.1⟩], d.2, k38) ?_ ?_ ?_ ?_
    · show N - (i + 1) < N - i; omega
    · exact ⟨by show i + 1 ≤ N; omega, by simp [h2], by rw [h7, hmi, rdMany, hy, hent]; simp [show N - i - 1 = N - (i + 1) by omega], by rw [Store.newTok_heap]; exact Store.set_get .., SubX.newTok (SubX.trans h4 hsb) (fun j hj => by cases hj; exact h6) hk38, Store.newTok_get .., SubX.noTok (SubX.trans h4 hsb) hk38⟩
    · exact cv_
    · exact Store.Wk.refl _
  · replace hc4 := nm_ hc4
    refine awp_exit ?_
    refine aThen_exit ?_
    refine aThen_exit ?_
    refine aBlock_hit ?_
    refine awp_seq ?_
    refine awp_seq ?_
    skip
    have hf : rdSev rdEnt x = if y.2 then (L, y) else ([], y) := rdSev_of (by rw [hN, hx0, h7, rdMany_done (n := N - i) _ (by rcases hc4 with h | h; exact .inl (by omega); exact .inr h)]; simp)
    have R := h3
    refine awp_region (by kernel_rfl) ?_
    iterate 4 (refine aL_S rfl rfl v_ ?_)
    refine aL_nil ?_
    refine awp_cond v_ (fun hc10 => ?_) (fun hc10 => ?_)
    · replace hc10 := nm_ hc10
      refine awp_seq ?_
      refine awp_region (by kernel_rfl) ?_
      (refine aL_S rfl rfl v_ ?_)
      refine aL_nil ?_
      refine awp_ret ?_
      have hy : y.2 = false := by simpa using hc10
      rw [hy] at hf
      exact aEnd_retW (v := .sl 4 ((rdSev rdEnt x).1.map sEnt) false) (v' := .lit (.slice none 0 0)) va_ (by rw [hf]; exact .nil _ _) (Store.Wk.refl _) ⟨rfl, by rw [hf]; exact h3, h4⟩
    · replace hc10 := nm_ hc10
      refine awp_skip ?_
      refine awp_seq ?_
      refine awp_region (by kernel_rfl) ?_
      iterate 2 (refine aL_S rfl rfl v_ ?_)
      refine aL_nil ?_
      refine awp_ret ?_
      have hy : y.2 = true := by simpa using hc10
      rw [hy] at hf
      exact aEnd_retW (v := .sl 4 ((rdSev rdEnt x).1.map sEnt) false) (v' := .own k 4 (L.map sEnt)) va_ (by rw [hf]; exact .own1 _ _ _) (Store.Wk.refl _) ⟨rfl, by rw [hf]; exact h3, h4⟩
end Go.Proofs.YtgpibooklhakgaaGreat
end

section
set_option linter.all false
set_option maxRecDepth 100000
namespace Go.Proofs.YtgpibooklhakgaaGreat
open Go.Ab

theorem rfObj_q {o : Nat} {x : Rd} {Q : Obj' × Rd} {σ : Store} (hQ : rdObj x = Q) (ho : σ.heap o = some (rfO x)) : ACalls Tryz.prog 34 [.ref o 0] σ fun v σ' => v = sObj Q.1 ∧ σ'.heap o = some (rfO Q.2) ∧ SubX [o] σ σ' := by
  subst hQ; exact rfObj_c ho
theorem rfTexts_q {o : Nat} {x : Rd} {q : List ByteArray × Rd} {σ : Store} (hq : rdSev rdTx x = q) (ho : σ.heap o = some (rfO x)) : ACalls Tryz.prog 176 [.ref o 0] σ fun v σ' => v = .sl 1 (q.1.map vStr) false ∧ σ'.heap o = some (rfO q.2) ∧ SubX [o] σ σ' := by
  subst hq; exact rfTexts_c ho
theorem rfEnts_q {o : Nat} {x : Rd} {q : List Ent × Rd} {σ : Store} (hq : rdSev rdEnt x = q) (ho : σ.heap o = some (rfO x)) : ACalls Tryz.prog 177 [.ref o 0] σ fun v σ' => v = .sl 4 (q.1.map sEnt) false ∧ σ'.heap o = some (rfO q.2) ∧ SubX [o] σ σ' := by
  subst hq; exact rfEnts_c ho
theorem rfCount_q {o m : Nat} {x : Rd} {q : Nat × Rd} {σ : Store} (hq : rdCnt x m = q) (ho : σ.heap o = some (rfO x)) : ACalls Tryz.prog 85 [.ref o 0, vInt m] σ fun v σ' => v = vInt q.1 ∧ σ' = σ.set o (rfO q.2) := by
  subst hq; exact rfCount_c ho
theorem NilOwn.sub {a b : Store} {o : Nat} {e : TypeId} {sz : Nat} {l : List AVal} {x : AVal} {old : Option Nat} {y : AObj} (h : NilOwn a e sz l x old) (hs : SubX [o] (a.set o y) b) : NilOwn b e sz l x old := by
  rcases h with ⟨k, h1, h2, h3⟩ | h
  · exact .inl ⟨k, h1, hs.2 k _ (by rw [Store.set_tok]; exact h2), h3⟩
  · exact .inr h
set_option maxHeartbeats 4000000 in
theorem rfMsg_c {o : Nat} {x : Rd} {σ : Store} (ho : σ.heap o = some (rfO x)) : ACalls Tryz.prog 114 [.ref o 0] σ fun v σ' => v = sMsg (rdMsg x).1 ∧ σ'.heap o = some (rfO (rdMsg x).2) ∧ SubX [o] σ σ' := by
  obtain ⟨z, hz⟩ : ∃ z, AObj.cells [.lit (.int .i64 0), .lit (.string ⟨#[]⟩), .lit (.string ⟨#[]⟩), .lit (.int .i64 0), .lit (.int .i64 0), .lit (.string ⟨#[]⟩), .lit (.slice none 0 0), .lit (.slice none 0 0), .lit (.slice none 0 0), .lit (.slice none 0 0), .lit (.slice none 0 0), .lit (.slice none 0 0)] = z := ⟨_, rfl⟩
  obtain ⟨a, ha⟩ : ∃ q, rdNum x 1 = q := ⟨_, rfl⟩
  obtain ⟨b, hb⟩ : ∃ q, rdText a.2 = q := ⟨_, rfl⟩
  obtain ⟨c, hc⟩ : ∃ q, rdText b.2 = q := ⟨_, rfl⟩
  obtain ⟨d, hd⟩ : ∃ q, rdNum c.2 8 = q := ⟨_, rfl⟩
  obtain ⟨e, he⟩ : ∃ q, rdNum d.2 1 = q := ⟨_, rfl⟩
  obtain ⟨f, hf⟩ : ∃ q, rdText e.2 = q := ⟨_, rfl⟩
  obtain ⟨g, hg⟩ : ∃ q, rdObj f.2 = q := ⟨_, rfl⟩
  obtain ⟨h, hh⟩ : ∃ q, rdSev rdTx g.2 = q := ⟨_, rfl⟩
  obtain ⟨I, hi⟩ : ∃ q, rdRow rdLeaf h.2 = q := ⟨_, rfl⟩
  obtain ⟨J, hj⟩ : ∃ q, rdRow rdItem I.2 = q := ⟨_, rfl⟩
  obtain ⟨K', hk⟩ : ∃ q, rdSev rdEnt J.2 = q := ⟨_, rfl⟩
  rw [rdMsg_eq ha hb hc hd he hf hg hh hi hj hk]
  obtain ⟨⟨N, x0⟩, hN⟩ : ∃ q, rdCnt h.2 65536 = q := ⟨_, rfl⟩
  obtain ⟨⟨N2, x2⟩, hN2⟩ : ∃ q, rdCnt I.2 65536 = q := ⟨_, rfl⟩
  have hNb : N ≤ 65536 := by have := rdCnt_le h.2 65536; rw [hN] at this; exact this
  have hNb2 : N2 ≤ 65536 := by have := rdCnt_le I.2 65536; rw [hN2] at this; exact this
  refine ACalls_of Tryz.func114 rfl Tryz.ntmps114 (congrArg Array.toList Tryz.results114) (by simp only [List.length_cons, List.length_nil]; decide) ?_; simp only [envOf_cons, envOf_nil, Nat.reduceAdd]
  refine awp_seq ?_
  refine awp_region (by kernel_rfl) ?_
  refine aL_alloc rfl rfl rfl g_ gl_ fun o2 ho2 => ?_
  repeat (rw [none_set_iff] at ho2; obtain ⟨_, ho2⟩ := ho2)
  refine aL_nil ?_
  have n2 := ne_of_heap ho ho2
  refine awp_seq ?_
  refine awp_region (by kernel_rfl) ?_
  (refine aL_S rfl rfl v_ ?_)
  refine aL_alloc rfl rfl rfl g_ gl_ fun o3 ho3 => ?_
  repeat (rw [none_set_iff] at ho3; obtain ⟨_, ho3⟩ := ho3)
  refine aL_store rfl rfl rfl v_ v_ h_ g_ rfl g_ c_ (by rfl) le_ v_ ?_
  refine aL_nil ?_
  have n3 := ne_of_heap ho ho3
  have n23 : o3 ≠ o2 := by assumption
  refine awp_gen fun S0 hS0 => ?_
  have s1 : S0.heap o = some (rfO x) := by rw [hS0]; simp (disch := omega) only [Store.set_ne, ho]
  have s2 : S0.heap o2 = some z := by rw [hS0, ← hz]; simp (disch := omega) only [Store.set_ne, Store.set_get]
  have s3 : S0.heap o3 = some (.cells [.lit (.int .i64 0), .lit (.string ⟨#[]⟩), .lit (.string ⟨#[]⟩), .lit (.int .i64 0), .lit (.int .i64 0), .lit (.string ⟨#[]⟩), .lit (.slice none 0 0), .lit (.slice none 0 0), .lit (.slice none 0 0), .lit (.slice none 0 0), .lit (.slice none 0 0), .lit (.slice none 0 0)]) := by rw [hS0]; exact Store.set_get ..
  have s4 : SubX [o] σ S0 := by rw [hS0]; exact sub_
  refine awp_seq ?_
  have R := s3
  refine awp_region (by kernel_rfl) ?_
  (refine aL_S rfl rfl v_ ?_)
  refine aL_X rfl rfl (AOp_use rfl rfl (.inr ⟨rfl, rfl, rfl⟩) g_ va_ (rfByte_q ha s1) ?_); rintro _ _ ⟨rfl, rfl⟩
  (refine aL_S rfl rfl v_ ?_)
  refine aL_store rfl rfl rfl v_ v_ h_ g_ rfl g_ c_ (by rfl) le_ v_ ?_
  refine aL_nil ?_
  refine awp_seq ?_
  refine awp_region (by kernel_rfl) ?_
  (refine aL_S rfl rfl v_ ?_)
  refine aL_X rfl rfl (AOp_use rfl rfl (.inr ⟨rfl, rfl, rfl⟩) g_ va_ (rfText_q hb (by simp (disch := omega) only [Store.set_ne, Store.set_get])) ?_); rintro _ _ ⟨rfl, rfl⟩
  (refine aL_S rfl rfl v_ ?_)
  refine aL_store rfl rfl rfl v_ v_ h_ g_ rfl g_ c_ (by rfl) le_ v_ ?_
  refine aL_nil ?_
  refine awp_seq ?_
  refine awp_region (by kernel_rfl) ?_
  (refine aL_S rfl rfl v_ ?_)
  refine aL_X rfl rfl (AOp_use rfl rfl (.inr ⟨rfl, rfl, rfl⟩) g_ va_ (rfText_q hc (by simp (disch := omega) only [Store.set_ne, Store.set_get])) ?_); rintro _ _ ⟨rfl, rfl⟩
  (refine aL_S rfl rfl v_ ?_)
  refine aL_store rfl rfl rfl v_ v_ h_ g_ rfl g_ c_ (by rfl) le_ v_ ?_
  refine aL_nil ?_
  refine awp_gen fun S1 hS1 => ?_
  have t1 : S1.heap o = some (rfO c.2) := by rw [hS1]; simp (disch := omega) only [Store.set_ne, Store.set_get]
  have t2 : S1.heap o2 = some z := by rw [hS1]; simp (disch := omega) only [Store.set_ne, s2]
  have t3 : S1.heap o3 = some (.cells [vInt a.1, vStr (B b.1), vStr (B c.1), .lit (.int .i64 0), .lit (.int .i64 0), .lit (.string ⟨#[]⟩), .lit (.slice none 0 0), .lit (.slice none 0 0), .lit (.slice none 0 0), .lit (.slice none 0 0), .lit (.slice none 0 0), .lit (.slice none 0 0)]) := by rw [hS1]; exact Store.set_get ..
  have t4 : SubX [o] σ S1 := by rw [hS1]; exact subx_new ho3 (subx_in (.head _) (subx_new ho3 (subx_in (.head _) (subx_new ho3 (subx_in (.head _) s4)))))
  refine awp_seq ?_
  have R := t3
  refine awp_region (by kernel_rfl) ?_
  (refine aL_S rfl rfl v_ ?_)
  refine aL_X rfl rfl (AOp_use rfl rfl (.inr ⟨rfl, rfl, rfl⟩) g_ va_ (rfInt_q hd t1) ?_); rintro _ _ ⟨rfl, rfl⟩
  (refine aL_S rfl rfl v_ ?_)
  refine aL_store rfl rfl rfl v_ v_ h_ g_ rfl g_ c_ (by rfl) le_ v_ ?_
  refine aL_nil ?_
  refine awp_seq ?_
  refine awp_region (by kernel_rfl) ?_
  (refine aL_S rfl rfl v_ ?_)
  refine aL_X rfl rfl (AOp_use rfl rfl (.inr ⟨rfl, rfl, rfl⟩) g_ va_ (rfByte_q he (by simp (disch := omega) only [Store.set_ne, Store.set_get])) ?_); rintro _ _ ⟨rfl, rfl⟩
  (refine aL_S rfl rfl v_ ?_)
  refine aL_store rfl rfl rfl v_ v_ h_ g_ rfl g_ c_ (by rfl) le_ v_ ?_
  refine aL_nil ?_
  refine awp_seq ?_
  refine awp_region (by kernel_rfl) ?_
  (refine aL_S rfl rfl v_ ?_)
  refine aL_X rfl rfl (AOp_use rfl rfl (.inr ⟨rfl, rfl, rfl⟩) g_ va_ (rfText_q hf (by simp (disch := omega) only [Store.set_ne, Store.set_get])) ?_); rintro _ _ ⟨rfl, rfl⟩
  (refine aL_S rfl rfl v_ ?_)
  refine aL_store rfl rfl rfl v_ v_ h_ g_ rfl g_ c_ (by rfl) le_ v_ ?_
  refine aL_nil ?_
  refine awp_gen fun S2 hS2 => ?_
  have v1 : S2.heap o = some (rfO f.2) := by rw [hS2]; simp (disch := omega) only [Store.set_ne, Store.set_get]
  have v2 : S2.heap o2 = some z := by rw [hS2]; simp (disch := omega) only [Store.set_ne, t2]
  have v3 : S2.heap o3 = some (.cells [vInt a.1, vStr (B b.1), vStr (B c.1), vInt d.1, vInt e.1, vStr (B f.1), .lit (.slice none 0 0), .lit (.slice none 0 0), .lit (.slice none 0 0), .lit (.slice none 0 0), .lit (.slice none 0 0), .lit (.slice none 0 0)]) := by rw [hS2]; exact Store.set_get ..
  have v4 : SubX [o] σ S2 := by rw [hS2]; exact subx_new ho3 (subx_in (.head _) (subx_new ho3 (subx_in (.head _) (subx_new ho3 (subx_in (.head _) t4)))))
  refine awp_seq ?_
  refine awp_region (by kernel_rfl) ?_
  (refine aL_S rfl rfl v_ ?_)
  refine aL_X rfl rfl (AOp_use rfl rfl (.inr ⟨rfl, rfl, rfl⟩) g_ va_ (rfObj_q hg v1) ?_); rintro _ ρ ⟨rfl, r1, r2⟩
  have k3 := keep (i := o3) r2 v3 (by simp; omega)
  have k2 := keep (i := o2) r2 v2 (by simp; omega)
  have R := k3
  (refine aL_S rfl rfl v_ ?_)
  refine aL_store rfl rfl rfl v_ v_ h_ g_ rfl g_ c_ (by rfl) le_ v_ ?_
  refine aL_nil ?_
  refine awp_seq ?_
  refine awp_region (by kernel_rfl) ?_
  (refine aL_S rfl rfl v_ ?_)
  refine aL_X rfl rfl (AOp_use rfl rfl (.inr ⟨rfl, rfl, rfl⟩) g_ va_ (rfTexts_q hh (by simp (disch := omega) only [Store.set_ne, r1])) ?_); rintro _ ψ ⟨rfl, w1, w2⟩
  have l3 := keep (i := o3) w2 (Store.set_get ..) (by simp; omega)
  have l2 := keep (i := o2) (x := z) w2 (by simp (disch := omega) only [Store.set_ne, k2]) (by simp; omega)
  have R := l3
  (refine aL_S rfl rfl v_ ?_)
  refine aL_store rfl rfl rfl v_ v_ h_ g_ rfl g_ c_ (by rfl) le_ v_ ?_
  refine aL_nil ?_
  refine awp_gen fun S3 hS3 => ?_
  have y1 : S3.heap o = some (rfO h.2) := by rw [hS3]; simp (disch := omega) only [Store.set_ne, w1]
  have y2 : S3.heap o2 = some z := by rw [hS3]; simp (disch := omega) only [Store.set_ne, l2]
  have y3 : S3.heap o3 = some (.cells [vInt a.1, vStr (B b.1), vStr (B c.1), vInt d.1, vInt e.1, vStr (B f.1), .sl 3 (g.1.ctx.map sSeen) false, .sl 5 (g.1.sibs.map sSib) false, .sl 1 (h.1.map vStr) false, .lit (.slice none 0 0), .lit (.slice none 0 0), .lit (.slice none 0 0)]) := by rw [hS3]; exact Store.set_get ..
  have y4 : SubX [o] σ S3 := by rw [hS3]; exact subx_new ho3 (SubX.trans (subx_new ho3 (SubX.trans v4 r2)) w2)
  refine awp_seq ?_
  refine awp_region (by kernel_rfl) ?_
  (refine aL_S rfl rfl v_ ?_)
  refine aL_X rfl rfl (AOp_use rfl rfl (.inr ⟨rfl, rfl, rfl⟩) g_ va_ (rfCount_q (m := 65536) hN y1) ?_); rintro _ _ ⟨rfl, rfl⟩
  (refine aL_S rfl rfl v_ ?_)
  refine aL_nil ?_
  refine awp_seq ?_
  refine awp_seq ?_
  refine awp_region (by kernel_rfl) ?_
  (refine aL_S rfl rfl v_ ?_)
  refine aL_nil ?_
  refine awp_block ?_
  refine awp_loop_env (ι := Store × Nat × List Leaf × Rd × AVal × Option Nat) (fun ⟨τ, i, L, y, gm, old⟩ => N - i) (fun ⟨τ, i, L, y, gm, old⟩ => i ≤ N ∧ L.length = i ∧ rdMany rdLeaf N x0 = (L ++ (rdMany rdLeaf (N - i) y).1, (rdMany rdLeaf (N - i) y).2) ∧ τ.heap o = some (rfO y) ∧ τ.heap o2 = some z ∧ τ.heap o3 = some (.cells [vInt a.1, vStr (B b.1), vStr (B c.1), vInt d.1, vInt e.1, vStr (B f.1), .sl 3 (g.1.ctx.map sSeen) false, .sl 5 (g.1.sibs.map sSib) false, .sl 1 (h.1.map vStr) false, gm, .lit (.slice none 0 0), .lit (.slice none 0 0)]) ∧ NilOwn τ 133 2 (L.map sLeaf) gm old ∧ SubX [o] σ τ ∧ (∀ j, old = some j → σ.tok j = none)) (fun ⟨τ, i, L, y, gm, old⟩ => [(0, .ref o 0), (2, .ref o2 0), (3, .ref o3 0), (4, vInt N), (5, vInt i)]) (fun ⟨τ, i, L, y, gm, old⟩ => τ) (S3.set o (rfO x0), 0, [], x0, .lit (.slice none 0 0), none) ?_ ?_ ?_ ?_
  · exact ⟨Nat.zero_le _, rfl, rfl, Store.set_get .., by simp (disch := omega) only [Store.set_ne, y2], by simp (disch := omega) only [Store.set_ne, y3], .inr ⟨rfl, rfl, rfl⟩, subx_in (.head _) y4, fun j hj => by cases hj⟩
  · exact cv_
  · exact Store.Wk.refl _
  rintro ⟨τ, i, L, y, gm, old⟩ ⟨j1, j2, j3, u1, u2, u3, hno, u4, hold⟩
  simp only [envL_cons, envL_nil]
  refine awp_seq ?_
  refine awp_seq ?_
  have R := u1
  refine awp_region (by kernel_rfl) ?_
  iterate 4 (refine aL_S rfl rfl v_ ?_)
  refine aL_GT rfl rfl v_ rfl vg_ ?_
  refine aL_GT rfl rfl v_ rfl vg_ ?_
  refine aL_GT rfl rfl v_ rfl vg_ ?_
  refine aL_GT rfl rfl v_ rfl vg_ ?_
  refine aL_GT rfl rfl v_ rfl vg_ ?_
  (refine aL_S rfl rfl v_ ?_)
  refine aL_nil ?_
  refine awp_cond v_ (fun hc12 => ?_) (fun hc12 => ?_)
  · replace hc12 := nm_ hc12
    obtain ⟨hcj, hy⟩ := hc12
    have hmi : N - i = (N - i - 1) + 1 := by omega
    obtain ⟨p, hp⟩ : ∃ q, rdText y = q := ⟨_, rfl⟩
    obtain ⟨q, hq⟩ : ∃ q, rdText p.2 = q := ⟨_, rfl⟩
    have hlf : rdLeaf y = (Leaf.mk (B p.1) (B q.1), q.2) := by subst hq; subst hp; rfl
    refine awp_skip ?_
    refine awp_seq_mid (ι := Store × Nat) (fun ⟨φ, kk⟩ => φ.heap o = some (rfO q.2) ∧ φ.heap o2 = some z ∧ φ.heap o3 = some (.cells [vInt a.1, vStr (B b.1), vStr (B c.1), vInt d.1, vInt e.1, vStr (B f.1), .sl 3 (g.1.ctx.map sSeen) false, .sl 5 (g.1.sibs.map sSib) false, .sl 1 (h.1.map vStr) false, .own kk 2 ((L ++ [Leaf.mk (B p.1) (B q.1)]).map sLeaf), .lit (.slice none 0 0), .lit (.slice none 0 0)]) ∧ φ.tok kk = some (133, 2) ∧ SubX [o] σ φ ∧ σ.tok kk = none) (fun ⟨φ, kk⟩ => [(0, .ref o 0), (2, .ref o2 0), (3, .ref o3 0), (4, vInt N), (5, vInt i)]) (fun ⟨φ, kk⟩ => φ) ?_ ?_
    · refine awp_block ?_
      refine awp_seq ?_
      refine awp_region (by kernel_rfl) ?_
      (refine aL_S rfl rfl v_ ?_)
      refine aL_X rfl rfl (AOp_use rfl rfl (.inr ⟨rfl, rfl, rfl⟩) g_ va_ (rfText_q hp u1) ?_); rintro _ _ ⟨rfl, rfl⟩
      (refine aL_S rfl rfl v_ ?_)
      refine aL_nil ?_
      have R := u3
      refine awp_draw (.op 0 0 (.op 2 0 (.op 3 0 (.alt 1 2 (.op 4 2 (.op 5 0 (.op 6 2 (.op 7 2 (.op 8 0 (.op 9 2 .nil)))))) (.op 4 2 (.op 5 0 (.alt 1 2 (.op 6 2 (.op 7 2 (.op 8 0 (.op 9 2 .nil)))) (.op 6 2 (.op 1 2 (.op 7 2 (.op 8 0 (.op 9 2 .nil)))))))))))) Tryz.mixed (by kernel_rfl) ?_
      iterate 3 (refine dR_S o_ (by rfl) (by rfl) v_ ?_)
      refine dR_alt ?_ ?_
      · refine dR_T o_ (by rfl) (by rfl) (AOp_val v_ ?_)
        refine dR_T o_ (by rfl) (by rfl) (AOp_use (by rfl) (by rfl) (.inr ⟨by rfl, by rfl, by rfl⟩) g_ va_ (rfText_q hq (Store.set_get ..)) ?_); rintro _ _ ⟨rfl, rfl⟩
        (refine dR_S o_ (by rfl) (by rfl) v_ ?_)
        refine dR_T o_ (by rfl) (by rfl) (AOp_buildSlice' (by rfl) g_ g_ (by rfl) (by rfl) h_ c2_ (by decide) ?_)
        refine dR_T o_ (by rfl) (by rfl) (AOp_appendS (by rfl) g_ g_ (NilOwn.of hno va_) (.inl ⟨⟨_, g_⟩, .inl v_, c_⟩) (by simp; omega) fun k57 hk57 => ?_)
        (refine dR_S o_ (by rfl) (by rfl) v_ ?_)
        refine dR_store o_ (by rfl) (by rfl) (by rfl) v_ v_ h_ g_ rfl g_ c_ (by rfl) le_ v_ ?_
        refine dR_nil ?_
        refine ⟨((((τ.set o (rfO p.2)).set o (rfO q.2)).newTok old k57 (133, 2)).set o3 (.cells [vInt a.1, vStr (B b.1), vStr (B c.1), vInt d.1, vInt e.1, vStr (B f.1), .sl 3 (g.1.ctx.map sSeen) false, .sl 5 (g.1.sibs.map sSib) false, .sl 1 (h.1.map vStr) false, .own k57 2 (L.map sLeaf ++ [.agg [vStr (B p.1), vStr (B q.1)]]), .lit (.slice none 0 0), .lit (.slice none 0 0)]), k57), ?_, ?_, ?_⟩
        · exact ⟨by simp (disch := omega) only [Store.set_ne, Store.newTok_heap, Store.set_get], by simp (disch := omega) only [Store.set_ne, Store.newTok_heap, u2], by rw [Store.set_get, List.map_append]; rfl, by rw [Store.set_tok]; exact Store.newTok_get .., subx_new ho3 (SubX.newTok (SubX.trans (SubX.trans u4 SubX.self) SubX.self) hold hk57), SubX.noTok (SubX.trans (SubX.trans u4 SubX.self) SubX.self) hk57⟩
        · exact cv_
        · exact Store.Wk.refl _
      refine dR_T o_ (by rfl) (by rfl) (AOp_use (by rfl) (by rfl) (.inr ⟨by rfl, by rfl, by rfl⟩) g_ va_ (rfText_q hq (Store.set_get ..)) ?_); rintro _ _ ⟨rfl, rfl⟩
      (refine dR_S o_ (by rfl) (by rfl) v_ ?_)
      refine dR_alt ?_ ?_
      · refine dR_T o_ (by rfl) (by rfl) (AOp_val v_ ?_)
        refine dR_T o_ (by rfl) (by rfl) (AOp_buildSlice' (by rfl) g_ g_ (by rfl) (by rfl) h_ c2_ (by decide) ?_)
        refine dR_T o_ (by rfl) (by rfl) (AOp_appendS (by rfl) g_ g_ (NilOwn.of hno va_) (.inl ⟨⟨_, g_⟩, .inl v_, c_⟩) (by simp; omega) fun k57 hk57 => ?_)
        (refine dR_S o_ (by rfl) (by rfl) v_ ?_)
        refine dR_store o_ (by rfl) (by rfl) (by rfl) v_ v_ h_ g_ rfl g_ c_ (by rfl) le_ v_ ?_
        refine dR_nil ?_
        refine ⟨((((τ.set o (rfO p.2)).set o (rfO q.2)).newTok old k57 (133, 2)).set o3 (.cells [vInt a.1, vStr (B b.1), vStr (B c.1), vInt d.1, vInt e.1, vStr (B f.1), .sl 3 (g.1.ctx.map sSeen) false, .sl 5 (g.1.sibs.map sSib) false, .sl 1 (h.1.map vStr) false, .own k57 2 (L.map sLeaf ++ [.agg [vStr (B p.1), vStr (B q.1)]]), .lit (.slice none 0 0), .lit (.slice none 0 0)]), k57), ?_, ?_, ?_⟩
        · exact ⟨by simp (disch := omega) only [Store.set_ne, Store.newTok_heap, Store.set_get], by simp (disch := omega) only [Store.set_ne, Store.newTok_heap, u2], by rw [Store.set_get, List.map_append]; rfl, by rw [Store.set_tok]; exact Store.newTok_get .., subx_new ho3 (SubX.newTok (SubX.trans (SubX.trans u4 SubX.self) SubX.self) hold hk57), SubX.noTok (SubX.trans (SubX.trans u4 SubX.self) SubX.self) hk57⟩
        · exact cv_
        · exact Store.Wk.refl _
      refine dR_T o_ (by rfl) (by rfl) (AOp_buildSlice' (by rfl) g_ g_ (by rfl) (by rfl) h_ c2_ (by decide) ?_)
      refine dR_T o_ (by rfl) (by rfl) (AOp_val v_ ?_)
      refine dR_T o_ (by rfl) (by rfl) (AOp_appendS (by rfl) g_ g_ (NilOwn.of hno va_) (.inl ⟨⟨_, g_⟩, .inl v_, c_⟩) (by simp; omega) fun k57 hk57 => ?_)
      (refine dR_S o_ (by rfl) (by rfl) v_ ?_)
      refine dR_store o_ (by rfl) (by rfl) (by rfl) v_ v_ h_ g_ rfl g_ c_ (by rfl) le_ v_ ?_
      refine dR_nil ?_
      refine ⟨((((τ.set o (rfO p.2)).set o (rfO q.2)).newTok old k57 (133, 2)).set o3 (.cells [vInt a.1, vStr (B b.1), vStr (B c.1), vInt d.1, vInt e.1, vStr (B f.1), .sl 3 (g.1.ctx.map sSeen) false, .sl 5 (g.1.sibs.map sSib) false, .sl 1 (h.1.map vStr) false, .own k57 2 (L.map sLeaf ++ [.agg [vStr (B p.1), vStr (B q.1)]]), .lit (.slice none 0 0), .lit (.slice none 0 0)]), k57), ?_, ?_, ?_⟩
      · exact ⟨by simp (disch := omega) only [Store.set_ne, Store.newTok_heap, Store.set_get], by simp (disch := omega) only [Store.set_ne, Store.newTok_heap, u2], by rw [Store.set_get, List.map_append]; rfl, by rw [Store.set_tok]; exact Store.newTok_get .., subx_new ho3 (SubX.newTok (SubX.trans (SubX.trans u4 SubX.self) SubX.self) hold hk57), SubX.noTok (SubX.trans (SubX.trans u4 SubX.self) SubX.self) hk57⟩
      · exact cv_
      · exact Store.Wk.refl _
    · rintro ⟨φ, kk⟩ ⟨f1, f2, f3, f4, f5, f6⟩
      simp only [envL_cons, envL_nil]
      refine awp_region (by kernel_rfl) ?_
      iterate 3 (refine aL_S rfl rfl v_ ?_)
      refine aL_nil ?_
      refine aNext (ι := Store × Nat × List Leaf × Rd × AVal × Option Nat) (i := ⟨τ, i, L, y, gm, old⟩) (φ, i + 1, L ++ [Leaf.mk (B p.1) (B q.1)], q.2, .own kk 2 ((L ++ [Leaf.mk (B p.1) (B q.1)]).map sLeaf), some kk) ?_ ?_ ?_ ?_
      · show N - (i + 1) < N - i; omega
      · exact ⟨by show i + 1 ≤ N; omega, by simp [j2], by rw [j3, hmi, rdMany, hy, hlf]; simp [show N - i - 1 = N - (i + 1) by omega], f1, f2, f3, .inl ⟨kk, rfl, f4, rfl⟩, f5, fun j hj => by cases hj; exact f6⟩
      · exact cv_
      · exact Store.Wk.refl _
  · replace hc12 := nm_ hc12
    refine awp_exit ?_
    refine aThen_exit ?_
    refine aThen_exit ?_
    refine aBlock_hit ?_
    refine awp_seq ?_
    have hI : I = (L, y) := by rw [← hi, rdRow, hN]; dsimp only; rw [j3, rdMany_done (n := N - i) _ (by rcases hc12 with h | h; exact .inl (by omega); exact .inr h)]; simp
    refine awp_wkCells o3 [vInt a.1, vStr (B b.1), vStr (B c.1), vInt d.1, vInt e.1, vStr (B f.1), .sl 3 (g.1.ctx.map sSeen) false, .sl 5 (g.1.sibs.map sSib) false, .sl 1 (h.1.map vStr) false, .sl 2 (I.1.map sLeaf) false, .lit (.slice none 0 0), .lit (.slice none 0 0)] u3 ⟨.refl _, .refl _, .refl _, .refl _, .refl _, .refl _, .refl _, .refl _, .refl _, by rw [hI]; exact hno.wk, .refl _, .refl _, trivial⟩ ?_
    refine awp_gen fun S4 hS4 => ?_
    have A1 : S4.heap o = some (rfO I.2) := by rw [hS4, hI]; simp (disch := omega) only [Store.set_ne, u1]
    have A2 : S4.heap o2 = some z := by rw [hS4]; simp (disch := omega) only [Store.set_ne, u2]
    have A3 : S4.heap o3 = some (.cells [vInt a.1, vStr (B b.1), vStr (B c.1), vInt d.1, vInt e.1, vStr (B f.1), .sl 3 (g.1.ctx.map sSeen) false, .sl 5 (g.1.sibs.map sSib) false, .sl 1 (h.1.map vStr) false, .sl 2 (I.1.map sLeaf) false, .lit (.slice none 0 0), .lit (.slice none 0 0)]) := by rw [hS4]; exact Store.set_get ..
    have A4 : SubX [o] σ S4 := by rw [hS4]; exact subx_new ho3 u4
    refine awp_region (by kernel_rfl) ?_
    (refine aL_S rfl rfl v_ ?_)
    refine aL_X rfl rfl (AOp_use rfl rfl (.inr ⟨rfl, rfl, rfl⟩) g_ va_ (rfCount_q (m := 65536) hN2 A1) ?_); rintro _ _ ⟨rfl, rfl⟩
    (refine aL_S rfl rfl v_ ?_)
    refine aL_nil ?_
    refine awp_seq ?_
    refine awp_seq ?_
    refine awp_region (by kernel_rfl) ?_
    (refine aL_S rfl rfl v_ ?_)
    refine aL_nil ?_
    refine awp_block ?_
    refine awp_loop_env (ι := Store × Nat × List Itm × Rd × AVal × Option Nat) (fun ⟨τ, i, L, y, gm, old⟩ => N2 - i) (fun ⟨τ, i, L, y, gm, old⟩ => i ≤ N2 ∧ L.length = i ∧ rdMany rdItem N2 x2 = (L ++ (rdMany rdItem (N2 - i) y).1, (rdMany rdItem (N2 - i) y).2) ∧ τ.heap o = some (rfO y) ∧ τ.heap o2 = some z ∧ τ.heap o3 = some (.cells [vInt a.1, vStr (B b.1), vStr (B c.1), vInt d.1, vInt e.1, vStr (B f.1), .sl 3 (g.1.ctx.map sSeen) false, .sl 5 (g.1.sibs.map sSib) false, .sl 1 (h.1.map vStr) false, .sl 2 (I.1.map sLeaf) false, gm, .lit (.slice none 0 0)]) ∧ NilOwn τ 137 3 (L.map sItem) gm old ∧ SubX [o] σ τ ∧ (∀ j, old = some j → σ.tok j = none)) (fun ⟨τ, i, L, y, gm, old⟩ => [(0, .ref o 0), (2, .ref o2 0), (3, .ref o3 0), (4, vInt N2), (7, vInt i)]) (fun ⟨τ, i, L, y, gm, old⟩ => τ) (S4.set o (rfO x2), 0, [], x2, .lit (.slice none 0 0), none) ?_ ?_ ?_ ?_
    · exact ⟨Nat.zero_le _, rfl, rfl, Store.set_get .., by simp (disch := omega) only [Store.set_ne, A2], by simp (disch := omega) only [Store.set_ne, A3], .inr ⟨rfl, rfl, rfl⟩, subx_in (.head _) A4, fun j hj => by cases hj⟩
    · exact cv_
    · exact Store.Wk.refl _
    rintro ⟨τ, i, L, y, gm, old⟩ ⟨j1, j2, j3, u1, u2, u3, hno, u4, hold⟩
    simp only [envL_cons, envL_nil]
    refine awp_seq ?_
    refine awp_seq ?_
    have R := u1
    refine awp_region (by kernel_rfl) ?_
    iterate 4 (refine aL_S rfl rfl v_ ?_)
    refine aL_GT rfl rfl v_ rfl vg_ ?_
    refine aL_GT rfl rfl v_ rfl vg_ ?_
    refine aL_GT rfl rfl v_ rfl vg_ ?_
    refine aL_GT rfl rfl v_ rfl vg_ ?_
    refine aL_GT rfl rfl v_ rfl vg_ ?_
    (refine aL_S rfl rfl v_ ?_)
    refine aL_nil ?_
    refine awp_cond v_ (fun hc18 => ?_) (fun hc18 => ?_)
    · replace hc18 := nm_ hc18
      obtain ⟨hcj, hy⟩ := hc18
      have hmi : N2 - i = (N2 - i - 1) + 1 := by omega
      obtain ⟨p, hp⟩ : ∃ q, rdText y = q := ⟨_, rfl⟩
      obtain ⟨q, hq⟩ : ∃ q, rdObj p.2 = q := ⟨_, rfl⟩
      have hlf : rdItem y = (Itm.mk (B p.1) q.1, q.2) := by subst hq; subst hp; rfl
      refine awp_skip ?_
      refine awp_seq_mid (ι := Store × Nat) (fun ⟨φ, kk⟩ => φ.heap o = some (rfO q.2) ∧ φ.heap o2 = some z ∧ φ.heap o3 = some (.cells [vInt a.1, vStr (B b.1), vStr (B c.1), vInt d.1, vInt e.1, vStr (B f.1), .sl 3 (g.1.ctx.map sSeen) false, .sl 5 (g.1.sibs.map sSib) false, .sl 1 (h.1.map vStr) false, .sl 2 (I.1.map sLeaf) false, .own kk 3 ((L ++ [Itm.mk (B p.1) q.1]).map sItem), .lit (.slice none 0 0)]) ∧ φ.tok kk = some (137, 3) ∧ SubX [o] σ φ ∧ σ.tok kk = none) (fun ⟨φ, kk⟩ => [(0, .ref o 0), (2, .ref o2 0), (3, .ref o3 0), (4, vInt N2), (7, vInt i)]) (fun ⟨φ, kk⟩ => φ) ?_ ?_
      · refine awp_block ?_
        refine awp_seq ?_
        refine awp_region (by kernel_rfl) ?_
        (refine aL_S rfl rfl v_ ?_)
        refine aL_X rfl rfl (AOp_use rfl rfl (.inr ⟨rfl, rfl, rfl⟩) g_ va_ (rfText_q hp u1) ?_); rintro _ _ ⟨rfl, rfl⟩
        (refine aL_S rfl rfl v_ ?_)
        refine aL_nil ?_
        have R := u3
        refine awp_draw (.op 0 0 (.op 2 0 (.op 3 0 (.alt 1 2 (.op 4 2 (.op 5 0 (.op 6 2 (.op 7 2 (.op 8 0 (.op 9 2 .nil)))))) (.op 4 2 (.op 5 0 (.alt 1 2 (.op 6 2 (.op 7 2 (.op 8 0 (.op 9 2 .nil)))) (.op 6 2 (.op 1 2 (.op 7 2 (.op 8 0 (.op 9 2 .nil)))))))))))) Tryz.mixed (by kernel_rfl) ?_
        iterate 3 (refine dR_S o_ (by rfl) (by rfl) v_ ?_)
        refine dR_alt ?_ ?_
        · refine dR_T o_ (by rfl) (by rfl) (AOp_val v_ ?_)
          refine dR_T o_ (by rfl) (by rfl) (AOp_use (by rfl) (by rfl) (.inr ⟨by rfl, by rfl, by rfl⟩) g_ va_ (rfObj_q hq (Store.set_get ..)) ?_); rintro _ ω ⟨rfl, b1, b2⟩
          have z3 := keep (i := o3) b2 (by simp (disch := omega) only [Store.set_ne, u3]; rfl) (by simp; omega)
          have z2 := keep (i := o2) (x := z) b2 (by simp (disch := omega) only [Store.set_ne, u2]) (by simp; omega)
          have hno2 := NilOwn.sub hno b2
          have R := z3
          (refine dR_S o_ (by rfl) (by rfl) v_ ?_)
          refine dR_T o_ (by rfl) (by rfl) (AOp_buildSlice' (by rfl) g_ g_ (by rfl) (by rfl) h_ c2_ (by decide) ?_)
          refine dR_T o_ (by rfl) (by rfl) (AOp_appendS (by rfl) g_ g_ (NilOwn.of hno2 va_) (.inl ⟨⟨_, g_⟩, .inl v_, c_⟩) (by simp; omega) fun k82 hk82 => ?_)
          (refine dR_S o_ (by rfl) (by rfl) v_ ?_)
          refine dR_store o_ (by rfl) (by rfl) (by rfl) v_ v_ h_ g_ rfl g_ c_ (by rfl) le_ v_ ?_
          refine dR_nil ?_
          refine ⟨((ω.newTok old k82 (137, 3)).set o3 (.cells [vInt a.1, vStr (B b.1), vStr (B c.1), vInt d.1, vInt e.1, vStr (B f.1), .sl 3 (g.1.ctx.map sSeen) false, .sl 5 (g.1.sibs.map sSib) false, .sl 1 (h.1.map vStr) false, .sl 2 (I.1.map sLeaf) false, .own k82 3 (L.map sItem ++ [.agg [vStr (B p.1), .sl 3 (q.1.ctx.map sSeen) false, .sl 5 (q.1.sibs.map sSib) false]]), .lit (.slice none 0 0)]), k82), ?_, ?_, ?_⟩
          · exact ⟨by simp (disch := omega) only [Store.set_ne, Store.newTok_heap, b1], by simp (disch := omega) only [Store.set_ne, Store.newTok_heap, z2], by rw [Store.set_get, List.map_append]; rfl, by rw [Store.set_tok]; exact Store.newTok_get .., subx_new ho3 (SubX.newTok (SubX.trans (SubX.trans u4 SubX.self) b2) hold hk82), SubX.noTok (SubX.trans (SubX.trans u4 SubX.self) b2) hk82⟩
          · exact cv_
          · exact Store.Wk.refl _
        refine dR_T o_ (by rfl) (by rfl) (AOp_use (by rfl) (by rfl) (.inr ⟨by rfl, by rfl, by rfl⟩) g_ va_ (rfObj_q hq (Store.set_get ..)) ?_); rintro _ ω ⟨rfl, b1, b2⟩
        have z3 := keep (i := o3) b2 (by simp (disch := omega) only [Store.set_ne, u3]; rfl) (by simp; omega)
        have z2 := keep (i := o2) (x := z) b2 (by simp (disch := omega) only [Store.set_ne, u2]) (by simp; omega)
        have hno2 := NilOwn.sub hno b2
        have R := z3
        (refine dR_S o_ (by rfl) (by rfl) v_ ?_)
        refine dR_alt ?_ ?_
        · refine dR_T o_ (by rfl) (by rfl) (AOp_val v_ ?_)
          refine dR_T o_ (by rfl) (by rfl) (AOp_buildSlice' (by rfl) g_ g_ (by rfl) (by rfl) h_ c2_ (by decide) ?_)
          refine dR_T o_ (by rfl) (by rfl) (AOp_appendS (by rfl) g_ g_ (NilOwn.of hno2 va_) (.inl ⟨⟨_, g_⟩, .inl v_, c_⟩) (by simp; omega) fun k82 hk82 => ?_)
          (refine dR_S o_ (by rfl) (by rfl) v_ ?_)
          refine dR_store o_ (by rfl) (by rfl) (by rfl) v_ v_ h_ g_ rfl g_ c_ (by rfl) le_ v_ ?_
          refine dR_nil ?_
          refine ⟨((ω.newTok old k82 (137, 3)).set o3 (.cells [vInt a.1, vStr (B b.1), vStr (B c.1), vInt d.1, vInt e.1, vStr (B f.1), .sl 3 (g.1.ctx.map sSeen) false, .sl 5 (g.1.sibs.map sSib) false, .sl 1 (h.1.map vStr) false, .sl 2 (I.1.map sLeaf) false, .own k82 3 (L.map sItem ++ [.agg [vStr (B p.1), .sl 3 (q.1.ctx.map sSeen) false, .sl 5 (q.1.sibs.map sSib) false]]), .lit (.slice none 0 0)]), k82), ?_, ?_, ?_⟩
          · exact ⟨by simp (disch := omega) only [Store.set_ne, Store.newTok_heap, b1], by simp (disch := omega) only [Store.set_ne, Store.newTok_heap, z2], by rw [Store.set_get, List.map_append]; rfl, by rw [Store.set_tok]; exact Store.newTok_get .., subx_new ho3 (SubX.newTok (SubX.trans (SubX.trans u4 SubX.self) b2) hold hk82), SubX.noTok (SubX.trans (SubX.trans u4 SubX.self) b2) hk82⟩
          · exact cv_
          · exact Store.Wk.refl _
        refine dR_T o_ (by rfl) (by rfl) (AOp_buildSlice' (by rfl) g_ g_ (by rfl) (by rfl) h_ c2_ (by decide) ?_)
        refine dR_T o_ (by rfl) (by rfl) (AOp_val v_ ?_)
        refine dR_T o_ (by rfl) (by rfl) (AOp_appendS (by rfl) g_ g_ (NilOwn.of hno2 va_) (.inl ⟨⟨_, g_⟩, .inl v_, c_⟩) (by simp; omega) fun k82 hk82 => ?_)
        (refine dR_S o_ (by rfl) (by rfl) v_ ?_)
        refine dR_store o_ (by rfl) (by rfl) (by rfl) v_ v_ h_ g_ rfl g_ c_ (by rfl) le_ v_ ?_
        refine dR_nil ?_
        refine ⟨((ω.newTok old k82 (137, 3)).set o3 (.cells [vInt a.1, vStr (B b.1), vStr (B c.1), vInt d.1, vInt e.1, vStr (B f.1), .sl 3 (g.1.ctx.map sSeen) false, .sl 5 (g.1.sibs.map sSib) false, .sl 1 (h.1.map vStr) false, .sl 2 (I.1.map sLeaf) false, .own k82 3 (L.map sItem ++ [.agg [vStr (B p.1), .sl 3 (q.1.ctx.map sSeen) false, .sl 5 (q.1.sibs.map sSib) false]]), .lit (.slice none 0 0)]), k82), ?_, ?_, ?_⟩
        · exact ⟨by simp (disch := omega) only [Store.set_ne, Store.newTok_heap, b1], by simp (disch := omega) only [Store.set_ne, Store.newTok_heap, z2], by rw [Store.set_get, List.map_append]; rfl, by rw [Store.set_tok]; exact Store.newTok_get .., subx_new ho3 (SubX.newTok (SubX.trans (SubX.trans u4 SubX.self) b2) hold hk82), SubX.noTok (SubX.trans (SubX.trans u4 SubX.self) b2) hk82⟩
        · exact cv_
        · exact Store.Wk.refl _
      · rintro ⟨φ, kk⟩ ⟨f1, f2, f3, f4, f5, f6⟩
        simp only [envL_cons, envL_nil]
        refine awp_region (by kernel_rfl) ?_
        iterate 3 (refine aL_S rfl rfl v_ ?_)
        refine aL_nil ?_
        refine aNext (ι := Store × Nat × List Itm × Rd × AVal × Option Nat) (i := ⟨τ, i, L, y, gm, old⟩) (φ, i + 1, L ++ [Itm.mk (B p.1) q.1], q.2, .own kk 3 ((L ++ [Itm.mk (B p.1) q.1]).map sItem), some kk) ?_ ?_ ?_ ?_
        · show N2 - (i + 1) < N2 - i; omega
        · exact ⟨by show i + 1 ≤ N2; omega, by simp [j2], by rw [j3, hmi, rdMany, hy, hlf]; simp [show N2 - i - 1 = N2 - (i + 1) by omega], f1, f2, f3, .inl ⟨kk, rfl, f4, rfl⟩, f5, fun j hj => by cases hj; exact f6⟩
        · exact cv_
        · exact Store.Wk.refl _
    · replace hc18 := nm_ hc18
      refine awp_exit ?_
      refine aThen_exit ?_
      refine aThen_exit ?_
      refine aBlock_hit ?_
      refine awp_seq ?_
      have hJ : J = (L, y) := by rw [← hj, rdRow, hN2]; dsimp only; rw [j3, rdMany_done (n := N2 - i) _ (by rcases hc18 with h | h; exact .inl (by omega); exact .inr h)]; simp
      refine awp_wkCells o3 [vInt a.1, vStr (B b.1), vStr (B c.1), vInt d.1, vInt e.1, vStr (B f.1), .sl 3 (g.1.ctx.map sSeen) false, .sl 5 (g.1.sibs.map sSib) false, .sl 1 (h.1.map vStr) false, .sl 2 (I.1.map sLeaf) false, .sl 3 (J.1.map sItem) false, .lit (.slice none 0 0)] u3 ⟨.refl _, .refl _, .refl _, .refl _, .refl _, .refl _, .refl _, .refl _, .refl _, .refl _, by rw [hJ]; exact hno.wk, .refl _, trivial⟩ ?_
      refine awp_gen fun S5 hS5 => ?_
      have B1 : S5.heap o = some (rfO J.2) := by rw [hS5, hJ]; simp (disch := omega) only [Store.set_ne, u1]
      have B2 : S5.heap o2 = some z := by rw [hS5]; simp (disch := omega) only [Store.set_ne, u2]
      have B3 : S5.heap o3 = some (.cells [vInt a.1, vStr (B b.1), vStr (B c.1), vInt d.1, vInt e.1, vStr (B f.1), .sl 3 (g.1.ctx.map sSeen) false, .sl 5 (g.1.sibs.map sSib) false, .sl 1 (h.1.map vStr) false, .sl 2 (I.1.map sLeaf) false, .sl 3 (J.1.map sItem) false, .lit (.slice none 0 0)]) := by rw [hS5]; exact Store.set_get ..
      have B4 : SubX [o] σ S5 := by rw [hS5]; exact subx_new ho3 u4
      refine awp_region (by kernel_rfl) ?_
      (refine aL_S rfl rfl v_ ?_)
      refine aL_X rfl rfl (AOp_use rfl rfl (.inr ⟨rfl, rfl, rfl⟩) g_ va_ (rfEnts_q hk B1) ?_); rintro _ κ7 ⟨rfl, g1, g2⟩
      have g3 := keep (i := o3) g2 B3 (by simp; omega)
      have g4 := keep (i := o2) g2 B2 (by simp; omega)
      have R := g3
      (refine aL_S rfl rfl v_ ?_)
      refine aL_store rfl rfl rfl v_ v_ h_ g_ rfl g_ c_ (by rfl) le_ v_ ?_
      refine aL_nil ?_
      refine awp_seq ?_
      rw [← hz] at g4
      have R := g4
      refine awp_region (by kernel_rfl) ?_
      (refine aL_S rfl rfl v_ ?_)
      refine aL_store rfl rfl rfl v_ v_ h_ g_ rfl g_ c_ (by rfl) le_ v_ ?_
      refine aL_nil ?_
      refine awp_ret ?_
      refine aEnd_ret v_ (Store.Wk.refl _) ?_
      refine ⟨rfl, by simp (disch := omega) only [Store.set_ne, g1], ?_⟩
      exact subx_new ho2 (subx_new ho3 (SubX.trans B4 g2))
end Go.Proofs.YtgpibooklhakgaaGreat
end
