/-
  ReplicaKeeps and ReplicaReaps. Own work (an AI agent).
-/
import Derived.Test.YtcaflcpcbcneiaaGreatGO

section
set_option linter.all false
set_option maxRecDepth 100000
namespace Go.Proofs.YtcaflcpcbcneiaaGreat
open Go.Ab
set_option maxHeartbeats 4000000 in
theorem is_ {b : Bk} {o : Obj'} {n : Int} {σ : Store} : ai_ Tryz.prog 5 [sBk b, sObj o, vInt n] σ fun v σ' => v = vB true ∧ σ = σ' := by
 have hB0 : ∀ h : dn_ b = true, BkSm b := fun h => (cx_ h).sm (by omega)
 refine en_ Tryz.func5 Tryz.ntmps5 Tryz.results5 ?_
 refine rr_ ?_
 refine bx_ fun o3 ho3 => ?_
 repeat (rw [ac_] at ho3; obtain ⟨_, ho3⟩ := ho3)
 refine bx_ fun o4 ho4 => ?_
 repeat (rw [ac_] at ho4; obtain ⟨_, ho4⟩ := ho4)
 refine s_ ?_
 refine aa_ ?_
 refine ab_ ?_
 refine rr_ ?_
 refine s_ ?_
 refine x_ g_ va_ (jf_) ?_; rintro _ _ ⟨rfl, rfl⟩
 iterate 2 refine s_ ?_
 refine gf_ ?_
 refine bt_ rfl rfl v_ rfl (fun hb => av_ (by rfl) (by rfl) (.inr ⟨by rfl, by rfl, by rfl⟩) g_ cg_ (lr_)) ?_
 refine gf_ ?_
 iterate 2 refine s_ ?_
 refine gf_ ?_
 refine bt_ rfl rfl v_ rfl (fun hb => av_ (by rfl) (by rfl) (.inr ⟨by rfl, by rfl, by rfl⟩) g_ cg_ (gA_ (by simp at hb; exact hB0 hb.1))) ?_
 refine gf_ ?_
 iterate 2 refine s_ ?_
 refine gf_ ?_
 refine bt_ rfl rfl v_ rfl (fun hb => av_ (by rfl) (by rfl) (.inr ⟨by rfl, by rfl, by rfl⟩) g_ cg_ (dF_ (by simp at hb; exact (cy_.1 hb.1.2).sm))) ?_
 refine gf_ ?_
 refine s_ ?_
 refine aa_ ?_
 refine cd_ (fun hc1 => ?_) (fun hc1 => ?_)
 ·refine rr_ ?_
  refine x_ g_ va_ (cu_) ?_; rintro _ _ ⟨rfl, rfl⟩
  refine s_ ?_
  refine aa_ ?_
  refine af_ ?_
  refine er_ σ ?_
  exact ⟨rfl, rfl⟩
 ·obtain ⟨⟨⟨hf, hfo⟩, hbk⟩, hob⟩ := hc1
  have hB := hB0 hf
  have hF : BkF b := ⟨hf, hbk⟩
  have hO := cy_.1 hfo
  have hOk := hO.okO hob
  have hos := hO.sm
  have hl8 := ee_ hf
  obtain ⟨⟨s, e⟩, hse⟩ : ∃ w, repW b n pA o = w := ⟨_, rfl⟩
  have hK := keeps (limit := n) hF hOk
  rw [hse] at hK
  have e0 : B [] = ⟨#[]⟩ := rfl
  refine ae_ ?_
  refine rr_ ?_
  iterate 3 refine s_ ?_
  refine x_ g_ va_ (eU_ (p := pA) hf (by decide) hO) ?_; rintro _ _ ⟨rfl, rfl⟩
  rw [hse]
  iterate 5 refine s_ ?_
  refine aa_ ?_
  refine ab_ ?_
  refine rr_ ?_
  iterate 2 refine s_ ?_
  refine aa_ ?_
  refine cd_ (fun hc4 => ?_) (fun hc4 => ?_)
  ·obtain ⟨rfl, rfl⟩ : s = [] ∧ e = 10 := by
    rcases hK with h | ⟨_, h, _⟩ | ⟨_, _, h, _⟩
    ·exact h
    ·exact absurd h hc4
    ·exact absurd h hc4
   refine ab_ ?_
   have R := e0
   refine r_ ?_
   iterate 3 refine s_ ?_
   refine gt_ ?_
   refine gt_ ?_
   iterate 2 refine s_ ?_
   refine cE_ rfl rfl v_ rfl (fun hb => av_ (by rfl) (by rfl) (.inr ⟨by rfl, by rfl, by rfl⟩) g_ cg_ (cu_)) ?_
   iterate 2 refine s_ ?_
   refine aa_ ?_
   refine af_ ?_
   refine er_ σ ?_
   exact ⟨by simp, rfl⟩
  ·have hK' : (s = [] ∧ Kept b o b) ∨ ∃ nb, s ≠ [] ∧ apS b s = (nb, 0) ∧ s.length ≤ 100000000000 ∧ ObjSm (bf_ (hdX s)).1 ∧ sizB nb ≤ n ∧ (∀ x ∈ nb.items, ItemSm x) ∧ nb.items.length ≤ 9 ∧ Kept b o nb := by
    rcases hK with ⟨_, h⟩ | ⟨h1, _, h2⟩ | ⟨nb, h1, _, h2⟩
    ·have h' : e = 10 := h; omega
    ·exact .inl ⟨h1, h2⟩
    ·exact .inr ⟨nb, h1, h2⟩
   refine ae_ ?_
   refine rr_ ?_
   refine s_ ?_
   refine lc_ fun o9 ho9 => ?_
   repeat (rw [ac_] at ho9; obtain ⟨_, ho9⟩ := ho9)
   refine st_ ?_
   refine aa_ ?_
   refine cf_ (ι := Bk) (fun nb => Kept b o nb ∧ nb.items.length ≤ 9) (fun nb => [(3, .ref o3 0), (4, .ref o4 0), (9, .ref o9 0)]) (fun nb => (((σ.set o3 (.cells (sBk b).cells)).set o4 (.cells (sObj o).cells)).set o9 (.cells (sBk nb).cells))) ?_ ?_
   ·refine rr_ ?_
    iterate 2 refine s_ ?_
    refine aa_ ?_
    refine cd_ (fun hc7 => ?_) (fun hc7 => ?_)
    ·obtain ⟨nb, hs, hap, hsl, hrd, hsz, hism, hnl, hk⟩ : ∃ nb, s ≠ [] ∧ apS b s = (nb, 0) ∧ s.length ≤ 100000000000 ∧ ObjSm (bf_ (hdX s)).1 ∧ sizB nb ≤ n ∧ (∀ x ∈ nb.items, ItemSm x) ∧ nb.items.length ≤ 9 ∧ Kept b o nb := by
      rcases hK' with ⟨h, _⟩ | h
      ·rw [h] at hc7; exact absurd e0 hc7
      ·exact h
     refine rr_ ?_
     iterate 2 refine s_ ?_
     refine x_ g_ va_ (dj_ hB (by omega) hrd) ?_; rintro _ _ ⟨rfl, rfl⟩
     rw [hap]
     iterate 3 refine s_ ?_
     refine lc_ fun o10 ho10 => ?_
     repeat (rw [ac_] at ho10; obtain ⟨_, ho10⟩ := ho10)
     refine st_ ?_
     refine s_ ?_
     refine aa_ ?_
     refine ab_ ?_
     refine rr_ ?_
     iterate 3 refine s_ ?_
     refine gf_ ?_
     refine bt_ rfl rfl v_ rfl (fun hb => av_ (by rfl) (by rfl) (.inr ⟨by rfl, by rfl, by rfl⟩) g_ cg_ (h5_ hism (by omega))) ?_
     refine gf_ ?_
     refine gf_ ?_
     refine s_ ?_
     refine aa_ ?_
     refine cd_ (fun hc9 => ?_) (fun hc9 => ?_)
     ·omega
     ·refine ae_ ?_
      refine r_ ?_
      refine s_ ?_
      refine st_ ?_
      refine aa_ ?_
      refine ⟨nb, ?_, ?_, ?_⟩
      ·exact ⟨hk, hnl⟩
      ·exact cv_
      ·exact sub_
    ·have hk : Kept b o b := by
      rcases hK' with ⟨_, h⟩ | ⟨nb, h, _⟩
      ·exact h
      ·exact absurd ((db_ (b := [])).1 hc7) h
     refine ae_ ?_
     refine ⟨b, ?_, ?_, ?_⟩
     ·exact ⟨hk, by omega⟩
     ·exact cv_
     ·exact sub_
   ·rintro nb ⟨hk, hnl⟩
    simp only [ak_, am_]
    refine rr_ ?_
    refine s_ ?_
    refine x_ g_ va_ (f6_ (s := pA) (by omega)) ?_; rintro _ _ ⟨rfl, rfl⟩
    iterate 3 refine s_ ?_
    refine lc_ fun o12 ho12 => ?_
    repeat (rw [ac_] at ho12; obtain ⟨_, ho12⟩ := ho12)
    refine st_ ?_
    refine s_ ?_
    refine aa_ ?_
    refine ab_ ?_
    refine rr_ ?_
    iterate 3 refine s_ ?_
    refine gf_ ?_
    refine gf_ ?_
    refine bt_ rfl rfl v_ rfl (fun hb => av_ (by rfl) (by rfl) (.inr ⟨by rfl, by rfl, by rfl⟩) g_ cg_ (f5_ hk.sm.1 hos hk.sm.2)) ?_
    refine gf_ ?_
    refine s_ ?_
    refine aa_ ?_
    refine cd_ (fun hc13 => ?_) (fun hc13 => ?_)
    ·simp [hk.got, hk.cov] at hc13
    ·refine ae_ ?_
     refine ab_ ?_
     refine rr_ ?_
     refine s_ ?_
     refine aa_ ?_
     refine ag_ ?_
     refine ah_ (ι := Nat) (fun i => b.items.length - i) (fun i => i ≤ b.items.length) (fun i => [(3, .ref o3 0), (9, .ref o9 0), (14, vInt i)]) (fun i => (((σ.set o3 (.cells (sBk b).cells)).set o4 (.cells (sObj o).cells)).set o9 (.cells (sBk nb).cells))) 0 ?_ ?_ ?_ ?_
     ·exact Nat.zero_le _
     ·exact cv_
     ·exact sub_
     rintro i hi
     simp only [ak_, am_]
     refine ab_ ?_
     refine rr_ ?_
     iterate 5 refine s_ ?_
     refine aa_ ?_
     refine cd_ (fun hc16 => ?_) (fun hc16 => ?_)
     ·refine ae_ ?_
      refine ab_ ?_
      refine ag_ ?_
      refine ab_ ?_
      obtain ⟨x, hx⟩ := aq_ (l := b.items) (k := i) (by omega)
      have hxm := List.mem_of_getElem? hx
      obtain ⟨a1, a2, a3, a4, a5⟩ := hk.all x hxm
      have sx := (hB.items x hxm).obj
      have R := hx
      refine ap_ (.op 0 0 (.op 1 0 (.op 2 0 (.op 3 0 (.op 4 0 (.op 5 0 (.op 6 0 (.alt 7 1 (.op 8 0 (.op 9 0 (.op 10 0 (.op 11 1 (.op 12 2 (.op 13 0 .nil)))))) (.op 11 1 (.op 7 1 (.op 8 0 (.op 9 0 (.op 10 0 (.op 12 2 (.op 13 0 .nil))))))))))))))) Tryz.mixed kr_ ?_
      iterate 7 refine ds_ ?_
      refine c8_ ?_ ?_
      ·refine dx_ o_ g_ va_ (f6_ (by omega)) ?_; rintro _ _ ⟨rfl, rfl⟩; refine ⟨sub_, ?_⟩
       iterate 3 refine ds_ ?_
       refine dlc_ fun o15 ho15 => ?_
       repeat (rw [ac_] at ho15; obtain ⟨_, ho15⟩ := ho15)
       refine dst_ ?_
       refine ds_ ?_
       refine aB_ ?_
       refine ab_ ?_
       have R := hx
       refine ap_ (.op 0 0 (.op 1 0 (.op 2 0 (.op 3 0 (.op 4 0 (.op 5 0 (.op 6 0 (.op 7 0 (.op 8 0 (.op 9 0 (.op 10 0 (.op 11 0 (.op 12 0 (.op 13 0 (.op 14 0 (.op 15 0 (.op 16 0 (.op 17 0 (.op 18 1 (.op 19 0 (.op 20 0 (.op 21 0 (.op 22 0 (.op 23 0 (.op 24 0 (.op 25 0 (.op 26 0 (.op 27 0 (.op 28 0 (.op 29 0 (.op 30 1 (.op 31 0 (.op 32 0 .nil))))))))))))))))))))))))))))))))) Tryz.mixed kr_ ?_
       iterate 3 refine ds_ ?_
       refine dgf_ ?_
       refine dgf_ ?_
       refine dgf_ ?_
       refine dgf_ ?_
       refine dgf_ ?_
       refine dgf_ ?_
       refine dgf_ ?_
       refine dgf_ ?_
       refine aK_ ?_
       refine aK_ ?_
       refine aK_ ?_
       refine aK_ ?_
       refine aK_ ?_
       refine aK_ ?_
       refine aK_ ?_
       refine eF_ o_ (by rfl) (by rfl) v_ (by rfl) sub_ (fun hb => av_ (by rfl) (by rfl) (.inr ⟨by rfl, by rfl, by rfl⟩) g_ cg_ (gc_ a4 sx)) ?_
       refine aK_ ?_
       refine dgf_ ?_
       iterate 2 refine ds_ ?_
       refine dgf_ ?_
       refine dgf_ ?_
       refine dgf_ ?_
       refine dgf_ ?_
       refine dgf_ ?_
       refine dgf_ ?_
       refine dgf_ ?_
       refine hE_ o_ (by rfl) (by rfl) v_ (by rfl) sub_ (fun hb => av_ (by rfl) (by rfl) (.inr ⟨by rfl, by rfl, by rfl⟩) g_ cg_ (f5_ a4 sx a5)) ?_
       refine dgf_ ?_
       refine ds_ ?_
       refine aB_ ?_
       refine cd_ (fun hc19 => ?_) (fun hc19 => ?_)
       ·exact (show False by rcases hc19 with (h | ⟨h1, h2⟩) | h; simp [a1] at h; exact h2 (a2 h1); simp [a3] at h).elim
       ·refine ae_ ?_
        refine r_ ?_
        iterate 3 refine s_ ?_
        refine aa_ ?_
        refine aC_ (ι := Nat) (i := i) (i + 1) ?_ ?_ ?_ ?_
        ·omega
        ·show i + 1 ≤ b.items.length; omega
        ·exact cv_
        ·exact sub_
      refine dlc_ fun o15 ho15 => ?_
      repeat (rw [ac_] at ho15; obtain ⟨_, ho15⟩ := ho15)
      refine dx_ o_ g_ va_ (f6_ (by omega)) ?_; rintro _ _ ⟨rfl, rfl⟩; refine ⟨sub_, ?_⟩
      iterate 3 refine ds_ ?_
      refine dst_ ?_
      refine ds_ ?_
      refine aB_ ?_
      refine ab_ ?_
      have R := hx
      refine ap_ (.op 0 0 (.op 1 0 (.op 2 0 (.op 3 0 (.op 4 0 (.op 5 0 (.op 6 0 (.op 7 0 (.op 8 0 (.op 9 0 (.op 10 0 (.op 11 0 (.op 12 0 (.op 13 0 (.op 14 0 (.op 15 0 (.op 16 0 (.op 17 0 (.op 18 1 (.op 19 0 (.op 20 0 (.op 21 0 (.op 22 0 (.op 23 0 (.op 24 0 (.op 25 0 (.op 26 0 (.op 27 0 (.op 28 0 (.op 29 0 (.op 30 1 (.op 31 0 (.op 32 0 .nil))))))))))))))))))))))))))))))))) Tryz.mixed kr_ ?_
      iterate 3 refine ds_ ?_
      refine dgf_ ?_
      refine dgf_ ?_
      refine dgf_ ?_
      refine dgf_ ?_
      refine dgf_ ?_
      refine dgf_ ?_
      refine dgf_ ?_
      refine dgf_ ?_
      refine aK_ ?_
      refine aK_ ?_
      refine aK_ ?_
      refine aK_ ?_
      refine aK_ ?_
      refine aK_ ?_
      refine aK_ ?_
      refine eF_ o_ (by rfl) (by rfl) v_ (by rfl) sub_ (fun hb => av_ (by rfl) (by rfl) (.inr ⟨by rfl, by rfl, by rfl⟩) g_ cg_ (gc_ a4 sx)) ?_
      refine aK_ ?_
      refine dgf_ ?_
      iterate 2 refine ds_ ?_
      refine dgf_ ?_
      refine dgf_ ?_
      refine dgf_ ?_
      refine dgf_ ?_
      refine dgf_ ?_
      refine dgf_ ?_
      refine dgf_ ?_
      refine hE_ o_ (by rfl) (by rfl) v_ (by rfl) sub_ (fun hb => av_ (by rfl) (by rfl) (.inr ⟨by rfl, by rfl, by rfl⟩) g_ cg_ (f5_ a4 sx a5)) ?_
      refine dgf_ ?_
      refine ds_ ?_
      refine aB_ ?_
      refine cd_ (fun hc19 => ?_) (fun hc19 => ?_)
      ·exact (show False by rcases hc19 with (h | ⟨h1, h2⟩) | h; simp [a1] at h; exact h2 (a2 h1); simp [a3] at h).elim
      ·refine ae_ ?_
       refine r_ ?_
       iterate 3 refine s_ ?_
       refine aa_ ?_
       refine aC_ (ι := Nat) (i := i) (i + 1) ?_ ?_ ?_ ?_
       ·omega
       ·show i + 1 ≤ b.items.length; omega
       ·exact cv_
       ·exact sub_
     ·refine an_ ?_
      refine ad_ ?_
      refine ad_ ?_
      refine aj_ ?_
      refine ab_ ?_
      have hkl := hk.len
      refine r_ ?_
      iterate 9 refine s_ ?_
      refine cE_ rfl rfl v_ rfl (fun hb => av_ (by rfl) (by rfl) (.inr ⟨by rfl, by rfl, by rfl⟩) g_ cg_ (cu_)) ?_
      iterate 2 refine s_ ?_
      refine aa_ ?_
      refine af_ ?_
      refine er_ σ ?_
      exact ⟨by simp; omega, rfl⟩
theorem o3_ {α : Type} {p : α → Bool} {l : List α} {k : Nat} {x : α} (hx : l[k]? = some x) (h : p x = true) : ((((l.take (k + 1)).filter p).length : Nat) : Int) = (((l.take k).filter p).length : Int) + 1 := by
 rw [ax_ hx, List.filter_append]; simp [h]
theorem o2_ {α : Type} {p : α → Bool} {l : List α} {k : Nat} {x : α} (hx : l[k]? = some x) (h : p x = false) : ((((l.take (k + 1)).filter p).length : Nat) : Int) = (((l.take k).filter p).length : Int) := by
 rw [ax_ hx, List.filter_append]; simp [h]
theorem q_gn {K : Exit → Env → Store → Prop} {ex : Exit} {e : Env} {σ : Store} (h : ∀ S, S = σ → K ex e S) : K ex e σ := h σ rfl
theorem ug_ {σ S : Store} {o p : Nat} {x y : AObj} (h : SubX [] σ S) (h1 : S.heap o = some x) (h2 : S.heap p = some y) : ((σ.set o x).set p y).Wk S :=
 bd_ (ih_ h2 (ih_ h1 ⟨fun i z _ hz => h.1 i z (by simp) hz, h.2⟩))
set_option maxHeartbeats 4000000 in
theorem iu_ {b : Bk} {t : Int} {σ : Store} : ai_ Tryz.prog 6 [sBk b, vInt t] σ fun v σ' => v = vB true ∧ σ = σ' := by
 have hB0 : ∀ h : dn_ b = true, BkSm b := fun h => (cx_ h).sm (by omega)
 refine en_ Tryz.func6 Tryz.ntmps6 Tryz.results6 ?_
 refine rr_ ?_
 refine bx_ fun o2 ho2 => ?_
 repeat (rw [ac_] at ho2; obtain ⟨_, ho2⟩ := ho2)
 refine s_ ?_
 refine aa_ ?_
 refine ab_ ?_
 refine rr_ ?_
 refine s_ ?_
 refine x_ g_ va_ (jf_) ?_; rintro _ _ ⟨rfl, rfl⟩
 iterate 2 refine s_ ?_
 refine gf_ ?_
 refine bt_ rfl rfl v_ rfl (fun hb => av_ (by rfl) (by rfl) (.inr ⟨by rfl, by rfl, by rfl⟩) g_ cg_ (gA_ (by simp at hb; exact hB0 hb))) ?_
 refine gf_ ?_
 refine s_ ?_
 refine aa_ ?_
 refine cd_ (fun hc1 => ?_) (fun hc1 => ?_)
 ·refine rr_ ?_
  refine x_ g_ va_ (cu_) ?_; rintro _ _ ⟨rfl, rfl⟩
  refine s_ ?_
  refine aa_ ?_
  refine af_ ?_
  refine er_ σ ?_
  exact ⟨rfl, rfl⟩
 ·obtain ⟨hf, hbk⟩ := hc1
  have hB := hB0 hf
  have hF : BkF b := ⟨hf, hbk⟩
  have hl8 := ee_ hf
  have hrl := kH_ b t
  have hvl := fE_ (bU_ b t)
  refine ae_ ?_
  refine rr_ ?_
  iterate 2 refine s_ ?_
  refine x_ g_ va_ (ga_ hB) ?_; rintro _ _ ⟨rfl, rfl⟩
  refine s_ ?_
  refine aa_ ?_
  refine rr_ ?_
  refine s_ ?_
  refine lc_ fun o6 ho6 => ?_
  repeat (rw [ac_] at ho6; obtain ⟨_, ho6⟩ := ho6)
  refine st_ ?_
  refine aa_ ?_
  refine ab_ ?_
  refine rr_ ?_
  refine s_ ?_
  refine aa_ ?_
  refine ag_ ?_
  refine ah_ (ι := Bk × Nat) (fun ⟨nb, i⟩ => (bU_ b t).length - i) (fun ⟨nb, i⟩ => i ≤ (bU_ b t).length ∧ Rz b t nb ((bU_ b t).drop i)) (fun ⟨nb, i⟩ => [(1, vInt t), (2, .ref o2 0), (5, .sl 1 (vBs (bU_ b t)) false), (6, .ref o6 0), (7, vInt i)]) (fun ⟨nb, i⟩ => ((σ.set o2 (.cells (sBk b).cells)).set o6 (.cells (sBk nb).cells))) (b, 0) ?_ ?_ ?_ ?_
  ·exact ⟨Nat.zero_le _, rz0 hF t⟩
  ·exact cv_
  ·exact sub_
  rintro ⟨nb, i⟩ ⟨hi, hz⟩
  simp only [ak_, am_]
  refine ab_ ?_
  refine ab_ ?_
  have R := hvl
  refine r_ ?_
  iterate 4 refine s_ ?_
  refine aa_ ?_
  refine cd_ (fun hc6 => ?_) (fun hc6 => ?_)
  ·refine ae_ ?_
   refine ab_ ?_
   refine ag_ ?_
   refine ab_ ?_
   obtain ⟨rec, hx⟩ := aq_ (l := bU_ b t) (k := i) (by omega)
   have hv : (vBs (bU_ b t))[i]? = some (vStr (B rec)) := by simp [vBs, hx]
   have hsm := hz.sm hF
   rw [bh_ hx] at hz
   obtain ⟨z1, z2, z3, z4⟩ := hz.step hF
   have R := hv
   refine ap_ (.op 0 0 (.op 1 0 (.op 2 0 (.op 3 0 (.op 4 0 (.alt 5 1 (.op 6 0 (.op 7 0 (.op 8 0 (.op 9 1 (.op 10 2 (.op 11 0 .nil)))))) (.op 9 1 (.op 5 1 (.op 6 0 (.op 7 0 (.op 8 0 (.op 10 2 (.op 11 0 .nil))))))))))))) Tryz.mixed kr_ ?_
   iterate 5 refine ds_ ?_
   refine c8_ ?_ ?_
   ·refine dx_ o_ g_ va_ (dj_ hsm (by omega) z4) ?_; rintro _ _ ⟨rfl, rfl⟩; refine ⟨sub_, ?_⟩
    iterate 3 refine ds_ ?_
    refine dlc_ fun o8 ho8 => ?_
    repeat (rw [ac_] at ho8; obtain ⟨_, ho8⟩ := ho8)
    refine dst_ ?_
    refine ds_ ?_
    refine aB_ ?_
    refine ab_ ?_
    refine rr_ ?_
    iterate 2 refine s_ ?_
    refine aa_ ?_
    refine cd_ (fun hc9 => ?_) (fun hc9 => ?_)
    ·exact (hc9 z1).elim
    ·refine ae_ ?_
     refine r_ ?_
     refine s_ ?_
     refine st_ ?_
     refine aa_ ?_
     refine r_ ?_
     iterate 3 refine s_ ?_
     refine aa_ ?_
     refine aC_ (ι := Bk × Nat) (i := ⟨nb, i⟩) ((apS nb rec).1, i + 1) ?_ ?_ ?_ ?_
     ·show (bU_ b t).length - (i + 1) < (bU_ b t).length - i; omega
     ·exact ⟨by show i + 1 ≤ (bU_ b t).length; omega, z2⟩
     ·exact cv_
     ·exact sub_
   refine dlc_ fun o8 ho8 => ?_
   repeat (rw [ac_] at ho8; obtain ⟨_, ho8⟩ := ho8)
   refine dx_ o_ g_ va_ (dj_ hsm (by omega) z4) ?_; rintro _ _ ⟨rfl, rfl⟩; refine ⟨sub_, ?_⟩
   iterate 3 refine ds_ ?_
   refine dst_ ?_
   refine ds_ ?_
   refine aB_ ?_
   refine ab_ ?_
   refine rr_ ?_
   iterate 2 refine s_ ?_
   refine aa_ ?_
   refine cd_ (fun hc9 => ?_) (fun hc9 => ?_)
   ·exact (hc9 z1).elim
   ·refine ae_ ?_
    refine r_ ?_
    refine s_ ?_
    refine st_ ?_
    refine aa_ ?_
    refine r_ ?_
    iterate 3 refine s_ ?_
    refine aa_ ?_
    refine aC_ (ι := Bk × Nat) (i := ⟨nb, i⟩) ((apS nb rec).1, i + 1) ?_ ?_ ?_ ?_
    ·show (bU_ b t).length - (i + 1) < (bU_ b t).length - i; omega
    ·exact ⟨by show i + 1 ≤ (bU_ b t).length; omega, z2⟩
    ·exact cv_
    ·exact sub_
  ·refine an_ ?_
   refine ad_ ?_
   refine ad_ ?_
   refine aj_ ?_
   refine ab_ ?_
   refine ab_ ?_
   have hz' : Rz b t nb [] := by rwa [List.drop_of_length_le (by omega)] at hz
   have hzl := hz'.len
   have hover := hz'.over
   have hdone := hz'.done
   have hzs := hz'.sm hF
   have R := And.intro hvl hzl
   refine r_ ?_
   iterate 8 refine s_ ?_
   refine gf_ ?_
   refine gf_ ?_
   refine gf_ ?_
   refine gf_ ?_
   refine gf_ ?_
   refine gf_ ?_
   iterate 2 refine s_ ?_
   refine gf_ ?_
   refine gf_ ?_
   refine bt_ rfl rfl v_ rfl (fun hb => av_ (by rfl) (by rfl) (.inr ⟨by rfl, by rfl, by rfl⟩) g_ cg_ (ga_ hzs)) ?_
   rw [hover]
   refine gf_ ?_
   refine gf_ ?_
   refine s_ ?_
   refine aa_ ?_
   refine cd_ (fun hc12 => ?_) (fun hc12 => ?_)
   ·simp at hc12; omega
   ·refine ae_ ?_
    refine ab_ ?_
    refine rr_ ?_
    refine s_ ?_
    refine aa_ ?_
    refine ag_ ?_
    refine ah_ (ι := Nat) (fun j => b.items.length - j) (fun j => j ≤ b.items.length) (fun j => [(1, vInt t), (2, .ref o2 0), (6, .ref o6 0), (10, vInt j)]) (fun j => ((σ.set o2 (.cells (sBk b).cells)).set o6 (.cells (sBk nb).cells))) 0 ?_ ?_ ?_ ?_
    ·exact Nat.zero_le _
    ·exact cv_
    ·exact sub_
    rintro j hj
    simp only [ak_, am_]
    refine ab_ ?_
    refine ab_ ?_
    have R := hzl
    refine r_ ?_
    iterate 6 refine s_ ?_
    refine gt_ ?_
    refine gt_ ?_
    refine gt_ ?_
    refine gt_ ?_
    refine gt_ ?_
    refine s_ ?_
    refine aa_ ?_
    refine cd_ (fun hc15 => ?_) (fun hc15 => ?_)
    ·obtain ⟨x, hx⟩ := aq_ (l := b.items) (k := j) (by omega)
     have hy : nb.items[j]? = some (rpI t x) := by rw [hdone, List.getElem?_map, hx]; rfl
     have sx := (hB.items x (List.mem_of_getElem? hx)).obj
     have hns := sx.ns
     refine ae_ ?_
     refine ab_ ?_
     refine ag_ ?_
     refine cf_ (ι := Store × Nat × Nat) (fun ⟨S1, p11, p12⟩ => SubX [] σ S1 ∧ S1.heap o2 = some (.cells (sBk b).cells) ∧ S1.heap o6 = some (.cells (sBk nb).cells) ∧ S1.heap p11 = some (.cells (sObj x.obj).cells) ∧ S1.heap p12 = some (.cells (sObj (rpO t x.obj)).cells)) (fun ⟨S1, p11, p12⟩ => [(1, vInt t), (2, .ref o2 0), (6, .ref o6 0), (10, vInt j), (11, .ref p11 0), (12, .ref p12 0)]) (fun ⟨S1, p11, p12⟩ => S1) ?_ ?_
     ·have R := And.intro hx hy
      refine ap_ (.op 0 0 (.op 1 0 (.op 2 0 (.op 3 0 (.op 4 0 (.op 5 0 (.op 6 0 (.op 7 0 (.op 8 0 (.op 9 0 (.op 10 0 (.op 11 0 (.alt 12 1 (.op 13 1 (.op 14 1 (.op 15 2 .nil))) (.op 13 1 (.op 12 1 (.op 14 1 (.op 15 2 .nil))))))))))))))))) Tryz.mixed kr_ ?_
      iterate 12 refine ds_ ?_
      refine c8_ ?_ ?_
      ·refine dlc_ fun o11 ho11 => ?_
       repeat (rw [ac_] at ho11; obtain ⟨_, ho11⟩ := ho11)
       refine dlc_ fun o12 ho12 => ?_
       repeat (rw [ac_] at ho12; obtain ⟨_, ho12⟩ := ho12)
       refine u1_ o_ (by rfl) (by rfl) (e0_ (by rfl) v_ v_ h_ g_ rfl g_ c_ (by rfl) le_ v_ ⟨sub_, ?_⟩)
       refine dst_ ?_
       refine aB_ ?_
       skip
       refine q_gn fun S1 hS => ?_
       have f2 : S1.heap o2 = some (.cells (sBk b).cells) := by rw [hS]; simp (disch := omega) only [Store.set_ne, Store.set_get]
       have f6 : S1.heap o6 = some (.cells (sBk nb).cells) := by rw [hS]; simp (disch := omega) only [Store.set_ne, Store.set_get]
       have f11 : S1.heap o11 = some (.cells (sObj x.obj).cells) := by rw [hS]; simp (disch := omega) only [Store.set_ne, Store.set_get]; rfl
       have f12 : S1.heap o12 = some (.cells (sObj (rpO t x.obj)).cells) := by rw [hS]; simp (disch := omega) only [Store.set_ne, Store.set_get]; rfl
       have hX : SubX [] σ S1 := by rw [hS]; repeat (first | exact aX_ | refine ar_ (by assumption) ?_)
       clear hS
       refine ⟨(S1, o11, o12), ?_, ?_, ?_⟩
       ·exact ⟨hX, f2, f6, f11, f12⟩
       ·exact cv_
       ·exact Store.Wk.refl _
      refine dlc_ fun o12 ho12 => ?_
      repeat (rw [ac_] at ho12; obtain ⟨_, ho12⟩ := ho12)
      refine dlc_ fun o11 ho11 => ?_
      repeat (rw [ac_] at ho11; obtain ⟨_, ho11⟩ := ho11)
      refine u1_ o_ (by rfl) (by rfl) (e0_ (by rfl) v_ v_ h_ g_ rfl g_ c_ (by rfl) le_ v_ ⟨sub_, ?_⟩)
      refine dst_ ?_
      refine aB_ ?_
      skip
      refine q_gn fun S1 hS => ?_
      have f2 : S1.heap o2 = some (.cells (sBk b).cells) := by rw [hS]; simp (disch := omega) only [Store.set_ne, Store.set_get]
      have f6 : S1.heap o6 = some (.cells (sBk nb).cells) := by rw [hS]; simp (disch := omega) only [Store.set_ne, Store.set_get]
      have f11 : S1.heap o11 = some (.cells (sObj x.obj).cells) := by rw [hS]; simp (disch := omega) only [Store.set_ne, Store.set_get]; rfl
      have f12 : S1.heap o12 = some (.cells (sObj (rpO t x.obj)).cells) := by rw [hS]; simp (disch := omega) only [Store.set_ne, Store.set_get]; rfl
      have hX : SubX [] σ S1 := by rw [hS]; repeat (first | exact aX_ | refine ar_ (by assumption) ?_)
      clear hS
      refine ⟨(S1, o11, o12), ?_, ?_, ?_⟩
      ·exact ⟨hX, f2, f6, f11, f12⟩
      ·exact cv_
      ·exact Store.Wk.refl _
     ·rintro ⟨S1, p11, p12⟩ ⟨hX, f2, f6, f11, f12⟩
      simp only [ak_, am_]
      refine rr_ ?_
      refine s_ ?_
      refine aa_ ?_
      refine ab_ ?_
      refine rr_ ?_
      refine s_ ?_
      refine aa_ ?_
      refine ag_ ?_
      refine ah_ (ι := Nat) (fun k => x.obj.sibs.length - k) (fun k => k ≤ x.obj.sibs.length) (fun k => [(1, vInt t), (2, .ref o2 0), (6, .ref o6 0), (10, vInt j), (11, .ref p11 0), (12, .ref p12 0), (13, vInt (((x.obj.sibs.take k).filter (oldS t)).length : Nat)), (14, vInt k)]) (fun k => S1) 0 ?_ ?_ ?_ ?_
      ·exact Nat.zero_le _
      ·exact cv_
      ·exact Store.Wk.refl _
      rintro k hk
      simp only [ak_, am_]
      refine ab_ ?_
      refine ab_ ?_
      have R := f11
      refine r_ ?_
      iterate 5 refine s_ ?_
      refine aa_ ?_
      refine cd_ (fun hc20 => ?_) (fun hc20 => ?_)
      ·refine ae_ ?_
       refine ab_ ?_
       refine ag_ ?_
       refine ab_ ?_
       refine ab_ ?_
       obtain ⟨y, hyk⟩ := aq_ (l := x.obj.sibs) (k := k) (by omega)
       have hfk : ((x.obj.sibs.take k).filter (oldS t)).length ≤ k := Nat.le_trans (List.length_filter_le ..) (by rw [List.length_take]; omega)
       have R := And.intro f11 hyk
       refine r_ ?_
       iterate 7 refine s_ ?_
       refine gt_ ?_
       refine gt_ ?_
       refine gt_ ?_
       refine gt_ ?_
       refine gt_ ?_
       refine gt_ ?_
       refine gt_ ?_
       refine gt_ ?_
       refine s_ ?_
       refine aa_ ?_
       refine cd_ (fun hc22 => ?_) (fun hc22 => ?_)
       ·have ho : oldS t y = true := by simpa [oldS] using hc22
        have hcv := o3_ hyk ho
        refine rr_ ?_
        iterate 3 refine s_ ?_
        refine aa_ ?_
        refine an_ ?_
        refine ad_ ?_
        refine aj_ ?_
        refine r_ ?_
        iterate 3 refine s_ ?_
        refine aa_ ?_
        refine aC_ (ι := Nat) (i := k) (k + 1) ?_ ?_ ?_ ?_
        ·omega
        ·show k + 1 ≤ x.obj.sibs.length; omega
        ·have R := hcv; exact cv_
        ·exact Store.Wk.refl _
       ·have ho : oldS t y = false := by rcases hc22 with h | h; simp [oldS, h]; simp [oldS, Int.not_lt.2 h]
        have hcv := o2_ hyk ho
        have hat := ti_ (p := fun s => !oldS t s) hyk (by simp [ho])
        have hcn := fS_ (p := oldS t) (x.obj.sibs.take k)
        rw [List.length_take] at hcn
        obtain ⟨m, hm⟩ : ∃ m, ((x.obj.sibs.take k).filter fun s => !oldS t s).length = m := ⟨_, rfl⟩
        rw [hm] at hat hcn
        have hml := Nat.lt_of_lt_of_le (List.getElem?_eq_some_iff.1 hat).1 (List.length_filter_le ..)
        replace hat : (rpO t x.obj).sibs[m]? = some y := hat
        have hms := (List.getElem?_eq_some_iff.1 hat).1
        have hkn : (k : Int) - (((x.obj.sibs.take k).filter (oldS t)).length : Nat) = (m : Nat) := by omega
        refine ae_ ?_
        refine ab_ ?_
        have R := And.intro f11 (And.intro f12 (And.intro hyk (And.intro hkn hat)))
        refine ap_ (.op 0 0 (.op 1 0 (.op 2 0 (.op 3 0 (.op 4 0 (.op 5 0 (.op 6 0 (.op 7 0 (.op 8 0 (.op 9 0 (.op 10 0 (.op 11 0 (.op 12 0 (.op 13 0 (.op 14 0 (.op 15 0 (.op 16 0 (.op 17 0 (.op 18 0 (.op 19 0 (.op 20 0 (.op 21 0 .nil)))))))))))))))))))))) Tryz.mixed kr_ ?_
        iterate 8 refine ds_ ?_
        refine dgf_ ?_
        refine dgf_ ?_
        refine dgf_ ?_
        refine dgf_ ?_
        refine dgf_ ?_
        refine dgf_ ?_
        refine dgf_ ?_
        refine dgf_ ?_
        refine dgf_ ?_
        refine dgf_ ?_
        refine dgf_ ?_
        refine dgf_ ?_
        refine dgf_ ?_
        refine ds_ ?_
        refine aB_ ?_
        refine cd_ (fun hc24 => ?_) (fun hc24 => ?_)
        ·simp at hc24; omega
        ·refine ae_ ?_
         refine r_ ?_
         iterate 3 refine s_ ?_
         refine aa_ ?_
         refine aC_ (ι := Nat) (i := k) (k + 1) ?_ ?_ ?_ ?_
         ·omega
         ·show k + 1 ≤ x.obj.sibs.length; omega
         ·have R := hcv; exact cv_
         ·exact Store.Wk.refl _
      ·refine an_ ?_
       refine ad_ ?_
       refine ad_ ?_
       refine aj_ ?_
       refine ab_ ?_
       obtain rfl : k = x.obj.sibs.length := by omega
       rw [List.take_length]
       have hcn := fS_ (p := oldS t) x.obj.sibs
       have hrl2 : (rpO t x.obj).sibs.length = (x.obj.sibs.filter fun s => !oldS t s).length := rfl
       have R := And.intro f11 f12
       refine r_ ?_
       iterate 4 refine s_ ?_
       refine x_ g_ va_ (rP_ sx.ctx sx.ctx (by have := sx.nc; omega) (by have := sx.nc; omega)) ?_; rintro _ _ ⟨rfl, rfl⟩
       iterate 2 refine s_ ?_
       refine gf_ ?_
       refine gf_ ?_
       refine gf_ ?_
       refine gf_ ?_
       refine gf_ ?_
       refine gf_ ?_
       refine gf_ ?_
       refine gf_ ?_
       refine gf_ ?_
       refine s_ ?_
       refine aa_ ?_
       refine cd_ (fun hc26 => ?_) (fun hc26 => ?_)
       ·omega
       ·refine ae_ ?_
        refine r_ ?_
        iterate 3 refine s_ ?_
        refine aa_ ?_
        refine aC_ (ι := Nat) (i := j) (j + 1) ?_ ?_ ?_ ?_
        ·omega
        ·show j + 1 ≤ b.items.length; omega
        ·exact cv_
        ·exact ug_ hX f2 f6
    ·refine an_ ?_
     refine ad_ ?_
     refine ad_ ?_
     refine aj_ ?_
     refine rr_ ?_
     refine x_ g_ va_ (cu_) ?_; rintro _ _ ⟨rfl, rfl⟩
     refine s_ ?_
     refine aa_ ?_
     refine af_ ?_
     refine er_ σ ?_
     exact ⟨rfl, rfl⟩
end Go.Proofs.YtcaflcpcbcneiaaGreat
end
