/-
  The library's stable sort: the walk of the whole; Claims: shares; Claims: shares, the walk; Claims: how partitions are shared out, in plain Lean; Claims: the reference's Shares and Even; Claims: the reference's Even; Claims: the program's shares as the plain ones; which one is the queue's first; Claims: the program's Even; What an administrator does, plainly; What an administrator does: the small parts, the program; Entries that are set one behind the other: the program; The entries by which an administrator does anything: the program. Own work (an AI agent).
-/
import Derived.Test.YtkcmbjodladflaaGreatDoorGI
import Derived.Test.YtkcmbjodladflaaGreatDoorGH

section
set_option linter.all false
set_option maxRecDepth 100000
namespace Go.Proofs.YtkcmbjodladflaaGreatDoor
open Go.Ab
theorem lt_ {D : List Sh} (h : D.Pairwise fun x y => x.pl < y.pl) : (cE_ D D.length).Perm D ∧ (cE_ D D.length).Pairwise ahd := by
 obtain ⟨S, h1, h2, h3⟩ := eW_ D h D.length (Nat.le_refl _)
 rw [List.drop_length, List.append_nil] at h1
 rw [List.take_length] at h2
 rw [h1]; exact ⟨h2, h3⟩
theorem OkQ.eq {σ : Store} {o : Nat} {Z Z' : List Sh} (h : OkQ σ o Z) (e : Z = Z') : OkQ σ o Z' := e ▸ h
theorem mi_ {bs q : Nat} {L Z : List Sh} (h : Seg bs L Z) : ((Z.drop (q * (2 * bs))).take bs).Perm ((L.drop (q * (2 * bs))).take bs) ∧ ((Z.drop (q * (2 * bs))).take bs).Pairwise ahd ∧ ((Z.drop (q * (2 * bs) + bs)).take bs).Perm ((L.drop (q * (2 * bs) + bs)).take bs) ∧ ((Z.drop (q * (2 * bs) + bs)).take bs).Pairwise ahd := by
 have h1 := h.at_ (2 * q)
 have h2 := h.at_ (2 * q + 1)
 rw [show 2 * q * bs = q * (2 * bs) from by rw [Nat.mul_comm 2 q, Nat.mul_assoc]] at h1
 rw [Nat.succ_mul, show 2 * q * bs = q * (2 * bs) from by rw [Nat.mul_comm 2 q, Nat.mul_assoc]] at h2
 exact ⟨h1.1, h1.2, h2.1, h2.2⟩
set_option maxHeartbeats 4000000 in
theorem og_ {o : Nat} {L : List Sh} {σ : Store} (h : OkQ σ o L) (hpl : L.Pairwise fun x y => x.pl < y.pl) :
  ao_ Tryz.prog 196 [.msl o 1 0 L.length, vInt L.length, cmpF] σ fun v σ' => v = .tup [] ∧ ∃ S, S.Perm L ∧ S.Pairwise ahd ∧ σ' = σ.set o (shQ S) := by
 have hl := h.l
 obtain ⟨n, hn⟩ : ∃ n, L.length = n := ⟨_, rfl⟩
 rw [hn] at hl ⊢
 refine aj_ Tryz.func196 rfl Tryz.ntmps196 (congrArg Array.toList Tryz.results196) (by simp only [List.length_cons, List.length_nil]; decide) ?_; simp only [af_, ak_, Nat.reduceAdd]
 refine ab_ ?_
 refine aa_ kr_ ?_
 (refine aL_S rfl rfl v_ ?_)
 refine ac_ ?_
 refine ab_ ?_
 refine aa_ kr_ ?_
 iterate 3 (refine aL_S rfl rfl v_ ?_)
 refine ac_ ?_
 refine ab_ ?_
 refine al_ ?_
 refine ap_ (ι := Nat × List Sh) (fun ⟨q, D⟩ => n - q * 20) (fun ⟨q, D⟩ => q * 20 ≤ n ∧ Seg 20 (L.take (q * 20)) D) (fun ⟨q, D⟩ => [(0, .msl o 1 0 n), (1, vInt n), (2, cmpF), (6, vInt 20), (7, vInt (q * 20 : Nat)), (8, vInt (q * 20 + 20 : Nat))]) (fun ⟨q, D⟩ => (σ.set o (shQ (D ++ L.drop (q * 20))))) (0, []) ?_ ?_ ?_ ?_
 ·exact ⟨Nat.zero_le _, Seg.nil 20⟩
 ·exact cv_
 ·show (σ.set o (shQ L)).Wk σ; rw [Store.set_self h.q]; exact Store.Wk.refl _
 rintro ⟨q, D⟩ ⟨g1, g2⟩
 simp only [ar_, au_]
 refine ab_ ?_
 refine ab_ ?_
 refine aa_ kr_ ?_
 iterate 3 (refine aL_S rfl rfl v_ ?_)
 refine ac_ ?_
 refine ad_ v_ (fun hc2 => ?_) (fun hc2 => ?_)
 ·replace hc2 := nm_ hc2
  refine ah_ ?_
  refine al_ ?_
  refine ab_ ?_
  have hDl : D.length = q * 20 := by rw [g2.len, List.length_take]; omega
  have hpD : (D ++ L.drop (q * 20)).Perm L := by
   conv => rhs; rw [← List.take_append_drop (q * 20) L]
   exact List.Perm.append_right _ (g2.perm (by decide))
  have hO := h.set hpD
  have hsp : D ++ L.drop (q * 20) = D ++ ((L.drop (q * 20)).take 20 ++ L.drop (q * 20 + 20)) := by rw [← List.drop_drop, List.take_append_drop]
  have hl20 : ((L.drop (q * 20)).take 20).length = 20 := by rw [List.length_take, List.length_drop]; omega
  obtain ⟨i1, i2⟩ := lt_ (hpl.sublist ((List.take_sublist 20 _).trans (List.drop_sublist (q * 20) L)))
  have hsn : Seg 20 (L.take ((q + 1) * 20)) (D ++ cE_ ((L.drop (q * 20)).take 20) ((L.drop (q * 20)).take 20).length) := by
   rw [Nat.succ_mul, List.take_add]
   exact g2.snoc (q := q) (by rw [List.length_take]; omega) (by omega) i1 i2
  have hso : (D ++ cE_ ((L.drop (q * 20)).take 20) ((L.drop (q * 20)).take 20).length) ++ L.drop ((q + 1) * 20) = D ++ (cE_ ((L.drop (q * 20)).take 20) ((L.drop (q * 20)).take 20).length ++ L.drop (q * 20 + 20)) := by rw [List.append_assoc, Nat.succ_mul]
  have hq1 : (((q + 1) * 20 : Nat) : Int) = ((q * 20 + 20 : Nat) : Int) := by omega
  have hq2 : (((q + 1) * 20 + 20 : Nat) : Int) = ((q * 20 + 20 : Nat) : Int) + 20 := by omega
  refine aa_ kr_ ?_
  iterate 4 (refine aL_S rfl rfl v_ ?_)
  refine aL_X rfl rfl (ae_ rfl rfl (.inr ⟨rfl, rfl, rfl⟩) g_ va_ (jb_ (P := D) (D := (L.drop (q * 20)).take 20) (S := L.drop (q * 20 + 20)) (hO.eq hsp) hDl.symm (by omega) (by rw [← hsp, hpD.length_eq]; exact hn.symm)) ?_); rintro _ _ ⟨rfl, rfl⟩
  refine ac_ ?_
  refine ab_ ?_
  refine aa_ kr_ ?_
  iterate 2 (refine aL_S rfl rfl v_ ?_)
  refine ac_ ?_
  refine aa_ kr_ ?_
  iterate 4 (refine aL_S rfl rfl v_ ?_)
  refine ac_ ?_
  refine aJ_ (ι := Nat × List Sh) (i := ⟨q, D⟩) (q + 1, D ++ cE_ ((L.drop (q * 20)).take 20) ((L.drop (q * 20)).take 20).length) ?_ ?_ ?_ ?_
  ·show n - (q + 1) * 20 < n - q * 20; omega
  ·exact ⟨by show (q + 1) * 20 ≤ n; omega, hsn⟩
  ·have R := And.intro hq1 hq2; exact cv_
  ·rw [Store.set_set, hso]; exact Store.Wk.refl _
 ·replace hc2 := nm_ hc2
  refine ax_ ?_
  refine ag_ ?_
  refine ag_ ?_
  refine aq_ ?_
  refine ab_ ?_
  have hDl : D.length = q * 20 := by rw [g2.len, List.length_take]; omega
  have hpD : (D ++ L.drop (q * 20)).Perm L := by
   conv => rhs; rw [← List.take_append_drop (q * 20) L]
   exact List.Perm.append_right _ (g2.perm (by decide))
  have hO := h.set hpD
  have hdl : (L.drop (q * 20)).length = n - q * 20 := by rw [List.length_drop, hn]
  obtain ⟨i1, i2⟩ := lt_ (hpl.sublist (List.drop_sublist (q * 20) L))
  obtain ⟨Z0, hZ0⟩ : ∃ Z0, D ++ cE_ (L.drop (q * 20)) (L.drop (q * 20)).length = Z0 := ⟨_, rfl⟩
  have hS0 : Seg 20 L Z0 := by
   have := g2.snoc (q := q) (l := L.drop (q * 20)) (m := cE_ (L.drop (q * 20)) (L.drop (q * 20)).length) (by rw [List.length_take]; omega) (by omega) i1 i2
   rwa [List.take_append_drop, hZ0] at this
  refine aa_ kr_ ?_
  iterate 4 (refine aL_S rfl rfl v_ ?_)
  refine aL_X rfl rfl (ae_ rfl rfl (.inr ⟨rfl, rfl, rfl⟩) g_ va_ (jb_ (P := D) (D := L.drop (q * 20)) (S := []) (by rw [List.append_nil]; exact hO) hDl.symm (by omega) (by rw [List.append_nil, hpD.length_eq]; exact hn.symm)) ?_); rintro _ _ ⟨rfl, rfl⟩
  refine ac_ ?_
  rw [List.append_nil, hZ0, Store.set_set]
  refine al_ ?_
  refine ap_ (ι := Nat × List Sh) (fun ⟨bs, Z⟩ => n - bs) (fun ⟨bs, Z⟩ => 20 ≤ bs ∧ bs ≤ 2 * (n + 20) ∧ Seg bs L Z) (fun ⟨bs, Z⟩ => [(0, .msl o 1 0 n), (1, vInt n), (2, cmpF), (6, vInt bs)]) (fun ⟨bs, Z⟩ => (σ.set o (shQ Z))) (20, Z0) ?_ ?_ ?_ ?_
  ·exact ⟨Nat.le_refl _, by show 20 ≤ 2 * (n + 20); omega, hS0⟩
  ·exact cv_
  ·exact Store.Wk.refl _
  rintro ⟨bs, Z⟩ ⟨g1, g0, g2⟩
  simp only [ar_, au_]
  refine ab_ ?_
  refine ab_ ?_
  refine aa_ kr_ ?_
  iterate 3 (refine aL_S rfl rfl v_ ?_)
  refine ac_ ?_
  refine ad_ v_ (fun hc7 => ?_) (fun hc7 => ?_)
  ·replace hc7 := nm_ hc7
   refine ah_ ?_
   refine al_ ?_
   refine ab_ ?_
   have hb2 : ((2 * bs : Nat) : Int) = (bs : Int) * 2 := by omega
   have hz1 : ((0 * (2 * bs) : Nat) : Int) = 0 := by rw [Nat.zero_mul]; rfl
   have hz2 : ((0 * (2 * bs) + 2 * bs : Nat) : Int) = 2 * (bs : Int) := by rw [Nat.zero_mul]; omega
   refine aa_ kr_ ?_
   iterate 4 (refine aL_S rfl rfl v_ ?_)
   refine ac_ ?_
   refine ab_ ?_
   refine al_ ?_
   refine ap_ (ι := Nat × List Sh) (fun ⟨q, D⟩ => n - q * (2 * bs)) (fun ⟨q, D⟩ => q * (2 * bs) ≤ n ∧ Seg (2 * bs) (L.take (q * (2 * bs))) D) (fun ⟨q, D⟩ => [(0, .msl o 1 0 n), (1, vInt n), (2, cmpF), (6, vInt bs), (7, vInt (q * (2 * bs) : Nat)), (8, vInt (q * (2 * bs) + 2 * bs : Nat))]) (fun ⟨q, D⟩ => (σ.set o (shQ (D ++ Z.drop (q * (2 * bs)))))) (0, []) ?_ ?_ ?_ ?_
   ·exact ⟨by rw [Nat.zero_mul]; exact Nat.zero_le _, by show Seg (2 * bs) (L.take (0 * (2 * bs))) []; rw [Nat.zero_mul]; exact Seg.nil _⟩
   ·have R := And.intro hz1 hz2; exact cv_
   ·show (σ.set o (shQ ([] ++ Z.drop (0 * (2 * bs))))).Wk (σ.set o (shQ Z)); rw [Nat.zero_mul]; exact Store.Wk.refl _
   rintro ⟨q, D⟩ ⟨f1, f2⟩
   simp only [ar_, au_]
   refine ab_ ?_
   refine ab_ ?_
   refine aa_ kr_ ?_
   iterate 3 (refine aL_S rfl rfl v_ ?_)
   refine ac_ ?_
   refine ad_ v_ (fun hc9 => ?_) (fun hc9 => ?_)
   ·replace hc9 := nm_ hc9
    refine ah_ ?_
    refine al_ ?_
    refine ab_ ?_
    obtain ⟨a, ha⟩ : ∃ a, q * (2 * bs) = a := ⟨_, rfl⟩
    obtain ⟨t1, t2, t3, t4⟩ := mi_ (q := q) g2
    rw [ha] at f1 f2 t1 t2 t3 t4 hc9
    have hDl : D.length = a := by rw [f2.len, List.length_take]; omega
    have hZl : Z.length = n := g2.len.trans hn
    have hZp := g2.perm (show 0 < bs by omega)
    have hpk : (Z.take a).Perm (L.take a) := by
     have hx : ∀ k, (Z.take (k * bs)).Perm (L.take (k * bs)) := by
      intro k
      induction k with
      |zero => simp
      |succ k ihk => rw [Nat.succ_mul, List.take_add, List.take_add]; exact ihk.append (g2.at_ k).1
     have := hx (2 * q)
     rwa [show 2 * q * bs = a from by rw [← ha, Nat.mul_comm 2 q, Nat.mul_assoc]] at this
    have hpD : (D ++ Z.drop a).Perm L := by
     refine List.Perm.trans ?_ hZp
     conv => rhs; rw [← List.take_append_drop a Z]
     exact List.Perm.append_right _ ((f2.perm (by omega)).trans hpk.symm)
    have hO := h.set hpD
    have hsp : D ++ Z.drop a = D ++ ((Z.drop a).take bs ++ ((Z.drop (a + bs)).take bs ++ Z.drop (a + 2 * bs))) := by
     rw [show a + 2 * bs = (a + bs) + bs by omega, ← List.drop_drop (i := bs) (j := a + bs), List.take_append_drop, ← List.drop_drop, List.take_append_drop]
    have lA : ((Z.drop a).take bs).length = bs := by rw [List.length_take, List.length_drop]; omega
    have lB : ((Z.drop (a + bs)).take bs).length = bs := by rw [List.length_take, List.length_drop]; omega
    have hcr : ∀ x ∈ (Z.drop a).take bs, ∀ y ∈ (Z.drop (a + bs)).take bs, x.pl < y.pl := fun x hx y hy => jx_ hpl x (nK_ t1 hx) y (nK_ t3 hy)
    have hbb : (a : Int) + bs = ((a + bs : Nat) : Int) := by omega
    have hqm : (q + 1) * (2 * bs) = q * (2 * bs) + 2 * bs := Nat.succ_mul ..
    rw [ha] at hqm
    have hsnA : ∀ M1 : List Sh, M1.Perm ((Z.drop a).take bs ++ (Z.drop (a + bs)).take bs) → M1.Pairwise ahd → Seg (2 * bs) (L.take ((q + 1) * (2 * bs))) (D ++ M1) := fun M1 m1 m2 => by
     rw [hqm, List.take_add]
     refine f2.snoc (q := q) (by rw [List.length_take]; omega) (by rw [List.length_take]; omega) (m1.trans ?_) m2
     have e := List.take_add (l := L.drop a) (i := bs) (j := bs)
     rw [show bs + bs = 2 * bs by omega, List.drop_drop] at e
     rw [e]
     exact t1.append t3
    have hsoA : ∀ M1 : List Sh, (D ++ M1) ++ Z.drop ((q + 1) * (2 * bs)) = D ++ (M1 ++ Z.drop (a + 2 * bs)) := fun M1 => by rw [List.append_assoc, hqm]
    have hq1 : (((q + 1) * (2 * bs) : Nat) : Int) = ((a + 2 * bs : Nat) : Int) := by rw [hqm]
    have hq2 : (((q + 1) * (2 * bs) + 2 * bs : Nat) : Int) = ((a + 2 * bs : Nat) : Int) + 2 * (bs : Int) := by rw [hqm]; omega
    subst ha
    have R := hbb
    refine aa_ kr_ ?_
    iterate 7 (refine aL_S rfl rfl v_ ?_)
    refine aL_X rfl rfl (ae_ rfl rfl (.inr ⟨rfl, rfl, rfl⟩) g_ va_ (my_ (bs + bs) (P := D) (A := (Z.drop (q * (2 * bs))).take bs) (B := (Z.drop (q * (2 * bs) + bs)).take bs) (S := Z.drop (q * (2 * bs) + 2 * bs)) (m := q * (2 * bs) + bs) (b := q * (2 * bs) + 2 * bs) (by omega) (hO.eq hsp) hDl.symm (by omega) (by omega) (by rw [← hsp, hpD.length_eq]; exact hn.symm) (by omega) (by omega) t2 t4 hcr) ?_); rintro _ σ1 ⟨rfl, M1, m1, m2, rfl⟩
    refine ac_ ?_
    have hsn := hsnA M1 m1 m2
    have hso := hsoA M1
    refine ab_ ?_
    refine aa_ kr_ ?_
    iterate 2 (refine aL_S rfl rfl v_ ?_)
    refine ac_ ?_
    refine aa_ kr_ ?_
    iterate 5 (refine aL_S rfl rfl v_ ?_)
    refine ac_ ?_
    refine aJ_ (ι := Nat × List Sh) (i := ⟨q, D⟩) (q + 1, D ++ M1) ?_ ?_ ?_ ?_
    ·show n - (q + 1) * (2 * bs) < n - q * (2 * bs); rw [Nat.succ_mul]; omega
    ·exact ⟨by show (q + 1) * (2 * bs) ≤ n; rw [Nat.succ_mul]; omega, hsn⟩
    ·have R := And.intro hq1 hq2; exact cv_
    ·rw [Store.set_set, hso]; exact Store.Wk.refl _
   ·replace hc9 := nm_ hc9
    refine ax_ ?_
    refine ag_ ?_
    refine ag_ ?_
    refine aq_ ?_
    refine ab_ ?_
    refine ab_ ?_
    obtain ⟨a, ha⟩ : ∃ a, q * (2 * bs) = a := ⟨_, rfl⟩
    obtain ⟨t1, t2, t3, t4⟩ := mi_ (q := q) g2
    have hpk : (Z.take (q * (2 * bs))).Perm (L.take (q * (2 * bs))) := by
     have hx : ∀ k, (Z.take (k * bs)).Perm (L.take (k * bs)) := by
      intro k
      induction k with
      |zero => simp
      |succ k ihk => rw [Nat.succ_mul, List.take_add, List.take_add]; exact ihk.append (g2.at_ k).1
     have := hx (2 * q)
     rwa [show 2 * q * bs = q * (2 * bs) from by rw [Nat.mul_comm 2 q, Nat.mul_assoc]] at this
    rw [ha] at f1 f2 t1 t2 t3 t4 hc9 hpk ⊢
    have hDl : D.length = a := by rw [f2.len, List.length_take]; omega
    have hZl : Z.length = n := g2.len.trans hn
    have hZp := g2.perm (show 0 < bs by omega)
    have hpD : (D ++ Z.drop a).Perm L := by
     refine List.Perm.trans ?_ hZp
     conv => rhs; rw [← List.take_append_drop a Z]
     exact List.Perm.append_right _ ((f2.perm (by omega)).trans hpk.symm)
    have hO := h.set hpD
    have hbb : (a : Int) + bs = ((a + bs : Nat) : Int) := by omega
    have hrB : (Z.drop (a + bs)).take bs = Z.drop (a + bs) := List.take_of_length_le (by rw [List.length_drop]; omega)
    have hrL : (L.drop (a + bs)).take bs = L.drop (a + bs) := List.take_of_length_le (by rw [List.length_drop]; omega)
    rw [hrB, hrL] at t3
    rw [hrB] at t4
    have hsp : D ++ Z.drop a = D ++ ((Z.drop a).take bs ++ (Z.drop (a + bs) ++ [])) := by rw [List.append_nil, ← List.drop_drop, List.take_append_drop]
    have hcr : ∀ x ∈ (Z.drop a).take bs, ∀ y ∈ Z.drop (a + bs), x.pl < y.pl := fun x hx y hy => by
     have := jx_ (c := bs) hpl x (nK_ t1 hx) y
     rw [hrL] at this
     exact this (nK_ t3 hy)
    have hdL : L.drop a = (L.drop a).take bs ++ L.drop (a + bs) := by rw [← List.drop_drop, List.take_append_drop]
    have hfin : ∀ m : List Sh, m.Perm (L.drop a) → m.Pairwise ahd → Seg (2 * bs) L (D ++ m) := fun m p1 p2 => by
     have := f2.snoc (q := q) (by rw [List.length_take]; omega) (by rw [List.length_drop]; omega) p1 p2
     rwa [List.take_append_drop] at this
    have R := hbb
    refine aa_ kr_ ?_
    iterate 4 (refine aL_S rfl rfl v_ ?_)
    refine ac_ ?_
    refine ab_ ?_
    refine aa_ kr_ ?_
    iterate 3 (refine aL_S rfl rfl v_ ?_)
    refine ac_ ?_
    refine ad_ v_ (fun hc14 => ?_) (fun hc14 => ?_)
    ·replace hc14 := nm_ hc14
     have lA : ((Z.drop a).take bs).length = bs := by rw [List.length_take, List.length_drop]; omega
     have lB : (Z.drop (a + bs)).length = n - (a + bs) := by rw [List.length_drop]; omega
     refine aa_ kr_ ?_
     iterate 5 (refine aL_S rfl rfl v_ ?_)
     refine aL_X rfl rfl (ae_ rfl rfl (.inr ⟨rfl, rfl, rfl⟩) g_ va_ (my_ n (P := D) (A := (Z.drop a).take bs) (B := Z.drop (a + bs)) (S := []) (m := a + bs) (b := n) (by omega) (hO.eq hsp) hDl.symm (by omega) (by omega) (by rw [← hsp, hpD.length_eq]; exact hn.symm) (by omega) (by omega) t2 t4 hcr) ?_); rintro _ σ2 ⟨rfl, M2, m1, m2, rfl⟩
     refine ac_ ?_
     rw [List.append_nil]
     have hsg1 : Seg (2 * bs) L (D ++ M2) := hfin M2 (m1.trans (by rw [hdL]; exact t1.append t3)) m2
     refine aa_ kr_ ?_
     iterate 3 (refine aL_S rfl rfl v_ ?_)
     refine ac_ ?_
     refine aJ_ (ι := Nat × List Sh) (i := ⟨bs, Z⟩) (2 * bs, D ++ M2) ?_ ?_ ?_ ?_
     ·show n - 2 * bs < n - bs; omega
     ·exact ⟨by show 20 ≤ 2 * bs; omega, by show 2 * bs ≤ 2 * (n + 20); omega, hsg1⟩
     ·have R := hb2; exact cv_
     ·rw [Store.set_set]; exact Store.Wk.refl _
    ·replace hc14 := nm_ hc14
     skip
     have hsg2 : Seg (2 * bs) L (D ++ Z.drop (q * (2 * bs))) := by
      rw [ha]
      have e1 : (Z.drop a).take bs = Z.drop a := List.take_of_length_le (by rw [List.length_drop]; omega)
      have e2 : (L.drop a).take bs = L.drop a := List.take_of_length_le (by rw [List.length_drop]; omega)
      rw [e1, e2] at t1
      rw [e1] at t2
      exact hfin _ t1 t2
     rw [← ha]
     refine ah_ ?_
     refine aa_ kr_ ?_
     iterate 3 (refine aL_S rfl rfl v_ ?_)
     refine ac_ ?_
     refine aJ_ (ι := Nat × List Sh) (i := ⟨bs, Z⟩) (2 * bs, D ++ Z.drop (q * (2 * bs))) ?_ ?_ ?_ ?_
     ·show n - 2 * bs < n - bs; omega
     ·exact ⟨by show 20 ≤ 2 * bs; omega, by show 2 * bs ≤ 2 * (n + 20); omega, hsg2⟩
     ·have R := hb2; exact cv_
     ·exact Store.Wk.refl _
  ·replace hc7 := nm_ hc7
   refine ax_ ?_
   refine ag_ ?_
   refine ag_ ?_
   refine aq_ ?_
   obtain ⟨p1, p2⟩ := g2.all (by omega)
   exact aP_ (σ' := σ.set o (shQ Z)) va_ (Store.Wk.refl _) ⟨rfl, Z, p1, p2, rfl⟩
theorem h3_ {o : Nat} {L : List Sh} {σ : Store} (h : OkQ σ o L) (hpl : L.Pairwise fun x y => x.pl < y.pl) :
  ao_ Tryz.prog 154 [.msl o 1 0 L.length, cmpF] σ fun v σ' => v = .tup [] ∧ ∃ S, S.Perm L ∧ S.Pairwise ahd ∧ σ' = σ.set o (shQ S) := by
 refine aj_ Tryz.func154 rfl Tryz.ntmps154 (congrArg Array.toList Tryz.results154) (by simp only [List.length_cons, List.length_nil]; decide) ?_; simp only [af_, ak_, Nat.reduceAdd]
 refine aa_ kr_ ?_
 iterate 4 (refine aL_S rfl rfl v_ ?_)
 refine aL_X rfl rfl (ae_ rfl rfl (.inr ⟨rfl, rfl, rfl⟩) g_ va_ (og_ h hpl) ?_); rintro _ σ1 ⟨rfl, S, p1, p2, rfl⟩
 refine ac_ ?_
 refine aP_ v_ (Store.Wk.refl _) ?_
 exact ⟨rfl, S, p1, p2, rfl⟩
end Go.Proofs.YtkcmbjodladflaaGreatDoor
end

section
set_option linter.all false
set_option maxRecDepth 100000
namespace Go.Proofs.YtkcmbjodladflaaGreatDoor
open Go.Ab
open Go.MapKept (IsKey)
theorem ln_ (L : List Sh) : flat (L.map fun x => AVal.ref x.o 0) = L.map fun x => AVal.ref x.o 0 := by
 induction L with
 |nil => rfl
 |cons x l ih => rw [List.map_cons, bu_, ih]; rfl
theorem pn_ {L : List Sh} {σ : Store} {a : AVal} (ha : Wk a (.sl 1 (L.map fun x => .ref x.o 0) false)) (hl : L.length ≤ 1000) (h0 : 0 < L.length) : ao_ Tryz.prog 153 [a] σ fun v σ' => ∃ o, σ.heap o = none ∧ v = .msl o 1 0 L.length ∧ σ' = σ.set o (shQ L) := by
 have hne : L.map (fun x => AVal.ref x.o 0) ≠ [] := by
  intro h
  have := congrArg List.length h
  simp at this
  rw [this] at h0
  exact absurd h0 (by decide)
 refine ao_.wk (args' := [.sl 1 (L.map fun x => .ref x.o 0) false]) ?_ rfl (fun i hi hj => by match i, hi with | 0, _ => exact ha)
 refine aj_ Tryz.func153 rfl Tryz.ntmps153 (congrArg Array.toList Tryz.results153) (by simp only [List.length_cons, List.length_nil]; decide) ?_; simp only [af_, ak_, Nat.reduceAdd]
 refine ab_ ?_
 refine aa_ kr_ ?_
 (refine aL_S rfl rfl v_ ?_)
 refine ac_ ?_
 refine ab_ ?_
 refine ab_ ?_
 refine aa_ kr_ ?_
 (refine aL_S rfl rfl v_ ?_)
 refine aL_X rfl rfl (hg_ rfl g_ v_ (by exact hne) va_ ?_)
 refine ac_ ?_
 refine ad_ v_ (fun hc1 => ?_) (fun hc1 => ?_)
 ·replace hc1 := nm_ hc1
  cases hc1
 ·replace hc1 := nm_ hc1
  refine ah_ ?_
  refine ab_ ?_
  refine aa_ kr_ ?_
  refine aw_ rfl rfl rfl g_ g_ rfl rfl h_ c2_ (by decide) ?_
  (refine aL_S rfl rfl v_ ?_)
  refine aL_X rfl rfl (kI_ rfl g_ g_ va_ v_ (by exact hne) (by simp; omega) fun o7 ho7 => ?_)
  rw [ln_]
  (refine aL_S rfl rfl v_ ?_)
  refine ac_ ?_
  refine am_ ?_
  refine ai_ (v := .msl o7 1 0 L.length) (σ' := σ.set o7 (shQ L)) (by simp only [go_sem, ↓reduceIte, Nat.reduceEqDiff, Nat.reduceAdd, Nat.reduceSub, Nat.reduceMul, Nat.reduceLeDiff, reduceCtorEq, Int.reduceToNat, Int.reduceLE, Int.reduceLT]) (Store.Wk.refl _) ⟨o7, ho7, rfl, rfl⟩
def kvS (M : List (ByteArray × Nat)) : List (Value × AVal) := M.map fun p => (.string p.1, .ref p.2 0)
theorem jf_ (M : List (ByteArray × Nat)) : ∀ x ∈ kvS M, IsKey .string x.1 := by
 intro x hx
 obtain ⟨p, _, rfl⟩ := List.mem_map.1 hx
 trivial
theorem iv_ {s : ByteArray} {e : Nat} : ∀ {M : List (ByteArray × Nat)}, (∀ p ∈ M, p.1 ≠ s) → fd_ (.string s) (.ref e 0) (kvS M) = kvS (M ++ [(s, e)])
 |[], _ => rfl
 |p :: M, h => by
  have ih := iv_ (s := s) (e := e) (M := M) fun q hq => h q (List.mem_cons_of_mem _ hq)
  unfold kvS at ih ⊢
  have h1 : fF_ (.string p.1) (.string s) = false := by simp [fF_, h p (List.mem_cons_self ..)]
  simp only [List.map_cons, fd_, h1, Bool.false_eq_true, if_false, List.cons_append]
  rw [ih]
theorem kP_ (s : ByteArray) : ∀ M, cq_ .string (.string s) (kvS M) = some ((M.find? fun p => decide (p.1 = s)).map fun p => .ref p.2 0)
 |[] => rfl
 |p :: M => by
  have ih := kP_ s M
  unfold kvS at ih ⊢
  rw [List.map_cons, cq_, List.find?_cons]
  simp only [Instr.sameNow]
  by_cases h : p.1 = s
  ·have h' : (s == s) = true := (Go.MapKept.bytes_beq s s).2 rfl
   rw [h, h']
   simp
  ·have h' : (s == p.1) = false := by
    cases hh : (s == p.1) with
    |false => rfl
    |true => exact absurd (((Go.MapKept.bytes_beq _ _).1 hh).symm) h
   rw [h']
   simp only [h, decide_false]
   exact ih
def byL (E : List Sh) : List (ByteArray × Nat) := E.map fun x => (x.nm, x.o)
theorem pf_ (E : List Sh) (s : ByteArray) : ((byL E).find? fun p => decide (p.1 = s)) = (E.find? fun x => decide (x.nm = s)).map fun x => (x.nm, x.o) := by
 unfold byL
 rw [List.find?_map]
 rfl
def byV (E : List Sh) (s : ByteArray) : AVal := match E.find? (fun x => decide (x.nm = s)) with | some x => .ref x.o 0 | none => .lit (.pointer none)
theorem gs_ {σ : Store} {o : Nat} {E : List Sh} (h : σ.heap o = some (.map (kvS (byL E)))) (s : ByteArray) : dA_ Tryz.prog σ 126 (.map o) (.lit (.string s)) false = some (byV E s) := by
 have h1 : gg_ σ (.map o) = some (kvS (byL E)) := by simp [gg_, h]
 unfold dA_
 simp only [go_sem, h1, eD_, kP_, if_true, pf_]
 unfold byV
 cases E.find? (fun x => decide (x.nm = s)) <;> rfl
theorem ni_ {E : List Sh} {s : ByteArray} (h : ∀ x ∈ E, x.nm ≠ s) : byV E s = .lit (.pointer none) := by
 unfold byV
 rw [List.find?_eq_none.2 fun x hx => by simpa using h x hx]
theorem gK_ {E : List Sh} {s : ByteArray} {x : Sh} (h : E.find? (fun x => decide (x.nm = s)) = some x) : byV E s = .ref x.o 0 := by
 unfold byV
 rw [h]
end Go.Proofs.YtkcmbjodladflaaGreatDoor
end

section
set_option linter.all false
set_option maxRecDepth 100000
namespace Go.Proofs.YtkcmbjodladflaaGreatDoor
open Go.Ab
open Go.MapKept (IsKey)
structure Built (ow : List ByteArray) (l : List ByteArray) (E : List Sh) : Prop where
 nm : E.map (·.nm) = a2_ l
 has : ∀ x ∈ E, x.has = (cnt ow x.nm : Int) ∧ x.want = 0 ∧ 0 ≤ x.pl ∧ x.pl < l.length
 pl : E.Pairwise fun x y => x.pl < y.pl
 nd : (E.map (·.o)).Nodup
theorem Built.nil (ow : List ByteArray) : Built ow [] [] := ⟨rfl, by simp, by simp, by simp⟩
theorem rH_ {E : List Sh} {s : ByteArray} : (∃ x ∈ E, x.nm = s) ↔ s ∈ E.map (·.nm) := by simp
theorem eU_ {l : List ByteArray} {s : ByteArray} : idxI l s < 0 ↔ s ∉ l := by
 constructor
 ·intro h hs
  obtain ⟨k, hk, rfl⟩ := List.getElem_of_mem hs
  unfold idxI at h
  cases hf : l.findIdx? (fun x => decide (x = l[k])) with
  |none =>
   have := List.findIdx?_eq_none_iff.1 hf l[k] (List.getElem_mem hk)
   simp at this
  |some j => rw [hf] at h; simp at h; omega
 ·intro h
  rw [ja_ fun k x hx hh => h (by rw [← hh]; exact List.mem_of_getElem? hx)]
  decide
theorem Built.new {ow l : List ByteArray} {E : List Sh} {s : ByteArray} {o : Nat} (h : Built ow l E) (hs : ∀ x ∈ E, x.nm ≠ s) (ho : ∀ x ∈ E, x.o ≠ o) : Built ow (l ++ [s]) (E ++ [⟨o, s, l.length, (cnt ow s : Int), 0⟩]) := by
 have hno : s ∉ a2_ l := by
  rw [← h.nm]
  intro hh
  obtain ⟨x, hx, e⟩ := List.mem_map.1 hh
  exact hs x hx e
 refine ⟨?_, fun x hx => ?_, ?_, ?_⟩
 ·rw [List.map_append, h.nm]
  unfold a2_
  rw [List.foldl_append]
  show _ = cw_ (a2_ l) s
  unfold cw_
  rw [if_pos (eU_.2 hno)]
  rfl
 ·rw [List.length_append]
  rcases List.mem_append.1 hx with hx | hx
  ·obtain ⟨h1, h2, h3, h4⟩ := h.has x hx
   exact ⟨h1, h2, h3, by simp; omega⟩
  ·obtain rfl := List.mem_singleton.1 hx
   exact ⟨rfl, rfl, by simp, by simp; omega⟩
 ·rw [List.pairwise_append]
  refine ⟨h.pl, by simp, fun x hx y hy => ?_⟩
  obtain rfl := List.mem_singleton.1 hy
  exact (h.has x hx).2.2.2
 ·rw [List.map_append, List.nodup_append]
  refine ⟨h.nd, by simp, fun a ha b hb => ?_⟩
  obtain ⟨x, hx, rfl⟩ := List.mem_map.1 ha
  obtain rfl : b = o := by simpa using hb
  exact ho x hx
theorem Built.old {ow l : List ByteArray} {E : List Sh} {s : ByteArray} (h : Built ow l E) (hs : ∃ x ∈ E, x.nm = s) : Built ow (l ++ [s]) E := by
 refine ⟨?_, fun x hx => ?_, h.pl, h.nd⟩
 ·have hin : s ∈ a2_ l := by rw [← h.nm]; exact rH_.1 hs
  rw [h.nm]
  unfold a2_
  rw [List.foldl_append]
  show _ = cw_ (a2_ l) s
  unfold cw_
  rw [if_neg (by rw [eU_]; exact fun hh => hh hin)]
  rfl
 ·obtain ⟨h1, h2, h3, h4⟩ := h.has x hx
  exact ⟨h1, h2, h3, by rw [List.length_append]; simp; omega⟩
theorem k1_ (E : List Sh) (s : ByteArray) : (byV E s = .lit (.pointer none) ∧ ∀ x ∈ E, x.nm ≠ s) ∨ ∃ x, byV E s = .ref x.o 0 ∧ x ∈ E ∧ x.nm = s ∧ E.find? (fun x => decide (x.nm = s)) = some x := by
 cases hf : E.find? (fun x => decide (x.nm = s)) with
 |none =>
  have h := fun x hx => by simpa using List.find?_eq_none.1 hf x hx
  exact .inl ⟨ni_ h, h⟩
 |some x => exact .inr ⟨x, gK_ hf, List.mem_of_find?_eq_some hf, by simpa using List.find?_some hf, rfl⟩
theorem iX_ {E : List Sh} {s : ByteArray} (h : ∀ x ∈ E, x.nm ≠ s) : ∀ p ∈ byL E, p.1 ≠ s := by
 intro p hp
 obtain ⟨x, hx, rfl⟩ := List.mem_map.1 hp
 exact h x hx
theorem iY_ {E : List Sh} {x : Sh} (h : ∀ y ∈ E, y.nm ≠ x.nm) : byV (E ++ [x]) x.nm = .ref x.o 0 := by
 refine gK_ ?_
 rw [List.find?_append, List.find?_eq_none.2 fun y hy => by simpa using h y hy]
 simp
def updS (q : Int) (r j : Nat) (x : Sh) : Sh := { x with has := 0, want := q + if j < r then 1 else 0 }
def rank (E : List Sh) (x : Sh) : Nat := E.countP fun z => decide (ahd z x)
def jL_ (E : List Sh) (n : Nat) : List Sh := E.map fun x => updS ((n / E.length : Nat) : Int) (n % E.length) (rank E x) x
theorem fj_ {l : List ByteArray} (h : 0 < l.length) : 0 < (a2_ l).length := by
 have grow : ∀ (l out : List ByteArray), out.length ≤ (l.foldl cw_ out).length := by
  intro l
  induction l with
  |nil => intro out; exact Nat.le_refl _
  |cons x l ih =>
   intro out
   rw [List.foldl_cons]
   refine Nat.le_trans ?_ (ih _)
   unfold cw_
   split <;> simp
 cases l with
 |nil => simp at h
 |cons x l =>
  unfold a2_
  rw [List.foldl_cons]
  refine Nat.lt_of_lt_of_le ?_ (grow l _)
  have : cw_ [] x = [x] := by
   unfold cw_
   rw [if_pos (eU_.2 (by simp))]; rfl
  rw [this]; simp
theorem ma_ {E S : List Sh} (hp : S.Perm E) (hs : S.Pairwise ahd) {m : Nat} {y : Sh} (hy : S[m]? = some y) : rank E y = m := by
 obtain ⟨hm, rfl⟩ := List.getElem?_eq_some_iff.1 hy
 unfold rank
 rw [← hp.countP_eq]
 have e : S = S.take m ++ S[m] :: S.drop (m + 1) := by rw [← List.drop_eq_getElem_cons hm, List.take_append_drop]
 have h1 : (S.take m).countP (fun z => decide (ahd z S[m])) = m := by
  have hl : (S.take m).length = m := by simp; omega
  rw [List.countP_eq_length.2 fun x hx => ?_, hl]
  obtain ⟨k, hk, rfl⟩ := List.getElem_of_mem hx
  rw [hl] at hk
  rw [List.getElem_take]
  simpa using List.pairwise_iff_getElem.1 hs k m (by omega) hm hk
 have h2 : (S.drop (m + 1)).countP (fun z => decide (ahd z S[m])) = 0 := by
  rw [List.countP_eq_zero]
  intro x hx
  obtain ⟨k, hk, rfl⟩ := List.getElem_of_mem hx
  rw [List.getElem_drop]
  have := List.pairwise_iff_getElem.1 hs m (m + 1 + k) hm (by simp at hk; omega) (by omega)
  simp only [decide_eq_true_eq]
  unfold ahd at this ⊢
  omega
 have h3 : ¬ ahd S[m] S[m] := by unfold ahd; omega
 calc S.countP (fun z => decide (ahd z S[m])) = (S.take m ++ S[m] :: S.drop (m + 1)).countP (fun z => decide (ahd z S[m])) := by rw [← e]
  _ = m := by rw [List.countP_append, List.countP_cons, h1, h2]; simp [h3]
theorem jS_ {υ : Store} {S : List Sh} {q : Int} {r j : Nat} {x : Sh} (hnd : (S.map (·.o)).Nodup) (hx : S[j]? = some x) (h : ∀ (m : Nat) y, S[m]? = some y → υ.heap y.o = some (shC (if m < j then updS q r m y else y))) :
  ∀ (m : Nat) y, S[m]? = some y → (υ.set x.o (shC (updS q r j x))).heap y.o = some (shC (if m < j + 1 then updS q r m y else y)) := by
 intro m y hy
 by_cases hm : m = j
 ·subst hm
  rw [hx] at hy
  obtain rfl := Option.some.inj hy
  rw [Store.set_get, if_pos (Nat.lt_succ_self m)]
 ·have hne : y.o ≠ x.o := by
   intro hh
   obtain ⟨h1, rfl⟩ := List.getElem?_eq_some_iff.1 hx
   obtain ⟨h2, rfl⟩ := List.getElem?_eq_some_iff.1 hy
   rcases Nat.lt_or_gt_of_ne hm with hlt | hlt
   ·exact List.pairwise_iff_getElem.1 hnd m j (by simpa using h2) (by simpa using h1) hlt (by simpa using hh)
   ·exact List.pairwise_iff_getElem.1 hnd j m (by simpa using h1) (by simpa using h2) hlt (by simpa using hh.symm)
  rw [Store.set_ne _ _ hne, h m y hy]
  by_cases h1 : m < j
  ·rw [if_pos h1, if_pos (by omega)]
  ·rw [if_neg h1, if_neg (by omega)]
theorem oc_ {ow nm : List ByteArray} {σ : Store} {to tn : Bool} (ho : ow.length ≤ 40) (hn : nm.length ≤ 60) (h0 : 0 < nm.length) : ao_ Tryz.prog 110 [.sl 1 (ow.map vStr) to, .sl 1 (nm.map vStr) tn] σ fun v σ' => ∃ E om, v = .tup [.sl 1 (E.map fun x => .ref x.o 0) false, .map om] ∧ Built ow nm E ∧ (∀ x ∈ jL_ E ow.length, σ'.heap x.o = some (shC x)) ∧
      σ'.heap om = some (.map (kvS (byL E))) ∧ Fr σ [] σ' (E.map (·.o)) := by
  refine aj_ Tryz.func110 rfl Tryz.ntmps110 (congrArg Array.toList Tryz.results110) (by simp only [List.length_cons, List.length_nil]; decide) ?_; simp only [af_, ak_, Nat.reduceAdd]
  refine ab_ ?_
  refine aa_ kr_ ?_
  iterate 2 (refine aL_S rfl rfl v_ ?_)
  refine ac_ ?_
  refine ab_ ?_
  refine aa_ kr_ ?_
  refine ci_ 129 1 rfl rfl rfl (by rfl) fun k6 hk6 => ?_
  refine ac_ ?_
  refine ab_ ?_
  refine aa_ kr_ ?_
  refine aL_X rfl rfl (ea_ rfl fun o14 ho14 => ?_)
  repeat (rw [an_] at ho14; obtain ⟨_, ho14⟩ := ho14)
  (refine aL_S rfl rfl v_ ?_)
  refine ac_ ?_
  refine ab_ ?_
  refine aa_ kr_ ?_
  iterate 2 (refine aL_S rfl rfl v_ ?_)
  refine aL_X rfl rfl (ae_ rfl rfl (.inr ⟨rfl, rfl, rfl⟩) g_ va_ (pQ_ (by omega) (by omega)) ?_); rintro _ τ0 ⟨rfl, f0⟩
  (refine aL_S rfl rfl v_ ?_)
  refine ac_ ?_
  refine ab_ ?_
  refine ab_ ?_
  refine aa_ kr_ ?_
  iterate 3 (refine aL_S rfl rfl v_ ?_)
  refine ac_ ?_
  refine al_ ?_
  refine ap_ (ι := Store × Nat × List Sh × Nat) (fun ⟨τ, i, E, k⟩ => nm.length - i) (fun ⟨τ, i, E, k⟩ => i ≤ nm.length ∧ Built ow (nm.take i) E ∧ (∀ x ∈ E, τ.heap x.o = some (shC x)) ∧ τ.heap o14 = some (.map (kvS (byL E))) ∧ Fr σ [] τ (E.map (·.o)) ∧ τ.tok k = some (129, 1) ∧ σ.tok k = none) (fun ⟨τ, i, E, k⟩ => [(0, .sl 1 (ow.map vStr) to), (6, .own k 1 (E.map fun x => .ref x.o 0)), (7, .map o14), (8, .sl 1 ((aW_ ow nm).map vInt) false), (18, .sl 1 (nm.map vStr) tn), (19, vInt nm.length), (20, vInt i)]) (fun ⟨τ, i, E, k⟩ => τ) (τ0, 0, [], k6) ?_ ?_ ?_ ?_
  · exact ⟨Nat.zero_le _, Built.nil ow, by simp, (f0.sub.1 o14 _ (by simp) (Store.set_get ..)), (((Fr.refl σ []).newTok (fun j hj => by cases hj) hk6).alloc ho14).trans f0, f0.sub.2 _ _ (by rw [Store.set_tok]; exact Store.newTok_get ..), hk6⟩
  · exact cv_
  · exact Store.Wk.refl _
  rintro ⟨τ, i, E, k⟩ ⟨h1, hB, hE, hm, hF, hk, hks⟩
  simp only [ar_, au_]
  refine ab_ ?_
  refine aa_ kr_ ?_
  (refine aL_S rfl rfl v_ ?_)
  refine ac_ ?_
  refine ab_ ?_
  refine ad_ v_ (fun hc5 => ?_) (fun hc5 => ?_)
  · replace hc5 := nm_ hc5
    refine ah_ ?_
    refine ab_ ?_
    refine al_ ?_
    refine ab_ ?_
    have hi : i < nm.length := by omega
    obtain ⟨s, hs⟩ := aA_ hi
    have hlo : (aW_ ow nm)[i]? = some (cnt ow s : Int) := by unfold aW_; rw [List.getElem?_map, hs]; rfl
    have htk : nm.take (i + 1) = nm.take i ++ [s] := by rw [List.take_succ, hs]; rfl
    have R := hs
    refine aa_ kr_ ?_
    iterate 5 (refine aL_S rfl rfl v_ ?_)
    refine ac_ ?_
    refine ab_ ?_
    rcases k1_ E s with ⟨hby, hno⟩ | ⟨x, hby, hxE, hxs, _⟩
    · have hlk := gs_ hm s
      have R := And.intro hlk hby
      refine aa_ kr_ ?_
      iterate 4 (refine aL_S rfl rfl v_ ?_)
      refine ac_ ?_
      refine ad_ v_ (fun hc7 => ?_) (fun hc7 => ?_)
      · replace hc7 := nm_ hc7
        first
          | (cases hc7; done)
          | skip
            refine ab_ ?_
            have R := And.intro hlo hm
            refine aa_ kr_ ?_
            iterate 9 (refine aL_S rfl rfl v_ ?_)
            refine bb_ rfl rfl rfl v_ rfl g_ fun o38 ho38 => ?_
            repeat (rw [an_] at ho38; obtain ⟨_, ho38⟩ := ho38)
            have hmo := aT_ hm ho38
            refine j3_ rfl rfl (cp_ rfl g_ g_ v_ h_ v_ key_ (by exact jf_ (byL E)) v_ ?_)
            refine ac_ ?_
            rw [iv_ (iX_ hno), show byL E ++ [(s, o38)] = byL (E ++ [⟨o38, s, (i : Int), (cnt ow s : Int), 0⟩]) from by simp [byL]]
            have hm1 : ((τ.set o38 (shC ⟨o38, s, (i : Int), (cnt ow s : Int), 0⟩)).set o14 (.map (kvS (byL (E ++ [⟨o38, s, (i : Int), (cnt ow s : Int), 0⟩]))))).heap o14 = some (.map (kvS (byL (E ++ [⟨o38, s, (i : Int), (cnt ow s : Int), 0⟩])))) := Store.set_get ..
            have hlk2 := gs_ hm1 s
            rw [iY_ (x := ⟨o38, s, (i : Int), (cnt ow s : Int), 0⟩) hno] at hlk2
            simp only [shC] at hlk2
            have hxo : ∀ x ∈ E, x.o ≠ o38 := fun x hx => aT_ (hE x hx) ho38
            have hxm : ∀ x ∈ E, x.o ≠ o14 := fun x hx hh => by have := hE x hx; rw [hh, hm] at this; cases this
            have hil : (nm.take i).length = i := by simp; omega
            have hB2 := hB.new hno hxo
            rw [hil] at hB2
            have hE2 : ∀ x ∈ E ++ [⟨o38, s, (i : Int), (cnt ow s : Int), 0⟩], ((τ.set o38 (shC ⟨o38, s, (i : Int), (cnt ow s : Int), 0⟩)).set o14 (.map (kvS (byL (E ++ [⟨o38, s, (i : Int), (cnt ow s : Int), 0⟩]))))).heap x.o = some (shC x) := fun x hx => by
              rcases List.mem_append.1 hx with hx | hx
              · rw [Store.set_ne _ _ (hxm x hx), Store.set_ne _ _ (hxo x hx)]; exact hE x hx
              · obtain rfl := List.mem_singleton.1 hx
                rw [Store.set_ne _ _ (Ne.symm hmo), Store.set_get]
            have hlE : E.length ≤ 60 := by
              have := congrArg List.length hB.nm
              rw [List.length_map] at this
              have h2 := gY_ (nm.take i)
              omega
            have R := And.intro hlk2 hk
            refine aa_ kr_ ?_
            iterate 4 (refine aL_S rfl rfl v_ ?_)
            refine aw_ rfl rfl rfl g_ g_ rfl rfl h_ c2_ (by decide) ?_
            refine be_ rfl rfl rfl g_ g_ v_ h_ v_ c_ (by simp; omega) fun k44 hk44 => ?_
            (refine aL_S rfl rfl v_ ?_)
            refine ac_ ?_
            have hm2 := hm1
            have hF2 : Fr σ [] (((τ.set o38 (shC ⟨o38, s, (i : Int), (cnt ow s : Int), 0⟩)).set o14 (.map (kvS (byL (E ++ [⟨o38, s, (i : Int), (cnt ow s : Int), 0⟩]))))).newTok (some k) k44 (129, 1)) ((E ++ [(⟨o38, s, (i : Int), (cnt ow s : Int), 0⟩ : Sh)]).map (·.o)) := by
              have hmn : σ.heap o14 = none := ho14
              have f1 := hF.setNew (x := shC ⟨o38, s, (i : Int), (cnt ow s : Int), 0⟩) ho38
              have f2 : Fr σ [] ((τ.set o38 (shC ⟨o38, s, (i : Int), (cnt ow s : Int), 0⟩)).set o14 (.map (kvS (byL (E ++ [⟨o38, s, (i : Int), (cnt ow s : Int), 0⟩]))))) (o38 :: E.map (·.o)) :=
                ⟨⟨fun j y hj hy => by rw [Store.set_ne _ _ (fun hh => by rw [hh, hmn] at hy; cases hy)]; exact f1.sub.1 j y hj hy, f1.sub.2⟩, f1.new⟩
              exact (f2.newTok (fun j hj => by cases hj; exact hks) hk44).less (by intro j hj; simp at hj ⊢; rcases hj with h | h; exact .inr h; exact .inl h)
            refine aa_ kr_ ?_
            iterate 2 (refine aL_S rfl rfl v_ ?_)
            refine ac_ ?_
            refine aJ_ (ι := Store × Nat × List Sh × Nat) (i := ⟨τ, i, E, k⟩) (((τ.set o38 (shC ⟨o38, s, (i : Int), (cnt ow s : Int), 0⟩)).set o14 (.map (kvS (byL (E ++ [⟨o38, s, (i : Int), (cnt ow s : Int), 0⟩]))))).newTok (some k) k44 (129, 1), i + 1, E ++ [⟨o38, s, (i : Int), (cnt ow s : Int), 0⟩], k44) ?_ ?_ ?_ ?_
            · show nm.length - (i + 1) < nm.length - i; omega
            · exact ⟨hi, by rw [htk]; exact hB2, hE2, hm2, hF2, Store.newTok_get .., hF.noTok hk44⟩
            · exact cv_
            · exact Store.Wk.refl _
      · replace hc7 := nm_ hc7
        first
          | (cases hc7; done)
          | skip
            refine ah_ ?_
            refine aa_ kr_ ?_
            iterate 2 (refine aL_S rfl rfl v_ ?_)
            refine ac_ ?_
            refine aJ_ (ι := Store × Nat × List Sh × Nat) (i := ⟨τ, i, E, k⟩) (τ, i + 1, E, k) ?_ ?_ ?_ ?_
            · show nm.length - (i + 1) < nm.length - i; omega
            · exact ⟨hi, by rw [htk]; exact hB.old ⟨x, hxE, hxs⟩, hE, hm, hF, hk, hks⟩
            · exact cv_
            · exact Store.Wk.refl _
    · have hlk := gs_ hm s
      have R := And.intro hlk hby
      refine aa_ kr_ ?_
      iterate 4 (refine aL_S rfl rfl v_ ?_)
      refine ac_ ?_
      refine ad_ v_ (fun hc7 => ?_) (fun hc7 => ?_)
      · replace hc7 := nm_ hc7
        first
          | (cases hc7; done)
          | skip
            refine ab_ ?_
            have R := And.intro hlo hm
            refine aa_ kr_ ?_
            iterate 9 (refine aL_S rfl rfl v_ ?_)
            refine bb_ rfl rfl rfl v_ rfl g_ fun o38 ho38 => ?_
            repeat (rw [an_] at ho38; obtain ⟨_, ho38⟩ := ho38)
            have hmo := aT_ hm ho38
            refine j3_ rfl rfl (cp_ rfl g_ g_ v_ h_ v_ key_ (by exact jf_ (byL E)) v_ ?_)
            refine ac_ ?_
            rw [iv_ (iX_ hno), show byL E ++ [(s, o38)] = byL (E ++ [⟨o38, s, (i : Int), (cnt ow s : Int), 0⟩]) from by simp [byL]]
            have hm1 : ((τ.set o38 (shC ⟨o38, s, (i : Int), (cnt ow s : Int), 0⟩)).set o14 (.map (kvS (byL (E ++ [⟨o38, s, (i : Int), (cnt ow s : Int), 0⟩]))))).heap o14 = some (.map (kvS (byL (E ++ [⟨o38, s, (i : Int), (cnt ow s : Int), 0⟩])))) := Store.set_get ..
            have hlk2 := gs_ hm1 s
            rw [iY_ (x := ⟨o38, s, (i : Int), (cnt ow s : Int), 0⟩) hno] at hlk2
            simp only [shC] at hlk2
            have hxo : ∀ x ∈ E, x.o ≠ o38 := fun x hx => aT_ (hE x hx) ho38
            have hxm : ∀ x ∈ E, x.o ≠ o14 := fun x hx hh => by have := hE x hx; rw [hh, hm] at this; cases this
            have hil : (nm.take i).length = i := by simp; omega
            have hB2 := hB.new hno hxo
            rw [hil] at hB2
            have hE2 : ∀ x ∈ E ++ [⟨o38, s, (i : Int), (cnt ow s : Int), 0⟩], ((τ.set o38 (shC ⟨o38, s, (i : Int), (cnt ow s : Int), 0⟩)).set o14 (.map (kvS (byL (E ++ [⟨o38, s, (i : Int), (cnt ow s : Int), 0⟩]))))).heap x.o = some (shC x) := fun x hx => by
              rcases List.mem_append.1 hx with hx | hx
              · rw [Store.set_ne _ _ (hxm x hx), Store.set_ne _ _ (hxo x hx)]; exact hE x hx
              · obtain rfl := List.mem_singleton.1 hx
                rw [Store.set_ne _ _ (Ne.symm hmo), Store.set_get]
            have hlE : E.length ≤ 60 := by
              have := congrArg List.length hB.nm
              rw [List.length_map] at this
              have h2 := gY_ (nm.take i)
              omega
            have R := And.intro hlk2 hk
            refine aa_ kr_ ?_
            iterate 4 (refine aL_S rfl rfl v_ ?_)
            refine aw_ rfl rfl rfl g_ g_ rfl rfl h_ c2_ (by decide) ?_
            refine be_ rfl rfl rfl g_ g_ v_ h_ v_ c_ (by simp; omega) fun k44 hk44 => ?_
            (refine aL_S rfl rfl v_ ?_)
            refine ac_ ?_
            have hm2 := hm1
            have hF2 : Fr σ [] (((τ.set o38 (shC ⟨o38, s, (i : Int), (cnt ow s : Int), 0⟩)).set o14 (.map (kvS (byL (E ++ [⟨o38, s, (i : Int), (cnt ow s : Int), 0⟩]))))).newTok (some k) k44 (129, 1)) ((E ++ [(⟨o38, s, (i : Int), (cnt ow s : Int), 0⟩ : Sh)]).map (·.o)) := by
              have hmn : σ.heap o14 = none := ho14
              have f1 := hF.setNew (x := shC ⟨o38, s, (i : Int), (cnt ow s : Int), 0⟩) ho38
              have f2 : Fr σ [] ((τ.set o38 (shC ⟨o38, s, (i : Int), (cnt ow s : Int), 0⟩)).set o14 (.map (kvS (byL (E ++ [⟨o38, s, (i : Int), (cnt ow s : Int), 0⟩]))))) (o38 :: E.map (·.o)) :=
                ⟨⟨fun j y hj hy => by rw [Store.set_ne _ _ (fun hh => by rw [hh, hmn] at hy; cases hy)]; exact f1.sub.1 j y hj hy, f1.sub.2⟩, f1.new⟩
              exact (f2.newTok (fun j hj => by cases hj; exact hks) hk44).less (by intro j hj; simp at hj ⊢; rcases hj with h | h; exact .inr h; exact .inl h)
            refine aa_ kr_ ?_
            iterate 2 (refine aL_S rfl rfl v_ ?_)
            refine ac_ ?_
            refine aJ_ (ι := Store × Nat × List Sh × Nat) (i := ⟨τ, i, E, k⟩) (τ, i + 1, E, k) ?_ ?_ ?_ ?_
            · show nm.length - (i + 1) < nm.length - i; omega
            · exact ⟨hi, by rw [htk]; exact hB.old ⟨x, hxE, hxs⟩, hE, hm, hF, hk, hks⟩
            · exact cv_
            · exact Store.Wk.refl _
      · replace hc7 := nm_ hc7
        first
          | (cases hc7; done)
          | skip
            refine ah_ ?_
            refine aa_ kr_ ?_
            iterate 2 (refine aL_S rfl rfl v_ ?_)
            refine ac_ ?_
            refine aJ_ (ι := Store × Nat × List Sh × Nat) (i := ⟨τ, i, E, k⟩) (τ, i + 1, E, k) ?_ ?_ ?_ ?_
            · show nm.length - (i + 1) < nm.length - i; omega
            · exact ⟨hi, by rw [htk]; exact hB.old ⟨x, hxE, hxs⟩, hE, hm, hF, hk, hks⟩
            · exact cv_
            · exact Store.Wk.refl _
  · replace hc5 := nm_ hc5
    refine ax_ ?_
    refine ag_ ?_
    refine ag_ ?_
    refine aq_ ?_
    refine ab_ ?_
    have hfull : nm.take i = nm := List.take_of_length_le (by omega)
    rw [hfull] at hB
    have hE0 : 0 < E.length := by
      have := fj_ h0
      rw [← hB.nm, List.length_map] at this
      exact this
    have hE10 : E.length ≤ 60 := by
      have := gY_ nm
      rw [← hB.nm, List.length_map] at this
      omega
    refine aa_ kr_ ?_
    (refine aL_S rfl rfl v_ ?_)
    refine aL_X rfl rfl (ae_ rfl rfl (.inr ⟨rfl, rfl, rfl⟩) g_ va_ (pn_ (L := E) (Wk.own1 ..) (by omega) hE0) ?_); rintro _ _ ⟨oc, hoc, rfl, rfl⟩
    (refine aL_S rfl rfl v_ ?_)
    refine ac_ ?_
    have hEc : ∀ x ∈ E, (τ.set oc (shQ E)).heap x.o = some (shC x) := fun x hx => cD_ hoc (hE x hx)
    have hbd : ∀ x ∈ E, 0 ≤ x.has ∧ x.has ≤ 1000 := fun x hx => by
      rw [(hB.has x hx).1]
      have := hw_ ow x.nm
      omega
    refine ab_ ?_
    refine aa_ kr_ ?_
    (refine aL_S rfl rfl v_ ?_)
    refine aL_X rfl rfl (ae_ rfl rfl (.inr ⟨rfl, rfl, rfl⟩) g_ va_ (h3_ (L := E) ⟨Store.set_get .., hEc, hbd, by omega⟩ hB.pl) ?_); rintro _ σ2 ⟨rfl, S, hS2, hS3, rfl⟩
    refine ac_ ?_
    refine ab_ ?_
    refine ab_ ?_
    rw [Store.set_set]
    have hSl := hS2.length_eq
    obtain ⟨q, hqd⟩ : ∃ q, q = ow.length / E.length := ⟨_, rfl⟩
    obtain ⟨r, hrd⟩ : ∃ r, r = ow.length % E.length := ⟨_, rfl⟩
    have hSnd : (S.map (·.o)).Nodup := (hS2.map _).nodup_iff.2 hB.nd
    have hco : ∀ x ∈ E, x.o ≠ oc := fun x hx => aT_ (hE x hx) hoc
    have hcm : o14 ≠ oc := aT_ hm hoc
    have hxm : ∀ x ∈ E, x.o ≠ o14 := fun x hx hh => by have := hE x hx; rw [hh, hm] at this; cases this
    refine aa_ kr_ ?_
    iterate 3 (refine aL_S rfl rfl v_ ?_)
    refine ac_ ?_
    refine al_ ?_
    refine ap_ (ι := Store × Nat) (fun ⟨υ, j⟩ => E.length - j) (fun ⟨υ, j⟩ => j ≤ E.length ∧ (∀ (m : Nat) y, S[m]? = some y → υ.heap y.o = some (shC (if m < j then updS (q : Int) r m y else y))) ∧ υ.heap oc = some (shQ S) ∧ υ.heap o14 = some (.map (kvS (byL E))) ∧ Fr σ [] υ (E.map (·.o))) (fun ⟨υ, j⟩ => [(0, .sl 1 (ow.map vStr) to), (6, .own k 1 (E.map fun x => .ref x.o 0)), (7, .map o14), (50, .msl oc 1 0 E.length), (51, vInt E.length), (52, vInt j)]) (fun ⟨υ, j⟩ => υ) (τ.set oc (shQ S), 0) ?_ ?_ ?_ ?_
    · exact ⟨Nat.zero_le _, fun m y hy => by rw [if_neg (Nat.not_lt_zero m)]; exact cD_ hoc (hE y (hS2.mem_iff.1 (List.mem_of_getElem? hy))), Store.set_get .., cD_ hoc hm, hF.alloc hoc⟩
    · exact cv_
    · exact Store.Wk.refl _
    rintro ⟨υ, j⟩ ⟨j1, j2, j3, j4, j5⟩
    simp only [ar_, au_]
    refine ab_ ?_
    refine aa_ kr_ ?_
    (refine aL_S rfl rfl v_ ?_)
    refine ac_ ?_
    refine ab_ ?_
    refine ad_ v_ (fun hc14 => ?_) (fun hc14 => ?_)
    · replace hc14 := nm_ hc14
      refine ah_ ?_
      refine ab_ ?_
      refine al_ ?_
      refine ab_ ?_
      have hj : j < E.length := by omega
      obtain ⟨x, hx⟩ : ∃ x, S[j]? = some x := ⟨S[j]'(by omega), List.getElem?_eq_getElem _⟩
      have hxE := hS2.mem_iff.1 (List.mem_of_getElem? hx)
      have hxh := j2 j x hx
      rw [if_neg (Nat.lt_irrefl j)] at hxh
      have hq : Int.tdiv (ow.length : Int) (E.length : Int) = (q : Int) := by rw [hqd]; rfl
      have hr : Int.tmod (ow.length : Int) (E.length : Int) = (r : Int) := by rw [hrd]; rfl
      have hqb : q ≤ 40 := by rw [hqd]; exact Nat.le_trans (Nat.div_le_self _ _) ho
      have R := And.intro hx j3
      refine aa_ kr_ ?_
      iterate 5 (refine aL_S rfl rfl v_ ?_)
      refine ac_ ?_
      refine ab_ ?_
      have R := And.intro hxh (And.intro hq @gG_)
      refine aa_ kr_ ?_
      iterate 9 (refine aL_S rfl rfl v_ ?_)
      refine av_ rfl rfl rfl v_ v_ h_ g_ rfl g_ c_ (by rfl) le_ v_ ?_
      iterate 2 (refine aL_S rfl rfl v_ ?_)
      refine av_ rfl rfl rfl v_ v_ h_ g_ rfl g_ c_ (by rfl) le_ v_ ?_
      refine ac_ ?_
      refine ab_ ?_
      have R := And.intro hr @m3_
      refine aa_ kr_ ?_
      iterate 7 (refine aL_S rfl rfl v_ ?_)
      refine ac_ ?_
      refine ad_ v_ (fun hc17 => ?_) (fun hc17 => ?_)
      · replace hc17 := nm_ hc17
        have hu1 : shC (updS (q : Int) r j x) = .cells [vStr x.nm, vInt x.pl, vInt 0, vInt ((q : Int) + 1)] := by unfold updS shC; rw [if_pos (by omega)]
        refine aa_ kr_ ?_
        iterate 7 (refine aL_S rfl rfl v_ ?_)
        refine av_ rfl rfl rfl v_ v_ h_ g_ rfl g_ c_ (by rfl) le_ v_ ?_
        refine ac_ ?_
        refine aa_ kr_ ?_
        iterate 2 (refine aL_S rfl rfl v_ ?_)
        refine ac_ ?_
        refine aJ_ (ι := Store × Nat) (i := ⟨υ, j⟩) (υ.set x.o (shC (updS (q : Int) r j x)), j + 1) ?_ ?_ ?_ ?_
        · show E.length - (j + 1) < E.length - j; omega
        · exact ⟨hj, jS_ hSnd hx j2, by rw [Store.set_ne _ _ (Ne.symm (hco x hxE))]; exact j3, by rw [Store.set_ne _ _ (Ne.symm (hxm x hxE))]; exact j4, j5.set (List.mem_map.2 ⟨x, hxE, rfl⟩)⟩
        · exact cv_
        · simp only [Store.set_set]; exact Store.Wk.refl' (by rw [hu1])
      · replace hc17 := nm_ hc17
        have hu2 : shC (updS (q : Int) r j x) = .cells [vStr x.nm, vInt x.pl, vInt 0, vInt (q : Int)] := by unfold updS shC; rw [if_neg (by omega), Int.add_zero]
        refine ah_ ?_
        refine aa_ kr_ ?_
        iterate 2 (refine aL_S rfl rfl v_ ?_)
        refine ac_ ?_
        refine aJ_ (ι := Store × Nat) (i := ⟨υ, j⟩) (υ.set x.o (shC (updS (q : Int) r j x)), j + 1) ?_ ?_ ?_ ?_
        · show E.length - (j + 1) < E.length - j; omega
        · exact ⟨hj, jS_ hSnd hx j2, by rw [Store.set_ne _ _ (Ne.symm (hco x hxE))]; exact j3, by rw [Store.set_ne _ _ (Ne.symm (hxm x hxE))]; exact j4, j5.set (List.mem_map.2 ⟨x, hxE, rfl⟩)⟩
        · exact cv_
        · simp only [Store.set_set]; exact Store.Wk.refl' (by rw [hu2])
    · replace hc14 := nm_ hc14
      refine ax_ ?_
      refine ag_ ?_
      refine ag_ ?_
      refine aq_ ?_
      refine ab_ ?_
      refine aa_ kr_ ?_
      iterate 4 (refine aL_S rfl rfl v_ ?_)
      refine ac_ ?_
      refine am_ ?_
      refine a6_ (v := .tup [.sl 1 (E.map fun x => .ref x.o 0) false, .map o14]) (v' := .tup [.own k 1 (E.map fun x => .ref x.o 0), .map o14]) (σ' := υ) va_ (.tup _ _ rfl (fun i hi hi' => by match i, hi with | 0, _ => exact Wk.own1 .. | 1, _ => exact .refl _)) (Store.Wk.refl _) ⟨E, o14, rfl, hB, fun x hx => ?_, j4, j5⟩
      obtain ⟨y, hy, rfl⟩ := List.mem_map.1 hx
      obtain ⟨m, hm1, hm2⟩ := List.getElem_of_mem (hS2.mem_iff.2 hy)
      have hm3 : S[m]? = some y := by rw [List.getElem?_eq_getElem hm1, hm2]
      have := j2 m y hm3
      rw [if_pos (by omega)] at this
      rw [ma_ hS2 hS3 hm3, ← hqd, ← hrd]
      exact this
end Go.Proofs.YtkcmbjodladflaaGreatDoor
end

section
set_option linter.all false
set_option maxRecDepth 100000
namespace Go.Proofs.YtkcmbjodladflaaGreatDoor
open Go.Ab
def gI (l : List Int) (k : Nat) : Int := l[k]?.getD 0
def dz_ (lo : List Int) (i : Nat) : Nat := (List.range lo.length).countP fun k => decide (gI lo i < gI lo k ∨ gI lo k = gI lo i ∧ k < i)
def f7_ (lo : List Int) (n i : Nat) : Int := ((n / lo.length : Nat) : Int) + if dz_ lo i < n % lo.length then 1 else 0
def wsS (ow ns : List ByteArray) : List Int := (List.range ns.length).map fun i => f7_ (aW_ ow ns) ow.length i
theorem cb_ (ow ns : List ByteArray) : (aW_ ow ns).length = ns.length := by simp [aW_]
theorem eZ_ (ow ns : List ByteArray) : (wsS ow ns).length = ns.length := by simp [wsS]
theorem oE_ {l : List Int} {k : Nat} (h : k < l.length) : l[k]? = some (gI l k) := by unfold gI; rw [List.getElem?_eq_getElem h]; rfl
theorem cC_ {l : List Int} {k j : Nat} {v : Int} (h : k < l.length) : gI (l.set k v) j = if j = k then v else gI l j := by
 unfold gI
 rw [List.getElem?_set]
 by_cases hj : j = k
 ·subst hj; rw [if_pos rfl, if_pos h, if_pos rfl]; rfl
 ·rw [if_neg (Ne.symm hj), if_neg hj]
theorem iJ_ : ∀ {l : List Int} {k : Nat}, k < l.length → (l.set k (gI l k + 1)).sum = l.sum + 1
 |[], k, h => by simp at h
 |x :: l, 0, h => by
  show (x + 1) + l.sum = (x + l.sum) + 1
  omega
 |x :: l, k + 1, h => by
  have := iJ_ (l := l) (k := k) (by simpa using h)
  have e : gI (x :: l) (k + 1) = gI l k := rfl
  rw [e]
  show x + (l.set k (gI l k + 1)).sum = (x + l.sum) + 1
  rw [this]; omega
theorem mv_ : ∀ {a b : List Int}, a.length = b.length → (∀ k, k < a.length → gI a k ≤ gI b k) → a.sum ≤ b.sum
 |[], [], _, _ => by simp
 |[], y :: b, h, _ => by simp at h
 |x :: a, [], h, _ => by simp at h
 |x :: a, y :: b, h, hk => by
  have h0 : x ≤ y := hk 0 (by simp)
  have ih := mv_ (a := a) (b := b) (by simpa using h) fun k hk' => hk (k + 1) (by simpa using hk')
  show x + a.sum ≤ y + b.sum
  omega
theorem mp_ {hs ws : List Int} (hl : hs.length = ws.length) (h : hs.sum < ws.sum) : ∃ k, k < hs.length ∧ gI hs k < gI ws k := by
 refine Classical.byContradiction fun hn => ?_
 have : ws.sum ≤ hs.sum := mv_ hl.symm fun k hk => by
  refine Int.not_lt.1 fun hlt => hn ⟨k, by omega, hlt⟩
 omega
theorem fx_ {α : Type} (d : α) (p : α → Bool) : ∀ l : List α, l.countP p = (List.range l.length).countP fun i => p (l[i]?.getD d)
 |[] => rfl
 |x :: l => by
  rw [List.length_cons, List.range_succ_eq_map, List.countP_cons, List.countP_cons, List.countP_map, fx_ d p l]
  rfl
def mkE (lo : List Int) : List Sh := (List.range lo.length).map fun i => ⟨i, ByteArray.empty, (i : Int), gI lo i, 0⟩
theorem qb_ {lo : List Int} {i : Nat} (h : i < lo.length) : rank (mkE lo) ⟨i, ByteArray.empty, (i : Int), gI lo i, 0⟩ = dz_ lo i := by
 unfold rank mkE dz_
 rw [List.countP_map]
 congr 1
 funext k
 refine decide_eq_decide.2 ?_
 show (gI lo i < gI lo k ∨ gI lo k = gI lo i ∧ (k : Int) < (i : Int)) ↔ _
 omega
theorem no_ (lo : List Int) (r : Nat) (hr : r ≤ lo.length) : (List.range lo.length).countP (fun i => decide (dz_ lo i < r)) = r := by
 have hpl : (mkE lo).Pairwise fun x y => x.pl < y.pl := by
  unfold mkE
  rw [List.pairwise_map]
  refine List.pairwise_lt_range.imp fun {a b} hab => ?_
  show (a : Int) < (b : Int)
  omega
 have hlen : (mkE lo).length = lo.length := by simp [mkE]
 obtain ⟨S, hS1, hS2, hS3⟩ := eW_ (mkE lo) hpl (mkE lo).length (Nat.le_refl _)
 rw [List.take_length] at hS2
 have hSl := hS2.length_eq
 have e1 : (List.range lo.length).countP (fun i => decide (dz_ lo i < r)) = (mkE lo).countP fun x => decide (rank (mkE lo) x < r) := by
  conv => rhs; unfold mkE
  rw [List.countP_map]
  refine List.countP_congr fun i hi => ?_
  have hi' : i < lo.length := List.mem_range.1 hi
  have := qb_ hi'
  show decide (dz_ lo i < r) = true ↔ decide (rank (mkE lo) ⟨i, ByteArray.empty, (i : Int), gI lo i, 0⟩ < r) = true
  rw [this]
 rw [e1, ← hS2.countP_eq, fx_ default]
 have e2 : (List.range S.length).countP (fun i => decide (rank (mkE lo) (S[i]?.getD default) < r)) = (List.range S.length).countP fun i => decide (i < r) := by
  refine List.countP_congr fun i hi => ?_
  have hi' : i < S.length := List.mem_range.1 hi
  have : rank (mkE lo) (S[i]?.getD default) = i := by
   rw [List.getElem?_eq_getElem hi']
   exact ma_ hS2 hS3 (List.getElem?_eq_getElem hi')
  rw [this]
 rw [e2, hSl, hlen]
 generalize lo.length = m at hr
 clear e1 e2 hpl hlen hS1 hS2 hS3 hSl
 induction m with
 |zero => simp; omega
 |succ m ih =>
  rw [List.range_succ, List.countP_append]
  by_cases hm : r ≤ m
  ·rw [ih hm]; simp; omega
  ·obtain rfl : r = m + 1 := by omega
   have : (List.range m).countP (fun i => decide (i < m + 1)) = m := by
    rw [List.countP_eq_length.2 fun i hi => by have := List.mem_range.1 hi; simp; omega, List.length_range]
   rw [this]; simp
theorem fZ_ {α : Type} (c : Int) (p : α → Bool) : ∀ l : List α, (l.map fun i => c + if p i then 1 else 0).sum = c * l.length + l.countP p
 |[] => by simp
 |x :: l => by
  rw [List.map_cons, List.sum_cons, fZ_ c p l, List.countP_cons, List.length_cons]
  have e : c * ((l.length + 1 : Nat) : Int) = c * l.length + c := by
   rw [Int.natCast_add, Int.mul_add]; simp
  rw [e]
  cases p x <;> simp <;> omega
theorem mP_ {ow ns : List ByteArray} (h : 0 < ns.length) : (wsS ow ns).sum = ow.length := by
 have hl := cb_ ow ns
 have e : wsS ow ns = (List.range ns.length).map fun i => ((ow.length / ns.length : Nat) : Int) + if decide (dz_ (aW_ ow ns) i < ow.length % ns.length) then 1 else 0 := by
  unfold wsS f7_
  rw [hl]
  congr 1
  funext i
  simp
 rw [e, fZ_, List.length_range]
 have hc := no_ (aW_ ow ns) (ow.length % ns.length) (by rw [hl]; exact Nat.le_of_lt (Nat.mod_lt _ h))
 rw [hl] at hc
 rw [hc]
 have := Nat.div_add_mod ow.length ns.length
 have e2 : ((ow.length / ns.length : Nat) : Int) * (ns.length : Int) = ((ns.length * (ow.length / ns.length) : Nat) : Int) := by rw [Nat.mul_comm]; simp
 rw [e2]
 omega
theorem mO_ (ow ns : List ByteArray) (k : Nat) : 0 ≤ gI (wsS ow ns) k := by
 unfold gI wsS
 rw [List.getElem?_map]
 cases (List.range ns.length)[k]? with
 |none => simp
 |some i =>
  show 0 ≤ f7_ _ _ _
  unfold f7_
  generalize ow.length / (aW_ ow ns).length = q
  split <;> omega
structure F1 where
 hs : List Int
 out : List ByteArray
 kp : List Int
def fits (ns : List ByteArray) (ws hs : List Int) (s : ByteArray) : Prop := 0 ≤ idxI ns s ∧ gI hs (idxI ns s).toNat < gI ws (idxI ns s).toNat
instance (ns : List ByteArray) (ws hs : List Int) (s : ByteArray) : Decidable (fits ns ws hs s) := by unfold fits; infer_instance
def f1s (ns : List ByteArray) (ws : List Int) (st : F1) (i : Nat) (s : ByteArray) : F1 :=
 if fits ns ws st.hs s then ⟨st.hs.set (idxI ns s).toNat (gI st.hs (idxI ns s).toNat + 1), st.out.set i s, st.kp.set i 1⟩ else st
def f1 (ns : List ByteArray) (ws : List Int) (ow : List ByteArray) : Nat → F1
 |0 => ⟨List.replicate ns.length 0, List.replicate ow.length ByteArray.empty, List.replicate ow.length 0⟩
 |i + 1 => f1s ns ws (f1 ns ws ow i) i (ow[i]?.getD ByteArray.empty)
def b0_ (kp : List Int) (i : Nat) : List Nat := (List.range i).filter fun p => !decide (gI kp p = 1)
theorem c8_ (kp : List Int) (i : Nat) : b0_ kp (i + 1) = b0_ kp i ++ if gI kp i = 1 then [] else [i] := by
 unfold b0_
 rw [List.range_succ, List.filter_append]
 by_cases h : gI kp i = 1 <;> simp [h]
def d3_ (hs ws : List Int) : Nat → Int
 |0 => -1
 |k + 1 => if gI hs k < gI ws k ∧ (d3_ hs ws k < 0 ∨ gI hs k < gI hs (d3_ hs ws k).toNat) then (k : Int) else d3_ hs ws k
structure S2 where
 hs : List Int
 out : List ByteArray
def p2s (ns : List ByteArray) (ws : List Int) (st : S2) (p : Nat) : S2 :=
 ⟨st.hs.set (d3_ st.hs ws ns.length).toNat (gI st.hs (d3_ st.hs ws ns.length).toNat + 1), st.out.set p (ns[(d3_ st.hs ws ns.length).toNat]?.getD ByteArray.empty)⟩
def cl_ (ow nm : List ByteArray) : List ByteArray :=
 if (a2_ nm).length = 0 then List.replicate ow.length ByteArray.empty
 else ((b0_ (f1 (a2_ nm) (wsS ow (a2_ nm)) ow ow.length).kp ow.length).foldl (p2s (a2_ nm) (wsS ow (a2_ nm))) ⟨(f1 (a2_ nm) (wsS ow (a2_ nm)) ow ow.length).hs, (f1 (a2_ nm) (wsS ow (a2_ nm)) ow ow.length).out⟩).out
theorem hp_ (hs ws : List Int) : ∀ n, (d3_ hs ws n < 0 ∧ ∀ k, k < n → ¬ gI hs k < gI ws k) ∨
  ∃ b : Nat, d3_ hs ws n = b ∧ b < n ∧ gI hs b < gI ws b ∧ ∀ k, k < n → gI hs k < gI ws k → gI hs b < gI hs k ∨ gI hs b = gI hs k ∧ b ≤ k
 |0 => .inl ⟨show (-1 : Int) < 0 by decide, fun k hk => absurd hk (Nat.not_lt_zero k)⟩
 |n + 1 => by
  unfold d3_
  rcases hp_ hs ws n with ⟨h1, h2⟩ | ⟨b, h1, h2, h3, h4⟩
  ·by_cases hn : gI hs n < gI ws n
   ·rw [if_pos ⟨hn, .inl h1⟩]
    refine .inr ⟨n, rfl, Nat.lt_succ_self n, hn, fun k hk hlt => ?_⟩
    rcases Nat.lt_succ_iff_lt_or_eq.1 hk with hk | rfl
    ·exact absurd hlt (h2 k hk)
    ·exact .inr ⟨rfl, Nat.le_refl _⟩
   ·rw [if_neg (fun hh => hn hh.1)]
    exact .inl ⟨h1, fun k hk => (Nat.lt_succ_iff_lt_or_eq.1 hk).elim (h2 k) fun hh => by rw [hh]; exact hn⟩
  ·rw [h1]
   by_cases hn : gI hs n < gI ws n ∧ gI hs n < gI hs b
   ·rw [if_pos ⟨hn.1, .inr (by simpa using hn.2)⟩]
    refine .inr ⟨n, rfl, Nat.lt_succ_self n, hn.1, fun k hk hlt => ?_⟩
    rcases Nat.lt_succ_iff_lt_or_eq.1 hk with hk | rfl
    ·rcases h4 k hk hlt with h | h <;> left <;> omega
    ·exact .inr ⟨rfl, Nat.le_refl _⟩
   ·rw [if_neg (fun hh => hn ⟨hh.1, by rcases hh.2 with h | h; exact absurd h (by omega); simpa using h⟩)]
    refine .inr ⟨b, rfl, by omega, h3, fun k hk hlt => ?_⟩
    rcases Nat.lt_succ_iff_lt_or_eq.1 hk with hk | rfl
    ·exact h4 k hk hlt
    ·have : ¬ gI hs k < gI hs b := fun hh => hn ⟨hlt, hh⟩
     by_cases he : gI hs b = gI hs k
     ·exact .inr ⟨he, by omega⟩
     ·exact .inl (by omega)
structure Inv1 (ns : List ByteArray) (ws : List Int) (n i : Nat) (st : F1) : Prop where
 lh : st.hs.length = ns.length
 lo : st.out.length = n
 lk : st.kp.length = n
 bd : ∀ k, 0 ≤ gI st.hs k ∧ gI st.hs k ≤ gI ws k
 sum : st.hs.sum + (b0_ st.kp i).length = i
 fresh : ∀ p, i ≤ p → gI st.kp p = 0
theorem i7_ (n k : Nat) : gI (List.replicate n 0) k = 0 := by
 unfold gI
 rw [List.getElem?_replicate]
 split <;> rfl
theorem oG_ {l : List ByteArray} {s : ByteArray} (h : 0 ≤ idxI l s) : (idxI l s).toNat < l.length ∧ idxI l s = ((idxI l s).toNat : Int) ∧ l[(idxI l s).toNat]? = some s := by
 unfold idxI at h ⊢
 cases hf : l.findIdx? (fun x => decide (x = s)) with
 |none => rw [hf] at h; simp at h
 |some k =>
  obtain ⟨hk, h1, _⟩ := List.findIdx?_eq_some_iff_getElem.1 hf
  refine ⟨hk, rfl, ?_⟩
  show l[k]? = some s
  rw [List.getElem?_eq_getElem hk]
  simpa using h1
theorem ei_ {a b : List Int} {i : Nat} (h : ∀ p, p < i → gI a p = gI b p) : b0_ a i = b0_ b i := by
 unfold b0_
 refine List.filter_congr fun p hp => ?_
 rw [h p (List.mem_range.1 hp)]
theorem qt_ (n : Nat) : (List.replicate n (0 : Int)).sum = 0 := by
 induction n with
 |zero => rfl
 |succ n ih => rw [List.replicate_succ, List.sum_cons, ih]; rfl
theorem fz_ (ow ns : List ByteArray) : ∀ i, i ≤ ow.length → Inv1 ns (wsS ow ns) ow.length i (f1 ns (wsS ow ns) ow i)
 |0, _ => ⟨by simp [f1], by simp [f1], by simp [f1], fun k => by unfold f1; rw [i7_]; exact ⟨Int.le_refl _, mO_ ow ns k⟩, by unfold f1 b0_; rw [qt_]; rfl, fun p _ => by unfold f1; exact i7_ _ _⟩
 |i + 1, hi => by
  have h := fz_ ow ns i (by omega)
  unfold f1 f1s
  generalize f1 ns (wsS ow ns) ow i = st at h
  generalize ow[i]?.getD ByteArray.empty = s
  split
  ·rename_i hf
   obtain ⟨h0, h1⟩ := hf
   obtain ⟨hk, _, _⟩ := oG_ h0
   generalize (idxI ns s).toNat = k at h1 hk
   have hkl : k < st.hs.length := by rw [h.lh]; exact hk
   have hik : i < st.kp.length := by rw [h.lk]; omega
   refine ⟨by simpa using h.lh, by simpa using h.lo, by simpa using h.lk, fun j => ?_, ?_, fun p hp => ?_⟩
   ·show 0 ≤ gI (st.hs.set k _) j ∧ gI (st.hs.set k _) j ≤ _
    rw [cC_ hkl]
    have := h.bd j
    have := h.bd k
    split
    ·rename_i hj; subst hj; omega
    ·omega
   ·show (st.hs.set k (gI st.hs k + 1)).sum + ((b0_ (st.kp.set i 1) (i + 1)).length : Int) = ((i + 1 : Nat) : Int)
    rw [iJ_ hkl, c8_, ei_ (b := st.kp) fun p hp => by rw [cC_ hik, if_neg (by omega)], cC_ hik, if_pos rfl, if_pos rfl, List.append_nil]
    have := h.sum
    omega
   ·show gI (st.kp.set i 1) p = 0
    rw [cC_ hik, if_neg (by omega)]
    exact h.fresh p (by omega)
  ·refine ⟨h.lh, h.lo, h.lk, h.bd, ?_, fun p hp => h.fresh p (by omega)⟩
   rw [c8_, h.fresh i (Nat.le_refl i), if_neg (by decide), List.length_append]
   have := h.sum
   simp only [List.length_cons, List.length_nil]
   omega
structure Inv2 (ns : List ByteArray) (ws : List Int) (n left : Nat) (st : S2) : Prop where
 lh : st.hs.length = ns.length
 lo : st.out.length = n
 bd : ∀ k, 0 ≤ gI st.hs k ∧ gI st.hs k ≤ gI ws k
 sum : st.hs.sum + left = n
theorem Inv2.best {ow ns : List ByteArray} {left : Nat} {st : S2} (hns : 0 < ns.length) (h : Inv2 ns (wsS ow ns) ow.length (left + 1) st) :
  ∃ b : Nat, d3_ st.hs (wsS ow ns) ns.length = b ∧ b < ns.length ∧ gI st.hs b < gI (wsS ow ns) b ∧ ∀ k, k < ns.length → gI st.hs k < gI (wsS ow ns) k → gI st.hs b < gI st.hs k ∨ gI st.hs b = gI st.hs k ∧ b ≤ k := by
 rcases hp_ st.hs (wsS ow ns) ns.length with ⟨_, h2⟩ | h
 ·exfalso
  obtain ⟨k, hk, hlt⟩ := mp_ (hs := st.hs) (ws := wsS ow ns) (by rw [h.lh, eZ_]) (by rw [mP_ hns]; have := h.sum; omega)
  exact h2 k (by rw [← h.lh]; exact hk) hlt
 ·exact h
theorem Inv2.step {ow ns : List ByteArray} {left p : Nat} {st : S2} (hns : 0 < ns.length) (h : Inv2 ns (wsS ow ns) ow.length (left + 1) st) : Inv2 ns (wsS ow ns) ow.length left (p2s ns (wsS ow ns) st p) := by
 obtain ⟨b, hb, h1, h2, _⟩ := h.best hns
 unfold p2s
 rw [hb, Int.toNat_natCast]
 have hbl : b < st.hs.length := by rw [h.lh]; exact h1
 refine ⟨by simpa using h.lh, by simpa using h.lo, fun j => ?_, ?_⟩
 ·show 0 ≤ gI (st.hs.set b _) j ∧ gI (st.hs.set b _) j ≤ _
  rw [cC_ hbl]
  have := h.bd j
  have := h.bd b
  split
  ·rename_i hj; subst hj; omega
  ·omega
 ·show (st.hs.set b (gI st.hs b + 1)).sum + (left : Int) = _
  rw [iJ_ hbl]
  have := h.sum
  omega
end Go.Proofs.YtkcmbjodladflaaGreatDoor
end

section
set_option linter.all false
set_option maxRecDepth 100000
namespace Go.Proofs.YtkcmbjodladflaaGreatDoor
open Go.Ab
end Go.Proofs.YtkcmbjodladflaaGreatDoor
end

section
set_option linter.all false
set_option maxRecDepth 100000
namespace Go.Proofs.YtkcmbjodladflaaGreatDoor
open Go.Ab
theorem mN_ (ow ns : List ByteArray) (k : Nat) : gI (wsS ow ns) k ≤ ow.length + 1 := by
 unfold gI wsS
 rw [List.getElem?_map]
 cases (List.range ns.length)[k]? with
 |none => simp; omega
 |some i =>
  show f7_ _ _ _ ≤ _
  unfold f7_
  have : ow.length / (aW_ ow ns).length ≤ ow.length := Nat.div_le_self _ _
  generalize ow.length / (aW_ ow ns).length = q at this
  split <;> omega
theorem qd_ (n : Nat) : List.replicate n (AVal.lit (.string ⟨#[]⟩)) = (List.replicate n ByteArray.empty).map vStr := by rw [List.map_replicate]; rfl
theorem lm_ {l : List AVal} (h : ∀ x ∈ l, x.cells = [x]) : flat l = l := by
 induction l with
 |nil => rfl
 |cons x l ih => rw [bu_, h x (List.mem_cons_self ..), ih fun y hy => h y (List.mem_cons_of_mem _ hy)]; rfl
theorem lo_ (l : List ByteArray) : flat (l.map vStr) = l.map vStr := lm_ fun x hx => by
 obtain ⟨y, _, rfl⟩ := List.mem_map.1 hx
 rfl
section
variable {τ : Store} {oo oh ok : Nat} {F : F1} (h1 : oh ≠ oo) (h2 : ok ≠ oo) (h3 : ok ≠ oh)
include h1 h2 h3
end
end Go.Proofs.YtkcmbjodladflaaGreatDoor
end

section
set_option linter.all false
set_option maxRecDepth 100000
namespace Go.Proofs.YtkcmbjodladflaaGreatDoor
open Go.Ab
def cK (E : List Sh) (ws hs : List Int) (k : Nat) : Sh := ⟨(gS E k).o, (gS E k).nm, (gS E k).pl, gI hs k, gI ws k⟩
def cS (E : List Sh) (ws hs : List Int) : List Sh := (List.range E.length).map (cK E ws hs)
theorem gi_ {E : List Sh} {ws hs : List Int} {k : Nat} (h : k < E.length) : (cS E ws hs)[k]? = some (cK E ws hs k) := by
 unfold cS
 rw [List.getElem?_map, List.getElem?_range h]
 rfl
theorem ht_ (E : List Sh) (ws hs : List Int) : (cS E ws hs).length = E.length := by simp [cS]
theorem d5_ {L : List Sh} {k : Nat} (h : k < L.length) : L[k]? = some (gS L k) := by unfold gS; rw [List.getElem?_eq_getElem h]; rfl
theorem et_ {ow nm : List ByteArray} {E : List Sh} (h : Built ow nm E) {k : Nat} (hk : k < E.length) : (a2_ nm)[k]? = some (gS E k).nm := by
 rw [← h.nm, List.getElem?_map, d5_ hk]; rfl
theorem hr_ {ow nm : List ByteArray} {E : List Sh} (h : Built ow nm E) {k : Nat} (hk : k < E.length) : (gS E k).has = gI (aW_ ow (a2_ nm)) k := by
 have h1 := (h.has _ (List.mem_of_getElem? (d5_ hk))).1
 rw [h1]
 unfold gI aW_
 rw [List.getElem?_map, et_ h hk]
 rfl
theorem iW_ {ow nm : List ByteArray} {E : List Sh} (h : Built ow nm E) {i k : Nat} (hi : i < E.length) (hk : k < E.length) : (gS E i).pl < (gS E k).pl ↔ i < k := by
 have e : ∀ {a b : Nat} (ha : a < E.length) (hb : b < E.length), a < b → (gS E a).pl < (gS E b).pl := fun {a b} ha hb hab => by
  have := List.pairwise_iff_getElem.1 h.pl a b ha hb hab
  unfold gS
  rw [List.getElem?_eq_getElem ha, List.getElem?_eq_getElem hb]
  exact this
 constructor
 ·intro hlt
  rcases Nat.lt_or_ge i k with h1 | h1
  ·exact h1
  ·rcases Nat.lt_or_eq_of_le h1 with h2 | h2
   ·have := e hk hi h2; omega
   ·subst h2; omega
 ·exact e hi hk
theorem ks_ {ow nm : List ByteArray} {E : List Sh} (h : Built ow nm E) {k : Nat} (hk : k < E.length) : rank E (gS E k) = dz_ (aW_ ow (a2_ nm)) k := by
 have hl : (aW_ ow (a2_ nm)).length = E.length := by rw [cb_, ← h.nm, List.length_map]
 unfold rank dz_
 rw [fx_ default, hl]
 refine List.countP_congr fun i hi => ?_
 have hi' : i < E.length := List.mem_range.1 hi
 show decide (ahd (gS E i) (gS E k)) = true ↔ _
 rw [decide_eq_true_eq, decide_eq_true_eq]
 unfold ahd
 rw [hr_ h hi', hr_ h hk, iW_ h hi' hk]
theorem kz_ {ow nm : List ByteArray} {E : List Sh} (h : Built ow nm E) {k : Nat} (hk : k < E.length) : cK E (wsS ow (a2_ nm)) (List.replicate (a2_ nm).length 0) k ∈ jL_ E ow.length := by
 have hl : (a2_ nm).length = E.length := by rw [← h.nm, List.length_map]
 refine List.mem_map.2 ⟨gS E k, List.mem_of_getElem? (d5_ hk), ?_⟩
 rw [ks_ h hk]
 unfold updS cK
 have h1 : gI (wsS ow (a2_ nm)) k = ((ow.length / E.length : Nat) : Int) + if dz_ (aW_ ow (a2_ nm)) k < ow.length % E.length then 1 else 0 := by
  unfold gI wsS
  rw [List.getElem?_map, List.getElem?_range (by omega)]
  show f7_ _ _ _ = _
  unfold f7_
  rw [cb_, hl]
 rw [h1, i7_]
theorem pe_ {ow nm : List ByteArray} {E : List Sh} (h : Built ow nm E) (s : ByteArray) : (byV E s = .lit (.pointer none) ∧ idxI (a2_ nm) s = -1) ∨ ∃ k, byV E s = .ref (gS E k).o 0 ∧ k < E.length ∧ idxI (a2_ nm) s = (k : Int) := by
 have hf : ∀ x, E.find? (fun x => decide (x.nm = s)) = some x → ∃ k, k < E.length ∧ gS E k = x ∧ idxI (a2_ nm) s = (k : Int) := fun x hx => by
  obtain ⟨h1, k, hk, h2, h3⟩ := List.find?_eq_some_iff_getElem.1 hx
  refine ⟨k, hk, by unfold gS; rw [List.getElem?_eq_getElem hk]; exact h2, nE_ ?_ fun j y hj hy => ?_⟩
  ·rw [et_ h hk]
   unfold gS
   rw [List.getElem?_eq_getElem hk]
   show some E[k].nm = _
   rw [h2]
   simpa using h1
  ·have := h3 j hj
   rw [et_ h (by omega)] at hy
   unfold gS at hy
   rw [List.getElem?_eq_getElem (by omega)] at hy
   rw [← Option.some.inj hy]
   simpa using this
 cases hx : E.find? (fun x => decide (x.nm = s)) with
 |none =>
  refine .inl ⟨by unfold byV; rw [hx], ja_ fun k x hk hh => ?_⟩
  have hkl : k < E.length := by
   have := (List.getElem?_eq_some_iff.1 hk).1
   rw [← h.nm, List.length_map] at this
   exact this
  have h2 := List.find?_eq_none.1 hx _ (List.mem_of_getElem? (d5_ hkl))
  rw [et_ h hkl] at hk
  rw [Option.some.inj hk] at h2
  simp [hh] at h2
 |some x =>
  obtain ⟨k, h1, h2, h3⟩ := hf x hx
  exact .inr ⟨k, by rw [gK_ hx, h2], h1, h3⟩
def wnt (x : Sh) : Bool := decide (x.has < x.want)
theorem nv_ {D : List Sh} {b : Nat} {x : Sh} (hx : D[b]? = some x) (y : Sh) : D.filter wnt = (D.take b).filter wnt ++ ((if wnt x then [x] else []) ++ (D.drop (b + 1)).filter wnt) ∧ (D.set b y).filter wnt = (D.take b).filter wnt ++ ((if wnt y then [y] else []) ++ (D.drop (b + 1)).filter wnt) := by
 obtain ⟨hb, rfl⟩ := List.getElem?_eq_some_iff.1 hx
 constructor
 ·conv => lhs; rw [← List.take_append_drop b D, List.drop_eq_getElem_cons hb]
  rw [List.filter_append, List.filter_cons]
  split <;> simp [*]
 ·rw [List.set_eq_take_append_cons_drop, if_pos hb, List.filter_append, List.filter_cons]
  split <;> simp [*]
theorem q7_ {E : List Sh} {ws hs : List Int} {b : Nat} {v : Int} (hb : b < E.length) (hl : hs.length = E.length) : cS E ws (hs.set b v) = (cS E ws hs).set b (cK E ws (hs.set b v) b) := by
 apply List.ext_getElem?
 intro k
 rw [List.getElem?_set, ht_]
 by_cases hk : k < E.length
 ·rw [gi_ hk]
  split
  ·rename_i hh; subst hh; rfl
  ·rename_i hh
   rw [gi_ hk]
   unfold cK
   rw [cC_ (by omega), if_neg (Ne.symm hh)]
 ·have h1 : (cS E ws (hs.set b v))[k]? = none := List.getElem?_eq_none (by rw [ht_]; omega)
  have h2 : (cS E ws hs)[k]? = none := List.getElem?_eq_none (by rw [ht_]; omega)
  rw [h1, h2, if_neg (by omega)]
theorem mf_ {ow nm : List ByteArray} {E L : List Sh} {ws hs : List Int} (h : Built ow nm E) (hH : gF_ L) (hp : L.Perm ((cS E ws hs).filter wnt)) {b : Nat} (hb : b < E.length) (hlt : gI hs b < gI ws b)
  (hbest : ∀ k, k < E.length → gI hs k < gI ws k → gI hs b < gI hs k ∨ gI hs b = gI hs k ∧ b ≤ k) : 0 < L.length ∧ gS L 0 = cK E ws hs b := by
 have hm : cK E ws hs b ∈ L := hp.mem_iff.2 (List.mem_filter.2 ⟨List.mem_of_getElem? (gi_ hb), decide_eq_true (p := (cK E ws hs b).has < (cK E ws hs b).want) hlt⟩)
 have h0 : 0 < L.length := List.length_pos_of_mem hm
 refine ⟨h0, ?_⟩
 obtain ⟨k, hk, hkb⟩ := List.getElem_of_mem hm
 have hmin := nC_ (c7_ 0 ⟨fun _ => none, fun _ => none⟩ []) (n := L.length) (s := L) hH k hk h0
 have e1 : gS L k = cK E ws hs b := by unfold gS; rw [List.getElem?_eq_getElem hk, ← hkb]; rfl
 have hmin' : ds_ (cK E ws hs b) (gS L 0) = false := by rw [← e1]; exact hmin
 obtain ⟨h1, h2⟩ := List.mem_filter.1 (hp.mem_iff.1 (List.mem_of_getElem? (d5_ h0)))
 unfold cS at h1
 obtain ⟨j, hj, hjr⟩ := List.mem_map.1 h1
 have hj' : j < E.length := List.mem_range.1 hj
 rw [← hjr] at h2 hmin' ⊢
 have h2 : gI hs j < gI ws j := of_decide_eq_true (p := (cK E ws hs j).has < (cK E ws hs j).want) h2
 have hmin' : ¬ (gI hs b < gI hs j ∨ gI hs b = gI hs j ∧ (gS E b).pl < (gS E j).pl) := of_decide_eq_false (p := (cK E ws hs b).has < (cK E ws hs j).has ∨ (cK E ws hs b).has = (cK E ws hs j).has ∧ (cK E ws hs b).pl < (cK E ws hs j).pl) hmin'
 have hbj := hbest j hj' h2
 have hpl := iW_ h hb hj'
 have : b = j := by
  refine Classical.byContradiction fun hne => hmin' ?_
  rcases hbj with h3 | ⟨h3, h4⟩
  ·exact .inl h3
  ·exact .inr ⟨h3, hpl.2 (by omega)⟩
 rw [this]
end Go.Proofs.YtkcmbjodladflaaGreatDoor
end

section
set_option linter.all false
set_option maxRecDepth 100000
namespace Go.Proofs.YtkcmbjodladflaaGreatDoor
open Go.Ab
theorem r3_ (E : List Sh) (ws hs : List Int) (k : Nat) : shC (cK E ws hs k) = .cells [vStr (gS E k).nm, vInt (gS E k).pl, vInt (gI hs k), vInt (gI ws k)] := rfl
theorem mk_ {E : List Sh} {ws hs : List Int} {b : Nat} (v : Int) (hb : b < hs.length) : shC (cK E ws (hs.set b v) b) = .cells [vStr (gS E b).nm, vInt (gS E b).pl, vInt v, vInt (gI ws b)] := by rw [r3_, cC_ hb, if_pos rfl]
theorem hO_ (kp : List Int) (i : Nat) : (b0_ kp i).length ≤ i := by
 unfold b0_
 exact Nat.le_trans (List.length_filter_le ..) (by simp)
def Shs (υ : Store) (E : List Sh) (ws hs : List Int) : Prop := ∀ m, m < E.length → υ.heap (gS E m).o = some (shC (cK E ws hs m))
theorem rm_ {E : List Sh} (h : (E.map (·.o)).Nodup) {a b : Nat} (ha : a < E.length) (hb : b < E.length) (hab : (gS E a).o = (gS E b).o) : a = b := by
 have e : ∀ {k : Nat} (hk : k < E.length), (E.map (·.o))[k]? = some (gS E k).o := fun {k} hk => by rw [List.getElem?_map, d5_ hk]; rfl
 exact (List.getElem?_inj (i := a) (j := b) (by simpa using ha) h).1 (by rw [e ha, e hb, hab])
theorem Shs.upd {υ : Store} {E : List Sh} {ws hs : List Int} {b : Nat} {v : Int} (h : Shs υ E ws hs) (hnd : (E.map (·.o)).Nodup) (hl : hs.length = E.length) (hb : b < E.length) :
  Shs (υ.set (gS E b).o (shC (cK E ws (hs.set b v) b))) E ws (hs.set b v) := fun m hm => by
 by_cases hmb : m = b
 ·subst hmb; exact Store.set_get ..
 ·rw [Store.set_ne _ _ (fun hh => hmb (rm_ hnd hm hb hh)), h m hm]
  unfold cK
  rw [cC_ (by omega), if_neg hmb]
theorem Shs.set {υ : Store} {E : List Sh} {ws hs : List Int} {o : Nat} {x : AObj} (h : Shs υ E ws hs) (ho : ∀ m, m < E.length → (gS E m).o ≠ o) : Shs (υ.set o x) E ws hs := fun m hm => by
 rw [Store.set_ne _ _ (ho m hm)]; exact h m hm
theorem Shs.keep {υ υ' : Store} {S S' : List Nat} {E : List Sh} {ws hs : List Int} (h : Shs υ E ws hs) (hf : Fr υ S υ' S') (hS : ∀ m, m < E.length → (gS E m).o ∉ S) : Shs υ' E ws hs ∧ ∀ m, m < E.length → (gS E m).o ∉ S' :=
 ⟨fun m hm => (hf.apart (h m hm) (hS m hm)).2, fun m hm => (hf.apart (h m hm) (hS m hm)).1⟩
theorem rQ_ {D L : List Sh} {b : Nat} {x y : Sh} (hx : D[b]? = some x) (hw : wnt x = true) (h0 : 0 < L.length) (hg : gS L 0 = x) (hp : L.Perm (D.filter wnt)) :
  (wnt y = true → ∀ L' : List Sh, L'.Perm (L.set 0 y) → L'.Perm ((D.set b y).filter wnt)) ∧ (wnt y = false → ∀ L' : List Sh, (L' ++ [y]).Perm (L.set 0 y) → L'.Perm ((D.set b y).filter wnt)) := by
 obtain ⟨h1, h2⟩ := nv_ hx y
 cases L with
 |nil => simp at h0
 |cons z L1 =>
  have hz : z = x := hg
  subst hz
  rw [hw, if_pos rfl] at h1
  rw [h1] at hp
  have h3 : L1.Perm ((D.take b).filter wnt ++ (D.drop (b + 1)).filter wnt) := (List.perm_cons z).1 (hp.trans List.perm_middle)
  constructor
  ·intro hy L' hL'
   rw [h2, hy, if_pos rfl]
   exact hL'.trans (((List.perm_cons y).2 h3).trans List.perm_middle.symm)
  ·intro hy L' hL'
   rw [h2, hy, if_neg (by decide), List.nil_append]
   have h4 : (y :: L').Perm (y :: L1) := List.perm_append_comm.trans hL'
   exact ((List.perm_cons y).1 h4).trans h3
theorem p9_ {E L : List Sh} {ws hs : List Int} (hnd : (E.map (·.o)).Nodup) (hp : L.Perm ((cS E ws hs).filter wnt)) : (L.map (·.o)).Nodup ∧ ∀ x ∈ L, ∃ m, m < E.length ∧ x = cK E ws hs m := by
 have hc : (cS E ws hs).map (·.o) = E.map (·.o) := by
  apply List.ext_getElem?
  intro k
  rw [List.getElem?_map, List.getElem?_map]
  by_cases hk : k < E.length
  ·rw [gi_ hk, d5_ hk]; rfl
  ·rw [List.getElem?_eq_none (by rw [ht_]; omega), List.getElem?_eq_none (by omega)]
 constructor
 ·refine (hp.map _).nodup_iff.2 (List.Nodup.sublist (List.Sublist.map _ List.filter_sublist) ?_)
  rw [hc]; exact hnd
 ·intro x hx
  obtain ⟨h1, _⟩ := List.mem_filter.1 (hp.mem_iff.1 hx)
  obtain ⟨m, hm, hmx⟩ := List.mem_map.1 h1
  exact ⟨m, List.mem_range.1 hm, hmx.symm⟩
theorem CQ.upd {υ : Store} {T oo : Nat} {L : List Sh} {S : List Nat} {y : Sh} {X : AObj} (h : CQ υ T L S) (h0 : 0 < L.length) (hnd : (L.map (·.o)).Nodup) (hy : y.o = (gS L 0).o) (hyS : y.o ∉ S) (hoS : oo ∉ S) (hL : ∀ x ∈ L, x.o ≠ oo) :
  CQ ((υ.set oo X).set y.o (shC y)) T (L.set 0 y) S := by
 obtain ⟨qv, hT, hq⟩ := h.t
 have hTo : T ≠ oo := fun hh => hoS (by rw [← hh]; exact h.ts)
 have hTy : T ≠ y.o := fun hh => hyS (by rw [← hh]; exact h.ts)
 refine ⟨⟨qv, by rw [Store.set_ne _ _ hTy, Store.set_ne _ _ hTo]; exact hT, ?_⟩, fun x hx => ?_, h.ts, by simpa using h.len⟩
 ·rcases hq with ⟨_, h1⟩ | ⟨oq, h1, h2, h3⟩
  ·rw [h1] at h0; simp at h0
  ·refine .inr ⟨oq, h1, by simpa using h2, ?_⟩
   rw [Store.set_ne _ _ (fun hh => hyS (by rw [← hh]; exact h1)), Store.set_ne _ _ (fun hh => hoS (by rw [← hh]; exact h1)), h3]
   unfold shQ
   rw [List.map_set, hy]
   congr 2
   cases L with
   |nil => simp at h0
   |cons z L1 => rfl
 ·cases L with
  |nil => simp at h0
  |cons z L1 =>
   rcases List.mem_cons.1 hx with rfl | hx
   ·exact Store.set_get ..
   ·have hne : x.o ≠ y.o := by
     intro hh
     have h4 := (List.nodup_cons.1 (show (z.o :: L1.map (·.o)).Nodup from hnd)).1
     exact h4 (List.mem_map.2 ⟨x, hx, by rw [hh, hy]; rfl⟩)
    rw [Store.set_ne _ _ hne, Store.set_ne _ _ (hL x (List.mem_cons_of_mem _ hx))]
    exact h.e x (List.mem_cons_of_mem _ hx)
theorem pd_ {T : Nat} {σ : Store} {S : List Nat} {L : List Sh} {y : Sh} (hL : gF_ L) (h0 : 0 < L.length) : cQ_ (c7_ T σ S) (L.set 0 y) (L.set 0 y).length 0 := by
 refine ⟨fun k h1 h2 h3 h4 => ?_, fun c h1 h2 h3 h4 => absurd h4 (Nat.lt_irrefl 0)⟩
 show ds_ (gS (L.set 0 y) k) (gS (L.set 0 y) ((k - 1) / 2)) = false
 rw [hK_ h0, hK_ h0, if_neg h3, if_neg h4]
 exact hL k h1 (by simpa using h2)
theorem CQ.root {υ : Store} {T : Nat} {L : List Sh} {S : List Nat} (h : CQ υ T L S) (h0 : 0 < L.length) : ∃ oq, υ.heap T = some (.cells [.msl oq 1 0 L.length]) ∧ υ.heap oq = some (.cells (L.map fun x => .ref x.o 0)) ∧ (L.map fun x => AVal.ref x.o 0)[0]? = some (.ref (gS L 0).o 0) := by
 obtain ⟨qv, hT, hq⟩ := h.t
 rcases hq with ⟨_, h1⟩ | ⟨oq, h1, rfl, h3⟩
 ·rw [h1] at h0; simp at h0
 ·exact ⟨oq, hT, h3, by rw [List.getElem?_map, d5_ h0]; rfl⟩
def p2L (ns : List ByteArray) (ws : List Int) (st : S2) (l : List Nat) : S2 := l.foldl (p2s ns ws) st
theorem rh_ {ow nm : List ByteArray} {σ : Store} {to tn : Bool} (ho : ow.length ≤ 40) (hn : nm.length ≤ 60) : ao_ Tryz.prog 54 [.sl 1 (ow.map vStr) to, .sl 1 (nm.map vStr) tn] σ fun v σ' => v = .sl 1 ((cl_ ow nm).map vStr) false ∧ Fr σ [] σ' [] := by
 obtain ⟨ns, hns⟩ : ∃ ns, ns = a2_ nm := ⟨_, rfl⟩
 have hnl : ns.length ≤ 60 := by rw [hns]; exact Nat.le_trans (gY_ nm) hn
 obtain ⟨ws, hws⟩ : ∃ ws, ws = wsS ow ns := ⟨_, rfl⟩
 have hwl : ws.length = ns.length := by rw [hws, eZ_]
 refine aj_ Tryz.func54 rfl Tryz.ntmps54 (congrArg Array.toList Tryz.results54) (by simp only [List.length_cons, List.length_nil]; decide) ?_; simp only [af_, ak_, Nat.reduceAdd]
 refine ab_ ?_
 refine aa_ kr_ ?_
 (refine aL_S rfl rfl v_ ?_)
 refine ac_ ?_
 refine ab_ ?_
 refine aa_ kr_ ?_
 iterate 2 (refine aL_S rfl rfl v_ ?_)
 refine aL_X rfl rfl (de_ rfl g_ g_ g_ rfl v_ v_ (by omega) fun oo hoo => ?_)
 rw [qd_]
 (refine aL_S rfl rfl v_ ?_)
 refine ac_ ?_
 refine ab_ ?_
 refine ab_ ?_
 refine aa_ kr_ ?_
 iterate 3 (refine aL_S rfl rfl v_ ?_)
 refine ac_ ?_
 refine ad_ v_ (fun hc2 => ?_) (fun hc2 => ?_)
 ·replace hc2 := nm_ hc2
  refine ab_ ?_
  refine aa_ kr_ ?_
  refine aL_X rfl rfl (ga_ (by first | exact .inl rfl | exact .inr rfl) va_ h_ (l := (List.replicate ow.length ByteArray.empty).map vStr) (by rw [lo_]; exact List.take_of_length_le (by simp)) (by simp) (by intro x hx; obtain ⟨y, _, rfl⟩ := List.mem_map.1 hx; rfl) ?_)
  (refine aL_S rfl rfl v_ ?_)
  refine ac_ ?_
  refine am_ ?_
  refine ai_ (σ' := (σ.set oo (.cells ((List.replicate ow.length ByteArray.empty).map vStr))).del oo) va_ (Store.Wk.refl _) ⟨?_, ((Fr.refl σ []).alloc hoo).delOwn hoo⟩
  obtain rfl : nm = [] := List.eq_nil_of_length_eq_zero (by omega)
  rfl
 ·replace hc2 := nm_ hc2
  refine ah_ ?_
  refine ab_ ?_
  have hnm0 : 0 < nm.length := by omega
  have hns0 : 0 < ns.length := by rw [hns]; exact fj_ hnm0
  refine aa_ kr_ ?_
  iterate 2 (refine aL_S rfl rfl v_ ?_)
  refine aL_X rfl rfl (ae_ rfl rfl (.inr ⟨rfl, rfl, rfl⟩) g_ va_ (oc_ ho hn hnm0) ?_); rintro _ τ0 ⟨E, om, rfl, hB, hsh, hom, f0⟩
  have hEl : E.length = ns.length := by rw [hns, ← hB.nm, List.length_map]
  have hnd := hB.nd
  have hE0 : ∀ m, m < E.length → (gS E m).o ∈ E.map (·.o) := fun m hm => List.mem_map.2 ⟨_, List.mem_of_getElem? (d5_ hm), rfl⟩
  have hoo0 : τ0.heap oo = some (.cells ((List.replicate ow.length ByteArray.empty).map vStr)) := f0.sub.1 oo _ (by simp) (Store.set_get ..)
  have hS0 : Shs τ0 E ws (List.replicate ns.length 0) := fun m hm => by
   rw [hws, hns]
   exact hsh _ (kz_ hB hm)
  have hEoo : ∀ m, m < E.length → (gS E m).o ≠ oo := fun m hm hh => by
   rcases f0.new _ (hE0 m hm) with h1 | h1
   ·cases h1
   ·rw [hh, Store.set_get] at h1; cases h1
  have hEn : ∀ m, m < E.length → σ.heap (gS E m).o = none := fun m hm => by
   rcases f0.new _ (hE0 m hm) with h1 | h1
   ·cases h1
   ·rw [Store.set_ne _ _ (hEoo m hm)] at h1; exact h1
  have hmo : om ≠ oo := fun hh => by rw [hh, hoo0] at hom; cases hom
  have fr0 : Fr σ [] τ0 [] := (((Fr.refl σ []).alloc hoo).trans f0).less (fun j hj => by cases hj)
  iterate 5 (refine aL_S rfl rfl v_ ?_)
  refine ac_ ?_
  refine ab_ ?_
  refine aa_ kr_ ?_
  refine ci_ 3 1 rfl rfl rfl (by rfl) fun k8 hk8 => ?_
  refine ac_ ?_
  refine ab_ ?_
  refine ab_ ?_
  refine aa_ kr_ ?_
  iterate 3 (refine aL_S rfl rfl v_ ?_)
  refine ac_ ?_
  refine al_ ?_
  refine ap_ (ι := Store × Nat × Nat) (fun ⟨τ, i, k⟩ => ow.length - i) (fun ⟨τ, i, k⟩ => i ≤ ow.length ∧ Shs τ E ws (f1 ns ws ow i).hs ∧ τ.heap om = some (.map (kvS (byL E))) ∧ τ.heap oo = some (.cells ((f1 ns ws ow i).out.map vStr)) ∧ Fr σ [] τ [] ∧ τ.tok k = some (3, 1) ∧ σ.tok k = none) (fun ⟨τ, i, k⟩ => [(5, .msl oo 1 0 ow.length), (6, .sl 1 (E.map fun x => .ref x.o 0) false), (7, .map om), (8, .own k 1 ((b0_ (f1 ns ws ow i).kp i).map fun (p : Nat) => vInt p)), (31, .sl 1 (ow.map vStr) to), (32, vInt ow.length), (33, vInt i)]) (fun ⟨τ, i, k⟩ => τ) (τ0.newTok none k8 (3, 1), 0, k8) ?_ ?_ ?_ ?_
  ·exact ⟨Nat.zero_le _, hS0, hom, hoo0, fr0.newTok (fun j hj => by cases hj) hk8, Store.newTok_get .., fr0.noTok hk8⟩
  ·exact cv_
  ·exact Store.Wk.refl _
  rintro ⟨τ, i, k⟩ ⟨hi, hSh, hm, ho5, hF, hk, hks⟩
  simp only [ar_, au_]
  refine ab_ ?_
  refine aa_ kr_ ?_
  (refine aL_S rfl rfl v_ ?_)
  refine ac_ ?_
  refine ab_ ?_
  refine ad_ v_ (fun hc7 => ?_) (fun hc7 => ?_)
  ·replace hc7 := nm_ hc7
   refine ah_ ?_
   refine ab_ ?_
   refine al_ ?_
   refine ab_ ?_
   have hi1 : i < ow.length := by omega
   obtain ⟨s, hs⟩ := aA_ hi1
   have hI := fz_ ow ns i hi
   have hI1 := fz_ ow ns (i + 1) hi1
   rw [← hws] at hI hI1
   have hfs : f1 ns ws ow (i + 1) = f1s ns ws (f1 ns ws ow i) i s := by rw [f1, hs]; rfl
   obtain ⟨F, hF1⟩ : ∃ F, f1 ns ws ow i = F := ⟨_, rfl⟩
   rw [hF1] at hI hfs hSh ho5 ⊢
   have hlh := hI.lh
   have hlo := hI.lo
   have hlk := hI.lk
   have hlf : b0_ F.kp (i + 1) = b0_ F.kp i ++ [i] := by rw [c8_, hI.fresh i (Nat.le_refl i), if_neg (by decide)]
   have hll := hO_ F.kp i
   have R := hs
   refine aa_ kr_ ?_
   iterate 5 (refine aL_S rfl rfl v_ ?_)
   refine ac_ ?_
   refine ab_ ?_
   rcases pe_ hB s with ⟨hby, hid⟩ | ⟨b, hby, hb, hid⟩
   ·rw [← hns] at hid
    have hlk := gs_ hm s
    have hxh : ∀ j, j < E.length → τ.heap (gS E j).o = some (.cells [vStr (gS E j).nm, vInt (gS E j).pl, vInt (gI F.hs j), vInt (gI ws j)]) := fun j hj => hSh j hj
    have R := And.intro hlk hby
    refine aa_ kr_ ?_
    iterate 4 (refine aL_S rfl rfl v_ ?_)
    refine ac_ ?_
    refine ab_ ?_
    have R := And.intro hby hxh
    refine aG_ (.op 0 0 (.op 1 0 (.op 2 0 (.op 3 0 (.op 4 0 (.op 5 0 (.op 6 0 (.op 7 0 (.op 8 0 (.op 9 0 (.op 10 0 (.op 11 0 (.op 12 0 .nil))))))))))))) Tryz.mixed kr_ ?_
    iterate 3 (refine dR_S o_ (by rfl) (by rfl) v_ ?_)
    first | refine bZ_ o_ (by rfl) wn_ ?_ | refine bk_ o_ (by rfl) (by rfl) v_ (by rfl) vg_ ?_
    first | refine bZ_ o_ (by rfl) wn_ ?_ | refine bk_ o_ (by rfl) (by rfl) v_ (by rfl) vg_ ?_
    first | refine bZ_ o_ (by rfl) wn_ ?_ | refine bk_ o_ (by rfl) (by rfl) v_ (by rfl) vg_ ?_
    first | refine bZ_ o_ (by rfl) wn_ ?_ | refine bk_ o_ (by rfl) (by rfl) v_ (by rfl) vg_ ?_
    first | refine bZ_ o_ (by rfl) wn_ ?_ | refine bk_ o_ (by rfl) (by rfl) v_ (by rfl) vg_ ?_
    first | refine bZ_ o_ (by rfl) wn_ ?_ | refine bk_ o_ (by rfl) (by rfl) v_ (by rfl) vg_ ?_
    first | refine bZ_ o_ (by rfl) wn_ ?_ | refine bk_ o_ (by rfl) (by rfl) v_ (by rfl) vg_ ?_
    first | refine bZ_ o_ (by rfl) wn_ ?_ | refine bk_ o_ (by rfl) (by rfl) v_ (by rfl) vg_ ?_
    first | refine bZ_ o_ (by rfl) wn_ ?_ | refine bk_ o_ (by rfl) (by rfl) v_ (by rfl) vg_ ?_
    (refine dR_S o_ (by rfl) (by rfl) v_ ?_)
    refine aL_ ?_
    refine ad_ v_ (fun hc10 => ?_) (fun hc10 => ?_)
    ·replace hc10 := nm_ hc10
     first
      |(cases hc10; done)
      |skip
       refine ab_ ?_
       have hf : f1 ns ws ow (i + 1) = ⟨F.hs.set b (gI F.hs b + 1), F.out.set i s, F.kp.set i 1⟩ := by rw [hfs, f1s, hid, Int.toNat_natCast, if_pos ⟨by omega, by rw [hid, Int.toNat_natCast]; omega⟩]
       have hkl : b0_ (f1 ns ws ow (i + 1)).kp (i + 1) = b0_ F.kp i := by
        rw [hf]
        show b0_ (F.kp.set i 1) (i + 1) = _
        rw [c8_, ei_ (b := F.kp) (fun p hp => by rw [cC_ (by omega), if_neg (by omega)]), cC_ (by omega), if_pos rfl, if_pos rfl, List.append_nil]
       have hbd := hI.bd b
       have hwb : gI ws b ≤ 1000 := by
        have := mN_ ow ns b
        rw [← hws] at this
        omega
       have hoE := Ne.symm (hEoo b hb)
       have hmE : om ≠ (gS E b).o := fun hh => by have := hSh b hb; rw [← hh, hm] at this; cases this
       have hSh2 := (hSh.upd (v := gI F.hs b + 1) hnd (by omega) hb).set (x := .cells ((F.out.set i s).map vStr)) hEoo
       have q1 : ∀ X, (τ.set (gS E b).o X).heap oo = some (.cells (F.out.map vStr)) := fun X => by rw [Store.set_ne _ _ hoE]; exact ho5
       have R := hxh
       refine aa_ kr_ ?_
       iterate 7 (refine aL_S rfl rfl v_ ?_)
       refine av_ rfl rfl rfl v_ v_ h_ g_ rfl g_ c_ (by rfl) le_ (bs_ le_) ?_
       refine ac_ ?_
       have R := q1
       refine aa_ kr_ ?_
       iterate 4 (refine aL_S rfl rfl v_ ?_)
       refine av_ rfl rfl rfl v_ v_ h_ g_ rfl g_ c_ (by rfl) le_ (bs_ le_) ?_
       refine ac_ ?_
       refine aa_ kr_ ?_
       iterate 2 (refine aL_S rfl rfl v_ ?_)
       refine ac_ ?_
       refine aJ_ (ι := Store × Nat × Nat) (i := ⟨τ, i, k⟩) missing ?_ ?_ ?_ ?_
       ·show ow.length - (i + 1) < ow.length - i; omega
       ·trivial
       ·exact cv_
       ·exact sub_
    ·replace hc10 := nm_ hc10
     have hf : f1 ns ws ow (i + 1) = F := by rw [hfs, f1s, if_neg (by rintro ⟨h1, h2⟩; first | omega | (rw [hid, Int.toNat_natCast] at h2; omega))]
     have hkl : b0_ (f1 ns ws ow (i + 1)).kp (i + 1) = b0_ F.kp i ++ [i] := by rw [hf, hlf]
     have R := hk
     refine aa_ kr_ ?_
     iterate 2 (refine aL_S rfl rfl v_ ?_)
     refine aw_ rfl rfl rfl g_ g_ rfl rfl h_ c2_ (by decide) ?_
     refine be_ rfl rfl rfl g_ g_ v_ h_ v_ c_ (by simp; omega) fun k68 hk68 => ?_
     (refine aL_S rfl rfl v_ ?_)
     refine ac_ ?_
     refine aa_ kr_ ?_
     iterate 2 (refine aL_S rfl rfl v_ ?_)
     refine ac_ ?_
     refine aJ_ (ι := Store × Nat × Nat) (i := ⟨τ, i, k⟩) (τ.newTok (some k) k68 (3, 1), i + 1, k68) ?_ ?_ ?_ ?_
     ·show ow.length - (i + 1) < ow.length - i; omega
     ·exact ⟨hi1, by rw [hf]; exact hSh, hm, by rw [hf]; exact ho5, hF.newTok (fun j hj => by cases hj; exact hks) hk68, Store.newTok_get .., hF.noTok hk68⟩
     ·have R := hkl; exact cv_
     ·exact Store.Wk.refl _
   ·rw [← hns] at hid
    have hlk := gs_ hm s
    have hxh : ∀ j, j < E.length → τ.heap (gS E j).o = some (.cells [vStr (gS E j).nm, vInt (gS E j).pl, vInt (gI F.hs j), vInt (gI ws j)]) := fun j hj => hSh j hj
    have R := And.intro hlk hby
    refine aa_ kr_ ?_
    iterate 4 (refine aL_S rfl rfl v_ ?_)
    refine ac_ ?_
    refine ab_ ?_
    have R := And.intro hby hxh
    refine aG_ (.op 0 0 (.op 1 0 (.op 2 0 (.op 3 0 (.op 4 0 (.op 5 0 (.op 6 0 (.op 7 0 (.op 8 0 (.op 9 0 (.op 10 0 (.op 11 0 (.op 12 0 .nil))))))))))))) Tryz.mixed kr_ ?_
    iterate 3 (refine dR_S o_ (by rfl) (by rfl) v_ ?_)
    first | refine bZ_ o_ (by rfl) wn_ ?_ | refine bk_ o_ (by rfl) (by rfl) v_ (by rfl) vg_ ?_
    first | refine bZ_ o_ (by rfl) wn_ ?_ | refine bk_ o_ (by rfl) (by rfl) v_ (by rfl) vg_ ?_
    first | refine bZ_ o_ (by rfl) wn_ ?_ | refine bk_ o_ (by rfl) (by rfl) v_ (by rfl) vg_ ?_
    first | refine bZ_ o_ (by rfl) wn_ ?_ | refine bk_ o_ (by rfl) (by rfl) v_ (by rfl) vg_ ?_
    first | refine bZ_ o_ (by rfl) wn_ ?_ | refine bk_ o_ (by rfl) (by rfl) v_ (by rfl) vg_ ?_
    first | refine bZ_ o_ (by rfl) wn_ ?_ | refine bk_ o_ (by rfl) (by rfl) v_ (by rfl) vg_ ?_
    first | refine bZ_ o_ (by rfl) wn_ ?_ | refine bk_ o_ (by rfl) (by rfl) v_ (by rfl) vg_ ?_
    first | refine bZ_ o_ (by rfl) wn_ ?_ | refine bk_ o_ (by rfl) (by rfl) v_ (by rfl) vg_ ?_
    first | refine bZ_ o_ (by rfl) wn_ ?_ | refine bk_ o_ (by rfl) (by rfl) v_ (by rfl) vg_ ?_
    (refine dR_S o_ (by rfl) (by rfl) v_ ?_)
    refine aL_ ?_
    refine ad_ v_ (fun hc10 => ?_) (fun hc10 => ?_)
    ·replace hc10 := nm_ hc10
     first
      |(cases hc10; done)
      |skip
       refine ab_ ?_
       have hf : f1 ns ws ow (i + 1) = ⟨F.hs.set b (gI F.hs b + 1), F.out.set i s, F.kp.set i 1⟩ := by rw [hfs, f1s, hid, Int.toNat_natCast, if_pos ⟨by omega, by rw [hid, Int.toNat_natCast]; omega⟩]
       have hkl : b0_ (f1 ns ws ow (i + 1)).kp (i + 1) = b0_ F.kp i := by
        rw [hf]
        show b0_ (F.kp.set i 1) (i + 1) = _
        rw [c8_, ei_ (b := F.kp) (fun p hp => by rw [cC_ (by omega), if_neg (by omega)]), cC_ (by omega), if_pos rfl, if_pos rfl, List.append_nil]
       have hbd := hI.bd b
       have hwb : gI ws b ≤ 1000 := by
        have := mN_ ow ns b
        rw [← hws] at this
        omega
       have hoE := Ne.symm (hEoo b hb)
       have hmE : om ≠ (gS E b).o := fun hh => by have := hSh b hb; rw [← hh, hm] at this; cases this
       have hSh2 := (hSh.upd (v := gI F.hs b + 1) hnd (by omega) hb).set (x := .cells ((F.out.set i s).map vStr)) hEoo
       have q1 : ∀ X, (τ.set (gS E b).o X).heap oo = some (.cells (F.out.map vStr)) := fun X => by rw [Store.set_ne _ _ hoE]; exact ho5
       have R := hxh
       refine aa_ kr_ ?_
       iterate 7 (refine aL_S rfl rfl v_ ?_)
       refine av_ rfl rfl rfl v_ v_ h_ g_ rfl g_ c_ (by rfl) le_ (bs_ le_) ?_
       refine ac_ ?_
       have R := q1
       refine aa_ kr_ ?_
       iterate 4 (refine aL_S rfl rfl v_ ?_)
       refine av_ rfl rfl rfl v_ v_ h_ g_ rfl g_ c_ (by rfl) le_ (bs_ le_) ?_
       refine ac_ ?_
       refine aa_ kr_ ?_
       iterate 2 (refine aL_S rfl rfl v_ ?_)
       refine ac_ ?_
       refine aJ_ (ι := Store × Nat × Nat) (i := ⟨τ, i, k⟩) (((τ.set (gS E b).o (shC (cK E ws (F.hs.set b (gI F.hs b + 1)) b))).set oo (.cells ((F.out.set i s).map vStr))), i + 1, k) ?_ ?_ ?_ ?_
       ·show ow.length - (i + 1) < ow.length - i; omega
       ·exact ⟨hi1, by rw [hf]; exact hSh2, by rw [Store.set_ne _ _ hmo, Store.set_ne _ _ hmE]; exact hm, by rw [hf]; exact Store.set_get .., (hF.setOwn (hEn b hb)).setOwn hoo, by simp only [Store.set_tok]; exact hk, hks⟩
       ·have R := hkl; exact cv_
       ·exact Store.Wk.refl' (by rw [mk_ _ (by omega)]; simp only [List.map_set]; try rfl)
    ·replace hc10 := nm_ hc10
     have hf : f1 ns ws ow (i + 1) = F := by rw [hfs, f1s, if_neg (by rintro ⟨h1, h2⟩; first | omega | (rw [hid, Int.toNat_natCast] at h2; omega))]
     have hkl : b0_ (f1 ns ws ow (i + 1)).kp (i + 1) = b0_ F.kp i ++ [i] := by rw [hf, hlf]
     have R := hk
     refine aa_ kr_ ?_
     iterate 2 (refine aL_S rfl rfl v_ ?_)
     refine aw_ rfl rfl rfl g_ g_ rfl rfl h_ c2_ (by decide) ?_
     refine be_ rfl rfl rfl g_ g_ v_ h_ v_ c_ (by simp; omega) fun k68 hk68 => ?_
     (refine aL_S rfl rfl v_ ?_)
     refine ac_ ?_
     refine aa_ kr_ ?_
     iterate 2 (refine aL_S rfl rfl v_ ?_)
     refine ac_ ?_
     refine aJ_ (ι := Store × Nat × Nat) (i := ⟨τ, i, k⟩) (τ.newTok (some k) k68 (3, 1), i + 1, k68) ?_ ?_ ?_ ?_
     ·show ow.length - (i + 1) < ow.length - i; omega
     ·exact ⟨hi1, by rw [hf]; exact hSh, hm, by rw [hf]; exact ho5, hF.newTok (fun j hj => by cases hj; exact hks) hk68, Store.newTok_get .., hF.noTok hk68⟩
     ·have R := hkl; exact cv_
     ·exact Store.Wk.refl _
  ·replace hc7 := nm_ hc7
   refine ax_ ?_
   refine ag_ ?_
   refine ag_ ?_
   refine aq_ ?_
   refine ab_ ?_
   have hiN : i = ow.length := by omega
   subst hiN
   have hI1 := fz_ ow ns ow.length (Nat.le_refl _)
   rw [← hws] at hI1
   obtain ⟨F, hF1⟩ : ∃ F, f1 ns ws ow ow.length = F := ⟨_, rfl⟩
   rw [hF1] at hI1 hSh ho5 ⊢
   obtain ⟨L0, hL0⟩ : ∃ L0, b0_ F.kp ow.length = L0 := ⟨_, rfl⟩
   have hL0l := hO_ F.kp ow.length
   rw [hL0] at hL0l ⊢
   have hev : cl_ ow nm = (p2L ns ws ⟨F.hs, F.out⟩ L0).out := by
    unfold cl_ p2L
    rw [← hns, ← hws, hF1, hL0, if_neg (by omega)]
   have hst0 : Inv2 ns ws ow.length L0.length ⟨F.hs, F.out⟩ := ⟨hI1.lh, hI1.lo, hI1.bd, by have := hI1.sum; rw [hL0] at this; exact this⟩
   have hlh := hI1.lh
   have hL0i : ∀ p ∈ L0, p < ow.length := fun p hp => by
    rw [← hL0] at hp
    exact List.mem_range.1 (List.mem_filter.1 hp).1
   refine aa_ kr_ ?_
   refine aQ_ rfl rfl rfl g_ gl_ fun o12 ho12 => ?_
   repeat (rw [an_] at ho12; obtain ⟨_, ho12⟩ := ho12)
   refine ac_ ?_
   have hoT := aT_ ho5 ho12
   have hET : ∀ m, m < E.length → (gS E m).o ≠ o12 := fun m hm => aT_ (hSh m hm) ho12
   have hT0 : σ.heap o12 = none := hF.noObj ho12
   have hF1' := hF.alloc (x := .cells [.lit (.slice none 0 0)]) ho12
   obtain ⟨τ1, ht1⟩ : ∃ τ1, τ.set o12 (.cells [.lit (.slice none 0 0)]) = τ1 := ⟨_, rfl⟩
   have hSh1 : Shs τ1 E ws F.hs := by rw [← ht1]; exact hSh.set hET
   have ho51 : τ1.heap oo = some (.cells (F.out.map vStr)) := by rw [← ht1, Store.set_ne _ _ hoT]; exact ho5
   have hcq1 : CQ τ1 o12 [] [o12] := ⟨⟨_, by rw [← ht1]; exact Store.set_get .., .inl ⟨rfl, rfl⟩⟩, fun x hx => (by cases hx), by simp, by simp⟩
   rw [ht1] at hF1'
   refine ab_ ?_
   refine ab_ ?_
   refine aa_ kr_ ?_
   iterate 3 (refine aL_S rfl rfl v_ ?_)
   refine ac_ ?_
   refine al_ ?_
   refine ap_ (ι := Store × Nat × List Sh × List Nat) (fun ⟨υ, i, L, S⟩ => E.length - i) (fun ⟨υ, i, L, S⟩ => i ≤ E.length ∧ CQ υ o12 L S ∧ gF_ L ∧ L.Perm (((cS E ws F.hs).take i).filter wnt) ∧ Fr τ1 [o12] υ S) (fun ⟨υ, i, L, S⟩ => [(5, .msl oo 1 0 ow.length), (8, .own k 1 (L0.map fun (p : Nat) => vInt p)), (12, .ref o12 0), (70, .sl 1 (E.map fun x => .ref x.o 0) false), (71, vInt E.length), (72, vInt i)]) (fun ⟨υ, i, L, S⟩ => υ) (τ1, 0, [], [o12]) ?_ ?_ ?_ ?_
   ·exact ⟨Nat.zero_le _, hcq1, fun k _ hk => absurd hk (Nat.not_lt_zero k), by simp, .refl _ _⟩
   ·exact cv_
   ·exact Store.Wk.refl' ht1.symm
   rintro ⟨υ, i, L, S⟩ ⟨j1, j2, j3, j4, j5⟩
   simp only [ar_, au_]
   refine ab_ ?_
   refine aa_ kr_ ?_
   (refine aL_S rfl rfl v_ ?_)
   refine ac_ ?_
   refine ab_ ?_
   refine ad_ v_ (fun hc17 => ?_) (fun hc17 => ?_)
   ·replace hc17 := nm_ hc17
    refine ah_ ?_
    refine ab_ ?_
    refine al_ ?_
    refine ab_ ?_
    have hi1 : i < E.length := by omega
    have hgi := d5_ hi1
    have hEi : (gS E i).o ∉ [o12] := by simpa using hET i hi1
    have hxh : υ.heap (gS E i).o = some (.cells [vStr (gS E i).nm, vInt (gS E i).pl, vInt (gI F.hs i), vInt (gI ws i)]) := (j5.apart (hSh1 i hi1) hEi).2
    have hxe : υ.heap (cK E ws F.hs i).o = some (shC (cK E ws F.hs i)) := hxh
    have htk : ((cS E ws F.hs).take (i + 1)).filter wnt = ((cS E ws F.hs).take i).filter wnt ++ if gI F.hs i < gI ws i then [cK E ws F.hs i] else [] := by
     rw [List.take_succ, gi_ hi1, List.filter_append]
     congr 1
     show List.filter wnt [cK E ws F.hs i] = _
     rw [List.filter_cons]
     by_cases hh : gI F.hs i < gI ws i
     ·rw [if_pos hh, show wnt (cK E ws F.hs i) = true from decide_eq_true (p := (cK E ws F.hs i).has < (cK E ws F.hs i).want) hh]; rfl
     ·rw [if_neg hh, show wnt (cK E ws F.hs i) = false from decide_eq_false (p := (cK E ws F.hs i).has < (cK E ws F.hs i).want) hh]; rfl
    have hLl : L.length ≤ i := by
     rw [j4.length_eq]
     exact Nat.le_trans (List.length_filter_le ..) (by simp; omega)
    have R := hgi
    refine aa_ kr_ ?_
    iterate 3 (refine aL_S rfl rfl v_ ?_)
    refine ac_ ?_
    refine ab_ ?_
    have R := hxh
    refine aG_ (.op 0 0 (.op 1 0 (.op 2 0 (.op 3 0 (.op 4 0 (.op 5 0 (.op 6 0 (.op 7 0 (.op 8 0 .nil))))))))) Tryz.mixed kr_ ?_
    iterate 9 (refine dR_S o_ (by rfl) (by rfl) v_ ?_)
    refine aL_ ?_
    refine ad_ v_ (fun hc19 => ?_) (fun hc19 => ?_)
    ·replace hc19 := nm_ hc19
     have hp1 : ∀ L' : List Sh, L'.Perm (L ++ [cK E ws F.hs i]) → L'.Perm (((cS E ws F.hs).take (i + 1)).filter wnt) := fun L' h => by rw [htk, if_pos hc19]; exact h.trans (j4.append_right _)
     refine aa_ kr_ ?_
     iterate 3 (refine aL_S rfl rfl v_ ?_)
     refine aL_X rfl rfl (ae_ rfl rfl (.inr ⟨rfl, rfl, rfl⟩) g_ va_ (qj_ (x := cK E ws F.hs i) j2 j3 hxe (by omega)) ?_); rintro _ υ1 ⟨rfl, L', S', c1, c2, c3, c4⟩
     refine ac_ ?_
     refine aa_ kr_ ?_
     iterate 2 (refine aL_S rfl rfl v_ ?_)
     refine ac_ ?_
     refine aJ_ (ι := Store × Nat × List Sh × List Nat) (i := ⟨υ, i, L, S⟩) (υ1, i + 1, L', S') ?_ ?_ ?_ ?_
     ·show E.length - (i + 1) < E.length - i; omega
     ·exact ⟨hi1, c1, c3, hp1 L' c4, j5.trans c2⟩
     ·exact cv_
     ·exact Store.Wk.refl _
    ·replace hc19 := nm_ hc19
     have hp2 : L.Perm (((cS E ws F.hs).take (i + 1)).filter wnt) := by rw [htk, if_neg (by omega), List.append_nil]; exact j4
     refine ah_ ?_
     refine aa_ kr_ ?_
     iterate 2 (refine aL_S rfl rfl v_ ?_)
     refine ac_ ?_
     refine aJ_ (ι := Store × Nat × List Sh × List Nat) (i := ⟨υ, i, L, S⟩) (υ, i + 1, L, S) ?_ ?_ ?_ ?_
     ·show E.length - (i + 1) < E.length - i; omega
     ·exact ⟨hi1, j2, j3, hp2, j5⟩
     ·exact cv_
     ·exact Store.Wk.refl _
   ·replace hc17 := nm_ hc17
    refine ax_ ?_
    refine ag_ ?_
    refine ag_ ?_
    refine aq_ ?_
    refine ab_ ?_
    refine ab_ ?_
    have hiE : i = E.length := by omega
    subst hiE
    rw [List.take_of_length_le (by rw [ht_]; exact Nat.le_refl _)] at j4
    have ho5S := j5.apart ho51 (by simpa using hoT)
    obtain ⟨hShu, hES⟩ := hSh1.keep j5 (by simpa using hET)
    obtain ⟨hFu, hSn⟩ := hF1'.ownOf j5 (by simpa using hT0)
    refine aa_ kr_ ?_
    iterate 3 (refine aL_S rfl rfl v_ ?_)
    refine ac_ ?_
    refine al_ ?_
    refine ap_ (ι := Store × Nat × List Sh × List Nat) (fun ⟨υ, j, L, S⟩ => L0.length - j) (fun ⟨υ, j, L, S⟩ => j ≤ L0.length ∧ Inv2 ns ws ow.length (L0.length - j) (p2L ns ws ⟨F.hs, F.out⟩ (L0.take j)) ∧ Shs υ E ws (p2L ns ws ⟨F.hs, F.out⟩ (L0.take j)).hs ∧ υ.heap oo = some (.cells ((p2L ns ws ⟨F.hs, F.out⟩ (L0.take j)).out.map vStr)) ∧ CQ υ o12 L S ∧ gF_ L ∧ L.Perm ((cS E ws (p2L ns ws ⟨F.hs, F.out⟩ (L0.take j)).hs).filter wnt) ∧ Fr σ [] υ [] ∧ (∀ o ∈ S, σ.heap o = none) ∧ oo ∉ S ∧ ∀ m, m < E.length → (gS E m).o ∉ S) (fun ⟨υ, j, L, S⟩ => [(5, .msl oo 1 0 ow.length), (12, .ref o12 0), (90, .own k 1 (L0.map fun (p : Nat) => vInt p)), (91, vInt L0.length), (92, vInt j)]) (fun ⟨υ, j, L, S⟩ => υ) (υ, 0, L, S) ?_ ?_ ?_ ?_
    ·exact ⟨Nat.zero_le _, hst0, hShu, ho5S.2, j2, j3, j4, hFu, hSn, ho5S.1, hES⟩
    ·exact cv_
    ·exact Store.Wk.refl _
    rintro ⟨υ, j, L, S⟩ ⟨i1, i2, i3, i4, i5, i6, i7, i8, i9, i10, i11⟩
    simp only [ar_, au_]
    refine ab_ ?_
    refine aa_ kr_ ?_
    (refine aL_S rfl rfl v_ ?_)
    refine ac_ ?_
    refine ab_ ?_
    refine ad_ v_ (fun hc23 => ?_) (fun hc23 => ?_)
    ·replace hc23 := nm_ hc23
     refine ah_ ?_
     refine ab_ ?_
     refine al_ ?_
     refine ab_ ?_
     have hj1 : j < L0.length := by omega
     obtain ⟨p, hp⟩ : ∃ p, L0[j]? = some p := ⟨L0[j], List.getElem?_eq_getElem hj1⟩
     have hpl := hL0i p (List.mem_of_getElem? hp)
     have hGs : p2L ns ws ⟨F.hs, F.out⟩ (L0.take (j + 1)) = p2s ns ws (p2L ns ws ⟨F.hs, F.out⟩ (L0.take j)) p := by
      unfold p2L
      rw [List.take_succ, hp, List.foldl_append]
      rfl
     obtain ⟨G, hG⟩ : ∃ G, p2L ns ws ⟨F.hs, F.out⟩ (L0.take j) = G := ⟨_, rfl⟩
     rw [hG] at i2 i3 i4 i7 hGs
     obtain ⟨r, hr⟩ : ∃ r, L0.length - j = r + 1 := ⟨L0.length - j - 1, by omega⟩
     have hr2 : L0.length - (j + 1) = r := by omega
     rw [hr, hws] at i2
     obtain ⟨b, hb, hb1, hb2, hb3⟩ := i2.best hns0
     have hI2 := i2.step (p := p) hns0
     have hbd := i2.bd b
     have hlh := i2.lh
     have hlo := i2.lo
     rw [← hws] at hb hb2 hb3 hI2 hbd
     rw [← hGs, ← hr2] at hI2
     have hbE : b < E.length := by omega
     obtain ⟨s, hs⟩ := aA_ hb1
     have hsb : s = (gS E b).nm := by
      have := et_ hB hbE
      rw [← hns, hs] at this
      exact Option.some.inj this
     have hG2 : p2L ns ws ⟨F.hs, F.out⟩ (L0.take (j + 1)) = ⟨G.hs.set b (gI G.hs b + 1), G.out.set p (gS E b).nm⟩ := by
      rw [hGs]
      unfold p2s
      rw [hb, Int.toNat_natCast, hs, ← hsb]
      rfl
     have hwb : gI ws b ≤ 1000 := by
      have := mN_ ow ns b
      rw [← hws] at this
      omega
     obtain ⟨h0, hg⟩ := mf_ hB i6 i7 hbE hb2 (fun m hm => hb3 m (by omega))
     obtain ⟨oq, r1, r2, r3⟩ := i5.root h0
     rw [hg] at r3
     have hxh : υ.heap (gS E b).o = some (.cells [vStr (gS E b).nm, vInt (gS E b).pl, vInt (gI G.hs b), vInt (gI ws b)]) := i3 b hbE
     have hoE := Ne.symm (hEoo b hbE)
     have q1 : ∀ X, (υ.set oo X).heap (gS E b).o = some (.cells [vStr (gS E b).nm, vInt (gS E b).pl, vInt (gI G.hs b), vInt (gI ws b)]) := fun X => by rw [Store.set_ne _ _ (Ne.symm hoE)]; exact hxh
     have r3' : (L.map fun x => AVal.ref x.o 0)[0]? = some (.ref (gS E b).o 0) := r3
     have R := hp
     refine aa_ kr_ ?_
     iterate 3 (refine aL_S rfl rfl v_ ?_)
     refine ac_ ?_
     refine ab_ ?_
     have R := And.intro r1 (And.intro r2 r3')
     refine aa_ kr_ ?_
     iterate 4 (refine aL_S rfl rfl v_ ?_)
     refine ac_ ?_
     refine ab_ ?_
     have R := And.intro hxh i4
     refine aa_ kr_ ?_
     iterate 7 (refine aL_S rfl rfl v_ ?_)
     refine av_ rfl rfl rfl v_ v_ h_ g_ rfl g_ c_ (by rfl) le_ (bs_ le_) ?_
     refine ac_ ?_
     refine ab_ ?_
     have R := q1
     refine aa_ kr_ ?_
     iterate 7 (refine aL_S rfl rfl v_ ?_)
     refine av_ rfl rfl rfl v_ v_ h_ g_ rfl g_ c_ (by rfl) le_ (bs_ le_) ?_
     refine ac_ ?_
     obtain ⟨υ2, hu2⟩ : ∃ υ2, (υ.set oo (.cells ((G.out.map vStr).set p (vStr (gS E b).nm)))).set (gS E b).o (.cells ([vStr (gS E b).nm, vInt (gS E b).pl, vInt (gI G.hs b), vInt (gI ws b)].set 2 (vInt (gI G.hs b + 1)))) = υ2 := ⟨_, rfl⟩
     rw [hu2]
     obtain ⟨y, hy⟩ : ∃ y, y = cK E ws (G.hs.set b (gI G.hs b + 1)) b := ⟨_, rfl⟩
     have hyo : y.o = (gS E b).o := by rw [hy]; rfl
     have hyw : wnt y = decide (gI G.hs b + 1 < gI ws b) := by
      rw [hy]
      unfold wnt cK
      show decide (gI (G.hs.set b (gI G.hs b + 1)) b < gI ws b) = _
      rw [cC_ (by omega), if_pos rfl]
     have hu2' : υ2 = (υ.set oo (.cells ((G.out.set p (gS E b).nm).map vStr))).set y.o (shC y) := by rw [← hu2, hy, mk_ _ (by omega), List.map_set]; rfl
     have hxh2 : υ2.heap (gS E b).o = some (.cells [vStr (gS E b).nm, vInt (gS E b).pl, vInt (gI G.hs b + 1), vInt (gI ws b)]) := by rw [← hu2]; exact Store.set_get ..
     have hoo2 : υ2.heap oo = some (.cells ((G.out.set p (gS E b).nm).map vStr)) := by rw [hu2', hyo, Store.set_ne _ _ hoE]; exact Store.set_get ..
     have hqn' := p9_ hnd i7
     have hcq : CQ υ2 o12 (L.set 0 y) S := by
      rw [hu2']
      refine i5.upd h0 hqn'.1 (by rw [hyo, hg]; rfl) (by rw [hyo]; exact i11 b hbE) i10 fun x hx => ?_
      obtain ⟨m, hm1, hm2⟩ := hqn'.2 x hx
      rw [hm2]
      exact hEoo m hm1
     have hSh2 : Shs υ2 E ws (G.hs.set b (gI G.hs b + 1)) := by
      rw [hu2', hyo, hy]
      exact (i3.set hEoo).upd hnd (by omega) hbE
     have hF2 : Fr σ [] υ2 [] := by
      rw [hu2', hyo]
      exact (i8.setOwn hoo).setOwn (hEn b hbE)
     have hqq := rQ_ (y := y) (gi_ hbE) (decide_eq_true (p := (cK E ws G.hs b).has < (cK E ws G.hs b).want) hb2) h0 hg i7
     rw [hy, ← q7_ hbE (by omega), ← hy, hyw] at hqq
     have hgy : gS (L.set 0 y) 0 = y := by rw [hK_ h0, if_pos rfl]
     refine ab_ ?_
     have R := hxh2
     refine aG_ (.op 0 0 (.op 1 0 (.op 2 0 (.op 3 0 (.op 4 0 (.op 5 0 (.op 6 0 (.op 7 0 (.op 8 0 .nil))))))))) Tryz.mixed kr_ ?_
     iterate 9 (refine dR_S o_ (by rfl) (by rfl) v_ ?_)
     refine aL_ ?_
     refine ad_ v_ (fun hc28 => ?_) (fun hc28 => ?_)
     ·replace hc28 := nm_ hc28
      refine aa_ kr_ ?_
      (refine aL_S rfl rfl v_ ?_)
      refine aL_X rfl rfl (ae_ rfl rfl (.inr ⟨rfl, rfl, rfl⟩) g_ va_ (rX_ (y := y) hcq i6 h0) ?_); rintro _ υ1 ⟨rfl, L', S', c1, c2, c3, c4⟩
      refine ac_ ?_
      have k12 := hSh2.keep c2 i11
      have k1 := k12.1
      have k4 := k12.2
      have k2 := c2.apart hoo2 i10
      have k3 := hF2.ownOf c2 i9
      refine aa_ kr_ ?_
      iterate 2 (refine aL_S rfl rfl v_ ?_)
      refine ac_ ?_
      refine aJ_ (ι := Store × Nat × List Sh × List Nat) (i := ⟨υ, j, L, S⟩) (υ1, j + 1, L', S') ?_ ?_ ?_ ?_
      ·show L0.length - (j + 1) < L0.length - j; omega
      ·exact ⟨hj1, hI2, by rw [hG2]; exact k1, by rw [hG2]; exact k2.2, c1, c3, by rw [hG2]; exact hqq.1 (decide_eq_true hc28) L' c4, k3.1, k3.2, k2.1, k4⟩
      ·exact cv_
      ·exact Store.Wk.refl _
     ·replace hc28 := nm_ hc28
      refine aa_ kr_ ?_
      (refine aL_S rfl rfl v_ ?_)
      refine aL_X rfl rfl (ae_ rfl rfl (.inr ⟨rfl, rfl, rfl⟩) g_ va_ (rY_ hcq (pd_ i6 h0) (by simpa using h0)) ?_); rintro _ υ1 ⟨L', S', c1, c2, c3, c4⟩
      refine ac_ ?_
      rw [hgy] at c4
      have k12 := hSh2.keep c2 i11
      have k1 := k12.1
      have k4 := k12.2
      have k2 := c2.apart hoo2 i10
      have k3 := hF2.ownOf c2 i9
      refine aa_ kr_ ?_
      iterate 2 (refine aL_S rfl rfl v_ ?_)
      refine ac_ ?_
      refine aJ_ (ι := Store × Nat × List Sh × List Nat) (i := ⟨υ, j, L, S⟩) (υ1, j + 1, L', S') ?_ ?_ ?_ ?_
      ·show L0.length - (j + 1) < L0.length - j; omega
      ·exact ⟨hj1, hI2, by rw [hG2]; exact k1, by rw [hG2]; exact k2.2, c1, c3, by rw [hG2]; exact hqq.2 (decide_eq_false (by omega)) L' c4, k3.1, k3.2, k2.1, k4⟩
      ·exact cv_
      ·exact Store.Wk.refl _
    ·replace hc23 := nm_ hc23
     refine ax_ ?_
     refine ag_ ?_
     refine ag_ ?_
     refine aq_ ?_
     refine ab_ ?_
     have hjL : j = L0.length := by omega
     subst hjL
     rw [List.take_length, ← hev] at i4
     have hevl : (cl_ ow nm).length = ow.length := by
      rw [hev, List.take_length] at *
      exact i2.lo
     have R := i4
     refine aa_ kr_ ?_
     refine aL_X rfl rfl (ga_ (by first | exact .inl rfl | exact .inr rfl) va_ h_ (l := (cl_ ow nm).map vStr) (by rw [lo_]; exact List.take_of_length_le (by simp [hevl])) (by simp [hevl]) (by intro x hx; obtain ⟨y, _, rfl⟩ := List.mem_map.1 hx; rfl) ?_)
     (refine aL_S rfl rfl v_ ?_)
     refine ac_ ?_
     refine am_ ?_
     refine ai_ (σ' := υ.del oo) va_ (Store.Wk.refl _) ⟨rfl, i8.delOwn hoo⟩
end Go.Proofs.YtkcmbjodladflaaGreatDoor
end

section
set_option linter.all false
set_option maxRecDepth 100000
namespace Go.Ab
structure Mv where
 part : Nat
 was : ByteArray
 now : ByteArray
@[reducible] def sMv (x : Mv) : AVal := .agg [vInt x.part, .lit (.string x.was), .lit (.string x.now)]
structure Adm where
 kind : Int
 ten : ByteArray
 bkt : ByteArray
 fld : ByteArray
 txt : ByteArray
 n : Int
 m : Mbr
@[reducible] def sAdm (a : Adm) : AVal := .agg [vInt a.kind, .lit (.string a.ten), .lit (.string a.bkt), .lit (.string a.fld), .lit (.string a.txt), vInt a.n, .lit (.string a.m.name), .lit (.string a.m.rack), .lit (.string a.m.zone), .lit (.bool a.m.up)]
end Go.Ab
namespace Go.Proofs.YtkcmbjodladflaaGreatDoor
open Go.Ab
def oA_ : ByteArray := ⟨#[103, 111, 110, 101]⟩
def keyN (a : ByteArray) : ByteArray := cJ_ [a0_, a]
def valM (m : Mbr) : ByteArray × Int := if aI_ m.rack = true ∧ aI_ m.zone = true then (cJ_ [m.rack, m.zone, if m.up = true then bsUp else e6_], 0) else (⟨#[]⟩, 1)
def accK (a b c : ByteArray) : ByteArray := cJ_ [er_, a, b, c]
def du_ (l : List Ent) (who a b f : ByteArray) (n : Int) : Ent × Int := if aI_ a = true ∧ aI_ b = true ∧ mayP f n = true then setS l who (prpK a b f) (B (Lib.itoa n)) else (e0_, 1)
def dp_ (l : List Ent) (who a b u : ByteArray) (n : Int) : Ent × Int := if aI_ a = true ∧ aI_ b = true ∧ aI_ u = true ∧ 0 ≤ n ∧ n ≤ 7 then setS l who (accK a b u) (txtA n.toNat) else (e0_, 1)
def bj_ : Nat → List ByteArray → List ByteArray → List Mv
 |k, x :: a, y :: b => if x = y then bj_ (k + 1) a b else ⟨k, x, y⟩ :: bj_ (k + 1) a b
 |_, _, _ => []
def eE_ (a b : List ByteArray) : List Mv := bj_ 0 a b
def ca_ (s : List Ent × Int) (r : Ent × Int) : List Ent × Int := if s.2 = 0 then (s.1 ++ [r.1], r.2) else s
def cL_ (l : List Ent) (who : ByteArray) (m : Mbr) : List Ent × Int := if aI_ m.name = true ∧ (valM m).2 = 0 then ca_ ([], 0) (setS l who (keyN m.name) (valM m).1) else ([], 1)
def e3_ (l : List Ent) (who node : ByteArray) : List Ent × Int := if hasT (nmsS l) node = true then ca_ ([], 0) (setS l who (keyN node) oA_) else ([], 5)
def clMv (l : List Ent) (who : ByteArray) (ms : List Mv) : List Ent × Int := ms.foldl (fun s x => ca_ s (setS l who (br_ x.part) x.now)) ([], 0)
def bh_ (l : List Ent) : List Mv := eE_ (aF_ l 16) (cl_ (aF_ l 16) (nmsS l))
def cR_ (l : List Ent) (who : ByteArray) : List Ent × Int := if (bT_ l).length = 0 then ([], 5) else clMv l who (bh_ l)
def cj_ (l : List Ent) (who : ByteArray) (a : Adm) : List Ent × Int :=
 if a.kind = 1 then ca_ ([], 0) (secS l who a.ten a.txt) else if a.kind = 2 then ca_ ([], 0) (dt_ l who a.ten a.fld a.n)
 else if a.kind = 3 then ca_ ([], 0) (du_ l who a.ten a.bkt a.fld a.n) else if a.kind = 4 then ca_ ([], 0) (dp_ l who a.ten a.bkt a.fld a.n)
 else if a.kind = 5 then cL_ l who a.m else if a.kind = 6 then e3_ l who a.m.name else if a.kind = 7 then cR_ l who else ([], 1)
def adS (l : List Ent) (who : ByteArray) (a : Adm) : List Ent × Int := if bc_ l = true ∧ aI_ who = true then (if (cj_ l who a).2 = 0 then ((cj_ l who a).1, 0) else ([], (cj_ l who a).2)) else ([], 1)
theorem ff_ (ow nm : List ByteArray) : (cl_ ow nm).length = ow.length := by
 unfold cl_
 split
 ·simp
 ·rename_i h
  have hI := fz_ ow (a2_ nm) ow.length (Nat.le_refl _)
  have hp : ∀ (l : List Nat) (st : S2), st.out.length = ow.length → (l.foldl (p2s (a2_ nm) (wsS ow (a2_ nm))) st).out.length = ow.length := by
   intro l
   induction l with
   |nil => intro st h; exact h
   |cons x l ih => intro st h; exact ih _ (by unfold p2s; simpa using h)
  exact hp _ _ hI.lo
theorem fk_ : ∀ (k : Nat) (a b : List ByteArray), (bj_ k a b).length ≤ a.length
 |k, [], b => by unfold bj_; simp
 |k, x :: a, [] => by unfold bj_; simp
 |k, x :: a, y :: b => by
  have := fk_ (k + 1) a b
  unfold bj_
  split
  ·simp; omega
  ·simp; omega
theorem hT_ : ∀ {a b : List ByteArray} {k j : Nat} {x y : ByteArray}, a[k]? = some x → b[k]? = some y → bj_ j (a.take (k + 1)) (b.take (k + 1)) = bj_ j (a.take k) (b.take k) ++ (if x = y then [] else [⟨j + k, x, y⟩])
 |[], b, k, j, x, y, hx, _ => by simp at hx
 |u :: a, [], k, j, x, y, _, hy => by simp at hy
 |u :: a, v :: b, 0, j, x, y, hx, hy => by
  simp only [List.getElem?_cons_zero, Option.some.injEq] at hx hy
  subst hx; subst hy
  simp only [List.take_succ_cons, List.take_zero, bj_]
  split <;> simp
 |u :: a, v :: b, k + 1, j, x, y, hx, hy => by
  simp only [List.getElem?_cons_succ] at hx hy
  have ih := hT_ (j := j + 1) hx hy
  simp only [List.take_succ_cons, bj_] at ih ⊢
  rw [ih, show j + 1 + k = j + (k + 1) by omega]
  split <;> simp
theorem dU_ : ∀ {a b : List ByteArray} {j : Nat} {x : Mv}, x ∈ bj_ j a b → j ≤ x.part ∧ x.part < j + a.length ∧ b[x.part - j]? = some x.now
 |[], b, j, x, h => by unfold bj_ at h; simp at h
 |u :: a, [], j, x, h => by unfold bj_ at h; simp at h
 |u :: a, v :: b, j, x, h => by
  have key : x ∈ bj_ (j + 1) a b → j ≤ x.part ∧ x.part < j + (u :: a).length ∧ (v :: b)[x.part - j]? = some x.now := fun h => by
   obtain ⟨h1, h2, h3⟩ := dU_ h
   refine ⟨by omega, by rw [List.length_cons]; omega, ?_⟩
   rw [show x.part - j = (x.part - (j + 1)) + 1 by omega, List.getElem?_cons_succ]; exact h3
  unfold bj_ at h
  split at h
  ·exact key h
  ·rcases List.mem_cons.1 h with rfl | h
   ·exact ⟨Nat.le_refl _, by rw [List.length_cons]; show j < _; omega, by simp⟩
   ·exact key h
theorem nl_ (l : List Ent) (who : ByteArray) (ms : List Mv) : (clMv l who ms).1.length ≤ ms.length := by
 have key : ∀ (ms : List Mv) (s : List Ent × Int), (ms.foldl (fun s x => ca_ s (setS l who (br_ x.part) x.now)) s).1.length ≤ s.1.length + ms.length := by
  intro ms
  induction ms with
  |nil => intro s; exact Nat.le_refl _
  |cons x ms ih =>
   intro s
   rw [List.foldl_cons]
   refine Nat.le_trans (ih _) ?_
   unfold ca_
   split <;> simp <;> omega
 have := key ms ([], 0)
 simpa [clMv] using this
theorem k4_ {l : List Ent} {who : ByteArray} {ms : List Mv} {k : Nat} {x : Mv} (h : ms[k]? = some x) : clMv l who (ms.take (k + 1)) = ca_ (clMv l who (ms.take k)) (setS l who (br_ x.part) x.now) := by
 unfold clMv
 rw [aX_ h, List.foldl_append]; rfl
end Go.Proofs.YtkcmbjodladflaaGreatDoor
end

section
set_option linter.all false
set_option maxRecDepth 100000
namespace Go.Proofs.YtkcmbjodladflaaGreatDoor
open Go.Ab
theorem mL_ {m : Mbr} {σ : Store} (h1 : m.rack.size ≤ 100000) (h2 : m.zone.size ≤ 100000) : ao_ Tryz.prog 49 [sMbr m] σ fun v σ' => v = .tup [vStr (valM m).1, vInt (valM m).2] ∧ σ = σ' := by
 obtain ⟨u, hu⟩ : ∃ u, (if m.up = true then bsUp else e6_) = u := ⟨_, rfl⟩
 have huz : u.size ≤ 4 := by rw [← hu]; split <;> decide
 refine aj_ Tryz.func49 rfl Tryz.ntmps49 (congrArg Array.toList Tryz.results49) (by simp only [List.length_cons, List.length_nil]; decide) ?_; simp only [af_, ak_, Nat.reduceAdd]
 refine ab_ ?_
 refine aa_ kr_ ?_
 refine bb_ rfl rfl rfl v_ rfl g_ fun o1 ho1 => ?_
 repeat (rw [an_] at ho1; obtain ⟨_, ho1⟩ := ho1)
 iterate 2 (refine aL_S rfl rfl v_ ?_)
 refine ac_ ?_
 refine ab_ ?_
 refine ab_ ?_
 refine aa_ kr_ ?_
 iterate 2 (refine aL_S rfl rfl v_ ?_)
 refine aL_X rfl rfl (ae_ rfl rfl (.inr ⟨rfl, rfl, rfl⟩) g_ va_ (bf_ (by omega)) ?_); rintro _ _ ⟨rfl, rfl⟩
 iterate 2 (refine aL_S rfl rfl v_ ?_)
 refine ay_ rfl rfl v_ rfl vg_ ?_
 refine ay_ rfl rfl v_ rfl vg_ ?_
 refine bQ_ rfl rfl v_ rfl (fun hb => aK_ (by rfl) (by rfl) (.inr ⟨by rfl, by rfl, by rfl⟩) g_ cg_ (bf_ (by omega))) ?_
 refine ay_ rfl rfl v_ rfl vg_ ?_
 (refine aL_S rfl rfl v_ ?_)
 refine ac_ ?_
 refine ad_ v_ (fun hc1 => ?_) (fun hc1 => ?_)
 ·replace hc1 := nm_ hc1
  refine ab_ ?_
  refine aa_ kr_ ?_
  iterate 2 (refine aL_S rfl rfl v_ ?_)
  refine ac_ ?_
  refine am_ ?_
  refine ai_ (σ' := σ) v_ sub_ ?_
  exact ⟨by rw [valM, if_neg (by rintro ⟨g1, g2⟩; simp [g1, g2] at hc1)], rfl⟩
 ·replace hc1 := nm_ hc1
  refine ah_ ?_
  refine ab_ ?_
  refine aa_ kr_ ?_
  (refine aL_S rfl rfl v_ ?_)
  refine ac_ ?_
  refine ab_ ?_
  refine ab_ ?_
  refine aa_ kr_ ?_
  iterate 2 (refine aL_S rfl rfl v_ ?_)
  refine ac_ ?_
  refine ad_ v_ (fun hc4 => ?_) (fun hc4 => ?_)
  ·replace hc4 := nm_ hc4
   obtain rfl : u = ⟨#[117, 112]⟩ := by rw [← hu, if_pos hc4]; rfl
   refine aa_ kr_ ?_
   (refine aL_S rfl rfl v_ ?_)
   refine ac_ ?_
   refine ab_ ?_
   refine aa_ kr_ ?_
   iterate 5 (refine aL_S rfl rfl v_ ?_)
   refine aw_ rfl rfl rfl g_ g_ rfl rfl h_ c2_ (by decide) ?_
   refine aL_X rfl rfl (ae_ rfl rfl (.inr ⟨rfl, rfl, rfl⟩) g_ va_ (bJ_ (l := [m.rack, m.zone, _]) (by simp) (by simp only [List.flatMap_cons, List.flatMap_nil, List.append_nil, List.length_append, aB_]; omega)) ?_); rintro _ _ ⟨rfl, rfl⟩
   iterate 2 (refine aL_S rfl rfl v_ ?_)
   refine ac_ ?_
   refine am_ ?_
   refine ai_ (σ' := σ) v_ sub_ ?_
   exact ⟨by rw [valM, if_pos hc1, hu], rfl⟩
  ·replace hc4 := nm_ hc4
   obtain rfl : u = ⟨#[100, 111, 119, 110]⟩ := by rw [← hu, if_neg (by simp [hc4])]; rfl
   refine ah_ ?_
   refine ab_ ?_
   refine aa_ kr_ ?_
   iterate 5 (refine aL_S rfl rfl v_ ?_)
   refine aw_ rfl rfl rfl g_ g_ rfl rfl h_ c2_ (by decide) ?_
   refine aL_X rfl rfl (ae_ rfl rfl (.inr ⟨rfl, rfl, rfl⟩) g_ va_ (bJ_ (l := [m.rack, m.zone, _]) (by simp) (by simp only [List.flatMap_cons, List.flatMap_nil, List.append_nil, List.length_append, aB_]; omega)) ?_); rintro _ _ ⟨rfl, rfl⟩
   iterate 2 (refine aL_S rfl rfl v_ ?_)
   refine ac_ ?_
   refine am_ ?_
   refine ai_ (σ' := σ) v_ sub_ ?_
   exact ⟨by rw [valM, if_pos hc1, hu], rfl⟩
theorem oJ_ {a : ByteArray} {σ : Store} (ha : a.size ≤ 400000) : ao_ Tryz.prog 52 [vStr a] σ fun v σ' => v = vStr (keyN a) ∧ σ = σ' := by
 refine aj_ Tryz.func52 rfl Tryz.ntmps52 (congrArg Array.toList Tryz.results52) (by simp only [List.length_cons, List.length_nil]; decide) ?_; simp only [af_, ak_, Nat.reduceAdd]
 refine ab_ ?_
 refine aa_ kr_ ?_
 (refine aL_S rfl rfl v_ ?_)
 refine ac_ ?_
 refine ab_ ?_
 refine aa_ kr_ ?_
 (refine aL_S rfl rfl v_ ?_)
 refine aw_ rfl rfl rfl g_ g_ rfl rfl h_ c2_ (by decide) ?_
 refine aL_X rfl rfl (ae_ rfl rfl (.inr ⟨rfl, rfl, rfl⟩) g_ va_ (bJ_ (l := [a0_, a]) (by simp) (by simp [aB_, show (Lb a0_).length = 4 from rfl]; omega)) ?_); rintro _ _ ⟨rfl, rfl⟩
 (refine aL_S rfl rfl v_ ?_)
 refine ac_ ?_
 refine am_ ?_
 refine ai_ (σ' := σ) v_ sub_ ?_
 exact ⟨rfl, rfl⟩
theorem oL_ {ms : List Mbr} {t : Bool} {σ : Store} (hl : ms.length ≤ 1000) : ao_ Tryz.prog 51 [.sl 4 (ms.map sMbr) t] σ fun v σ' => v = .sl 1 ((ms.map Mbr.name).map vStr) false ∧ σ = σ' := by
 refine iq_ (sz := 1) ?_ (fun y hy => by obtain ⟨s, _, rfl⟩ := List.mem_map.1 hy; rfl)
 refine aj_ Tryz.func51 rfl Tryz.ntmps51 (congrArg Array.toList Tryz.results51) (by simp only [List.length_cons, List.length_nil]; decide) ?_; simp only [af_, ak_, Nat.reduceAdd]
 refine ab_ ?_
 refine aa_ kr_ ?_
 (refine aL_S rfl rfl v_ ?_)
 refine ac_ ?_
 refine ab_ ?_
 refine aa_ kr_ ?_
 (refine aL_S rfl rfl v_ ?_)
 refine ac_ ?_
 refine ab_ ?_
 refine ab_ ?_
 refine aa_ kr_ ?_
 iterate 3 (refine aL_S rfl rfl v_ ?_)
 refine ac_ ?_
 refine al_ ?_
 refine ap_ (ι := Store × AVal × Nat) (fun ⟨τ, g, k⟩ => ms.length - k) (fun ⟨τ, g, k⟩ => k ≤ ms.length ∧ CBp σ τ 1 (((ms.take k).map Mbr.name).map vStr) g) (fun ⟨τ, g, k⟩ => [(3, g), (6, .sl 4 (ms.map sMbr) t), (7, vInt ms.length), (8, vInt k)]) (fun ⟨τ, g, k⟩ => τ) (σ, vNil, 0) ?_ ?_ ?_ ?_
 ·exact ⟨Nat.zero_le _, .inl ⟨rfl, rfl, rfl⟩⟩
 ·exact cv_
 ·exact Store.Wk.refl _
 rintro ⟨τ, g, k⟩ ⟨hk, hC⟩
 simp only [ar_, au_]
 refine ab_ ?_
 refine aa_ kr_ ?_
 (refine aL_S rfl rfl v_ ?_)
 refine ac_ ?_
 refine ab_ ?_
 refine ad_ v_ (fun hc3 => ?_) (fun hc3 => ?_)
 ·replace hc3 := nm_ hc3
  refine ah_ ?_
  refine ab_ ?_
  refine al_ ?_
  refine ab_ ?_
  obtain ⟨x, hx⟩ := aA_ (l := ms) (k := k) (by omega)
  have hle : ((ms.take k).map Mbr.name).length ≤ 1000 := by rw [List.length_map, List.length_take]; omega
  have R := hx
  refine aa_ kr_ ?_
  iterate 2 (refine aL_S rfl rfl v_ ?_)
  refine aQ_ rfl rfl rfl g_ gl_ fun o5 ho5 => ?_
  repeat (rw [an_] at ho5; obtain ⟨_, ho5⟩ := ho5)
  refine av_ rfl rfl rfl v_ v_ h_ g_ rfl g_ c_ (by rfl) le_ v_ ?_
  refine ac_ ?_
  skip
  have n5 := b5_ hC ho5
  have hC1 := cr_ (x := .cells (sMbr d1_).cells) (y := .cells (sMbr x).cells) hC ho5
  refine aa_ kr_ ?_
  iterate 3 (refine aL_S rfl rfl v_ ?_)
  refine aw_ rfl rfl rfl g_ g_ rfl rfl h_ c2_ (by decide) ?_
  refine aL_X rfl rfl (bz_ rfl g_ g_ hC1 va_ (fun y hy => by obtain ⟨s, _, rfl⟩ := List.mem_map.1 hy; rfl) va_ c_ (by simp only [List.length_map, List.length_singleton] at *; omega) fun a' σ' hC3 => ?_)
  rw [show ((ms.take k).map Mbr.name).map vStr ++ [vStr x.name] = ((ms.take k).map Mbr.name ++ [x].map Mbr.name).map vStr from by simp] at hC3
  obtain ⟨τ2, hC5, hs2⟩ := b2_ hC3 n5
  (refine aL_S rfl rfl v_ ?_)
  refine ac_ ?_
  refine aa_ kr_ ?_
  iterate 2 (refine aL_S rfl rfl v_ ?_)
  refine ac_ ?_
  refine aJ_ (ι := Store × AVal × Nat) (i := ⟨τ, g, k⟩) (τ2, a', k + 1) ?_ ?_ ?_ ?_
  ·show ms.length - (k + 1) < ms.length - k; omega
  ·exact ⟨by show k + 1 ≤ ms.length; omega, by rw [aX_ hx, List.map_append]; exact hC5⟩
  ·exact cv_
  ·exact hs2.wk
 ·replace hc3 := nm_ hc3
  refine ax_ ?_
  refine ag_ ?_
  refine ag_ ?_
  refine aq_ ?_
  refine ab_ ?_
  obtain rfl : k = ms.length := by omega
  rw [List.take_length] at hC
  refine aa_ kr_ ?_
  iterate 2 (refine aL_S rfl rfl v_ ?_)
  refine ac_ ?_
  refine am_ ?_
  refine ai_ v_ (Store.Wk.refl _) ?_
  exact ⟨_, hC, .refl _⟩
theorem szMv (l : List Mv) : ∀ y ∈ l.map sMv, y.cells.length = 3 := fun y hy => by
 obtain ⟨x, _, rfl⟩ := List.mem_map.1 hy
 rfl
theorem rO_ {a b : List ByteArray} {ta tb : Bool} {σ : Store} (ha : a.length ≤ 1000) (hb : b.length = a.length) : ao_ Tryz.prog 96 [.sl 1 (a.map vStr) ta, .sl 1 (b.map vStr) tb] σ fun v σ' => v = .sl 3 ((eE_ a b).map sMv) false ∧ σ = σ' := by
 refine iq_ (sz := 3) ?_ (szMv _)
 have hmn : min (a.length : Int) (b.length : Int) = (a.length : Int) := by omega
 refine aj_ Tryz.func96 rfl Tryz.ntmps96 (congrArg Array.toList Tryz.results96) (by simp only [List.length_cons, List.length_nil]; decide) ?_; simp only [af_, ak_, Nat.reduceAdd]
 refine ab_ ?_
 refine aa_ kr_ ?_
 (refine aL_S rfl rfl v_ ?_)
 refine ac_ ?_
 refine ab_ ?_
 refine aa_ kr_ ?_
 (refine aL_S rfl rfl v_ ?_)
 refine ac_ ?_
 refine ab_ ?_
 refine ab_ ?_
 have R := hmn
 refine aa_ kr_ ?_
 iterate 6 (refine aL_S rfl rfl v_ ?_)
 refine ac_ ?_
 refine al_ ?_
 refine ap_ (ι := Store × AVal × Nat) (fun ⟨τ, g, k⟩ => a.length - k) (fun ⟨τ, g, k⟩ => k ≤ a.length ∧ CBp σ τ 3 ((bj_ 0 (a.take k) (b.take k)).map sMv) g) (fun ⟨τ, g, k⟩ => [(0, .sl 1 (a.map vStr) ta), (1, .sl 1 (b.map vStr) tb), (5, g), (11, vInt a.length), (12, vInt k)]) (fun ⟨τ, g, k⟩ => τ) (σ, vNil, 0) ?_ ?_ ?_ ?_
 ·exact ⟨Nat.zero_le _, .inl ⟨rfl, rfl, rfl⟩⟩
 ·have R := hmn; exact cv_
 ·exact Store.Wk.refl _
 rintro ⟨τ, g, k⟩ ⟨hk, hC⟩
 simp only [ar_, au_]
 refine ab_ ?_
 refine aa_ kr_ ?_
 (refine aL_S rfl rfl v_ ?_)
 refine ac_ ?_
 refine ab_ ?_
 refine ad_ v_ (fun hc3 => ?_) (fun hc3 => ?_)
 ·replace hc3 := nm_ hc3
  refine ah_ ?_
  refine ab_ ?_
  refine al_ ?_
  refine ab_ ?_
  refine aa_ kr_ ?_
  iterate 2 (refine aL_S rfl rfl v_ ?_)
  refine ac_ ?_
  refine ab_ ?_
  obtain ⟨x, hx⟩ := aA_ (l := a) (k := k) (by omega)
  obtain ⟨y, hy⟩ := aA_ (l := b) (k := k) (by omega)
  have hst := hT_ (j := 0) hx hy
  have hle := fk_ 0 (a.take k) (b.take k)
  rw [List.length_take] at hle
  have R := And.intro hx hy
  refine aG_ (.op 0 0 (.op 1 0 (.op 2 0 (.op 3 0 (.op 4 0 (.op 5 0 (.op 6 0 (.op 7 0 (.op 8 0 .nil))))))))) Tryz.mixed kr_ ?_
  iterate 9 (refine dR_S o_ (by rfl) (by rfl) v_ ?_)
  refine aL_ ?_
  refine ad_ v_ (fun hc5 => ?_) (fun hc5 => ?_)
  ·replace hc5 := nm_ hc5
   have hsn : bj_ 0 (a.take (k + 1)) (b.take (k + 1)) = bj_ 0 (a.take k) (b.take k) ++ [⟨k, x, y⟩] := by rw [hst, if_neg hc5, Nat.zero_add]
   have R := And.intro hx hy
   refine aG_ (.op 0 0 (.op 1 0 (.op 2 0 (.op 3 0 (.op 4 0 (.op 5 0 (.op 6 0 (.op 7 0 (.op 8 0 (.op 9 0 (.op 10 0 (.op 11 1 (.op 12 2 (.op 13 0 .nil)))))))))))))) Tryz.mixed kr_ ?_
   iterate 11 (refine dR_S o_ (by rfl) (by rfl) v_ ?_)
   refine dR_X o_ (by rfl) (by rfl) (aD_ (by rfl) g_ g_ (by rfl) (by rfl) h_ c2_ (by decide) ⟨sub_, ?_⟩)
   refine dR_T o_ (by rfl) (by rfl) (bz_ (by rfl) g_ g_ hC va_ (szMv _) va_ c_ (by simp; omega) fun a' τ2 hC3 => ?_)
   rw [show (bj_ 0 (a.take k) (b.take k)).map sMv ++ [sMv ⟨k, x, y⟩] = (bj_ 0 (a.take k) (b.take k) ++ [(⟨k, x, y⟩ : Mv)]).map sMv from by simp] at hC3
   (refine dR_S o_ (by rfl) (by rfl) v_ ?_)
   refine aL_ ?_
   refine aa_ kr_ ?_
   iterate 2 (refine aL_S rfl rfl v_ ?_)
   refine ac_ ?_
   refine aJ_ (ι := Store × AVal × Nat) (i := ⟨τ, g, k⟩) (τ2, a', k + 1) ?_ ?_ ?_ ?_
   ·show a.length - (k + 1) < a.length - k; omega
   ·exact ⟨by show k + 1 ≤ a.length; omega, by rw [hsn]; exact hC3⟩
   ·exact cv_
   ·exact Store.Wk.refl _
  ·replace hc5 := nm_ hc5
   have hsn : bj_ 0 (a.take (k + 1)) (b.take (k + 1)) = bj_ 0 (a.take k) (b.take k) := by rw [hst, if_pos (by simpa using hc5), List.append_nil]
   refine ah_ ?_
   refine aa_ kr_ ?_
   iterate 2 (refine aL_S rfl rfl v_ ?_)
   refine ac_ ?_
   refine aJ_ (ι := Store × AVal × Nat) (i := ⟨τ, g, k⟩) (τ, g, k + 1) ?_ ?_ ?_ ?_
   ·show a.length - (k + 1) < a.length - k; omega
   ·exact ⟨by show k + 1 ≤ a.length; omega, by rw [hsn]; exact hC⟩
   ·exact cv_
   ·exact sub_
 ·replace hc3 := nm_ hc3
  refine ax_ ?_
  refine ag_ ?_
  refine ag_ ?_
  refine aq_ ?_
  refine ab_ ?_
  obtain rfl : k = a.length := by omega
  rw [List.take_length, List.take_of_length_le (by omega)] at hC
  refine aa_ kr_ ?_
  iterate 2 (refine aL_S rfl rfl v_ ?_)
  refine ac_ ?_
  refine am_ ?_
  refine ai_ v_ (Store.Wk.refl _) ?_
  exact ⟨_, hC, .refl _⟩
theorem nT_ {l : List Ent} {t : Bool} {who a b f : ByteArray} {n : Int} {σ : Store} (hs : ∀ x ∈ l, EntSm x) (hl : l.length ≤ 1000000) (h2 : who.size ≤ 1000000) (h3 : a.size ≤ 200000) (h4 : b.size ≤ 200000) (h5 : f.size ≤ 200000) (h0 : -9223372036854775808 ≤ n) (h1 : n ≤ 9223372036854775807) : ao_ Tryz.prog 36 [.sl 4 (l.map sEnt) t, vStr who, vStr a, vStr b, vStr f, vInt n] σ fun r σ' => r = .tup [sEnt (du_ l who a b f n).1, vInt (du_ l who a b f n).2] ∧ σ = σ' := by
 refine aj_ Tryz.func36 rfl Tryz.ntmps36 (congrArg Array.toList Tryz.results36) (by simp only [List.length_cons, List.length_nil]; decide) ?_; simp only [af_, ak_, Nat.reduceAdd]
 refine ab_ ?_
 refine aa_ kr_ ?_
 refine aQ_ rfl rfl rfl g_ gl_ fun o12 ho12 => ?_
 repeat (rw [an_] at ho12; obtain ⟨_, ho12⟩ := ho12)
 (refine aL_S rfl rfl v_ ?_)
 refine ac_ ?_
 refine ab_ ?_
 refine ab_ ?_
 refine aa_ kr_ ?_
 (refine aL_S rfl rfl v_ ?_)
 refine aL_X rfl rfl (ae_ rfl rfl (.inr ⟨rfl, rfl, rfl⟩) g_ va_ (bf_ (by omega)) ?_); rintro _ _ ⟨rfl, rfl⟩
 iterate 2 (refine aL_S rfl rfl v_ ?_)
 refine ay_ rfl rfl v_ rfl vg_ ?_
 refine bQ_ rfl rfl v_ rfl (fun hb => aK_ (by rfl) (by rfl) (.inr ⟨by rfl, by rfl, by rfl⟩) g_ cg_ (bf_ (by omega))) ?_
 refine ay_ rfl rfl v_ rfl vg_ ?_
 iterate 2 (refine aL_S rfl rfl v_ ?_)
 refine ay_ rfl rfl v_ rfl vg_ ?_
 refine ay_ rfl rfl v_ rfl vg_ ?_
 refine bQ_ rfl rfl v_ rfl (fun hb => aK_ (by rfl) (by rfl) (.inr ⟨by rfl, by rfl, by rfl⟩) g_ cg_ (fI_)) ?_
 refine ay_ rfl rfl v_ rfl vg_ ?_
 (refine aL_S rfl rfl v_ ?_)
 refine ac_ ?_
 refine ad_ v_ (fun hc1 => ?_) (fun hc1 => ?_)
 ·replace hc1 := nm_ hc1
  refine ab_ ?_
  refine aa_ kr_ ?_
  (refine aL_S rfl rfl v_ ?_)
  refine av_ rfl rfl rfl v_ v_ h_ g_ rfl g_ c_ (by rfl) le_ v_ ?_
  (refine aL_S rfl rfl v_ ?_)
  refine ac_ ?_
  refine am_ ?_
  refine ai_ (σ' := σ) v_ sub_ ?_
  exact ⟨by rw [du_, if_neg (by rintro ⟨g1, g2, g3⟩; simp [g1, g2, g3] at hc1)]; rfl, rfl⟩
 ·replace hc1 := nm_ hc1
  refine ah_ ?_
  refine ab_ ?_
  refine aa_ kr_ ?_
  iterate 5 (refine aL_S rfl rfl v_ ?_)
  refine aL_X rfl rfl (ae_ rfl rfl (.inr ⟨rfl, rfl, rfl⟩) g_ va_ (jz_ h3 h4 h5) ?_); rintro _ _ ⟨rfl, rfl⟩
  (refine aL_S rfl rfl v_ ?_)
  refine aL_X rfl rfl (ae_ rfl rfl (.inr ⟨rfl, rfl, rfl⟩) g_ va_ (pq_ h0 h1) ?_); rintro _ _ ⟨rfl, rfl⟩
  refine aL_X rfl rfl (ae_ rfl rfl (.inr ⟨rfl, rfl, rfl⟩) g_ va_ (mj_ hs hl h2) ?_); rintro _ _ ⟨rfl, rfl⟩
  iterate 2 (refine aL_S rfl rfl v_ ?_)
  refine av_ rfl rfl rfl v_ v_ h_ g_ rfl g_ c_ (by rfl) le_ v_ ?_
  (refine aL_S rfl rfl v_ ?_)
  refine ac_ ?_
  refine am_ ?_
  refine ai_ (σ' := σ) v_ sub_ ?_
  exact ⟨by rw [du_, if_pos ⟨hc1.1.1, hc1.1.2, hc1.2⟩], rfl⟩
theorem mY_ {a b f : ByteArray} {σ : Store} (ha : a.size ≤ 200000) (hb : b.size ≤ 200000) (hf : f.size ≤ 200000) : ao_ Tryz.prog 91 [vStr a, vStr b, vStr f] σ fun v σ' => v = vStr (accK a b f) ∧ σ = σ' := by
 refine aj_ Tryz.func91 rfl Tryz.ntmps91 (congrArg Array.toList Tryz.results91) (by simp only [List.length_cons, List.length_nil]; decide) ?_; simp only [af_, ak_, Nat.reduceAdd]
 refine ab_ ?_
 refine aa_ kr_ ?_
 (refine aL_S rfl rfl v_ ?_)
 refine ac_ ?_
 refine ab_ ?_
 refine aa_ kr_ ?_
 iterate 3 (refine aL_S rfl rfl v_ ?_)
 refine aw_ rfl rfl rfl g_ g_ rfl rfl h_ c2_ (by decide) ?_
 refine aL_X rfl rfl (ae_ rfl rfl (.inr ⟨rfl, rfl, rfl⟩) g_ va_ (bJ_ (l := [er_, a, b, f]) (by simp) (by simp [aB_, show (Lb er_).length = 3 from rfl]; omega)) ?_); rintro _ _ ⟨rfl, rfl⟩
 (refine aL_S rfl rfl v_ ?_)
 refine ac_ ?_
 refine am_ ?_
 refine ai_ (σ' := σ) v_ sub_ ?_
 exact ⟨rfl, rfl⟩
theorem mZ_ {l : List Ent} {t : Bool} {who a b f : ByteArray} {n : Int} {σ : Store} (hs : ∀ x ∈ l, EntSm x) (hl : l.length ≤ 1000000) (h2 : who.size ≤ 1000000) (h3 : a.size ≤ 200000) (h4 : b.size ≤ 200000) (h5 : f.size ≤ 200000) : ao_ Tryz.prog 37 [.sl 4 (l.map sEnt) t, vStr who, vStr a, vStr b, vStr f, vInt n] σ fun r σ' => r = .tup [sEnt (dp_ l who a b f n).1, vInt (dp_ l who a b f n).2] ∧ σ = σ' := by
 refine aj_ Tryz.func37 rfl Tryz.ntmps37 (congrArg Array.toList Tryz.results37) (by simp only [List.length_cons, List.length_nil]; decide) ?_; simp only [af_, ak_, Nat.reduceAdd]
 refine ab_ ?_
 refine aa_ kr_ ?_
 refine aQ_ rfl rfl rfl g_ gl_ fun o12 ho12 => ?_
 repeat (rw [an_] at ho12; obtain ⟨_, ho12⟩ := ho12)
 (refine aL_S rfl rfl v_ ?_)
 refine ac_ ?_
 refine ab_ ?_
 refine ab_ ?_
 refine aa_ kr_ ?_
 (refine aL_S rfl rfl v_ ?_)
 refine aL_X rfl rfl (ae_ rfl rfl (.inr ⟨rfl, rfl, rfl⟩) g_ va_ (bf_ (by omega)) ?_); rintro _ _ ⟨rfl, rfl⟩
 iterate 2 (refine aL_S rfl rfl v_ ?_)
 refine ay_ rfl rfl v_ rfl vg_ ?_
 refine bQ_ rfl rfl v_ rfl (fun hb => aK_ (by rfl) (by rfl) (.inr ⟨by rfl, by rfl, by rfl⟩) g_ cg_ (bf_ (by omega))) ?_
 refine ay_ rfl rfl v_ rfl vg_ ?_
 iterate 2 (refine aL_S rfl rfl v_ ?_)
 refine ay_ rfl rfl v_ rfl vg_ ?_
 refine bQ_ rfl rfl v_ rfl (fun hb => aK_ (by rfl) (by rfl) (.inr ⟨by rfl, by rfl, by rfl⟩) g_ cg_ (bf_ (by omega))) ?_
 refine ay_ rfl rfl v_ rfl vg_ ?_
 iterate 2 (refine aL_S rfl rfl v_ ?_)
 refine ay_ rfl rfl v_ rfl vg_ ?_
 refine ay_ rfl rfl v_ rfl vg_ ?_
 iterate 2 (refine aL_S rfl rfl v_ ?_)
 refine ay_ rfl rfl v_ rfl vg_ ?_
 refine ay_ rfl rfl v_ rfl vg_ ?_
 (refine aL_S rfl rfl v_ ?_)
 refine ac_ ?_
 refine ad_ v_ (fun hc1 => ?_) (fun hc1 => ?_)
 ·replace hc1 := nm_ hc1
  refine ab_ ?_
  refine aa_ kr_ ?_
  (refine aL_S rfl rfl v_ ?_)
  refine av_ rfl rfl rfl v_ v_ h_ g_ rfl g_ c_ (by rfl) le_ v_ ?_
  (refine aL_S rfl rfl v_ ?_)
  refine ac_ ?_
  refine am_ ?_
  refine ai_ (σ' := σ) v_ sub_ ?_
  exact ⟨by rw [dp_, if_neg (by rintro ⟨g1, g2, g3, g4, g5⟩; simp [g1, g2, g3] at hc1; omega)]; rfl, rfl⟩
 ·replace hc1 := nm_ hc1
  obtain ⟨k, rfl⟩ : ∃ k : Nat, n = k := ⟨n.toNat, by omega⟩
  refine ah_ ?_
  refine ab_ ?_
  refine aa_ kr_ ?_
  iterate 5 (refine aL_S rfl rfl v_ ?_)
  refine aL_X rfl rfl (ae_ rfl rfl (.inr ⟨rfl, rfl, rfl⟩) g_ va_ (mY_ h3 h4 h5) ?_); rintro _ _ ⟨rfl, rfl⟩
  (refine aL_S rfl rfl v_ ?_)
  refine aL_X rfl rfl (ae_ rfl rfl (.inr ⟨rfl, rfl, rfl⟩) g_ va_ (oS_ (by omega)) ?_); rintro _ _ ⟨rfl, rfl⟩
  refine aL_X rfl rfl (ae_ rfl rfl (.inr ⟨rfl, rfl, rfl⟩) g_ va_ (mj_ hs hl h2) ?_); rintro _ _ ⟨rfl, rfl⟩
  iterate 2 (refine aL_S rfl rfl v_ ?_)
  refine av_ rfl rfl rfl v_ v_ h_ g_ rfl g_ c_ (by rfl) le_ v_ ?_
  (refine aL_S rfl rfl v_ ?_)
  refine ac_ ?_
  refine am_ ?_
  refine ai_ (σ' := σ) v_ sub_ ?_
  exact ⟨by rw [dp_, if_pos ⟨hc1.1.1.1.1, hc1.1.1.1.2, hc1.1.1.2, by omega, by omega⟩]; rfl, rfl⟩
end Go.Proofs.YtkcmbjodladflaaGreatDoor
end

section
set_option linter.all false
set_option maxRecDepth 100000
namespace Go.Proofs.YtkcmbjodladflaaGreatDoor
open Go.Ab
def Hld4 (σ : Store) (o t : Nat) : Prop := ∃ a b sz l c, σ.heap o = some (.cells [a, b, .own t sz l, c])
def SF (o : Nat) (σ σ' : Store) : Prop := (∀ i x, i ≠ o → σ.heap i = some x → σ'.heap i = some x) ∧ ∀ t n, σ.tok t = some n → ¬ Hld4 σ o t → σ'.tok t = some n ∧ ¬ Hld4 σ' o t
theorem SF.refl {o : Nat} {σ : Store} : SF o σ σ := ⟨fun _ _ _ h => h, fun _ _ h k => ⟨h, k⟩⟩
theorem SF.trans {o : Nat} {a b c : Store} (h : SF o a b) (k : SF o b c) : SF o a c :=
 ⟨fun i x hi hx => k.1 i x hi (h.1 i x hi hx), fun t n ht hn => k.2 t n (h.2 t n ht hn).1 (h.2 t n ht hn).2⟩
theorem SF.sub {o : Nat} {σ σ' : Store} {x : AObj} (ho : σ.heap o = none) (h : SF o (σ.set o x) σ') (hx : ∀ a b t sz l c, x ≠ .cells [a, b, .own t sz l, c]) : σ.Sub σ' :=
 ⟨fun i y hy => h.1 i y (fun hh => by rw [hh, ho] at hy; cases hy) (by rw [Store.set_ne _ _ (fun hh => by rw [hh, ho] at hy; cases hy)]; exact hy), fun t n ht => (h.2 t n ht fun ⟨a, b, sz, l, c, hh⟩ => by
  rw [Store.set_get] at hh
  exact hx _ _ _ _ _ _ (Option.some.inj hh)).1⟩
theorem SF.alloc {o i : Nat} {a b : Store} {x : AObj} (h : SF o a b) (hi : b.heap i = none) (ho : i ≠ o) : SF o a (b.set i x) :=
 ⟨fun j y hj hy => by
  have h1 := h.1 j y hj hy
  rw [Store.set_ne _ _ (fun hh => by rw [hh, hi] at h1; cases h1)]; exact h1, fun t n ht hn => by
  obtain ⟨h1, h2⟩ := h.2 t n ht hn
  exact ⟨h1, fun ⟨a', b', sz, l, c, hh⟩ => h2 ⟨a', b', sz, l, c, by rwa [Store.set_ne _ _ (Ne.symm ho)] at hh⟩⟩⟩
theorem SF.alloc2 {o i : Nat} {a b : Store} {x y : AObj} (h : SF o a b) (hi : b.heap i = none) (ho : i ≠ o) : SF o a ((b.set i x).set i y) := by
 rw [Store.set_set]; exact h.alloc hi ho
def SetS (σ : Store) (o : Nat) (l : List Ent) (t : Bool) (who : ByteArray) (s : List Ent × Int) : Prop := ∃ b old, σ.heap o = some (.cells [.sl 4 (l.map sEnt) t, vStr who, b, vInt s.2]) ∧ bq_ σ 45 4 (s.1.map sEnt) b old
theorem SetS.set {σ : Store} {o i : Nat} {l : List Ent} {t : Bool} {who : ByteArray} {s : List Ent × Int} {x : AObj} (h : SetS σ o l t who s) (hi : σ.heap i = none) : SetS (σ.set i x) o l t who s := by
 obtain ⟨b, old, h1, h2⟩ := h
 exact ⟨b, old, by rw [Store.set_ne _ _ (fun hh => by rw [← hh, h1] at hi; cases hi)]; exact h1, by simpa only [bq_, Store.set_tok] using h2⟩
theorem SetS.set2 {σ : Store} {o i : Nat} {l : List Ent} {t : Bool} {who : ByteArray} {s : List Ent × Int} {x y : AObj} (h : SetS σ o l t who s) (hi : σ.heap i = none) : SetS ((σ.set i x).set i y) o l t who s := by
 rw [Store.set_set]; exact h.set hi
theorem SetS.ne {τ : Store} {o i : Nat} {l : List Ent} {t : Bool} {who : ByteArray} {s : List Ent × Int} (h : SetS τ o l t who s) (hi : τ.heap i = none) : i ≠ o := fun hh => by obtain ⟨b, old, h1, _⟩ := h; rw [hh, h1] at hi; cases hi
theorem SF.put {σ : Store} {o k : Nat} {a1 a2 b c a1' a2' c' : AVal} {l l' : List AVal} {old : Option Nat} {p : TypeId × Nat} {e : TypeId} {sz sz' : Nat} (ho : σ.heap o = some (.cells [a1, a2, b, c])) (hb : bq_ σ e sz l b old) (hk : σ.tok k = none) :
  SF o σ ((σ.newTok old k p).set o (.cells [a1', a2', .own k sz' l', c'])) := by
 refine ⟨fun i x hi hx => by rw [Store.set_ne _ _ hi]; exact hx, fun t n ht hn => ?_⟩
 have hkt : t ≠ k := fun hh => by rw [hh, hk] at ht; cases ht
 refine ⟨?_, ?_⟩
 ·rw [Store.set_tok]
  simp only [Store.newTok]
  rw [if_neg hkt, if_neg (fun hh => ?_)]
  ·exact ht
  ·rcases hb with ⟨j, rfl, _, hj⟩ | ⟨rfl, _, hj⟩
   ·rw [hj] at hh
    obtain rfl := Option.some.inj hh
    exact hn ⟨_, _, _, _, _, ho⟩
   ·rw [hj] at hh; cases hh
 ·rintro ⟨a', b', sz2, l2, c2, hh⟩
  rw [Store.set_get] at hh
  simp only [Option.some.injEq, AObj.cells.injEq, List.cons.injEq, AVal.own.injEq, and_true] at hh
  exact hkt hh.2.2.1.1.symm
theorem SF.err {σ : Store} {o : Nat} {a1 a2 b c c' : AVal} (ho : σ.heap o = some (.cells [a1, a2, b, c])) : SF o σ (σ.set o (.cells [a1, a2, b, c'])) := by
 refine ⟨fun i x hi hx => by rw [Store.set_ne _ _ hi]; exact hx, fun t n ht hn => ⟨ht, fun ⟨a', b', sz, l, c2, hh⟩ => hn ?_⟩⟩
 rw [Store.set_get] at hh
 simp only [Option.some.injEq, AObj.cells.injEq, List.cons.injEq, and_true] at hh
 obtain ⟨-, -, h3, -⟩ := hh
 exact ⟨a1, a2, sz, l, c, by rw [ho, h3]⟩
theorem fq_ {o : Nat} {l : List Ent} {t : Bool} {who : ByteArray} {s : List Ent × Int} {x : Ent} {e : Int} {σ : Store} (h : SetS σ o l t who s) (hl : s.1.length ≤ 100000) : ao_ Tryz.prog 33 [.ref o 0, sEnt x, vInt e] σ fun v σ' => v = .tup [] ∧ SetS σ' o l t who (ca_ s (x, e)) ∧ SF o σ σ' := by
 obtain ⟨b, old, h1, h2⟩ := id h
 have e0 : s.1.map sEnt ++ [sEnt x] = (s.1 ++ [x]).map sEnt := by simp
 refine aj_ Tryz.func33 rfl Tryz.ntmps33 (congrArg Array.toList Tryz.results33) (by simp only [List.length_cons, List.length_nil]; decide) ?_; simp only [af_, ak_, Nat.reduceAdd]
 refine ab_ ?_
 refine aa_ kr_ ?_
 refine bb_ rfl rfl rfl v_ rfl g_ fun o4 ho4 => ?_
 repeat (rw [an_] at ho4; obtain ⟨_, ho4⟩ := ho4)
 refine ac_ ?_
 have n4 := aT_ h1 ho4
 have h2' : bq_ (σ.set o4 (.cells (sEnt x).cells)) 45 4 (s.1.map sEnt) b old := by simpa only [bq_, Store.set_tok] using h2
 refine ab_ ?_
 refine ab_ ?_
 have R := h1
 refine aa_ kr_ ?_
 iterate 5 (refine aL_S rfl rfl v_ ?_)
 refine ac_ ?_
 refine ad_ v_ (fun hc1 => ?_) (fun hc1 => ?_)
 ·replace hc1 := nm_ hc1
  refine am_ ?_
  refine ai_ v_ (Store.Wk.refl _) ?_
  exact ⟨rfl, by rw [ca_, if_neg hc1]; exact h.set ho4, SF.refl.alloc ho4 (Ne.symm n4)⟩
 ·replace hc1 := nm_ hc1
  refine ah_ ?_
  have R := h1
  refine aG_ (.op 0 0 (.op 1 0 (.op 2 0 (.op 3 0 (.op 4 0 (.op 5 0 (.op 6 0 (.op 9 0 (.op 7 1 (.op 8 2 (.op 10 0 (.op 11 0 (.op 12 2 (.op 13 0 (.op 14 0 (.op 15 2 .nil)))))))))))))))) Tryz.mixed kr_ ?_
  iterate 8 (refine dR_S o_ (by rfl) (by rfl) v_ ?_)
  refine dR_X o_ (by rfl) (by rfl) (aD_ (by rfl) g_ g_ (by rfl) (by rfl) h_ c2_ (by decide) ⟨sub_, ?_⟩)
  refine dR_T o_ (by rfl) (by rfl) (cz_ (by rfl) g_ g_ (bq_.of h2' va_) (.inl ⟨⟨_, g_⟩, .inl v_, c_⟩) (by simp; omega) fun k19 hk19 => ?_)
  iterate 2 (refine dR_S o_ (by rfl) (by rfl) v_ ?_)
  refine aM_ o_ (by rfl) (by rfl) (by rfl) v_ v_ h_ g_ rfl g_ c_ (by rfl) le_ v_ ?_
  iterate 2 (refine dR_S o_ (by rfl) (by rfl) v_ ?_)
  refine aM_ o_ (by rfl) (by rfl) (by rfl) v_ v_ h_ g_ rfl g_ c_ (by rfl) le_ v_ ?_
  refine aL_ ?_
  refine aP_ v_ (Store.Wk.refl _) ?_
  skip
  have h1' : (σ.set o4 (.cells (sEnt x).cells)).heap o = some (.cells [.sl 4 (l.map sEnt) t, vStr who, b, vInt s.2]) := by rw [Store.set_ne _ _ n4]; exact h1
  have hF := SF.put (a1' := .sl 4 (l.map sEnt) t) (a2' := vStr who) (c' := vInt e) (p := (45, 4)) (l' := s.1.map sEnt ++ [sEnt x]) (sz' := 4) h1' h2' hk19
  refine ⟨rfl, ?_, (SF.refl.alloc (x := .cells (sEnt x).cells) ho4 (Ne.symm n4)).trans ?_⟩
  ·rw [ca_, if_pos hc1, Store.set_set]
   exact ⟨_, some k19, Store.set_get .., .inl ⟨k19, by rw [← e0], by rw [Store.set_tok]; exact Store.newTok_get .., rfl⟩⟩
  ·rw [Store.set_set]; exact hF
theorem ib_ {o : Nat} {l : List Ent} {t : Bool} {who key v : ByteArray} {s : List Ent × Int} {σ : Store} (h : SetS σ o l t who s) (hn : s.1.length ≤ 100000) (hs : ∀ x ∈ l, EntSm x) (hl : l.length ≤ 1000000) (h2 : who.size ≤ 1000000) : ao_ Tryz.prog 93 [.ref o 0, vStr key, vStr v] σ fun u σ' => u = .tup [] ∧ SetS σ' o l t who (ca_ s (setS l who key v)) ∧ SF o σ σ' := by
 obtain ⟨b, old, h1, h3⟩ := id h
 refine aj_ Tryz.func93 rfl Tryz.ntmps93 (congrArg Array.toList Tryz.results93) (by simp only [List.length_cons, List.length_nil]; decide) ?_; simp only [af_, ak_, Nat.reduceAdd]
 have R := h1
 refine aG_ (.op 0 0 (.op 1 0 (.op 2 0 (.op 3 0 (.op 4 0 (.op 5 0 (.op 6 0 (.op 7 0 (.op 8 0 (.op 9 0 (.op 10 0 (.op 11 1 (.op 12 0 (.op 13 0 (.op 14 2 .nil))))))))))))))) Tryz.mixed kr_ ?_
 iterate 11 (refine dR_S o_ (by rfl) (by rfl) v_ ?_)
 refine dR_X o_ (by rfl) (by rfl) (ae_ (by rfl) (by rfl) (.inr ⟨by rfl, by rfl, by rfl⟩) g_ va_ (mj_ hs hl h2) ?_); rintro _ _ ⟨rfl, rfl⟩; refine ⟨sub_, ?_⟩
 iterate 2 (refine dR_S o_ (by rfl) (by rfl) v_ ?_)
 refine dR_T o_ (by rfl) (by rfl) (ae_ (by rfl) (by rfl) (.inr ⟨by rfl, by rfl, by rfl⟩) g_ va_ (fq_ (x := (setS l who key v).1) (e := (setS l who key v).2) h hn) ?_); rintro _ τ ⟨rfl, q1, q2⟩
 refine aL_ ?_
 refine aP_ v_ (Store.Wk.refl _) ?_
 exact ⟨rfl, q1, q2⟩
theorem j6_ {o : Nat} {l : List Ent} {t : Bool} {who : ByteArray} {m : Mbr} {σ : Store} (h : SetS σ o l t who ([], 0)) (hs : ∀ x ∈ l, EntSm x) (hl : l.length ≤ 1000000) (h2 : who.size ≤ 1000000) (m1 : m.name.size ≤ 100000) (m2 : m.rack.size ≤ 100000) (m3 : m.zone.size ≤ 100000) : ao_ Tryz.prog 38 [.ref o 0, sMbr m] σ fun u σ' => u = .tup [] ∧ SetS σ' o l t who (cL_ l who m) ∧ SF o σ σ' := by
 obtain ⟨b, old, h1, h3⟩ := id h
 refine aj_ Tryz.func38 rfl Tryz.ntmps38 (congrArg Array.toList Tryz.results38) (by simp only [List.length_cons, List.length_nil]; decide) ?_; simp only [af_, ak_, Nat.reduceAdd]
 refine ab_ ?_
 refine aa_ kr_ ?_
 refine bb_ rfl rfl rfl v_ rfl g_ fun o3 ho3 => ?_
 repeat (rw [an_] at ho3; obtain ⟨_, ho3⟩ := ho3)
 refine ac_ ?_
 have n3 := aT_ h1 ho3
 have hC := h.set (x := .cells (sMbr m).cells) ho3
 have hF := (SF.refl (σ := σ)).alloc (x := .cells (sMbr m).cells) ho3 (Ne.symm n3)
 refine ab_ ?_
 refine aa_ kr_ ?_
 (refine aL_S rfl rfl v_ ?_)
 refine aL_X rfl rfl (ae_ rfl rfl (.inr ⟨rfl, rfl, rfl⟩) g_ va_ (mL_ m2 m3) ?_); rintro _ _ ⟨rfl, rfl⟩
 iterate 5 (refine aL_S rfl rfl v_ ?_)
 refine ac_ ?_
 refine ab_ ?_
 refine ab_ ?_
 refine aa_ kr_ ?_
 iterate 2 (refine aL_S rfl rfl v_ ?_)
 refine aL_X rfl rfl (ae_ rfl rfl (.inr ⟨rfl, rfl, rfl⟩) g_ va_ (bf_ (by omega)) ?_); rintro _ _ ⟨rfl, rfl⟩
 iterate 2 (refine aL_S rfl rfl v_ ?_)
 refine ay_ rfl rfl v_ rfl vg_ ?_
 refine ay_ rfl rfl v_ rfl vg_ ?_
 (refine aL_S rfl rfl v_ ?_)
 refine ac_ ?_
 refine ad_ v_ (fun hc2 => ?_) (fun hc2 => ?_)
 ·replace hc2 := nm_ hc2
  refine ab_ ?_
  have R := h1
  refine aa_ kr_ ?_
  iterate 3 (refine aL_S rfl rfl v_ ?_)
  refine av_ rfl rfl rfl v_ v_ h_ g_ rfl g_ c_ (by rfl) le_ v_ ?_
  refine ac_ ?_
  refine am_ ?_
  refine ai_ v_ (Store.Wk.refl _) ?_
  skip
  have ha : cL_ l who m = ([], 1) := by rw [cL_, if_neg (by rintro ⟨g1, g2⟩; simp [g1, g2] at hc2)]
  have h1' : (σ.set o3 (.cells (sMbr m).cells)).heap o = some (.cells [.sl 4 (l.map sEnt) t, vStr who, b, vInt 0]) := by rw [Store.set_ne _ _ n3]; exact h1
  rw [ha]
  exact ⟨rfl, ⟨b, old, Store.set_get .., by simpa only [bq_, Store.set_tok] using h3⟩, hF.trans (SF.err h1')⟩
 ·replace hc2 := nm_ hc2
  refine ah_ ?_
  refine aa_ kr_ ?_
  iterate 3 (refine aL_S rfl rfl v_ ?_)
  refine aL_X rfl rfl (ae_ rfl rfl (.inr ⟨rfl, rfl, rfl⟩) g_ va_ (oJ_ (by omega)) ?_); rintro _ _ ⟨rfl, rfl⟩
  (refine aL_S rfl rfl v_ ?_)
  refine aL_X rfl rfl (ae_ rfl rfl (.inr ⟨rfl, rfl, rfl⟩) g_ va_ (ib_ hC (by simp) hs hl h2) ?_); rintro _ τ ⟨rfl, q1, q2⟩
  refine ac_ ?_
  refine aP_ v_ (Store.Wk.refl _) ?_
  skip
  have ha : cL_ l who m = ca_ ([], 0) (setS l who (keyN m.name) (valM m).1) := by rw [cL_, if_pos hc2]
  rw [ha]
  exact ⟨rfl, q1, hF.trans q2⟩
theorem ri_ {ow nm : List ByteArray} {σ : Store} {to tn : Bool} (ho : ow.length ≤ 40) (hn : nm.length ≤ 60) : ao_ Tryz.prog 54 [.sl 1 (ow.map vStr) to, .sl 1 (nm.map vStr) tn] σ fun v σ' => v = .sl 1 ((cl_ ow nm).map vStr) false ∧ σ = σ' :=
 (rh_ ho hn).wkS fun v σ' ⟨hv, hf⟩ => ⟨v, σ, .refl _, gB_ hf.sub, hv, rfl⟩
theorem m0_ {o : Nat} {l : List Ent} {t : Bool} {who node : ByteArray} {σ : Store} (h : SetS σ o l t who ([], 0)) (hs : ∀ x ∈ l, EntSm x) (hks : ∀ x ∈ l, x.key.size ≤ 400000 ∧ x.value.size ≤ 400000) (hl : l.length ≤ 1000) (h2 : who.size ≤ 1000000) (hn : node.size ≤ 100000) : ao_ Tryz.prog 39 [.ref o 0, vStr node] σ fun u σ' => u = .tup [] ∧ SetS σ' o l t who (e3_ l who node) ∧ SF o σ σ' := by
 obtain ⟨b, old, h1, h3⟩ := id h
 have hml := dm_ l
 refine aj_ Tryz.func39 rfl Tryz.ntmps39 (congrArg Array.toList Tryz.results39) (by simp only [List.length_cons, List.length_nil]; decide) ?_; simp only [af_, ak_, Nat.reduceAdd]
 refine ab_ ?_
 refine ab_ ?_
 have R := h1
 refine aa_ kr_ ?_
 iterate 4 (refine aL_S rfl rfl v_ ?_)
 refine aL_X rfl rfl (ae_ rfl rfl (.inr ⟨rfl, rfl, rfl⟩) g_ va_ (bn_ (by omega) hs hks) ?_); rintro _ _ ⟨rfl, rfl⟩
 refine aL_X rfl rfl (ae_ rfl rfl (.inr ⟨rfl, rfl, rfl⟩) g_ va_ (oL_ (ms := bT_ l) (by omega)) ?_); rintro _ _ ⟨rfl, rfl⟩
 (refine aL_S rfl rfl v_ ?_)
 refine aL_X rfl rfl (ae_ rfl rfl (.inr ⟨rfl, rfl, rfl⟩) g_ va_ (cs_ (l := nmsS l) (by rw [nmsS, List.length_map]; omega)) ?_); rintro _ _ ⟨rfl, rfl⟩
 (refine aL_S rfl rfl v_ ?_)
 refine ac_ ?_
 refine ad_ v_ (fun hc0 => ?_) (fun hc0 => ?_)
 ·replace hc0 := nm_ hc0
  refine ab_ ?_
  have R := h1
  refine aa_ kr_ ?_
  iterate 3 (refine aL_S rfl rfl v_ ?_)
  refine av_ rfl rfl rfl v_ v_ h_ g_ rfl g_ c_ (by rfl) le_ v_ ?_
  refine ac_ ?_
  refine am_ ?_
  refine ai_ v_ (Store.Wk.refl _) ?_
  skip
  have ha : e3_ l who node = ([], 5) := by rw [e3_, if_neg (by simp [hc0])]
  rw [ha]
  exact ⟨rfl, ⟨b, old, Store.set_get .., by simpa only [bq_, Store.set_tok] using h3⟩, SF.err h1⟩
 ·replace hc0 := nm_ hc0
  refine ah_ ?_
  refine aa_ kr_ ?_
  iterate 2 (refine aL_S rfl rfl v_ ?_)
  refine aL_X rfl rfl (ae_ rfl rfl (.inr ⟨rfl, rfl, rfl⟩) g_ va_ (oJ_ (by omega)) ?_); rintro _ _ ⟨rfl, rfl⟩
  refine aL_X rfl rfl (ae_ rfl rfl (.inr ⟨rfl, rfl, rfl⟩) g_ va_ (ib_ h (by simp) hs (by omega) h2) ?_); rintro _ τ ⟨rfl, q1, q2⟩
  refine ac_ ?_
  refine aP_ v_ (Store.Wk.refl _) ?_
  skip
  have ha : e3_ l who node = ca_ ([], 0) (setS l who (keyN node) oA_) := by rw [e3_, if_pos (by simpa using hc0)]
  rw [ha]
  exact ⟨rfl, q1, q2⟩
theorem ra_ (l : List Ent) : (bh_ l).length ≤ 16 := by
 unfold bh_ eE_
 refine Nat.le_trans (fk_ ..) ?_
 simp [aF_]
theorem eR_ {l : List Ent} {x : Mv} (h : x ∈ bh_ l) : x.part < 16 := by
 have := (dU_ h).2.1
 simp [aF_] at this; omega
set_option maxHeartbeats 1000000 in
theorem kL_ {o : Nat} {l : List Ent} {t : Bool} {who : ByteArray} {σ : Store} (h : SetS σ o l t who ([], 0)) (hs : ∀ x ∈ l, EntSm x) (hks : ∀ x ∈ l, x.key.size ≤ 400000 ∧ x.value.size ≤ 400000) (hl : l.length ≤ 60) (h2 : who.size ≤ 1000000) : ao_ Tryz.prog 40 [.ref o 0] σ fun u σ' => u = .tup [] ∧ SetS σ' o l t who (cR_ l who) ∧ SF o σ σ' := by
 obtain ⟨b, old, h1, h3⟩ := id h
 have hml := dm_ l
 have hnl : (nmsS l).length = (bT_ l).length := by rw [nmsS, List.length_map]
 have hol : (aF_ l 16).length = 16 := by simp [aF_]
 have hcl := ra_ l
 have hcp : ∀ x ∈ bh_ l, x.part < 16 := fun x hx => eR_ hx
 obtain ⟨ms, hms⟩ : ∃ ms, bT_ l = ms := ⟨_, rfl⟩
 obtain ⟨pl, hpl⟩ : ∃ pl, bh_ l = pl := ⟨_, rfl⟩
 rw [hpl] at hcl hcp
 refine aj_ Tryz.func40 rfl Tryz.ntmps40 (congrArg Array.toList Tryz.results40) (by simp only [List.length_cons, List.length_nil]; decide) ?_; simp only [af_, ak_, Nat.reduceAdd]
 refine ab_ ?_
 have R := h1
 refine aa_ kr_ ?_
 iterate 4 (refine aL_S rfl rfl v_ ?_)
 refine aL_X rfl rfl (ae_ rfl rfl (.inr ⟨rfl, rfl, rfl⟩) g_ va_ (bn_ (by omega) hs hks) ?_); rintro _ _ ⟨rfl, rfl⟩
 rw [hms]
 (refine aL_S rfl rfl v_ ?_)
 refine ac_ ?_
 refine ab_ ?_
 refine ab_ ?_
 refine aa_ kr_ ?_
 iterate 3 (refine aL_S rfl rfl v_ ?_)
 refine ac_ ?_
 refine ad_ v_ (fun hc1 => ?_) (fun hc1 => ?_)
 ·replace hc1 := nm_ hc1
  refine ab_ ?_
  have R := h1
  refine aa_ kr_ ?_
  iterate 3 (refine aL_S rfl rfl v_ ?_)
  refine av_ rfl rfl rfl v_ v_ h_ g_ rfl g_ c_ (by rfl) le_ v_ ?_
  refine ac_ ?_
  refine am_ ?_
  refine ai_ v_ (Store.Wk.refl _) ?_
  skip
  have ha : cR_ l who = ([], 5) := by rw [cR_, if_pos (by rw [hms]; omega)]
  rw [ha]
  exact ⟨rfl, ⟨b, old, Store.set_get .., by simpa only [bq_, Store.set_tok] using h3⟩, SF.err h1⟩
 ·replace hc1 := nm_ hc1
  refine ah_ ?_
  refine ab_ ?_
  have R := h1
  refine aa_ kr_ ?_
  iterate 4 (refine aL_S rfl rfl v_ ?_)
  refine aL_X rfl rfl (ae_ rfl rfl (.inr ⟨rfl, rfl, rfl⟩) g_ va_ (ju_ (n := 16) (by decide) (by decide) (by omega) hs) ?_); rintro _ _ ⟨rfl, rfl⟩
  (refine aL_S rfl rfl v_ ?_)
  refine ac_ ?_
  refine ab_ ?_
  refine aa_ kr_ ?_
  iterate 3 (refine aL_S rfl rfl v_ ?_)
  refine aL_X rfl rfl (ae_ rfl rfl (.inr ⟨rfl, rfl, rfl⟩) g_ va_ (oL_ (ms := ms) (by rw [← hms]; omega)) ?_); rintro _ _ ⟨rfl, rfl⟩
  refine aL_X rfl rfl (ae_ rfl rfl (.inr ⟨rfl, rfl, rfl⟩) g_ va_ (ri_ (ow := aF_ l 16) (nm := ms.map Mbr.name) (by omega) (by rw [List.length_map, ← hms]; omega)) ?_); rintro _ _ ⟨rfl, rfl⟩
  refine aL_X rfl rfl (ae_ rfl rfl (.inr ⟨rfl, rfl, rfl⟩) g_ va_ (rO_ (a := aF_ l 16) (b := cl_ (aF_ l 16) (ms.map Mbr.name)) (by omega) (ff_ ..)) ?_); rintro _ _ ⟨rfl, rfl⟩
  rw [show eE_ (aF_ l 16) (cl_ (aF_ l 16) (ms.map Mbr.name)) = pl from by rw [← hpl, ← hms]; rfl]
  iterate 2 (refine aL_S rfl rfl v_ ?_)
  refine ac_ ?_
  refine al_ ?_
  refine ap_ (ι := Store × Nat) (fun ⟨τ, k⟩ => pl.length - k) (fun ⟨τ, k⟩ => k ≤ pl.length ∧ SetS τ o l t who (clMv l who (pl.take k)) ∧ SF o σ τ) (fun ⟨τ, k⟩ => [(0, .ref o 0), (27, .sl 3 (pl.map sMv) false), (28, vInt pl.length), (29, vInt k)]) (fun ⟨τ, k⟩ => τ) (σ, 0) ?_ ?_ ?_ ?_
  ·exact ⟨Nat.zero_le _, h, SF.refl⟩
  ·exact cv_
  ·exact Store.Wk.refl _
  rintro ⟨τ, k⟩ ⟨hk, hC, hF⟩
  simp only [ar_, au_]
  refine ab_ ?_
  refine aa_ kr_ ?_
  (refine aL_S rfl rfl v_ ?_)
  refine ac_ ?_
  refine ab_ ?_
  refine ad_ v_ (fun hc5 => ?_) (fun hc5 => ?_)
  ·replace hc5 := nm_ hc5
   refine ah_ ?_
   refine ab_ ?_
   refine al_ ?_
   refine ab_ ?_
   obtain ⟨x, hx⟩ := aA_ (l := pl) (k := k) (by omega)
   have hxp := hcp x (List.mem_of_getElem? hx)
   have hcn := nl_ l who (pl.take k)
   rw [List.length_take] at hcn
   have R := hx
   refine aa_ kr_ ?_
   iterate 2 (refine aL_S rfl rfl v_ ?_)
   refine aQ_ rfl rfl rfl g_ gl_ fun o5 ho5 => ?_
   repeat (rw [an_] at ho5; obtain ⟨_, ho5⟩ := ho5)
   refine av_ rfl rfl rfl v_ v_ h_ g_ rfl g_ c_ (by rfl) le_ v_ ?_
   refine ac_ ?_
   skip
   have hne := hC.ne ho5
   have hC1 := hC.set2 (x := .cells [vInt 0, .lit (.string ⟨#[]⟩), .lit (.string ⟨#[]⟩)]) (y := .cells (sMv x).cells) ho5
   refine aG_ (.op 0 0 (.op 1 0 (.op 2 0 (.op 4 0 (.op 5 0 (.op 3 1 (.op 6 2 .nil))))))) Tryz.mixed kr_ ?_
   iterate 5 (refine dR_S o_ (by rfl) (by rfl) v_ ?_)
   refine dR_X o_ (by rfl) (by rfl) (ae_ (by rfl) (by rfl) (.inr ⟨by rfl, by rfl, by rfl⟩) g_ va_ (fR_ (by omega)) ?_); rintro _ _ ⟨rfl, rfl⟩; refine ⟨sub_, ?_⟩
   refine dR_T o_ (by rfl) (by rfl) (ae_ (by rfl) (by rfl) (.inr ⟨by rfl, by rfl, by rfl⟩) g_ va_ (ib_ hC1 (by omega) hs (by omega) h2) ?_); rintro _ τ2 ⟨rfl, q1, q2⟩
   refine aL_ ?_
   refine aa_ kr_ ?_
   iterate 2 (refine aL_S rfl rfl v_ ?_)
   refine ac_ ?_
   refine aJ_ (ι := Store × Nat) (i := ⟨τ, k⟩) (τ2, k + 1) ?_ ?_ ?_ ?_
   ·show pl.length - (k + 1) < pl.length - k; omega
   ·exact ⟨by show k + 1 ≤ pl.length; omega, by rw [k4_ hx]; exact q1, (hF.alloc2 ho5 hne).trans q2⟩
   ·exact cv_
   ·exact Store.Wk.refl _
  ·replace hc5 := nm_ hc5
   refine ax_ ?_
   refine ag_ ?_
   refine ag_ ?_
   refine aq_ ?_
   refine aP_ v_ (Store.Wk.refl _) ?_
   skip
   have ha : cR_ l who = clMv l who pl := by rw [cR_, if_neg (by rw [hms]; omega), hpl]
   rw [ha]
   rw [List.take_of_length_le (by omega)] at hC
   exact ⟨rfl, hC, hF⟩
end Go.Proofs.YtkcmbjodladflaaGreatDoor
end

section
set_option linter.all false
set_option maxRecDepth 100000
namespace Go.Proofs.YtkcmbjodladflaaGreatDoor
open Go.Ab
structure AdmSm (a : Adm) : Prop where
 ten : a.ten.size ≤ 100000
 bkt : a.bkt.size ≤ 100000
 fld : a.fld.size ≤ 100000
 txt : a.txt.size ≤ 100000
 n0 : -9223372036854775808 ≤ a.n
 n1 : a.n ≤ 9223372036854775807
 name : a.m.name.size ≤ 100000
 rack : a.m.rack.size ≤ 100000
 zone : a.m.zone.size ≤ 100000
theorem jT_ (n : Int) : Wk (.tup [vNil, vInt n]) (.tup [.sl 4 [] false, vInt n]) := .tup _ _ rfl fun i hi hi' => by
 match i, hi with
 |0, _ => exact .nil _ _
 |1, _ => exact .refl _
theorem sb_ {b : AVal} {l : List AVal} (n : Int) (h : Wk b (.sl 4 l false)) : Wk (.tup [b, vInt n]) (.tup [.sl 4 l false, vInt n]) := .tup _ _ rfl fun i hi hi' => by
 match i, hi with
 |0, _ => exact h
 |1, _ => exact .refl _
set_option maxHeartbeats 4000000 in
theorem fp_ {l : List Ent} {t : Bool} {who : ByteArray} {a : Adm} {σ : Store} (hs : ∀ x ∈ l, EntSm x) (hks : ∀ x ∈ l, x.key.size ≤ 400000 ∧ x.value.size ≤ 400000) (hl : l.length ≤ 60) (h2 : who.size ≤ 100000) (ha : AdmSm a) : ao_ Tryz.prog 11 [.sl 4 (l.map sEnt) t, vStr who, sAdm a] σ fun v σ' => v = .tup [.sl 4 ((adS l who a).1.map sEnt) false, vInt (adS l who a).2] ∧ σ = σ' := by
 have a1 := ha.ten; have a2 := ha.bkt; have a3 := ha.fld; have a4 := ha.txt; have a5 := ha.n0; have a6 := ha.n1; have a7 := ha.name; have a8 := ha.rack; have a9 := ha.zone
 refine aj_ Tryz.func11 rfl Tryz.ntmps11 (congrArg Array.toList Tryz.results11) (by simp only [List.length_cons, List.length_nil]; decide) ?_; simp only [af_, ak_, Nat.reduceAdd]
 refine ab_ ?_
 refine aa_ kr_ ?_
 refine bb_ rfl rfl rfl v_ rfl g_ fun o5 ho5 => ?_
 repeat (rw [an_] at ho5; obtain ⟨_, ho5⟩ := ho5)
 iterate 2 (refine aL_S rfl rfl v_ ?_)
 refine ac_ ?_
 refine ab_ ?_
 refine ab_ ?_
 refine aa_ kr_ ?_
 (refine aL_S rfl rfl v_ ?_)
 refine aL_X rfl rfl (ae_ rfl rfl (.inr ⟨rfl, rfl, rfl⟩) g_ va_ (fy_ hs (by omega)) ?_); rintro _ _ ⟨rfl, rfl⟩
 iterate 2 (refine aL_S rfl rfl v_ ?_)
 refine ay_ rfl rfl v_ rfl vg_ ?_
 refine bQ_ rfl rfl v_ rfl (fun hb => aK_ (by rfl) (by rfl) (.inr ⟨by rfl, by rfl, by rfl⟩) g_ cg_ (bf_ (by omega))) ?_
 refine ay_ rfl rfl v_ rfl vg_ ?_
 (refine aL_S rfl rfl v_ ?_)
 refine ac_ ?_
 refine ad_ v_ (fun hc1 => ?_) (fun hc1 => ?_)
 ·replace hc1 := nm_ hc1
  rw [if01] at hc1
  refine ab_ ?_
  refine aa_ kr_ ?_
  iterate 2 (refine aL_S rfl rfl v_ ?_)
  refine ac_ ?_
  refine am_ ?_
  have hn : adS l who a = ([], 1) := by rw [adS, if_neg (by rintro ⟨g1, g2⟩; simp [g1, g2] at hc1)]
  exact a6_ (v := .tup [.sl 4 ((adS l who a).1.map sEnt) false, vInt (adS l who a).2]) (v' := .tup [vNil, vInt 1]) va_ (by rw [hn]; exact jT_ 1) sub_ ⟨rfl, rfl⟩
 ·replace hc1 := nm_ hc1
  rw [if01] at hc1
  refine ah_ ?_
  refine ab_ ?_
  refine aa_ kr_ ?_
  iterate 3 (refine aL_S rfl rfl v_ ?_)
  refine bb_ rfl rfl rfl v_ rfl g_ fun o20 ho20 => ?_
  repeat (rw [an_] at ho20; obtain ⟨_, ho20⟩ := ho20)
  (refine aL_S rfl rfl v_ ?_)
  refine ac_ ?_
  have hS0 : SetS ((σ.set o5 (.cells (sAdm a).cells)).set o20 (.cells [.sl 4 (l.map sEnt) t, vStr who, vNil, vInt 0])) o20 l t who ([], 0) := ⟨_, none, Store.set_get .., .inr ⟨rfl, rfl, rfl⟩⟩
  have h520 : o20 ≠ o5 := by assumption
  refine bp_ (ι := Store) (fun υ => SetS υ o20 l t who (cj_ l who a) ∧ SF o20 ((σ.set o5 (.cells (sAdm a).cells)).set o20 (.cells [.sl 4 (l.map sEnt) t, vStr who, vNil, vInt 0])) υ) (fun υ => [(8, .ref o20 0)]) (fun υ => υ) ?_ ?_
  ·refine ab_ ?_
   refine aa_ kr_ ?_
   iterate 2 (refine aL_S rfl rfl v_ ?_)
   refine ac_ ?_
   refine al_ ?_
   refine ab_ ?_
   refine aa_ kr_ ?_
   iterate 2 (refine aL_S rfl rfl v_ ?_)
   refine ac_ ?_
   refine ad_ v_ (fun hc6 => ?_) (fun hc6 => ?_)
   ·replace hc6 := nm_ hc6
    refine aa_ kr_ ?_
    iterate 7 (refine aL_S rfl rfl v_ ?_)
    refine aL_X rfl rfl (ae_ rfl rfl (.inr ⟨rfl, rfl, rfl⟩) g_ va_ (ob_ hs (by omega) (by omega) (by omega)) ?_); rintro _ _ ⟨rfl, rfl⟩
    iterate 2 (refine aL_S rfl rfl v_ ?_)
    refine aL_X rfl rfl (ae_ rfl rfl (.inr ⟨rfl, rfl, rfl⟩) g_ va_ (fq_ (x := (secS l who a.ten a.txt).1) (e := (secS l who a.ten a.txt).2) hS0 (by simp)) ?_); rintro _ τ ⟨rfl, q1, q2⟩
    refine ac_ ?_
    refine ⟨τ, ?_, ?_, ?_⟩
    ·exact ⟨by rw [cj_, if_pos hc6]; exact q1, q2⟩
    ·exact cv_
    ·exact Store.Wk.refl _
   ·replace hc6 := nm_ hc6
    refine ab_ ?_
    refine aa_ kr_ ?_
    iterate 2 (refine aL_S rfl rfl v_ ?_)
    refine ac_ ?_
    refine ad_ v_ (fun hc8 => ?_) (fun hc8 => ?_)
    ·replace hc8 := nm_ hc8
     refine aa_ kr_ ?_
     iterate 9 (refine aL_S rfl rfl v_ ?_)
     refine aL_X rfl rfl (ae_ rfl rfl (.inr ⟨rfl, rfl, rfl⟩) g_ va_ (pO_ hs (by omega) (by omega) (by omega) (by omega) a5 a6) ?_); rintro _ _ ⟨rfl, rfl⟩
     iterate 2 (refine aL_S rfl rfl v_ ?_)
     refine aL_X rfl rfl (ae_ rfl rfl (.inr ⟨rfl, rfl, rfl⟩) g_ va_ (fq_ (x := (dt_ l who a.ten a.fld a.n).1) (e := (dt_ l who a.ten a.fld a.n).2) hS0 (by simp)) ?_); rintro _ τ ⟨rfl, q1, q2⟩
     refine ac_ ?_
     refine ⟨τ, ?_, ?_, ?_⟩
     ·exact ⟨by rw [cj_, if_neg hc6, if_pos hc8]; exact q1, q2⟩
     ·exact cv_
     ·exact Store.Wk.refl _
    ·replace hc8 := nm_ hc8
     refine ab_ ?_
     refine aa_ kr_ ?_
     iterate 2 (refine aL_S rfl rfl v_ ?_)
     refine ac_ ?_
     refine ad_ v_ (fun hc10 => ?_) (fun hc10 => ?_)
     ·replace hc10 := nm_ hc10
      refine aa_ kr_ ?_
      iterate 11 (refine aL_S rfl rfl v_ ?_)
      refine aL_X rfl rfl (ae_ rfl rfl (.inr ⟨rfl, rfl, rfl⟩) g_ va_ (nT_ hs (by omega) (by omega) (by omega) (by omega) (by omega) a5 a6) ?_); rintro _ _ ⟨rfl, rfl⟩
      iterate 2 (refine aL_S rfl rfl v_ ?_)
      refine aL_X rfl rfl (ae_ rfl rfl (.inr ⟨rfl, rfl, rfl⟩) g_ va_ (fq_ (x := (du_ l who a.ten a.bkt a.fld a.n).1) (e := (du_ l who a.ten a.bkt a.fld a.n).2) hS0 (by simp)) ?_); rintro _ τ ⟨rfl, q1, q2⟩
      refine ac_ ?_
      refine ⟨τ, ?_, ?_, ?_⟩
      ·exact ⟨by rw [cj_, if_neg hc6, if_neg hc8, if_pos hc10]; exact q1, q2⟩
      ·exact cv_
      ·exact Store.Wk.refl _
     ·replace hc10 := nm_ hc10
      refine ab_ ?_
      refine aa_ kr_ ?_
      iterate 2 (refine aL_S rfl rfl v_ ?_)
      refine ac_ ?_
      refine ad_ v_ (fun hc12 => ?_) (fun hc12 => ?_)
      ·replace hc12 := nm_ hc12
       refine aa_ kr_ ?_
       iterate 11 (refine aL_S rfl rfl v_ ?_)
       refine aL_X rfl rfl (ae_ rfl rfl (.inr ⟨rfl, rfl, rfl⟩) g_ va_ (mZ_ hs (by omega) (by omega) (by omega) (by omega) (by omega)) ?_); rintro _ _ ⟨rfl, rfl⟩
       iterate 2 (refine aL_S rfl rfl v_ ?_)
       refine aL_X rfl rfl (ae_ rfl rfl (.inr ⟨rfl, rfl, rfl⟩) g_ va_ (fq_ (x := (dp_ l who a.ten a.bkt a.fld a.n).1) (e := (dp_ l who a.ten a.bkt a.fld a.n).2) hS0 (by simp)) ?_); rintro _ τ ⟨rfl, q1, q2⟩
       refine ac_ ?_
       refine ⟨τ, ?_, ?_, ?_⟩
       ·exact ⟨by rw [cj_, if_neg hc6, if_neg hc8, if_neg hc10, if_pos hc12]; exact q1, q2⟩
       ·exact cv_
       ·exact Store.Wk.refl _
      ·replace hc12 := nm_ hc12
       refine ab_ ?_
       refine aa_ kr_ ?_
       iterate 2 (refine aL_S rfl rfl v_ ?_)
       refine ac_ ?_
       refine ad_ v_ (fun hc14 => ?_) (fun hc14 => ?_)
       ·replace hc14 := nm_ hc14
        refine aa_ kr_ ?_
        iterate 3 (refine aL_S rfl rfl v_ ?_)
        refine aL_X rfl rfl (ae_ rfl rfl (.inr ⟨rfl, rfl, rfl⟩) g_ va_ (j6_ (m := a.m) hS0 hs (by omega) (by omega) a7 a8 a9) ?_); rintro _ τ ⟨rfl, q1, q2⟩
        refine ac_ ?_
        refine ⟨τ, ?_, ?_, ?_⟩
        ·exact ⟨by rw [cj_, if_neg hc6, if_neg hc8, if_neg hc10, if_neg hc12, if_pos hc14]; exact q1, q2⟩
        ·exact cv_
        ·exact Store.Wk.refl _
       ·replace hc14 := nm_ hc14
        refine ab_ ?_
        refine aa_ kr_ ?_
        iterate 2 (refine aL_S rfl rfl v_ ?_)
        refine ac_ ?_
        refine ad_ v_ (fun hc16 => ?_) (fun hc16 => ?_)
        ·replace hc16 := nm_ hc16
         refine aa_ kr_ ?_
         iterate 4 (refine aL_S rfl rfl v_ ?_)
         refine aL_X rfl rfl (ae_ rfl rfl (.inr ⟨rfl, rfl, rfl⟩) g_ va_ (m0_ hS0 hs hks (by omega) (by omega) a7) ?_); rintro _ τ ⟨rfl, q1, q2⟩
         refine ac_ ?_
         refine ⟨τ, ?_, ?_, ?_⟩
         ·exact ⟨by rw [cj_, if_neg hc6, if_neg hc8, if_neg hc10, if_neg hc12, if_neg hc14, if_pos hc16]; exact q1, q2⟩
         ·exact cv_
         ·exact Store.Wk.refl _
        ·replace hc16 := nm_ hc16
         refine ab_ ?_
         refine aa_ kr_ ?_
         iterate 2 (refine aL_S rfl rfl v_ ?_)
         refine ac_ ?_
         refine ad_ v_ (fun hc18 => ?_) (fun hc18 => ?_)
         ·replace hc18 := nm_ hc18
          refine aa_ kr_ ?_
          (refine aL_S rfl rfl v_ ?_)
          refine aL_X rfl rfl (ae_ rfl rfl (.inr ⟨rfl, rfl, rfl⟩) g_ va_ (kL_ hS0 hs hks hl (by omega)) ?_); rintro _ τ ⟨rfl, q1, q2⟩
          refine ac_ ?_
          refine ⟨τ, ?_, ?_, ?_⟩
          ·exact ⟨by rw [cj_, if_neg hc6, if_neg hc8, if_neg hc10, if_neg hc12, if_neg hc14, if_neg hc16, if_pos hc18]; exact q1, q2⟩
          ·exact cv_
          ·exact Store.Wk.refl _
         ·replace hc18 := nm_ hc18
          refine aa_ kr_ ?_
          iterate 3 (refine aL_S rfl rfl v_ ?_)
          refine av_ rfl rfl rfl v_ v_ h_ g_ rfl g_ c_ (by rfl) le_ v_ ?_
          refine ac_ ?_
          refine ⟨((σ.set o5 (.cells (sAdm a).cells)).set o20 (.cells [.sl 4 (l.map sEnt) t, vStr who, vNil, vInt 0])).set o20 (.cells [.sl 4 (l.map sEnt) t, vStr who, vNil, vInt 1]), ?_, ?_, ?_⟩
          ·exact ⟨by rw [cj_, if_neg hc6, if_neg hc8, if_neg hc10, if_neg hc12, if_neg hc14, if_neg hc16, if_neg hc18]; exact ⟨_, none, Store.set_get .., .inr ⟨rfl, rfl, rfl⟩⟩, SF.err (Store.set_get ..)⟩
          ·exact cv_
          ·exact Store.Wk.refl _
  ·rintro υ ⟨hC, hF⟩
   simp only [ar_, au_]
   refine ab_ ?_
   refine ab_ ?_
   obtain ⟨b1, old1, h11, h12⟩ := id hC
   have hsub : σ.Sub υ := by
    have g1 := SF.sub (x := .cells [.sl 4 (l.map sEnt) t, vStr who, vNil, vInt 0]) (σ := σ.set o5 (.cells (sAdm a).cells)) (by rw [Store.set_ne _ _ h520]; exact ho20) hF (fun _ _ _ _ _ _ hh => by simp at hh)
    exact ⟨fun i x hx => g1.heap i x (by rw [Store.set_ne _ _ (fun hh => by rw [hh, ho5] at hx; cases hx)]; exact hx), fun u n hu => g1.tok u n hu⟩
   have hadS : adS l who a = if (cj_ l who a).2 = 0 then ((cj_ l who a).1, 0) else ([], (cj_ l who a).2) := by rw [adS, if_pos ⟨hc1.1, hc1.2⟩]
   have R := h11
   refine aa_ kr_ ?_
   iterate 5 (refine aL_S rfl rfl v_ ?_)
   refine ac_ ?_
   refine ad_ v_ (fun hc20 => ?_) (fun hc20 => ?_)
   ·replace hc20 := nm_ hc20
    refine ab_ ?_
    have R := h11
    refine aG_ (.op 0 0 (.op 1 0 (.op 2 0 (.op 3 0 (.op 4 0 (.op 5 0 .nil)))))) Tryz.mixed kr_ ?_
    iterate 6 (refine dR_S o_ (by rfl) (by rfl) v_ ?_)
    refine aL_ ?_
    refine am_ ?_
    rw [hadS, if_neg hc20]
    exact a6_ (v := .tup [.sl 4 [] false, vInt (cj_ l who a).2]) (v' := .tup [vNil, vInt (cj_ l who a).2]) va_ (jT_ _) hsub.wk ⟨rfl, rfl⟩
   ·replace hc20 := nm_ hc20
    refine ah_ ?_
    refine ab_ ?_
    have R := h11
    refine aa_ kr_ ?_
    iterate 6 (refine aL_S rfl rfl v_ ?_)
    refine ac_ ?_
    refine am_ ?_
    rw [hadS, if_pos hc20]
    exact a6_ (v := .tup [.sl 4 ((cj_ l who a).1.map sEnt) false, vInt 0]) (v' := .tup [b1, vInt 0]) va_ (sb_ 0 (bq_.wk h12)) hsub.wk ⟨rfl, rfl⟩
end Go.Proofs.YtkcmbjodladflaaGreatDoor
end
