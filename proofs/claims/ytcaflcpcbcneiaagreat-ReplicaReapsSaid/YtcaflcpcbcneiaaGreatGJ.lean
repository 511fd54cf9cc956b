/-
  CRC-32: the program's and the document's; The library's Join of texts, with nothing between them; Frames: the program's and the document's; A book behind a record: the program's. Own work (an AI agent).
-/
import Derived.Test.YtcaflcpcbcneiaaGreatGG
import Derived.Test.YtcaflcpcbcneiaaGreatGM
import Derived.Test.YtcaflcpcbcneiaaGreatGD
import Derived.Test.YtcaflcpcbcneiaaGreatGI

section
set_option linter.all false
set_option maxRecDepth 100000
namespace Go.Proofs.YtcaflcpcbcneiaaGreat
open Go.Ab
abbrev vBs (l : List (List UInt8)) : List AVal := l.map fun b => vStr (B b)
theorem rk_ {l : List Mnt} {p : ByteArray} (h : ∀ x ∈ l, aH_ x.place = true ∧ cw_ x.n = true) : 1 ≤ dz_ l p ∧ dz_ l p ≤ 9007199254740993 := by
 unfold dz_
 split
 ·rename_i x hx
  have := dU_.1 (h x (List.mem_of_find?_eq_some hx)).2
  omega
 ·omega
set_option maxHeartbeats 4000000 in
theorem s3_ {b : Bk} {r : List UInt8} {σ : Store} (hb : bkOk b = true) (hs : BkSm b) (ho : ObjSm (bf_ (hdX r)).1) : ai_ Tryz.prog 90 [sBk b, vStr (B r)] σ fun v σ' => v = .tup [sBk (apl b r).1, vB (apl b r).2] ∧ σ = σ' := by
 obtain ⟨y1, hy1⟩ : ∃ y, aL_ (r, true) 1 = y := ⟨_, rfl⟩
 obtain ⟨y2, hy2⟩ : ∃ y, as_ y1.2 = y := ⟨_, rfl⟩
 obtain ⟨x, hx⟩ : ∃ x, (bf_ y2.2).1 = x := ⟨_, rfl⟩
 obtain ⟨y3, hy3⟩ : ∃ y, (bf_ y2.2).2 = y := ⟨_, rfl⟩
 have hK : hdK r = y1.1 := by rw [hdK, hy1]
 have hP : hdP r = B y2.1 := by rw [hdP, hy1, hy2]
 have hX : hdX r = y2.2 := by rw [hdX, hy1, hy2]
 rw [hX, hx] at ho
 have hap : apl b r = if aH_ (B y2.1) then
   if y1.1 = 1 then (⟨insK Itm.place ⟨B y2.1, x⟩ b.items, b.mints⟩, fr_ y3 && be_ x && decide (putR (B y2.1) x = r))
   else if y1.1 = 2 then (⟨b.items.filter fun x => !decide (x.place = B y2.1), b.mints⟩, fr_ y2.2)
   else if y1.1 = 3 then (⟨b.items, insK Mnt.place ⟨B y2.1, max (aL_ y2.2 8).1 (dz_ b.mints (B y2.1) - 1)⟩ b.mints⟩, fr_ (aL_ y2.2 8).2 && cw_ (aL_ y2.2 8).1)
   else (b, false)
  else (b, false) := by unfold apl; rw [hK, hP, hX, hx, hy3]
 have hpl : (B y2.1).size ≤ 1048576 := by
  rw [a3_, ← hy2]
  exact Nat.le_trans cP_ (dG_ _ _)
 obtain ⟨⟨ri, _⟩, rm, cm⟩ := bY_.1 hb
 have ni := hs.ni; have nm := hs.nm
 refine en_ Tryz.func90 Tryz.ntmps90 Tryz.results90 ?_
 refine rr_ ?_
 refine bx_ fun o2 ho2 => ?_
 repeat (rw [ac_] at ho2; obtain ⟨_, ho2⟩ := ho2)
 refine lc_ fun o4 ho4 => ?_
 repeat (rw [ac_] at ho4; obtain ⟨_, ho4⟩ := ho4)
 refine s_ ?_
 refine aa_ ?_
 refine rr_ ?_
 refine s_ ?_
 refine x_ g_ va_ (vE_ (s := r)) ?_; rintro _ _ ⟨o, hr, rfl, rfl⟩
 repeat (rw [ac_] at hr; obtain ⟨_, hr⟩ := hr)
 refine s_ ?_
 refine aa_ ?_
 refine rr_ ?_
 refine s_ ?_
 refine x_ g_ va_ (hi_ (x := (r, true)) (Store.set_get ..)) ?_; rintro _ _ ⟨rfl, rfl⟩
 rw [hy1]
 refine s_ ?_
 refine x_ g_ va_ (cW_ (x := y1.2) (Store.set_get ..)) ?_; rintro _ _ ⟨rfl, rfl⟩
 rw [hy2]
 refine lc_ fun o8 ho8 => ?_
 repeat (rw [ac_] at ho8; obtain ⟨_, ho8⟩ := ho8)
 refine s_ ?_
 refine st_ ?_
 refine aa_ ?_
 refine ab_ ?_
 refine rr_ ?_
 refine s_ ?_
 refine x_ g_ va_ (eP_ (by omega)) ?_; rintro _ _ ⟨rfl, rfl⟩
 refine s_ ?_
 refine aa_ ?_
 refine cd_ (fun hc3 => ?_) (fun hc3 => ?_)
 ·refine rr_ ?_
  refine s_ ?_
  refine st_ ?_
  refine s_ ?_
  refine aa_ ?_
  refine af_ ?_
  refine er_ σ ?_
  exact ⟨by rw [hap, if_neg (by simpa using hc3)], rfl⟩
 ·rw [if_pos (by simpa using hc3)] at hap
  have hp100 := bo_ (p := B y2.1) (by simpa using hc3)
  refine ae_ ?_
  refine ab_ ?_
  refine rr_ ?_
  refine s_ ?_
  refine aa_ ?_
  refine ag_ ?_
  refine rr_ ?_
  iterate 2 refine s_ ?_
  refine aa_ ?_
  refine cd_ (fun hc7 => ?_) (fun hc7 => ?_)
  ·refine rr_ ?_
   refine s_ ?_
   refine x_ g_ va_ (pL_ (x := y2.2) h_) ?_; rintro _ τ ⟨rfl, g1, g2⟩
   rw [hx]
   rw [hy3] at g1
   have t2 := keep g2 (i := o2) (x := .cells (sBk b).cells) h_ (by simp; omega)
   have t4 := keep g2 (i := o4) (x := .cells [.lit (.slice none 0 0), .lit (.slice none 0 0)]) h_ (by simp; omega)
   have t8 := keep g2 (i := o8) (x := .cells [vStr (B y2.1)]) h_ (by simp; omega)
   refine lc_ fun o9 ho9 => ?_
   repeat (rw [ac_] at ho9; obtain ⟨_, ho9⟩ := ho9)
   refine st_ ?_
   refine aa_ ?_
   have n92 := aF_ t2 ho9
   have n94 := aF_ t4 ho9
   have n98 := aF_ t8 ho9
   have n9o := aF_ g1 ho9
   have st : SubX [] σ τ := ⟨fun i x _ hx => by
    have h1 : i ≠ o := fun hh => by rw [hh, hr] at hx; cases hx
    have h2 : i ≠ o2 := fun hh => by rw [hh, ho2] at hx; cases hx
    have h4 : i ≠ o4 := fun hh => by rw [hh, ho4] at hx; cases hx
    have h8 : i ≠ o8 := fun hh => by rw [hh, ho8] at hx; cases hx
    exact g2.1 i x (by simpa using h1) (by simp only [Store.set_ne _ _ h1, Store.set_ne _ _ h2, Store.set_ne _ _ h4, Store.set_ne _ _ h8]; exact hx), fun t n ht => g2.2 t n ht⟩
   have n9σ : σ.heap o9 = none := SubX.noObj st ho9 (by simp)
   refine ab_ ?_
   have R := And.intro t2 (And.intro t4 t8)
   refine r_ ?_
   iterate 2 refine s_ ?_
   refine x_ g_ va_ (em_ (by omega) ho) ?_; rintro _ _ ⟨rfl, rfl⟩
   iterate 5 refine s_ ?_
   refine aa_ ?_
   refine ab_ ?_
   have R := And.intro t2 (And.intro t4 t8)
   refine r_ ?_
   iterate 5 refine s_ ?_
   refine x_ g_ va_ (wl_ (x := ⟨B y2.1, x⟩) ri (by omega)) ?_; rintro _ _ ⟨rfl, rfl⟩
   refine s_ ?_
   refine st_ ?_
   refine aa_ ?_
   refine ab_ ?_
   have R := And.intro t2 (And.intro t4 (And.intro t8 g1))
   refine ap_ (.op 0 0 (.op 1 0 (.op 2 1 (.op 3 0 (.op 4 0 (.op 5 0 (.op 6 0 (.op 7 0 (.op 8 0 (.op 9 0 (.any 10 (.op 11 0 (.op 12 2 (.op 13 0 .nil)))))))))))))) Tryz.mixed kr_ ?_
   iterate 2 refine ds_ ?_
   refine dx_ o_ g_ va_ (jx_ (x := y3) h_) ?_; rintro _ _ ⟨rfl, rfl⟩; refine ⟨sub_, ?_⟩
   refine ds_ ?_
   refine dgt_ ?_
   refine dgt_ ?_
   iterate 2 refine ds_ ?_
   refine dgt_ ?_
   refine dgt_ ?_
   refine uZ_ o_ (by rfl) (by rfl) v_ (by rfl) (fun _ => vg_) ?_
   refine ds_ ?_
   refine dst_ ?_
   refine ds_ ?_
   refine aB_ ?_
   refine af_ ?_
   refine au_ (σ' := σ) va_ ?_ ?_
   ·(try dsimp only)
    refine bd_ ?_
    repeat (refine ar_ (by assumption) ?_)
    exact st
   ·refine ⟨?_, rfl⟩
    rw [hap, if_pos hc7]
    have hput : ((cA_ (B y2.1) x).2 = 0 ∧ B (cA_ (B y2.1) x).1 = B r) ↔ (be_ x = true ∧ putR (B y2.1) x = r) := by
     unfold cA_
     rw [show aH_ (B y2.1) = true by simpa using hc3, Bool.true_and]
     split
     ·rename_i h; rw [db_]; simp [h]
     ·rename_i h; simp [h]
    have hbl : (y3.2 && decide (y3.1 = []) && decide ((cA_ (B y2.1) x).2 = 0) && decide (B (cA_ (B y2.1) x).1 = B r)) = (fr_ y3 && be_ x && decide (putR (B y2.1) x = r)) := by
     rw [Bool.eq_iff_iff]
     simp only [fr_, Bool.and_eq_true, decide_eq_true_eq, and_assoc]
     rw [hput]
    rw [hbl]
  ·refine rr_ ?_
   iterate 2 refine s_ ?_
   refine aa_ ?_
   refine cd_ (fun hc12 => ?_) (fun hc12 => ?_)
   ·refine r_ ?_
    iterate 2 refine s_ ?_
    refine x_ g_ va_ (oG_ (by omega)) ?_; rintro _ τ0 hC0
    refine s_ ?_
    refine x_ g_ va_ (mj_ (p := fun x => decide (x.place = B y2.1)) ⟨by kernel_rfl, fun τ h x _ => qF_ (h o8 _ h_)⟩ hC0 (by omega)) ?_; rintro _ _ ⟨rfl, rfl⟩
    refine s_ ?_
    refine st_ ?_
    refine aa_ ?_
    refine ab_ ?_
    refine ap_ (.op 0 0 (.op 1 0 (.op 2 1 (.op 3 2 (.op 4 0 .nil))))) Tryz.mixed kr_ ?_
    iterate 2 refine ds_ ?_
    refine dx_ o_ g_ va_ (jx_ (x := y2.2) h_) ?_; rintro _ _ ⟨rfl, rfl⟩; refine ⟨sub_, ?_⟩
    refine dst_ ?_
    refine ds_ ?_
    refine aB_ ?_
    refine af_ ?_
    refine er_ σ ?_
    exact ⟨by rw [hap, if_neg hc7, if_pos hc12]; rfl, rfl⟩
   ·refine rr_ ?_
    iterate 2 refine s_ ?_
    refine aa_ ?_
    refine cd_ (fun hc14 => ?_) (fun hc14 => ?_)
    ·refine rr_ ?_
     refine s_ ?_
     refine x_ g_ va_ (eo_ (x := y2.2) h_) ?_; rintro _ _ ⟨rfl, rfl⟩
     refine s_ ?_
     refine aa_ ?_
     refine ab_ ?_
     have hnx := rk_ (l := b.mints) (p := B y2.1) cm
     refine ap_ (.op 0 0 (.op 1 0 (.op 2 0 (.op 3 0 (.op 4 0 (.op 5 0 (.op 6 1 (.op 7 0 (.op 8 0 (.op 9 0 (.op 10 1 (.op 11 0 (.op 12 2 .nil))))))))))))) Tryz.mixed kr_ ?_
     iterate 6 refine ds_ ?_
     refine dx_ o_ g_ va_ (vF_ (by omega) (fun x hx => by have := dU_.1 (cm x hx).2; omega)) ?_; rintro _ _ ⟨rfl, rfl⟩; refine ⟨sub_, ?_⟩
     iterate 3 refine ds_ ?_
     refine dx_ o_ g_ va_ (wm_ (x := ⟨B y2.1, max (aL_ y2.2 8).1 (dz_ b.mints (B y2.1) - 1)⟩) rm (by omega)) ?_; rintro _ _ ⟨rfl, rfl⟩; refine ⟨sub_, ?_⟩
     refine ds_ ?_
     refine dst_ ?_
     refine aB_ ?_
     refine ab_ ?_
     refine ap_ (.op 0 0 (.op 1 0 (.op 2 1 (.op 3 0 (.op 4 0 (.op 5 1 (.op 6 0 (.op 7 2 (.op 8 0 .nil))))))))) Tryz.mixed kr_ ?_
     iterate 2 refine ds_ ?_
     refine dx_ o_ g_ va_ (jx_ (x := (aL_ y2.2 8).2) h_) ?_; rintro _ _ ⟨rfl, rfl⟩; refine ⟨sub_, ?_⟩
     refine ds_ ?_
     refine dgt_ ?_
     refine fi_ o_ (by rfl) (by rfl) v_ (by rfl) sub_ (fun hb => av_ (by rfl) (by rfl) (.inr ⟨by rfl, by rfl, by rfl⟩) g_ cg_ (kj_)) ?_
     refine ds_ ?_
     refine dst_ ?_
     refine ds_ ?_
     refine aB_ ?_
     refine af_ ?_
     refine er_ σ ?_
     exact ⟨by rw [hap, if_neg hc7, if_neg hc12, if_pos hc14]; rfl, rfl⟩
    ·refine rr_ ?_
     refine s_ ?_
     refine st_ ?_
     refine s_ ?_
     refine aa_ ?_
     refine af_ ?_
     refine er_ σ ?_
     exact ⟨by rw [hap, if_neg hc7, if_neg hc12, if_neg hc14], rfl⟩
end Go.Proofs.YtcaflcpcbcneiaaGreat
end
