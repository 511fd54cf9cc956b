/-
  Books: whether they may be, few, the same; records. Both sides; The library's Clone and DeleteFunc at pantler/api.Item; Something put into a row of pantler/api.Item by its place: binary search, slices.Insert, with; The library's Clone and DeleteFunc at pantler/api.Mint; Something put into a row of pantler/api.Mint by its place: binary search, slices.Insert, with; What a book has of a place, what it would mint next, its size; without a place; Records of a book, on both sides; what a book has of a place; its size; CONTEXTS AND OBJECTS, as they come in; MESSAGES, as they come in; Books, as they come in. Own work (an AI agent).
-/
import Derived.Test.YtcaflcpcbcneiaaGreatGG
import Derived.Test.YtcaflcpcbcneiaaGreatGH
import Derived.Test.YtcaflcpcbcneiaaGreatGM
import Derived.Test.YtcaflcpcbcneiaaGreatGE

section
set_option linter.all false
set_option maxRecDepth 100000
namespace Go.Proofs.YtcaflcpcbcneiaaGreat
open Go.Ab
structure MntSm (x : Mnt) : Prop where
 place : x.place.size ≤ 1000000
 n : -1000000000000000000 ≤ x.n ∧ x.n ≤ 1000000000000000000
structure BkSm (b : Bk) : Prop where
 items : ∀ x ∈ b.items, ItemSm x
 mints : ∀ x ∈ b.mints, x.place.size ≤ 1000000
 ni : b.items.length ≤ 100000
 nm : b.mints.length ≤ 100000
theorem kj_ {n : Int} {σ : Store} : ai_ Tryz.prog 107 [vInt n] σ fun v σ' => v = vB (cw_ n) ∧ σ = σ' := by
 refine en_ Tryz.func107 Tryz.ntmps107 Tryz.results107 ?_
 refine rr_ ?_
 refine s_ ?_
 refine aa_ ?_
 refine rr_ ?_
 iterate 3 refine s_ ?_
 refine gt_ ?_
 refine gt_ ?_
 iterate 2 refine s_ ?_
 refine aa_ ?_
 refine af_ ?_
 refine er_ σ ?_
 exact ⟨rfl, rfl⟩
theorem cN_ {x : Mnt} {σ : Store} : ai_ Tryz.prog 102 [sMnt x] σ fun v σ' => v = vStr x.place ∧ σ = σ' := by
 refine en_ Tryz.func102 Tryz.ntmps102 Tryz.results102 ?_
 refine rr_ ?_
 refine bx_ fun o1 ho1 => ?_
 repeat (rw [ac_] at ho1; obtain ⟨_, ho1⟩ := ho1)
 refine s_ ?_
 refine aa_ ?_
 refine rr_ ?_
 iterate 3 refine s_ ?_
 refine aa_ ?_
 refine af_ ?_
 refine er_ σ ?_
 exact ⟨rfl, rfl⟩
theorem t1_ {l : List Mnt} {t : Bool} {σ : Store} (hx : ∀ x ∈ l, x.place.size ≤ 1000000) (hn : l.length ≤ 1000000) : ai_ Tryz.prog 101 [.sl 2 (l.map sMnt) t, .lit (.func (.func 102) #[] #[])] σ fun v σ' => v = vB (upGo (fun x => aH_ x.place) Mnt.place none l) ∧ σ = σ' := by
 refine en_ Tryz.func101 Tryz.ntmps101 Tryz.results101 ?_
 refine rr_ ?_
 refine s_ ?_
 refine aa_ ?_
 refine ab_ ?_
 refine rr_ ?_
 iterate 3 refine s_ ?_
 refine aa_ ?_
 refine ag_ ?_
 refine ah_ (ι := Nat) (fun k => l.length - k) (fun k => k ≤ l.length ∧ upGo (fun x => aH_ x.place) Mnt.place (pvK Mnt.place l k) (l.drop k) = upGo (fun x => aH_ x.place) Mnt.place none l) (fun k => [(0, .sl 2 (l.map sMnt) t), (1, .lit (.func (.func 102) #[] #[])), (7, .sl 2 (l.map sMnt) t), (8, vInt l.length), (9, vInt k)]) (fun k => σ) 0 ?_ ?_ ?_ ?_
 ·exact ⟨Nat.zero_le _, rfl⟩
 ·exact cv_
 ·exact sub_
 rintro k ⟨hk, hr⟩
 simp only [ak_, am_]
 refine rr_ ?_
 refine s_ ?_
 refine aa_ ?_
 refine ab_ ?_
 refine cd_ (fun hc2 => ?_) (fun hc2 => ?_)
 ·refine ae_ ?_
  refine ab_ ?_
  refine ag_ ?_
  refine ab_ ?_
  obtain ⟨x, hxk⟩ := aq_ (l := l) (k := k) (by omega)
  have hsx := hx x (List.mem_of_getElem? hxk)
  obtain ⟨y, hy, hah⟩ := hh_ Mnt.place l k (by omega)
  have hst : upGo (fun x => aH_ x.place) Mnt.place (pvK Mnt.place l k) (l.drop k) = (aH_ x.place && b3_ (pvK Mnt.place l k) x.place && upGo (fun x => aH_ x.place) Mnt.place (some x.place) (l.drop (k + 1))) := by rw [bh_ hxk]; rfl
  have R := hxk
  refine r_ ?_
  iterate 3 refine s_ ?_
  refine lc_ fun o6 ho6 => ?_
  repeat (rw [ac_] at ho6; obtain ⟨_, ho6⟩ := ho6)
  refine s_ ?_
  refine st_ ?_
  refine aa_ ?_
  refine ab_ ?_
  have R := hy
  refine ap_ (.op 0 0 (.op 1 0 (.op 2 1 (.op 3 1 (.op 4 0 (.op 5 0 (.op 6 0 (.op 7 0 (.op 8 0 (.op 9 0 (.op 10 0 (.op 11 0 (.op 12 0 (.op 13 0 (.op 14 0 (.op 16 0 (.op 17 0 (.op 15 1 (.op 18 1 (.op 19 0 (.op 20 0 (.op 21 0 .nil)))))))))))))))))))))) Tryz.mixed kr_ ?_
  iterate 2 refine ds_ ?_
  refine dR_X o_ (by rfl) (by rfl) (aU_ (by rfl) (by rfl) (.inr ⟨va_, by rfl, by rfl⟩) g_ va_ (cN_) ?_); rintro _ _ ⟨rfl, rfl⟩; refine ⟨sub_, ?_⟩
  refine dx_ o_ g_ va_ (eP_ (by omega)) ?_; rintro _ _ ⟨rfl, rfl⟩; refine ⟨sub_, ?_⟩
  iterate 2 refine ds_ ?_
  refine dgf_ ?_
  refine dgf_ ?_
  refine dgf_ ?_
  refine aK_ ?_
  refine aK_ ?_
  refine aK_ ?_
  refine aK_ ?_
  refine aK_ ?_
  refine aK_ ?_
  refine aK_ ?_
  refine aK_ ?_
  refine eF_ o_ (by rfl) (by rfl) v_ (by rfl) sub_ (fun hb => av_ (by rfl) (by rfl) (.inr ⟨vh_, by rfl, by rfl⟩) g_ cg_ (cN_)) ?_
  refine eF_ o_ (by rfl) (by rfl) v_ (by rfl) sub_ (fun hb => av_ (by rfl) (by rfl) (.inr ⟨vh_, by rfl, by rfl⟩) g_ cg_ (cN_)) ?_
  refine aK_ ?_
  refine dgf_ ?_
  refine ds_ ?_
  refine aB_ ?_
  refine cd_ (fun hc4 => ?_) (fun hc4 => ?_)
  ·refine rr_ ?_
   refine s_ ?_
   refine aa_ ?_
   refine af_ ?_
   refine er_ σ ?_
   refine ⟨?_, rfl⟩
   rw [← hr, hst, r9_ (hah _) hc4]
  ·have hnx : upGo (fun x => aH_ x.place) Mnt.place (pvK Mnt.place l (k + 1)) (l.drop (k + 1)) = upGo (fun x => aH_ x.place) Mnt.place none l := by rw [hg_ hxk, ← hr, hst, nh_ (hah _) hc4]
   refine ae_ ?_
   refine r_ ?_
   iterate 2 refine s_ ?_
   refine aa_ ?_
   refine aC_ (ι := Nat) (i := k) (k + 1) ?_ ?_ ?_ ?_
   ·omega
   ·exact ⟨by omega, hnx⟩
   ·exact cv_
   ·exact sub_
 ·refine an_ ?_
  refine ad_ ?_
  refine ad_ ?_
  refine aj_ ?_
  refine rr_ ?_
  refine s_ ?_
  refine aa_ ?_
  refine af_ ?_
  refine er_ σ ?_
  refine ⟨?_, rfl⟩
  rw [← hr, List.drop_eq_nil_of_le (by omega)]; rfl
theorem oF_ {x : Mnt} {σ : Store} : ai_ Tryz.prog 106 [sMnt x] σ fun v σ' => v = vB (!cw_ x.n) ∧ σ = σ' := by
 refine en_ Tryz.func106 Tryz.ntmps106 Tryz.results106 ?_
 refine rr_ ?_
 refine bx_ fun o1 ho1 => ?_
 repeat (rw [ac_] at ho1; obtain ⟨_, ho1⟩ := ho1)
 refine s_ ?_
 refine aa_ ?_
 refine rr_ ?_
 iterate 2 refine s_ ?_
 refine x_ g_ va_ (kj_) ?_; rintro _ _ ⟨rfl, rfl⟩
 iterate 2 refine s_ ?_
 refine aa_ ?_
 refine af_ ?_
 refine er_ σ ?_
 exact ⟨rfl, rfl⟩
theorem rb_ {l : List Mnt} {t : Bool} {σ : Store} (hn : l.length ≤ 1000000) : ai_ Tryz.prog 167 [.sl 2 (l.map sMnt) t, .lit (.func (.func 106) #[] #[])] σ fun v σ' => (∃ r, v = vInt r ∧ decide (0 ≤ r) = l.any (fun x => !cw_ x.n)) ∧ σ = σ' := by
 refine en_ Tryz.func167 Tryz.ntmps167 Tryz.results167 ?_
 refine rr_ ?_
 refine s_ ?_
 refine aa_ ?_
 refine ab_ ?_
 refine rr_ ?_
 iterate 3 refine s_ ?_
 refine aa_ ?_
 refine ag_ ?_
 refine ah_ (ι := Nat) (fun k => l.length - k) (fun k => k ≤ l.length ∧ (l.take k).any (fun x => !cw_ x.n) = false) (fun k => [(0, .sl 2 (l.map sMnt) t), (1, .lit (.func (.func 106) #[] #[])), (7, vInt l.length), (8, vInt k)]) (fun k => σ) 0 ?_ ?_ ?_ ?_
 ·exact ⟨Nat.zero_le _, rfl⟩
 ·exact cv_
 ·exact sub_
 rintro k ⟨hk, ha⟩
 simp only [ak_, am_]
 refine rr_ ?_
 refine s_ ?_
 refine aa_ ?_
 refine ab_ ?_
 refine cd_ (fun hc2 => ?_) (fun hc2 => ?_)
 ·refine ae_ ?_
  refine ab_ ?_
  refine ag_ ?_
  refine ab_ ?_
  obtain ⟨x, hxk⟩ := aq_ (l := l) (k := k) (by omega)
  refine r_ ?_
  iterate 2 refine s_ ?_
  refine aa_ ?_
  refine ab_ ?_
  have R := hxk
  refine r_ ?_
  iterate 5 refine s_ ?_
  refine aL_X rfl rfl (aU_ rfl rfl (.inr ⟨va_, rfl, rfl⟩) g_ va_ (oF_) ?_); rintro _ _ ⟨rfl, rfl⟩
  refine aa_ ?_
  refine cd_ (fun hc4 => ?_) (fun hc4 => ?_)
  ·refine rr_ ?_
   iterate 2 refine s_ ?_
   refine aa_ ?_
   refine af_ ?_
   refine er_ σ ?_
   exact ⟨⟨(k : Int), rfl, by rw [decide_eq_true (by omega)]; exact (gq_ hxk (by simpa using hc4)).symm⟩, rfl⟩
  ·refine ae_ ?_
   refine r_ ?_
   iterate 2 refine s_ ?_
   refine aa_ ?_
   refine aC_ (ι := Nat) (i := k) (k + 1) ?_ ?_ ?_ ?_
   ·omega
   ·exact ⟨by omega, e1_ hxk (by simpa using hc4) ha⟩
   ·exact cv_
   ·exact sub_
 ·refine an_ ?_
  refine ad_ ?_
  refine ad_ ?_
  refine aj_ ?_
  refine rr_ ?_
  refine s_ ?_
  refine aa_ ?_
  refine af_ ?_
  refine er_ σ ?_
  exact ⟨⟨-1, rfl, (gp_ (by omega) ha).symm⟩, rfl⟩
theorem lk_ {l : List Mnt} {t : Bool} {σ : Store} (hn : l.length ≤ 1000000) : ai_ Tryz.prog 105 [.sl 2 (l.map sMnt) t, .lit (.func (.func 106) #[] #[])] σ fun v σ' => v = vB (l.any fun x => !cw_ x.n) ∧ σ = σ' := by
 refine en_ Tryz.func105 Tryz.ntmps105 Tryz.results105 ?_
 refine rr_ ?_
 refine s_ ?_
 refine aa_ ?_
 refine rr_ ?_
 iterate 2 refine s_ ?_
 refine x_ g_ va_ (rb_ hn) ?_; rintro _ _ ⟨⟨r, rfl, hr⟩, rfl⟩
 iterate 2 refine s_ ?_
 refine aa_ ?_
 refine af_ ?_
 refine er_ σ ?_
 exact ⟨by rw [← hr], rfl⟩
theorem hs_ {b : Bk} {σ : Store} (hbs : BkSm b) : ai_ Tryz.prog 45 [sBk b] σ fun v σ' => v = vInt (if bkOk b then 0 else 1) ∧ σ = σ' := by
 have n1 := hbs.ni; have n2 := hbs.nm
 have hob : bkOk b = ((upGo (fun x => aH_ x.place) Itm.place none b.items && !(b.items.any fun x => !be_ x.obj)) && (upGo (fun x => aH_ x.place) Mnt.place none b.mints && !(b.mints.any fun x => !cw_ x.n))) := by
  have e1 : hK_ b.items = (upGo (fun x => aH_ x.place) Itm.place none b.items && b.items.all fun x => be_ x.obj) := jJ_
  have e2 : jn_ b.mints = (upGo (fun x => aH_ x.place) Mnt.place none b.mints && b.mints.all fun x => cw_ x.n) := jJ_
  have e3 : (b.items.all fun x => be_ x.obj) = !(b.items.any fun x => !be_ x.obj) := by rw [List.not_any_eq_all_not]; simp
  have e4 : (b.mints.all fun x => cw_ x.n) = !(b.mints.any fun x => !cw_ x.n) := by rw [List.not_any_eq_all_not]; simp
  rw [bkOk, e1, e2, e3, e4]
 refine en_ Tryz.func45 Tryz.ntmps45 Tryz.results45 ?_
 refine rr_ ?_
 refine bx_ fun o1 ho1 => ?_
 repeat (rw [ac_] at ho1; obtain ⟨_, ho1⟩ := ho1)
 refine s_ ?_
 refine aa_ ?_
 refine rr_ ?_
 iterate 2 refine s_ ?_
 refine x_ g_ va_ (t0_ (fun x h => (hbs.items x h).place) (by omega)) ?_; rintro _ _ ⟨rfl, rfl⟩
 iterate 2 refine s_ ?_
 refine gf_ ?_
 refine gf_ ?_
 refine bt_ rfl rfl v_ rfl (fun hb => av_ (by rfl) (by rfl) (.inr ⟨by rfl, by rfl, by rfl⟩) g_ cg_ (t1_ hbs.mints (by omega))) ?_
 refine gf_ ?_
 iterate 2 refine s_ ?_
 refine aa_ ?_
 refine rr_ ?_
 iterate 2 refine s_ ?_
 refine gf_ ?_
 refine gf_ ?_
 refine bt_ rfl rfl v_ rfl (fun hb => av_ (by rfl) (by rfl) (.inr ⟨by rfl, by rfl, by rfl⟩) g_ cg_ (lj_ (fun x h => (hbs.items x h).obj) (by omega))) ?_
 iterate 2 refine s_ ?_
 refine aa_ ?_
 refine ab_ ?_
 refine rr_ ?_
 iterate 2 refine s_ ?_
 refine gf_ ?_
 refine gf_ ?_
 refine bt_ rfl rfl v_ rfl (fun hb => av_ (by rfl) (by rfl) (.inr ⟨by rfl, by rfl, by rfl⟩) g_ cg_ (lk_ (by omega))) ?_
 refine s_ ?_
 refine aa_ ?_
 refine cd_ (fun hc3 => ?_) (fun hc3 => ?_)
 ·refine rr_ ?_
  refine s_ ?_
  refine aa_ ?_
  refine af_ ?_
  refine er_ σ ?_
  refine ⟨?_, rfl⟩
  rw [hob]
  rcases hc3 with ((h | h) | h) | h <;> simp [h]
 ·refine ae_ ?_
  refine rr_ ?_
  refine s_ ?_
  refine aa_ ?_
  refine af_ ?_
  refine er_ σ ?_
  refine ⟨?_, rfl⟩
  rw [hob]; simp [hc3]
theorem gA_ {b : Bk} {σ : Store} (hbs : BkSm b) : ai_ Tryz.prog 22 [sBk b] σ fun v σ' => v = vB (bkOk b) ∧ σ = σ' := by
 have n1 := hbs.ni; have n2 := hbs.nm
 refine en_ Tryz.func22 Tryz.ntmps22 Tryz.results22 ?_
 refine rr_ ?_
 refine bx_ fun o1 ho1 => ?_
 repeat (rw [ac_] at ho1; obtain ⟨_, ho1⟩ := ho1)
 refine s_ ?_
 refine aa_ ?_
 refine ab_ ?_
 refine rr_ ?_
 refine s_ ?_
 refine aa_ ?_
 refine ag_ ?_
 refine ah_ (ι := Nat) (fun k => b.items.length - k) (fun k => k ≤ b.items.length ∧ upGo (fun x => aH_ x.place && be_ x.obj) Itm.place (pvK Itm.place b.items k) (b.items.drop k) = hK_ b.items) (fun k => [(1, .ref o1 0), (3, vInt k)]) (fun k => (σ.set o1 (.cells (sBk b).cells))) 0 ?_ ?_ ?_ ?_
 ·exact ⟨Nat.zero_le _, rfl⟩
 ·exact cv_
 ·exact Store.Wk.refl _
 rintro k ⟨hk, hr⟩
 simp only [ak_, am_]
 refine ab_ ?_
 refine rr_ ?_
 iterate 5 refine s_ ?_
 refine aa_ ?_
 refine cd_ (fun hc2 => ?_) (fun hc2 => ?_)
 ·refine ae_ ?_
  refine ab_ ?_
  refine ag_ ?_
  refine ab_ ?_
  obtain ⟨x, hxk⟩ := aq_ (l := b.items) (k := k) (by omega)
  have hsx := hbs.items x (List.mem_of_getElem? hxk)
  have hpl := hsx.place
  obtain ⟨y, hy, hah⟩ := hh_ Itm.place b.items k (by omega)
  have hst : upGo (fun x => aH_ x.place && be_ x.obj) Itm.place (pvK Itm.place b.items k) (b.items.drop k) = ((aH_ x.place && be_ x.obj) && b3_ (pvK Itm.place b.items k) x.place && upGo (fun x => aH_ x.place && be_ x.obj) Itm.place (some x.place) (b.items.drop (k + 1))) := by rw [bh_ hxk]; rfl
  have R := hxk
  refine r_ ?_
  iterate 5 refine s_ ?_
  refine lc_ fun o4 ho4 => ?_
  repeat (rw [ac_] at ho4; obtain ⟨_, ho4⟩ := ho4)
  refine st_ ?_
  refine aa_ ?_
  refine ab_ ?_
  have R := hy
  refine ap_ (.op 0 0 (.op 1 0 (.op 2 1 (.op 3 0 (.op 4 0 (.op 5 0 (.op 6 0 (.op 7 1 (.op 8 0 (.op 9 0 (.op 10 0 (.op 11 0 (.op 12 0 (.op 13 0 (.op 14 0 (.op 15 0 (.op 16 0 (.op 17 0 (.op 18 0 (.op 19 0 (.op 20 0 (.op 21 0 (.op 22 0 (.op 23 0 (.op 24 0 (.op 25 0 .nil)))))))))))))))))))))))))) Tryz.mixed kr_ ?_
  iterate 2 refine ds_ ?_
  refine dx_ o_ g_ va_ (cO_ (by omega)) ?_; rintro _ _ ⟨rfl, rfl⟩; refine ⟨sub_, ?_⟩
  iterate 2 refine ds_ ?_
  refine dgf_ ?_
  refine dgf_ ?_
  refine hE_ o_ (by rfl) (by rfl) v_ (by rfl) sub_ (fun hb => av_ (by rfl) (by rfl) (.inr ⟨by rfl, by rfl, by rfl⟩) g_ cg_ (dF_ hsx.obj)) ?_
  refine dgf_ ?_
  iterate 2 refine ds_ ?_
  refine dgf_ ?_
  refine dgf_ ?_
  refine dgf_ ?_
  refine aK_ ?_
  refine aK_ ?_
  refine aK_ ?_
  refine aK_ ?_
  refine aK_ ?_
  refine aK_ ?_
  refine aK_ ?_
  refine aK_ ?_
  refine aK_ ?_
  refine aK_ ?_
  refine dgf_ ?_
  refine ds_ ?_
  refine aB_ ?_
  refine cd_ (fun hc5 => ?_) (fun hc5 => ?_)
  ·refine rr_ ?_
   refine s_ ?_
   refine aa_ ?_
   refine af_ ?_
   refine er_ σ ?_
   refine ⟨?_, rfl⟩
   rw [bkOk, ← hr, hst, r9_ (hah _) (by rcases hc5 with (h | h) | h; exact .inl (by simp [h]); exact .inl (by simp [h]); exact .inr h), Bool.false_and]
  ·have hnx : upGo (fun x => aH_ x.place && be_ x.obj) Itm.place (pvK Itm.place b.items (k + 1)) (b.items.drop (k + 1)) = hK_ b.items := by rw [hg_ hxk, ← hr, hst, nh_ (hah _) ⟨by simp [hc5], hc5.2⟩]
   refine ae_ ?_
   refine r_ ?_
   iterate 3 refine s_ ?_
   refine aa_ ?_
   refine aC_ (ι := Nat) (i := k) (k + 1) ?_ ?_ ?_ ?_
   ·omega
   ·exact ⟨by omega, hnx⟩
   ·exact cv_
   ·exact sub_
 ·refine an_ ?_
  refine ad_ ?_
  refine ad_ ?_
  refine aj_ ?_
  refine ab_ ?_
  refine ab_ ?_
  have hio : hK_ b.items = true := by rw [← hr, List.drop_eq_nil_of_le (by omega)]; rfl
  refine r_ ?_
  refine s_ ?_
  refine aa_ ?_
  refine ag_ ?_
  refine ah_ (ι := Nat) (fun j => b.mints.length - j) (fun j => j ≤ b.mints.length ∧ upGo (fun x => aH_ x.place && cw_ x.n) Mnt.place (pvK Mnt.place b.mints j) (b.mints.drop j) = jn_ b.mints) (fun j => [(1, .ref o1 0), (5, vInt j)]) (fun j => (σ.set o1 (.cells (sBk b).cells))) 0 ?_ ?_ ?_ ?_
  ·exact ⟨Nat.zero_le _, rfl⟩
  ·exact cv_
  ·exact Store.Wk.refl _
  rintro j ⟨hj, hr2⟩
  simp only [ak_, am_]
  refine ab_ ?_
  refine rr_ ?_
  iterate 5 refine s_ ?_
  refine aa_ ?_
  refine cd_ (fun hc8 => ?_) (fun hc8 => ?_)
  ·refine ae_ ?_
   refine ab_ ?_
   refine ag_ ?_
   refine ab_ ?_
   obtain ⟨x, hxk⟩ := aq_ (l := b.mints) (k := j) (by omega)
   have hpl := hbs.mints x (List.mem_of_getElem? hxk)
   obtain ⟨y, hy, hah⟩ := hh_ Mnt.place b.mints j (by omega)
   have hst : upGo (fun x => aH_ x.place && cw_ x.n) Mnt.place (pvK Mnt.place b.mints j) (b.mints.drop j) = ((aH_ x.place && cw_ x.n) && b3_ (pvK Mnt.place b.mints j) x.place && upGo (fun x => aH_ x.place && cw_ x.n) Mnt.place (some x.place) (b.mints.drop (j + 1))) := by rw [bh_ hxk]; rfl
   have R := hxk
   refine r_ ?_
   iterate 5 refine s_ ?_
   refine lc_ fun o6 ho6 => ?_
   repeat (rw [ac_] at ho6; obtain ⟨_, ho6⟩ := ho6)
   refine st_ ?_
   refine aa_ ?_
   refine ab_ ?_
   have R := hy
   refine ap_ (.op 0 0 (.op 1 0 (.op 2 1 (.op 3 0 (.op 4 0 (.op 5 0 (.op 6 0 (.op 7 0 (.op 8 0 (.op 9 0 (.op 10 0 (.op 11 0 (.op 12 0 (.op 13 0 (.op 14 0 (.op 15 0 (.op 16 0 (.op 17 0 (.op 18 0 (.op 19 0 (.op 20 0 (.op 21 0 (.op 22 0 (.op 23 0 (.op 24 0 (.op 25 0 (.op 26 0 (.op 27 0 (.op 28 0 (.op 29 0 .nil)))))))))))))))))))))))))))))) Tryz.mixed kr_ ?_
   iterate 2 refine ds_ ?_
   refine dx_ o_ g_ va_ (cO_ (by omega)) ?_; rintro _ _ ⟨rfl, rfl⟩; refine ⟨sub_, ?_⟩
   iterate 2 refine ds_ ?_
   refine dgf_ ?_
   refine dgf_ ?_
   refine dgf_ ?_
   iterate 2 refine ds_ ?_
   refine dgf_ ?_
   refine dgf_ ?_
   refine dgf_ ?_
   iterate 2 refine ds_ ?_
   refine dgf_ ?_
   refine dgf_ ?_
   refine dgf_ ?_
   refine aK_ ?_
   refine aK_ ?_
   refine aK_ ?_
   refine aK_ ?_
   refine aK_ ?_
   refine aK_ ?_
   refine aK_ ?_
   refine aK_ ?_
   refine aK_ ?_
   refine aK_ ?_
   refine dgf_ ?_
   refine ds_ ?_
   refine aB_ ?_
   refine cd_ (fun hc11 => ?_) (fun hc11 => ?_)
   ·refine rr_ ?_
    refine s_ ?_
    refine aa_ ?_
    refine af_ ?_
    refine er_ σ ?_
    refine ⟨?_, rfl⟩
    rw [bkOk, hio, ← hr2, hst, r9_ (hah _) (by rcases hc11 with ((h | h) | h) | h; exact .inl (by simp [h]); exact .inl (by rw [cw_, decide_eq_false (by omega)]; simp); exact .inl (by rw [cw_, decide_eq_false (p := x.n ≤ 9007199254740992) (by omega)]; simp); exact .inr h), Bool.true_and]
   ·have hnx : upGo (fun x => aH_ x.place && cw_ x.n) Mnt.place (pvK Mnt.place b.mints (j + 1)) (b.mints.drop (j + 1)) = jn_ b.mints := by rw [hg_ hxk, ← hr2, hst, nh_ (hah _) ⟨by rw [hc11.1.1.1, cw_, decide_eq_true (by omega), decide_eq_true (by omega)]; rfl, hc11.2⟩]
    refine ae_ ?_
    refine r_ ?_
    iterate 3 refine s_ ?_
    refine aa_ ?_
    refine aC_ (ι := Nat) (i := j) (j + 1) ?_ ?_ ?_ ?_
    ·omega
    ·exact ⟨by omega, hnx⟩
    ·exact cv_
    ·exact sub_
  ·refine an_ ?_
   refine ad_ ?_
   refine ad_ ?_
   refine aj_ ?_
   refine rr_ ?_
   refine s_ ?_
   refine aa_ ?_
   refine af_ ?_
   refine er_ σ ?_
   refine ⟨?_, rfl⟩
   rw [bkOk, hio, ← hr2, List.drop_eq_nil_of_le (by omega)]; rfl
def nA_ (l : List Mnt) : Bool := decide (l.length ≤ 8) && l.all fun x => decide (x.place.size ≤ 100)
def dn_ (b : Bk) : Bool := ls_ b.items && nA_ b.mints
theorem jf_ {b : Bk} {σ : Store} : ai_ Tryz.prog 7 [sBk b] σ fun v σ' => v = vB (dn_ b) ∧ σ = σ' := by
 refine en_ Tryz.func7 Tryz.ntmps7 Tryz.results7 ?_
 refine rr_ ?_
 refine bx_ fun o1 ho1 => ?_
 repeat (rw [ac_] at ho1; obtain ⟨_, ho1⟩ := ho1)
 refine s_ ?_
 refine aa_ ?_
 refine ab_ ?_
 refine rr_ ?_
 refine s_ ?_
 refine aa_ ?_
 refine ag_ ?_
 refine ah_ (ι := Nat) (fun k => b.items.length - k) (fun k => k ≤ b.items.length ∧ k ≤ 8 ∧ (b.items.take k).all (fun x => decide (x.place.size ≤ 100) && nB_ x.obj) = true) (fun k => [(1, .ref o1 0), (3, vInt k)]) (fun k => (σ.set o1 (.cells (sBk b).cells))) 0 ?_ ?_ ?_ ?_
 ·exact ⟨Nat.zero_le _, by decide, rfl⟩
 ·exact cv_
 ·exact Store.Wk.refl _
 rintro k ⟨hk, hk2, ha⟩
 simp only [ak_, am_]
 refine ab_ ?_
 refine rr_ ?_
 iterate 6 refine s_ ?_
 refine gt_ ?_
 refine gt_ ?_
 refine s_ ?_
 refine aa_ ?_
 refine cd_ (fun hc2 => ?_) (fun hc2 => ?_)
 ·refine ae_ ?_
  refine ab_ ?_
  refine ag_ ?_
  refine ab_ ?_
  obtain ⟨x, hx⟩ := aq_ (l := b.items) (k := k) (by omega)
  have R := hx
  refine r_ ?_
  iterate 9 refine s_ ?_
  refine gf_ ?_
  refine gf_ ?_
  refine gf_ ?_
  refine gf_ ?_
  refine gf_ ?_
  refine gf_ ?_
  refine bt_ rfl rfl v_ rfl (fun hb => av_ (by rfl) (by rfl) (.inr ⟨by rfl, by rfl, by rfl⟩) g_ cg_ (lr_)) ?_
  refine gf_ ?_
  refine s_ ?_
  refine aa_ ?_
  refine cd_ (fun hc4 => ?_) (fun hc4 => ?_)
  ·refine rr_ ?_
   refine s_ ?_
   refine aa_ ?_
   refine af_ ?_
   refine er_ σ ?_
   exact ⟨by rw [dn_, ls_, sz_ hx (by rcases hc4 with h | h; rw [decide_eq_false (by omega)]; rfl; rw [h, Bool.and_false])]; rfl, rfl⟩
  ·refine ae_ ?_
   refine r_ ?_
   iterate 3 refine s_ ?_
   refine aa_ ?_
   refine aC_ (ι := Nat) (i := k) (k + 1) ?_ ?_ ?_ ?_
   ·omega
   ·exact ⟨by omega, by omega, l6_ hx (by rw [hc4.2, decide_eq_true (by omega)]; rfl) ha⟩
   ·exact cv_
   ·exact sub_
 ·refine an_ ?_
  refine ad_ ?_
  refine ad_ ?_
  refine aj_ ?_
  refine ab_ ?_
  refine rr_ ?_
  refine s_ ?_
  refine aa_ ?_
  refine ag_ ?_
  refine ah_ (ι := Nat) (fun j => b.mints.length - j) (fun j => j ≤ b.mints.length ∧ j ≤ 8 ∧ (b.mints.take j).all (fun x => decide (x.place.size ≤ 100)) = true) (fun j => [(1, .ref o1 0), (4, vInt j)]) (fun j => (σ.set o1 (.cells (sBk b).cells))) 0 ?_ ?_ ?_ ?_
  ·exact ⟨Nat.zero_le _, by decide, rfl⟩
  ·exact cv_
  ·exact Store.Wk.refl _
  rintro j ⟨hj, hj2, hb⟩
  simp only [ak_, am_]
  refine ab_ ?_
  refine rr_ ?_
  iterate 6 refine s_ ?_
  refine gt_ ?_
  refine gt_ ?_
  refine s_ ?_
  refine aa_ ?_
  refine cd_ (fun hc7 => ?_) (fun hc7 => ?_)
  ·refine ae_ ?_
   refine ab_ ?_
   refine ag_ ?_
   refine ab_ ?_
   obtain ⟨y, hy⟩ := aq_ (l := b.mints) (k := j) (by omega)
   have R := hy
   refine r_ ?_
   iterate 8 refine s_ ?_
   refine aa_ ?_
   refine cd_ (fun hc9 => ?_) (fun hc9 => ?_)
   ·refine rr_ ?_
    refine s_ ?_
    refine aa_ ?_
    refine af_ ?_
    refine er_ σ ?_
    exact ⟨by rw [dn_, nA_, sz_ hy (decide_eq_false (by omega)), Bool.and_false], rfl⟩
   ·refine ae_ ?_
    refine r_ ?_
    iterate 3 refine s_ ?_
    refine aa_ ?_
    refine aC_ (ι := Nat) (i := j) (j + 1) ?_ ?_ ?_ ?_
    ·omega
    ·exact ⟨by omega, by omega, l6_ hy (decide_eq_true (by omega)) hb⟩
    ·exact cv_
    ·exact sub_
  ·refine an_ ?_
   refine ad_ ?_
   refine ad_ ?_
   refine aj_ ?_
   refine rr_ ?_
   iterate 5 refine s_ ?_
   refine gt_ ?_
   refine gt_ ?_
   refine gt_ ?_
   refine gt_ ?_
   iterate 2 refine s_ ?_
   refine aa_ ?_
   refine af_ ?_
   refine er_ σ ?_
   exact ⟨by rw [dn_, ls_, nA_, ← oZ_ (n := 8) ha hk (by omega), ← oZ_ (n := 8) hb hj (by omega)]; first | rfl | simp, rfl⟩
def PFIt (F : FuncId) (caps : List AVal) (σ : Store) (p : Itm → Bool) (L : List Itm) : Prop := isGo Tryz.prog F = true ∧ ∀ τ : Store, (∀ i y, σ.heap i = some y → τ.heap i = some y) → ∀ x : Itm, x ∈ L → ai_ Tryz.prog F (aD_ x :: caps) τ fun v τ' => v = vB (p x) ∧ τ = τ'
abbrev fnIt (F : Nat) (caps : List AVal) : AVal := .fn (.func F) [] caps
theorem q0_ {L M : List Itm} {d j : Nat} (h : M.drop d = L.drop d) (hj : d ≤ j) : M[j]? = L[j]? := by
 have := congrArg (fun l => l[j - d]?) h
 simp only [List.getElem?_drop] at this
 rwa [show d + (j - d) = j by omega] at this
theorem bI_ (L : List Itm) : (flat (L.map aD_)).length = L.length * 3 := by rw [aR_ (og_ L), List.length_map]
theorem eJ_ : ∀ {L : List Itm} {j : Nat} {x : Itm}, L[j]? = some x → ((flat (L.map aD_)).drop (j * 3)).take 3 = [vStr x.place, .sl 3 (x.obj.ctx.map az_) false, .sl 5 (x.obj.sibs.map sSib) false]
 |[], j, x, h => by simp at h
 |y :: L, 0, x, h => by
  simp only [List.getElem?_cons_zero, Option.some.injEq] at h
  subst h
  rfl
 |y :: L, j + 1, x, h => by
  rw [List.map_cons, a5_, show (j + 1) * 3 = 3 + j * 3 by omega, ← List.drop_drop]
  exact eJ_ (L := L) (j := j) h
theorem mo_ {M : List Itm} {j : Nat} {x : Itm} (hj : j < M.length) : aput (flat (M.map aD_)) (j * 3) [vStr x.place, .sl 3 (x.obj.ctx.map az_) false, .sl 5 (x.obj.sibs.map sSib) false] = flat ((M.set j x).map aD_) := by
 have e : M.set j x = M.take j ++ x :: M.drop (j + 1) := by rw [List.set_eq_take_append_cons_drop, if_pos hj]
 have e2 : M = M.take j ++ M[j] :: M.drop (j + 1) := by rw [List.getElem_cons_drop hj, List.take_append_drop]
 have hl : (flat ((M.take j).map aD_)).length = j * 3 := by rw [bI_, List.length_take, Nat.min_eq_left (by omega)]
 rw [e]
 conv => lhs; rw [e2]
 unfold aput
 rw [List.map_append, List.map_cons, a7_, a5_, List.map_append, List.map_cons, a7_, a5_, List.take_left' hl, List.drop_append, List.drop_of_length_le (by rw [hl]; simp), hl, show j * 3 + [vStr x.place, .sl 3 (x.obj.ctx.map az_) false, .sl 5 (x.obj.sibs.map sSib) false].length - j * 3 = 3 by rw [show [vStr x.place, .sl 3 (x.obj.ctx.map az_) false, .sl 5 (x.obj.sibs.map sSib) false].length = 3 from rfl]; omega]
 simp [AVal.cells]
theorem o0_ {M : List Itm} {j : Nat} {zs : List AVal} : aput (flat (M.map aD_)) (j * 3) zs = flat ((M.take j).map aD_) ++ (zs ++ (flat (M.map aD_)).drop (j * 3 + zs.length)) := by
 unfold aput
 rw [List.append_assoc, List.map_take, eM_ (og_ M)]
def CBIt (σ0 σ : Store) (L : List Itm) (v : AVal) : Prop := (L = [] ∧ v = .sl 3 [] true ∧ σ = σ0) ∨ ∃ o c, σ0.heap o = none ∧ L ≠ [] ∧ L.length ≤ c ∧ v = .mslc o 3 0 L.length c (55) ∧ σ = σ0.set o (.cells (flat (L.map aD_)))
theorem sv_ {t : Bool} {σ : Store} : ai_ Tryz.prog 110 [.sl 3 [] t] σ fun v σ' => CBIt σ σ' [] v := by
 refine en_ Tryz.func110 Tryz.ntmps110 Tryz.results110 ?_
 refine rr_ ?_
 refine s_ ?_
 refine aa_ ?_
 refine ab_ ?_
 refine rr_ ?_
 refine s_ ?_
 refine aL_X rfl rfl (gj_ rfl g_ va_ va_ fun b => ?_)
 refine aa_ ?_
 refine cd_ (fun hc1 => ?_) (fun hc1 => ?_)
 ·refine rr_ ?_
  refine s_ ?_
  refine aa_ ?_
  refine af_ ?_
  exact aw_ (v := .sl 3 [] true) (v' := .lit (.slice none 0 0)) va_ (.nil _ _) sub_ (.inl ⟨rfl, rfl, rfl⟩)
 ·refine ae_ ?_
  refine rr_ ?_
  refine ao_ rfl rfl rfl g_ g_ rfl rfl h_ c2_ (by decide) ?_
  refine s_ ?_
  refine aL_X rfl rfl (d5_ rfl g_ g_ va_ va_ ?_)
  refine s_ ?_
  refine aa_ ?_
  refine af_ ?_
  exact au_ va_ sub_ (.inl ⟨rfl, rfl, rfl⟩)
theorem sw_ {L : List Itm} {t : Bool} {σ : Store} (h0 : L ≠ []) (hl : L.length ≤ 1000000) : ai_ Tryz.prog 110 [.sl 3 (L.map aD_) t] σ fun v σ' => CBIt σ σ' L v := by
 have hne : L.map aD_ ≠ [] := by simpa using h0
 refine en_ Tryz.func110 Tryz.ntmps110 Tryz.results110 ?_
 refine rr_ ?_
 refine s_ ?_
 refine aa_ ?_
 refine ab_ ?_
 refine rr_ ?_
 refine s_ ?_
 refine aL_X rfl rfl (ho_ rfl g_ v_ (by exact hne) va_ ?_)
 refine aa_ ?_
 refine cd_ (fun hc1 => ?_) (fun hc1 => ?_)
 ·cases hc1
 ·refine ae_ ?_
  refine rr_ ?_
  refine ao_ rfl rfl rfl g_ g_ rfl rfl h_ c2_ (by decide) ?_
  refine s_ ?_
  refine aL_X rfl rfl (gi_ rfl g_ g_ va_ g_ hne (by simp; omega) fun o7 c7 ho7 hc7 => ?_)
  refine s_ ?_
  refine aa_ ?_
  refine af_ ?_
  refine au_ v_ (Store.Wk.refl _) ?_
  exact .inr ⟨o7, c7, ho7, h0, by simpa using hc7, rfl, rfl⟩
theorem oG_ {L : List Itm} {t : Bool} {σ : Store} (hl : L.length ≤ 1000000) : ai_ Tryz.prog 110 [.sl 3 (L.map aD_) t] σ fun v σ' => CBIt σ σ' L v := by
 by_cases h : L = []
 ·subst h; exact sv_
 ·exact sw_ h hl
theorem vv_ {F : Nat} {caps : List AVal} {t : Bool} {σ : Store} (hF : isGo Tryz.prog F = true) : ai_ Tryz.prog 74 [.sl 3 [] t, fnIt F caps] σ fun v σ' => v = vInt (-1) ∧ σ = σ' := by
 refine en_ Tryz.func74 Tryz.ntmps74 Tryz.results74 ?_
 refine rr_ ?_
 refine s_ ?_
 refine aa_ ?_
 refine ab_ ?_
 refine rr_ ?_
 iterate 3 refine s_ ?_
 refine aa_ ?_
 refine ag_ ?_
 refine ah_ (ι := Nat) (fun k => 0) (fun k => k = 0) (fun k => [(0, .sl 3 [] t), (1, fnIt F caps), (7, vInt 0), (8, vInt k)]) (fun k => σ) 0 ?_ ?_ ?_ ?_
 ·rfl
 ·exact cv_
 ·exact sub_
 rintro k hk
 simp only [ak_, am_]
 refine rr_ ?_
 refine s_ ?_
 refine aa_ ?_
 refine ab_ ?_
 refine cd_ (fun hc2 => ?_) (fun hc2 => ?_)
 ·omega
 ·refine an_ ?_
  refine ad_ ?_
  refine ad_ ?_
  refine aj_ ?_
  refine rr_ ?_
  refine s_ ?_
  refine aa_ ?_
  refine af_ ?_
  refine er_ σ ?_
  exact ⟨rfl, rfl⟩
theorem vw_ {F : Nat} {caps : List AVal} {p : Itm → Bool} {L : List Itm} {t : Bool} {σ : Store} (hF : PFIt F caps σ p L) (hl : L.length ≤ 1000000) : ai_ Tryz.prog 74 [.sl 3 (L.map aD_) t, fnIt F caps] σ fun v σ' => (∃ r : Int, v = vInt r ∧ ((r = -1 ∧ L.find? p = none) ∨ ∃ j : Nat, ∃ x, r = j ∧ L[j]? = some x ∧ L.find? p = some x)) ∧ σ = σ' := by
 have hgo := hF.1
 refine en_ Tryz.func74 Tryz.ntmps74 Tryz.results74 ?_
 refine rr_ ?_
 refine s_ ?_
 refine aa_ ?_
 refine ab_ ?_
 refine rr_ ?_
 iterate 3 refine s_ ?_
 refine aa_ ?_
 refine ag_ ?_
 refine ah_ (ι := Nat) (fun k => L.length - k) (fun k => k ≤ L.length ∧ ∀ m y, m < k → L[m]? = some y → p y = false) (fun k => [(0, .sl 3 (L.map aD_) t), (1, fnIt F caps), (7, vInt L.length), (8, vInt k)]) (fun k => σ) 0 ?_ ?_ ?_ ?_
 ·exact ⟨Nat.zero_le _, fun m y hm => by omega⟩
 ·exact cv_
 ·exact sub_
 rintro k ⟨hk, hf⟩
 simp only [ak_, am_]
 refine rr_ ?_
 refine s_ ?_
 refine aa_ ?_
 refine ab_ ?_
 refine cd_ (fun hc2 => ?_) (fun hc2 => ?_)
 ·refine ae_ ?_
  refine ab_ ?_
  refine ag_ ?_
  refine rr_ ?_
  iterate 2 refine s_ ?_
  refine aa_ ?_
  refine ab_ ?_
  obtain ⟨x, hx⟩ := aq_ (l := L) (k := k) (by omega)
  have R := hx
  refine r_ ?_
  iterate 5 refine s_ ?_
  refine aL_X rfl rfl (aU_ rfl rfl (.inl v_) g_ va_ (hF.2 _ (fun _ _ h => h) x (List.mem_of_getElem? hx)) ?_); rintro _ _ ⟨rfl, rfl⟩
  refine aa_ ?_
  refine cd_ (fun hc4 => ?_) (fun hc4 => ?_)
  ·refine rr_ ?_
   iterate 2 refine s_ ?_
   refine aa_ ?_
   refine af_ ?_
   refine er_ σ ?_
   exact ⟨⟨k, rfl, .inr ⟨k, x, rfl, hx, eI_ hx (by simpa using hc4) hf⟩⟩, rfl⟩
  ·refine ae_ ?_
   refine r_ ?_
   iterate 2 refine s_ ?_
   refine aa_ ?_
   refine aC_ (ι := Nat) (i := k) (k + 1) ?_ ?_ ?_ ?_
   ·omega
   ·exact ⟨by omega, fun m y hm hy => by rcases Nat.lt_or_eq_of_le (Nat.le_of_lt_succ hm) with h | h; exact hf m y h hy; rw [h, hx] at hy; cases hy; simpa using hc4⟩
   ·exact cv_
   ·exact sub_
 ·refine an_ ?_
  refine ad_ ?_
  refine ad_ ?_
  refine aj_ ?_
  refine rr_ ?_
  refine s_ ?_
  refine aa_ ?_
  refine af_ ?_
  refine er_ σ ?_
  exact ⟨⟨-1, rfl, .inl ⟨rfl, List.find?_eq_none.2 fun y hy => by obtain ⟨m, hm, e⟩ := List.mem_iff_getElem.1 hy; have := hf m y (by omega) (by rw [List.getElem?_eq_getElem hm, e]); rw [this]; simp⟩⟩, rfl⟩
theorem vu_ {o F : Nat} {caps : List AVal} {p : Itm → Bool} {L : List Itm} {σ0 σ : Store} (hF : PFIt F caps σ0 p L) (hs : ∀ i y, σ0.heap i = some y → σ.heap i = some y) (ho : σ.heap o = some (.cells (flat (L.map aD_)))) (hl : L.length ≤ 1000000) : ai_ Tryz.prog 74 [.msl o 3 0 L.length, fnIt F caps] σ fun v σ' => (∃ r : Int, v = vInt r ∧ (r = -1 → L.filter (fun x => !p x) = L) ∧ (r ≠ -1 → ∃ j : Nat, r = j ∧ j < L.length ∧ (L.take (j + 1)).filter (fun x => !p x) = L.take j)) ∧ σ = σ' := by
 have hfl := bI_ L
 have hgo := hF.1
 refine en_ Tryz.func74 Tryz.ntmps74 Tryz.results74 ?_
 refine rr_ ?_
 refine s_ ?_
 refine aa_ ?_
 refine ab_ ?_
 refine rr_ ?_
 iterate 3 refine s_ ?_
 refine aa_ ?_
 refine ag_ ?_
 refine ah_ (ι := Nat) (fun k => L.length - k) (fun k => k ≤ L.length ∧ (L.take k).filter (fun x => !p x) = L.take k) (fun k => [(0, .msl o 3 0 L.length), (1, fnIt F caps), (7, vInt L.length), (8, vInt k)]) (fun k => σ) 0 ?_ ?_ ?_ ?_
 ·exact ⟨Nat.zero_le _, rfl⟩
 ·exact cv_
 ·exact sub_
 rintro k ⟨hk, hf⟩
 simp only [ak_, am_]
 refine rr_ ?_
 refine s_ ?_
 refine aa_ ?_
 refine ab_ ?_
 refine cd_ (fun hc2 => ?_) (fun hc2 => ?_)
 ·refine ae_ ?_
  refine ab_ ?_
  refine ag_ ?_
  refine rr_ ?_
  iterate 2 refine s_ ?_
  refine aa_ ?_
  refine ab_ ?_
  obtain ⟨x, hx⟩ := aq_ (l := L) (k := k) (by omega)
  have px := eJ_ hx
  have R := And.intro px (And.intro ho hfl)
  refine r_ ?_
  iterate 5 refine s_ ?_
  refine aL_X rfl rfl (aU_ rfl rfl (.inl v_) g_ va_ (hF.2 _ hs x (List.mem_of_getElem? hx)) ?_); rintro _ _ ⟨rfl, rfl⟩
  refine aa_ ?_
  refine cd_ (fun hc4 => ?_) (fun hc4 => ?_)
  ·refine rr_ ?_
   iterate 2 refine s_ ?_
   refine aa_ ?_
   refine af_ ?_
   refine er_ σ ?_
   exact ⟨⟨k, rfl, fun h => by omega, fun _ => ⟨k, rfl, by omega, by rw [ax_ hx, List.filter_append, hf]; simp [hc4]⟩⟩, rfl⟩
  ·refine ae_ ?_
   refine r_ ?_
   iterate 2 refine s_ ?_
   refine aa_ ?_
   refine aC_ (ι := Nat) (i := k) (k + 1) ?_ ?_ ?_ ?_
   ·omega
   ·exact ⟨by omega, by rw [ax_ hx, List.filter_append, hf]; simp [hc4]⟩
   ·exact cv_
   ·exact sub_
 ·refine an_ ?_
  refine ad_ ?_
  refine ad_ ?_
  refine aj_ ?_
  refine rr_ ?_
  refine s_ ?_
  refine aa_ ?_
  refine af_ ?_
  refine er_ σ ?_
  exact ⟨⟨-1, rfl, fun _ => by rwa [List.take_of_length_le (by omega)] at hf, fun h => absurd rfl h⟩, rfl⟩
structure DlIt (p : Itm → Bool) (L : List Itm) (j i : Nat) (M : List Itm) : Prop where
 len : M.length = L.length
 tk : M.take i = (L.take j).filter (fun x => !p x)
 cnt : ((L.take j).filter (fun x => !p x)).length = i
 lt : i < j
 le : j ≤ L.length
 dr : M.drop j = L.drop j
theorem DlIt.put {p : Itm → Bool} {L : List Itm} {j i : Nat} {M : List Itm} {x : Itm} (h : DlIt p L j i M) (hx : L[j]? = some x) (hg : p x = false) : DlIt p L (j + 1) (i + 1) (M.set i x) := by
 have h1 := (List.getElem?_eq_some_iff.1 hx).1
 have hk := h.lt
 have hl := h.len
 have hf : (L.take (j + 1)).filter (fun x => !p x) = (L.take j).filter (fun x => !p x) ++ [x] := by rw [ax_ hx, List.filter_append]; simp [hg]
 refine ⟨by rw [List.length_set]; exact hl, ?_, by rw [hf, List.length_append, h.cnt]; rfl, by omega, by omega, ?_⟩
 ·rw [hf, ← h.tk, ax_ (show (M.set i x)[i]? = some x by rw [List.getElem?_set_self]; omega), List.take_set_of_le (Nat.le_refl _)]
 ·rw [List.drop_set_of_lt (by omega)]
  have := congrArg (List.drop 1) h.dr
  rwa [List.drop_drop, List.drop_drop] at this
theorem DlIt.skip {p : Itm → Bool} {L : List Itm} {j i : Nat} {M : List Itm} {x : Itm} (h : DlIt p L j i M) (hx : L[j]? = some x) (hg : p x = true) : DlIt p L (j + 1) i M := by
 have h1 := (List.getElem?_eq_some_iff.1 hx).1
 have hk := h.lt
 have hf : (L.take (j + 1)).filter (fun x => !p x) = (L.take j).filter (fun x => !p x) := by rw [ax_ hx, List.filter_append]; simp [hg]
 refine ⟨h.len, by rw [hf]; exact h.tk, by rw [hf]; exact h.cnt, by omega, by omega, ?_⟩
 have := congrArg (List.drop 1) h.dr
 rwa [List.drop_drop, List.drop_drop] at this
theorem u3_ {F : Nat} {caps : List AVal} {t : Bool} {σ : Store} (hF : isGo Tryz.prog F = true) : ai_ Tryz.prog 109 [.sl 3 [] t, fnIt F caps] σ fun v σ' => v = .sl 3 [] false ∧ σ = σ' := by
 refine en_ Tryz.func109 Tryz.ntmps109 Tryz.results109 ?_
 refine rr_ ?_
 refine s_ ?_
 refine aa_ ?_
 refine rr_ ?_
 iterate 2 refine s_ ?_
 refine x_ g_ va_ (vv_ hF) ?_; rintro _ _ ⟨rfl, rfl⟩
 refine s_ ?_
 refine aa_ ?_
 refine ab_ ?_
 refine rr_ ?_
 iterate 2 refine s_ ?_
 refine aa_ ?_
 refine cd_ (fun hc2 => ?_) (fun hc2 => ?_)
 ·refine rr_ ?_
  iterate 2 refine s_ ?_
  refine aa_ ?_
  refine af_ ?_
  exact aw_ (v := .sl 3 [] false) (v' := .sl 3 [] t) va_ (.sl1 _ _ _) sub_ ⟨rfl, rfl⟩
 ·first | omega | (simp at hc2; done) | cases hc2
set_option maxHeartbeats 2000000 in
theorem u2_ {o F : Nat} {caps : List AVal} {p : Itm → Bool} {L : List Itm} {σ0 σ : Store} (hF : PFIt F caps σ0 p L) (hn0 : σ0.heap o = none) (hs : ∀ i y, i ≠ o → σ0.heap i = some y → σ.heap i = some y) (ho : σ.heap o = some (.cells (flat (L.map aD_)))) (hl : L.length ≤ 1000000) :
  ai_ Tryz.prog 109 [.msl o 3 0 L.length, fnIt F caps] σ fun v σ' => ∃ zs : List AVal, v = .msl o 3 0 (L.filter (fun x => !p x)).length ∧ σ' = σ.set o (.cells (flat ((L.filter (fun x => !p x)).map aD_) ++ zs)) := by
 have hfl := bI_ L
 have hgo := hF.1
 have hne : ∀ i y, σ0.heap i = some y → i ≠ o := fun i y hy hh => by rw [hh, hn0] at hy; cases hy
 refine en_ Tryz.func109 Tryz.ntmps109 Tryz.results109 ?_
 refine rr_ ?_
 refine s_ ?_
 refine aa_ ?_
 refine rr_ ?_
 iterate 2 refine s_ ?_
 refine x_ g_ va_ (vu_ hF (fun i y hy => hs i y (hne i y hy) hy) ho hl) ?_; rintro _ _ ⟨⟨r, rfl, h1, h2⟩, rfl⟩
 refine s_ ?_
 refine aa_ ?_
 refine ab_ ?_
 refine rr_ ?_
 iterate 2 refine s_ ?_
 refine aa_ ?_
 refine cd_ (fun hc2 => ?_) (fun hc2 => ?_)
 ·refine rr_ ?_
  iterate 2 refine s_ ?_
  refine aa_ ?_
  refine af_ ?_
  refine au_ v_ (Store.Wk.refl _) ?_
  exact ⟨[], by rw [h1 hc2], by rw [h1 hc2, List.append_nil, Store.set_same ho]⟩
 ·obtain ⟨j0, rfl, hj0, hf0⟩ := h2 hc2
  have hI0 : DlIt p L (j0 + 1) j0 L := ⟨rfl, hf0.symm, by rw [hf0, List.length_take]; omega, by omega, by omega, rfl⟩
  refine ae_ ?_
  refine ab_ ?_
  refine rr_ ?_
  iterate 3 refine s_ ?_
  refine aa_ ?_
  refine ag_ ?_
  refine ah_ (ι := Nat × Nat × List Itm) (fun ⟨j, i, M⟩ => L.length - j) (fun ⟨j, i, M⟩ => DlIt p L j i M) (fun ⟨j, i, M⟩ => [(0, .msl o 3 0 L.length), (1, fnIt F caps), (5, vInt i), (6, vInt j)]) (fun ⟨j, i, M⟩ => (σ.set o (.cells (flat (M.map aD_))))) (j0 + 1, j0, L) ?_ ?_ ?_ ?_
  ·exact hI0
  ·exact cv_
  ·(try dsimp only); rw [Store.set_same ho]; exact Store.Wk.refl _
  rintro ⟨j, i, M⟩ hI
  simp only [ak_, am_]
  refine ab_ ?_
  refine rr_ ?_
  iterate 4 refine s_ ?_
  refine aa_ ?_
  refine cd_ (fun hc5 => ?_) (fun hc5 => ?_)
  ·refine ae_ ?_
   refine ab_ ?_
   refine ag_ ?_
   refine ab_ ?_
   have hjl : j < L.length := by omega
   obtain ⟨x, hx⟩ := aq_ (l := L) (k := j) hjl
   have hMx : M[j]? = some x := by rw [q0_ hI.dr (Nat.le_refl _)]; exact hx
   have px := eJ_ hMx
   have hflM := bI_ M
   rw [hI.len] at hflM
   have hil := hI.lt
   have R := And.intro px hflM
   refine r_ ?_
   iterate 4 refine s_ ?_
   refine lc_ fun o7 ho7 => ?_
   repeat (rw [ac_] at ho7; obtain ⟨_, ho7⟩ := ho7)
   refine st_ ?_
   refine aa_ ?_
   refine ab_ ?_
   skip
   have hk7 : ∀ i y, σ0.heap i = some y → ((((σ.set o (.cells (flat (M.map aD_)))).set o7 (.cells [.lit (.string ⟨#[]⟩), .lit (.slice none 0 0), .lit (.slice none 0 0)])).set o7 (.cells [vStr x.place, .sl 3 (x.obj.ctx.map az_) false, .sl 5 (x.obj.sibs.map sSib) false]))).heap i = some y := fun i y hy => by
    have e1 := hne i y hy
    have e2 := hs i y e1 hy
    have e3 : i ≠ o7 := fun hh => by rw [hh, ho7] at e2; cases e2
    rw [Store.set_ne _ _ e3, Store.set_ne _ _ e3, Store.set_ne _ _ e1]; exact e2
   refine r_ ?_
   iterate 2 refine s_ ?_
   refine aL_X rfl rfl (aU_ rfl rfl (.inl v_) g_ va_ (hF.2 _ hk7 x (List.mem_of_getElem? hx)) ?_); rintro _ _ ⟨rfl, rfl⟩
   refine s_ ?_
   refine aa_ ?_
   refine cd_ (fun hc8 => ?_) (fun hc8 => ?_)
   ·refine ab_ ?_
    have R := hflM
    refine r_ ?_
    iterate 4 refine s_ ?_
    refine bX_ rfl rfl rfl v_ v_ h_ g_ rfl g_ c_ (by rfl) (by rw [hflM]; omega) (mo_ (by rw [hI.len]; omega)) ?_
    refine aa_ ?_
    refine r_ ?_
    iterate 3 refine s_ ?_
    refine aa_ ?_
    refine r_ ?_
    iterate 3 refine s_ ?_
    refine aa_ ?_
    refine aC_ (ι := Nat × Nat × List Itm) (i := ⟨j, i, M⟩) (j + 1, i + 1, M.set i x) ?_ ?_ ?_ ?_
    ·show L.length - (j + 1) < L.length - j; omega
    ·exact hI.put hx (by simpa using hc8)
    ·exact cv_
    ·exact sub_
   ·refine ae_ ?_
    refine r_ ?_
    iterate 3 refine s_ ?_
    refine aa_ ?_
    refine aC_ (ι := Nat × Nat × List Itm) (i := ⟨j, i, M⟩) (j + 1, i, M) ?_ ?_ ?_ ?_
    ·show L.length - (j + 1) < L.length - j; omega
    ·exact hI.skip hx (by simpa using hc8)
    ·exact cv_
    ·exact sub_
  ·refine an_ ?_
   refine ad_ ?_
   refine ad_ ?_
   refine aj_ ?_
   refine ab_ ?_
   have hil := hI.lt
   have hle := hI.le
   have hflM := bI_ M
   rw [hI.len] at hflM
   have hcnt := hI.cnt
   have htk := hI.tk
   rw [show j = L.length by omega, List.take_length] at hcnt htk
   refine r_ ?_
   iterate 3 refine s_ ?_
   refine qz_ rfl rfl (hn_ (sz := 3) rfl g_ g_ (by rfl) (by decide) va_ h_ (by rw [hflM]; omega) fun zs hz => ?_)
   refine aa_ ?_
   refine rr_ ?_
   iterate 4 refine s_ ?_
   refine aa_ ?_
   refine af_ ?_
   refine au_ v_ (Store.Wk.refl _) ?_
   exact ⟨zs ++ (flat (M.map aD_)).drop (i * 3 + zs.length), by rw [hcnt]; rfl, by rw [Store.set_set, o0_, htk]⟩
theorem mj_ {F : Nat} {caps : List AVal} {p : Itm → Bool} {σ0 σ : Store} {L : List Itm} {a : AVal} (hF : PFIt F caps σ0 p L) (h : CBIt σ0 σ L a) (hl : L.length ≤ 1000000) :
  ai_ Tryz.prog 109 [a, fnIt F caps] σ fun v σ' => v = .sl 3 ((L.filter fun x => !p x).map aD_) false ∧ σ0 = σ' := by
 rcases h with ⟨rfl, rfl, rfl⟩ | ⟨o, c, ho, _, _, rfl, rfl⟩
 ·exact u3_ hF.1
 ·refine ai_.wkA (args := [.mslc o 3 0 L.length c _, fnIt F caps]) ((u2_ (σ := σ0.set o (.cells (flat (L.map aD_)))) hF ho (fun i y hi hy => by rw [Store.set_ne _ _ hi]; exact hy) (Store.set_get ..) hl).after ?_) rfl (fun j hj hj' => by match j, hj with | 0, _ => exact Wk.mslc _ _ _ _ _ _ | 1, _ => exact .refl _)
  rintro κ _ _ cv hI hr ⟨zs, rfl, rfl⟩
  obtain ⟨κ', h1, h2, h3, h4⟩ := Ab.freeze hI hr (Store.set_get ..) (l := (L.filter (fun x => !p x)).map aD_) (by rw [List.take_left' (by rw [bI_])]) (by simp) (og_ _)
  rw [Store.set_set, Store.set_del ho] at h3
  exact ⟨κ', _, _, h1, h2, h3, h4, rfl, rfl⟩
theorem CBIt.frozen {P : Program} {f : FuncId} {args : List AVal} {σ : Store} {L : List Itm} (h : ai_ P f args σ fun v σ' => CBIt σ σ' L v) : ai_ P f args σ fun v σ' => v = .sl 3 (L.map aD_) false ∧ σ = σ' := by
 refine h.after ?_
 rintro κ a τ cv hI hr (⟨rfl, rfl, rfl⟩ | ⟨o, c, ho, _, _, rfl, rfl⟩)
 ·exact ⟨κ, _, _, rfl, .refl κ, hI, hr.wk (.sl1 _ _ _), rfl, rfl⟩
 ·obtain ⟨κ', h1, h2, h3, h4⟩ := Ab.freeze hI (hr.wk (Wk.mslc _ _ _ _ _ _)) (Store.set_get ..) (l := L.map aD_) (by rw [List.take_of_length_le (by rw [bI_]; exact Nat.le_refl _)]) (by simp) (og_ _)
  rw [Store.set_del ho] at h3
  exact ⟨κ', _, _, h1, h2, h3, h4, rfl, rfl⟩
abbrev plIt : AVal := .lit (.func (.func 100) #[] #[])
theorem fcIt {q : Nat} {x : Itm} {s : ByteArray} {σ : Store} (hq : σ.heap q = some (.cells [plIt])) : ai_ Tryz.prog 253 [aD_ x, vStr s, .ref q 0] σ fun v σ' => v = vInt (cmpS x.place s) ∧ σ = σ' := by
 refine en_ Tryz.func253 Tryz.ntmps253 Tryz.results253 ?_
 refine rr_ ?_
 refine bx_ fun o3 ho3 => ?_
 repeat (rw [ac_] at ho3; obtain ⟨_, ho3⟩ := ho3)
 refine s_ ?_
 refine aa_ ?_
 have hq3 : (σ.set o3 (.cells [vStr x.place, .sl 3 (x.obj.ctx.map az_) false, .sl 5 (x.obj.sibs.map sSib) false])).heap q = some (.cells [plIt]) := by rw [Store.set_ne _ _ (fun hh => by rw [hh, ho3] at hq; cases hq)]; exact hq
 refine ab_ ?_
 have R := hq3
 refine r_ ?_
 iterate 2 refine s_ ?_
 refine aL_X rfl rfl (aU_ rfl rfl (.inr ⟨va_, rfl, rfl⟩) g_ va_ (cK_) ?_); rintro _ _ ⟨rfl, rfl⟩
 refine s_ ?_
 refine x_ g_ va_ (bV_) ?_; rintro _ _ ⟨rfl, rfl⟩
 refine s_ ?_
 refine aa_ ?_
 refine af_ ?_
 refine er_ σ ?_
 exact ⟨rfl, rfl⟩
abbrev fvIt (q : Nat) : AVal := .fn (.func 253) [] [.ref q 0]
theorem uO_ {q : Nat} {s : ByteArray} {L : List Itm} {t : Bool} {σ : Store} (hq : σ.heap q = some (.cells [plIt])) (hr : cn_ Itm.place L) (hl : L.length ≤ 1000000) :
  ai_ Tryz.prog 252 [.sl 3 (L.map aD_) t, vStr s, fvIt q] σ fun v σ' => v = .tup [vInt (lowK Itm.place s L), vB (atK Itm.place L s)] ∧ σ = σ' := by
 skip
 refine en_ Tryz.func252 Tryz.ntmps252 Tryz.results252 ?_
 refine rr_ ?_
 iterate 2 refine s_ ?_
 refine aa_ ?_
 refine rr_ ?_
 iterate 3 refine s_ ?_
 refine aa_ ?_
 refine rr_ ?_
 iterate 3 refine s_ ?_
 refine aa_ ?_
 refine ab_ ?_
 refine ag_ ?_
 refine ah_ (ι := Nat × Nat) (fun ⟨i, j⟩ => j - i) (fun ⟨i, j⟩ => i ≤ j ∧ j ≤ L.length ∧ LoK Itm.place L s i ∧ HiK Itm.place L s j) (fun ⟨i, j⟩ => [(0, .sl 3 (L.map aD_) t), (1, vStr s), (2, fvIt q), (8, vInt L.length), (9, vInt i), (10, vInt j)]) (fun ⟨i, j⟩ => σ) (0, L.length) ?_ ?_ ?_ ?_
 ·exact ⟨Nat.zero_le _, Nat.le_refl _, (fun m x h => by omega), fun m x h hx => by rw [List.getElem?_eq_none (by omega)] at hx; cases hx⟩
 ·exact cv_
 ·exact sub_
 rintro ⟨i, j⟩ ⟨hij, hj, hlo, hhi⟩
 simp only [ak_, am_]
 refine ab_ ?_
 refine rr_ ?_
 iterate 3 refine s_ ?_
 refine aa_ ?_
 refine cd_ (fun hc3 => ?_) (fun hc3 => ?_)
 ·refine ae_ ?_
  refine ag_ ?_
  refine ab_ ?_
  have hdiv : ((i : Int) + j) / 2 ^ 1 = (((i + j) / 2 : Nat) : Int) := by omega
  obtain ⟨x, hx⟩ := aq_ (l := L) (k := (i + j) / 2) (by omega)
  have R := And.intro dl_ hdiv
  refine r_ ?_
  iterate 7 refine s_ ?_
  refine aa_ ?_
  refine ab_ ?_
  have R := hx
  refine r_ ?_
  iterate 6 refine s_ ?_
  refine aL_X rfl rfl (aU_ rfl rfl (.inl v_) g_ va_ (fcIt hq) ?_); rintro _ _ ⟨rfl, rfl⟩
  refine s_ ?_
  refine aa_ ?_
  refine cd_ (fun hc5 => ?_) (fun hc5 => ?_)
  ·refine r_ ?_
   iterate 3 refine s_ ?_
   refine aa_ ?_
   refine aC_ (ι := Nat × Nat) (i := ⟨i, j⟩) ((i + j) / 2 + 1, j) ?_ ?_ ?_ ?_
   ·show j - ((i + j) / 2 + 1) < j - i; omega
   ·exact ⟨by show (i + j) / 2 + 1 ≤ j; omega, hj, hb_ hr hx hc5, hhi⟩
   ·have R := hdiv; exact cv_
   ·exact sub_
  ·refine r_ ?_
   iterate 2 refine s_ ?_
   refine aa_ ?_
   refine aC_ (ι := Nat × Nat) (i := ⟨i, j⟩) (i, (i + j) / 2) ?_ ?_ ?_ ?_
   ·show (i + j) / 2 - i < j - i; omega
   ·exact ⟨by show i ≤ (i + j) / 2; omega, by show (i + j) / 2 ≤ L.length; omega, hlo, g8_ hr hx hc5⟩
   ·have R := hdiv; exact cv_
   ·exact sub_
 ·refine an_ ?_
  refine ad_ ?_
  refine ad_ ?_
  refine aj_ ?_
  refine ab_ ?_
  skip
  obtain rfl : i = j := by omega
  obtain ⟨x, hx⟩ := eO_ L i
  have R := hx
  refine r_ ?_
  iterate 5 refine s_ ?_
  refine gt_ ?_
  refine gt_ ?_
  refine gt_ ?_
  refine gt_ ?_
  refine gt_ ?_
  refine gt_ ?_
  refine cE_ rfl rfl v_ rfl (fun hb => av_ (by rfl) (by rfl) (.inl vh_) g_ cg_ (fcIt hq)) ?_
  refine gt_ ?_
  iterate 3 refine s_ ?_
  refine aa_ ?_
  refine af_ ?_
  refine er_ σ ?_
  refine ⟨?_, rfl⟩
  rw [km_ hj hlo hhi, ← j0_ (km_ hj hlo hhi) hx]
  simp only [Int.ofNat_lt]
theorem uN_ {q : Nat} {s : ByteArray} {L : List Itm} {o : Nat} {σ : Store} (hq : σ.heap q = some (.cells [plIt])) (ho : σ.heap o = some (.cells (flat (L.map aD_)))) (hr : cn_ Itm.place L) (hl : L.length ≤ 1000000) :
  ai_ Tryz.prog 252 [.msl o 3 0 L.length, vStr s, fvIt q] σ fun v σ' => v = .tup [vInt (lowK Itm.place s L), vB (atK Itm.place L s)] ∧ σ = σ' := by
 have hfl := bI_ L
 refine en_ Tryz.func252 Tryz.ntmps252 Tryz.results252 ?_
 refine rr_ ?_
 iterate 2 refine s_ ?_
 refine aa_ ?_
 refine rr_ ?_
 iterate 3 refine s_ ?_
 refine aa_ ?_
 refine rr_ ?_
 iterate 3 refine s_ ?_
 refine aa_ ?_
 refine ab_ ?_
 refine ag_ ?_
 refine ah_ (ι := Nat × Nat) (fun ⟨i, j⟩ => j - i) (fun ⟨i, j⟩ => i ≤ j ∧ j ≤ L.length ∧ LoK Itm.place L s i ∧ HiK Itm.place L s j) (fun ⟨i, j⟩ => [(0, .msl o 3 0 L.length), (1, vStr s), (2, fvIt q), (8, vInt L.length), (9, vInt i), (10, vInt j)]) (fun ⟨i, j⟩ => σ) (0, L.length) ?_ ?_ ?_ ?_
 ·exact ⟨Nat.zero_le _, Nat.le_refl _, (fun m x h => by omega), fun m x h hx => by rw [List.getElem?_eq_none (by omega)] at hx; cases hx⟩
 ·exact cv_
 ·exact sub_
 rintro ⟨i, j⟩ ⟨hij, hj, hlo, hhi⟩
 simp only [ak_, am_]
 refine ab_ ?_
 refine rr_ ?_
 iterate 3 refine s_ ?_
 refine aa_ ?_
 refine cd_ (fun hc3 => ?_) (fun hc3 => ?_)
 ·refine ae_ ?_
  refine ag_ ?_
  refine ab_ ?_
  have hdiv : ((i : Int) + j) / 2 ^ 1 = (((i + j) / 2 : Nat) : Int) := by omega
  obtain ⟨x, hx⟩ := aq_ (l := L) (k := (i + j) / 2) (by omega)
  have px := eJ_ hx
  have R := And.intro dl_ hdiv
  refine r_ ?_
  iterate 7 refine s_ ?_
  refine aa_ ?_
  refine ab_ ?_
  have R := And.intro px (And.intro ho hfl)
  refine r_ ?_
  iterate 6 refine s_ ?_
  refine aL_X rfl rfl (aU_ rfl rfl (.inl v_) g_ va_ (fcIt hq) ?_); rintro _ _ ⟨rfl, rfl⟩
  refine s_ ?_
  refine aa_ ?_
  refine cd_ (fun hc5 => ?_) (fun hc5 => ?_)
  ·refine r_ ?_
   iterate 3 refine s_ ?_
   refine aa_ ?_
   refine aC_ (ι := Nat × Nat) (i := ⟨i, j⟩) ((i + j) / 2 + 1, j) ?_ ?_ ?_ ?_
   ·show j - ((i + j) / 2 + 1) < j - i; omega
   ·exact ⟨by show (i + j) / 2 + 1 ≤ j; omega, hj, hb_ hr hx hc5, hhi⟩
   ·have R := hdiv; exact cv_
   ·exact sub_
  ·refine r_ ?_
   iterate 2 refine s_ ?_
   refine aa_ ?_
   refine aC_ (ι := Nat × Nat) (i := ⟨i, j⟩) (i, (i + j) / 2) ?_ ?_ ?_ ?_
   ·show (i + j) / 2 - i < j - i; omega
   ·exact ⟨by show i ≤ (i + j) / 2; omega, by show (i + j) / 2 ≤ L.length; omega, hlo, g8_ hr hx hc5⟩
   ·have R := hdiv; exact cv_
   ·exact sub_
 ·refine an_ ?_
  refine ad_ ?_
  refine ad_ ?_
  refine aj_ ?_
  refine ab_ ?_
  skip
  obtain rfl : i = j := by omega
  obtain ⟨x, hx⟩ := eO_ L i
  have px := fun h => eJ_ (hx h)
  have R := And.intro px (And.intro ho hfl)
  refine r_ ?_
  iterate 5 refine s_ ?_
  refine gt_ ?_
  refine gt_ ?_
  refine gt_ ?_
  refine gt_ ?_
  refine gt_ ?_
  refine gt_ ?_
  refine cE_ rfl rfl v_ rfl (fun hb => av_ (by rfl) (by rfl) (.inl vh_) g_ cg_ (fcIt hq)) ?_
  refine gt_ ?_
  iterate 3 refine s_ ?_
  refine aa_ ?_
  refine af_ ?_
  refine er_ σ ?_
  refine ⟨?_, rfl⟩
  rw [km_ hj hlo hhi, ← j0_ (km_ hj hlo hhi) hx]
  simp only [Int.ofNat_lt]
theorem u7_ {s : ByteArray} {L : List Itm} {t : Bool} {σ : Store} (hr : cn_ Itm.place L) (hl : L.length ≤ 1000000) :
  ai_ Tryz.prog 213 [.sl 3 (L.map aD_) t, vStr s, plIt] σ fun v σ' => v = .tup [vInt (lowK Itm.place s L), vB (atK Itm.place L s)] ∧ σ = σ' := by
 refine en_ Tryz.func213 Tryz.ntmps213 Tryz.results213 ?_
 refine rr_ ?_
 refine bx_ fun o5 ho5 => ?_
 repeat (rw [ac_] at ho5; obtain ⟨_, ho5⟩ := ho5)
 iterate 2 refine s_ ?_
 refine aa_ ?_
 refine rr_ ?_
 iterate 3 refine s_ ?_
 refine x_ g_ va_ (uO_ (Store.set_get ..) hr hl) ?_; rintro _ _ ⟨rfl, rfl⟩
 iterate 4 refine s_ ?_
 refine aa_ ?_
 refine af_ ?_
 refine er_ σ ?_
 exact ⟨rfl, rfl⟩
theorem u6_ {s : ByteArray} {L : List Itm} {o : Nat} {σ : Store} (ho : σ.heap o = some (.cells (flat (L.map aD_)))) (hr : cn_ Itm.place L) (hl : L.length ≤ 1000000) :
  ai_ Tryz.prog 213 [.msl o 3 0 L.length, vStr s, plIt] σ fun v σ' => v = .tup [vInt (lowK Itm.place s L), vB (atK Itm.place L s)] ∧ σ = σ' := by
 refine en_ Tryz.func213 Tryz.ntmps213 Tryz.results213 ?_
 refine rr_ ?_
 refine bx_ fun o5 ho5 => ?_
 repeat (rw [ac_] at ho5; obtain ⟨_, ho5⟩ := ho5)
 iterate 2 refine s_ ?_
 refine aa_ ?_
 have ho5 : (σ.set o5 (.cells [plIt])).heap o = some (.cells (flat (L.map aD_))) := by rw [Store.set_ne _ _ (fun hh => by rw [← hh, ho] at ho5; cases ho5)]; exact ho
 refine rr_ ?_
 iterate 3 refine s_ ?_
 refine x_ g_ va_ (uN_ (Store.set_get ..) ho5 hr hl) ?_; rintro _ _ ⟨rfl, rfl⟩
 iterate 4 refine s_ ?_
 refine aa_ ?_
 refine af_ ?_
 refine er_ σ ?_
 exact ⟨rfl, rfl⟩
theorem vp_ {x : Itm} {ov : Nat} {σ : Store} (hv : σ.heap ov = some (.cells (flat [aD_ x]))) : ai_ Tryz.prog 214 [.sl 3 [] true, vInt 0, .msl ov 3 0 1] σ fun v σ' => ∃ o', (o' = ov ∨ σ.heap o' = none) ∧ v = .msl o' 3 0 1 ∧ SubX [ov] σ σ' ∧ σ'.heap o' = some (.cells (flat [aD_ x])) := by
 refine en_ Tryz.func214 Tryz.ntmps214 Tryz.results214 ?_
 refine ab_ ?_
 have R := hv
 refine r_ ?_
 refine s_ ?_
 refine aa_ ?_
 refine ab_ ?_
 have R := hv
 refine r_ ?_
 iterate 3 refine s_ ?_
 refine aa_ ?_
 refine ab_ ?_
 have R := hv
 refine r_ ?_
 iterate 3 refine s_ ?_
 refine aa_ ?_
 refine ab_ ?_
 refine ab_ ?_
 have R := hv
 refine r_ ?_
 iterate 2 refine s_ ?_
 refine aa_ ?_
 refine cd_ (fun hc3 => ?_) (fun hc3 => ?_)
 ·omega
 ·refine ae_ ?_
  refine ab_ ?_
  have R := hv
  refine r_ ?_
  iterate 3 refine s_ ?_
  refine aa_ ?_
  refine ab_ ?_
  refine ab_ ?_
  have R := hv
  refine r_ ?_
  iterate 3 refine s_ ?_
  refine aa_ ?_
  refine cd_ (fun hc6 => ?_) (fun hc6 => ?_)
  ·refine ab_ ?_
   have R := hv
   refine r_ ?_
   refine s_ ?_
   refine aL_X rfl rfl (bM_ (by first | exact .inl rfl | exact .inr rfl) va_ h_ (l := [aD_ x]) (by rfl) (by rfl) (by simp; rfl) ?_)
   refine aL_X rfl rfl (jO_ rfl g_ g_ va_ (l2 := [aD_ x]) va_ (by simp) (by simp) fun o25 ho25 => ?_)
   refine s_ ?_
   refine aa_ ?_
   refine af_ ?_
   exact au_ (σ' := (σ.del ov).set o25 (.cells (flat [aD_ x]))) va_ sub_ ⟨o25, fP_ ho25, rfl, nf_ ho25, Store.set_get ..⟩
  ·omega
theorem ptIt (L : List Itm) {i : Nat} (hi : i ≤ L.length) : flat (L.map aD_) = flat ((L.take i).map aD_) ++ flat ((L.drop i).map aD_) ∧ (flat ((L.take i).map aD_)).length = i * 3 ∧ (flat ((L.drop i).map aD_)).length = (L.length - i) * 3 := by
 refine ⟨?_, ?_, ?_⟩
 ·rw [← a7_, ← List.map_append, List.take_append_drop]
 ·rw [bI_, List.length_take, Nat.min_eq_left hi]
 ·rw [bI_, List.length_drop]
theorem paIt (L : List Itm) (x : Itm) (i : Nat) : flat ((L.take i ++ x :: L.drop i).map aD_) = flat ((L.take i).map aD_) ++ ([vStr x.place, .sl 3 (x.obj.ctx.map az_) false, .sl 5 (x.obj.sibs.map sSib) false] ++ flat ((L.drop i).map aD_)) := by
 rw [List.map_append, List.map_cons, a7_, a5_]; rfl
theorem grIt {L : List Itm} {x : Itm} {i a b c d e f : Nat} {X : List AVal} (hX : X = [vStr x.place, .sl 3 (x.obj.ctx.map az_) false, .sl 5 (x.obj.sibs.map sSib) false]) (hi : i ≤ L.length) (ha : a = i * 3) (hb : b = (L.length + 1 - i) * 3) (hc : c = i * 3) (hd : d = (i + 1) * 3) (he : e = (L.length - i) * 3) (hf : f = i * 3) :
  aput (aput ((flat (L.map aD_)).take a ++ List.replicate b AVal.any) c X) d (((flat (L.map aD_)).drop f).take e) = flat ((L.take i ++ x :: L.drop i).map aD_) := by
 obtain ⟨h1, h2, h3⟩ := ptIt L hi
 subst hX ha hb hc hd he hf
 rw [paIt, h1, List.take_left' h2, List.drop_left' h2, List.take_of_length_le (show (flat ((L.drop i).map aD_)).length ≤ (L.length - i) * 3 by rw [h3]; exact Nat.le_refl _), show (i + 1) * 3 = (flat ((L.take i).map aD_)).length + [vStr x.place, .sl 3 (x.obj.ctx.map az_) false, .sl 5 (x.obj.sibs.map sSib) false].length by rw [h2]; show (i + 1) * 3 = i * 3 + 3; omega, ← h2]
 exact py_ (by rw [List.length_replicate, h3]; show _ = 3 + _; omega)
theorem rmIt {L : List Itm} {x : Itm} {i b c d e f : Nat} {X : List AVal} (hX : X = [vStr x.place, .sl 3 (x.obj.ctx.map az_) false, .sl 5 (x.obj.sibs.map sSib) false]) (hi : i ≤ L.length) (hb : b = 3) (hd : d = (i + 1) * 3) (he : e = (L.length - i) * 3) (hf : f = i * 3) (hc : c = i * 3) :
  aput (aput (flat (L.map aD_) ++ List.replicate b AVal.any) d (((flat (L.map aD_) ++ List.replicate b AVal.any).drop f).take e)) c X = flat ((L.take i ++ x :: L.drop i).map aD_) := by
 obtain ⟨h1, h2, h3⟩ := ptIt L hi
 subst hX hb hc hd he hf
 rw [paIt, h1, List.append_assoc, List.drop_left' h2, List.take_left' h3, ← List.append_assoc, show (i + 1) * 3 = (flat ((L.take i).map aD_)).length + [vStr x.place, .sl 3 (x.obj.ctx.map az_) false, .sl 5 (x.obj.sibs.map sSib) false].length by rw [h2]; show (i + 1) * 3 = i * 3 + 3; omega, ← h2]
 exact mT_ (by rw [List.length_replicate]; rfl)
theorem onIt (L : List Itm) : ∀ a ∈ flat (L.map aD_), a.one = true := fun a ha => by
 simp only [flat, List.mem_flatMap] at ha
 obtain ⟨y, hy, h⟩ := ha
 obtain ⟨z, _, rfl⟩ := List.mem_map.1 hy
 simp [AVal.cells] at h
 rcases h with rfl | rfl | rfl <;> rfl
theorem rtIt (L : List Itm) {i e f : Nat} {W : List AVal} (hi : i ≤ L.length) (he : e = (L.length - i) * 3) (hf : f = i * 3) : ((flat (L.map aD_) ++ W).drop f).take e = (flat (L.map aD_)).drop f := by
 have hl := bI_ L
 subst he hf
 rw [List.drop_append_of_le_length (by rw [hl]; exact Nat.mul_le_mul_right _ hi), List.take_left' (by rw [List.length_drop, hl]; omega)]
set_option maxHeartbeats 1000000 in
theorem vq_ {o ov c i : Nat} {L : List Itm} {x : Itm} {σ : Store} (ho : σ.heap o = some (.cells (flat (L.map aD_)))) (hv : σ.heap ov = some (.cells (flat [aD_ x]))) (hoo : o ≠ ov) (hi : i ≤ L.length) (h0 : L ≠ []) (hc : L.length ≤ c) (hl : L.length ≤ 1000000) :
  ai_ Tryz.prog 214 [.mslc o 3 0 L.length c (55), vInt i, .msl ov 3 0 1] σ fun v σ' => ∃ o', (o' = o ∨ o' = ov ∨ σ.heap o' = none) ∧ v = .msl o' 3 0 (L.length + 1) ∧ SubX [o, ov] σ σ' ∧ σ'.heap o' = some (.cells (flat ((L.take i ++ x :: L.drop i).map aD_))) := by
 have hfl := bI_ L
 have hov : (σ.del ov).heap o = some (.cells (flat (L.map aD_))) := by rw [Store.del_ne _ hoo]; exact ho
 have hf1 : (flat [aD_ x]).length = 3 := rfl
 have hor : (i = 0 ∨ True) = True := by simp
 have e9 : (L.length : Int) + (1 : Nat) - i = ((L.length + 1 - i : Nat) : Int) := by omega
 refine en_ Tryz.func214 Tryz.ntmps214 Tryz.results214 ?_
 refine ab_ ?_
 have R := And.intro hv (And.intro ho (And.intro hov (And.intro e9 hor)))
 refine r_ ?_
 refine s_ ?_
 refine aa_ ?_
 refine ab_ ?_
 have R := And.intro hv (And.intro ho (And.intro hov (And.intro e9 hor)))
 refine r_ ?_
 iterate 2 refine s_ ?_
 refine aL_X rfl rfl (gJ_ (l := i) (h := L.length) rfl g_ g_ va_ al_ (by rfl) hi hc ?_)
 refine aa_ ?_
 refine ab_ ?_
 have R := And.intro hv (And.intro ho (And.intro hov (And.intro e9 hor)))
 refine r_ ?_
 iterate 3 refine s_ ?_
 refine aa_ ?_
 refine ab_ ?_
 refine ab_ ?_
 have R := And.intro hv (And.intro ho (And.intro hov (And.intro e9 hor)))
 refine r_ ?_
 iterate 2 refine s_ ?_
 refine aa_ ?_
 refine cd_ (fun hc3 => ?_) (fun hc3 => ?_)
 ·omega
 ·refine ae_ ?_
  refine ab_ ?_
  have R := And.intro hv (And.intro ho (And.intro hov (And.intro e9 hor)))
  refine r_ ?_
  refine s_ ?_
  refine aL_X rfl rfl (lZ_ rfl g_ va_ ?_)
  refine s_ ?_
  refine aa_ ?_
  refine ab_ ?_
  refine ab_ ?_
  have R := And.intro hv (And.intro ho (And.intro hov (And.intro e9 hor)))
  refine r_ ?_
  iterate 3 refine s_ ?_
  refine aa_ ?_
  refine cd_ (fun hc6 => ?_) (fun hc6 => ?_)
  ·refine ab_ ?_
   have R := And.intro hv (And.intro ho (And.intro hov (And.intro e9 hor)))
   refine r_ ?_
   refine aL_X rfl rfl (fh_ (a := .mslc o 3 0 L.length c (55)) (aV_ (by rfl) ⟨rfl, rfl⟩) (.mslc _ _ _ _ _ _) ?_)
   refine aL_X rfl rfl (bM_ (by first | exact .inl rfl | exact .inr rfl) va_ h_ (l := [aD_ x]) (by rfl) (by rfl) (by simp; rfl) ?_)
   refine aL_X rfl rfl (d6_ (old := some o) (l2 := [aD_ x]) (len := L.length) rfl g_ g_ (.inl ⟨o, _, va_, h_, rfl, rfl, by rw [hfl]; exact Nat.le_refl _⟩) va_ (by simp) (by simp [AVal.one, AVal.cells]) (by show (L.length + 1) * _ ≤ _; omega) fun o25 ho25 => ?_)
   refine s_ ?_
   refine aa_ ?_
   refine af_ ?_
   refine au_ va_ (Store.Wk.refl _) ?_
   refine ⟨o25, .inr (fP_ ho25), rfl, kW_ ho25, ?_⟩
   rw [Store.set_get, show i = L.length by omega, List.take_length, List.drop_length, List.map_append, a7_, List.take_of_length_le (by rw [hfl]; exact Nat.le_refl _)]; rfl
  ·refine ae_ ?_
   refine ab_ ?_
   refine ab_ ?_
   have R := And.intro hv (And.intro ho (And.intro hov (And.intro e9 hor)))
   refine r_ ?_
   iterate 4 refine s_ ?_
   refine aL_X rfl rfl (lY_ rfl g_ va_ ?_)
   refine s_ ?_
   refine aa_ ?_
   refine cd_ (fun hc8 => ?_) (fun hc8 => ?_)
   ·refine ab_ ?_
    have R := And.intro hv (And.intro ho (And.intro hov (And.intro e9 hor)))
    refine r_ ?_
    iterate 2 refine s_ ?_
    refine aL_X rfl rfl (ix_ (l := 0) (h := i) rfl g_ g_ va_ (by rfl) al_ (Nat.zero_le _) (by omega) (.inl rfl) ?_)
    iterate 5 refine s_ ?_
    refine aL_X rfl rfl (jP_ (len := i) (cap := c) (n := L.length + 1 - i) rfl g_ g_ g_ va_ h_ va_ (by omega) (by omega) (by omega) (by omega) fun o40 ho40 => ?_)
    refine s_ ?_
    refine aa_ ?_
    have n1 : o ≠ o40 := fun hh => by rw [hh, ho40] at ho; cases ho
    have n2 : ov ≠ o40 := fun hh => by rw [hh, ho40] at hv; cases hv
    refine ab_ ?_
    have R := And.intro hv (And.intro ho (And.intro hov (And.intro e9 hor)))
    refine r_ ?_
    iterate 4 refine s_ ?_
    refine aL_X rfl rfl (cX_ (n := 1) (m := 1) rfl g_ g_ va_ h_ (.inr ⟨_, _, _, va_, h_, rfl⟩) (by show _ = min _ _; omega) (by omega) (Nat.le_refl 3) (fun a ha => onIt [x] a (List.mem_of_mem_drop (List.mem_of_mem_take ha))) (by rw [List.length_append, List.length_take, List.length_replicate, hfl]; omega) ?_)
    refine aa_ ?_
    refine ab_ ?_
    have R := And.intro hv (And.intro ho (And.intro hov (And.intro e9 hor)))
    refine ap_ (.op 0 0 (.op 1 0 (.op 2 0 (.any 3 (.op 4 0 (.op 6 0 (.op 5 2 (.op 7 2 (.op 8 2 .nil))))))))) Tryz.mixed kr_ ?_
    iterate 3 refine ds_ ?_
    refine dR_A o_ (by rfl) (by rfl) (fun _ => v_) ?_
    iterate 2 refine ds_ ?_
    refine dR_T o_ (by rfl) (by rfl) (fh_ (a := .mslc o 3 0 L.length c (55)) (aV_ (by rfl) ⟨rfl, rfl⟩) (.mslc _ _ _ _ _ _) ?_)
    refine dR_T o_ (by rfl) (by rfl) (aV_ v_ ?_)
    refine dR_T o_ (by rfl) (by rfl) (cX_ (n := L.length - i) (m := L.length - i) (by rfl) g_ g_ va_ h_ (.inr ⟨_, _, _, va_, h_, rfl⟩) (by show _ = min _ _; omega) (by omega) (by rw [List.length_drop, hfl]; omega) (fun a ha => onIt L a (List.mem_of_mem_drop (List.mem_of_mem_take ha))) (by simp only [aput, List.length_append, List.length_take, List.length_drop, List.length_replicate, hfl, hf1]; omega) ?_)
    refine aB_ ?_
    refine ab_ ?_
    have R := And.intro hv (And.intro ho (And.intro hov (And.intro e9 hor)))
    refine r_ ?_
    iterate 2 refine s_ ?_
    refine aa_ ?_
    refine af_ ?_
    refine au_ va_ (Store.Wk.refl _) ?_
    refine ⟨o40, .inr (.inr ho40), by congr 1; omega, sub_, ?_⟩
    rw [Store.set_get]
    exact congrArg (fun l => some (AObj.cells l)) (grIt rfl hi (by omega) (by omega) (by omega) (by omega) (by omega) (by omega))
   ·refine ae_ ?_
    refine ab_ ?_
    have R := And.intro hv (And.intro ho (And.intro hov (And.intro e9 hor)))
    refine r_ ?_
    iterate 4 refine s_ ?_
    refine aL_X rfl rfl (iy_ (h := L.length + 1) rfl g_ g_ va_ (by simp [go_sem, alow, fJ_, ev_]; omega) h_ (by omega) (by omega) ?_)
    refine s_ ?_
    refine aa_ ?_
    refine ab_ ?_
    refine ab_ ?_
    have R := And.intro hv (And.intro ho (And.intro hov (And.intro e9 hor)))
    refine r_ ?_
    iterate 6 refine s_ ?_
    refine aL_X rfl rfl (dO_ rfl (e := Extern.SlicesOverlaps.overlaps #[22, 22] #[4]) kr_ g_ (fun κ ev hI h => sG_ (e := 55) hI g_ g_ va_ va_ h_ h_ hoo.symm (by rw [List.length_append, List.length_replicate, hfl]; omega) h) ?_)
    refine s_ ?_
    refine aa_ ?_
    refine cd_ (fun hc14 => ?_) (fun hc14 => ?_)
    ·refine ab_ ?_
     have R := And.intro hv (And.intro ho (And.intro hov (And.intro e9 hor)))
     refine ap_ (.op 0 0 (.op 1 0 (.op 2 0 (.op 3 0 (.op 4 0 (.op 5 0 (.op 6 0 (.op 7 0 (.op 8 2 .nil))))))))) Tryz.mixed kr_ ?_
     iterate 8 refine ds_ ?_
     refine dR_T o_ (by rfl) (by rfl) (cX_ (n := L.length + 1 - i) (m := L.length - i) (by rfl) g_ g_ va_ h_ (.inr ⟨_, _, _, va_, h_, rfl⟩) (by show _ = min _ _; omega) (by omega) (by rw [List.length_drop, List.length_append, hfl]; omega) (fun a ha => by rw [rtIt L hi (by omega) (by omega)] at ha; exact onIt L a (List.mem_of_mem_drop ha)) (by rw [List.length_append, List.length_replicate, hfl]; omega) ?_)
     refine aB_ ?_
     refine ab_ ?_
     have R := And.intro hv (And.intro ho (And.intro hov (And.intro e9 hor)))
     refine r_ ?_
     iterate 4 refine s_ ?_
     refine aL_X rfl rfl (cX_ (n := 1) (m := 1) rfl g_ g_ va_ h_ (.inr ⟨_, _, _, va_, h_, rfl⟩) (by show _ = min _ _; omega) (by omega) (Nat.le_refl 3) (fun a ha => onIt [x] a (List.mem_of_mem_drop (List.mem_of_mem_take ha))) (by simp only [aput, List.length_append, List.length_take, List.length_drop, List.length_replicate, hfl, hf1]; omega) ?_)
     refine aa_ ?_
     refine ab_ ?_
     have R := And.intro hv (And.intro ho (And.intro hov (And.intro e9 hor)))
     refine r_ ?_
     iterate 2 refine s_ ?_
     refine aa_ ?_
     refine af_ ?_
     refine au_ va_ (Store.Wk.refl _) ?_
     refine ⟨o, .inl rfl, rfl, sub_, ?_⟩
     rw [Store.set_get]
     exact congrArg (fun l => some (AObj.cells l)) (rmIt rfl hi (by omega) (by omega) (by omega) (by omega) (by omega))
    ·first | cases hc14 | (simp at hc14; done)
theorem ceIt {t : Bool} {σ : Store} : ai_ Tryz.prog 110 [.sl 3 [] t] σ fun v σ' => v = .sl 3 [] true ∧ σ = σ' := sv_.mono fun v σ' h => by
 rcases h with ⟨_, h1, h2⟩ | ⟨_, _, _, h, _⟩
 ·exact ⟨h1, h2.symm⟩
 ·exact absurd rfl h
theorem cmIt {L : List Itm} {t : Bool} {σ : Store} (h0 : L ≠ []) (hl : L.length ≤ 1000000) : ai_ Tryz.prog 110 [.sl 3 (L.map aD_) t] σ fun v σ' => ∃ o c, σ.heap o = none ∧ L.length ≤ c ∧ v = .mslc o 3 0 L.length c (55) ∧ σ' = σ.set o (.cells (flat (L.map aD_))) := (sw_ h0 hl).mono fun v σ' h => by
 rcases h with ⟨h, _⟩ | ⟨o, c, h1, _, h2, h3, h4⟩
 ·exact absurd h h0
 ·exact ⟨o, c, h1, h2, h3, h4⟩
theorem feIt {s : ByteArray} {σ : Store} : ai_ Tryz.prog 213 [.sl 3 [] true, vStr s, plIt] σ fun v σ' => v = .tup [vInt 0, vB false] ∧ σ = σ' := u7_ (L := []) (t := true) List.Pairwise.nil (by simp)
theorem wh_ {x : Itm} {t : Bool} {σ : Store} : ai_ Tryz.prog 155 [.sl 3 [] t, aD_ x, plIt] σ fun v σ' => v = .sl 3 [aD_ x] false ∧ σ = σ' := by
 refine en_ Tryz.func155 Tryz.ntmps155 Tryz.results155 ?_
 refine rr_ ?_
 refine bx_ fun o4 ho4 => ?_
 repeat (rw [ac_] at ho4; obtain ⟨_, ho4⟩ := ho4)
 refine s_ ?_
 refine aa_ ?_
 refine rr_ ?_
 refine s_ ?_
 refine x_ g_ va_ (ceIt) ?_; rintro _ _ ⟨rfl, rfl⟩
 refine s_ ?_
 refine aa_ ?_
 refine rr_ ?_
 iterate 3 refine s_ ?_
 refine aL_X rfl rfl (aU_ rfl rfl (.inr ⟨va_, rfl, rfl⟩) g_ va_ (cK_) ?_); rintro _ _ ⟨rfl, rfl⟩
 refine s_ ?_
 refine x_ g_ va_ (feIt) ?_; rintro _ _ ⟨rfl, rfl⟩
 iterate 5 refine s_ ?_
 refine aa_ ?_
 refine ab_ ?_
 refine rr_ ?_
 iterate 2 refine s_ ?_
 refine aa_ ?_
 refine cd_ (fun hc3 => ?_) (fun hc3 => ?_)
 ·refine rr_ ?_
  iterate 3 refine s_ ?_
  refine aL_X rfl rfl (eZ_ (l := [aD_ x]) rfl g_ g_ rfl rfl va_ c2_ (by decide) fun ov hov => ?_)
  refine x_ g_ va_ (vp_ (x := x) (Store.set_get ..)) ?_; rintro _ τ1 ⟨o', h1, rfl, h3, h4⟩
  refine aL_X rfl rfl (bM_ (.inl rfl) va_ h4 (l := [aD_ x]) rfl rfl (by simp; rfl) ?_)
  refine aa_ ?_
  refine af_ ?_
  refine au_ (σ' := σ) va_ ?_ ⟨rfl, rfl⟩
  exact gu_ (fun i y hy => ⟨jp_ hov (c5_ ho4 hy), fe_ ho4 hov hy⟩) (fun t n ht => ht) (h1.imp (fun hh => by rw [hh]; exact .head _) id) h3
 ·first | cases hc3 | (simp at hc3; done)
theorem wi_ {x : Itm} {L : List Itm} {t : Bool} {σ : Store} (h0 : L ≠ []) (hr : cn_ Itm.place L) (hl : L.length ≤ 1000000) : ai_ Tryz.prog 155 [.sl 3 (L.map aD_) t, aD_ x, plIt] σ fun v σ' => v = .sl 3 ((insK Itm.place x L).map aD_) false ∧ σ = σ' := by
 have hfl := bI_ L
 have hle := pk_ Itm.place x.place L
 refine en_ Tryz.func155 Tryz.ntmps155 Tryz.results155 ?_
 refine rr_ ?_
 refine bx_ fun o4 ho4 => ?_
 repeat (rw [ac_] at ho4; obtain ⟨_, ho4⟩ := ho4)
 refine s_ ?_
 refine aa_ ?_
 refine rr_ ?_
 refine s_ ?_
 refine x_ g_ va_ (cmIt h0 hl) ?_; rintro _ _ ⟨o, c, hon, hc, rfl, rfl⟩
 refine s_ ?_
 refine aa_ ?_
 have n4o : o4 ≠ o := fun hh => by rw [← hh, Store.set_get] at hon; cases hon
 have ho : ((σ.set o4 (.cells [vStr x.place, .sl 3 (x.obj.ctx.map az_) false, .sl 5 (x.obj.sibs.map sSib) false])).set o (.cells (flat (L.map aD_)))).heap o = some (.cells (flat (L.map aD_))) := Store.set_get ..
 refine ab_ ?_
 have R := And.intro ho hfl
 refine r_ ?_
 refine aL_X rfl rfl (fh_ (a := .mslc o 3 0 L.length c (55)) (aV_ (by rfl) ⟨rfl, rfl⟩) (.mslc _ _ _ _ _ _) ?_)
 iterate 2 refine s_ ?_
 refine aL_X rfl rfl (aU_ rfl rfl (.inr ⟨va_, rfl, rfl⟩) g_ va_ (cK_) ?_); rintro _ _ ⟨rfl, rfl⟩
 refine s_ ?_
 refine x_ g_ va_ (u6_ ho hr hl) ?_; rintro _ _ ⟨rfl, rfl⟩
 iterate 5 refine s_ ?_
 refine aa_ ?_
 refine ab_ ?_
 refine rr_ ?_
 iterate 2 refine s_ ?_
 refine aa_ ?_
 refine cd_ (fun hc3 => ?_) (fun hc3 => ?_)
 ·refine ab_ ?_
  have R := And.intro ho hfl
  refine r_ ?_
  iterate 3 refine s_ ?_
  refine aL_X rfl rfl (eZ_ (l := [aD_ x]) rfl g_ g_ rfl rfl va_ c2_ (by decide) fun ov hov => ?_)
  refine x_ g_ va_ (vq_ (x := x) (i := lowK Itm.place x.place L) (by rw [Store.set_ne _ _ (fun hh => by rw [← hh, ho] at hov; cases hov)]; exact ho) (Store.set_get ..) (fun hh => by rw [← hh, ho] at hov; cases hov) hle h0 hc hl) ?_; rintro _ τ1 ⟨o', h1, rfl, h3, h4⟩
  refine aL_X rfl rfl (bM_ (.inl rfl) va_ h4 (l := (L.take (lowK Itm.place x.place L) ++ x :: L.drop (lowK Itm.place x.place L)).map aD_) (List.take_of_length_le (by rw [bI_]; simp; omega)) (by simp; omega) (og_ _) ?_)
  refine aa_ ?_
  refine af_ ?_
  refine au_ (σ' := σ) va_ ?_ ⟨by rw [lA_ hr (by simpa using hc3), List.map_append, List.map_cons], rfl⟩
  exact gu_ (fun i y hy => ⟨pq_ hon hov (c5_ ho4 hy), c5_ hov (fe_ ho4 hon hy)⟩) (fun t n ht => ht) (h1.elim (fun hh => .inl (by rw [hh]; exact .head _)) (fun hh => hh.elim (fun hh => .inl (by rw [hh]; exact .tail _ (.head _))) .inr)) h3
 ·have hlt := hr_ (key := Itm.place) (l := L) (s := x.place) (by simpa using hc3)
  refine ae_ ?_
  refine ab_ ?_
  have R := And.intro ho hfl
  refine r_ ?_
  refine aL_X rfl rfl (fh_ (a := .mslc o 3 0 L.length c (55)) (aV_ (by rfl) ⟨rfl, rfl⟩) (.mslc _ _ _ _ _ _) ?_)
  iterate 3 refine s_ ?_
  refine bX_ rfl rfl rfl v_ v_ h_ g_ rfl g_ c_ (by rfl) (by rw [hfl]; have := hr_ (key := Itm.place) (l := L) (s := x.place) (by simpa using hc3); omega) (mo_ (hr_ (by simpa using hc3))) ?_
  refine aa_ ?_
  refine ab_ ?_
  have R := And.intro ho hfl
  refine r_ ?_
  refine aL_X rfl rfl (fh_ (a := .mslc o 3 0 L.length c (55)) (aV_ (by rfl) ⟨rfl, rfl⟩) (.mslc _ _ _ _ _ _) ?_)
  refine aL_X rfl rfl (bM_ (by first | exact .inl rfl | exact .inr rfl) va_ h_ (l := (L.set (lowK Itm.place x.place L) x).map aD_) (by exact List.take_of_length_le (by rw [bI_]; simp)) (by simp) (by exact og_ _) ?_)
  refine aa_ ?_
  refine af_ ?_
  refine au_ (σ' := σ) va_ ?_ ⟨by rw [jm_ hr (by simpa using hc3)], rfl⟩
  exact gu_ (S := (σ.set o4 (.cells [vStr x.place, .sl 3 (x.obj.ctx.map az_) false, .sl 5 (x.obj.sibs.map sSib) false])).set o (.cells (flat (L.map aD_)))) (l := [o]) (fun i y hy => ⟨jp_ hon (c5_ ho4 hy), fe_ ho4 hon hy⟩) (fun t n ht => ht) (.inl (.head _)) sub_
theorem wl_ {x : Itm} {L : List Itm} {t : Bool} {σ : Store} (hr : cn_ Itm.place L) (hl : L.length ≤ 1000000) : ai_ Tryz.prog 155 [.sl 3 (L.map aD_) t, aD_ x, plIt] σ fun v σ' => v = .sl 3 ((insK Itm.place x L).map aD_) false ∧ σ = σ' := by
 by_cases h : L = []
 ·subst h; exact wh_
 ·exact wi_ h hr hl
def PFMn (F : FuncId) (caps : List AVal) (σ : Store) (p : Mnt → Bool) : Prop := isGo Tryz.prog F = true ∧ ∀ τ : Store, (∀ i y, σ.heap i = some y → τ.heap i = some y) → ∀ x : Mnt, ai_ Tryz.prog F (sMnt x :: caps) τ fun v τ' => v = vB (p x) ∧ τ = τ'
abbrev fnMn (F : Nat) (caps : List AVal) : AVal := .fn (.func F) [] caps
theorem cV_ (L : List Mnt) : (flat (L.map sMnt)).length = L.length * 2 := by rw [aR_ (r7_ L), List.length_map]
theorem hH_ : ∀ {L : List Mnt} {j : Nat} {x : Mnt}, L[j]? = some x → ((flat (L.map sMnt)).drop (j * 2)).take 2 = [vStr x.place, vInt x.n]
 |[], j, x, h => by simp at h
 |y :: L, 0, x, h => by
  simp only [List.getElem?_cons_zero, Option.some.injEq] at h
  subst h
  rfl
 |y :: L, j + 1, x, h => by
  rw [List.map_cons, a5_, show (j + 1) * 2 = 2 + j * 2 by omega, ← List.drop_drop]
  exact hH_ (L := L) (j := j) h
theorem q3_ {M : List Mnt} {j : Nat} {x : Mnt} (hj : j < M.length) : aput (flat (M.map sMnt)) (j * 2) [vStr x.place, vInt x.n] = flat ((M.set j x).map sMnt) := by
 have e : M.set j x = M.take j ++ x :: M.drop (j + 1) := by rw [List.set_eq_take_append_cons_drop, if_pos hj]
 have e2 : M = M.take j ++ M[j] :: M.drop (j + 1) := by rw [List.getElem_cons_drop hj, List.take_append_drop]
 have hl : (flat ((M.take j).map sMnt)).length = j * 2 := by rw [cV_, List.length_take, Nat.min_eq_left (by omega)]
 rw [e]
 conv => lhs; rw [e2]
 unfold aput
 rw [List.map_append, List.map_cons, a7_, a5_, List.map_append, List.map_cons, a7_, a5_, List.take_left' hl, List.drop_append, List.drop_of_length_le (by rw [hl]; simp), hl, show j * 2 + [vStr x.place, vInt x.n].length - j * 2 = 2 by rw [show [vStr x.place, vInt x.n].length = 2 from rfl]; omega]
 simp [AVal.cells]
def CBMn (σ0 σ : Store) (L : List Mnt) (v : AVal) : Prop := (L = [] ∧ v = .sl 2 [] true ∧ σ = σ0) ∨ ∃ o c, σ0.heap o = none ∧ L ≠ [] ∧ L.length ≤ c ∧ v = .mslc o 2 0 L.length c (31) ∧ σ = σ0.set o (.cells (flat (L.map sMnt)))
theorem uT_ {t : Bool} {σ : Store} : ai_ Tryz.prog 215 [.sl 2 [] t] σ fun v σ' => CBMn σ σ' [] v := by
 refine en_ Tryz.func215 Tryz.ntmps215 Tryz.results215 ?_
 refine rr_ ?_
 refine s_ ?_
 refine aa_ ?_
 refine ab_ ?_
 refine rr_ ?_
 refine s_ ?_
 refine aL_X rfl rfl (gj_ rfl g_ va_ va_ fun b => ?_)
 refine aa_ ?_
 refine cd_ (fun hc1 => ?_) (fun hc1 => ?_)
 ·refine rr_ ?_
  refine s_ ?_
  refine aa_ ?_
  refine af_ ?_
  exact aw_ (v := .sl 2 [] true) (v' := .lit (.slice none 0 0)) va_ (.nil _ _) sub_ (.inl ⟨rfl, rfl, rfl⟩)
 ·refine ae_ ?_
  refine rr_ ?_
  refine ao_ rfl rfl rfl g_ g_ rfl rfl h_ c2_ (by decide) ?_
  refine s_ ?_
  refine aL_X rfl rfl (d5_ rfl g_ g_ va_ va_ ?_)
  refine s_ ?_
  refine aa_ ?_
  refine af_ ?_
  exact au_ va_ sub_ (.inl ⟨rfl, rfl, rfl⟩)
theorem uU_ {L : List Mnt} {t : Bool} {σ : Store} (h0 : L ≠ []) (hl : L.length ≤ 1000000) : ai_ Tryz.prog 215 [.sl 2 (L.map sMnt) t] σ fun v σ' => CBMn σ σ' L v := by
 have hne : L.map sMnt ≠ [] := by simpa using h0
 refine en_ Tryz.func215 Tryz.ntmps215 Tryz.results215 ?_
 refine rr_ ?_
 refine s_ ?_
 refine aa_ ?_
 refine ab_ ?_
 refine rr_ ?_
 refine s_ ?_
 refine aL_X rfl rfl (ho_ rfl g_ v_ (by exact hne) va_ ?_)
 refine aa_ ?_
 refine cd_ (fun hc1 => ?_) (fun hc1 => ?_)
 ·cases hc1
 ·refine ae_ ?_
  refine rr_ ?_
  refine ao_ rfl rfl rfl g_ g_ rfl rfl h_ c2_ (by decide) ?_
  refine s_ ?_
  refine aL_X rfl rfl (gi_ rfl g_ g_ va_ g_ hne (by simp; omega) fun o7 c7 ho7 hc7 => ?_)
  refine s_ ?_
  refine aa_ ?_
  refine af_ ?_
  refine au_ v_ (Store.Wk.refl _) ?_
  exact .inr ⟨o7, c7, ho7, h0, by simpa using hc7, rfl, rfl⟩
theorem vx_ {F : Nat} {caps : List AVal} {p : Mnt → Bool} {L : List Mnt} {t : Bool} {σ : Store} (hF : PFMn F caps σ p) (hl : L.length ≤ 1000000) : ai_ Tryz.prog 167 [.sl 2 (L.map sMnt) t, fnMn F caps] σ fun v σ' => (∃ r : Int, v = vInt r ∧ ((r = -1 ∧ L.find? p = none) ∨ ∃ j : Nat, ∃ x, r = j ∧ L[j]? = some x ∧ L.find? p = some x)) ∧ σ = σ' := by
 have hgo := hF.1
 refine en_ Tryz.func167 Tryz.ntmps167 Tryz.results167 ?_
 refine rr_ ?_
 refine s_ ?_
 refine aa_ ?_
 refine ab_ ?_
 refine rr_ ?_
 iterate 3 refine s_ ?_
 refine aa_ ?_
 refine ag_ ?_
 refine ah_ (ι := Nat) (fun k => L.length - k) (fun k => k ≤ L.length ∧ ∀ m y, m < k → L[m]? = some y → p y = false) (fun k => [(0, .sl 2 (L.map sMnt) t), (1, fnMn F caps), (7, vInt L.length), (8, vInt k)]) (fun k => σ) 0 ?_ ?_ ?_ ?_
 ·exact ⟨Nat.zero_le _, fun m y hm => by omega⟩
 ·exact cv_
 ·exact sub_
 rintro k ⟨hk, hf⟩
 simp only [ak_, am_]
 refine rr_ ?_
 refine s_ ?_
 refine aa_ ?_
 refine ab_ ?_
 refine cd_ (fun hc2 => ?_) (fun hc2 => ?_)
 ·refine ae_ ?_
  refine ab_ ?_
  refine ag_ ?_
  refine rr_ ?_
  iterate 2 refine s_ ?_
  refine aa_ ?_
  refine ab_ ?_
  obtain ⟨x, hx⟩ := aq_ (l := L) (k := k) (by omega)
  have R := hx
  refine r_ ?_
  iterate 5 refine s_ ?_
  refine aL_X rfl rfl (aU_ rfl rfl (.inl v_) g_ va_ (hF.2 _ (fun _ _ h => h) x) ?_); rintro _ _ ⟨rfl, rfl⟩
  refine aa_ ?_
  refine cd_ (fun hc4 => ?_) (fun hc4 => ?_)
  ·refine rr_ ?_
   iterate 2 refine s_ ?_
   refine aa_ ?_
   refine af_ ?_
   refine er_ σ ?_
   exact ⟨⟨k, rfl, .inr ⟨k, x, rfl, hx, eI_ hx (by simpa using hc4) hf⟩⟩, rfl⟩
  ·refine ae_ ?_
   refine r_ ?_
   iterate 2 refine s_ ?_
   refine aa_ ?_
   refine aC_ (ι := Nat) (i := k) (k + 1) ?_ ?_ ?_ ?_
   ·omega
   ·exact ⟨by omega, fun m y hm hy => by rcases Nat.lt_or_eq_of_le (Nat.le_of_lt_succ hm) with h | h; exact hf m y h hy; rw [h, hx] at hy; cases hy; simpa using hc4⟩
   ·exact cv_
   ·exact sub_
 ·refine an_ ?_
  refine ad_ ?_
  refine ad_ ?_
  refine aj_ ?_
  refine rr_ ?_
  refine s_ ?_
  refine aa_ ?_
  refine af_ ?_
  refine er_ σ ?_
  exact ⟨⟨-1, rfl, .inl ⟨rfl, List.find?_eq_none.2 fun y hy => by obtain ⟨m, hm, e⟩ := List.mem_iff_getElem.1 hy; have := hf m y (by omega) (by rw [List.getElem?_eq_getElem hm, e]); rw [this]; simp⟩⟩, rfl⟩
theorem CBMn.frozen {P : Program} {f : FuncId} {args : List AVal} {σ : Store} {L : List Mnt} (h : ai_ P f args σ fun v σ' => CBMn σ σ' L v) : ai_ P f args σ fun v σ' => v = .sl 2 (L.map sMnt) false ∧ σ = σ' := by
 refine h.after ?_
 rintro κ a τ cv hI hr (⟨rfl, rfl, rfl⟩ | ⟨o, c, ho, _, _, rfl, rfl⟩)
 ·exact ⟨κ, _, _, rfl, .refl κ, hI, hr.wk (.sl1 _ _ _), rfl, rfl⟩
 ·obtain ⟨κ', h1, h2, h3, h4⟩ := Ab.freeze hI (hr.wk (Wk.mslc _ _ _ _ _ _)) (Store.set_get ..) (l := L.map sMnt) (by rw [List.take_of_length_le (by rw [cV_]; exact Nat.le_refl _)]) (by simp) (r7_ _)
  rw [Store.set_del ho] at h3
  exact ⟨κ', _, _, h1, h2, h3, h4, rfl, rfl⟩
abbrev plMn : AVal := .lit (.func (.func 102) #[] #[])
theorem fcMn {q : Nat} {x : Mnt} {s : ByteArray} {σ : Store} (hq : σ.heap q = some (.cells [plMn])) : ai_ Tryz.prog 257 [sMnt x, vStr s, .ref q 0] σ fun v σ' => v = vInt (cmpS x.place s) ∧ σ = σ' := by
 refine en_ Tryz.func257 Tryz.ntmps257 Tryz.results257 ?_
 refine rr_ ?_
 refine bx_ fun o3 ho3 => ?_
 repeat (rw [ac_] at ho3; obtain ⟨_, ho3⟩ := ho3)
 refine s_ ?_
 refine aa_ ?_
 have hq3 : (σ.set o3 (.cells [vStr x.place, vInt x.n])).heap q = some (.cells [plMn]) := by rw [Store.set_ne _ _ (fun hh => by rw [hh, ho3] at hq; cases hq)]; exact hq
 refine ab_ ?_
 have R := hq3
 refine r_ ?_
 iterate 2 refine s_ ?_
 refine aL_X rfl rfl (aU_ rfl rfl (.inr ⟨va_, rfl, rfl⟩) g_ va_ (cN_) ?_); rintro _ _ ⟨rfl, rfl⟩
 refine s_ ?_
 refine x_ g_ va_ (bV_) ?_; rintro _ _ ⟨rfl, rfl⟩
 refine s_ ?_
 refine aa_ ?_
 refine af_ ?_
 refine er_ σ ?_
 exact ⟨rfl, rfl⟩
abbrev fvMn (q : Nat) : AVal := .fn (.func 257) [] [.ref q 0]
theorem uQ_ {q : Nat} {s : ByteArray} {L : List Mnt} {t : Bool} {σ : Store} (hq : σ.heap q = some (.cells [plMn])) (hr : cn_ Mnt.place L) (hl : L.length ≤ 1000000) :
  ai_ Tryz.prog 256 [.sl 2 (L.map sMnt) t, vStr s, fvMn q] σ fun v σ' => v = .tup [vInt (lowK Mnt.place s L), vB (atK Mnt.place L s)] ∧ σ = σ' := by
 skip
 refine en_ Tryz.func256 Tryz.ntmps256 Tryz.results256 ?_
 refine rr_ ?_
 iterate 2 refine s_ ?_
 refine aa_ ?_
 refine rr_ ?_
 iterate 3 refine s_ ?_
 refine aa_ ?_
 refine rr_ ?_
 iterate 3 refine s_ ?_
 refine aa_ ?_
 refine ab_ ?_
 refine ag_ ?_
 refine ah_ (ι := Nat × Nat) (fun ⟨i, j⟩ => j - i) (fun ⟨i, j⟩ => i ≤ j ∧ j ≤ L.length ∧ LoK Mnt.place L s i ∧ HiK Mnt.place L s j) (fun ⟨i, j⟩ => [(0, .sl 2 (L.map sMnt) t), (1, vStr s), (2, fvMn q), (8, vInt L.length), (9, vInt i), (10, vInt j)]) (fun ⟨i, j⟩ => σ) (0, L.length) ?_ ?_ ?_ ?_
 ·exact ⟨Nat.zero_le _, Nat.le_refl _, (fun m x h => by omega), fun m x h hx => by rw [List.getElem?_eq_none (by omega)] at hx; cases hx⟩
 ·exact cv_
 ·exact sub_
 rintro ⟨i, j⟩ ⟨hij, hj, hlo, hhi⟩
 simp only [ak_, am_]
 refine ab_ ?_
 refine rr_ ?_
 iterate 3 refine s_ ?_
 refine aa_ ?_
 refine cd_ (fun hc3 => ?_) (fun hc3 => ?_)
 ·refine ae_ ?_
  refine ag_ ?_
  refine ab_ ?_
  have hdiv : ((i : Int) + j) / 2 ^ 1 = (((i + j) / 2 : Nat) : Int) := by omega
  obtain ⟨x, hx⟩ := aq_ (l := L) (k := (i + j) / 2) (by omega)
  have R := And.intro dl_ hdiv
  refine r_ ?_
  iterate 7 refine s_ ?_
  refine aa_ ?_
  refine ab_ ?_
  have R := hx
  refine r_ ?_
  iterate 6 refine s_ ?_
  refine aL_X rfl rfl (aU_ rfl rfl (.inl v_) g_ va_ (fcMn hq) ?_); rintro _ _ ⟨rfl, rfl⟩
  refine s_ ?_
  refine aa_ ?_
  refine cd_ (fun hc5 => ?_) (fun hc5 => ?_)
  ·refine r_ ?_
   iterate 3 refine s_ ?_
   refine aa_ ?_
   refine aC_ (ι := Nat × Nat) (i := ⟨i, j⟩) ((i + j) / 2 + 1, j) ?_ ?_ ?_ ?_
   ·show j - ((i + j) / 2 + 1) < j - i; omega
   ·exact ⟨by show (i + j) / 2 + 1 ≤ j; omega, hj, hb_ hr hx hc5, hhi⟩
   ·have R := hdiv; exact cv_
   ·exact sub_
  ·refine r_ ?_
   iterate 2 refine s_ ?_
   refine aa_ ?_
   refine aC_ (ι := Nat × Nat) (i := ⟨i, j⟩) (i, (i + j) / 2) ?_ ?_ ?_ ?_
   ·show (i + j) / 2 - i < j - i; omega
   ·exact ⟨by show i ≤ (i + j) / 2; omega, by show (i + j) / 2 ≤ L.length; omega, hlo, g8_ hr hx hc5⟩
   ·have R := hdiv; exact cv_
   ·exact sub_
 ·refine an_ ?_
  refine ad_ ?_
  refine ad_ ?_
  refine aj_ ?_
  refine ab_ ?_
  skip
  obtain rfl : i = j := by omega
  obtain ⟨x, hx⟩ := eO_ L i
  have R := hx
  refine r_ ?_
  iterate 5 refine s_ ?_
  refine gt_ ?_
  refine gt_ ?_
  refine gt_ ?_
  refine gt_ ?_
  refine gt_ ?_
  refine gt_ ?_
  refine cE_ rfl rfl v_ rfl (fun hb => av_ (by rfl) (by rfl) (.inl vh_) g_ cg_ (fcMn hq)) ?_
  refine gt_ ?_
  iterate 3 refine s_ ?_
  refine aa_ ?_
  refine af_ ?_
  refine er_ σ ?_
  refine ⟨?_, rfl⟩
  rw [km_ hj hlo hhi, ← j0_ (km_ hj hlo hhi) hx]
  simp only [Int.ofNat_lt]
theorem uP_ {q : Nat} {s : ByteArray} {L : List Mnt} {o : Nat} {σ : Store} (hq : σ.heap q = some (.cells [plMn])) (ho : σ.heap o = some (.cells (flat (L.map sMnt)))) (hr : cn_ Mnt.place L) (hl : L.length ≤ 1000000) :
  ai_ Tryz.prog 256 [.msl o 2 0 L.length, vStr s, fvMn q] σ fun v σ' => v = .tup [vInt (lowK Mnt.place s L), vB (atK Mnt.place L s)] ∧ σ = σ' := by
 have hfl := cV_ L
 refine en_ Tryz.func256 Tryz.ntmps256 Tryz.results256 ?_
 refine rr_ ?_
 iterate 2 refine s_ ?_
 refine aa_ ?_
 refine rr_ ?_
 iterate 3 refine s_ ?_
 refine aa_ ?_
 refine rr_ ?_
 iterate 3 refine s_ ?_
 refine aa_ ?_
 refine ab_ ?_
 refine ag_ ?_
 refine ah_ (ι := Nat × Nat) (fun ⟨i, j⟩ => j - i) (fun ⟨i, j⟩ => i ≤ j ∧ j ≤ L.length ∧ LoK Mnt.place L s i ∧ HiK Mnt.place L s j) (fun ⟨i, j⟩ => [(0, .msl o 2 0 L.length), (1, vStr s), (2, fvMn q), (8, vInt L.length), (9, vInt i), (10, vInt j)]) (fun ⟨i, j⟩ => σ) (0, L.length) ?_ ?_ ?_ ?_
 ·exact ⟨Nat.zero_le _, Nat.le_refl _, (fun m x h => by omega), fun m x h hx => by rw [List.getElem?_eq_none (by omega)] at hx; cases hx⟩
 ·exact cv_
 ·exact sub_
 rintro ⟨i, j⟩ ⟨hij, hj, hlo, hhi⟩
 simp only [ak_, am_]
 refine ab_ ?_
 refine rr_ ?_
 iterate 3 refine s_ ?_
 refine aa_ ?_
 refine cd_ (fun hc3 => ?_) (fun hc3 => ?_)
 ·refine ae_ ?_
  refine ag_ ?_
  refine ab_ ?_
  have hdiv : ((i : Int) + j) / 2 ^ 1 = (((i + j) / 2 : Nat) : Int) := by omega
  obtain ⟨x, hx⟩ := aq_ (l := L) (k := (i + j) / 2) (by omega)
  have px := hH_ hx
  have R := And.intro dl_ hdiv
  refine r_ ?_
  iterate 7 refine s_ ?_
  refine aa_ ?_
  refine ab_ ?_
  have R := And.intro px (And.intro ho hfl)
  refine r_ ?_
  iterate 6 refine s_ ?_
  refine aL_X rfl rfl (aU_ rfl rfl (.inl v_) g_ va_ (fcMn hq) ?_); rintro _ _ ⟨rfl, rfl⟩
  refine s_ ?_
  refine aa_ ?_
  refine cd_ (fun hc5 => ?_) (fun hc5 => ?_)
  ·refine r_ ?_
   iterate 3 refine s_ ?_
   refine aa_ ?_
   refine aC_ (ι := Nat × Nat) (i := ⟨i, j⟩) ((i + j) / 2 + 1, j) ?_ ?_ ?_ ?_
   ·show j - ((i + j) / 2 + 1) < j - i; omega
   ·exact ⟨by show (i + j) / 2 + 1 ≤ j; omega, hj, hb_ hr hx hc5, hhi⟩
   ·have R := hdiv; exact cv_
   ·exact sub_
  ·refine r_ ?_
   iterate 2 refine s_ ?_
   refine aa_ ?_
   refine aC_ (ι := Nat × Nat) (i := ⟨i, j⟩) (i, (i + j) / 2) ?_ ?_ ?_ ?_
   ·show (i + j) / 2 - i < j - i; omega
   ·exact ⟨by show i ≤ (i + j) / 2; omega, by show (i + j) / 2 ≤ L.length; omega, hlo, g8_ hr hx hc5⟩
   ·have R := hdiv; exact cv_
   ·exact sub_
 ·refine an_ ?_
  refine ad_ ?_
  refine ad_ ?_
  refine aj_ ?_
  refine ab_ ?_
  skip
  obtain rfl : i = j := by omega
  obtain ⟨x, hx⟩ := eO_ L i
  have px := fun h => hH_ (hx h)
  have R := And.intro px (And.intro ho hfl)
  refine r_ ?_
  iterate 5 refine s_ ?_
  refine gt_ ?_
  refine gt_ ?_
  refine gt_ ?_
  refine gt_ ?_
  refine gt_ ?_
  refine gt_ ?_
  refine cE_ rfl rfl v_ rfl (fun hb => av_ (by rfl) (by rfl) (.inl vh_) g_ cg_ (fcMn hq)) ?_
  refine gt_ ?_
  iterate 3 refine s_ ?_
  refine aa_ ?_
  refine af_ ?_
  refine er_ σ ?_
  refine ⟨?_, rfl⟩
  rw [km_ hj hlo hhi, ← j0_ (km_ hj hlo hhi) hx]
  simp only [Int.ofNat_lt]
theorem u9_ {s : ByteArray} {L : List Mnt} {t : Bool} {σ : Store} (hr : cn_ Mnt.place L) (hl : L.length ≤ 1000000) :
  ai_ Tryz.prog 216 [.sl 2 (L.map sMnt) t, vStr s, plMn] σ fun v σ' => v = .tup [vInt (lowK Mnt.place s L), vB (atK Mnt.place L s)] ∧ σ = σ' := by
 refine en_ Tryz.func216 Tryz.ntmps216 Tryz.results216 ?_
 refine rr_ ?_
 refine bx_ fun o5 ho5 => ?_
 repeat (rw [ac_] at ho5; obtain ⟨_, ho5⟩ := ho5)
 iterate 2 refine s_ ?_
 refine aa_ ?_
 refine rr_ ?_
 iterate 3 refine s_ ?_
 refine x_ g_ va_ (uQ_ (Store.set_get ..) hr hl) ?_; rintro _ _ ⟨rfl, rfl⟩
 iterate 4 refine s_ ?_
 refine aa_ ?_
 refine af_ ?_
 refine er_ σ ?_
 exact ⟨rfl, rfl⟩
theorem u8_ {s : ByteArray} {L : List Mnt} {o : Nat} {σ : Store} (ho : σ.heap o = some (.cells (flat (L.map sMnt)))) (hr : cn_ Mnt.place L) (hl : L.length ≤ 1000000) :
  ai_ Tryz.prog 216 [.msl o 2 0 L.length, vStr s, plMn] σ fun v σ' => v = .tup [vInt (lowK Mnt.place s L), vB (atK Mnt.place L s)] ∧ σ = σ' := by
 refine en_ Tryz.func216 Tryz.ntmps216 Tryz.results216 ?_
 refine rr_ ?_
 refine bx_ fun o5 ho5 => ?_
 repeat (rw [ac_] at ho5; obtain ⟨_, ho5⟩ := ho5)
 iterate 2 refine s_ ?_
 refine aa_ ?_
 have ho5 : (σ.set o5 (.cells [plMn])).heap o = some (.cells (flat (L.map sMnt))) := by rw [Store.set_ne _ _ (fun hh => by rw [← hh, ho] at ho5; cases ho5)]; exact ho
 refine rr_ ?_
 iterate 3 refine s_ ?_
 refine x_ g_ va_ (uP_ (Store.set_get ..) ho5 hr hl) ?_; rintro _ _ ⟨rfl, rfl⟩
 iterate 4 refine s_ ?_
 refine aa_ ?_
 refine af_ ?_
 refine er_ σ ?_
 exact ⟨rfl, rfl⟩
theorem vr_ {x : Mnt} {ov : Nat} {σ : Store} (hv : σ.heap ov = some (.cells (flat [sMnt x]))) : ai_ Tryz.prog 217 [.sl 2 [] true, vInt 0, .msl ov 2 0 1] σ fun v σ' => ∃ o', (o' = ov ∨ σ.heap o' = none) ∧ v = .msl o' 2 0 1 ∧ SubX [ov] σ σ' ∧ σ'.heap o' = some (.cells (flat [sMnt x])) := by
 refine en_ Tryz.func217 Tryz.ntmps217 Tryz.results217 ?_
 refine ab_ ?_
 have R := hv
 refine r_ ?_
 refine s_ ?_
 refine aa_ ?_
 refine ab_ ?_
 have R := hv
 refine r_ ?_
 iterate 3 refine s_ ?_
 refine aa_ ?_
 refine ab_ ?_
 have R := hv
 refine r_ ?_
 iterate 3 refine s_ ?_
 refine aa_ ?_
 refine ab_ ?_
 refine ab_ ?_
 have R := hv
 refine r_ ?_
 iterate 2 refine s_ ?_
 refine aa_ ?_
 refine cd_ (fun hc3 => ?_) (fun hc3 => ?_)
 ·omega
 ·refine ae_ ?_
  refine ab_ ?_
  have R := hv
  refine r_ ?_
  iterate 3 refine s_ ?_
  refine aa_ ?_
  refine ab_ ?_
  refine ab_ ?_
  have R := hv
  refine r_ ?_
  iterate 3 refine s_ ?_
  refine aa_ ?_
  refine cd_ (fun hc6 => ?_) (fun hc6 => ?_)
  ·refine ab_ ?_
   have R := hv
   refine r_ ?_
   refine s_ ?_
   refine aL_X rfl rfl (bM_ (by first | exact .inl rfl | exact .inr rfl) va_ h_ (l := [sMnt x]) (by rfl) (by rfl) (by simp; rfl) ?_)
   refine aL_X rfl rfl (jO_ rfl g_ g_ va_ (l2 := [sMnt x]) va_ (by simp) (by simp) fun o25 ho25 => ?_)
   refine s_ ?_
   refine aa_ ?_
   refine af_ ?_
   exact au_ (σ' := (σ.del ov).set o25 (.cells (flat [sMnt x]))) va_ sub_ ⟨o25, fP_ ho25, rfl, nf_ ho25, Store.set_get ..⟩
  ·omega
theorem ptMn (L : List Mnt) {i : Nat} (hi : i ≤ L.length) : flat (L.map sMnt) = flat ((L.take i).map sMnt) ++ flat ((L.drop i).map sMnt) ∧ (flat ((L.take i).map sMnt)).length = i * 2 ∧ (flat ((L.drop i).map sMnt)).length = (L.length - i) * 2 := by
 refine ⟨?_, ?_, ?_⟩
 ·rw [← a7_, ← List.map_append, List.take_append_drop]
 ·rw [cV_, List.length_take, Nat.min_eq_left hi]
 ·rw [cV_, List.length_drop]
theorem paMn (L : List Mnt) (x : Mnt) (i : Nat) : flat ((L.take i ++ x :: L.drop i).map sMnt) = flat ((L.take i).map sMnt) ++ ([vStr x.place, vInt x.n] ++ flat ((L.drop i).map sMnt)) := by
 rw [List.map_append, List.map_cons, a7_, a5_]; rfl
theorem grMn {L : List Mnt} {x : Mnt} {i a b c d e f : Nat} {X : List AVal} (hX : X = [vStr x.place, vInt x.n]) (hi : i ≤ L.length) (ha : a = i * 2) (hb : b = (L.length + 1 - i) * 2) (hc : c = i * 2) (hd : d = (i + 1) * 2) (he : e = (L.length - i) * 2) (hf : f = i * 2) :
  aput (aput ((flat (L.map sMnt)).take a ++ List.replicate b AVal.any) c X) d (((flat (L.map sMnt)).drop f).take e) = flat ((L.take i ++ x :: L.drop i).map sMnt) := by
 obtain ⟨h1, h2, h3⟩ := ptMn L hi
 subst hX ha hb hc hd he hf
 rw [paMn, h1, List.take_left' h2, List.drop_left' h2, List.take_of_length_le (show (flat ((L.drop i).map sMnt)).length ≤ (L.length - i) * 2 by rw [h3]; exact Nat.le_refl _), show (i + 1) * 2 = (flat ((L.take i).map sMnt)).length + [vStr x.place, vInt x.n].length by rw [h2]; show (i + 1) * 2 = i * 2 + 2; omega, ← h2]
 exact py_ (by rw [List.length_replicate, h3]; show _ = 2 + _; omega)
theorem rmMn {L : List Mnt} {x : Mnt} {i b c d e f : Nat} {X : List AVal} (hX : X = [vStr x.place, vInt x.n]) (hi : i ≤ L.length) (hb : b = 2) (hd : d = (i + 1) * 2) (he : e = (L.length - i) * 2) (hf : f = i * 2) (hc : c = i * 2) :
  aput (aput (flat (L.map sMnt) ++ List.replicate b AVal.any) d (((flat (L.map sMnt) ++ List.replicate b AVal.any).drop f).take e)) c X = flat ((L.take i ++ x :: L.drop i).map sMnt) := by
 obtain ⟨h1, h2, h3⟩ := ptMn L hi
 subst hX hb hc hd he hf
 rw [paMn, h1, List.append_assoc, List.drop_left' h2, List.take_left' h3, ← List.append_assoc, show (i + 1) * 2 = (flat ((L.take i).map sMnt)).length + [vStr x.place, vInt x.n].length by rw [h2]; show (i + 1) * 2 = i * 2 + 2; omega, ← h2]
 exact mT_ (by rw [List.length_replicate]; rfl)
theorem onMn (L : List Mnt) : ∀ a ∈ flat (L.map sMnt), a.one = true := fun a ha => by
 simp only [flat, List.mem_flatMap] at ha
 obtain ⟨y, hy, h⟩ := ha
 obtain ⟨z, _, rfl⟩ := List.mem_map.1 hy
 simp [AVal.cells] at h
 rcases h with rfl | rfl <;> rfl
theorem rtMn (L : List Mnt) {i e f : Nat} {W : List AVal} (hi : i ≤ L.length) (he : e = (L.length - i) * 2) (hf : f = i * 2) : ((flat (L.map sMnt) ++ W).drop f).take e = (flat (L.map sMnt)).drop f := by
 have hl := cV_ L
 subst he hf
 rw [List.drop_append_of_le_length (by rw [hl]; exact Nat.mul_le_mul_right _ hi), List.take_left' (by rw [List.length_drop, hl]; omega)]
set_option maxHeartbeats 1000000 in
theorem vs_ {o ov c i : Nat} {L : List Mnt} {x : Mnt} {σ : Store} (ho : σ.heap o = some (.cells (flat (L.map sMnt)))) (hv : σ.heap ov = some (.cells (flat [sMnt x]))) (hoo : o ≠ ov) (hi : i ≤ L.length) (h0 : L ≠ []) (hc : L.length ≤ c) (hl : L.length ≤ 1000000) :
  ai_ Tryz.prog 217 [.mslc o 2 0 L.length c (31), vInt i, .msl ov 2 0 1] σ fun v σ' => ∃ o', (o' = o ∨ o' = ov ∨ σ.heap o' = none) ∧ v = .msl o' 2 0 (L.length + 1) ∧ SubX [o, ov] σ σ' ∧ σ'.heap o' = some (.cells (flat ((L.take i ++ x :: L.drop i).map sMnt))) := by
 have hfl := cV_ L
 have hov : (σ.del ov).heap o = some (.cells (flat (L.map sMnt))) := by rw [Store.del_ne _ hoo]; exact ho
 have hf1 : (flat [sMnt x]).length = 2 := rfl
 have hor : (i = 0 ∨ True) = True := by simp
 have e9 : (L.length : Int) + (1 : Nat) - i = ((L.length + 1 - i : Nat) : Int) := by omega
 refine en_ Tryz.func217 Tryz.ntmps217 Tryz.results217 ?_
 refine ab_ ?_
 have R := And.intro hv (And.intro ho (And.intro hov (And.intro e9 hor)))
 refine r_ ?_
 refine s_ ?_
 refine aa_ ?_
 refine ab_ ?_
 have R := And.intro hv (And.intro ho (And.intro hov (And.intro e9 hor)))
 refine r_ ?_
 iterate 2 refine s_ ?_
 refine aL_X rfl rfl (gJ_ (l := i) (h := L.length) rfl g_ g_ va_ al_ (by rfl) hi hc ?_)
 refine aa_ ?_
 refine ab_ ?_
 have R := And.intro hv (And.intro ho (And.intro hov (And.intro e9 hor)))
 refine r_ ?_
 iterate 3 refine s_ ?_
 refine aa_ ?_
 refine ab_ ?_
 refine ab_ ?_
 have R := And.intro hv (And.intro ho (And.intro hov (And.intro e9 hor)))
 refine r_ ?_
 iterate 2 refine s_ ?_
 refine aa_ ?_
 refine cd_ (fun hc3 => ?_) (fun hc3 => ?_)
 ·omega
 ·refine ae_ ?_
  refine ab_ ?_
  have R := And.intro hv (And.intro ho (And.intro hov (And.intro e9 hor)))
  refine r_ ?_
  refine s_ ?_
  refine aL_X rfl rfl (lZ_ rfl g_ va_ ?_)
  refine s_ ?_
  refine aa_ ?_
  refine ab_ ?_
  refine ab_ ?_
  have R := And.intro hv (And.intro ho (And.intro hov (And.intro e9 hor)))
  refine r_ ?_
  iterate 3 refine s_ ?_
  refine aa_ ?_
  refine cd_ (fun hc6 => ?_) (fun hc6 => ?_)
  ·refine ab_ ?_
   have R := And.intro hv (And.intro ho (And.intro hov (And.intro e9 hor)))
   refine r_ ?_
   refine aL_X rfl rfl (fh_ (a := .mslc o 2 0 L.length c (31)) (aV_ (by rfl) ⟨rfl, rfl⟩) (.mslc _ _ _ _ _ _) ?_)
   refine aL_X rfl rfl (bM_ (by first | exact .inl rfl | exact .inr rfl) va_ h_ (l := [sMnt x]) (by rfl) (by rfl) (by simp; rfl) ?_)
   refine aL_X rfl rfl (d6_ (old := some o) (l2 := [sMnt x]) (len := L.length) rfl g_ g_ (.inl ⟨o, _, va_, h_, rfl, rfl, by rw [hfl]; exact Nat.le_refl _⟩) va_ (by simp) (by simp [AVal.one, AVal.cells]) (by show (L.length + 1) * _ ≤ _; omega) fun o25 ho25 => ?_)
   refine s_ ?_
   refine aa_ ?_
   refine af_ ?_
   refine au_ va_ (Store.Wk.refl _) ?_
   refine ⟨o25, .inr (fP_ ho25), rfl, kW_ ho25, ?_⟩
   rw [Store.set_get, show i = L.length by omega, List.take_length, List.drop_length, List.map_append, a7_, List.take_of_length_le (by rw [hfl]; exact Nat.le_refl _)]; rfl
  ·refine ae_ ?_
   refine ab_ ?_
   refine ab_ ?_
   have R := And.intro hv (And.intro ho (And.intro hov (And.intro e9 hor)))
   refine r_ ?_
   iterate 4 refine s_ ?_
   refine aL_X rfl rfl (lY_ rfl g_ va_ ?_)
   refine s_ ?_
   refine aa_ ?_
   refine cd_ (fun hc8 => ?_) (fun hc8 => ?_)
   ·refine ab_ ?_
    have R := And.intro hv (And.intro ho (And.intro hov (And.intro e9 hor)))
    refine r_ ?_
    iterate 2 refine s_ ?_
    refine aL_X rfl rfl (ix_ (l := 0) (h := i) rfl g_ g_ va_ (by rfl) al_ (Nat.zero_le _) (by omega) (.inl rfl) ?_)
    iterate 5 refine s_ ?_
    refine aL_X rfl rfl (jP_ (len := i) (cap := c) (n := L.length + 1 - i) rfl g_ g_ g_ va_ h_ va_ (by omega) (by omega) (by omega) (by omega) fun o40 ho40 => ?_)
    refine s_ ?_
    refine aa_ ?_
    have n1 : o ≠ o40 := fun hh => by rw [hh, ho40] at ho; cases ho
    have n2 : ov ≠ o40 := fun hh => by rw [hh, ho40] at hv; cases hv
    refine ab_ ?_
    have R := And.intro hv (And.intro ho (And.intro hov (And.intro e9 hor)))
    refine r_ ?_
    iterate 4 refine s_ ?_
    refine aL_X rfl rfl (cX_ (n := 1) (m := 1) rfl g_ g_ va_ h_ (.inr ⟨_, _, _, va_, h_, rfl⟩) (by show _ = min _ _; omega) (by omega) (Nat.le_refl 2) (fun a ha => onMn [x] a (List.mem_of_mem_drop (List.mem_of_mem_take ha))) (by rw [List.length_append, List.length_take, List.length_replicate, hfl]; omega) ?_)
    refine aa_ ?_
    refine ab_ ?_
    have R := And.intro hv (And.intro ho (And.intro hov (And.intro e9 hor)))
    refine ap_ (.op 0 0 (.op 1 0 (.op 2 0 (.any 3 (.op 4 0 (.op 6 0 (.op 5 2 (.op 7 2 (.op 8 2 .nil))))))))) Tryz.mixed kr_ ?_
    iterate 3 refine ds_ ?_
    refine dR_A o_ (by rfl) (by rfl) (fun _ => v_) ?_
    iterate 2 refine ds_ ?_
    refine dR_T o_ (by rfl) (by rfl) (fh_ (a := .mslc o 2 0 L.length c (31)) (aV_ (by rfl) ⟨rfl, rfl⟩) (.mslc _ _ _ _ _ _) ?_)
    refine dR_T o_ (by rfl) (by rfl) (aV_ v_ ?_)
    refine dR_T o_ (by rfl) (by rfl) (cX_ (n := L.length - i) (m := L.length - i) (by rfl) g_ g_ va_ h_ (.inr ⟨_, _, _, va_, h_, rfl⟩) (by show _ = min _ _; omega) (by omega) (by rw [List.length_drop, hfl]; omega) (fun a ha => onMn L a (List.mem_of_mem_drop (List.mem_of_mem_take ha))) (by simp only [aput, List.length_append, List.length_take, List.length_drop, List.length_replicate, hfl, hf1]; omega) ?_)
    refine aB_ ?_
    refine ab_ ?_
    have R := And.intro hv (And.intro ho (And.intro hov (And.intro e9 hor)))
    refine r_ ?_
    iterate 2 refine s_ ?_
    refine aa_ ?_
    refine af_ ?_
    refine au_ va_ (Store.Wk.refl _) ?_
    refine ⟨o40, .inr (.inr ho40), by congr 1; omega, sub_, ?_⟩
    rw [Store.set_get]
    exact congrArg (fun l => some (AObj.cells l)) (grMn rfl hi (by omega) (by omega) (by omega) (by omega) (by omega) (by omega))
   ·refine ae_ ?_
    refine ab_ ?_
    have R := And.intro hv (And.intro ho (And.intro hov (And.intro e9 hor)))
    refine r_ ?_
    iterate 4 refine s_ ?_
    refine aL_X rfl rfl (iy_ (h := L.length + 1) rfl g_ g_ va_ (by simp [go_sem, alow, fJ_, ev_]; omega) h_ (by omega) (by omega) ?_)
    refine s_ ?_
    refine aa_ ?_
    refine ab_ ?_
    refine ab_ ?_
    have R := And.intro hv (And.intro ho (And.intro hov (And.intro e9 hor)))
    refine r_ ?_
    iterate 6 refine s_ ?_
    refine aL_X rfl rfl (dO_ rfl (e := Extern.SlicesOverlaps.overlaps #[23, 23] #[4]) kr_ g_ (fun κ ev hI h => sG_ (e := 31) hI g_ g_ va_ va_ h_ h_ hoo.symm (by rw [List.length_append, List.length_replicate, hfl]; omega) h) ?_)
    refine s_ ?_
    refine aa_ ?_
    refine cd_ (fun hc14 => ?_) (fun hc14 => ?_)
    ·refine ab_ ?_
     have R := And.intro hv (And.intro ho (And.intro hov (And.intro e9 hor)))
     refine ap_ (.op 0 0 (.op 1 0 (.op 2 0 (.op 3 0 (.op 4 0 (.op 5 0 (.op 6 0 (.op 7 0 (.op 8 2 .nil))))))))) Tryz.mixed kr_ ?_
     iterate 8 refine ds_ ?_
     refine dR_T o_ (by rfl) (by rfl) (cX_ (n := L.length + 1 - i) (m := L.length - i) (by rfl) g_ g_ va_ h_ (.inr ⟨_, _, _, va_, h_, rfl⟩) (by show _ = min _ _; omega) (by omega) (by rw [List.length_drop, List.length_append, hfl]; omega) (fun a ha => by rw [rtMn L hi (by omega) (by omega)] at ha; exact onMn L a (List.mem_of_mem_drop ha)) (by rw [List.length_append, List.length_replicate, hfl]; omega) ?_)
     refine aB_ ?_
     refine ab_ ?_
     have R := And.intro hv (And.intro ho (And.intro hov (And.intro e9 hor)))
     refine r_ ?_
     iterate 4 refine s_ ?_
     refine aL_X rfl rfl (cX_ (n := 1) (m := 1) rfl g_ g_ va_ h_ (.inr ⟨_, _, _, va_, h_, rfl⟩) (by show _ = min _ _; omega) (by omega) (Nat.le_refl 2) (fun a ha => onMn [x] a (List.mem_of_mem_drop (List.mem_of_mem_take ha))) (by simp only [aput, List.length_append, List.length_take, List.length_drop, List.length_replicate, hfl, hf1]; omega) ?_)
     refine aa_ ?_
     refine ab_ ?_
     have R := And.intro hv (And.intro ho (And.intro hov (And.intro e9 hor)))
     refine r_ ?_
     iterate 2 refine s_ ?_
     refine aa_ ?_
     refine af_ ?_
     refine au_ va_ (Store.Wk.refl _) ?_
     refine ⟨o, .inl rfl, rfl, sub_, ?_⟩
     rw [Store.set_get]
     exact congrArg (fun l => some (AObj.cells l)) (rmMn rfl hi (by omega) (by omega) (by omega) (by omega) (by omega))
    ·first | cases hc14 | (simp at hc14; done)
theorem ceMn {t : Bool} {σ : Store} : ai_ Tryz.prog 215 [.sl 2 [] t] σ fun v σ' => v = .sl 2 [] true ∧ σ = σ' := uT_.mono fun v σ' h => by
 rcases h with ⟨_, h1, h2⟩ | ⟨_, _, _, h, _⟩
 ·exact ⟨h1, h2.symm⟩
 ·exact absurd rfl h
theorem cmMn {L : List Mnt} {t : Bool} {σ : Store} (h0 : L ≠ []) (hl : L.length ≤ 1000000) : ai_ Tryz.prog 215 [.sl 2 (L.map sMnt) t] σ fun v σ' => ∃ o c, σ.heap o = none ∧ L.length ≤ c ∧ v = .mslc o 2 0 L.length c (31) ∧ σ' = σ.set o (.cells (flat (L.map sMnt))) := (uU_ h0 hl).mono fun v σ' h => by
 rcases h with ⟨h, _⟩ | ⟨o, c, h1, _, h2, h3, h4⟩
 ·exact absurd h h0
 ·exact ⟨o, c, h1, h2, h3, h4⟩
theorem feMn {s : ByteArray} {σ : Store} : ai_ Tryz.prog 216 [.sl 2 [] true, vStr s, plMn] σ fun v σ' => v = .tup [vInt 0, vB false] ∧ σ = σ' := u9_ (L := []) (t := true) List.Pairwise.nil (by simp)
theorem wj_ {x : Mnt} {t : Bool} {σ : Store} : ai_ Tryz.prog 159 [.sl 2 [] t, sMnt x, plMn] σ fun v σ' => v = .sl 2 [sMnt x] false ∧ σ = σ' := by
 refine en_ Tryz.func159 Tryz.ntmps159 Tryz.results159 ?_
 refine rr_ ?_
 refine bx_ fun o4 ho4 => ?_
 repeat (rw [ac_] at ho4; obtain ⟨_, ho4⟩ := ho4)
 refine s_ ?_
 refine aa_ ?_
 refine rr_ ?_
 refine s_ ?_
 refine x_ g_ va_ (ceMn) ?_; rintro _ _ ⟨rfl, rfl⟩
 refine s_ ?_
 refine aa_ ?_
 refine rr_ ?_
 iterate 3 refine s_ ?_
 refine aL_X rfl rfl (aU_ rfl rfl (.inr ⟨va_, rfl, rfl⟩) g_ va_ (cN_) ?_); rintro _ _ ⟨rfl, rfl⟩
 refine s_ ?_
 refine x_ g_ va_ (feMn) ?_; rintro _ _ ⟨rfl, rfl⟩
 iterate 5 refine s_ ?_
 refine aa_ ?_
 refine ab_ ?_
 refine rr_ ?_
 iterate 2 refine s_ ?_
 refine aa_ ?_
 refine cd_ (fun hc3 => ?_) (fun hc3 => ?_)
 ·refine rr_ ?_
  iterate 3 refine s_ ?_
  refine aL_X rfl rfl (eZ_ (l := [sMnt x]) rfl g_ g_ rfl rfl va_ c2_ (by decide) fun ov hov => ?_)
  refine x_ g_ va_ (vr_ (x := x) (Store.set_get ..)) ?_; rintro _ τ1 ⟨o', h1, rfl, h3, h4⟩
  refine aL_X rfl rfl (bM_ (.inl rfl) va_ h4 (l := [sMnt x]) rfl rfl (by simp; rfl) ?_)
  refine aa_ ?_
  refine af_ ?_
  refine au_ (σ' := σ) va_ ?_ ⟨rfl, rfl⟩
  exact gu_ (fun i y hy => ⟨jp_ hov (c5_ ho4 hy), fe_ ho4 hov hy⟩) (fun t n ht => ht) (h1.imp (fun hh => by rw [hh]; exact .head _) id) h3
 ·first | cases hc3 | (simp at hc3; done)
theorem wk_ {x : Mnt} {L : List Mnt} {t : Bool} {σ : Store} (h0 : L ≠ []) (hr : cn_ Mnt.place L) (hl : L.length ≤ 1000000) : ai_ Tryz.prog 159 [.sl 2 (L.map sMnt) t, sMnt x, plMn] σ fun v σ' => v = .sl 2 ((insK Mnt.place x L).map sMnt) false ∧ σ = σ' := by
 have hfl := cV_ L
 have hle := pk_ Mnt.place x.place L
 refine en_ Tryz.func159 Tryz.ntmps159 Tryz.results159 ?_
 refine rr_ ?_
 refine bx_ fun o4 ho4 => ?_
 repeat (rw [ac_] at ho4; obtain ⟨_, ho4⟩ := ho4)
 refine s_ ?_
 refine aa_ ?_
 refine rr_ ?_
 refine s_ ?_
 refine x_ g_ va_ (cmMn h0 hl) ?_; rintro _ _ ⟨o, c, hon, hc, rfl, rfl⟩
 refine s_ ?_
 refine aa_ ?_
 have n4o : o4 ≠ o := fun hh => by rw [← hh, Store.set_get] at hon; cases hon
 have ho : ((σ.set o4 (.cells [vStr x.place, vInt x.n])).set o (.cells (flat (L.map sMnt)))).heap o = some (.cells (flat (L.map sMnt))) := Store.set_get ..
 refine ab_ ?_
 have R := And.intro ho hfl
 refine r_ ?_
 refine aL_X rfl rfl (fh_ (a := .mslc o 2 0 L.length c (31)) (aV_ (by rfl) ⟨rfl, rfl⟩) (.mslc _ _ _ _ _ _) ?_)
 iterate 2 refine s_ ?_
 refine aL_X rfl rfl (aU_ rfl rfl (.inr ⟨va_, rfl, rfl⟩) g_ va_ (cN_) ?_); rintro _ _ ⟨rfl, rfl⟩
 refine s_ ?_
 refine x_ g_ va_ (u8_ ho hr hl) ?_; rintro _ _ ⟨rfl, rfl⟩
 iterate 5 refine s_ ?_
 refine aa_ ?_
 refine ab_ ?_
 refine rr_ ?_
 iterate 2 refine s_ ?_
 refine aa_ ?_
 refine cd_ (fun hc3 => ?_) (fun hc3 => ?_)
 ·refine ab_ ?_
  have R := And.intro ho hfl
  refine r_ ?_
  iterate 3 refine s_ ?_
  refine aL_X rfl rfl (eZ_ (l := [sMnt x]) rfl g_ g_ rfl rfl va_ c2_ (by decide) fun ov hov => ?_)
  refine x_ g_ va_ (vs_ (x := x) (i := lowK Mnt.place x.place L) (by rw [Store.set_ne _ _ (fun hh => by rw [← hh, ho] at hov; cases hov)]; exact ho) (Store.set_get ..) (fun hh => by rw [← hh, ho] at hov; cases hov) hle h0 hc hl) ?_; rintro _ τ1 ⟨o', h1, rfl, h3, h4⟩
  refine aL_X rfl rfl (bM_ (.inl rfl) va_ h4 (l := (L.take (lowK Mnt.place x.place L) ++ x :: L.drop (lowK Mnt.place x.place L)).map sMnt) (List.take_of_length_le (by rw [cV_]; simp; omega)) (by simp; omega) (r7_ _) ?_)
  refine aa_ ?_
  refine af_ ?_
  refine au_ (σ' := σ) va_ ?_ ⟨by rw [lA_ hr (by simpa using hc3), List.map_append, List.map_cons], rfl⟩
  exact gu_ (fun i y hy => ⟨pq_ hon hov (c5_ ho4 hy), c5_ hov (fe_ ho4 hon hy)⟩) (fun t n ht => ht) (h1.elim (fun hh => .inl (by rw [hh]; exact .head _)) (fun hh => hh.elim (fun hh => .inl (by rw [hh]; exact .tail _ (.head _))) .inr)) h3
 ·have hlt := hr_ (key := Mnt.place) (l := L) (s := x.place) (by simpa using hc3)
  refine ae_ ?_
  refine ab_ ?_
  have R := And.intro ho hfl
  refine r_ ?_
  refine aL_X rfl rfl (fh_ (a := .mslc o 2 0 L.length c (31)) (aV_ (by rfl) ⟨rfl, rfl⟩) (.mslc _ _ _ _ _ _) ?_)
  iterate 3 refine s_ ?_
  refine bX_ rfl rfl rfl v_ v_ h_ g_ rfl g_ c_ (by rfl) (by rw [hfl]; have := hr_ (key := Mnt.place) (l := L) (s := x.place) (by simpa using hc3); omega) (q3_ (hr_ (by simpa using hc3))) ?_
  refine aa_ ?_
  refine ab_ ?_
  have R := And.intro ho hfl
  refine r_ ?_
  refine aL_X rfl rfl (fh_ (a := .mslc o 2 0 L.length c (31)) (aV_ (by rfl) ⟨rfl, rfl⟩) (.mslc _ _ _ _ _ _) ?_)
  refine aL_X rfl rfl (bM_ (by first | exact .inl rfl | exact .inr rfl) va_ h_ (l := (L.set (lowK Mnt.place x.place L) x).map sMnt) (by exact List.take_of_length_le (by rw [cV_]; simp)) (by simp) (by exact r7_ _) ?_)
  refine aa_ ?_
  refine af_ ?_
  refine au_ (σ' := σ) va_ ?_ ⟨by rw [jm_ hr (by simpa using hc3)], rfl⟩
  exact gu_ (S := (σ.set o4 (.cells [vStr x.place, vInt x.n])).set o (.cells (flat (L.map sMnt)))) (l := [o]) (fun i y hy => ⟨jp_ hon (c5_ ho4 hy), fe_ ho4 hon hy⟩) (fun t n ht => ht) (.inl (.head _)) sub_
theorem wm_ {x : Mnt} {L : List Mnt} {t : Bool} {σ : Store} (hr : cn_ Mnt.place L) (hl : L.length ≤ 1000000) : ai_ Tryz.prog 159 [.sl 2 (L.map sMnt) t, sMnt x, plMn] σ fun v σ' => v = .sl 2 ((insK Mnt.place x L).map sMnt) false ∧ σ = σ' := by
 by_cases h : L = []
 ·subst h; exact wj_
 ·exact wk_ h hr hl
theorem vf_ {q : Nat} {x : Itm} {s : ByteArray} {σ : Store} (hq : σ.heap q = some (.cells [vStr s])) : ai_ Tryz.prog 75 [aD_ x, .ref q 0] σ fun v σ' => v = vB (decide (x.place = s)) ∧ σ = σ' := by
 refine en_ Tryz.func75 Tryz.ntmps75 Tryz.results75 ?_
 refine rr_ ?_
 refine bx_ fun o2 ho2 => ?_
 repeat (rw [ac_] at ho2; obtain ⟨_, ho2⟩ := ho2)
 refine s_ ?_
 refine aa_ ?_
 have n3 := aF_ hq ho2
 refine ab_ ?_
 have R := hq
 refine r_ ?_
 iterate 5 refine s_ ?_
 refine aa_ ?_
 refine af_ ?_
 refine er_ σ ?_
 exact ⟨rfl, rfl⟩
theorem qF_ {q : Nat} {x : Itm} {s : ByteArray} {σ : Store} (hq : σ.heap q = some (.cells [vStr s])) : ai_ Tryz.prog 157 [aD_ x, .ref q 0] σ fun v σ' => v = vB (decide (x.place = s)) ∧ σ = σ' := by
 refine en_ Tryz.func157 Tryz.ntmps157 Tryz.results157 ?_
 refine rr_ ?_
 refine bx_ fun o2 ho2 => ?_
 repeat (rw [ac_] at ho2; obtain ⟨_, ho2⟩ := ho2)
 refine s_ ?_
 refine aa_ ?_
 have n3 := aF_ hq ho2
 refine ab_ ?_
 have R := hq
 refine r_ ?_
 iterate 5 refine s_ ?_
 refine aa_ ?_
 refine af_ ?_
 refine er_ σ ?_
 exact ⟨rfl, rfl⟩
theorem tD_ {q : Nat} {x : Mnt} {s : ByteArray} {σ : Store} (hq : σ.heap q = some (.cells [vStr s])) : ai_ Tryz.prog 218 [sMnt x, .ref q 0] σ fun v σ' => v = vB (decide (x.place = s)) ∧ σ = σ' := by
 refine en_ Tryz.func218 Tryz.ntmps218 Tryz.results218 ?_
 refine rr_ ?_
 refine bx_ fun o2 ho2 => ?_
 repeat (rw [ac_] at ho2; obtain ⟨_, ho2⟩ := ho2)
 refine s_ ?_
 refine aa_ ?_
 have n3 := aF_ hq ho2
 refine ab_ ?_
 have R := hq
 refine r_ ?_
 iterate 5 refine s_ ?_
 refine aa_ ?_
 refine af_ ?_
 refine er_ σ ?_
 exact ⟨rfl, rfl⟩
theorem vi_ {b : Bk} {s : ByteArray} {σ : Store} (hb : b.items.length ≤ 1000000) : ai_ Tryz.prog 33 [sBk b, vStr s] σ fun v σ' => v = .tup [sObj (getS b.items s).1, vB (getS b.items s).2] ∧ σ = σ' := by
 refine en_ Tryz.func33 Tryz.ntmps33 Tryz.results33 ?_
 refine rr_ ?_
 refine bx_ fun o2 ho2 => ?_
 repeat (rw [ac_] at ho2; obtain ⟨_, ho2⟩ := ho2)
 refine bx_ fun o3 ho3 => ?_
 repeat (rw [ac_] at ho3; obtain ⟨_, ho3⟩ := ho3)
 refine lc_ fun o4 ho4 => ?_
 repeat (rw [ac_] at ho4; obtain ⟨_, ho4⟩ := ho4)
 refine s_ ?_
 refine aa_ ?_
 refine rr_ ?_
 iterate 3 refine s_ ?_
 refine x_ g_ va_ (vw_ (p := fun x => decide (x.place = s)) ⟨by kernel_rfl, fun τ h x _ => vf_ (h o3 _ (by rw [Store.set_ne _ _ (by omega)]; exact Store.set_get ..))⟩ hb) ?_; rintro _ _ ⟨⟨r, rfl, hr⟩, rfl⟩
 refine s_ ?_
 refine aa_ ?_
 refine ab_ ?_
 refine rr_ ?_
 iterate 2 refine s_ ?_
 refine aa_ ?_
 refine cd_ (fun hc2 => ?_) (fun hc2 => ?_)
 ·skip
  have hg : getS b.items s = (⟨[], []⟩, false) := by
   rcases hr with ⟨_, h⟩ | ⟨j, x, h, _⟩
   ·unfold getS; rw [h]
   ·omega
  refine rr_ ?_
  refine s_ ?_
  refine st_ ?_
  refine s_ ?_
  refine aa_ ?_
  refine af_ ?_
  rw [hg]
  exact aw_ (v := .tup [sObj ⟨[], []⟩, vB false]) (v' := .tup [.agg [vNil, vNil], vB false]) va_ (.tup _ _ rfl (fun i hi hi' => by match i, hi with | 0, _ => exact .agg _ _ rfl (fun j hj hj' => by match j, hj with | 0, _ => exact .nil _ _ | 1, _ => exact .nil _ _) | 1, _ => exact .refl _)) sub_ ⟨rfl, rfl⟩
 ·skip
  obtain ⟨j, x, rfl, hx, hf⟩ : ∃ j : Nat, ∃ x, r = j ∧ b.items[j]? = some x ∧ b.items.find? (fun x => decide (x.place = s)) = some x := by
   rcases hr with ⟨h, _⟩ | h
   ·omega
   ·exact h
  have hg : getS b.items s = (x.obj, true) := by unfold getS; rw [hf]
  refine ae_ ?_
  refine ab_ ?_
  have R := hx
  refine r_ ?_
  iterate 6 refine s_ ?_
  refine st_ ?_
  refine s_ ?_
  refine aa_ ?_
  refine af_ ?_
  refine er_ σ ?_
  exact ⟨by rw [hg], rfl⟩
theorem vF_ {b : Bk} {s : ByteArray} {σ : Store} (hb : b.mints.length ≤ 1000000) (hn : ∀ x ∈ b.mints, -1000000000000000000 ≤ x.n ∧ x.n ≤ 1000000000000000000) : ai_ Tryz.prog 160 [sBk b, vStr s] σ fun v σ' => v = vInt (dz_ b.mints s) ∧ σ = σ' := by
 refine en_ Tryz.func160 Tryz.ntmps160 Tryz.results160 ?_
 refine rr_ ?_
 refine bx_ fun o2 ho2 => ?_
 repeat (rw [ac_] at ho2; obtain ⟨_, ho2⟩ := ho2)
 refine bx_ fun o3 ho3 => ?_
 repeat (rw [ac_] at ho3; obtain ⟨_, ho3⟩ := ho3)
 refine s_ ?_
 refine aa_ ?_
 refine rr_ ?_
 iterate 3 refine s_ ?_
 refine x_ g_ va_ (vx_ (p := fun x => decide (x.place = s)) ⟨by kernel_rfl, fun τ h x => tD_ (h o3 _ (Store.set_get ..))⟩ hb) ?_; rintro _ _ ⟨⟨r, rfl, hr⟩, rfl⟩
 refine s_ ?_
 refine aa_ ?_
 refine ab_ ?_
 refine rr_ ?_
 iterate 2 refine s_ ?_
 refine aa_ ?_
 refine cd_ (fun hc2 => ?_) (fun hc2 => ?_)
 ·skip
  have hg : dz_ b.mints s = 1 := by
   rcases hr with ⟨_, h⟩ | ⟨j, x, h, _⟩
   ·unfold dz_; rw [h]
   ·omega
  refine rr_ ?_
  refine s_ ?_
  refine aa_ ?_
  refine af_ ?_
  refine er_ σ ?_
  exact ⟨by rw [hg], rfl⟩
 ·skip
  obtain ⟨j, x, rfl, hx, hf⟩ : ∃ j : Nat, ∃ x, r = j ∧ b.mints[j]? = some x ∧ b.mints.find? (fun x => decide (x.place = s)) = some x := by
   rcases hr with ⟨h, _⟩ | h
   ·omega
   ·exact h
  have hg : dz_ b.mints s = x.n + 1 := by unfold dz_; rw [hf]
  have hxn := hn x (List.mem_of_getElem? hx)
  refine ae_ ?_
  refine ab_ ?_
  have R := hx
  refine r_ ?_
  iterate 8 refine s_ ?_
  refine aa_ ?_
  refine af_ ?_
  refine er_ σ ?_
  exact ⟨by rw [hg], rfl⟩
def fItm (x : Itm) : Nat := x.place.size + kT_ x.obj
theorem je_ {x : Itm} (h : ItemSm x) : fItm x ≤ 20000000000 := by
 have h1 := et_ h.obj x.obj.ctx.length x.obj.sibs.length
 rw [List.take_length, List.take_length] at h1
 have h2 := h.place
 unfold fItm kT_; omega
theorem md_ {b : Bk} {σ : Store} (hb : ∀ x ∈ b.items, ItemSm x) (hn : b.items.length ≤ 100000) : ai_ Tryz.prog 38 [sBk b] σ fun v σ' => v = vInt ((b.items.map fItm).sum : Nat) ∧ σ = σ' := by
 refine en_ Tryz.func38 Tryz.ntmps38 Tryz.results38 ?_
 refine rr_ ?_
 refine bx_ fun o1 ho1 => ?_
 repeat (rw [ac_] at ho1; obtain ⟨_, ho1⟩ := ho1)
 refine s_ ?_
 refine aa_ ?_
 refine rr_ ?_
 refine s_ ?_
 refine aa_ ?_
 refine ab_ ?_
 refine rr_ ?_
 iterate 4 refine s_ ?_
 refine aa_ ?_
 refine ag_ ?_
 refine ah_ (ι := Nat) (fun k => b.items.length - k) (fun k => k ≤ b.items.length) (fun k => [(1, .ref o1 0), (3, vInt (((b.items.take k).map fItm).sum : Nat)), (7, .sl 3 (b.items.map aD_) false), (8, vInt b.items.length), (9, vInt k)]) (fun k => (σ.set o1 (.cells (sBk b).cells))) 0 ?_ ?_ ?_ ?_
 ·exact Nat.zero_le _
 ·exact cv_
 ·exact Store.Wk.refl _
 rintro k hk
 simp only [ak_, am_]
 refine rr_ ?_
 refine s_ ?_
 refine aa_ ?_
 refine ab_ ?_
 refine cd_ (fun hc3 => ?_) (fun hc3 => ?_)
 ·refine ae_ ?_
  refine ab_ ?_
  refine ag_ ?_
  refine ab_ ?_
  obtain ⟨x, hx⟩ := aq_ (l := b.items) (k := k) (by omega)
  have hxs := hb x (List.mem_of_getElem? hx)
  have hxb := je_ hxs
  have hfx : fItm x = x.place.size + kT_ x.obj := rfl
  have hb1 : ((b.items.take k).map fItm).sum ≤ 2000000000000000 := by
   have h1 := i4_ (f := fItm) (c := 20000000000) (l := b.items.take k) fun y hy => je_ (hb y (List.mem_of_mem_take hy))
   exact Nat.le_trans h1 (Nat.le_trans (Nat.mul_le_mul_left _ (show (b.items.take k).length ≤ 100000 by rw [List.length_take]; omega)) (by decide))
  have hs : (((b.items.take k).map fItm).sum : Int) + ((x.place.size : Int) + (kT_ x.obj : Int)) = ((((b.items.take (k + 1)).map fItm).sum : Nat) : Int) := by rw [ff_ hx, hfx]; simp
  have R := hx
  refine r_ ?_
  iterate 2 refine s_ ?_
  refine lc_ fun o5 ho5 => ?_
  repeat (rw [ac_] at ho5; obtain ⟨_, ho5⟩ := ho5)
  refine st_ ?_
  refine aa_ ?_
  have R := hs
  refine ap_ (.op 0 0 (.op 1 0 (.op 2 0 (.op 3 0 (.op 4 0 (.op 5 0 (.op 6 1 (.op 7 0 (.op 8 0 (.op 9 0 .nil)))))))))) Tryz.mixed kr_ ?_
  iterate 6 refine ds_ ?_
  refine dx_ o_ g_ va_ (v7_ hxs.obj) ?_; rintro _ _ ⟨rfl, rfl⟩; refine ⟨sub_, ?_⟩
  iterate 3 refine ds_ ?_
  refine aB_ ?_
  refine r_ ?_
  iterate 2 refine s_ ?_
  refine aa_ ?_
  refine aC_ (ι := Nat) (i := k) (k + 1) ?_ ?_ ?_ ?_
  ·omega
  ·show k + 1 ≤ b.items.length; omega
  ·have R := hs; exact cv_
  ·exact sub_
 ·refine an_ ?_
  refine ad_ ?_
  refine ad_ ?_
  refine aj_ ?_
  refine ab_ ?_
  have hfull : b.items.take k = b.items := List.take_of_length_le (by omega)
  rw [hfull]
  refine r_ ?_
  iterate 2 refine s_ ?_
  refine aa_ ?_
  refine af_ ?_
  refine er_ σ ?_
  exact ⟨rfl, rfl⟩
abbrev newW (o : Nat) : AObj := .cells [.nilp o 164 2, .lit (.slice none 0 0)]
theorem po_ (o : Nat) : ∀ a t sz l, newW o ≠ .cells [a, .own t sz l] := fun a t sz l hh => by simp [newW] at hh
theorem tC_ {o : Nat} {σ : Store} : WR (σ.set o (newW o)) o [] := ⟨_, _, none, Store.set_get .., .inr rfl, .inr ⟨rfl, rfl, rfl⟩⟩
theorem qc_ {k : Int} {p : ByteArray} {σ : Store} (hp : p.size ≤ 1000000) : ai_ Tryz.prog 87 [vInt k, vStr p] σ fun v σ' => ∃ o, σ.heap o = none ∧ v = .ref o 0 ∧ WR σ' o (beI 1 k ++ a9_ p) ∧ WF o (σ.set o (newW o)) σ' := by
 refine en_ Tryz.func87 Tryz.ntmps87 Tryz.results87 ?_
 refine rr_ ?_
 refine s_ ?_
 refine aa_ ?_
 refine rr_ ?_
 refine s_ ?_
 refine aL_X rfl rfl (gZ_ rfl va_ fun o7 ho7 => ?_)
 refine s_ ?_
 refine aa_ ?_
 have hw : WR (σ.set o7 (newW o7)) o7 [] := tC_
 refine rr_ ?_
 iterate 2 refine s_ ?_
 refine x_ g_ va_ (nj_ hw (by simp)) ?_; rintro _ τ1 ⟨rfl, a1, a2⟩
 refine aa_ ?_
 refine rr_ ?_
 iterate 2 refine s_ ?_
 refine x_ g_ va_ (gh_ a1 (by simp [ay_]) (by omega)) ?_; rintro _ τ2 ⟨rfl, b1, b2⟩
 refine aa_ ?_
 refine rr_ ?_
 iterate 2 refine s_ ?_
 refine aa_ ?_
 refine af_ ?_
 refine au_ v_ (Store.Wk.refl _) ?_
 exact ⟨o7, ho7, rfl, by simpa using b1, a2.trans b2⟩
def cA_ (p : ByteArray) (o : Obj') : List UInt8 × Int := if aH_ p && be_ o then (putR p o, 0) else ([], 1)
def eG_ (p : ByteArray) : List UInt8 × Int := if aH_ p then (ln_ p, 0) else ([], 1)
theorem kz_ (p : ByteArray) (o : Obj') : beI 1 1 ++ a9_ p ++ objB o = putR p o := by rw [show beI 1 1 = [1] from by decide +kernel]; simp [putR]
theorem iH_ (p : ByteArray) : beI 1 2 ++ a9_ p = ln_ p := by rw [show beI 1 2 = [2] from by decide +kernel]; simp [ln_]
theorem uS_ {b : Bool} : (if b = true then 0 else 1 : Int) = 0 ↔ b = true := by cases b <;> simp
set_option maxHeartbeats 1000000 in
theorem em_ {p : ByteArray} {o : Obj'} {σ : Store} (hp : p.size ≤ 1000000) (ho : ObjSm o) : ai_ Tryz.prog 36 [vStr p, sObj o] σ fun v σ' => v = .tup [vStr (B (cA_ p o).1), vInt (cA_ p o).2] ∧ σ = σ' := by
 have hlen := jr_ ho
 have htl := aP_ p
 refine en_ Tryz.func36 Tryz.ntmps36 Tryz.results36 ?_
 refine rr_ ?_
 refine bx_ fun o3 ho3 => ?_
 repeat (rw [ac_] at ho3; obtain ⟨_, ho3⟩ := ho3)
 iterate 2 refine s_ ?_
 refine aa_ ?_
 refine ab_ ?_
 refine rr_ ?_
 refine s_ ?_
 refine x_ g_ va_ (eP_ (by omega)) ?_; rintro _ _ ⟨rfl, rfl⟩
 iterate 2 refine s_ ?_
 refine gf_ ?_
 refine bt_ rfl rfl v_ rfl (fun hb => av_ (by rfl) (by rfl) (.inr ⟨by rfl, by rfl, by rfl⟩) g_ cg_ (he_ ho)) ?_
 refine gf_ ?_
 refine s_ ?_
 refine aa_ ?_
 refine cd_ (fun hc1 => ?_) (fun hc1 => ?_)
 ·refine rr_ ?_
  iterate 2 refine s_ ?_
  refine aa_ ?_
  refine af_ ?_
  refine er_ σ ?_
  exact ⟨by rw [cA_, if_neg (by rcases hc1 with h | h; simp [h]; rw [uS_] at h; simp [h])]; rfl, rfl⟩
 ·have hok : aH_ p = true ∧ be_ o = true := ⟨hc1.1, uS_.1 hc1.2⟩
  refine ae_ ?_
  refine rr_ ?_
  refine s_ ?_
  refine x_ g_ va_ (qc_ (k := 1) hp) ?_; rintro _ τ1 ⟨w, hw0, rfl, w1, w2⟩
  refine s_ ?_
  refine aa_ ?_
  skip
  have hw3 : w ≠ o3 := fun hh => by rw [hh, Store.set_get] at hw0; cases hw0
  have f3 : τ1.heap o3 = some (.cells (sObj o).cells) := w2.1 o3 _ (Ne.symm hw3) (by rw [Store.set_ne _ _ (Ne.symm hw3)]; exact Store.set_get ..)
  refine ab_ ?_
  have R := f3
  refine r_ ?_
  iterate 2 refine s_ ?_
  refine x_ g_ va_ (ul_ w1 ho (by simp only [List.length_append, ay_]; omega)) ?_; rintro _ τ2 ⟨rfl, b1, b2⟩
  refine aa_ ?_
  refine rr_ ?_
  refine s_ ?_
  refine x_ g_ va_ (eX_ b1 (by simp only [List.length_append, ay_]; omega)) ?_; rintro _ τ3 ⟨rfl, c2⟩
  iterate 2 refine s_ ?_
  refine aa_ ?_
  refine af_ ?_
  have h1 := WF.sub hw0 (w2.trans (b2.trans c2)) (po_ w)
  exact au_ (σ' := σ) va_ (Store.Sub.wk (Store.Sub.trans (jG_ ho3) h1)) ⟨by rw [cA_, hok.1, hok.2, kz_]; rfl, rfl⟩
theorem oT_ {p : ByteArray} {σ : Store} (hp : p.size ≤ 1000000) : ai_ Tryz.prog 43 [vStr p] σ fun v σ' => v = .tup [vStr (B (eG_ p).1), vInt (eG_ p).2] ∧ σ = σ' := by
 have htl := aP_ p
 refine en_ Tryz.func43 Tryz.ntmps43 Tryz.results43 ?_
 refine rr_ ?_
 iterate 2 refine s_ ?_
 refine aa_ ?_
 refine ab_ ?_
 refine rr_ ?_
 refine s_ ?_
 refine x_ g_ va_ (eP_ (by omega)) ?_; rintro _ _ ⟨rfl, rfl⟩
 refine s_ ?_
 refine aa_ ?_
 refine cd_ (fun hc1 => ?_) (fun hc1 => ?_)
 ·refine rr_ ?_
  iterate 2 refine s_ ?_
  refine aa_ ?_
  refine af_ ?_
  refine er_ σ ?_
  exact ⟨by rw [eG_, if_neg (by simp [hc1])]; rfl, rfl⟩
 ·refine ae_ ?_
  refine rr_ ?_
  refine s_ ?_
  refine x_ g_ va_ (qc_ (k := 2) hp) ?_; rintro _ τ1 ⟨w, hw0, rfl, w1, w2⟩
  refine x_ g_ va_ (eX_ w1 (by simp only [List.length_append, ay_]; omega)) ?_; rintro _ τ3 ⟨rfl, c2⟩
  iterate 2 refine s_ ?_
  refine aa_ ?_
  refine af_ ?_
  have h1 := WF.sub hw0 (w2.trans c2) (po_ w)
  exact au_ (σ' := σ) va_ (Store.Sub.wk h1) ⟨by rw [eG_, if_pos hc1, iH_], rfl⟩
set_option maxHeartbeats 1000000 in
theorem h4_ {p : ByteArray} {o : Obj'} {σ : Store} (hp : p.size ≤ 1000000) (ho : ObjSm o) : ai_ Tryz.prog 41 [vStr p, sObj o] σ fun v σ' => v = .tup [vStr (B (cA_ p o).1), vInt (cA_ p o).2] ∧ σ = σ' := by
 have hlen := jr_ ho
 have htl := aP_ p
 have hb1 : [eA_ 1] = beI 1 1 := by decide +kernel
 have hb2 : (beI 1 1 ++ a9_ p).length = 5 + p.size := by rw [List.length_append, ay_]; omega
 have hb3 : (beI 1 1).length = 1 := by decide +kernel
 refine en_ Tryz.func41 Tryz.ntmps41 Tryz.results41 ?_
 refine rr_ ?_
 refine bx_ fun o3 ho3 => ?_
 repeat (rw [ac_] at ho3; obtain ⟨_, ho3⟩ := ho3)
 iterate 2 refine s_ ?_
 refine aa_ ?_
 refine ab_ ?_
 refine rr_ ?_
 refine s_ ?_
 refine x_ g_ va_ (cO_ (by omega)) ?_; rintro _ _ ⟨rfl, rfl⟩
 iterate 2 refine s_ ?_
 refine gf_ ?_
 refine bt_ rfl rfl v_ rfl (fun hb => av_ (by rfl) (by rfl) (.inr ⟨by rfl, by rfl, by rfl⟩) g_ cg_ (dF_ ho)) ?_
 refine gf_ ?_
 refine s_ ?_
 refine aa_ ?_
 refine cd_ (fun hc1 => ?_) (fun hc1 => ?_)
 ·refine rr_ ?_
  iterate 2 refine s_ ?_
  refine aa_ ?_
  refine af_ ?_
  refine er_ σ ?_
  exact ⟨by rw [cA_, if_neg (by rcases hc1 with h | h <;> simp [h])]; rfl, rfl⟩
 ·refine ae_ ?_
  refine ab_ ?_
  refine ap_ (.op 1 0 (.op 4 0 (.op 0 1 (.op 2 1 (.op 3 0 (.op 5 1 (.op 6 0 (.op 7 0 (.op 8 0 .nil))))))))) Tryz.mixed kr_ ?_
  iterate 2 refine ds_ ?_
  refine dx_ o_ g_ va_ (jw_) ?_; rintro _ _ ⟨rfl, rfl⟩; refine ⟨sub_, ?_⟩
  rw [hb1]
  refine dx_ o_ g_ va_ (gB_ (by omega)) ?_; rintro _ _ ⟨rfl, rfl⟩; refine ⟨sub_, ?_⟩
  refine ds_ ?_
  refine dx_ o_ g_ va_ (sI_ ho) ?_; rintro _ _ ⟨rfl, rfl⟩; refine ⟨sub_, ?_⟩
  iterate 3 refine ds_ ?_
  refine aB_ ?_
  refine af_ ?_
  refine er_ σ ?_
  exact ⟨by rw [cA_, if_pos (by simp [hc1]), kz_], rfl⟩
theorem nR_ {p : ByteArray} {σ : Store} (hp : p.size ≤ 1000000) : ai_ Tryz.prog 44 [vStr p] σ fun v σ' => v = .tup [vStr (B (eG_ p).1), vInt (eG_ p).2] ∧ σ = σ' := by
 have htl := aP_ p
 have hb1 : [eA_ 2] = beI 1 2 := by decide +kernel
 have hb3 : (beI 1 2).length = 1 := by decide +kernel
 refine en_ Tryz.func44 Tryz.ntmps44 Tryz.results44 ?_
 refine rr_ ?_
 iterate 2 refine s_ ?_
 refine aa_ ?_
 refine ab_ ?_
 refine rr_ ?_
 refine s_ ?_
 refine x_ g_ va_ (cO_ (by omega)) ?_; rintro _ _ ⟨rfl, rfl⟩
 refine s_ ?_
 refine aa_ ?_
 refine cd_ (fun hc1 => ?_) (fun hc1 => ?_)
 ·refine rr_ ?_
  iterate 2 refine s_ ?_
  refine aa_ ?_
  refine af_ ?_
  refine er_ σ ?_
  exact ⟨by rw [eG_, if_neg (by simp [hc1])]; rfl, rfl⟩
 ·refine ae_ ?_
  refine rr_ ?_
  refine x_ g_ va_ (jw_) ?_; rintro _ _ ⟨rfl, rfl⟩
  rw [hb1]
  refine s_ ?_
  refine x_ g_ va_ (gB_ (by omega)) ?_; rintro _ _ ⟨rfl, rfl⟩
  iterate 3 refine s_ ?_
  refine aa_ ?_
  refine af_ ?_
  refine er_ σ ?_
  exact ⟨by rw [eG_, if_pos hc1, iH_], rfl⟩
end Go.Proofs.YtcaflcpcbcneiaaGreat
end

section
set_option linter.all false
set_option maxRecDepth 100000
namespace Go.Ab
abbrev sP_ : Sh := .sl false (.int .i64)
abbrev xn_ : Sh := .pair .str (.pair (.int .i64) .unit)
abbrev sQ_ : Sh := .pair .str (.pair (.int .i64) (.pair sP_ .unit))
abbrev v6_ : Sh := .pair xn_ (.pair .str (.pair .bool (.pair (.int .i64) .unit)))
abbrev v4_ : Sh := .sl true sQ_
abbrev rW_ : Sh := .pair v4_ (.pair (.sl true v6_) .unit)
theorem tR_ {c : List AVal} (h : sP_.ok c) : ∃ l : List Int, c = [.sl 1 (l.map vInt) false] := by
 obtain ⟨l, rfl, _, hl⟩ := h
 obtain ⟨zs, rfl⟩ := pi_ hl
 exact ⟨zs, rfl⟩
theorem tT_ {c : List AVal} (h : sQ_.ok c) : ∃ x : Seen, .agg c = az_ x := by
 obtain ⟨_, _, rfl, ⟨s, rfl, _⟩, _, _, rfl, ⟨n, rfl, _⟩, _, _, rfl, h3, rfl⟩ := h
 obtain ⟨l, rfl⟩ := tR_ h3
 exact ⟨⟨s, n, l⟩, rfl⟩
theorem vT_ {c : List AVal} (h : v6_.ok c) : ∃ x : Sib, .agg c = sSib x := by
 obtain ⟨_, _, rfl, ⟨_, _, rfl, ⟨s, rfl, _⟩, _, _, rfl, ⟨n, rfl, _⟩, rfl⟩, _, _, rfl, ⟨v, rfl, _⟩, _, _, rfl, ⟨g, rfl⟩, _, _, rfl, ⟨t, rfl, _⟩, rfl⟩ := h
 exact ⟨⟨s, n, v, g, t⟩, rfl⟩
theorem rB_ {α : Type} (f : α → AVal) {e : Sh} (he : ∀ c, e.ok c → ∃ a, .agg c = f a) {c : List AVal} (h : (Sh.sl true e).ok c) : ∃ zs : List α, c = [.sl e.size (zs.map f) false] := by
 obtain ⟨l, rfl, _, hl⟩ := h
 obtain ⟨zs, rfl⟩ := ph_ f (l := l) fun x hx => by
  obtain ⟨c, hc, e⟩ := hl x hx
  simp only [if_true] at e
  rw [e]; exact he c hc
 exact ⟨zs, rfl⟩
theorem vR_ {c : List AVal} (h : v4_.ok c) : ∃ l : List Seen, c = [.sl 3 (l.map az_) false] := rB_ az_ (fun c hc => tT_ hc) h
theorem sL_ {c : List AVal} (h : rW_.ok c) : ∃ x : Obj', .agg c = sObj x := by
 obtain ⟨_, _, rfl, h1, _, _, rfl, h2, rfl⟩ := h
 obtain ⟨l, rfl⟩ := vR_ h1
 obtain ⟨m, rfl⟩ := rB_ sSib (fun c hc => vT_ hc) h2
 exact ⟨⟨l, m⟩, rfl⟩
theorem sN_ {a : AVal} (h : Sh.okv rW_ true a) : ∃ x : Obj', a = sObj x := by
 obtain ⟨c, hc, e⟩ := h
 obtain ⟨x, hx⟩ := sL_ hc
 simp only [if_true] at e
 exact ⟨x, by rw [e, hx]⟩
theorem v1_ {a : AVal} (h : Sh.okv .str false a) : ∃ s : ByteArray, a = vStr s := by
 obtain ⟨c, ⟨s, rfl, _⟩, e⟩ := h
 simp only [Bool.false_eq_true, if_false, List.cons.injEq, and_true] at e
 exact ⟨s, e.symm⟩
abbrev v5_ : Sh := .pair .str (.pair rW_ .unit)
theorem tS_ {c : List AVal} (h : rW_.ok c) : ∃ x : Obj', c = [.sl 3 (x.ctx.map az_) false, .sl 5 (x.sibs.map sSib) false] := by
 obtain ⟨x, hx⟩ := sL_ h
 exact ⟨x, AVal.agg.inj hx⟩
theorem vS_ {c : List AVal} (h : v5_.ok c) : ∃ x : Itm, .agg c = aD_ x := by
 obtain ⟨_, _, rfl, ⟨s, rfl, _⟩, _, _, rfl, h2, rfl⟩ := h
 obtain ⟨o, rfl⟩ := tS_ h2
 exact ⟨⟨s, o⟩, rfl⟩
end Go.Ab
end

section
set_option linter.all false
set_option maxRecDepth 100000
namespace Go.Proofs.YtcaflcpcbcneiaaGreat
open Go.Ab
abbrev t9_ : Sh := .pair .str (.pair (.int .i64) .unit)
abbrev shBk : Sh := .pair (.sl true v5_) (.pair (.sl true t9_) .unit)
theorem sK_ {c : List AVal} (h : t9_.ok c) : ∃ x : Mnt, .agg c = sMnt x := by
 obtain ⟨_, _, rfl, ⟨s, rfl, _⟩, _, _, rfl, ⟨n, rfl, _⟩, rfl⟩ := h
 exact ⟨⟨s, n⟩, rfl⟩
theorem rO_ {a : AVal} (h : Sh.okv shBk true a) : ∃ x : Bk, a = sBk x := by
 obtain ⟨c, ⟨_, _, rfl, h1, _, _, rfl, h2, rfl⟩, e⟩ := h
 obtain ⟨l, rfl⟩ := rB_ aD_ (fun c hc => vS_ hc) h1
 obtain ⟨m, rfl⟩ := rB_ sMnt (fun c hc => sK_ hc) h2
 simp only [if_true] at e
 exact ⟨⟨l, m⟩, by rw [e]; rfl⟩
theorem sM_ {a : AVal} (h : Sh.okv (.int .i64) false a) : ∃ n : Int, a = vInt n := by
 obtain ⟨c, ⟨n, rfl, hn⟩, e⟩ := h
 simp only [Bool.false_eq_true, if_false, List.cons.injEq, and_true] at e
 exact ⟨n, e.symm⟩
end Go.Proofs.YtcaflcpcbcneiaaGreat
end
