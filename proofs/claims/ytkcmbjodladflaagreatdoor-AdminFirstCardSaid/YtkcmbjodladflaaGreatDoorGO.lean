/-
  Entries joined side by side are entries put one by one: plainly; Entries joined with others: the program; The entries of a cluster at first, plainly; The entries of a cluster at first: the document's way; The entries of a cluster at first, of any members: both sides; AdminFirst: the walk. Own work (an AI agent).
-/
import Derived.Test.YtkcmbjodladflaaGreatDoorGN
import Derived.Test.YtkcmbjodladflaaGreatDoorGK

section
set_option linter.all false
set_option maxRecDepth 100000
namespace Go.Proofs.YtkcmbjodladflaaGreatDoor
open Go.Ab
def jE (x y : Ent) : Ent := if bF_ y x then y else x
def RiE (l : List Ent) : Prop := l.Pairwise fun a b => sLt a.key b.key = true
def mgE : List Ent → List Ent → List Ent
 |[], b => b
 |x :: a, [] => x :: a
 |x :: a, y :: b => if sLt x.key y.key = true then x :: mgE a (y :: b) else if sLt y.key x.key = true then y :: mgE (x :: a) b else jE x y :: mgE a b
termination_by a b => a.length + b.length
theorem jm_ {x y : Ent} {l : List Ent} (h : sLt x.key y.key = true) : putS y (x :: l) = x :: putS y l := by rw [putS, if_pos h]
theorem i9_ {a b : ByteArray} (h : sLt a b = true) : ¬ sLt b a = true := fun k => by
 have := b3_ h k
 rw [bh_] at this; cases this
theorem iP_ {x y : Ent} {l : List Ent} (h : sLt y.key x.key = true) : putS y (x :: l) = y :: x :: l := by
 rw [putS, if_neg (i9_ h), if_neg (fun e => by rw [e, bh_] at h; cases h)]
theorem qE_ {x y : Ent} {l : List Ent} (h : x.key = y.key) : putS y (x :: l) = jE x y :: l := by
 rw [putS, if_neg (by rw [h, bh_]; simp), if_pos h, jE]
theorem fb_ (a : List Ent) (y : Ent) (b : List Ent) : jnS a (y :: b) = jnS (putS y a) b := rfl
theorem ga_ {x : Ent} : ∀ {b a : List Ent}, (∀ y ∈ b, sLt x.key y.key = true) → jnS (x :: a) b = x :: jnS a b
 |[], a, _ => rfl
 |y :: b, a, h => by
  rw [fb_, fb_, jm_ (h y (.head _))]
  exact ga_ fun z hz => h z (.tail _ hz)
theorem rA_ {x y : Ent} (h : x.key = y.key) : (jE x y).key = y.key := by
 unfold jE; split
 ·rfl
 ·exact h
theorem po_ : ∀ {b : List Ent}, RiE b → jnS [] b = b
 |[], _ => rfl
 |y :: b, h => by
  have h' := List.pairwise_cons.1 h
  rw [fb_, show putS y [] = [y] from rfl, ga_ h'.1, po_ h'.2]
theorem oc_ : ∀ (a b : List Ent), RiE a → RiE b → mgE a b = jnS a b
 |[], b, _, hb => by rw [mgE, po_ hb]
 |x :: a, [], _, _ => by rw [mgE]; rfl
 |x :: a, y :: b, ha, hb => by
  have ha' := List.pairwise_cons.1 ha
  have hb' := List.pairwise_cons.1 hb
  rw [mgE]
  split
  ·rename_i h
   rw [oc_ a (y :: b) ha'.2 hb, ga_ fun z hz => by
    rcases List.mem_cons.1 hz with rfl | hz
    ·exact h
    ·exact b3_ h (hb'.1 z hz)]
  ·rename_i h
   split
   ·rename_i h2
    rw [oc_ (x :: a) b ha hb'.2, fb_, iP_ h2, ga_ fun z hz => hb'.1 z hz]
   ·rename_i h2
    have he : x.key = y.key := by
     by_cases e : x.key = y.key
     ·exact e
     ·exact absurd (dB_ (by simpa using h) e) h2
    rw [oc_ a b ha'.2 hb'.2, fb_, qE_ he, ga_ fun z hz => by rw [rA_ he]; exact hb'.1 z hz]
termination_by a b => a.length + b.length
theorem q2_ (a : List Ent) : mgE a [] = a := by cases a <;> rw [mgE]
theorem sX_ {x y : Ent} {a b : List Ent} (h : sLt x.key y.key = true) : mgE (x :: a) (y :: b) = x :: mgE a (y :: b) := by rw [mgE, if_pos h]
theorem sR_ {x y : Ent} {a b : List Ent} (h : sLt y.key x.key = true) : mgE (x :: a) (y :: b) = y :: mgE (x :: a) b := by rw [mgE, if_neg (i9_ h), if_pos h]
theorem s8_ {x y : Ent} {a b : List Ent} (h : x.key = y.key) : mgE (x :: a) (y :: b) = jE x y :: mgE a b := by rw [mgE, if_neg (by rw [h, bh_]; simp), if_neg (by rw [h, bh_]; simp)]
theorem hx_ {b : List Ent} : ∀ {a : List Ent}, aO_ a = true → (∀ x ∈ b, bA_ x = true) → a.length + b.length < 4096 → aO_ (jnS a b) = true := by
 induction b with
 |nil => intro a h _ _; exact h
 |cons y b ih =>
  intro a h hb hl
  rw [List.length_cons] at hl
  have := cY_ y a
  rw [fb_]
  exact ih (kj_ (hb y (.head _)) h (by omega)) (fun x hx => hb x (.tail _ hx)) (by omega)
theorem oa_ {l : List Ent} (h : aO_ l = true) : ∀ x ∈ l, bA_ x = true := by
 unfold aO_ at h
 rw [Bool.and_eq_true] at h
 exact (iG_ h.2).2.2
theorem hb_ {y : Ent} : ∀ {l : List Ent}, (∀ x ∈ l, x.key ≠ y.key) → (putS y l).Perm (y :: l)
 |[], _ => .refl _
 |x :: l, h => by
  by_cases h1 : sLt x.key y.key = true
  ·rw [jm_ h1]
   exact ((hb_ fun z hz => h z (.tail _ hz)).cons x).trans (.swap ..)
  ·rw [iP_ (dB_ (by simpa using h1) (h x (.head _)))]
theorem pk_ {y : Ent} : ∀ {l : List Ent}, RiE l → (∀ x ∈ l, x.key ≠ y.key) → RiE (putS y l)
 |[], _, _ => List.pairwise_singleton _ _
 |x :: l, hr, h => by
  have hr' := List.pairwise_cons.1 hr
  by_cases h1 : sLt x.key y.key = true
  ·rw [jm_ h1]
   have hp := hb_ (y := y) (l := l) fun z hz => h z (.tail _ hz)
   refine List.pairwise_cons.2 ⟨fun z hz => ?_, pk_ hr'.2 fun z hz => h z (.tail _ hz)⟩
   rcases List.mem_cons.1 (hp.mem_iff.1 hz) with rfl | hz
   ·exact h1
   ·exact hr'.1 z hz
  ·have h2 := dB_ (by simpa using h1) (h x (.head _))
   rw [iP_ h2]
   refine List.pairwise_cons.2 ⟨fun z hz => ?_, hr⟩
   rcases List.mem_cons.1 hz with rfl | hz
   ·exact h2
   ·exact b3_ h2 (hr'.1 z hz)
theorem fj_ : ∀ {b a : List Ent}, RiE a → ((a ++ b).map Ent.key).Nodup → RiE (jnS a b) ∧ (jnS a b).Perm (a ++ b)
 |[], a, ha, _ => ⟨ha, by simp [jnS]⟩
 |y :: b, a, ha, hn => by
  have hne : ∀ x ∈ a, x.key ≠ y.key := fun x hx e => by
   rw [List.map_append, List.nodup_append] at hn
   exact hn.2.2 x.key (List.mem_map_of_mem hx) y.key (List.mem_map_of_mem (.head _)) e
  have hp := hb_ hne
  have hp2 : (putS y a ++ b).Perm (a ++ y :: b) := (hp.append_right b).trans (by
   rw [List.cons_append]; exact List.perm_middle.symm)
  obtain ⟨h1, h2⟩ := fj_ (a := putS y a) (b := b) (pk_ ha hne) ((hp2.map Ent.key).nodup_iff.2 hn)
  exact ⟨h1, h2.trans hp2⟩
end Go.Proofs.YtkcmbjodladflaaGreatDoor
end

section
set_option linter.all false
set_option maxRecDepth 100000
namespace Go.Proofs.YtkcmbjodladflaaGreatDoor
open Go.Ab
theorem jx_ {l : List Ent} (h : (0 : Int) < (l.length : Int)) : ∃ x r, l = x :: r := by
 cases l with
 |nil => simp at h
 |cons x r => exact ⟨x, r, rfl⟩
theorem qe_ {a b : ByteArray} (h : cmpS a b = -1) : sLt a b = true := by
 unfold cmpS at h
 split at h
 ·assumption
 ·split at h <;> simp at h
theorem pW_ {a b : ByteArray} (h : cmpS a b = 1) : sLt b a = true := by
 unfold cmpS at h
 split at h
 ·simp at h
 ·split at h
  ·simp at h
  ·rename_i h1 h2; exact dB_ (by simpa using h1) h2
theorem pT_ {a b : ByteArray} (h1 : ¬ cmpS a b = -1) (h2 : ¬ cmpS a b = 1) : a = b := by
 unfold cmpS at h1 h2
 by_cases h : sLt a b = true
 ·rw [if_pos h] at h1; exact absurd rfl h1
 ·by_cases e : a = b
  ·exact e
  ·rw [if_neg h, if_neg e] at h2; exact absurd rfl h2
theorem pr_ {x y : Ent} (h : x.key = y.key) : AVal.agg [vStr x.key, vInt (if bF_ y x then y else x).n, vStr (if bF_ y x then y else x).who, vStr (if bF_ y x then y else x).value] = sEnt (jE x y) := by
 unfold jE
 split
 ·rw [h]
 ·rfl
set_option maxHeartbeats 2000000 in
theorem mE_ {a b : List Ent} {ta tb : Bool} {σ : Store} (ea : ∀ x ∈ a, EntSm x) (eb : ∀ x ∈ b, EntSm x) (la : a.length ≤ 100000) (lb : b.length ≤ 100000) : ap_ Tryz.prog 58 [.sl 4 (a.map sEnt) ta, .sl 4 (b.map sEnt) tb] σ fun v σ' => v = .tup [.sl 4 ((b8_ a b).1.map sEnt) false, vInt (b8_ a b).2] ∧ σ = σ' := by
 refine am_ Tryz.func58 rfl Tryz.ntmps58 (congrArg Array.toList Tryz.results58) (by simp only [List.length_cons, List.length_nil]; decide) ?_; simp only [ah_, al_, Nat.reduceAdd]
 refine ab_ ?_
 refine aa_ kr_ ?_
 iterate 2 (refine aL_S rfl rfl v_ ?_)
 refine ac_ ?_
 refine hR_ ?_
 refine ab_ ?_
 refine ab_ ?_
 refine aa_ kr_ ?_
 (refine aL_S rfl rfl v_ ?_)
 refine aL_X rfl rfl (ag_ rfl rfl (.inr ⟨rfl, rfl, rfl⟩) g_ va_ (ck_ ea (by omega)) ?_); rintro _ _ ⟨rfl, rfl⟩
 iterate 2 (refine aL_S rfl rfl v_ ?_)
 refine aw_ rfl rfl v_ rfl vg_ ?_
 refine bs_ rfl rfl v_ rfl (fun hb => aG_ (by rfl) (by rfl) (.inr ⟨by rfl, by rfl, by rfl⟩) g_ cg_ (ck_ eb (by omega))) ?_
 refine aw_ rfl rfl v_ rfl vg_ ?_
 (refine aL_S rfl rfl v_ ?_)
 refine ac_ ?_
 refine ad_ v_ (fun hc1 => ?_) (fun hc1 => ?_)
 ·replace hc1 := nm_ hc1
  refine ab_ ?_
  refine aa_ kr_ ?_
  iterate 2 (refine aL_S rfl rfl v_ ?_)
  refine ac_ ?_
  refine aj_ ?_
  have hn : b8_ a b = ([], 1) := by
   rw [if01, if01] at hc1
   rw [b8_, if_neg]
   rintro ⟨g1, g2⟩
   rcases hc1 with h | h
   ·exact h g1
   ·exact h g2
  exact aF_ (v := .tup [.sl 4 ((b8_ a b).1.map sEnt) false, vInt (b8_ a b).2]) (v' := .tup [vNil, vInt 1]) va_ (by rw [hn]; exact bm_ 1) sub_ ⟨rfl, rfl⟩
 ·replace hc1 := nm_ hc1
  have hok : aO_ a = true ∧ aO_ b = true := by rw [if01, if01] at hc1; exact hc1
  have hmg := oc_ a b (fL_ hok.1) (fL_ hok.2)
  refine ae_ ?_
  refine ab_ ?_
  refine aa_ kr_ ?_
  refine bp_ 45 4 rfl rfl rfl (by rfl) fun k6 hk6 => ?_
  refine ac_ ?_
  refine ab_ ?_
  refine im_ ?_
  refine ab_ ?_
  refine ak_ ?_
  refine ao_ (ι := Nat × List Ent × List Ent × List Ent × Bool × Bool) (fun ⟨tk, out, a1, b1, ua, ub⟩ => a1.length + b1.length) (fun ⟨tk, out, a1, b1, ua, ub⟩ => σ.tok tk = none ∧ mgE a b = out ++ mgE a1 b1 ∧ out.length + a1.length + b1.length ≤ a.length + b.length) (fun ⟨tk, out, a1, b1, ua, ub⟩ => [(0, .sl 4 (a1.map sEnt) ua), (1, .sl 4 (b1.map sEnt) ub), (6, .own tk 4 (out.map sEnt))]) (fun ⟨tk, out, a1, b1, ua, ub⟩ => (σ.newTok none tk (45, 4))) (k6, [], a, b, ta, tb) ?_ ?_ ?_ ?_
  ·exact ⟨hk6, rfl, by simp⟩
  ·exact cv_
  ·exact Store.Wk.refl _
  rintro ⟨tk, out, a1, b1, ua, ub⟩ ⟨htk, hM, hln⟩
  simp only [ar_, as_]
  refine ab_ ?_
  refine ab_ ?_
  refine aa_ kr_ ?_
  iterate 4 (refine aL_S rfl rfl v_ ?_)
  refine aC_ rfl rfl v_ rfl vg_ ?_
  refine aC_ rfl rfl v_ rfl vg_ ?_
  refine aC_ rfl rfl v_ rfl vg_ ?_
  (refine aL_S rfl rfl v_ ?_)
  refine ac_ ?_
  refine ad_ v_ (fun hc4 => ?_) (fun hc4 => ?_)
  ·replace hc4 := nm_ hc4
   obtain ⟨x, a2, rfl⟩ := jx_ hc4.1
   obtain ⟨y, b2, rfl⟩ := jx_ hc4.2
   have e1 : ((x :: a2).map sEnt)[0]? = some (sEnt x) := rfl
   have e2 : ((y :: b2).map sEnt)[0]? = some (sEnt y) := rfl
   have d1 : (((x :: a2).map sEnt).take (x :: a2).length).drop 1 = a2.map sEnt := by rw [List.take_of_length_le (by simp)]; rfl
   have d2 : (((y :: b2).map sEnt).take (y :: b2).length).drop 1 = b2.map sEnt := by rw [List.take_of_length_le (by simp)]; rfl
   have d3 : ((x :: a2).map sEnt).drop 1 = a2.map sEnt := rfl
   have d4 : ((y :: b2).map sEnt).drop 1 = b2.map sEnt := rfl
   have tA : (a2.map sEnt).take a2.length = a2.map sEnt := List.take_of_length_le (by simp)
   have tB : (b2.map sEnt).take b2.length = b2.map sEnt := List.take_of_length_le (by simp)
   obtain ⟨Sb, bh, b0, b1', b2'⟩ := lE_ (σ.newTok none tk (45, 4))
   simp only [List.length_cons] at hln
   refine ae_ ?_
   refine ak_ ?_
   refine ab_ ?_
   refine ab_ ?_
   have R := And.intro e1 e2
   refine aE_ (.op 0 0 (.op 1 0 (.op 2 0 (.op 3 0 (.op 4 0 (.op 5 0 (.op 6 0 (.op 7 0 (.op 8 2 .nil))))))))) Tryz.mixed kr_ ?_
   iterate 8 (refine dR_S o_ (by rfl) (by rfl) v_ ?_)
   refine dR_T o_ (by rfl) (by rfl) (ag_ (by rfl) (by rfl) (.inr ⟨by rfl, by rfl, by rfl⟩) g_ va_ (dX_) ?_); rintro _ _ ⟨rfl, rfl⟩
   refine aK_ ?_
   refine ak_ ?_
   refine ab_ ?_
   refine aa_ kr_ ?_
   iterate 2 (refine aL_S rfl rfl v_ ?_)
   refine ac_ ?_
   refine ad_ v_ (fun hc6 => ?_) (fun hc6 => ?_)
   ·replace hc6 := nm_ hc6
    refine ab_ ?_
    have R := And.intro e1 (And.intro e2 (And.intro d1 d3))
    refine eI_ (.op 0 0 (.op 1 0 (.op 2 0 (.op 3 0 (.op 6 0 (.op 7 0 (.op 4 1 (.op 5 1 (.op 8 0 (.op 9 0 .nil)))))))))) Tryz.mixed Sb b0 kr_ ?_
    iterate 6 (refine dR_S o_ (by rfl) (by rfl) v_ ?_)
    refine dR_X o_ (by rfl) (by rfl) (aU_ (by rfl) g_ g_ (by rfl) (by rfl) h_ c2_ (by decide) ⟨b0, ?_⟩)
    refine dR_X o_ (by rfl) (by rfl) (cK_ (by rfl) g_ g_ v_ h_ v_ c_ (by simp; omega) fun k39 hk39 => ⟨b1' _ _ _, ?_⟩)
    iterate 2 (refine dR_S o_ (by rfl) (by rfl) v_ ?_)
    refine aK_ ?_
    refine av_ ?_
    refine cO_ (by decide) ?_
    refine af_ ?_
    refine aq_ ?_
    refine aI_ (ι := Nat × List Ent × List Ent × List Ent × Bool × Bool) (i := (tk, out, x :: a2, y :: b2, ua, ub)) (k39, out ++ [x], a2, y :: b2, false, ub) ?_ ?_ ?_ ?_
    ·simp only [List.length_cons]; omega
    ·exact ⟨(aJ_ hk39).2, by rw [hM, sX_ (qe_ hc6)]; simp, by simp only [List.length_cons, List.length_append, List.length_singleton, List.length_nil] at *; omega⟩
    ·have R := And.intro d1 (And.intro d3 tA); exact cv_
    ·exact sub_
   ·replace hc6 := nm_ hc6
    refine ab_ ?_
    refine aa_ kr_ ?_
    iterate 2 (refine aL_S rfl rfl v_ ?_)
    refine ac_ ?_
    refine ad_ v_ (fun hc8 => ?_) (fun hc8 => ?_)
    ·replace hc8 := nm_ hc8
     refine ab_ ?_
     have R := And.intro e1 (And.intro e2 (And.intro d2 d4))
     refine eI_ (.op 0 0 (.op 1 0 (.op 2 0 (.op 3 0 (.op 6 0 (.op 7 0 (.op 4 1 (.op 5 1 (.op 8 0 (.op 9 0 .nil)))))))))) Tryz.mixed Sb b0 kr_ ?_
     iterate 6 (refine dR_S o_ (by rfl) (by rfl) v_ ?_)
     refine dR_X o_ (by rfl) (by rfl) (aU_ (by rfl) g_ g_ (by rfl) (by rfl) h_ c2_ (by decide) ⟨b0, ?_⟩)
     refine dR_X o_ (by rfl) (by rfl) (cK_ (by rfl) g_ g_ v_ h_ v_ c_ (by simp; omega) fun k49 hk49 => ⟨b1' _ _ _, ?_⟩)
     iterate 2 (refine dR_S o_ (by rfl) (by rfl) v_ ?_)
     refine aK_ ?_
     refine av_ ?_
     refine cO_ (by decide) ?_
     refine af_ ?_
     refine aq_ ?_
     refine aI_ (ι := Nat × List Ent × List Ent × List Ent × Bool × Bool) (i := (tk, out, x :: a2, y :: b2, ua, ub)) (k49, out ++ [y], x :: a2, b2, ua, false) ?_ ?_ ?_ ?_
     ·simp only [List.length_cons]; omega
     ·exact ⟨(aJ_ hk49).2, by rw [hM, sR_ (pW_ hc8)]; simp, by simp only [List.length_cons, List.length_append, List.length_singleton, List.length_nil] at *; omega⟩
     ·have R := And.intro d2 (And.intro d4 tB); exact cv_
     ·exact sub_
    ·replace hc8 := nm_ hc8
     have hxy := pT_ hc6 hc8
     have hjE := pr_ hxy
     refine ae_ ?_
     refine ab_ ?_
     have R := And.intro e1 e2
     refine eI_ (.op 0 0 (.op 1 0 (.op 2 0 (.op 3 0 (.op 4 0 (.op 5 0 (.op 6 0 (.op 7 0 (.op 8 0 (.op 9 0 (.op 10 0 (.op 11 0 (.op 12 0 (.op 13 1 (.op 14 0 (.op 15 1 (.op 16 1 (.op 17 0 .nil)))))))))))))))))) Tryz.mixed Sb b0 kr_ ?_
     iterate 13 (refine dR_S o_ (by rfl) (by rfl) v_ ?_)
     refine dR_X o_ (by rfl) (by rfl) (ag_ (by rfl) (by rfl) (.inr ⟨by rfl, by rfl, by rfl⟩) g_ va_ (mq_ (a := x) (b := y)) ?_); rintro _ _ ⟨rfl, rfl⟩; refine ⟨b0, ?_⟩
     (refine dR_S o_ (by rfl) (by rfl) v_ ?_)
     refine dR_X o_ (by rfl) (by rfl) (aU_ (by rfl) g_ g_ (by rfl) (by rfl) h_ c2_ (by decide) ⟨b0, ?_⟩)
     refine dR_X o_ (by rfl) (by rfl) (cK_ (by rfl) g_ g_ v_ h_ v_ c_ (by simp; omega) fun k68 hk68 => ⟨b1' _ _ _, ?_⟩)
     (refine dR_S o_ (by rfl) (by rfl) v_ ?_)
     refine aK_ ?_
     have R := And.intro d1 (And.intro d2 (And.intro d3 d4))
     refine aE_ (.op 0 0 (.op 1 0 (.op 2 0 (.op 3 0 (.op 4 0 (.op 5 0 .nil)))))) Tryz.mixed kr_ ?_
     iterate 6 (refine dR_S o_ (by rfl) (by rfl) v_ ?_)
     refine aK_ ?_
     refine aI_ (ι := Nat × List Ent × List Ent × List Ent × Bool × Bool) (i := (tk, out, x :: a2, y :: b2, ua, ub)) (k68, out ++ [jE x y], a2, b2, false, false) ?_ ?_ ?_ ?_
     ·simp only [List.length_cons]; omega
     ·exact ⟨(aJ_ hk68).2, by rw [hM, s8_ hxy]; simp, by simp only [List.length_cons, List.length_append, List.length_singleton, List.length_nil] at *; omega⟩
     ·have R := And.intro d1 (And.intro d2 (And.intro d3 (And.intro d4 (And.intro tA (And.intro tB hjE))))); exact cv_
     ·exact sub_
  ·replace hc4 := nm_ hc4
   refine av_ ?_
   refine af_ ?_
   refine af_ ?_
   refine aq_ ?_
   refine ab_ ?_
   have hj : out ++ (a1 ++ b1) = jnS a b := by
    rw [← hmg, hM]
    by_cases h : 0 < a1.length
    ·obtain rfl : b1 = [] := List.eq_nil_of_length_eq_zero (by omega)
     rw [q2_, List.append_nil]
    ·obtain rfl : a1 = [] := List.eq_nil_of_length_eq_zero (by omega)
     rw [mgE, List.nil_append]
   have hjl := congrArg List.length hj
   simp only [List.length_append] at hjl
   refine aa_ kr_ ?_
   refine aL_X rfl rfl (eb_ (a := .own tk 4 (out.map sEnt)) (bM_ (by rfl) ⟨rfl, rfl⟩) (.own1 _ _ _) ?_)
   refine aL_X rfl rfl (eb_ (a := .sl 4 (a1.map sEnt) ua) (bM_ (by rfl) ⟨rfl, rfl⟩) (.sl1 _ _ _) ?_)
   refine aL_X rfl rfl (eb_ (a := .sl 4 (b1.map sEnt) ub) (bM_ (by rfl) ⟨rfl, rfl⟩) (.sl1 _ _ _) ?_)
   refine au_ rfl rfl rfl g_ g_ rfl rfl h_ c2_ (by decide) ?_
   refine aL_X rfl rfl (ag_ rfl rfl (.inr ⟨rfl, rfl, rfl⟩) g_ va_ (h4_ (Ls := [out, a1, b1]) (by simp; omega) (by simp)) ?_); rintro _ _ ⟨rfl, rfl⟩
   rw [show ([out, a1, b1] : List (List Ent)).flatten = jnS a b from by rw [← hj]; simp]
   (refine aL_S rfl rfl v_ ?_)
   refine ac_ ?_
   refine ab_ ?_
   refine ab_ ?_
   refine aa_ kr_ ?_
   iterate 3 (refine aL_S rfl rfl v_ ?_)
   refine ac_ ?_
   refine ad_ v_ (fun hc13 => ?_) (fun hc13 => ?_)
   ·replace hc13 := nm_ hc13
    refine ab_ ?_
    refine aa_ kr_ ?_
    iterate 2 (refine aL_S rfl rfl v_ ?_)
    refine ac_ ?_
    refine aj_ ?_
    have hn : b8_ a b = ([], 4) := by rw [b8_, if_pos hok, if_pos (by omega)]
    exact aF_ (v := .tup [.sl 4 ((b8_ a b).1.map sEnt) false, vInt (b8_ a b).2]) (v' := .tup [vNil, vInt 4]) va_ (by rw [hn]; exact bm_ 4) sub_ ⟨rfl, rfl⟩
   ·replace hc13 := nm_ hc13
    refine ae_ ?_
    refine ab_ ?_
    refine aa_ kr_ ?_
    iterate 3 (refine aL_S rfl rfl v_ ?_)
    refine ac_ ?_
    refine aj_ ?_
    refine ai_ (σ' := σ) v_ sub_ ?_
    exact ⟨by rw [b8_, if_pos hok, if_neg (by omega)], rfl⟩
end Go.Proofs.YtkcmbjodladflaaGreatDoor
end

section
set_option linter.all false
set_option maxRecDepth 100000
namespace Go.Proofs.YtkcmbjodladflaaGreatDoor
open Go.Ab
def mbOk (m : Mbr) : Bool := aN_ m.name && aN_ m.rack && aN_ m.zone
def frB : List ByteArray → List Mbr → Bool
 |_, [] => true
 |pv, m :: l => mbOk m && !hasT pv m.name && frB (pv ++ [m.name]) l
def bo_ (ms : List Mbr) : List Ent := ms.map cn_
def dL_ (ms : List Mbr) : List Ent := a8_ 0 (a2_ ow0 (ms.map Mbr.name))
def L0 (ms : List Mbr) : List Ent := jnS [] (bo_ ms ++ dL_ ms)
def cs_ (ms : List Mbr) (more : List Ent) : List Ent × Int := if 1 ≤ ms.length ∧ ms.length ≤ 8 ∧ frB [] ms = true then b8_ (L0 ms) more else ([], 1)
theorem g5_ {m : Mbr} : mbOk m = true ↔ MbOk m := by
 unfold mbOk
 simp only [Bool.and_eq_true]
 exact ⟨fun h => ⟨h.1.1, h.1.2, h.2⟩, fun h => ⟨⟨h.name, h.rack⟩, h.zone⟩⟩
theorem fH_ {l : List ByteArray} {s : ByteArray} : hasT l s = true ↔ s ∈ l := by
 rw [hasT, List.any_eq_true]
 constructor
 ·rintro ⟨x, hx, h⟩; rw [← of_decide_eq_true h]; exact hx
 ·intro h; exact ⟨s, h, decide_eq_true rfl⟩
theorem oj_ {pv : List ByteArray} {m : Mbr} {l : List Mbr} : frB pv (m :: l) = true ↔ MbOk m ∧ m.name ∉ pv ∧ frB (pv ++ [m.name]) l = true := by
 rw [frB, Bool.and_eq_true, Bool.and_eq_true, g5_, Bool.not_eq_true', and_assoc, ← fH_, Bool.not_eq_true]
theorem m0_ : ∀ {l : List Mbr} {pv : List ByteArray}, frB pv l = true → (∀ m ∈ l, MbOk m) ∧ (l.map Mbr.name).Nodup ∧ ∀ m ∈ l, m.name ∉ pv
 |[], pv, _ => ⟨fun m hm => (by cases hm), by simp, fun m hm => (by cases hm)⟩
 |m :: l, pv, h => by
  obtain ⟨h1, h2, h3⟩ := oj_.1 h
  obtain ⟨g1, g2, g3⟩ := m0_ h3
  refine ⟨fun x hx => ?_, ?_, fun x hx => ?_⟩
  ·rcases List.mem_cons.1 hx with rfl | hx
   ·exact h1
   ·exact g1 x hx
  ·rw [List.map_cons, List.nodup_cons]
   refine ⟨fun hin => ?_, g2⟩
   obtain ⟨x, hx, e⟩ := List.mem_map.1 hin
   exact g3 x hx (by rw [e]; simp)
  ·rcases List.mem_cons.1 hx with rfl | hx
   ·exact h2
   ·exact fun hp => g3 x hx (by simp [hp])
theorem j4_ {ms : List Mbr} {k : Nat} {m : Mbr} (hm : ms[k]? = some m) : frB ((ms.take k).map Mbr.name) (ms.drop k) = (mbOk m && !hasT ((ms.take k).map Mbr.name) m.name && frB ((ms.take (k + 1)).map Mbr.name) (ms.drop (k + 1))) := by
 have hk := (List.getElem?_eq_some_iff.1 hm).1
 have he := (List.getElem?_eq_some_iff.1 hm).2
 rw [List.drop_eq_getElem_cons hk, he, frB, aM_ hm, List.map_append]; rfl
theorem g4_ (a : ByteArray) : Lb (keyN a) = Lb bt_ ++ 47 :: Lb a := by
 unfold keyN cM_
 rw [Lb_B]; simp [eH_]
theorem j6_ {a b : ByteArray} (h : keyN a = keyN b) : a = b := by
 have := congrArg Lb h
 rw [g4_, g4_] at this
 have := List.append_cancel_left this
 exact dY_ (List.cons.inj this).2
theorem mT_ {a : ByteArray} {k : Nat} : keyN a ≠ aY_ k := fun h => by
 have := congrArg Lb h
 rw [g4_] at this
 unfold aY_ cM_ at this
 rw [Lb_B, show Lb bt_ = [110, 111, 100, 101] from rfl] at this
 simp [eH_, show Lb f6_ = [114, 105, 110, 103] from rfl] at this
theorem fG_ : ∀ {l : List ByteArray} {j : Nat} {x : Ent}, x ∈ a8_ j l → ∃ i, j ≤ i ∧ i < j + l.length ∧ x.key = aY_ i ∧ x.n = 1 ∧ x.who = ⟨#[]⟩ ∧ aN_ x.value = true
 |[], j, x, h => by simp [a8_] at h
 |s :: l, j, x, h => by
  have key : x ∈ a8_ (j + 1) l → ∃ i, j ≤ i ∧ i < j + (s :: l).length ∧ x.key = aY_ i ∧ x.n = 1 ∧ x.who = ⟨#[]⟩ ∧ aN_ x.value = true := fun h => by
   obtain ⟨i, h1, h2, h3⟩ := fG_ h
   exact ⟨i, by omega, by rw [List.length_cons]; omega, h3⟩
  unfold a8_ at h
  split at h
  ·rename_i hs
   rcases List.mem_cons.1 h with rfl | h
   ·exact ⟨j, Nat.le_refl _, by rw [List.length_cons]; omega, rfl, rfl, rfl, hs⟩
   ·exact key h
  ·exact key h
theorem mS_ {i j : Nat} (hi : i < 16) (hj : j < 16) (h : i ≠ j) : aY_ i ≠ aY_ j := fun e => by
 rw [cD_ (by omega), cD_ (by omega)] at e
 exact h (g6_ i hi j hj e)
theorem dW_ : ∀ {l : List ByteArray} {j : Nat}, j + l.length ≤ 16 → ((a8_ j l).map Ent.key).Nodup
 |[], j, _ => by simp [a8_]
 |s :: l, j, h => by
  rw [List.length_cons] at h
  have ih := dW_ (l := l) (j := j + 1) (by omega)
  unfold a8_
  split
  ·rw [List.map_cons, List.nodup_cons]
   refine ⟨fun hin => ?_, ih⟩
   obtain ⟨x, hx, e⟩ := List.mem_map.1 hin
   obtain ⟨i, h1, h2, h3, _⟩ := fG_ hx
   exact mS_ (i := i) (j := j) (by omega) (by omega) (by omega) (by rw [← h3]; exact e)
  ·exact ih
structure FstOk (ms : List Mbr) : Prop where
 ok : ∀ m ∈ ms, MbOk m
 apart : (ms.map Mbr.name).Nodup
 h1 : 1 ≤ ms.length
 h8 : ms.length ≤ 8
theorem FstOk.of {ms : List Mbr} (h1 : 1 ≤ ms.length) (h8 : ms.length ≤ 8) (h : frB [] ms = true) : FstOk ms := ⟨(m0_ h).1, (m0_ h).2.1, h1, h8⟩
theorem fW_ {l : List Mbr} (h : (l.map Mbr.name).Nodup) : ((bo_ l).map Ent.key).Nodup := by
 unfold bo_
 rw [List.map_map]
 unfold List.Nodup at h ⊢
 rw [List.pairwise_map] at h ⊢
 exact h.imp fun {a b} hab e => hab (j6_ e)
theorem dj_ (ms : List Mbr) : (dL_ ms).length ≤ 16 := by
 have := cI_ 0 (a2_ ow0 (ms.map Mbr.name))
 rw [aZ_] at this; exact this
theorem FstOk.keys {ms : List Mbr} (h : FstOk ms) : ((bo_ ms ++ dL_ ms).map Ent.key).Nodup := by
 rw [List.map_append, List.nodup_append]
 refine ⟨fW_ h.apart, dW_ (by rw [aZ_]; decide), fun a ha b hb e => ?_⟩
 obtain ⟨x, hx, rfl⟩ := List.mem_map.1 ha
 obtain ⟨y, hy, rfl⟩ := List.mem_map.1 hb
 obtain ⟨m, _, rfl⟩ := List.mem_map.1 hx
 obtain ⟨i, _, _, hk, _⟩ := fG_ hy
 exact mT_ (a := m.name) (k := i) (by rw [← hk]; exact e)
theorem FstOk.L0 {ms : List Mbr} (h : FstOk ms) : RiE (L0 ms) ∧ (Go.Proofs.YtkcmbjodladflaaGreatDoor.L0 ms).Perm (bo_ ms ++ dL_ ms) := by
 have := fj_ (a := []) (b := bo_ ms ++ dL_ ms) .nil (by simpa using h.keys)
 rw [List.nil_append] at this
 exact this
theorem m4_ {m : Mbr} (h : MbOk m) : (valM m).2 = 0 ∧ (valM m).1.size ≤ 64 := by
 have h2 := (bz_ h.rack).2
 have h3 := (bz_ h.zone).2
 rw [valM, if_pos ⟨h.rack, h.zone⟩]
 have : (if m.up = true then bsUp else d0_).size ≤ 4 := by split <;> decide
 refine ⟨rfl, ?_⟩
 simp only [cM_, eH_, cr_, List.flatMap_cons, List.flatMap_nil, List.append_nil, List.length_append, List.length_cons, aH_]; omega
theorem hm_ {m : Mbr} (h : MbOk m) : bA_ (cn_ m) = true := by
 have h1 := bz_ h.name
 have h2 := (m4_ h).2
 have hk : (keyN m.name).size = m.name.size + 5 := by
  have := congrArg List.length (g4_ m.name)
  simp only [aH_, List.length_append, List.length_cons, show (Lb bt_).length = 4 from rfl] at this
  omega
 unfold bA_ cy_ cn_
 simp only [Bool.and_eq_true, Bool.or_eq_true, decide_eq_true_eq]
 exact ⟨⟨by omega, by omega⟩, ⟨⟨by decide, by decide⟩, .inl rfl⟩, by omega⟩
theorem hs_ {l : List ByteArray} {x : Ent} (hl : l.length ≤ 16) (h : x ∈ a8_ 0 l) : bA_ x = true := by
 obtain ⟨i, _, h2, h3, h4, h5, h6⟩ := fG_ h
 have hs := ih_ i (by omega)
 have hv := (bz_ h6).2
 rw [← cD_ (by omega), ← h3] at hs
 unfold bA_ cy_
 simp only [Bool.and_eq_true, Bool.or_eq_true, decide_eq_true_eq]
 exact ⟨⟨by omega, by omega⟩, ⟨⟨by omega, by omega⟩, .inl (by rw [h5]; rfl)⟩, by omega⟩
theorem FstOk.ents {ms : List Mbr} (h : FstOk ms) : aO_ (Go.Proofs.YtkcmbjodladflaaGreatDoor.L0 ms) = true := by
 have h8 := h.h8
 have hr := dj_ ms
 refine hx_ fu_ (fun x hx => ?_) (by simp only [List.length_append, List.length_nil, bo_, List.length_map]; omega)
 rcases List.mem_append.1 hx with hx | hx
 ·obtain ⟨m, hm, rfl⟩ := List.mem_map.1 hx
  exact hm_ (h.ok m hm)
 ·exact hs_ (by rw [aZ_]; decide) hx
theorem FstOk.len {ms : List Mbr} (h : FstOk ms) : (Go.Proofs.YtkcmbjodladflaaGreatDoor.L0 ms).length ≤ 24 := by
 have h1 := h.L0.2.length_eq
 have hr := dj_ ms
 have h8 := h.h8
 simp only [List.length_append, bo_, List.length_map] at h1
 omega
theorem FstOk.names {ms : List Mbr} (h : FstOk ms) : ∀ s ∈ a2_ ow0 (ms.map Mbr.name), aN_ s = true := fun s hs => by
 have h0 : 0 < (ms.map Mbr.name).length := by rw [List.length_map]; exact h.h1
 have := mj_ h0 s hs
 rw [l3_ h.apart] at this
 obtain ⟨m, hm, rfl⟩ := List.mem_map.1 this
 exact (h.ok m hm).name
theorem jV_ : ∀ {l : List ByteArray} {j : Nat}, (∀ s ∈ l, aN_ s = true) → (a8_ j l).length = l.length
 |[], j, _ => rfl
 |s :: l, j, h => by
  unfold a8_
  rw [if_pos (h s (.head _)), List.length_cons, List.length_cons, jV_ fun s hs => h s (.tail _ hs)]
theorem FstOk.ne {ms : List Mbr} (h : FstOk ms) : 0 < (a8_ 0 (a2_ ow0 (ms.map Mbr.name))).length := by
 rw [jV_ h.names, aZ_]; decide
theorem FstOk.sz {ms : List Mbr} (h : FstOk ms) : ∀ s ∈ a2_ ow0 (ms.map Mbr.name), s.size ≤ 1000 := fun s hs => by
 have := (bz_ (h.names s hs)).2
 omega
theorem FstOk.uniq {ms : List Mbr} {L : List Ent} (h : FstOk ms) (hp : L.Perm (bo_ ms ++ dL_ ms)) (hs : SrtE L) : L = Go.Proofs.YtkcmbjodladflaaGreatDoor.L0 ms := jD_ hp hs h.L0.2 h.L0.1
theorem FstOk.two {ms : List Mbr} (h : FstOk ms) : jnS (jnS [] (bo_ ms)) (jnS [] (dL_ ms)) = Go.Proofs.YtkcmbjodladflaaGreatDoor.L0 ms := by
 have ha := fj_ (a := []) (b := bo_ ms) .nil (by simpa using fW_ h.apart)
 have hb := fj_ (a := []) (b := dL_ ms) .nil (by rw [List.nil_append]; exact dW_ (l := a2_ ow0 (ms.map Mbr.name)) (j := 0) (by rw [aZ_]; decide))
 simp only [List.nil_append] at ha hb
 have hpp := ha.2.append hb.2
 have hc := fj_ (a := jnS [] (bo_ ms)) (b := jnS [] (dL_ ms)) ha.1 ((hpp.map Ent.key).nodup_iff.2 h.keys)
 refine h.uniq (hc.2.trans hpp) (hc.1.imp fun {a b} hab => ?_)
 have := i9_ hab
 simpa using this
end Go.Proofs.YtkcmbjodladflaaGreatDoor
end

section
set_option linter.all false
set_option maxRecDepth 100000
namespace Go.Proofs.YtkcmbjodladflaaGreatDoor
open Go.Ab
theorem o2_ (b : List Ent) (x : Ent) : jnS [] (b ++ [x]) = putS x (jnS [] b) := by
 unfold jnS; rw [List.foldl_append]; rfl
theorem nS_ {ow : List ByteArray} {i : Nat} (hl : ow.length ≤ 16) (hi : i < ow.length) : ∀ x ∈ jnS [] (a8_ 0 (ow.take i)), x.key ≠ aY_ i := fun x hx => by
 have ht : (ow.take i).length ≤ i := by rw [List.length_take]; exact Nat.min_le_left ..
 have hp := (fj_ (a := []) (b := a8_ 0 (ow.take i)) .nil (by rw [List.nil_append]; exact dW_ (by omega))).2
 rw [List.nil_append] at hp
 obtain ⟨j, _, h2, h3, _⟩ := fG_ (hp.mem_iff.1 hx)
 rw [h3]
 exact mS_ (by omega) (by omega) (by omega)
theorem hr_ (b : List Ent) : (jnS [] b).length ≤ b.length := by
 have := jy_ b []
 simpa using this
set_option maxHeartbeats 4000000 in
theorem ia_ {ow : List ByteArray} {t : Bool} {σ : Store} (hl : ow.length ≤ 16) (hz : ∀ s ∈ ow, s.size ≤ 100000) : ap_ Tryz.prog 61 [.sl 1 (ow.map vStr) t] σ fun v σ' => v = .sl 4 ((jnS [] (a8_ 0 ow)).map sEnt) false ∧ σ = σ' := by
 have hol := fun i => hr_ (a8_ 0 (ow.take i))
 have hel := fun i => cI_ 0 (ow.take i)
 have htl := fun i => List.length_take_le i ow
 refine am_ Tryz.func61 rfl Tryz.ntmps61 (congrArg Array.toList Tryz.results61) (by simp only [List.length_cons, List.length_nil]; decide) ?_; simp only [ah_, al_, Nat.reduceAdd]
 refine ab_ ?_
 refine aa_ kr_ ?_
 (refine aL_S rfl rfl v_ ?_)
 refine ac_ ?_
 refine ab_ ?_
 refine ab_ ?_
 refine aa_ kr_ ?_
 iterate 3 (refine aL_S rfl rfl v_ ?_)
 refine ac_ ?_
 refine ad_ v_ (fun hc1 => ?_) (fun hc1 => ?_)
 ·replace hc1 := nm_ hc1
  omega
 ·replace hc1 := nm_ hc1
  refine ae_ ?_
  refine ab_ ?_
  refine aa_ kr_ ?_
  refine aL_X rfl rfl (eb_ (a := vNil) (bM_ (by rfl) ⟨rfl, rfl⟩) (.nil 4 false) ?_)
  refine ac_ ?_
  refine ab_ ?_
  refine ab_ ?_
  refine aa_ kr_ ?_
  (refine aL_S rfl rfl v_ ?_)
  refine ac_ ?_
  refine ak_ ?_
  refine ao_ (ι := Bool × Nat) (fun ⟨u, i⟩ => ow.length - i) (fun ⟨u, i⟩ => i ≤ ow.length) (fun ⟨u, i⟩ => [(0, .sl 1 (ow.map vStr) t), (3, .sl 4 ((jnS [] (a8_ 0 (ow.take i))).map sEnt) u), (4, vInt i)]) (fun ⟨u, i⟩ => σ) (false, 0) ?_ ?_ ?_ ?_
  ·exact Nat.zero_le _
  ·exact cv_
  ·exact Store.Wk.refl _
  rintro ⟨u, i⟩ hi
  simp only [ar_, as_]
  refine ab_ ?_
  refine ab_ ?_
  refine aa_ kr_ ?_
  iterate 4 (refine aL_S rfl rfl v_ ?_)
  refine ac_ ?_
  refine ad_ v_ (fun hc5 => ?_) (fun hc5 => ?_)
  ·replace hc5 := nm_ hc5
   refine ae_ ?_
   refine ab_ ?_
   refine ak_ ?_
   refine ab_ ?_
   refine ab_ ?_
   obtain ⟨s, hs⟩ := aA_ (l := ow) (k := i) (by omega)
   have hst := g9_ (j := 0) hs
   rw [Nat.zero_add] at hst
   have h1 := hol i
   have h2 := hel i
   have h3 := htl i
   have hzs := hz s (List.mem_of_getElem? hs)
   have hnew := nS_ hl (show i < ow.length by omega)
   have hrz := kg_ (k := i) (by omega)
   have R := hs
   refine aa_ kr_ ?_
   iterate 4 (refine aL_S rfl rfl v_ ?_)
   refine aL_X rfl rfl (ag_ rfl rfl (.inr ⟨rfl, rfl, rfl⟩) g_ va_ (du_ (by omega)) ?_); rintro _ _ ⟨rfl, rfl⟩
   (refine aL_S rfl rfl v_ ?_)
   refine ac_ ?_
   refine ad_ v_ (fun hc7 => ?_) (fun hc7 => ?_)
   ·replace hc7 := nm_ hc7
    have hcov : (jnS [] (a8_ 0 (ow.take (i + 1)))).map sEnt = (jnS [] (a8_ 0 (ow.take i))).map sEnt := by rw [hst, if_neg (by simp [hc7]), List.append_nil]
    refine av_ ?_
    refine af_ ?_
    refine aq_ ?_
    refine aa_ kr_ ?_
    iterate 3 (refine aL_S rfl rfl v_ ?_)
    refine ac_ ?_
    refine aI_ (ι := Bool × Nat) (i := ⟨u, i⟩) (u, i + 1) ?_ ?_ ?_ ?_
    ·show ow.length - (i + 1) < ow.length - i; omega
    ·(show i + 1 ≤ ow.length; omega)
    ·have R := hcov; exact cv_
    ·exact sub_
   ·replace hc7 := nm_ hc7
    obtain ⟨x, hx⟩ : ∃ x : Ent, x = ⟨aY_ i, 1, ⟨#[]⟩, s⟩ := ⟨_, rfl⟩
    have hxk : x.key = aY_ i := by rw [hx]
    have hnn : jnS [] (a8_ 0 (ow.take (i + 1))) = putS x (jnS [] (a8_ 0 (ow.take i))) := by rw [hst, if_pos (by simpa using hc7), o2_, hx]
    generalize hO : jnS [] (a8_ 0 (ow.take i)) = O at hnn hnew h1
    refine ae_ ?_
    refine ab_ ?_
    refine aa_ kr_ ?_
    (refine aL_S rfl rfl v_ ?_)
    refine ac_ ?_
    refine ab_ ?_
    refine ak_ ?_
    refine ao_ (ι := Nat) (fun k => O.length - k) (fun k => k ≤ O.length ∧ ∀ (j : Nat) z, j < k → O[j]? = some z → sLt z.key x.key = true) (fun k => [(0, .sl 1 (ow.map vStr) t), (3, .sl 4 (O.map sEnt) u), (4, vInt i), (5, vInt k)]) (fun k => σ) 0 ?_ ?_ ?_ ?_
    ·exact ⟨Nat.zero_le _, fun j z h => by omega⟩
    ·have R := hO; exact cv_
    ·exact sub_
    rintro k ⟨hk, hal⟩
    simp only [ar_, as_]
    refine ab_ ?_
    refine ab_ ?_
    obtain ⟨y, hy⟩ := oZ_ O k
    have R := hy
    refine aE_ (.op 0 0 (.op 1 0 (.op 2 0 (.op 3 0 (.op 4 0 (.op 5 0 (.op 6 0 (.op 7 0 (.op 8 0 (.op 9 0 (.op 10 0 (.op 11 1 (.op 12 0 (.op 13 0 .nil)))))))))))))) Tryz.mixed kr_ ?_
    iterate 5 (refine dR_S o_ (by rfl) (by rfl) v_ ?_)
    refine a3_ o_ (by rfl) (by rfl) v_ (by rfl) vg_ ?_
    refine a3_ o_ (by rfl) (by rfl) v_ (by rfl) vg_ ?_
    refine a3_ o_ (by rfl) (by rfl) v_ (by rfl) vg_ ?_
    refine a3_ o_ (by rfl) (by rfl) v_ (by rfl) vg_ ?_
    refine a3_ o_ (by rfl) (by rfl) v_ (by rfl) vg_ ?_
    refine a3_ o_ (by rfl) (by rfl) v_ (by rfl) vg_ ?_
    refine o4_ o_ (by rfl) (by rfl) v_ (by rfl) sub_ (fun hb => aG_ (by rfl) (by rfl) (.inr ⟨by rfl, by rfl, by rfl⟩) g_ cg_ (eu_ (k := i) (by omega))) ?_
    refine a3_ o_ (by rfl) (by rfl) v_ (by rfl) vg_ ?_
    (refine dR_S o_ (by rfl) (by rfl) v_ ?_)
    refine aK_ ?_
    refine ad_ v_ (fun hc9 => ?_) (fun hc9 => ?_)
    ·replace hc9 := nm_ hc9
     refine ae_ ?_
     refine ak_ ?_
     refine aa_ kr_ ?_
     iterate 3 (refine aL_S rfl rfl v_ ?_)
     refine ac_ ?_
     refine aI_ (ι := Nat) (i := k) (k + 1) ?_ ?_ ?_ ?_
     ·omega
     ·exact ⟨by omega, fun j z hj hz => by rcases Nat.lt_or_eq_of_le (Nat.le_of_lt_succ hj) with h | h; exact hal j z h hz; rw [h, hy (by omega)] at hz; obtain rfl := Option.some.inj hz; rw [hxk]; exact hc9.2⟩
     ·exact cv_
     ·exact sub_
    ·replace hc9 := nm_ hc9
     refine av_ ?_
     refine af_ ?_
     refine af_ ?_
     refine aq_ ?_
     refine ab_ ?_
     skip
     have hput : putS x O = O.take k ++ x :: O.drop k := by
      have hat := iI_ (y := x) hal (fun z hz => by
       have h1 := (List.getElem?_eq_some_iff.1 hz).1
       rw [hy h1] at hz; obtain rfl := Option.some.inj hz
       rw [hxk]
       rcases hc9 with h | h
       ·omega
       ·simpa using h) hk
      rw [hat]
      cases hg : O[k]? with
      |none => rfl
      |some z =>
       simp only
       rw [if_neg (by rw [hxk]; exact hnew z (List.mem_of_getElem? hg))]
     have hrow : (O.take k).map sEnt ++ [sEnt x] ++ (O.drop k).map sEnt = (putS x O).map sEnt := by rw [hput]; simp
     have hcov : (jnS [] (a8_ 0 (ow.take (i + 1)))).map sEnt = (O.take k).map sEnt ++ [sEnt ⟨aY_ i, 1, ⟨#[]⟩, s⟩] ++ (O.drop k).map sEnt := by rw [hnn, ← hrow, hx]
     have m1 : (O.map sEnt).take k = (O.take k).map sEnt := List.map_take.symm
     have m2 : ((O.map sEnt).take O.length).drop k = (O.drop k).map sEnt := by rw [List.take_of_length_le (by simp), List.map_drop]
     have m3 : (O.map sEnt).drop k = (O.drop k).map sEnt := List.map_drop.symm
     refine aa_ kr_ ?_
     refine bp_ 45 4 rfl rfl rfl (by rfl) fun k6 hk6 => ?_
     refine ac_ ?_
     refine ab_ ?_
     have R := m1
     refine aa_ kr_ ?_
     iterate 4 (refine aL_S rfl rfl v_ ?_)
     refine aP_ rfl rfl rfl g_ g_ v_ h_ v_ (gu_ _) (by simp; omega) fun k42 hk42 => ?_
     have t42 := (aJ_ hk42).2
     (refine aL_S rfl rfl v_ ?_)
     refine ac_ ?_
     skip
     obtain ⟨Sb, bh, b0, b1', b2'⟩ := lE_ ((σ.newTok none k6 (45, 4)).newTok (some k6) k42 (45, 4))
     refine ab_ ?_
     have R := hs
     refine eI_ (.op 0 0 (.op 1 0 (.op 3 0 (.op 4 0 (.op 5 0 (.op 6 0 (.op 7 0 (.op 2 1 (.op 8 0 (.op 9 1 (.op 10 1 (.op 11 0 .nil)))))))))))) Tryz.mixed Sb b0 kr_ ?_
     iterate 7 (refine dR_S o_ (by rfl) (by rfl) v_ ?_)
     refine dR_X o_ (by rfl) (by rfl) (ag_ (by rfl) (by rfl) (.inr ⟨by rfl, by rfl, by rfl⟩) g_ va_ (eu_ (k := i) (by omega)) ?_); rintro _ _ ⟨rfl, rfl⟩; refine ⟨b0, ?_⟩
     (refine dR_S o_ (by rfl) (by rfl) v_ ?_)
     refine dR_X o_ (by rfl) (by rfl) (aU_ (by rfl) g_ g_ (by rfl) (by rfl) h_ c2_ (by decide) ⟨b0, ?_⟩)
     refine dR_X o_ (by rfl) (by rfl) (cK_ (by rfl) g_ g_ v_ h_ v_ c_ (by simp; omega) fun k53 hk53 => ⟨b1' _ _ _, ?_⟩)
     (refine dR_S o_ (by rfl) (by rfl) v_ ?_)
     refine aK_ ?_
     rw [Store.newTok_step (by exact hk6)] at hk53
     have t53 := (aJ_ hk53).2
     refine ab_ ?_
     have R := And.intro m2 m3
     refine aa_ kr_ ?_
     iterate 4 (refine aL_S rfl rfl v_ ?_)
     refine aP_ rfl rfl rfl g_ g_ v_ h_ v_ (gu_ _) (by simp; omega) fun k58 hk58 => ?_
     rw [Store.newTok_step (by exact hk6), Store.newTok_step (by exact t42)] at hk58
     have t58 := (aJ_ hk58).2
     (refine aL_S rfl rfl v_ ?_)
     refine ac_ ?_
     refine aa_ kr_ ?_
     refine aL_X rfl rfl (eb_ (a := .own k58 4 ((O.take k).map sEnt ++ [sEnt ⟨aY_ i, 1, ⟨#[]⟩, s⟩] ++ (O.drop k).map sEnt)) (bM_ (by first | exact va_ | exact vb_) ⟨rfl, rfl⟩) (.own1 _ _ _) ?_)
     (refine aL_S rfl rfl v_ ?_)
     refine ac_ ?_
     refine aa_ kr_ ?_
     iterate 3 (refine aL_S rfl rfl v_ ?_)
     refine ac_ ?_
     refine aI_ (ι := Bool × Nat) (i := ⟨u, i⟩) (false, i + 1) ?_ ?_ ?_ ?_
     ·show ow.length - (i + 1) < ow.length - i; omega
     ·(show i + 1 ≤ ow.length; omega)
     ·have R := hcov; exact cv_
     ·exact sub_
  ·replace hc5 := nm_ hc5
   refine av_ ?_
   refine af_ ?_
   refine af_ ?_
   refine aq_ ?_
   refine ab_ ?_
   obtain rfl : i = ow.length := by omega
   rw [List.take_length]
   refine aa_ kr_ ?_
   iterate 2 (refine aL_S rfl rfl v_ ?_)
   refine ac_ ?_
   refine aj_ ?_
   exact aF_ (v := .sl 4 ((jnS [] (a8_ 0 ow)).map sEnt) false) (v' := .sl 4 ((jnS [] (a8_ 0 ow)).map sEnt) u) va_ (.sl1 _ _ _) sub_ ⟨rfl, rfl⟩
end Go.Proofs.YtkcmbjodladflaaGreatDoor
end

section
set_option linter.all false
set_option maxRecDepth 100000
namespace Go.Proofs.YtkcmbjodladflaaGreatDoor
open Go.Ab
theorem qR_ {L : List Ent} {x : Ent} (h : (L.map Ent.key).Nodup) (hx : x ∈ L) : getS L x.key = x := by
 unfold getS
 induction L with
 |nil => cases hx
 |cons y L ih =>
  rw [List.map_cons, List.nodup_cons] at h
  rw [List.find?_cons]
  by_cases e : y.key = x.key
  ·rw [decide_eq_true e]
   rcases List.mem_cons.1 hx with rfl | hx
   ·rfl
   ·exact absurd (by rw [e]; exact List.mem_map_of_mem hx) h.1
  ·rw [decide_eq_false e]
   rcases List.mem_cons.1 hx with rfl | hx
   ·exact absurd rfl e
   ·exact ih h.2 hx
theorem oi_ {L : List Ent} {k : ByteArray} (h : ∀ x ∈ L, x.key ≠ k) : getS L k = em_ := by
 unfold getS
 rw [List.find?_eq_none.2 fun x hx => by simpa using h x hx]; rfl
structure FrPre (ms : List Mbr) (k : Nat) : Prop where
 ok : ∀ m ∈ ms.take k, MbOk m
 apart : ((ms.take k).map Mbr.name).Nodup
 rest : frB [] ms = frB ((ms.take k).map Mbr.name) (ms.drop k)
theorem FrPre.zero (ms : List Mbr) : FrPre ms 0 := ⟨fun m hm => by simp at hm, by simp, by simp⟩
theorem FrPre.next {ms : List Mbr} {k : Nat} {m : Mbr} (h : FrPre ms k) (hm : ms[k]? = some m) (h1 : MbOk m) (h2 : m.name ∉ (ms.take k).map Mbr.name) : FrPre ms (k + 1) := by
 refine ⟨fun x hx => ?_, ?_, ?_⟩
 ·rw [aM_ hm] at hx
  rcases List.mem_append.1 hx with hx | hx
  ·exact h.ok x hx
  ·rw [List.mem_singleton.1 hx]; exact h1
 ·rw [aM_ hm, List.map_append, List.nodup_append]
  exact ⟨h.apart, by simp, fun a ha b hb e => h2 (by rw [List.map_cons, List.map_nil, List.mem_singleton] at hb; rw [← hb, ← e]; exact ha)⟩
 ·rw [h.rest, j4_ hm, g5_.2 h1, Bool.eq_false_iff.2 (fun hh => h2 (fH_.1 hh))]; rfl
theorem FrPre.bad {ms : List Mbr} {k : Nat} {m : Mbr} (h : FrPre ms k) (hm : ms[k]? = some m) (hb : ¬ (MbOk m ∧ m.name ∉ (ms.take k).map Mbr.name)) : frB [] ms = false := by
 rw [h.rest, j4_ hm]
 cases h1 : mbOk m with
 |false => rfl
 |true =>
  cases h2 : hasT ((ms.take k).map Mbr.name) m.name with
  |true => rfl
  |false => exact absurd ⟨g5_.1 h1, fun hh => by rw [fH_.2 hh] at h2; cases h2⟩ hb
theorem FrPre.end {ms : List Mbr} (h : FrPre ms ms.length) : frB [] ms = true := by rw [h.rest, List.drop_length]; rfl
theorem jQ_ {m : Mbr} : MbOk m ↔ (valM m).2 = 0 ∧ aN_ m.name = true := by
 constructor
 ·intro h; exact ⟨(m4_ h).1, h.name⟩
 ·rintro ⟨h1, h2⟩
  unfold valM at h1
  split at h1
  ·rename_i h; exact ⟨h2, h.1, h.2⟩
  ·cases h1
theorem FrPre.row {ms : List Mbr} {k : Nat} (h : FrPre ms k) (h8 : ms.length ≤ 8) : aO_ (jnS [] (bo_ (ms.take k))) = true ∧ (jnS [] (bo_ (ms.take k))).length ≤ 8 ∧ ((jnS [] (bo_ (ms.take k))).map Ent.key).Nodup ∧ ∀ x, x ∈ jnS [] (bo_ (ms.take k)) ↔ x ∈ bo_ (ms.take k) := by
 have hk := fW_ h.apart
 have hp := (fj_ (a := []) (b := bo_ (ms.take k)) .nil (by rw [List.nil_append]; exact hk)).2
 rw [List.nil_append] at hp
 have hl := hr_ (bo_ (ms.take k))
 have hl2 : (bo_ (ms.take k)).length ≤ 8 := by rw [bo_, List.length_map, List.length_take]; omega
 refine ⟨hx_ fu_ (fun x hx => ?_) (by rw [List.length_nil]; omega), by omega, (hp.map Ent.key).nodup_iff.2 hk, fun x => hp.mem_iff⟩
 obtain ⟨m, hm, rfl⟩ := List.mem_map.1 hx
 exact hm_ (h.ok m hm)
theorem FrPre.get {ms : List Mbr} {k : Nat} (h : FrPre ms k) (h8 : ms.length ≤ 8) (s : ByteArray) : (getS (jnS [] (bo_ (ms.take k))) (keyN s)).n = 0 ∧ (getS (jnS [] (bo_ (ms.take k))) (keyN s)).who = ⟨#[]⟩ ∧ (getS (jnS [] (bo_ (ms.take k))) (keyN s)).value = ⟨#[]⟩ ↔ s ∉ (ms.take k).map Mbr.name := by
 obtain ⟨_, _, hn, hm⟩ := h.row h8
 constructor
 ·rintro ⟨h1, _⟩ hin
  obtain ⟨m, hmm, rfl⟩ := List.mem_map.1 hin
  have := qR_ hn ((hm _).2 (List.mem_map_of_mem (f := cn_) hmm))
  rw [show (cn_ m).key = keyN m.name from rfl] at this
  rw [this] at h1
  cases h1
 ·intro hout
  rw [oi_ fun x hx e => by
   obtain ⟨m, hmm, rfl⟩ := List.mem_map.1 ((hm x).1 hx)
   exact hout (by rw [← j6_ e]; exact List.mem_map_of_mem hmm)]
  exact ⟨rfl, rfl, rfl⟩
theorem pA_ {L : List Ent} {x : Ent} (h : aO_ L = true) (hx : bA_ x = true) (hn : L.length < 4096) : putE L x = (putS x L, 0) := by
 have := cY_ x L
 rw [putE, h, hx, if_neg (by simp), if_neg (by omega)]
theorem kn_ {x : Ent} (h : bA_ x = true) : EntSm x := by
 unfold bA_ cy_ at h
 simp only [Bool.and_eq_true, Bool.or_eq_true, decide_eq_true_eq] at h
 obtain ⟨⟨h1, h2⟩, ⟨⟨h3, h4⟩, h5⟩, h6⟩ := h
 have hw : x.who.size ≤ 16 := by
  rcases h5 with h5 | h5
  ·omega
  ·exact (bz_ h5).2
 exact ⟨by omega, by omega, by omega⟩
theorem eC_ {ms : List Mbr} {more : List Ent} (h : ¬ (1 ≤ ms.length ∧ ms.length ≤ 8 ∧ frB [] ms = true)) : cs_ ms more = ([], 1) := by rw [cs_, if_neg h]
set_option maxHeartbeats 4000000 in
theorem la_ {ms : List Mbr} {more : List Ent} {t t' : Bool} {σ : Store} (hz : ∀ m ∈ ms, m.name.size ≤ 100 ∧ m.rack.size ≤ 100 ∧ m.zone.size ≤ 100) (hml : ms.length ≤ 1000) (hr : ∀ x ∈ more, EntSm x) (hl : more.length ≤ 100000) : ap_ Tryz.prog 16 [.sl 4 (ms.map sMbr) t, .sl 4 (more.map sEnt) t'] σ fun v σ' => v = .tup [.sl 4 ((cs_ ms more).1.map sEnt) false, vInt (cs_ ms more).2] ∧ σ = σ' := by
 refine am_ Tryz.func16 rfl Tryz.ntmps16 (congrArg Array.toList Tryz.results16) (by simp only [List.length_cons, List.length_nil]; decide) ?_; simp only [ah_, al_, Nat.reduceAdd]
 refine ab_ ?_
 refine aa_ kr_ ?_
 iterate 2 (refine aL_S rfl rfl v_ ?_)
 refine ac_ ?_
 refine ab_ ?_
 refine ab_ ?_
 refine aa_ kr_ ?_
 iterate 4 (refine aL_S rfl rfl v_ ?_)
 refine aw_ rfl rfl v_ rfl vg_ ?_
 refine aw_ rfl rfl v_ rfl vg_ ?_
 refine aw_ rfl rfl v_ rfl vg_ ?_
 (refine aL_S rfl rfl v_ ?_)
 refine ac_ ?_
 refine ad_ v_ (fun hc1 => ?_) (fun hc1 => ?_)
 ·replace hc1 := nm_ hc1
  refine ab_ ?_
  refine aa_ kr_ ?_
  iterate 2 (refine aL_S rfl rfl v_ ?_)
  refine ac_ ?_
  refine aj_ ?_
  rw [eC_ (by omega)]
  exact aF_ (v := .tup [.sl 4 [] false, vInt 1]) (v' := .tup [vNil, vInt 1]) va_ (bm_ _) sub_ ⟨rfl, rfl⟩
 ·replace hc1 := nm_ hc1
  have h1 : 1 ≤ ms.length := by omega
  have h8 : ms.length ≤ 8 := by omega
  refine ae_ ?_
  refine ab_ ?_
  refine aa_ kr_ ?_
  refine aL_X rfl rfl (eb_ (a := vNil) (bM_ (by rfl) ⟨rfl, rfl⟩) (.nil 4 false) ?_)
  refine ac_ ?_
  refine ab_ ?_
  refine ab_ ?_
  refine aa_ kr_ ?_
  (refine aL_S rfl rfl v_ ?_)
  refine ac_ ?_
  refine ak_ ?_
  refine ao_ (ι := Bool × Nat) (fun ⟨u, k⟩ => ms.length - k) (fun ⟨u, k⟩ => k ≤ ms.length ∧ FrPre ms k) (fun ⟨u, k⟩ => [(0, .sl 4 (ms.map sMbr) t), (1, .sl 4 (more.map sEnt) t'), (6, .sl 4 ((jnS [] (bo_ (ms.take k))).map sEnt) u), (7, vInt k)]) (fun ⟨u, k⟩ => σ) (false, 0) ?_ ?_ ?_ ?_
  ·exact ⟨Nat.zero_le _, FrPre.zero ms⟩
  ·exact cv_
  ·exact Store.Wk.refl _
  rintro ⟨u, k⟩ ⟨hk, hF⟩
  simp only [ar_, as_]
  refine ab_ ?_
  refine ab_ ?_
  refine aa_ kr_ ?_
  iterate 4 (refine aL_S rfl rfl v_ ?_)
  refine ac_ ?_
  refine ad_ v_ (fun hc5 => ?_) (fun hc5 => ?_)
  ·replace hc5 := nm_ hc5
   refine ae_ ?_
   refine ab_ ?_
   refine ak_ ?_
   refine ab_ ?_
   obtain ⟨m, hm⟩ := aA_ (l := ms) (k := k) (by omega)
   have hmz := hz m (List.mem_of_getElem? hm)
   obtain ⟨r1, r2, r3, r4⟩ := hF.row h8
   have hgt := hF.get h8 m.name
   generalize hO : jnS [] (bo_ (ms.take k)) = O at r1 r2 r3 r4 hgt
   have R := hm
   refine aa_ kr_ ?_
   iterate 4 (refine aL_S rfl rfl v_ ?_)
   refine aL_X rfl rfl (ag_ rfl rfl (.inr ⟨rfl, rfl, rfl⟩) g_ va_ (gM_ (m := m) (by omega) (by omega)) ?_); rintro _ _ ⟨rfl, rfl⟩
   iterate 5 (refine aL_S rfl rfl v_ ?_)
   refine ac_ ?_
   refine ab_ ?_
   refine ab_ ?_
   have R := hm
   refine aa_ kr_ ?_
   iterate 3 (refine aL_S rfl rfl v_ ?_)
   refine aw_ rfl rfl v_ rfl vg_ ?_
   refine aw_ rfl rfl v_ rfl vg_ ?_
   refine aw_ rfl rfl v_ rfl vg_ ?_
   refine aw_ rfl rfl v_ rfl vg_ ?_
   refine aw_ rfl rfl v_ rfl vg_ ?_
   refine bs_ rfl rfl v_ rfl (fun hb => aG_ (by rfl) (by rfl) (.inr ⟨by rfl, by rfl, by rfl⟩) g_ cg_ (du_ (by omega))) ?_
   refine aw_ rfl rfl v_ rfl vg_ ?_
   iterate 2 (refine aL_S rfl rfl v_ ?_)
   refine aw_ rfl rfl v_ rfl vg_ ?_
   refine aw_ rfl rfl v_ rfl vg_ ?_
   refine aw_ rfl rfl v_ rfl vg_ ?_
   refine aw_ rfl rfl v_ rfl vg_ ?_
   refine aw_ rfl rfl v_ rfl vg_ ?_
   refine aw_ rfl rfl v_ rfl vg_ ?_
   refine bs_ rfl rfl v_ rfl (fun hb => aG_ (by rfl) (by rfl) (.inr ⟨by rfl, by rfl, by rfl⟩) g_ cg_ (fr_ (by omega))) ?_
   refine bs_ rfl rfl v_ rfl (fun hb => aG_ (by rfl) (by rfl) (.inr ⟨by rfl, by rfl, by rfl⟩) g_ cg_ (ld_ (by omega))) ?_
   refine aw_ rfl rfl v_ rfl vg_ ?_
   refine aw_ rfl rfl v_ rfl vg_ ?_
   (refine aL_S rfl rfl v_ ?_)
   refine ac_ ?_
   refine ad_ v_ (fun hc8 => ?_) (fun hc8 => ?_)
   ·replace hc8 := nm_ hc8
    have hbad : ¬ (MbOk m ∧ m.name ∉ (ms.take k).map Mbr.name) := by
     rintro ⟨g1, g2⟩
     obtain ⟨q1, q2⟩ := jQ_.1 g1
     obtain ⟨z1, z2, z3⟩ := hgt.2 g2
     simp [q1, q2, z1, z2, z3] at hc8
    refine ab_ ?_
    refine aa_ kr_ ?_
    iterate 2 (refine aL_S rfl rfl v_ ?_)
    refine ac_ ?_
    refine aj_ ?_
    rw [eC_ (fun h => by rw [hF.bad hm hbad] at h; exact absurd h.2.2 (by decide))]
    exact aF_ (v := .tup [.sl 4 [] false, vInt 1]) (v' := .tup [vNil, vInt 1]) va_ (bm_ _) sub_ ⟨rfl, rfl⟩
   ·replace hc8 := nm_ hc8
    have hgood : MbOk m ∧ m.name ∉ (ms.take k).map Mbr.name := by
     obtain ⟨⟨q1, q2⟩, q3⟩ := hc8
     exact ⟨jQ_.2 ⟨by simpa using q1, q2⟩, hgt.1 (by simpa using q3)⟩
    have hcov : (jnS [] (bo_ (ms.take (k + 1)))).map sEnt = (putS (cn_ m) O).map sEnt := by rw [aM_ hm, bo_, List.map_append, ← hO]; exact congrArg _ (o2_ _ _)
    have hpe := pA_ r1 (hm_ hgood.1) (by omega)
    refine ae_ ?_
    have R := hm
    refine aa_ kr_ ?_
    iterate 6 (refine aL_S rfl rfl v_ ?_)
    refine aL_X rfl rfl (ag_ rfl rfl (.inr ⟨rfl, rfl, rfl⟩) g_ va_ (fr_ (by omega)) ?_); rintro _ _ ⟨rfl, rfl⟩
    iterate 3 (refine aL_S rfl rfl v_ ?_)
    refine aL_X rfl rfl (ag_ rfl rfl (.inr ⟨rfl, rfl, rfl⟩) g_ va_ (pe_ (y := cn_ m) (by omega) (fun z hz => (cq_ r1 z hz).1) (hz_ hgood.1)) ?_); rintro _ _ ⟨rfl, rfl⟩
    rw [hpe]
    iterate 4 (refine aL_S rfl rfl v_ ?_)
    refine ac_ ?_
    refine aa_ kr_ ?_
    iterate 3 (refine aL_S rfl rfl v_ ?_)
    refine ac_ ?_
    refine aI_ (ι := Bool × Nat) (i := ⟨u, k⟩) (false, k + 1) ?_ ?_ ?_ ?_
    ·show ms.length - (k + 1) < ms.length - k; omega
    ·exact ⟨by show k + 1 ≤ ms.length; omega, hF.next hm hgood.1 hgood.2⟩
    ·have R := hcov; exact cv_
    ·exact sub_
  ·replace hc5 := nm_ hc5
   refine av_ ?_
   refine af_ ?_
   refine af_ ?_
   refine aq_ ?_
   refine ab_ ?_
   obtain rfl : k = ms.length := by omega
   rw [List.take_length]
   have hfB := hF.end
   have hFo := FstOk.of h1 h8 hfB
   obtain ⟨r1, r2, _, _⟩ := hF.row h8
   rw [List.take_length] at r1 r2
   have htwo := hFo.two
   have hre : ∀ x ∈ jnS [] (dL_ ms), bA_ x = true := fun x hx => by
    have hp := (fj_ (a := []) (b := dL_ ms) .nil (by rw [List.nil_append]; exact dW_ (l := a2_ ow0 (ms.map Mbr.name)) (j := 0) (by rw [aZ_]; decide))).2
    rw [List.nil_append] at hp
    exact hs_ (by rw [aZ_]; decide) (hp.mem_iff.1 hx)
   have hrl : (jnS [] (dL_ ms)).length ≤ 16 := Nat.le_trans (hr_ _) (dj_ ms)
   have hro : aO_ (jnS [] (dL_ ms)) = true := hx_ fu_ (fun x hx => hs_ (by rw [aZ_]; decide) hx) (by have := dj_ ms; rw [List.length_nil]; omega)
   have hj1 : b8_ (jnS [] (bo_ ms)) (jnS [] (dL_ ms)) = (L0 ms, 0) := by
    have := hFo.len
    rw [b8_, if_pos ⟨r1, hro⟩, htwo, if_neg (by omega)]
   have hfS : cs_ ms more = b8_ (L0 ms) more := by rw [cs_, if_pos ⟨h1, h8, hfB⟩]
   refine aE_ (.op 1 0 (.alt 0 1 (.op 2 1 (.op 3 1 (.op 4 1 (.op 5 0 .nil)))) (.op 2 1 (.op 0 1 (.op 3 1 (.op 4 1 (.op 5 0 .nil))))))) Tryz.mixed kr_ ?_
   (refine dR_S o_ (by rfl) (by rfl) v_ ?_)
   refine fi_ ?_ ?_
   ·refine dR_X o_ (by rfl) (by rfl) (fc_ (l := ow0.map vStr) (a5_ (n := 16) (by rfl) g_ g_ g_ (by rfl) va_ va_ (by decide) fun ob hob => ⟨ob, hob, rfl, rfl⟩) (by rfl) (by rfl) (fun x hx => by obtain ⟨y, _, rfl⟩ := List.mem_map.1 hx; rfl) ⟨sub_, ?_⟩)
    refine dR_X o_ (by rfl) (by rfl) (ag_ (by rfl) (by rfl) (.inr ⟨by rfl, by rfl, by rfl⟩) g_ va_ (fd_ (ms := ms) (by omega)) ?_); rintro _ _ ⟨rfl, rfl⟩; refine ⟨sub_, ?_⟩
    refine dR_X o_ (by rfl) (by rfl) (ag_ (by rfl) (by rfl) (.inr ⟨by rfl, by rfl, by rfl⟩) g_ va_ (ap_.still (iV_ (ow := ow0) (nm := ms.map Mbr.name) (by decide) (by rw [List.length_map]; omega))) ?_); rintro _ _ ⟨rfl, rfl⟩; refine ⟨sub_, ?_⟩
    refine dR_X o_ (by rfl) (by rfl) (ag_ (by rfl) (by rfl) (.inr ⟨by rfl, by rfl, by rfl⟩) g_ va_ (ia_ (ow := a2_ ow0 (ms.map Mbr.name)) (by rw [aZ_]; decide) (fun s hs => by have := hFo.sz s hs; omega)) ?_); rintro _ _ ⟨rfl, rfl⟩; refine ⟨sub_, ?_⟩
    (refine dR_S o_ (by rfl) (by rfl) v_ ?_)
    refine aK_ ?_
    refine ab_ ?_
    refine aa_ kr_ ?_
    iterate 2 (refine aL_S rfl rfl v_ ?_)
    refine aL_X rfl rfl (ag_ rfl rfl (.inr ⟨rfl, rfl, rfl⟩) g_ va_ (dZ_ (a := jnS [] (bo_ ms)) (b := jnS [] (dL_ ms)) (fun z hz => (cq_ r1 z hz).1) (fun z hz => kn_ (hre z hz)) (by omega) (by omega)) ?_); rintro _ _ ⟨rfl, rfl⟩
    rw [hj1]
    iterate 4 (refine aL_S rfl rfl v_ ?_)
    refine ac_ ?_
    refine ab_ ?_
    refine aa_ kr_ ?_
    iterate 2 (refine aL_S rfl rfl v_ ?_)
    refine aL_X rfl rfl (ag_ rfl rfl (.inr ⟨rfl, rfl, rfl⟩) g_ va_ (dZ_ (a := L0 ms) (b := more) (fun z hz => (cq_ hFo.ents z hz).1) hr (by have := hFo.len; omega) (by omega)) ?_); rintro _ _ ⟨rfl, rfl⟩
    iterate 4 (refine aL_S rfl rfl v_ ?_)
    refine ac_ ?_
    refine aj_ ?_
    refine ai_ (σ' := σ) v_ sub_ ?_
    exact ⟨by rw [hfS], rfl⟩
   refine dR_X o_ (by rfl) (by rfl) (ag_ (by rfl) (by rfl) (.inr ⟨by rfl, by rfl, by rfl⟩) g_ va_ (fd_ (ms := ms) (by omega)) ?_); rintro _ _ ⟨rfl, rfl⟩; refine ⟨sub_, ?_⟩
   refine dR_X o_ (by rfl) (by rfl) (fc_ (l := ow0.map vStr) (a5_ (n := 16) (by rfl) g_ g_ g_ (by rfl) va_ va_ (by decide) fun ob hob => ⟨ob, hob, rfl, rfl⟩) (by rfl) (by rfl) (fun x hx => by obtain ⟨y, _, rfl⟩ := List.mem_map.1 hx; rfl) ⟨sub_, ?_⟩)
   refine dR_X o_ (by rfl) (by rfl) (ag_ (by rfl) (by rfl) (.inr ⟨by rfl, by rfl, by rfl⟩) g_ va_ (ap_.still (iV_ (ow := ow0) (nm := ms.map Mbr.name) (by decide) (by rw [List.length_map]; omega))) ?_); rintro _ _ ⟨rfl, rfl⟩; refine ⟨sub_, ?_⟩
   refine dR_X o_ (by rfl) (by rfl) (ag_ (by rfl) (by rfl) (.inr ⟨by rfl, by rfl, by rfl⟩) g_ va_ (ia_ (ow := a2_ ow0 (ms.map Mbr.name)) (by rw [aZ_]; decide) (fun s hs => by have := hFo.sz s hs; omega)) ?_); rintro _ _ ⟨rfl, rfl⟩; refine ⟨sub_, ?_⟩
   (refine dR_S o_ (by rfl) (by rfl) v_ ?_)
   refine aK_ ?_
   refine ab_ ?_
   refine aa_ kr_ ?_
   iterate 2 (refine aL_S rfl rfl v_ ?_)
   refine aL_X rfl rfl (ag_ rfl rfl (.inr ⟨rfl, rfl, rfl⟩) g_ va_ (dZ_ (a := jnS [] (bo_ ms)) (b := jnS [] (dL_ ms)) (fun z hz => (cq_ r1 z hz).1) (fun z hz => kn_ (hre z hz)) (by omega) (by omega)) ?_); rintro _ _ ⟨rfl, rfl⟩
   rw [hj1]
   iterate 4 (refine aL_S rfl rfl v_ ?_)
   refine ac_ ?_
   refine ab_ ?_
   refine aa_ kr_ ?_
   iterate 2 (refine aL_S rfl rfl v_ ?_)
   refine aL_X rfl rfl (ag_ rfl rfl (.inr ⟨rfl, rfl, rfl⟩) g_ va_ (dZ_ (a := L0 ms) (b := more) (fun z hz => (cq_ hFo.ents z hz).1) hr (by have := hFo.len; omega) (by omega)) ?_); rintro _ _ ⟨rfl, rfl⟩
   iterate 4 (refine aL_S rfl rfl v_ ?_)
   refine ac_ ?_
   refine aj_ ?_
   refine ai_ (σ' := σ) v_ sub_ ?_
   exact ⟨by rw [hfS], rfl⟩
set_option maxHeartbeats 4000000 in
theorem qa_ {ms : List Mbr} {more : List Ent} {t t' : Bool} {σ : Store} (hz : ∀ m ∈ ms, m.name.size ≤ 100 ∧ m.rack.size ≤ 100 ∧ m.zone.size ≤ 100) (hml : ms.length ≤ 1000) (hr : ∀ x ∈ more, EntSm x) (hl : more.length ≤ 100000) : ap_ Tryz.prog 15 [.sl 4 (ms.map sMbr) t, .sl 4 (more.map sEnt) t'] σ fun v σ' => v = .tup [.sl 4 ((cs_ ms more).1.map sEnt) false, vInt (cs_ ms more).2] ∧ σ = σ' := by
 refine am_ Tryz.func15 rfl Tryz.ntmps15 (congrArg Array.toList Tryz.results15) (by simp only [List.length_cons, List.length_nil]; decide) ?_; simp only [ah_, al_, Nat.reduceAdd]
 refine ab_ ?_
 refine aa_ kr_ ?_
 iterate 2 (refine aL_S rfl rfl v_ ?_)
 refine ac_ ?_
 refine ab_ ?_
 refine ab_ ?_
 refine aa_ kr_ ?_
 iterate 4 (refine aL_S rfl rfl v_ ?_)
 refine aw_ rfl rfl v_ rfl vg_ ?_
 refine aw_ rfl rfl v_ rfl vg_ ?_
 refine aw_ rfl rfl v_ rfl vg_ ?_
 (refine aL_S rfl rfl v_ ?_)
 refine ac_ ?_
 refine ad_ v_ (fun hc1 => ?_) (fun hc1 => ?_)
 ·replace hc1 := nm_ hc1
  refine ab_ ?_
  refine aa_ kr_ ?_
  iterate 2 (refine aL_S rfl rfl v_ ?_)
  refine ac_ ?_
  refine aj_ ?_
  rw [eC_ (by omega)]
  exact aF_ (v := .tup [.sl 4 [] false, vInt 1]) (v' := .tup [vNil, vInt 1]) va_ (bm_ _) sub_ ⟨rfl, rfl⟩
 ·replace hc1 := nm_ hc1
  have h1 : 1 ≤ ms.length := by omega
  have h8 : ms.length ≤ 8 := by omega
  refine ae_ ?_
  refine ab_ ?_
  refine aa_ kr_ ?_
  (refine aL_S rfl rfl v_ ?_)
  refine ac_ ?_
  refine ab_ ?_
  refine ab_ ?_
  refine aa_ kr_ ?_
  iterate 3 (refine aL_S rfl rfl v_ ?_)
  refine ac_ ?_
  refine ak_ ?_
  refine ao_ (ι := Store × AVal × Nat) (fun ⟨τ, g, k⟩ => ms.length - k) (fun ⟨τ, g, k⟩ => k ≤ ms.length ∧ CBp σ τ 4 (((ms.take k).map cn_).map sEnt) g ∧ FrPre ms k) (fun ⟨τ, g, k⟩ => [(0, .sl 4 (ms.map sMbr) t), (1, .sl 4 (more.map sEnt) t'), (6, g), (19, .sl 4 (ms.map sMbr) t), (20, vInt ms.length), (21, vInt k)]) (fun ⟨τ, g, k⟩ => τ) (σ, vNil, 0) ?_ ?_ ?_ ?_
  ·exact ⟨Nat.zero_le _, .inl ⟨rfl, rfl, rfl⟩, FrPre.zero ms⟩
  ·exact cv_
  ·exact Store.Wk.refl _
  rintro ⟨τ, g, k⟩ ⟨hk, hC, hF⟩
  simp only [ar_, as_]
  refine ab_ ?_
  refine aa_ kr_ ?_
  (refine aL_S rfl rfl v_ ?_)
  refine ac_ ?_
  refine ab_ ?_
  refine ad_ v_ (fun hc5 => ?_) (fun hc5 => ?_)
  ·replace hc5 := nm_ hc5
   refine ae_ ?_
   refine ab_ ?_
   refine ak_ ?_
   refine ab_ ?_
   obtain ⟨m, hm⟩ := aA_ (l := ms) (k := k) (by omega)
   have hmz := hz m (List.mem_of_getElem? hm)
   have hsl : ((ms.map sMbr).take k).drop 0 = (ms.take k).map sMbr := by rw [List.drop_zero, List.map_take]
   have hsl2 : (ms.map sMbr).take k = (ms.take k).map sMbr := List.map_take.symm
   have hle : (ms.take k).length ≤ 8 := by rw [List.length_take]; omega
   have R := hm
   refine aa_ kr_ ?_
   iterate 3 (refine aL_S rfl rfl v_ ?_)
   refine aR_ rfl rfl rfl g_ gl_ fun o8 ho8 => ?_
   repeat (rw [an_] at ho8; obtain ⟨_, ho8⟩ := ho8)
   (refine aL_S rfl rfl v_ ?_)
   refine ax_ rfl rfl rfl v_ v_ h_ g_ rfl g_ c_ (by rfl) le_ v_ ?_
   refine ac_ ?_
   skip
   have n8 := cL_ hC ho8
   have hC1 := dn_ (x := .cells (sMbr dO_).cells) (y := .cells (sMbr m).cells) hC ho8
   refine ab_ ?_
   refine aa_ kr_ ?_
   (refine aL_S rfl rfl v_ ?_)
   refine aL_X rfl rfl (ag_ rfl rfl (.inr ⟨rfl, rfl, rfl⟩) g_ va_ (f2_ (m := m) (by omega) (by omega)) ?_); rintro _ _ ⟨rfl, rfl⟩
   iterate 5 (refine aL_S rfl rfl v_ ?_)
   refine ac_ ?_
   refine ab_ ?_
   refine ab_ ?_
   have R := And.intro hsl hsl2
   refine aE_ (.op 0 0 (.op 1 0 (.op 2 0 (.op 3 0 (.op 4 0 (.op 5 1 (.op 6 0 (.op 7 0 (.op 8 0 (.op 9 0 (.op 10 0 (.op 11 0 (.op 13 0 (.op 14 0 (.op 12 1 (.op 15 1 (.op 16 0 .nil))))))))))))))))) Tryz.mixed kr_ ?_
   iterate 3 (refine dR_S o_ (by rfl) (by rfl) v_ ?_)
   refine bW_ o_ (by rfl) (by rfl) v_ (by rfl) vg_ ?_
   refine bW_ o_ (by rfl) (by rfl) v_ (by rfl) vg_ ?_
   refine gW_ o_ (by rfl) (by rfl) v_ (by rfl) sub_ (fun hb => aG_ (by rfl) (by rfl) (.inr ⟨by rfl, by rfl, by rfl⟩) g_ cg_ (br_ (by omega))) ?_
   refine bW_ o_ (by rfl) (by rfl) v_ (by rfl) vg_ ?_
   iterate 2 (refine dR_S o_ (by rfl) (by rfl) v_ ?_)
   refine bW_ o_ (by rfl) (by rfl) v_ (by rfl) vg_ ?_
   refine bW_ o_ (by rfl) (by rfl) v_ (by rfl) vg_ ?_
   refine bW_ o_ (by rfl) (by rfl) v_ (by rfl) vg_ ?_
   refine bW_ o_ (by rfl) (by rfl) v_ (by rfl) vg_ ?_
   refine bW_ o_ (by rfl) (by rfl) v_ (by rfl) vg_ ?_
   refine gW_ o_ (by rfl) (by rfl) v_ (by rfl) sub_ (fun hb => aG_ (by rfl) (by rfl) (.inr ⟨by rfl, by rfl, by rfl⟩) g_ cg_ (fe_ (ms := ms.take k) (by omega))) ?_
   refine gW_ o_ (by rfl) (by rfl) v_ (by rfl) sub_ (fun hb => aG_ (by rfl) (by rfl) (.inr ⟨by rfl, by rfl, by rfl⟩) g_ cg_ (dx_ (l := (ms.take k).map Mbr.name) (by rw [List.length_map]; omega))) ?_
   (refine dR_S o_ (by rfl) (by rfl) v_ ?_)
   refine aK_ ?_
   refine ad_ v_ (fun hc8 => ?_) (fun hc8 => ?_)
   ·replace hc8 := nm_ hc8
    have hbad : ¬ (MbOk m ∧ m.name ∉ (ms.take k).map Mbr.name) := by
     rintro ⟨g1, g2⟩
     obtain ⟨q1, q2⟩ := jQ_.1 g1
     have q3 : hasT ((ms.take k).map Mbr.name) m.name = false := Bool.eq_false_iff.2 fun hh => g2 (fH_.1 hh)
     have q4 := q3
     rw [List.map_take] at q4
     simp [q1, q2, q3, q4] at hc8
    have hsb : σ.Sub ((τ.set o8 (.cells (sMbr dO_).cells)).set o8 (.cells (sMbr m).cells)) := ⟨fun i x hx => (CBp.sub hC1).heap i x (by rw [Store.set_ne _ _ (fun hh => by rw [hh, n8] at hx; cases hx)]; exact hx), fun u n hu => (CBp.sub hC1).tok u n hu⟩
    refine ab_ ?_
    refine aa_ kr_ ?_
    iterate 2 (refine aL_S rfl rfl v_ ?_)
    refine ac_ ?_
    refine aj_ ?_
    rw [eC_ (fun h => by rw [hF.bad hm hbad] at h; exact absurd h.2.2 (by decide))]
    exact aF_ (v := .tup [.sl 4 [] false, vInt 1]) (v' := .tup [vNil, vInt 1]) va_ (bm_ _) hsb.wk ⟨rfl, rfl⟩
   ·replace hc8 := nm_ hc8
    have hgood : MbOk m ∧ m.name ∉ (ms.take k).map Mbr.name := by
     obtain ⟨⟨q1, q2⟩, q3⟩ := hc8
     exact ⟨jQ_.2 ⟨by simpa using q1, q2⟩, fun hh => by rw [fH_.2 hh] at q3; simp at q3⟩
    refine ae_ ?_
    refine aa_ kr_ ?_
    iterate 3 (refine aL_S rfl rfl v_ ?_)
    refine aL_X rfl rfl (ag_ rfl rfl (.inr ⟨rfl, rfl, rfl⟩) g_ va_ (jO_ (by omega)) ?_); rintro _ _ ⟨rfl, rfl⟩
    iterate 3 (refine aL_S rfl rfl v_ ?_)
    refine au_ rfl rfl rfl g_ g_ rfl rfl h_ c2_ (by decide) ?_
    refine aL_X rfl rfl (a9_ rfl g_ g_ hC1 va_ (dM_ _) va_ c_ (by simp only [List.length_map, List.length_singleton] at *; omega) fun a' σ' hC3 => ?_)
    replace hC3 : CBp (σ.set o8 (.cells (sMbr m).cells)) σ' 4 (((ms.take k).map cn_ ++ [m].map cn_).map sEnt) a' := by rw [List.map_append]; exact hC3
    obtain ⟨τ2, hC5, hs2⟩ := cx_ hC3 n8
    (refine aL_S rfl rfl v_ ?_)
    refine ac_ ?_
    refine aa_ kr_ ?_
    iterate 2 (refine aL_S rfl rfl v_ ?_)
    refine ac_ ?_
    refine aI_ (ι := Store × AVal × Nat) (i := ⟨τ, g, k⟩) (τ2, a', k + 1) ?_ ?_ ?_ ?_
    ·show ms.length - (k + 1) < ms.length - k; omega
    ·exact ⟨by show k + 1 ≤ ms.length; omega, by rw [aM_ hm, List.map_append]; exact hC5, hF.next hm hgood.1 hgood.2⟩
    ·exact cv_
    ·exact hs2.wk
  ·replace hc5 := nm_ hc5
   refine av_ ?_
   refine af_ ?_
   refine af_ ?_
   refine aq_ ?_
   refine ab_ ?_
   obtain rfl : k = ms.length := by omega
   rw [List.take_length] at hC
   have hfB := hF.end
   have hFo := FstOk.of h1 h8 hfB
   have hfS : cs_ ms more = b8_ (L0 ms) more := by rw [cs_, if_pos ⟨h1, h8, hfB⟩]
   refine aE_ (.op 0 0 (.op 2 0 (.alt 1 1 (.op 3 1 (.op 4 1 (.op 5 1 (.op 6 2 (.op 7 0 .nil))))) (.op 3 1 (.op 1 1 (.op 4 1 (.op 5 1 (.op 6 2 (.op 7 0 .nil))))))))) Tryz.mixed kr_ ?_
   iterate 2 (refine dR_S o_ (by rfl) (by rfl) v_ ?_)
   refine fi_ ?_ ?_
   ·refine dR_X o_ (by rfl) (by rfl) (fc_ (l := ow0.map vStr) (a5_ (n := 16) rfl g_ g_ g_ rfl va_ va_ (by decide) fun ob hob => ⟨ob, hob, rfl, rfl⟩) (by rfl) (by rfl) (fun x hx => by obtain ⟨y, _, rfl⟩ := List.mem_map.1 hx; rfl) ⟨sub_, ?_⟩)
    refine dR_X o_ (by rfl) (by rfl) (ag_ (by rfl) (by rfl) (.inr ⟨by rfl, by rfl, by rfl⟩) g_ va_ (fe_ (ms := ms) (by omega)) ?_); rintro _ _ ⟨rfl, rfl⟩; refine ⟨sub_, ?_⟩
    refine dR_X o_ (by rfl) (by rfl) (ag_ (by rfl) (by rfl) (.inr ⟨by rfl, by rfl, by rfl⟩) g_ va_ (iu_ (ow := ow0) (nm := ms.map Mbr.name) (by decide) (by rw [List.length_map]; omega)) ?_); rintro _ _ ⟨rfl, rfl⟩; refine ⟨sub_, ?_⟩
    refine dR_X o_ (by rfl) (by rfl) (ag_ (by rfl) (by rfl) (.inr ⟨by rfl, by rfl, by rfl⟩) g_ va_ (et_ (ow := a2_ ow0 (ms.map Mbr.name)) (by rw [aZ_]; decide) (fun s hs => by have := hFo.sz s hs; omega) hFo.ne) ?_); rintro _ _ ⟨⟨L1, p1, s1, rfl⟩, rfl⟩; refine ⟨sub_, ?_⟩
    refine dR_T o_ (by rfl) (by rfl) (a9_ (by rfl) g_ g_ hC va_ (dM_ _) va_ (fX_ _) (by have e1 := p1.length_eq; have e2 := cI_ 0 (a2_ ow0 (ms.map Mbr.name)); rw [aZ_, show ow0.length = 16 from rfl] at e2; simp only [List.length_map]; omega) fun a' σ' hC3 => ?_)
    rw [← List.map_append] at hC3
    have hp2 : (ms.map cn_ ++ L1).Perm (bo_ ms ++ dL_ ms) := List.Perm.append_left _ p1
    (refine dR_S o_ (by rfl) (by rfl) v_ ?_)
    refine aK_ ?_
    refine ab_ ?_
    obtain ⟨M, hM⟩ : ∃ M, ms.map cn_ ++ L1 = M := ⟨_, rfl⟩
    rw [hM] at hC3 hp2
    have hMl : M.length ≤ 100 := by have e1 := hp2.length_eq; have e2 := dj_ ms; simp only [List.length_append, bo_, List.length_map] at e1; omega
    have hMn : M.map sEnt ≠ [] := by rw [← hM]; simp; intro h; rw [h] at h1; simp at h1
    obtain ⟨oo, hoo, rfl, rfl⟩ : ∃ oo, σ.heap oo = none ∧ a' = .msl oo 4 0 M.length ∧ σ' = σ.set oo (.cells (flat (M.map sEnt))) := by
     rcases hC3 with ⟨_, h, _⟩ | ⟨oo, h1, h2, h3⟩
     ·exact absurd h hMn
     ·exact ⟨oo, h1, by rw [h2, List.length_map], h3⟩
    refine aa_ kr_ ?_
    (refine aL_S rfl rfl v_ ?_)
    refine aL_X rfl rfl (ag_ rfl rfl (.inr ⟨rfl, rfl, rfl⟩) g_ va_ (fv_ (o := oo) (L := M) (Store.set_get ..) (by omega)) ?_); rintro _ τ1 ⟨rfl, L, q1, q2, rfl⟩
    refine ac_ ?_
    refine ab_ ?_
    rw [Store.set_set]
    have hLl := q1.length_eq
    obtain rfl : L = L0 ms := hFo.uniq (q1.trans hp2) q2
    refine aa_ kr_ ?_
    refine aL_X rfl rfl (b6_ (.inr rfl) va_ (Store.set_get ..) (l := (L0 ms).map sEnt) (by rw [← hLl]; exact cb_ (L0 ms)) (by rw [List.length_map]; exact hLl) (dM_ (L0 ms)) ?_)
    rw [Store.set_del hoo]
    (refine aL_S rfl rfl v_ ?_)
    refine aL_X rfl rfl (ag_ rfl rfl (.inr ⟨rfl, rfl, rfl⟩) g_ va_ (mE_ (a := L0 ms) (b := more) (fun z hz => (cq_ hFo.ents z hz).1) hr (by omega) (by omega)) ?_); rintro _ _ ⟨rfl, rfl⟩
    iterate 4 (refine aL_S rfl rfl v_ ?_)
    refine ac_ ?_
    refine aj_ ?_
    refine ai_ (σ' := σ) v_ sub_ ?_
    exact ⟨by rw [hfS], rfl⟩
   refine dR_X o_ (by rfl) (by rfl) (ag_ (by rfl) (by rfl) (.inr ⟨by rfl, by rfl, by rfl⟩) g_ va_ (fe_ (ms := ms) (by omega)) ?_); rintro _ _ ⟨rfl, rfl⟩; refine ⟨sub_, ?_⟩
   refine dR_X o_ (by rfl) (by rfl) (fc_ (l := ow0.map vStr) (a5_ (n := 16) rfl g_ g_ g_ rfl va_ va_ (by decide) fun ob hob => ⟨ob, hob, rfl, rfl⟩) (by rfl) (by rfl) (fun x hx => by obtain ⟨y, _, rfl⟩ := List.mem_map.1 hx; rfl) ⟨sub_, ?_⟩)
   refine dR_X o_ (by rfl) (by rfl) (ag_ (by rfl) (by rfl) (.inr ⟨by rfl, by rfl, by rfl⟩) g_ va_ (iu_ (ow := ow0) (nm := ms.map Mbr.name) (by decide) (by rw [List.length_map]; omega)) ?_); rintro _ _ ⟨rfl, rfl⟩; refine ⟨sub_, ?_⟩
   refine dR_X o_ (by rfl) (by rfl) (ag_ (by rfl) (by rfl) (.inr ⟨by rfl, by rfl, by rfl⟩) g_ va_ (et_ (ow := a2_ ow0 (ms.map Mbr.name)) (by rw [aZ_]; decide) (fun s hs => by have := hFo.sz s hs; omega) hFo.ne) ?_); rintro _ _ ⟨⟨L1, p1, s1, rfl⟩, rfl⟩; refine ⟨sub_, ?_⟩
   refine dR_T o_ (by rfl) (by rfl) (a9_ (by rfl) g_ g_ hC va_ (dM_ _) va_ (fX_ _) (by have e1 := p1.length_eq; have e2 := cI_ 0 (a2_ ow0 (ms.map Mbr.name)); rw [aZ_, show ow0.length = 16 from rfl] at e2; simp only [List.length_map]; omega) fun a' σ' hC3 => ?_)
   rw [← List.map_append] at hC3
   have hp2 : (ms.map cn_ ++ L1).Perm (bo_ ms ++ dL_ ms) := List.Perm.append_left _ p1
   (refine dR_S o_ (by rfl) (by rfl) v_ ?_)
   refine aK_ ?_
   refine ab_ ?_
   obtain ⟨M, hM⟩ : ∃ M, ms.map cn_ ++ L1 = M := ⟨_, rfl⟩
   rw [hM] at hC3 hp2
   have hMl : M.length ≤ 100 := by have e1 := hp2.length_eq; have e2 := dj_ ms; simp only [List.length_append, bo_, List.length_map] at e1; omega
   have hMn : M.map sEnt ≠ [] := by rw [← hM]; simp; intro h; rw [h] at h1; simp at h1
   obtain ⟨oo, hoo, rfl, rfl⟩ : ∃ oo, σ.heap oo = none ∧ a' = .msl oo 4 0 M.length ∧ σ' = σ.set oo (.cells (flat (M.map sEnt))) := by
    rcases hC3 with ⟨_, h, _⟩ | ⟨oo, h1, h2, h3⟩
    ·exact absurd h hMn
    ·exact ⟨oo, h1, by rw [h2, List.length_map], h3⟩
   refine aa_ kr_ ?_
   (refine aL_S rfl rfl v_ ?_)
   refine aL_X rfl rfl (ag_ rfl rfl (.inr ⟨rfl, rfl, rfl⟩) g_ va_ (fv_ (o := oo) (L := M) (Store.set_get ..) (by omega)) ?_); rintro _ τ1 ⟨rfl, L, q1, q2, rfl⟩
   refine ac_ ?_
   refine ab_ ?_
   rw [Store.set_set]
   have hLl := q1.length_eq
   obtain rfl : L = L0 ms := hFo.uniq (q1.trans hp2) q2
   refine aa_ kr_ ?_
   refine aL_X rfl rfl (b6_ (.inr rfl) va_ (Store.set_get ..) (l := (L0 ms).map sEnt) (by rw [← hLl]; exact cb_ (L0 ms)) (by rw [List.length_map]; exact hLl) (dM_ (L0 ms)) ?_)
   rw [Store.set_del hoo]
   (refine aL_S rfl rfl v_ ?_)
   refine aL_X rfl rfl (ag_ rfl rfl (.inr ⟨rfl, rfl, rfl⟩) g_ va_ (mE_ (a := L0 ms) (b := more) (fun z hz => (cq_ hFo.ents z hz).1) hr (by omega) (by omega)) ?_); rintro _ _ ⟨rfl, rfl⟩
   iterate 4 (refine aL_S rfl rfl v_ ?_)
   refine ac_ ?_
   refine aj_ ?_
   refine ai_ (σ' := σ) v_ sub_ ?_
   exact ⟨by rw [hfS], rfl⟩
end Go.Proofs.YtkcmbjodladflaaGreatDoor
end

section
set_option linter.all false
set_option maxRecDepth 100000
namespace Go.Proofs.YtkcmbjodladflaaGreatDoor
open Go.Ab
theorem iD_ (ms : List Mbr) {more : List Ent} (hl : more.length ≤ 100) : ((cs_ ms more).2 = 0 ∧ aO_ (cs_ ms more).1 = true) ∨ ((cs_ ms more).2 ≠ 0 ∧ (cs_ ms more).1 = []) := by
 unfold cs_
 split
 ·rename_i h
  have hF := FstOk.of h.1 h.2.1 h.2.2
  have h24 := hF.len
  unfold b8_
  split
  ·rename_i h2
   split
   ·exact .inr ⟨by decide, rfl⟩
   ·exact .inl ⟨rfl, hx_ h2.1 (oa_ h2.2) (by omega)⟩
  ·exact .inr ⟨by decide, rfl⟩
 ·exact .inr ⟨by decide, rfl⟩
theorem oS_ {l : List Mbr} {n : Nat} (h : id_ l n = true) : l.length ≤ n ∧ ∀ m ∈ l, m.name.size ≤ 100 ∧ m.rack.size ≤ 100 ∧ m.zone.size ≤ 100 := by
 unfold id_ at h
 simp only [Bool.and_eq_true, decide_eq_true_eq, List.all_eq_true] at h
 exact ⟨h.1, fun m hm => h.2 m hm⟩
set_option maxHeartbeats 4000000 in
theorem h5_ {ms : List Mbr} {more : List Ent} {t t' : Bool} {σ : Store} : ap_ Tryz.prog 4 [.sl 4 (ms.map sMbr) t, .sl 4 (more.map sEnt) t'] σ fun v σ' => v = vB true ∧ σ = σ' := by
 refine am_ Tryz.func4 rfl Tryz.ntmps4 (congrArg Array.toList Tryz.results4) (by simp only [List.length_cons, List.length_nil]; decide) ?_; simp only [ah_, al_, Nat.reduceAdd]
 refine ab_ ?_
 refine aa_ kr_ ?_
 (refine aL_S rfl rfl v_ ?_)
 refine ac_ ?_
 refine ab_ ?_
 refine ab_ ?_
 refine aa_ kr_ ?_
 (refine aL_S rfl rfl v_ ?_)
 refine aL_X rfl rfl (ag_ rfl rfl (.inr ⟨rfl, rfl, rfl⟩) g_ va_ (jN_ (n := 10) (by decide)) ?_); rintro _ _ ⟨rfl, rfl⟩
 iterate 2 (refine aL_S rfl rfl v_ ?_)
 refine aw_ rfl rfl v_ rfl vg_ ?_
 refine bs_ rfl rfl v_ rfl (fun hb => aG_ (by rfl) (by rfl) (.inr ⟨by rfl, by rfl, by rfl⟩) g_ cg_ (iB_ (n := 30) (by decide))) ?_
 refine aw_ rfl rfl v_ rfl vg_ ?_
 (refine aL_S rfl rfl v_ ?_)
 refine ac_ ?_
 refine ad_ v_ (fun hc1 => ?_) (fun hc1 => ?_)
 ·replace hc1 := nm_ hc1
  refine ab_ ?_
  refine aa_ kr_ ?_
  refine aL_X rfl rfl (ag_ rfl rfl (.inr ⟨rfl, rfl, rfl⟩) g_ va_ (cf_) ?_); rintro _ _ ⟨rfl, rfl⟩
  (refine aL_S rfl rfl v_ ?_)
  refine ac_ ?_
  refine aj_ ?_
  refine ai_ (σ' := σ) v_ sub_ ?_
  exact ⟨rfl, rfl⟩
 ·replace hc1 := nm_ hc1
  have hfm : id_ ms 10 = true := by simp_all
  have hfe : gq_ more 30 = true := by simp_all
  obtain ⟨nl, hs, hk⟩ := eG_ hfe
  obtain ⟨hml, hz⟩ := oS_ hfm
  have hE := iD_ ms (more := more) (by omega)
  refine ae_ ?_
  refine ab_ ?_
  refine aa_ kr_ ?_
  iterate 2 (refine aL_S rfl rfl v_ ?_)
  refine aL_X rfl rfl (ag_ rfl rfl (.inr ⟨rfl, rfl, rfl⟩) g_ va_ (qa_ hz (by omega) hs (by omega)) ?_); rintro _ _ ⟨rfl, rfl⟩
  iterate 5 (refine aL_S rfl rfl v_ ?_)
  refine ac_ ?_
  refine ab_ ?_
  refine aa_ kr_ ?_
  iterate 2 (refine aL_S rfl rfl v_ ?_)
  refine aL_X rfl rfl (ag_ rfl rfl (.inr ⟨rfl, rfl, rfl⟩) g_ va_ (la_ hz (by omega) hs (by omega)) ?_); rintro _ _ ⟨rfl, rfl⟩
  iterate 5 (refine aL_S rfl rfl v_ ?_)
  refine ac_ ?_
  skip
  obtain ⟨R, hR⟩ : ∃ R, cs_ ms more = R := ⟨_, rfl⟩
  rw [hR] at hE ⊢
  have hRl : R.1.length ≤ 4096 ∧ ∀ x ∈ R.1, EntSm x := by
   rcases hE with ⟨_, h⟩ | ⟨_, h⟩
   ·exact ⟨jr_ h, fun x hx => (cq_ h x hx).1⟩
   ·rw [h]; exact ⟨by simp, fun x hx => by cases hx⟩
  obtain ⟨hRl, hRs⟩ := hRl
  refine ab_ ?_
  rcases hE with ⟨h1, h2⟩ | ⟨h1, h2⟩
  ·have R := And.intro h1 (And.intro @not_false_eq_true (And.intro @decide_true decide_false))
   refine aa_ kr_ ?_
   iterate 2 (refine aL_S rfl rfl v_ ?_)
   refine aL_X rfl rfl (ag_ rfl rfl (.inr ⟨rfl, rfl, rfl⟩) g_ va_ (i8_ (by omega) (by omega)) ?_); rintro _ _ ⟨rfl, rfl⟩
   (refine aL_S rfl rfl v_ ?_)
   first | (refine da_ wn_ rfl ?_) | (refine bw_ (ay_ rfl rfl v_ (by rfl)) rfl v_ ?_)
   first | (refine da_ wn_ rfl ?_) | (refine bw_ (ay_ rfl rfl v_ (by rfl)) rfl v_ ?_)
   first | (refine da_ wn_ rfl ?_) | (refine bw_ (ay_ rfl rfl v_ (by rfl)) rfl v_ ?_)
   iterate 2 (refine aL_S rfl rfl v_ ?_)
   first | (refine da_ wn_ rfl ?_) | (refine bw_ (ay_ rfl rfl v_ (by rfl)) rfl v_ ?_)
   first | (refine da_ wn_ rfl ?_) | (refine bw_ (ay_ rfl rfl v_ (by rfl)) rfl v_ ?_)
   first | (refine da_ wn_ rfl ?_) | (refine bw_ (ay_ rfl rfl v_ (by rfl)) rfl v_ ?_)
   first | (refine da_ wn_ rfl ?_) | (refine bw_ (ay_ rfl rfl v_ (by rfl)) rfl v_ ?_)
   first | (refine da_ wn_ rfl ?_) | (refine om_ (ay_ rfl rfl v_ (by rfl)) rfl (ag_ rfl rfl (.inr ⟨rfl, rfl, rfl⟩) g_ va_ (cZ_ hRs (by omega)) ?_); rintro _ _ ⟨rfl, rfl⟩)
   first | rw [show aO_ _ = true from h2] | skip
   first | (refine da_ wn_ rfl ?_) | (refine bw_ (ay_ rfl rfl v_ (by rfl)) rfl v_ ?_)
   iterate 2 (refine aL_S rfl rfl v_ ?_)
   first | (refine da_ wn_ rfl ?_) | (refine om_ (ay_ rfl rfl v_ (by rfl)) rfl (ag_ rfl rfl (.inr ⟨rfl, rfl, rfl⟩) g_ va_ (cf_) ?_); rintro _ _ ⟨rfl, rfl⟩)
   iterate 2 (refine aL_S rfl rfl v_ ?_)
   refine ac_ ?_
   refine aj_ ?_
   refine ai_ (σ' := σ) v_ sub_ ?_
   exact ⟨rfl, rfl⟩
  ·have R := And.intro h1 (And.intro @not_false_eq_true (And.intro @decide_true decide_false))
   refine aa_ kr_ ?_
   iterate 2 (refine aL_S rfl rfl v_ ?_)
   refine aL_X rfl rfl (ag_ rfl rfl (.inr ⟨rfl, rfl, rfl⟩) g_ va_ (i8_ (by omega) (by omega)) ?_); rintro _ _ ⟨rfl, rfl⟩
   (refine aL_S rfl rfl v_ ?_)
   first | (refine da_ wn_ rfl ?_) | (refine bw_ (ay_ rfl rfl v_ (by rfl)) rfl v_ ?_)
   first | (refine da_ wn_ rfl ?_) | (refine bw_ (ay_ rfl rfl v_ (by rfl)) rfl v_ ?_)
   first | (refine da_ wn_ rfl ?_) | (refine bw_ (ay_ rfl rfl v_ (by rfl)) rfl v_ ?_)
   iterate 2 (refine aL_S rfl rfl v_ ?_)
   first | (refine da_ wn_ rfl ?_) | (refine bw_ (ay_ rfl rfl v_ (by rfl)) rfl v_ ?_)
   first | (refine da_ wn_ rfl ?_) | (refine bw_ (ay_ rfl rfl v_ (by rfl)) rfl v_ ?_)
   first | (refine da_ wn_ rfl ?_) | (refine bw_ (ay_ rfl rfl v_ (by rfl)) rfl v_ ?_)
   first | (refine da_ wn_ rfl ?_) | (refine bw_ (ay_ rfl rfl v_ (by rfl)) rfl v_ ?_)
   first | (refine da_ wn_ rfl ?_) | (refine om_ (ay_ rfl rfl v_ (by rfl)) rfl (ag_ rfl rfl (.inr ⟨rfl, rfl, rfl⟩) g_ va_ (cZ_ hRs (by omega)) ?_); rintro _ _ ⟨rfl, rfl⟩)
   first | rw [show aO_ _ = true from h2] | skip
   first | (refine da_ wn_ rfl ?_) | (refine bw_ (ay_ rfl rfl v_ (by rfl)) rfl v_ ?_)
   iterate 2 (refine aL_S rfl rfl v_ ?_)
   first | (refine da_ wn_ rfl ?_) | (refine om_ (ay_ rfl rfl v_ (by rfl)) rfl (ag_ rfl rfl (.inr ⟨rfl, rfl, rfl⟩) g_ va_ (cf_) ?_); rintro _ _ ⟨rfl, rfl⟩)
   iterate 2 (refine aL_S rfl rfl v_ ?_)
   refine ac_ ?_
   refine aj_ ?_
   refine ai_ (σ' := σ) v_ sub_ ?_
   exact ⟨rfl, rfl⟩
end Go.Proofs.YtkcmbjodladflaaGreatDoor
end
