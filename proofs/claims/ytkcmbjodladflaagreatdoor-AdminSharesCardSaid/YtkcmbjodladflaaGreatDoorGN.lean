/-
  The same entries; The reference of members: Member; The reference of the ring: Key, Owners; What an administrator does: the document's way; What an administrator does: the document's way, all of it; Claims: what the plain sharing out comes to: how many each name gets; What a claim by an administrator comes to, plainly: who owns what behind it; Names of members are apart, and shared out evenly among them: plainly; AdminIs: the walk; AdminShares: the walk. Own work (an AI agent).
-/
import Derived.Test.YtkcmbjodladflaaGreatDoorGD
import Derived.Test.YtkcmbjodladflaaGreatDoorGJ
import Derived.Test.YtkcmbjodladflaaGreatDoorGK

section
set_option linter.all false
set_option maxRecDepth 100000
namespace Go.Proofs.YtkcmbjodladflaaGreatDoor
open Go.Ab
instance : DecidableEq Ent := fun a b => decidable_of_iff (a.key = b.key ∧ a.n = b.n ∧ a.who = b.who ∧ a.value = b.value) (by cases a; cases b; simp)
theorem i8_ {a b : List Ent} {ta tb : Bool} {σ : Store} (hla : a.length ≤ 1000000) (hlb : b.length ≤ 1000000) : ap_ Tryz.prog 13 [.sl 4 (a.map sEnt) ta, .sl 4 (b.map sEnt) tb] σ fun v σ' => v = vB (decide (a = b)) ∧ σ = σ' := by
 have hinj : ∀ x y : Ent, sEnt x = sEnt y ↔ x = y := fun x y => by cases x; cases y; simp
 refine am_ Tryz.func13 rfl Tryz.ntmps13 (congrArg Array.toList Tryz.results13) (by simp only [List.length_cons, List.length_nil]; decide) ?_; simp only [ah_, al_, Nat.reduceAdd]
 refine ab_ ?_
 refine aa_ kr_ ?_
 (refine aL_S rfl rfl v_ ?_)
 refine ac_ ?_
 refine ab_ ?_
 refine ab_ ?_
 refine aa_ kr_ ?_
 iterate 5 (refine aL_S rfl rfl v_ ?_)
 refine ac_ ?_
 refine ad_ v_ (fun hc1 => ?_) (fun hc1 => ?_)
 ·replace hc1 := nm_ hc1
  refine ab_ ?_
  refine aa_ kr_ ?_
  (refine aL_S rfl rfl v_ ?_)
  refine ac_ ?_
  refine aj_ ?_
  refine ai_ (σ' := σ) v_ sub_ ?_
  exact ⟨by rw [decide_eq_false]; intro h; rw [h] at hc1; omega, rfl⟩
 ·replace hc1 := nm_ hc1
  have hab : a.length = b.length := by omega
  refine ae_ ?_
  refine ab_ ?_
  refine ab_ ?_
  refine aa_ kr_ ?_
  (refine aL_S rfl rfl v_ ?_)
  refine ac_ ?_
  refine ak_ ?_
  refine ao_ (ι := Nat) (fun k => a.length - k) (fun k => k ≤ a.length ∧ a.take k = b.take k) (fun k => [(0, .sl 4 (a.map sEnt) ta), (1, .sl 4 (b.map sEnt) tb), (5, vInt k)]) (fun k => σ) 0 ?_ ?_ ?_ ?_
  ·exact ⟨Nat.zero_le _, rfl⟩
  ·exact cv_
  ·exact sub_
  rintro k ⟨hk, he⟩
  simp only [ar_, as_]
  refine ab_ ?_
  refine ab_ ?_
  refine aa_ kr_ ?_
  iterate 5 (refine aL_S rfl rfl v_ ?_)
  refine aC_ rfl rfl v_ rfl vg_ ?_
  refine aC_ rfl rfl v_ rfl vg_ ?_
  refine aC_ rfl rfl v_ rfl vg_ ?_
  refine aC_ rfl rfl v_ rfl vg_ ?_
  (refine aL_S rfl rfl v_ ?_)
  refine ac_ ?_
  refine ad_ v_ (fun hc4 => ?_) (fun hc4 => ?_)
  ·replace hc4 := nm_ hc4
   refine ae_ ?_
   refine ab_ ?_
   refine ak_ ?_
   refine ab_ ?_
   obtain ⟨x, hx⟩ := aA_ (l := a) (k := k) (by omega)
   obtain ⟨y, hy⟩ := aA_ (l := b) (k := k) (by omega)
   have R := And.intro hx hy
   refine aE_ (.op 0 0 (.op 1 0 (.op 2 0 (.op 3 0 (.op 4 0 (.op 5 0 (.op 6 0 (.op 7 0 (.op 8 0 .nil))))))))) Tryz.mixed kr_ ?_
   iterate 9 (refine dR_S o_ (by rfl) (by rfl) v_ ?_)
   refine aK_ ?_
   refine ad_ v_ (fun hc6 => ?_) (fun hc6 => ?_)
   ·replace hc6 := nm_ hc6
    refine ab_ ?_
    refine aa_ kr_ ?_
    (refine aL_S rfl rfl v_ ?_)
    refine ac_ ?_
    refine aj_ ?_
    refine ai_ (σ' := σ) v_ sub_ ?_
    exact ⟨by rw [decide_eq_false]; intro h; rw [h, hy] at hx; have hyx := Option.some.inj hx; subst hyx; simp at hc6, rfl⟩
   ·replace hc6 := nm_ hc6
    have hxy : x = y := by first | exact hc6 | (have h := hc6; clear hx hy R hc6; cases x; cases y; simp_all)
    refine ae_ ?_
    refine aa_ kr_ ?_
    iterate 3 (refine aL_S rfl rfl v_ ?_)
    refine ac_ ?_
    refine aI_ (ι := Nat) (i := k) (k + 1) ?_ ?_ ?_ ?_
    ·omega
    ·exact ⟨by omega, by rw [aM_ hx, aM_ hy, he, hxy]⟩
    ·exact cv_
    ·exact sub_
  ·replace hc4 := nm_ hc4
   refine av_ ?_
   refine af_ ?_
   refine af_ ?_
   refine aq_ ?_
   refine ab_ ?_
   refine aa_ kr_ ?_
   (refine aL_S rfl rfl v_ ?_)
   refine ac_ ?_
   refine aj_ ?_
   refine ai_ (σ' := σ) v_ sub_ ?_
   exact ⟨by rw [decide_eq_true]; rwa [List.take_of_length_le (by omega), List.take_of_length_le (by omega)] at he, rfl⟩
end Go.Proofs.YtkcmbjodladflaaGreatDoor
end

section
set_option linter.all false
set_option maxRecDepth 100000
namespace Go.Proofs.YtkcmbjodladflaaGreatDoor
open Go.Ab
theorem is_ {a v : ByteArray} {σ : Store} (ha : a.size ≤ 900000) (hv : v.size ≤ 900000) : ap_ Tryz.prog 67 [vStr a, vStr v] σ fun w σ' => w = .tup [sMbr ((mbrS a v).getD dO_), vB (mbrS a v).isSome] ∧ σ = σ' := by
 have hpl := gB_ v
 have hpm : ∀ x ∈ bE_ v, x.size ≤ 900000 := fun x hx => Nat.le_trans (gw_ hx).2 hv
 obtain ⟨r, hr, rz⟩ := gS_ hpm 0
 obtain ⟨z, hz, zz⟩ := gS_ hpm 1
 obtain ⟨u, hu, uz⟩ := gS_ hpm 2
 refine am_ Tryz.func67 rfl Tryz.ntmps67 (congrArg Array.toList Tryz.results67) (by simp only [List.length_cons, List.length_nil]; decide) ?_; simp only [ah_, al_, Nat.reduceAdd]
 refine ab_ ?_
 refine aa_ kr_ ?_
 refine aR_ rfl rfl rfl g_ gl_ fun o4 ho4 => ?_
 repeat (rw [an_] at ho4; obtain ⟨_, ho4⟩ := ho4)
 (refine aL_S rfl rfl v_ ?_)
 refine ac_ ?_
 refine ab_ ?_
 refine aa_ kr_ ?_
 (refine aL_S rfl rfl v_ ?_)
 refine aL_X rfl rfl (ag_ rfl rfl (.inr ⟨rfl, rfl, rfl⟩) g_ va_ (nk_ (by omega)) ?_); rintro _ _ ⟨rfl, rfl⟩
 (refine aL_S rfl rfl v_ ?_)
 refine ac_ ?_
 refine ab_ ?_
 refine ab_ ?_
 have R := And.intro hr (And.intro hz hu)
 refine aa_ kr_ ?_
 (refine aL_S rfl rfl v_ ?_)
 refine aL_X rfl rfl (ag_ rfl rfl (.inr ⟨rfl, rfl, rfl⟩) g_ va_ (du_ (by omega)) ?_); rintro _ _ ⟨rfl, rfl⟩
 iterate 2 (refine aL_S rfl rfl v_ ?_)
 refine aw_ rfl rfl v_ rfl vg_ ?_
 refine aw_ rfl rfl v_ rfl vg_ ?_
 refine aw_ rfl rfl v_ rfl vg_ ?_
 iterate 2 (refine aL_S rfl rfl v_ ?_)
 refine aw_ rfl rfl v_ rfl vg_ ?_
 refine aw_ rfl rfl v_ rfl vg_ ?_
 refine aw_ rfl rfl v_ rfl vg_ ?_
 refine bs_ rfl rfl v_ rfl (fun hb => aG_ (by rfl) (by rfl) (.inr ⟨by rfl, by rfl, by rfl⟩) g_ cg_ (du_ (by omega))) ?_
 refine aw_ rfl rfl v_ rfl vg_ ?_
 iterate 2 (refine aL_S rfl rfl v_ ?_)
 refine aw_ rfl rfl v_ rfl vg_ ?_
 refine aw_ rfl rfl v_ rfl vg_ ?_
 refine aw_ rfl rfl v_ rfl vg_ ?_
 refine bs_ rfl rfl v_ rfl (fun hb => aG_ (by rfl) (by rfl) (.inr ⟨by rfl, by rfl, by rfl⟩) g_ cg_ (du_ (by omega))) ?_
 refine aw_ rfl rfl v_ rfl vg_ ?_
 iterate 2 (refine aL_S rfl rfl v_ ?_)
 refine aw_ rfl rfl v_ rfl vg_ ?_
 refine aw_ rfl rfl v_ rfl vg_ ?_
 refine aw_ rfl rfl v_ rfl vg_ ?_
 refine aw_ rfl rfl v_ rfl vg_ ?_
 refine aw_ rfl rfl v_ rfl vg_ ?_
 refine eD_ rfl rfl v_ rfl vg_ ?_
 refine eD_ rfl rfl v_ rfl vg_ ?_
 refine eD_ rfl rfl v_ rfl vg_ ?_
 refine eD_ rfl rfl v_ rfl vg_ ?_
 refine aw_ rfl rfl v_ rfl vg_ ?_
 (refine aL_S rfl rfl v_ ?_)
 refine ac_ ?_
 refine ad_ v_ (fun hc2 => ?_) (fun hc2 => ?_)
 ·replace hc2 := nm_ hc2
  refine ab_ ?_
  refine aa_ kr_ ?_
  (refine aL_S rfl rfl v_ ?_)
  refine ax_ rfl rfl rfl v_ v_ h_ g_ rfl g_ c_ (by rfl) le_ v_ ?_
  (refine aL_S rfl rfl v_ ?_)
  refine ac_ ?_
  refine aj_ ?_
  refine ai_ (σ' := σ) v_ sub_ ?_
  skip
  have hn : mbrS a v = none := by
   by_cases h3 : (bE_ v).length = 3
   ·rw [fx_ h3 (hr (by omega)) (hz (by omega)) (hu (by omega)), if_neg]
    rintro ⟨g1, g2, g3, g4⟩
    rcases g4 with rfl | rfl <;> simp [g1, g2, g3, h3, bsUp, d0_] at hc2
   ·exact kp_ h3
  exact ⟨by rw [hn]; rfl, rfl⟩
 ·replace hc2 := nm_ hc2
  have h3 : (bE_ v).length = 3 := by omega
  have hr' := hr (by omega)
  have hz' := hz (by omega)
  have hu' := hu (by omega)
  have hms := fx_ (a := a) h3 hr' hz' hu'
  refine ae_ ?_
  refine ab_ ?_
  have R := And.intro hr' (And.intro hz' hu')
  refine aE_ (.op 0 0 (.op 1 0 (.op 2 0 (.op 3 0 (.op 4 0 (.op 5 0 (.op 6 0 (.op 7 0 (.op 8 0 (.op 9 0 (.op 10 0 (.op 11 0 (.op 12 2 (.op 13 0 .nil)))))))))))))) Tryz.mixed kr_ ?_
  iterate 12 (refine dR_S o_ (by rfl) (by rfl) v_ ?_)
  refine ba_ o_ (by rfl) (by rfl) (by rfl) v_ v_ h_ g_ rfl g_ c_ (by rfl) le_ v_ ?_
  (refine dR_S o_ (by rfl) (by rfl) v_ ?_)
  refine aK_ ?_
  refine aj_ ?_
  refine ai_ (σ' := σ) v_ sub_ ?_
  skip
  have hud : u = bsUp ∨ u = d0_ := by
   by_cases h1 : u = bsUp
   ·exact .inl h1
   ·by_cases h2 : u = d0_
    ·exact .inr h2
    ·simp_all [bsUp, d0_]
  refine ⟨?_, rfl⟩
  rw [hms, if_pos (by simp_all)]; rfl
theorem oD_ {k s : ByteArray} {c : UInt8} (hc : s.size < k.size → k[s.size]? = some c) : hpS k (s ++ ⟨#[47]⟩) = (decide (s.size < k.size) && decide (k.extract 0 s.size = s) && decide (c = 47)) := by
 have e0 : s ++ ⟨#[47]⟩ = B (Lb s ++ [47]) := by rw [← d5_, B_Lb]; rfl
 have hget : s.size < k.size → (Lb k)[s.size]? = some c := fun h => by
  have h1 := gH_ h
  have h2 := hc h
  rw [getElem?_pos k s.size h] at h2
  rw [h1, Option.some.inj h2]
 rw [e0, Bool.eq_iff_iff, pP_]
 simp only [Bool.and_eq_true, decide_eq_true_eq]
 constructor
 ·rintro ⟨r, h⟩
  have hl := congrArg List.length h
  simp only [List.length_append, aH_, List.length_singleton] at hl
  have hlt : s.size < k.size := by omega
  refine ⟨⟨hlt, ?_⟩, ?_⟩
  ·apply dY_
   rw [bT_, Lb_B, List.drop_zero, h, List.append_assoc, List.take_append_of_le_length (by rw [aH_]; exact Nat.le_refl _), List.take_of_length_le (by rw [aH_]; exact Nat.le_refl _)]
  ·have h1 := hget hlt
   rw [h, List.append_assoc, List.getElem?_append_right (by rw [aH_]; exact Nat.le_refl _), aH_, Nat.sub_self] at h1
   simpa using h1.symm
 ·rintro ⟨⟨hlt, h1⟩, rfl⟩
  have h2 := congrArg Lb h1
  rw [bT_, Lb_B, List.drop_zero] at h2
  refine ⟨(Lb k).drop (s.size + 1), ?_⟩
  rw [← h2, ← aM_ (hget hlt), List.take_append_drop]
theorem p9_ {l : List Ent} {s : ByteArray} {i : Nat} {x : Ent} (hx : l[i]? = some x) (h : hpS x.key (s ++ ⟨#[47]⟩) = true) : (undS (l.take (i + 1)) s).map sEnt = (undS (l.take i) s).map sEnt ++ [sEnt x] := by
 rw [aM_ hx, undS, List.filter_append, List.map_append]; simp [h, undS]
theorem r3_ {l : List Ent} {s : ByteArray} {i : Nat} {x : Ent} (hx : l[i]? = some x) (h : hpS x.key (s ++ ⟨#[47]⟩) = false) : (undS (l.take (i + 1)) s).map sEnt = (undS (l.take i) s).map sEnt := by
 rw [aM_ hx, undS, List.filter_append, List.map_append]; simp [h, undS]
theorem oG_ {l : List Ent} {s : ByteArray} {t : Bool} {σ : Store} (la : l.length ≤ 100000) (hs : s.size ≤ 100000) (hk : ∀ x ∈ l, x.key.size ≤ 1000000) : ap_ Tryz.prog 66 [.sl 4 (l.map sEnt) t, vStr s] σ fun v σ' => v = .sl 4 ((undS l s).map sEnt) false ∧ σ = σ' := by
 have hol := fun i => hc_ (l.take i) s
 have htl := fun i => List.length_take_le i l
 refine am_ Tryz.func66 rfl Tryz.ntmps66 (congrArg Array.toList Tryz.results66) (by simp only [List.length_cons, List.length_nil]; decide) ?_; simp only [ah_, al_, Nat.reduceAdd]
 refine ab_ ?_
 refine aa_ kr_ ?_
 (refine aL_S rfl rfl v_ ?_)
 refine ac_ ?_
 refine ab_ ?_
 refine aa_ kr_ ?_
 refine bp_ 45 4 rfl rfl rfl (by rfl) fun k5 hk5 => ?_
 refine ac_ ?_
 refine ab_ ?_
 refine ab_ ?_
 refine aa_ kr_ ?_
 (refine aL_S rfl rfl v_ ?_)
 refine ac_ ?_
 refine ak_ ?_
 refine ao_ (ι := Nat × Nat) (fun ⟨tk, i⟩ => l.length - i) (fun ⟨tk, i⟩ => i ≤ l.length ∧ σ.tok tk = none) (fun ⟨tk, i⟩ => [(0, .sl 4 (l.map sEnt) t), (1, vStr s), (5, .own tk 4 ((undS (l.take i) s).map sEnt)), (6, vInt i)]) (fun ⟨tk, i⟩ => (σ.newTok none tk (45, 4))) (k5, 0) ?_ ?_ ?_ ?_
 ·exact ⟨Nat.zero_le _, hk5⟩
 ·exact cv_
 ·exact Store.Wk.refl _
 rintro ⟨tk, i⟩ ⟨hi, htk⟩
 simp only [ar_, as_]
 refine ab_ ?_
 refine ab_ ?_
 refine aa_ kr_ ?_
 iterate 4 (refine aL_S rfl rfl v_ ?_)
 refine ac_ ?_
 refine ad_ v_ (fun hc3 => ?_) (fun hc3 => ?_)
 ·replace hc3 := nm_ hc3
  refine ae_ ?_
  refine ab_ ?_
  refine ak_ ?_
  refine ab_ ?_
  obtain ⟨x, hx⟩ := aA_ (l := l) (k := i) (by omega)
  have h1 := hol i
  have h2 := htl i
  have hkx := hk x (List.mem_of_getElem? hx)
  obtain ⟨c, hc⟩ : ∃ c : UInt8, s.size < x.key.size → x.key[s.size]? = some c := by
   by_cases h : s.size < x.key.size
   ·exact ⟨x.key[s.size], fun _ => getElem?_pos x.key s.size h⟩
   ·exact ⟨0, fun h' => absurd h' h⟩
  have hps := oD_ hc
  have hcl : c.toNat < 256 := c.toNat_lt
  have R := hx
  refine aa_ kr_ ?_
  iterate 6 (refine aL_S rfl rfl v_ ?_)
  refine ac_ ?_
  refine ab_ ?_
  have R := hc
  refine aa_ kr_ ?_
  iterate 6 (refine aL_S rfl rfl v_ ?_)
  refine aC_ rfl rfl v_ rfl vg_ ?_
  refine aC_ rfl rfl v_ rfl vg_ ?_
  refine aC_ rfl rfl v_ rfl vg_ ?_
  refine aC_ rfl rfl v_ rfl vg_ ?_
  refine aC_ rfl rfl v_ rfl vg_ ?_
  refine aC_ rfl rfl v_ rfl vg_ ?_
  iterate 2 (refine aL_S rfl rfl v_ ?_)
  refine aC_ rfl rfl v_ rfl vg_ ?_
  refine aC_ rfl rfl v_ rfl vg_ ?_
  refine aC_ rfl rfl v_ rfl vg_ ?_
  refine aC_ rfl rfl v_ rfl vg_ ?_
  refine aC_ rfl rfl v_ rfl vg_ ?_
  (refine aL_S rfl rfl v_ ?_)
  refine ac_ ?_
  refine ad_ v_ (fun hc6 => ?_) (fun hc6 => ?_)
  ·replace hc6 := nm_ hc6
   have hcv := p9_ (s := s) hx (by rw [hps]; obtain ⟨⟨a1, a2⟩, a3⟩ := hc6; rw [decide_eq_true (by omega), decide_eq_true a2, decide_eq_true (UInt8.toNat_inj.1 (by rw [show (47 : UInt8).toNat = 47 from rfl]; omega))]; rfl)
   have R := hx
   refine aa_ kr_ ?_
   iterate 5 (refine aL_S rfl rfl v_ ?_)
   refine au_ rfl rfl rfl g_ g_ rfl rfl h_ c2_ (by decide) ?_
   refine aP_ rfl rfl rfl g_ g_ v_ h_ v_ c_ (by simp; omega) fun k45 hk45 => ?_
   (refine aL_S rfl rfl v_ ?_)
   refine ac_ ?_
   refine aa_ kr_ ?_
   iterate 3 (refine aL_S rfl rfl v_ ?_)
   refine ac_ ?_
   refine aI_ (ι := Nat × Nat) (i := ⟨tk, i⟩) (k45, i + 1) ?_ ?_ ?_ ?_
   ·show l.length - (i + 1) < l.length - i; omega
   ·exact ⟨by show i + 1 ≤ l.length; omega, (aJ_ hk45).2⟩
   ·have R := hcv; exact cv_
   ·exact sub_
  ·replace hc6 := nm_ hc6
   have hcv := r3_ (s := s) hx (by
    rw [hps]
    by_cases a1 : s.size < x.key.size
    ·by_cases a2 : x.key.extract 0 s.size = s
     ·by_cases a3 : c = 47
      ·subst a3; exfalso; simp_all; omega
      ·simp [a3]
     ·simp [a2]
    ·simp [a1])
   refine ae_ ?_
   refine aa_ kr_ ?_
   iterate 3 (refine aL_S rfl rfl v_ ?_)
   refine ac_ ?_
   refine aI_ (ι := Nat × Nat) (i := ⟨tk, i⟩) (tk, i + 1) ?_ ?_ ?_ ?_
   ·show l.length - (i + 1) < l.length - i; omega
   ·exact ⟨by show i + 1 ≤ l.length; omega, htk⟩
   ·have R := hcv; exact cv_
   ·exact sub_
 ·replace hc3 := nm_ hc3
  refine av_ ?_
  refine af_ ?_
  refine af_ ?_
  refine aq_ ?_
  refine ab_ ?_
  obtain rfl : i = l.length := by omega
  rw [List.take_length]
  refine aa_ kr_ ?_
  iterate 2 (refine aL_S rfl rfl v_ ?_)
  refine ac_ ?_
  refine aj_ ?_
  exact aF_ (v := .sl 4 ((undS l s).map sEnt) false) (v' := .own tk 4 ((undS l s).map sEnt)) va_ (.own1 _ _ _) sub_ ⟨rfl, rfl⟩
theorem lB_ (a : ByteArray) : (⟨#[110, 111, 100, 101, 47]⟩ : ByteArray) ++ a = keyN a := by
 apply dY_
 unfold keyN cM_
 rw [a6_, Lb_B]
 simp [eH_, Lb, bt_]
theorem fr_ {a : ByteArray} {σ : Store} (ha : a.size ≤ 400000) : ap_ Tryz.prog 60 [vStr a] σ fun v σ' => v = vStr (keyN a) ∧ σ = σ' := by
 have e1 := a1_ (⟨#[110, 111, 100, 101, 47]⟩) a (by rw [show (ByteArray.mk #[110, 111, 100, 101, 47]).size = 5 from rfl]; omega)
 refine am_ Tryz.func60 rfl Tryz.ntmps60 (congrArg Array.toList Tryz.results60) (by simp only [List.length_cons, List.length_nil]; decide) ?_; simp only [ah_, al_, Nat.reduceAdd]
 refine ab_ ?_
 refine aa_ kr_ ?_
 (refine aL_S rfl rfl v_ ?_)
 refine ac_ ?_
 refine ab_ ?_
 have R := e1
 refine aa_ kr_ ?_
 iterate 3 (refine aL_S rfl rfl v_ ?_)
 refine ac_ ?_
 refine aj_ ?_
 refine ai_ (σ' := σ) v_ sub_ ?_
 exact ⟨by rw [lB_], rfl⟩
theorem fa_ {l : List Ent} {t : Bool} {σ : Store} (hl : l.length ≤ 100000) (hks : ∀ x ∈ l, x.key.size ≤ 400000 ∧ x.value.size ≤ 400000) : ap_ Tryz.prog 23 [.sl 4 (l.map sEnt) t] σ fun v σ' => v = .sl 4 ((bD_ l).map sMbr) false ∧ σ = σ' := by
 obtain ⟨U, hU⟩ : ∃ U, undS l bt_ = U := ⟨_, rfl⟩
 have hUl := hc_ l bt_
 have hsub : ∀ x ∈ undS l bt_, x ∈ l := fun x hx => (List.mem_filter.1 hx).1
 have hhp : ∀ x ∈ undS l bt_, 5 ≤ x.key.size := fun x hx => by
  have := nd_ hx
  unfold hpS at this
  simp only [Bool.and_eq_true, decide_eq_true_eq] at this
  exact this.1
 have hml := dv_ l
 rw [show bD_ l = (undS l bt_).filterMap memK from rfl] at hml ⊢
 rw [hU] at hUl hsub hml hhp ⊢
 have hol := fun i => List.length_filterMap_le memK (U.take i)
 have htl := fun i => List.length_take_le i U
 refine am_ Tryz.func23 rfl Tryz.ntmps23 (congrArg Array.toList Tryz.results23) (by simp only [List.length_cons, List.length_nil]; decide) ?_; simp only [ah_, al_, Nat.reduceAdd]
 refine ab_ ?_
 refine aa_ kr_ ?_
 (refine aL_S rfl rfl v_ ?_)
 refine ac_ ?_
 refine ab_ ?_
 refine aa_ kr_ ?_
 refine bp_ 24 4 rfl rfl rfl (by rfl) fun k3 hk3 => ?_
 refine ac_ ?_
 refine ab_ ?_
 refine aa_ kr_ ?_
 (refine aL_S rfl rfl v_ ?_)
 refine aL_X rfl rfl (ag_ rfl rfl (.inr ⟨rfl, rfl, rfl⟩) g_ va_ (oG_ (s := bt_) hl (by decide) (fun x hx => by have := hks x hx; omega)) ?_); rintro _ _ ⟨rfl, rfl⟩
 (refine aL_S rfl rfl v_ ?_)
 refine ac_ ?_
 rw [hU]
 refine ab_ ?_
 refine ab_ ?_
 refine aa_ kr_ ?_
 (refine aL_S rfl rfl v_ ?_)
 refine ac_ ?_
 refine ak_ ?_
 refine ao_ (ι := Nat × Nat) (fun ⟨tk, i⟩ => U.length - i) (fun ⟨tk, i⟩ => i ≤ U.length ∧ σ.tok tk = none) (fun ⟨tk, i⟩ => [(3, .own tk 4 (((U.take i).filterMap memK).map sMbr)), (4, .sl 4 (U.map sEnt) false), (5, vInt i)]) (fun ⟨tk, i⟩ => (σ.newTok none tk (24, 4))) (k3, 0) ?_ ?_ ?_ ?_
 ·exact ⟨Nat.zero_le _, hk3⟩
 ·exact cv_
 ·exact Store.Wk.refl _
 rintro ⟨tk, i⟩ ⟨hi, htk⟩
 simp only [ar_, as_]
 refine ab_ ?_
 refine ab_ ?_
 refine aa_ kr_ ?_
 iterate 4 (refine aL_S rfl rfl v_ ?_)
 refine ac_ ?_
 refine ad_ v_ (fun hc4 => ?_) (fun hc4 => ?_)
 ·replace hc4 := nm_ hc4
  refine ae_ ?_
  refine ab_ ?_
  refine ak_ ?_
  refine ab_ ?_
  obtain ⟨x, hx⟩ := aA_ (l := U) (k := i) (by omega)
  have hxm := List.mem_of_getElem? hx
  have hsn := l9_ (f := memK) hx
  have hk1 := (hks x (hsub x hxm)).1
  have hk2 := (hks x (hsub x hxm)).2
  have hk5 := hhp x hxm
  have h1 := hol i
  have h2 := htl i
  obtain ⟨mo, hmo⟩ : ∃ mo, memK x = mo := ⟨_, rfl⟩
  have hmo' : mbrS (x.key.extract 5 x.key.size) x.value = mo := hmo
  have R := hx
  refine aE_ (.op 0 0 (.op 1 0 (.op 2 0 (.op 3 0 (.op 4 0 (.op 5 0 (.op 6 0 (.op 7 0 (.op 8 0 (.op 9 0 (.op 10 0 (.op 11 0 (.alt 12 1 (.op 13 0 (.op 14 0 (.op 15 0 (.op 16 1 (.op 17 2 (.op 18 0 .nil)))))) (.op 16 1 (.op 12 1 (.op 13 0 (.op 14 0 (.op 15 0 (.op 17 2 (.op 18 0 .nil)))))))))))))))))))) Tryz.mixed kr_ ?_
  iterate 12 (refine dR_S o_ (by rfl) (by rfl) v_ ?_)
  refine fi_ ?_ ?_
  ·refine dR_X o_ (by rfl) (by rfl) (ag_ (by rfl) (by rfl) (.inr ⟨by rfl, by rfl, by rfl⟩) g_ va_ (is_ (by simp only [ByteArray.size_extract]; omega) (by omega)) ?_); rintro _ _ ⟨rfl, rfl⟩; refine ⟨sub_, ?_⟩
   rw [hmo']
   iterate 3 (refine dR_S o_ (by rfl) (by rfl) v_ ?_)
   refine cX_ o_ (by rfl) (by rfl) (by rfl) g_ gl_ sub_ fun o6 ho6 => ?_
   repeat (rw [an_] at ho6; obtain ⟨_, ho6⟩ := ho6)
   refine ba_ o_ (by rfl) (by rfl) (by rfl) v_ v_ h_ g_ rfl g_ c_ (by rfl) le_ v_ ?_
   (refine dR_S o_ (by rfl) (by rfl) v_ ?_)
   refine aK_ ?_
   refine ab_ ?_
   refine aa_ kr_ ?_
   (refine aL_S rfl rfl v_ ?_)
   refine ac_ ?_
   refine ad_ v_ (fun hc7 => ?_) (fun hc7 => ?_)
   ·replace hc7 := nm_ hc7
    obtain ⟨m, rfl⟩ := Option.isSome_iff_exists.1 hc7
    have hcov : ((U.take (i + 1)).filterMap memK).map sMbr = ((U.take i).filterMap memK).map sMbr ++ [sMbr m] := by rw [hsn, hmo, List.map_append]; rfl
    refine aa_ kr_ ?_
    iterate 2 (refine aL_S rfl rfl v_ ?_)
    refine au_ rfl rfl rfl g_ g_ rfl rfl h_ c2_ (by decide) ?_
    refine aP_ rfl rfl rfl g_ g_ v_ h_ v_ c_ (by simp only [List.length_map, List.length_append, List.length_singleton]; omega) fun k36 hk36 => ?_
    (refine aL_S rfl rfl v_ ?_)
    refine ac_ ?_
    refine aa_ kr_ ?_
    iterate 3 (refine aL_S rfl rfl v_ ?_)
    refine ac_ ?_
    refine aI_ (ι := Nat × Nat) (i := ⟨tk, i⟩) (k36, i + 1) ?_ ?_ ?_ ?_
    ·show U.length - (i + 1) < U.length - i; omega
    ·exact ⟨by show i + 1 ≤ U.length; omega, (aJ_ hk36).2⟩
    ·have R := hcov; exact cv_
    ·exact sub_
   ·replace hc7 := nm_ hc7
    obtain rfl : mo = none := by simpa using hc7
    have hcov : ((U.take (i + 1)).filterMap memK).map sMbr = ((U.take i).filterMap memK).map sMbr := by rw [hsn, hmo]; simp
    refine ae_ ?_
    refine aa_ kr_ ?_
    iterate 3 (refine aL_S rfl rfl v_ ?_)
    refine ac_ ?_
    refine aI_ (ι := Nat × Nat) (i := ⟨tk, i⟩) (tk, i + 1) ?_ ?_ ?_ ?_
    ·show U.length - (i + 1) < U.length - i; omega
    ·exact ⟨by show i + 1 ≤ U.length; omega, htk⟩
    ·have R := hcov; exact cv_
    ·exact sub_
  refine cX_ o_ (by rfl) (by rfl) (by rfl) g_ gl_ sub_ fun o6 ho6 => ?_
  repeat (rw [an_] at ho6; obtain ⟨_, ho6⟩ := ho6)
  refine dR_X o_ (by rfl) (by rfl) (ag_ (by rfl) (by rfl) (.inr ⟨by rfl, by rfl, by rfl⟩) g_ va_ (is_ (by simp only [ByteArray.size_extract]; omega) (by omega)) ?_); rintro _ _ ⟨rfl, rfl⟩; refine ⟨sub_, ?_⟩
  rw [hmo']
  iterate 3 (refine dR_S o_ (by rfl) (by rfl) v_ ?_)
  refine ba_ o_ (by rfl) (by rfl) (by rfl) v_ v_ h_ g_ rfl g_ c_ (by rfl) le_ v_ ?_
  (refine dR_S o_ (by rfl) (by rfl) v_ ?_)
  refine aK_ ?_
  refine ab_ ?_
  refine aa_ kr_ ?_
  (refine aL_S rfl rfl v_ ?_)
  refine ac_ ?_
  refine ad_ v_ (fun hc7 => ?_) (fun hc7 => ?_)
  ·replace hc7 := nm_ hc7
   obtain ⟨m, rfl⟩ := Option.isSome_iff_exists.1 hc7
   have hcov : ((U.take (i + 1)).filterMap memK).map sMbr = ((U.take i).filterMap memK).map sMbr ++ [sMbr m] := by rw [hsn, hmo, List.map_append]; rfl
   refine aa_ kr_ ?_
   iterate 2 (refine aL_S rfl rfl v_ ?_)
   refine au_ rfl rfl rfl g_ g_ rfl rfl h_ c2_ (by decide) ?_
   refine aP_ rfl rfl rfl g_ g_ v_ h_ v_ c_ (by simp only [List.length_map, List.length_append, List.length_singleton]; omega) fun k36 hk36 => ?_
   (refine aL_S rfl rfl v_ ?_)
   refine ac_ ?_
   refine aa_ kr_ ?_
   iterate 3 (refine aL_S rfl rfl v_ ?_)
   refine ac_ ?_
   refine aI_ (ι := Nat × Nat) (i := ⟨tk, i⟩) (k36, i + 1) ?_ ?_ ?_ ?_
   ·show U.length - (i + 1) < U.length - i; omega
   ·exact ⟨by show i + 1 ≤ U.length; omega, (aJ_ hk36).2⟩
   ·have R := hcov; exact cv_
   ·exact sub_
  ·replace hc7 := nm_ hc7
   obtain rfl : mo = none := by simpa using hc7
   have hcov : ((U.take (i + 1)).filterMap memK).map sMbr = ((U.take i).filterMap memK).map sMbr := by rw [hsn, hmo]; simp
   refine ae_ ?_
   refine aa_ kr_ ?_
   iterate 3 (refine aL_S rfl rfl v_ ?_)
   refine ac_ ?_
   refine aI_ (ι := Nat × Nat) (i := ⟨tk, i⟩) (tk, i + 1) ?_ ?_ ?_ ?_
   ·show U.length - (i + 1) < U.length - i; omega
   ·exact ⟨by show i + 1 ≤ U.length; omega, htk⟩
   ·have R := hcov; exact cv_
   ·exact sub_
 ·replace hc4 := nm_ hc4
  refine av_ ?_
  refine af_ ?_
  refine af_ ?_
  refine aq_ ?_
  refine ab_ ?_
  obtain rfl : i = U.length := by omega
  rw [List.take_length]
  refine aa_ kr_ ?_
  iterate 2 (refine aL_S rfl rfl v_ ?_)
  refine ac_ ?_
  refine aj_ ?_
  exact aF_ (v := .sl 4 ((U.filterMap memK).map sMbr) false) (v' := .own tk 4 ((U.filterMap memK).map sMbr)) va_ (.own1 _ _ _) sub_ ⟨rfl, rfl⟩
end Go.Proofs.YtkcmbjodladflaaGreatDoor
end

section
set_option linter.all false
set_option maxRecDepth 100000
namespace Go.Proofs.YtkcmbjodladflaaGreatDoor
open Go.Ab
theorem mX_ (k : Nat) : (⟨#[114, 105, 110, 103, 47]⟩ : ByteArray) ++ B (Lib.itoa (k : Int)) = aY_ k := by
 apply dY_
 unfold aY_ cM_
 rw [a6_, Lb_B]
 simp [eH_, Lb_B, show Lb f6_ = [114, 105, 110, 103] from rfl, show Lb (⟨#[114, 105, 110, 103, 47]⟩ : ByteArray) = [114, 105, 110, 103, 47] from rfl]
theorem eu_ {k : Nat} {σ : Store} (hk : k ≤ 1000000) : ap_ Tryz.prog 68 [vInt k] σ fun v σ' => v = vStr (aY_ k) ∧ σ = σ' := by
 have hi := iL_ hk
 have e1 := a1_ (⟨#[114, 105, 110, 103, 47]⟩) (B (Lib.itoa (k : Int))) (by rw [cr_, show (ByteArray.mk #[114, 105, 110, 103, 47]).size = 5 from rfl]; omega)
 refine am_ Tryz.func68 rfl Tryz.ntmps68 (congrArg Array.toList Tryz.results68) (by simp only [List.length_cons, List.length_nil]; decide) ?_; simp only [ah_, al_, Nat.reduceAdd]
 refine ab_ ?_
 refine aa_ kr_ ?_
 (refine aL_S rfl rfl v_ ?_)
 refine ac_ ?_
 refine ab_ ?_
 have R := e1
 refine aa_ kr_ ?_
 (refine aL_S rfl rfl v_ ?_)
 refine aL_X rfl rfl (ag_ rfl rfl (.inr ⟨rfl, rfl, rfl⟩) g_ va_ (mL_ (by omega) (by omega)) ?_); rintro _ _ ⟨rfl, rfl⟩
 iterate 2 (refine aL_S rfl rfl v_ ?_)
 refine ac_ ?_
 refine aj_ ?_
 refine ai_ (σ' := σ) v_ sub_ ?_
 exact ⟨by rw [mX_], rfl⟩
theorem nn_ (l : List Ent) (k : Nat) : (aD_ l (k + 1)).map vStr = (aD_ l k).map vStr ++ [vStr (ownK l k)] := by
 unfold aD_
 rw [List.range_succ]; simp
theorem pI_ {l : List Ent} {k : Nat} (h : aN_ (getS l (aY_ k)).value = true) : ownK l k = (getS l (aY_ k)).value := by rw [ownK, if_pos h]
theorem rX_ {l : List Ent} {k : Nat} (h : ¬ aN_ (getS l (aY_ k)).value = true) : ownK l k = ⟨#[]⟩ := by rw [ownK, if_neg h]
theorem fR_ {l : List Ent} {t : Bool} {n : Nat} {σ : Store} (h1 : 1 ≤ n) (hn : n ≤ 4096) (hl : l.length ≤ 1000000) (hs : ∀ x ∈ l, EntSm x) : ap_ Tryz.prog 25 [.sl 4 (l.map sEnt) t, vInt n] σ fun v σ' => v = .sl 1 ((aD_ l n).map vStr) false ∧ σ = σ' := by
 have hol := fun i => (show (aD_ l i).length = i by simp [aD_])
 refine am_ Tryz.func25 rfl Tryz.ntmps25 (congrArg Array.toList Tryz.results25) (by simp only [List.length_cons, List.length_nil]; decide) ?_; simp only [ah_, al_, Nat.reduceAdd]
 refine ab_ ?_
 refine aa_ kr_ ?_
 (refine aL_S rfl rfl v_ ?_)
 refine ac_ ?_
 refine ab_ ?_
 refine ab_ ?_
 refine aa_ kr_ ?_
 iterate 3 (refine aL_S rfl rfl v_ ?_)
 refine aw_ rfl rfl v_ rfl vg_ ?_
 refine aw_ rfl rfl v_ rfl vg_ ?_
 (refine aL_S rfl rfl v_ ?_)
 refine ac_ ?_
 refine ad_ v_ (fun hc1 => ?_) (fun hc1 => ?_)
 ·replace hc1 := nm_ hc1
  omega
 ·replace hc1 := nm_ hc1
  refine ae_ ?_
  refine ab_ ?_
  refine aa_ kr_ ?_
  refine bp_ 9 1 rfl rfl rfl (by rfl) fun k5 hk5 => ?_
  refine ac_ ?_
  refine ab_ ?_
  refine ab_ ?_
  refine aa_ kr_ ?_
  (refine aL_S rfl rfl v_ ?_)
  refine ac_ ?_
  refine ak_ ?_
  refine ao_ (ι := Nat × Nat) (fun ⟨tk, i⟩ => n - i) (fun ⟨tk, i⟩ => i ≤ n ∧ σ.tok tk = none) (fun ⟨tk, i⟩ => [(0, .sl 4 (l.map sEnt) t), (1, vInt n), (5, .own tk 1 ((aD_ l i).map vStr)), (6, vInt i)]) (fun ⟨tk, i⟩ => (σ.newTok none tk (9, 1))) (k5, 0) ?_ ?_ ?_ ?_
  ·exact ⟨Nat.zero_le _, hk5⟩
  ·exact cv_
  ·exact Store.Wk.refl _
  rintro ⟨tk, i⟩ ⟨hi, htk⟩
  simp only [ar_, as_]
  refine ab_ ?_
  refine ab_ ?_
  refine aa_ kr_ ?_
  iterate 3 (refine aL_S rfl rfl v_ ?_)
  refine ac_ ?_
  refine ad_ v_ (fun hc5 => ?_) (fun hc5 => ?_)
  ·replace hc5 := nm_ hc5
   refine ae_ ?_
   refine ab_ ?_
   refine ak_ ?_
   refine ab_ ?_
   have hsp := nn_ l i
   have hvz := (hC_ hs (aY_ i)).2
   have hll := hol i
   refine aa_ kr_ ?_
   iterate 2 (refine aL_S rfl rfl v_ ?_)
   refine aL_X rfl rfl (ag_ rfl rfl (.inr ⟨rfl, rfl, rfl⟩) g_ va_ (eu_ (by omega)) ?_); rintro _ _ ⟨rfl, rfl⟩
   refine aL_X rfl rfl (ag_ rfl rfl (.inr ⟨rfl, rfl, rfl⟩) g_ va_ (ld_ hl) ?_); rintro _ _ ⟨rfl, rfl⟩
   iterate 2 (refine aL_S rfl rfl v_ ?_)
   refine ac_ ?_
   refine ab_ ?_
   refine ab_ ?_
   refine aa_ kr_ ?_
   (refine aL_S rfl rfl v_ ?_)
   refine aL_X rfl rfl (ag_ rfl rfl (.inr ⟨rfl, rfl, rfl⟩) g_ va_ (du_ (by omega)) ?_); rintro _ _ ⟨rfl, rfl⟩
   (refine aL_S rfl rfl v_ ?_)
   refine ac_ ?_
   refine ad_ v_ (fun hc8 => ?_) (fun hc8 => ?_)
   ·replace hc8 := nm_ hc8
    have hst := hsp
    rw [rX_ (by simpa using hc8)] at hst
    refine aa_ kr_ ?_
    (refine aL_S rfl rfl v_ ?_)
    refine ac_ ?_
    refine aa_ kr_ ?_
    iterate 2 (refine aL_S rfl rfl v_ ?_)
    refine au_ rfl rfl rfl g_ g_ rfl rfl h_ c2_ (by decide) ?_
    refine aP_ rfl rfl rfl g_ g_ v_ h_ v_ c_ (by simp; omega) fun k30 hk30 => ?_
    (refine aL_S rfl rfl v_ ?_)
    refine ac_ ?_
    refine aa_ kr_ ?_
    iterate 3 (refine aL_S rfl rfl v_ ?_)
    refine ac_ ?_
    refine aI_ (ι := Nat × Nat) (i := ⟨tk, i⟩) (k30, i + 1) ?_ ?_ ?_ ?_
    ·show n - (i + 1) < n - i; omega
    ·exact ⟨by show i + 1 ≤ n; omega, (aJ_ hk30).2⟩
    ·have R := hst; exact cv_
    ·exact sub_
   ·replace hc8 := nm_ hc8
    have hst := hsp
    rw [pI_ (by simpa using hc8)] at hst
    refine ae_ ?_
    refine aa_ kr_ ?_
    iterate 2 (refine aL_S rfl rfl v_ ?_)
    refine au_ rfl rfl rfl g_ g_ rfl rfl h_ c2_ (by decide) ?_
    refine aP_ rfl rfl rfl g_ g_ v_ h_ v_ c_ (by simp; omega) fun k30 hk30 => ?_
    (refine aL_S rfl rfl v_ ?_)
    refine ac_ ?_
    refine aa_ kr_ ?_
    iterate 3 (refine aL_S rfl rfl v_ ?_)
    refine ac_ ?_
    refine aI_ (ι := Nat × Nat) (i := ⟨tk, i⟩) (k30, i + 1) ?_ ?_ ?_ ?_
    ·show n - (i + 1) < n - i; omega
    ·exact ⟨by show i + 1 ≤ n; omega, (aJ_ hk30).2⟩
    ·have R := hst; exact cv_
    ·exact sub_
  ·replace hc5 := nm_ hc5
   refine av_ ?_
   refine af_ ?_
   refine af_ ?_
   refine aq_ ?_
   refine ab_ ?_
   obtain rfl : i = n := by omega
   refine aa_ kr_ ?_
   iterate 2 (refine aL_S rfl rfl v_ ?_)
   refine ac_ ?_
   refine aj_ ?_
   exact aF_ (v := .sl 1 ((aD_ l i).map vStr) false) (v' := .own tk 1 ((aD_ l i).map vStr)) va_ (.own1 _ _ _) sub_ ⟨rfl, rfl⟩
end Go.Proofs.YtkcmbjodladflaaGreatDoor
end

section
set_option linter.all false
set_option maxRecDepth 100000
namespace Go.Proofs.YtkcmbjodladflaaGreatDoor
open Go.Ab
theorem fZ_ (a b u : ByteArray) : a ++ ⟨#[47]⟩ ++ b ++ ⟨#[47]⟩ ++ u = cM_ [a, b, u] := by
 apply dY_
 unfold cM_
 rw [a6_, a6_, a6_, a6_, Lb_B]
 simp [eH_, Lb]
theorem gM_ {m : Mbr} {σ : Store} (h1 : m.rack.size ≤ 100000) (h2 : m.zone.size ≤ 100000) : ap_ Tryz.prog 59 [sMbr m] σ fun v σ' => v = .tup [vStr (valM m).1, vInt (valM m).2] ∧ σ = σ' := by
 obtain ⟨u, hu⟩ : ∃ u, (if m.up = true then bsUp else d0_) = u := ⟨_, rfl⟩
 have huz : u.size ≤ 4 := by rw [← hu]; split <;> decide
 have s47 : (ByteArray.mk #[47]).size = 1 := rfl
 have e1 := a1_ m.rack ⟨#[47]⟩ (by omega)
 have e2 := a1_ (m.rack ++ ⟨#[47]⟩) m.zone (by rw [ByteArray.size_append]; omega)
 have e3 := a1_ (m.rack ++ ⟨#[47]⟩ ++ m.zone) ⟨#[47]⟩ (by rw [ByteArray.size_append, ByteArray.size_append]; omega)
 have e4 := a1_ (m.rack ++ ⟨#[47]⟩ ++ m.zone ++ ⟨#[47]⟩) u (by rw [ByteArray.size_append, ByteArray.size_append, ByteArray.size_append]; omega)
 refine am_ Tryz.func59 rfl Tryz.ntmps59 (congrArg Array.toList Tryz.results59) (by simp only [List.length_cons, List.length_nil]; decide) ?_; simp only [ah_, al_, Nat.reduceAdd]
 refine ab_ ?_
 refine aa_ kr_ ?_
 refine bj_ rfl rfl rfl v_ rfl g_ fun o1 ho1 => ?_
 repeat (rw [an_] at ho1; obtain ⟨_, ho1⟩ := ho1)
 iterate 2 (refine aL_S rfl rfl v_ ?_)
 refine ac_ ?_
 refine ab_ ?_
 refine ab_ ?_
 refine aa_ kr_ ?_
 iterate 2 (refine aL_S rfl rfl v_ ?_)
 refine aL_X rfl rfl (ag_ rfl rfl (.inr ⟨rfl, rfl, rfl⟩) g_ va_ (du_ (by omega)) ?_); rintro _ _ ⟨rfl, rfl⟩
 iterate 2 (refine aL_S rfl rfl v_ ?_)
 refine aw_ rfl rfl v_ rfl vg_ ?_
 refine aw_ rfl rfl v_ rfl vg_ ?_
 refine bs_ rfl rfl v_ rfl (fun hb => aG_ (by rfl) (by rfl) (.inr ⟨by rfl, by rfl, by rfl⟩) g_ cg_ (du_ (by omega))) ?_
 refine aw_ rfl rfl v_ rfl vg_ ?_
 (refine aL_S rfl rfl v_ ?_)
 refine ac_ ?_
 refine ad_ v_ (fun hc1 => ?_) (fun hc1 => ?_)
 ·replace hc1 := nm_ hc1
  refine ab_ ?_
  refine aa_ kr_ ?_
  iterate 2 (refine aL_S rfl rfl v_ ?_)
  refine ac_ ?_
  refine aj_ ?_
  refine ai_ (σ' := σ) v_ sub_ ?_
  exact ⟨by rw [valM, if_neg (by rintro ⟨g1, g2⟩; simp [g1, g2] at hc1)], rfl⟩
 ·replace hc1 := nm_ hc1
  refine ae_ ?_
  refine ab_ ?_
  refine aa_ kr_ ?_
  (refine aL_S rfl rfl v_ ?_)
  refine ac_ ?_
  refine ab_ ?_
  refine ab_ ?_
  refine aa_ kr_ ?_
  iterate 2 (refine aL_S rfl rfl v_ ?_)
  refine ac_ ?_
  refine ad_ v_ (fun hc4 => ?_) (fun hc4 => ?_)
  ·replace hc4 := nm_ hc4
   obtain rfl : u = ⟨#[117, 112]⟩ := by rw [← hu, if_pos hc4]; rfl
   refine aa_ kr_ ?_
   (refine aL_S rfl rfl v_ ?_)
   refine ac_ ?_
   refine ab_ ?_
   have R := And.intro e1 (And.intro e2 (And.intro e3 e4))
   refine aa_ kr_ ?_
   iterate 11 (refine aL_S rfl rfl v_ ?_)
   refine ac_ ?_
   refine aj_ ?_
   refine ai_ (σ' := σ) v_ sub_ ?_
   exact ⟨by rw [valM, if_pos hc1, hu, fZ_], rfl⟩
  ·replace hc4 := nm_ hc4
   obtain rfl : u = ⟨#[100, 111, 119, 110]⟩ := by rw [← hu, if_neg (by simp [hc4])]; rfl
   refine ae_ ?_
   refine ab_ ?_
   have R := And.intro e1 (And.intro e2 (And.intro e3 e4))
   refine aa_ kr_ ?_
   iterate 11 (refine aL_S rfl rfl v_ ?_)
   refine ac_ ?_
   refine aj_ ?_
   refine ai_ (σ' := σ) v_ sub_ ?_
   exact ⟨by rw [valM, if_pos hc1, hu, fZ_], rfl⟩
theorem kw_ (a b f : ByteArray) : (⟨#[112, 114, 111, 112, 47]⟩ ++ a) ++ ⟨#[47]⟩ ++ b ++ ⟨#[47]⟩ ++ f = prpK a b f := by
 apply dY_
 unfold prpK cM_
 rw [a6_, a6_, a6_, a6_, a6_, Lb_B]
 simp [eH_, Lb, jZ_]
theorem kC_ (a b f : ByteArray) : (⟨#[97, 99, 108, 47]⟩ ++ a) ++ ⟨#[47]⟩ ++ b ++ ⟨#[47]⟩ ++ f = accK a b f := by
 apply dY_
 unfold accK cM_
 rw [a6_, a6_, a6_, a6_, a6_, Lb_B]
 simp [eH_, Lb, n7_]
theorem ma_ {a b f : ByteArray} {σ : Store} (ha : a.size ≤ 200000) (hb : b.size ≤ 200000) (hf : f.size ≤ 200000) : ap_ Tryz.prog 104 [vStr a, vStr b, vStr f] σ fun v σ' => v = vStr (prpK a b f) ∧ σ = σ' := by
 have s47 : (ByteArray.mk #[47]).size = 1 := rfl
 have s5 : (ByteArray.mk #[112, 114, 111, 112, 47]).size ≤ 5 := by decide
 have e1 := a1_ (⟨#[112, 114, 111, 112, 47]⟩) a (by omega)
 have e2 := a1_ (⟨#[112, 114, 111, 112, 47]⟩ ++ a) ⟨#[47]⟩ (by rw [ByteArray.size_append]; omega)
 have e3 := a1_ (⟨#[112, 114, 111, 112, 47]⟩ ++ a ++ ⟨#[47]⟩) b (by rw [ByteArray.size_append, ByteArray.size_append]; omega)
 have e4 := a1_ (⟨#[112, 114, 111, 112, 47]⟩ ++ a ++ ⟨#[47]⟩ ++ b) ⟨#[47]⟩ (by rw [ByteArray.size_append, ByteArray.size_append, ByteArray.size_append]; omega)
 have e5 := a1_ (⟨#[112, 114, 111, 112, 47]⟩ ++ a ++ ⟨#[47]⟩ ++ b ++ ⟨#[47]⟩) f (by rw [ByteArray.size_append, ByteArray.size_append, ByteArray.size_append, ByteArray.size_append]; omega)
 refine am_ Tryz.func104 rfl Tryz.ntmps104 (congrArg Array.toList Tryz.results104) (by simp only [List.length_cons, List.length_nil]; decide) ?_; simp only [ah_, al_, Nat.reduceAdd]
 refine ab_ ?_
 refine aa_ kr_ ?_
 (refine aL_S rfl rfl v_ ?_)
 refine ac_ ?_
 refine ab_ ?_
 have R := And.intro e1 (And.intro e2 (And.intro e3 (And.intro e4 e5)))
 refine aa_ kr_ ?_
 iterate 9 (refine aL_S rfl rfl v_ ?_)
 refine ac_ ?_
 refine aj_ ?_
 refine ai_ (σ' := σ) v_ sub_ ?_
 exact ⟨by rw [kw_], rfl⟩
theorem mr_ {a b f : ByteArray} {σ : Store} (ha : a.size ≤ 200000) (hb : b.size ≤ 200000) (hf : f.size ≤ 200000) : ap_ Tryz.prog 105 [vStr a, vStr b, vStr f] σ fun v σ' => v = vStr (accK a b f) ∧ σ = σ' := by
 have s47 : (ByteArray.mk #[47]).size = 1 := rfl
 have s5 : (ByteArray.mk #[97, 99, 108, 47]).size ≤ 5 := by decide
 have e1 := a1_ (⟨#[97, 99, 108, 47]⟩) a (by omega)
 have e2 := a1_ (⟨#[97, 99, 108, 47]⟩ ++ a) ⟨#[47]⟩ (by rw [ByteArray.size_append]; omega)
 have e3 := a1_ (⟨#[97, 99, 108, 47]⟩ ++ a ++ ⟨#[47]⟩) b (by rw [ByteArray.size_append, ByteArray.size_append]; omega)
 have e4 := a1_ (⟨#[97, 99, 108, 47]⟩ ++ a ++ ⟨#[47]⟩ ++ b) ⟨#[47]⟩ (by rw [ByteArray.size_append, ByteArray.size_append, ByteArray.size_append]; omega)
 have e5 := a1_ (⟨#[97, 99, 108, 47]⟩ ++ a ++ ⟨#[47]⟩ ++ b ++ ⟨#[47]⟩) f (by rw [ByteArray.size_append, ByteArray.size_append, ByteArray.size_append, ByteArray.size_append]; omega)
 refine am_ Tryz.func105 rfl Tryz.ntmps105 (congrArg Array.toList Tryz.results105) (by simp only [List.length_cons, List.length_nil]; decide) ?_; simp only [ah_, al_, Nat.reduceAdd]
 refine ab_ ?_
 refine aa_ kr_ ?_
 (refine aL_S rfl rfl v_ ?_)
 refine ac_ ?_
 refine ab_ ?_
 have R := And.intro e1 (And.intro e2 (And.intro e3 (And.intro e4 e5)))
 refine aa_ kr_ ?_
 iterate 9 (refine aL_S rfl rfl v_ ?_)
 refine ac_ ?_
 refine aj_ ?_
 refine ai_ (σ' := σ) v_ sub_ ?_
 exact ⟨by rw [kC_], rfl⟩
theorem ql_ {f : ByteArray} {n : Int} {σ : Store} : ap_ Tryz.prog 103 [vStr f, vInt n] σ fun v σ' => v = vB (mayP f n) ∧ σ = σ' := by
 refine am_ Tryz.func103 rfl Tryz.ntmps103 (congrArg Array.toList Tryz.results103) (by simp only [List.length_cons, List.length_nil]; decide) ?_; simp only [ah_, al_, Nat.reduceAdd]
 refine ab_ ?_
 refine aa_ kr_ ?_
 (refine aL_S rfl rfl v_ ?_)
 refine ac_ ?_
 refine ab_ ?_
 refine ab_ ?_
 refine aa_ kr_ ?_
 (refine aL_S rfl rfl v_ ?_)
 refine ac_ ?_
 refine ak_ ?_
 refine bi_ (ι := Bool) (fun b => b = decide (f = fdN ∨ f = fdR ∨ f = fdW)) (fun b => [(1, vInt n), (5, vStr f), (6, vB b)]) (fun b => σ) ?_ ?_
 ·refine ab_ ?_
  refine aa_ kr_ ?_
  iterate 2 (refine aL_S rfl rfl v_ ?_)
  refine ac_ ?_
  refine ad_ v_ (fun hc2 => ?_) (fun hc2 => ?_)
  ·replace hc2 := nm_ hc2
   refine ae_ ?_
   refine ⟨decide (f = fdN), ?_, ?_, ?_⟩
   ·simp [show f = fdN from hc2]
   ·exact cv_
   ·exact sub_
  ·replace hc2 := nm_ hc2
   refine ab_ ?_
   refine aa_ kr_ ?_
   iterate 2 (refine aL_S rfl rfl v_ ?_)
   refine ac_ ?_
   refine ad_ v_ (fun hc3 => ?_) (fun hc3 => ?_)
   ·replace hc3 := nm_ hc3
    refine ae_ ?_
    refine ⟨decide (f = fdR), ?_, ?_, ?_⟩
    ·simp [show f = fdR from hc3]
    ·exact cv_
    ·exact sub_
   ·replace hc3 := nm_ hc3
    refine aa_ kr_ ?_
    iterate 2 (refine aL_S rfl rfl v_ ?_)
    refine ac_ ?_
    refine ⟨decide (f = fdW), ?_, ?_, ?_⟩
    ·simp [show ¬ f = fdN from hc2, show ¬ f = fdR from hc3]
    ·exact cv_
    ·exact sub_
 ·rintro b rfl
  simp only [ar_, as_]
  refine ad_ v_ (fun hc4 => ?_) (fun hc4 => ?_)
  ·replace hc4 := nm_ hc4
   refine ab_ ?_
   refine aa_ kr_ ?_
   iterate 3 (refine aL_S rfl rfl v_ ?_)
   refine aC_ rfl rfl v_ rfl vg_ ?_
   refine aC_ rfl rfl v_ rfl vg_ ?_
   iterate 2 (refine aL_S rfl rfl v_ ?_)
   refine ac_ ?_
   refine aj_ ?_
   refine ai_ (σ' := σ) v_ sub_ ?_
   refine ⟨?_, rfl⟩
   rw [mayP, bdP, if_pos hc4]
   by_cases h1 : 1 ≤ n <;> by_cases h2 : n ≤ 16 <;> simp [h1, h2]
  ·replace hc4 := nm_ hc4
   refine bi_ (ι := Bool) (fun b => b = decide (f = fdPr ∨ f = fdPw)) (fun b => [(1, vInt n), (5, vStr f), (16, vB b)]) (fun b => σ) ?_ ?_
   ·refine ab_ ?_
    refine aa_ kr_ ?_
    iterate 2 (refine aL_S rfl rfl v_ ?_)
    refine ac_ ?_
    refine ad_ v_ (fun hc6 => ?_) (fun hc6 => ?_)
    ·replace hc6 := nm_ hc6
     refine ae_ ?_
     refine ⟨decide (f = fdPr), ?_, ?_, ?_⟩
     ·simp [show f = fdPr from hc6]
     ·exact cv_
     ·exact sub_
    ·replace hc6 := nm_ hc6
     refine aa_ kr_ ?_
     iterate 2 (refine aL_S rfl rfl v_ ?_)
     refine ac_ ?_
     refine ⟨decide (f = fdPw), ?_, ?_, ?_⟩
     ·simp [show ¬ f = fdPr from hc6]
     ·exact cv_
     ·exact sub_
   ·rintro b rfl
    simp only [ar_, as_]
    refine ad_ v_ (fun hc7 => ?_) (fun hc7 => ?_)
    ·replace hc7 := nm_ hc7
     refine ab_ ?_
     refine aa_ kr_ ?_
     iterate 3 (refine aL_S rfl rfl v_ ?_)
     refine aC_ rfl rfl v_ rfl vg_ ?_
     refine aC_ rfl rfl v_ rfl vg_ ?_
     iterate 2 (refine aL_S rfl rfl v_ ?_)
     refine ac_ ?_
     refine aj_ ?_
     refine ai_ (σ' := σ) v_ sub_ ?_
     refine ⟨?_, rfl⟩
     rw [mayP, bdP, if_neg hc4, if_pos hc7]
     by_cases h1 : 0 ≤ n <;> by_cases h2 : n ≤ 16 <;> simp [h1, h2]
    ·replace hc7 := nm_ hc7
     refine bi_ (ι := Bool) (fun b => b = decide (f = hg_ ∨ f = hh_ ∨ f = lm_)) (fun b => [(1, vInt n), (5, vStr f), (25, vB b)]) (fun b => σ) ?_ ?_
     ·refine ab_ ?_
      refine aa_ kr_ ?_
      iterate 2 (refine aL_S rfl rfl v_ ?_)
      refine ac_ ?_
      refine ad_ v_ (fun hc9 => ?_) (fun hc9 => ?_)
      ·replace hc9 := nm_ hc9
       refine ae_ ?_
       refine ⟨decide (f = hg_), ?_, ?_, ?_⟩
       ·simp [show f = hg_ from hc9]
       ·exact cv_
       ·exact sub_
      ·replace hc9 := nm_ hc9
       refine ab_ ?_
       refine aa_ kr_ ?_
       iterate 2 (refine aL_S rfl rfl v_ ?_)
       refine ac_ ?_
       refine ad_ v_ (fun hc10 => ?_) (fun hc10 => ?_)
       ·replace hc10 := nm_ hc10
        refine ae_ ?_
        refine ⟨decide (f = hh_), ?_, ?_, ?_⟩
        ·simp [show f = hh_ from hc10]
        ·exact cv_
        ·exact sub_
       ·replace hc10 := nm_ hc10
        refine aa_ kr_ ?_
        iterate 2 (refine aL_S rfl rfl v_ ?_)
        refine ac_ ?_
        refine ⟨decide (f = lm_), ?_, ?_, ?_⟩
        ·simp [show ¬ f = hg_ from hc9, show ¬ f = hh_ from hc10]
        ·exact cv_
        ·exact sub_
     ·rintro b rfl
      simp only [ar_, as_]
      refine ad_ v_ (fun hc11 => ?_) (fun hc11 => ?_)
      ·replace hc11 := nm_ hc11
       refine ab_ ?_
       refine aa_ kr_ ?_
       iterate 3 (refine aL_S rfl rfl v_ ?_)
       refine aw_ rfl rfl v_ rfl vg_ ?_
       refine aw_ rfl rfl v_ rfl vg_ ?_
       iterate 2 (refine aL_S rfl rfl v_ ?_)
       refine ac_ ?_
       refine aj_ ?_
       refine ai_ (σ' := σ) v_ sub_ ?_
       refine ⟨?_, rfl⟩
       rw [mayP, bdP, if_neg hc4, if_neg hc7, if_pos hc11]
       by_cases h1 : n = 0
       ·subst h1; rfl
       ·by_cases h2 : n = 1
        ·subst h2; rfl
        ·simp [h1, h2]; omega
      ·replace hc11 := nm_ hc11
       refine ae_ ?_
       refine ab_ ?_
       refine aa_ kr_ ?_
       (refine aL_S rfl rfl v_ ?_)
       refine ac_ ?_
       refine aj_ ?_
       refine ai_ (σ' := σ) v_ sub_ ?_
       exact ⟨by rw [mayP, bdP, if_neg hc4, if_neg hc7, if_neg hc11]; rfl, rfl⟩
theorem na_ {n : Nat} {σ : Store} (hn : n < 8) : ap_ Tryz.prog 106 [vInt n] σ fun v σ' => v = vStr (txtA n) ∧ σ = σ' := by
 have b1 := oW_
 have e1 : ∀ l : List UInt8, l.length ≤ 3 → ∀ c, astr .add (B l) ⟨#[c]⟩ = some (.string (B (l ++ [c]))) := fun l hl c => by
  rw [a1_ _ _ (by rw [cr_, show (ByteArray.mk #[c]).size = 1 from rfl]; omega), show (⟨#[c]⟩ : ByteArray) = B [c] from rfl, d5_]
 refine am_ Tryz.func106 rfl Tryz.ntmps106 (congrArg Array.toList Tryz.results106) (by simp only [List.length_cons, List.length_nil]; decide) ?_; simp only [ah_, al_, Nat.reduceAdd]
 refine ab_ ?_
 refine aa_ kr_ ?_
 (refine aL_S rfl rfl v_ ?_)
 refine ac_ ?_
 refine ab_ ?_
 refine ab_ ?_
 refine aa_ kr_ ?_
 iterate 3 (refine aL_S rfl rfl v_ ?_)
 refine aw_ rfl rfl v_ rfl vg_ ?_
 refine aw_ rfl rfl v_ rfl vg_ ?_
 (refine aL_S rfl rfl v_ ?_)
 refine ac_ ?_
 refine ad_ v_ (fun hc1 => ?_) (fun hc1 => ?_)
 ·replace hc1 := nm_ hc1
  omega
 ·replace hc1 := nm_ hc1
  refine ae_ ?_
  refine ab_ ?_
  refine aa_ kr_ ?_
  refine aL_X rfl rfl (bM_ (a := vStr (B [])) (by rfl) ?_)
  refine ac_ ?_
  refine bi_ (ι := List UInt8) (fun l => l = if n % 2 = 1 then [114] else []) (fun l => [(0, vInt n), (3, vStr (B l))]) (fun l => σ) ?_ ?_
  ·refine ab_ ?_
   have R := b1
   refine aa_ kr_ ?_
   iterate 3 (refine aL_S rfl rfl v_ ?_)
   refine ac_ ?_
   refine ad_ v_ (fun hc4 => ?_) (fun hc4 => ?_)
   ·replace hc4 := nm_ hc4
    have R := e1
    refine aa_ kr_ ?_
    iterate 3 (refine aL_S rfl rfl v_ ?_)
    refine ac_ ?_
    refine ⟨[114], ?_, ?_, ?_⟩
    ·rw [if_pos (by omega)]
    ·exact cv_
    ·exact sub_
   ·replace hc4 := nm_ hc4
    refine ae_ ?_
    refine ⟨[], ?_, ?_, ?_⟩
    ·rw [if_neg (by omega)]
    ·exact cv_
    ·exact sub_
  ·rintro l hl1
   simp only [ar_, as_]
   refine bi_ (ι := List UInt8) (fun l => l = (if n % 2 = 1 then [114] else []) ++ (if n / 2 % 2 = 1 then [119] else [])) (fun l => [(0, vInt n), (3, vStr (B l))]) (fun l => σ) ?_ ?_
   ·refine ab_ ?_
    have hz1 : l.length ≤ 1 := by rw [hl1]; split <;> simp
    have R := b1
    refine aa_ kr_ ?_
    iterate 4 (refine aL_S rfl rfl v_ ?_)
    refine ac_ ?_
    refine ad_ v_ (fun hc6 => ?_) (fun hc6 => ?_)
    ·replace hc6 := nm_ hc6
     have R := e1
     refine aa_ kr_ ?_
     iterate 3 (refine aL_S rfl rfl v_ ?_)
     refine ac_ ?_
     refine ⟨l ++ [119], ?_, ?_, ?_⟩
     ·rw [if_pos (c := n / 2 % 2 = 1) (by omega), hl1]
     ·exact cv_
     ·exact sub_
    ·replace hc6 := nm_ hc6
     refine ae_ ?_
     refine ⟨l, ?_, ?_, ?_⟩
     ·rw [if_neg (c := n / 2 % 2 = 1) (by omega), hl1, List.append_nil]
     ·exact cv_
     ·exact sub_
   ·rintro l hl2
    simp only [ar_, as_]
    refine ab_ ?_
    refine ab_ ?_
    skip
    have hz2 : l.length ≤ 2 := by
     rw [hl2, List.length_append]
     have u1 : (if n % 2 = 1 then [114] else [] : List UInt8).length ≤ 1 := by split <;> simp
     have u2 : (if n / 2 % 2 = 1 then [119] else [] : List UInt8).length ≤ 1 := by split <;> simp
     omega
    have R := b1
    refine aa_ kr_ ?_
    iterate 4 (refine aL_S rfl rfl v_ ?_)
    refine ac_ ?_
    refine ad_ v_ (fun hc8 => ?_) (fun hc8 => ?_)
    ·replace hc8 := nm_ hc8
     have R := e1
     refine aa_ kr_ ?_
     iterate 3 (refine aL_S rfl rfl v_ ?_)
     refine ac_ ?_
     refine ab_ ?_
     refine aa_ kr_ ?_
     iterate 2 (refine aL_S rfl rfl v_ ?_)
     refine ac_ ?_
     refine aj_ ?_
     refine ai_ (σ' := σ) v_ sub_ ?_
     exact ⟨by rw [txtA, ← List.append_assoc, ← hl2, if_pos (c := n / 4 % 2 = 1) (by omega)], rfl⟩
    ·replace hc8 := nm_ hc8
     refine ae_ ?_
     refine ab_ ?_
     refine aa_ kr_ ?_
     iterate 2 (refine aL_S rfl rfl v_ ?_)
     refine ac_ ?_
     refine aj_ ?_
     refine ai_ (σ' := σ) v_ sub_ ?_
     exact ⟨by rw [txtA, ← List.append_assoc, ← hl2, if_neg (c := n / 4 % 2 = 1) (by omega), List.append_nil], rfl⟩
theorem lz_ {l : List Ent} {t : Bool} {who a b f : ByteArray} {n : Int} {σ : Store} (hs : ∀ x ∈ l, EntSm x) (hl : l.length ≤ 1000000) (h2 : who.size ≤ 1000000) (h3 : a.size ≤ 200000) (h4 : b.size ≤ 200000) (h5 : f.size ≤ 200000) (h0 : -9223372036854775808 ≤ n) (h1 : n ≤ 9223372036854775807) : ap_ Tryz.prog 44 [.sl 4 (l.map sEnt) t, vStr who, vStr a, vStr b, vStr f, vInt n] σ fun r σ' => r = .tup [sEnt (dl_ l who a b f n).1, vInt (dl_ l who a b f n).2] ∧ σ = σ' := by
 refine am_ Tryz.func44 rfl Tryz.ntmps44 (congrArg Array.toList Tryz.results44) (by simp only [List.length_cons, List.length_nil]; decide) ?_; simp only [ah_, al_, Nat.reduceAdd]
 refine ab_ ?_
 refine aa_ kr_ ?_
 refine aR_ rfl rfl rfl g_ gl_ fun o12 ho12 => ?_
 repeat (rw [an_] at ho12; obtain ⟨_, ho12⟩ := ho12)
 (refine aL_S rfl rfl v_ ?_)
 refine ac_ ?_
 refine ab_ ?_
 refine ab_ ?_
 refine aa_ kr_ ?_
 (refine aL_S rfl rfl v_ ?_)
 refine aL_X rfl rfl (ag_ rfl rfl (.inr ⟨rfl, rfl, rfl⟩) g_ va_ (du_ (by omega)) ?_); rintro _ _ ⟨rfl, rfl⟩
 iterate 2 (refine aL_S rfl rfl v_ ?_)
 refine aw_ rfl rfl v_ rfl vg_ ?_
 refine bs_ rfl rfl v_ rfl (fun hb => aG_ (by rfl) (by rfl) (.inr ⟨by rfl, by rfl, by rfl⟩) g_ cg_ (du_ (by omega))) ?_
 refine aw_ rfl rfl v_ rfl vg_ ?_
 iterate 2 (refine aL_S rfl rfl v_ ?_)
 refine aw_ rfl rfl v_ rfl vg_ ?_
 refine aw_ rfl rfl v_ rfl vg_ ?_
 refine bs_ rfl rfl v_ rfl (fun hb => aG_ (by rfl) (by rfl) (.inr ⟨by rfl, by rfl, by rfl⟩) g_ cg_ (ql_)) ?_
 refine aw_ rfl rfl v_ rfl vg_ ?_
 (refine aL_S rfl rfl v_ ?_)
 refine ac_ ?_
 refine ad_ v_ (fun hc1 => ?_) (fun hc1 => ?_)
 ·replace hc1 := nm_ hc1
  refine ab_ ?_
  refine aa_ kr_ ?_
  (refine aL_S rfl rfl v_ ?_)
  refine ax_ rfl rfl rfl v_ v_ h_ g_ rfl g_ c_ (by rfl) le_ v_ ?_
  (refine aL_S rfl rfl v_ ?_)
  refine ac_ ?_
  refine aj_ ?_
  refine ai_ (σ' := σ) v_ sub_ ?_
  exact ⟨by rw [dl_, if_neg (by rintro ⟨g1, g2, g3⟩; simp [g1, g2, g3] at hc1)]; rfl, rfl⟩
 ·replace hc1 := nm_ hc1
  refine ae_ ?_
  refine ab_ ?_
  refine aa_ kr_ ?_
  iterate 5 (refine aL_S rfl rfl v_ ?_)
  refine aL_X rfl rfl (ag_ rfl rfl (.inr ⟨rfl, rfl, rfl⟩) g_ va_ (ma_ h3 h4 h5) ?_); rintro _ _ ⟨rfl, rfl⟩
  (refine aL_S rfl rfl v_ ?_)
  refine aL_X rfl rfl (ag_ rfl rfl (.inr ⟨rfl, rfl, rfl⟩) g_ va_ (mL_ h0 h1) ?_); rintro _ _ ⟨rfl, rfl⟩
  refine aL_X rfl rfl (ag_ rfl rfl (.inr ⟨rfl, rfl, rfl⟩) g_ va_ (eK_ hs hl h2) ?_); rintro _ _ ⟨rfl, rfl⟩
  iterate 2 (refine aL_S rfl rfl v_ ?_)
  refine ax_ rfl rfl rfl v_ v_ h_ g_ rfl g_ c_ (by rfl) le_ v_ ?_
  (refine aL_S rfl rfl v_ ?_)
  refine ac_ ?_
  refine aj_ ?_
  refine ai_ (σ' := σ) v_ sub_ ?_
  exact ⟨by rw [dl_, if_pos ⟨hc1.1.1, hc1.1.2, hc1.2⟩], rfl⟩
theorem l4_ {l : List Ent} {t : Bool} {who a b f : ByteArray} {n : Int} {σ : Store} (hs : ∀ x ∈ l, EntSm x) (hl : l.length ≤ 1000000) (h2 : who.size ≤ 1000000) (h3 : a.size ≤ 200000) (h4 : b.size ≤ 200000) (h5 : f.size ≤ 200000) : ap_ Tryz.prog 45 [.sl 4 (l.map sEnt) t, vStr who, vStr a, vStr b, vStr f, vInt n] σ fun r σ' => r = .tup [sEnt (de_ l who a b f n).1, vInt (de_ l who a b f n).2] ∧ σ = σ' := by
 refine am_ Tryz.func45 rfl Tryz.ntmps45 (congrArg Array.toList Tryz.results45) (by simp only [List.length_cons, List.length_nil]; decide) ?_; simp only [ah_, al_, Nat.reduceAdd]
 refine ab_ ?_
 refine aa_ kr_ ?_
 refine aR_ rfl rfl rfl g_ gl_ fun o12 ho12 => ?_
 repeat (rw [an_] at ho12; obtain ⟨_, ho12⟩ := ho12)
 (refine aL_S rfl rfl v_ ?_)
 refine ac_ ?_
 refine ab_ ?_
 refine ab_ ?_
 refine aa_ kr_ ?_
 (refine aL_S rfl rfl v_ ?_)
 refine aL_X rfl rfl (ag_ rfl rfl (.inr ⟨rfl, rfl, rfl⟩) g_ va_ (du_ (by omega)) ?_); rintro _ _ ⟨rfl, rfl⟩
 iterate 2 (refine aL_S rfl rfl v_ ?_)
 refine aw_ rfl rfl v_ rfl vg_ ?_
 refine bs_ rfl rfl v_ rfl (fun hb => aG_ (by rfl) (by rfl) (.inr ⟨by rfl, by rfl, by rfl⟩) g_ cg_ (du_ (by omega))) ?_
 refine aw_ rfl rfl v_ rfl vg_ ?_
 iterate 2 (refine aL_S rfl rfl v_ ?_)
 refine aw_ rfl rfl v_ rfl vg_ ?_
 refine bs_ rfl rfl v_ rfl (fun hb => aG_ (by rfl) (by rfl) (.inr ⟨by rfl, by rfl, by rfl⟩) g_ cg_ (du_ (by omega))) ?_
 refine aw_ rfl rfl v_ rfl vg_ ?_
 iterate 2 (refine aL_S rfl rfl v_ ?_)
 refine aw_ rfl rfl v_ rfl vg_ ?_
 refine aw_ rfl rfl v_ rfl vg_ ?_
 iterate 2 (refine aL_S rfl rfl v_ ?_)
 refine aw_ rfl rfl v_ rfl vg_ ?_
 refine aw_ rfl rfl v_ rfl vg_ ?_
 (refine aL_S rfl rfl v_ ?_)
 refine ac_ ?_
 refine ad_ v_ (fun hc1 => ?_) (fun hc1 => ?_)
 ·replace hc1 := nm_ hc1
  refine ab_ ?_
  refine aa_ kr_ ?_
  (refine aL_S rfl rfl v_ ?_)
  refine ax_ rfl rfl rfl v_ v_ h_ g_ rfl g_ c_ (by rfl) le_ v_ ?_
  (refine aL_S rfl rfl v_ ?_)
  refine ac_ ?_
  refine aj_ ?_
  refine ai_ (σ' := σ) v_ sub_ ?_
  exact ⟨by rw [de_, if_neg (by rintro ⟨g1, g2, g3, g4, g5⟩; simp [g1, g2, g3] at hc1; omega)]; rfl, rfl⟩
 ·replace hc1 := nm_ hc1
  obtain ⟨k, rfl⟩ : ∃ k : Nat, n = k := ⟨n.toNat, by omega⟩
  refine ae_ ?_
  refine ab_ ?_
  refine aa_ kr_ ?_
  iterate 5 (refine aL_S rfl rfl v_ ?_)
  refine aL_X rfl rfl (ag_ rfl rfl (.inr ⟨rfl, rfl, rfl⟩) g_ va_ (mr_ h3 h4 h5) ?_); rintro _ _ ⟨rfl, rfl⟩
  (refine aL_S rfl rfl v_ ?_)
  refine aL_X rfl rfl (ag_ rfl rfl (.inr ⟨rfl, rfl, rfl⟩) g_ va_ (na_ (by omega)) ?_); rintro _ _ ⟨rfl, rfl⟩
  refine aL_X rfl rfl (ag_ rfl rfl (.inr ⟨rfl, rfl, rfl⟩) g_ va_ (eK_ hs hl h2) ?_); rintro _ _ ⟨rfl, rfl⟩
  iterate 2 (refine aL_S rfl rfl v_ ?_)
  refine ax_ rfl rfl rfl v_ v_ h_ g_ rfl g_ c_ (by rfl) le_ v_ ?_
  (refine aL_S rfl rfl v_ ?_)
  refine ac_ ?_
  refine aj_ ?_
  refine ai_ (σ' := σ) v_ sub_ ?_
  exact ⟨by rw [de_, if_pos ⟨hc1.1.1.1.1, hc1.1.1.1.2, hc1.1.1.2, by omega, by omega⟩]; rfl, rfl⟩
def fin (s : List Ent × Int) : List Ent × Int := if s.2 = 0 then (s.1, 0) else ([], s.2)
theorem e1_ {x : Ent} {e : Int} {σ : Store} : ap_ Tryz.prog 41 [sEnt x, vInt e] σ fun v σ' => v = .tup [.sl 4 ((fin ([x], e)).1.map sEnt) false, vInt (fin ([x], e)).2] ∧ σ = σ' := by
 refine am_ Tryz.func41 rfl Tryz.ntmps41 (congrArg Array.toList Tryz.results41) (by simp only [List.length_cons, List.length_nil]; decide) ?_; simp only [ah_, al_, Nat.reduceAdd]
 refine ab_ ?_
 refine aa_ kr_ ?_
 refine bj_ rfl rfl rfl v_ rfl g_ fun o2 ho2 => ?_
 repeat (rw [an_] at ho2; obtain ⟨_, ho2⟩ := ho2)
 iterate 2 (refine aL_S rfl rfl v_ ?_)
 refine ac_ ?_
 refine ab_ ?_
 refine ab_ ?_
 refine aa_ kr_ ?_
 iterate 2 (refine aL_S rfl rfl v_ ?_)
 refine ac_ ?_
 refine ad_ v_ (fun hc1 => ?_) (fun hc1 => ?_)
 ·replace hc1 := nm_ hc1
  refine ab_ ?_
  refine aa_ kr_ ?_
  iterate 3 (refine aL_S rfl rfl v_ ?_)
  refine ac_ ?_
  refine aj_ ?_
  rw [show fin ([x], e) = ([], e) from if_neg hc1]
  exact aF_ (v := .tup [.sl 4 [] false, vInt e]) (v' := .tup [vNil, vInt e]) va_ (bm_ _) sub_ ⟨rfl, rfl⟩
 ·replace hc1 := nm_ hc1
  obtain rfl : e = 0 := by simpa using hc1
  refine ae_ ?_
  refine ab_ ?_
  refine aa_ kr_ ?_
  (refine aL_S rfl rfl v_ ?_)
  refine au_ rfl rfl rfl g_ g_ rfl rfl h_ c2_ (by decide) ?_
  iterate 2 (refine aL_S rfl rfl v_ ?_)
  refine ac_ ?_
  refine aj_ ?_
  exact aF_ (v := .tup [.sl 4 [sEnt x] false, vInt 0]) (v' := .tup [.sl 4 [sEnt x] true, vInt 0]) va_ (mI_ 0 (.sl1 _ _ _)) sub_ ⟨rfl, rfl⟩
theorem fd_ {ms : List Mbr} {t : Bool} {σ : Store} (hl : ms.length ≤ 1000) : ap_ Tryz.prog 63 [.sl 4 (ms.map sMbr) t] σ fun v σ' => v = .sl 1 ((ms.map Mbr.name).map vStr) false ∧ σ = σ' := by
 refine am_ Tryz.func63 rfl Tryz.ntmps63 (congrArg Array.toList Tryz.results63) (by simp only [List.length_cons, List.length_nil]; decide) ?_; simp only [ah_, al_, Nat.reduceAdd]
 refine ab_ ?_
 refine aa_ kr_ ?_
 (refine aL_S rfl rfl v_ ?_)
 refine ac_ ?_
 refine ab_ ?_
 refine aa_ kr_ ?_
 refine bp_ 9 1 rfl rfl rfl (by rfl) fun k3 hk3 => ?_
 refine ac_ ?_
 refine ab_ ?_
 refine ab_ ?_
 refine aa_ kr_ ?_
 (refine aL_S rfl rfl v_ ?_)
 refine ac_ ?_
 refine ak_ ?_
 refine ao_ (ι := Nat × Nat) (fun ⟨tk, j⟩ => ms.length - j) (fun ⟨tk, j⟩ => j ≤ ms.length ∧ σ.tok tk = none) (fun ⟨tk, j⟩ => [(0, .sl 4 (ms.map sMbr) t), (3, .own tk 1 (((ms.take j).map Mbr.name).map vStr)), (4, vInt j)]) (fun ⟨tk, j⟩ => (σ.newTok none tk (9, 1))) (k3, 0) ?_ ?_ ?_ ?_
 ·exact ⟨Nat.zero_le _, hk3⟩
 ·exact cv_
 ·exact Store.Wk.refl _
 rintro ⟨tk, j⟩ ⟨hj, htk⟩
 simp only [ar_, as_]
 refine ab_ ?_
 refine ab_ ?_
 refine aa_ kr_ ?_
 iterate 4 (refine aL_S rfl rfl v_ ?_)
 refine ac_ ?_
 refine ad_ v_ (fun hc3 => ?_) (fun hc3 => ?_)
 ·replace hc3 := nm_ hc3
  refine ae_ ?_
  refine ab_ ?_
  refine ak_ ?_
  obtain ⟨m, hm'⟩ := aA_ (l := ms) (k := j) (by omega)
  have hnx : (((ms.take (j + 1)).map Mbr.name).map vStr) = (((ms.take j).map Mbr.name).map vStr) ++ [vStr m.name] := by rw [aM_ hm']; simp
  have R := hm'
  refine aa_ kr_ ?_
  iterate 6 (refine aL_S rfl rfl v_ ?_)
  refine au_ rfl rfl rfl g_ g_ rfl rfl h_ c2_ (by decide) ?_
  refine aP_ rfl rfl rfl g_ g_ v_ h_ v_ c_ (by simp only [List.length_map, List.length_take, List.length_append, List.length_singleton]; omega) fun k18 hk18 => ?_
  (refine aL_S rfl rfl v_ ?_)
  refine ac_ ?_
  refine aa_ kr_ ?_
  iterate 3 (refine aL_S rfl rfl v_ ?_)
  refine ac_ ?_
  refine aI_ (ι := Nat × Nat) (i := ⟨tk, j⟩) (k18, j + 1) ?_ ?_ ?_ ?_
  ·show ms.length - (j + 1) < ms.length - j; omega
  ·exact ⟨by show j + 1 ≤ ms.length; omega, (aJ_ hk18).2⟩
  ·have R := hnx; exact cv_
  ·exact sub_
 ·replace hc3 := nm_ hc3
  refine av_ ?_
  refine af_ ?_
  refine af_ ?_
  refine aq_ ?_
  refine ab_ ?_
  obtain rfl : j = ms.length := by omega
  rw [List.take_length]
  refine aa_ kr_ ?_
  iterate 2 (refine aL_S rfl rfl v_ ?_)
  refine ac_ ?_
  refine aj_ ?_
  exact aF_ (v := .sl 1 ((ms.map Mbr.name).map vStr) false) (v' := .own tk 1 ((ms.map Mbr.name).map vStr)) va_ (.own1 _ _ _) sub_ ⟨rfl, rfl⟩
theorem p5_ {a b : List ByteArray} {ta tb : Bool} {σ : Store} (ha : a.length ≤ 1000) (hb : b.length = a.length) : ap_ Tryz.prog 107 [.sl 1 (a.map vStr) ta, .sl 1 (b.map vStr) tb] σ fun v σ' => v = .sl 3 ((dK_ a b).map sMv) false ∧ σ = σ' := by
 refine fJ_ (sz := 3) ?_ (szMv _)
 refine am_ Tryz.func107 rfl Tryz.ntmps107 (congrArg Array.toList Tryz.results107) (by simp only [List.length_cons, List.length_nil]; decide) ?_; simp only [ah_, al_, Nat.reduceAdd]
 refine ab_ ?_
 refine aa_ kr_ ?_
 (refine aL_S rfl rfl v_ ?_)
 refine ac_ ?_
 refine ab_ ?_
 refine aa_ kr_ ?_
 (refine aL_S rfl rfl v_ ?_)
 refine ac_ ?_
 refine ab_ ?_
 refine ab_ ?_
 refine aa_ kr_ ?_
 (refine aL_S rfl rfl v_ ?_)
 refine ac_ ?_
 refine ak_ ?_
 refine ao_ (ι := Store × AVal × Nat) (fun ⟨τ, g, k⟩ => a.length - k) (fun ⟨τ, g, k⟩ => k ≤ a.length ∧ CBp σ τ 3 ((bg_ 0 (a.take k) (b.take k)).map sMv) g) (fun ⟨τ, g, k⟩ => [(0, .sl 1 (a.map vStr) ta), (1, .sl 1 (b.map vStr) tb), (5, g), (6, vInt k)]) (fun ⟨τ, g, k⟩ => τ) (σ, vNil, 0) ?_ ?_ ?_ ?_
 ·exact ⟨Nat.zero_le _, .inl ⟨rfl, rfl, rfl⟩⟩
 ·exact cv_
 ·exact Store.Wk.refl _
 rintro ⟨τ, g, k⟩ ⟨hk, hC⟩
 simp only [ar_, as_]
 refine ab_ ?_
 refine ab_ ?_
 refine aa_ kr_ ?_
 iterate 5 (refine aL_S rfl rfl v_ ?_)
 refine aC_ rfl rfl v_ rfl vg_ ?_
 refine aC_ rfl rfl v_ rfl vg_ ?_
 refine aC_ rfl rfl v_ rfl vg_ ?_
 refine aC_ rfl rfl v_ rfl vg_ ?_
 (refine aL_S rfl rfl v_ ?_)
 refine ac_ ?_
 refine ad_ v_ (fun hc3 => ?_) (fun hc3 => ?_)
 ·replace hc3 := nm_ hc3
  refine ae_ ?_
  refine ab_ ?_
  refine ak_ ?_
  refine ab_ ?_
  obtain ⟨x, hx⟩ := aA_ (l := a) (k := k) (by omega)
  obtain ⟨y, hy⟩ := aA_ (l := b) (k := k) (by omega)
  have hst := fS_ (j := 0) hx hy
  have hle := do_ 0 (a.take k) (b.take k)
  rw [List.length_take] at hle
  have R := And.intro hx hy
  refine aE_ (.op 0 0 (.op 1 0 (.op 2 0 (.op 3 0 (.op 4 0 (.op 5 0 (.op 6 0 (.op 7 0 (.op 8 0 .nil))))))))) Tryz.mixed kr_ ?_
  iterate 9 (refine dR_S o_ (by rfl) (by rfl) v_ ?_)
  refine aK_ ?_
  refine ad_ v_ (fun hc5 => ?_) (fun hc5 => ?_)
  ·replace hc5 := nm_ hc5
   have hsn : bg_ 0 (a.take (k + 1)) (b.take (k + 1)) = bg_ 0 (a.take k) (b.take k) ++ [⟨k, x, y⟩] := by rw [hst, if_neg hc5, Nat.zero_add]
   have R := And.intro hx hy
   refine aE_ (.op 0 0 (.op 1 0 (.op 2 0 (.op 3 0 (.op 4 0 (.op 5 0 (.op 6 0 (.op 7 0 (.op 8 0 (.op 9 0 (.op 10 0 (.op 11 1 (.op 12 2 (.op 13 0 .nil)))))))))))))) Tryz.mixed kr_ ?_
   iterate 11 (refine dR_S o_ (by rfl) (by rfl) v_ ?_)
   refine dR_X o_ (by rfl) (by rfl) (aU_ (by rfl) g_ g_ (by rfl) (by rfl) h_ c2_ (by decide) ⟨sub_, ?_⟩)
   refine dR_T o_ (by rfl) (by rfl) (a9_ (by rfl) g_ g_ hC va_ (szMv _) va_ c_ (by simp; omega) fun a' τ2 hC3 => ?_)
   rw [show (bg_ 0 (a.take k) (b.take k)).map sMv ++ [sMv ⟨k, x, y⟩] = (bg_ 0 (a.take k) (b.take k) ++ [(⟨k, x, y⟩ : Mv)]).map sMv from by simp] at hC3
   (refine dR_S o_ (by rfl) (by rfl) v_ ?_)
   refine aK_ ?_
   refine aa_ kr_ ?_
   iterate 3 (refine aL_S rfl rfl v_ ?_)
   refine ac_ ?_
   refine aI_ (ι := Store × AVal × Nat) (i := ⟨τ, g, k⟩) (τ2, a', k + 1) ?_ ?_ ?_ ?_
   ·show a.length - (k + 1) < a.length - k; omega
   ·exact ⟨by show k + 1 ≤ a.length; omega, by rw [hsn]; exact hC3⟩
   ·exact cv_
   ·exact Store.Wk.refl _
  ·replace hc5 := nm_ hc5
   have hsn : bg_ 0 (a.take (k + 1)) (b.take (k + 1)) = bg_ 0 (a.take k) (b.take k) := by rw [hst, if_pos (by simpa using hc5), List.append_nil]
   refine ae_ ?_
   refine aa_ kr_ ?_
   iterate 3 (refine aL_S rfl rfl v_ ?_)
   refine ac_ ?_
   refine aI_ (ι := Store × AVal × Nat) (i := ⟨τ, g, k⟩) (τ, g, k + 1) ?_ ?_ ?_ ?_
   ·show a.length - (k + 1) < a.length - k; omega
   ·exact ⟨by show k + 1 ≤ a.length; omega, by rw [hsn]; exact hC⟩
   ·exact cv_
   ·exact sub_
 ·replace hc3 := nm_ hc3
  refine av_ ?_
  refine af_ ?_
  refine af_ ?_
  refine aq_ ?_
  refine ab_ ?_
  obtain rfl : k = a.length := by omega
  rw [List.take_length, List.take_of_length_le (by omega)] at hC
  refine aa_ kr_ ?_
  iterate 2 (refine aL_S rfl rfl v_ ?_)
  refine ac_ ?_
  refine aj_ ?_
  refine ai_ v_ (Store.Wk.refl _) ?_
  exact ⟨_, hC, .refl _⟩
end Go.Proofs.YtkcmbjodladflaaGreatDoor
end

section
set_option linter.all false
set_option maxRecDepth 100000
namespace Go.Proofs.YtkcmbjodladflaaGreatDoor
open Go.Ab
theorem he_ {r : Ent × Int} : bX_ ([], 0) r = ([r.1], r.2) := by simp [bX_]
theorem i2_ {l : List Ent} {t : Bool} {who : ByteArray} {m : Mbr} {σ : Store} (hs : ∀ x ∈ l, EntSm x) (hl : l.length ≤ 1000000) (h2 : who.size ≤ 1000000) (m1 : m.name.size ≤ 100000) (m2 : m.rack.size ≤ 100000) (m3 : m.zone.size ≤ 100000) : ap_ Tryz.prog 46 [.sl 4 (l.map sEnt) t, vStr who, sMbr m] σ fun v σ' => v = .tup [.sl 4 ((fin (bO_ l who m)).1.map sEnt) false, vInt (fin (bO_ l who m)).2] ∧ σ = σ' := by
 have hv : (valM m).2 = 0 ∨ (valM m).2 = 1 := by unfold valM; split; exact .inl rfl; exact .inr rfl
 refine am_ Tryz.func46 rfl Tryz.ntmps46 (congrArg Array.toList Tryz.results46) (by simp only [List.length_cons, List.length_nil]; decide) ?_; simp only [ah_, al_, Nat.reduceAdd]
 refine ab_ ?_
 refine aa_ kr_ ?_
 refine bj_ rfl rfl rfl v_ rfl g_ fun o5 ho5 => ?_
 repeat (rw [an_] at ho5; obtain ⟨_, ho5⟩ := ho5)
 iterate 2 (refine aL_S rfl rfl v_ ?_)
 refine ac_ ?_
 refine ab_ ?_
 refine ab_ ?_
 refine aa_ kr_ ?_
 iterate 2 (refine aL_S rfl rfl v_ ?_)
 refine aL_X rfl rfl (ag_ rfl rfl (.inr ⟨rfl, rfl, rfl⟩) g_ va_ (du_ (by omega)) ?_); rintro _ _ ⟨rfl, rfl⟩
 (refine aL_S rfl rfl v_ ?_)
 refine ac_ ?_
 refine ad_ v_ (fun hc1 => ?_) (fun hc1 => ?_)
 ·replace hc1 := nm_ hc1
  refine ab_ ?_
  refine aa_ kr_ ?_
  iterate 2 (refine aL_S rfl rfl v_ ?_)
  refine ac_ ?_
  refine aj_ ?_
  rw [show bO_ l who m = ([], 1) from by rw [bO_, if_neg (by rintro ⟨g1, g2⟩; simp [g1] at hc1)]]
  exact aF_ (v := .tup [.sl 4 [] false, vInt 1]) (v' := .tup [vNil, vInt 1]) va_ (bm_ _) sub_ ⟨rfl, rfl⟩
 ·replace hc1 := nm_ hc1
  refine ae_ ?_
  refine ab_ ?_
  refine aa_ kr_ ?_
  (refine aL_S rfl rfl v_ ?_)
  refine aL_X rfl rfl (ag_ rfl rfl (.inr ⟨rfl, rfl, rfl⟩) g_ va_ (gM_ (m := m) (by omega) (by omega)) ?_); rintro _ _ ⟨rfl, rfl⟩
  iterate 5 (refine aL_S rfl rfl v_ ?_)
  refine ac_ ?_
  refine ab_ ?_
  refine ab_ ?_
  refine aa_ kr_ ?_
  iterate 2 (refine aL_S rfl rfl v_ ?_)
  refine ac_ ?_
  refine ad_ v_ (fun hc4 => ?_) (fun hc4 => ?_)
  ·replace hc4 := nm_ hc4
   refine ab_ ?_
   refine aa_ kr_ ?_
   iterate 3 (refine aL_S rfl rfl v_ ?_)
   refine ac_ ?_
   refine aj_ ?_
   obtain h1 : (valM m).2 = 1 := by omega
   rw [show bO_ l who m = ([], 1) from by rw [bO_, if_neg (by rintro ⟨g1, g2⟩; omega)], h1]
   exact aF_ (v := .tup [.sl 4 [] false, vInt 1]) (v' := .tup [vNil, vInt 1]) va_ (bm_ _) sub_ ⟨rfl, rfl⟩
  ·replace hc4 := nm_ hc4
   refine ae_ ?_
   refine ab_ ?_
   refine aa_ kr_ ?_
   iterate 4 (refine aL_S rfl rfl v_ ?_)
   refine aL_X rfl rfl (ag_ rfl rfl (.inr ⟨rfl, rfl, rfl⟩) g_ va_ (fr_ (by omega)) ?_); rintro _ _ ⟨rfl, rfl⟩
   (refine aL_S rfl rfl v_ ?_)
   refine aL_X rfl rfl (ag_ rfl rfl (.inr ⟨rfl, rfl, rfl⟩) g_ va_ (eK_ hs hl h2) ?_); rintro _ _ ⟨rfl, rfl⟩
   iterate 2 (refine aL_S rfl rfl v_ ?_)
   refine aL_X rfl rfl (ag_ rfl rfl (.inr ⟨rfl, rfl, rfl⟩) g_ va_ (e1_ (x := (setS l who (keyN m.name) (valM m).1).1) (e := (setS l who (keyN m.name) (valM m).1).2)) ?_); rintro _ _ ⟨rfl, rfl⟩
   iterate 4 (refine aL_S rfl rfl v_ ?_)
   refine ac_ ?_
   refine aj_ ?_
   refine ai_ (σ' := σ) v_ sub_ ?_
   exact ⟨by rw [bO_, if_pos ⟨hc1, by omega⟩, he_], rfl⟩
theorem ra_ {l : List ByteArray} {s : ByteArray} (h : ∀ x ∈ l, x ≠ s) : hasT l s = false := by
 rw [hasT, List.any_eq_false]
 intro x hx
 simpa using h x hx
theorem pZ_ {l : List ByteArray} {s : ByteArray} (h : s ∈ l) : hasT l s = true := by
 rw [hasT, List.any_eq_true]
 exact ⟨s, h, decide_eq_true rfl⟩
theorem mY_ {l : List Ent} {t : Bool} {who node : ByteArray} {σ : Store} (hs : ∀ x ∈ l, EntSm x) (hks : ∀ x ∈ l, x.key.size ≤ 400000 ∧ x.value.size ≤ 400000) (hl : l.length ≤ 100000) (h2 : who.size ≤ 1000000) (h3 : node.size ≤ 100000) : ap_ Tryz.prog 47 [.sl 4 (l.map sEnt) t, vStr who, vStr node] σ fun v σ' => v = .tup [.sl 4 ((fin (dG_ l who node)).1.map sEnt) false, vInt (fin (dG_ l who node)).2] ∧ σ = σ' := by
 have hml := dv_ l
 have hnn : nmsS l = (bD_ l).map Mbr.name := rfl
 have hgn : (⟨#[103, 111, 110, 101]⟩ : ByteArray) = f5_ := rfl
 refine am_ Tryz.func47 rfl Tryz.ntmps47 (congrArg Array.toList Tryz.results47) (by simp only [List.length_cons, List.length_nil]; decide) ?_; simp only [ah_, al_, Nat.reduceAdd]
 refine ab_ ?_
 refine aa_ kr_ ?_
 iterate 2 (refine aL_S rfl rfl v_ ?_)
 refine ac_ ?_
 refine ab_ ?_
 refine aa_ kr_ ?_
 (refine aL_S rfl rfl v_ ?_)
 refine aL_X rfl rfl (ag_ rfl rfl (.inr ⟨rfl, rfl, rfl⟩) g_ va_ (fa_ hl hks) ?_); rintro _ _ ⟨rfl, rfl⟩
 (refine aL_S rfl rfl v_ ?_)
 refine ac_ ?_
 refine ab_ ?_
 refine ab_ ?_
 refine aa_ kr_ ?_
 (refine aL_S rfl rfl v_ ?_)
 refine ac_ ?_
 refine ak_ ?_
 refine ao_ (ι := Nat) (fun i => (bD_ l).length - i) (fun i => i ≤ (bD_ l).length ∧ ∀ x ∈ (nmsS l).take i, x ≠ node) (fun i => [(0, .sl 4 (l.map sEnt) t), (1, vStr who), (2, vStr node), (8, .sl 4 ((bD_ l).map sMbr) false), (9, vInt i)]) (fun i => σ) 0 ?_ ?_ ?_ ?_
 ·exact ⟨Nat.zero_le _, fun x hx => by simp at hx⟩
 ·exact cv_
 ·exact sub_
 rintro i ⟨hi, hno⟩
 simp only [ar_, as_]
 refine ab_ ?_
 refine ab_ ?_
 refine aa_ kr_ ?_
 iterate 4 (refine aL_S rfl rfl v_ ?_)
 refine ac_ ?_
 refine ad_ v_ (fun hc3 => ?_) (fun hc3 => ?_)
 ·replace hc3 := nm_ hc3
  refine ae_ ?_
  refine ab_ ?_
  refine ak_ ?_
  refine ab_ ?_
  obtain ⟨m, hm⟩ := aA_ (l := bD_ l) (k := i) (by omega)
  have hnm : (nmsS l)[i]? = some m.name := by rw [hnn, List.getElem?_map, hm]; rfl
  have R := hm
  refine aa_ kr_ ?_
  iterate 7 (refine aL_S rfl rfl v_ ?_)
  refine ac_ ?_
  refine ad_ v_ (fun hc5 => ?_) (fun hc5 => ?_)
  ·replace hc5 := nm_ hc5
   have hhas : hasT (nmsS l) node = true := pZ_ (by rw [← hc5]; exact List.mem_of_getElem? hnm)
   refine ab_ ?_
   refine aa_ kr_ ?_
   iterate 3 (refine aL_S rfl rfl v_ ?_)
   refine aL_X rfl rfl (ag_ rfl rfl (.inr ⟨rfl, rfl, rfl⟩) g_ va_ (fr_ (by omega)) ?_); rintro _ _ ⟨rfl, rfl⟩
   refine aL_X rfl rfl (ag_ rfl rfl (.inr ⟨rfl, rfl, rfl⟩) g_ va_ (eK_ hs (by omega) h2) ?_); rintro _ _ ⟨rfl, rfl⟩
   iterate 2 (refine aL_S rfl rfl v_ ?_)
   refine aL_X rfl rfl (ag_ rfl rfl (.inr ⟨rfl, rfl, rfl⟩) g_ va_ (e1_ (x := (setS l who (keyN node) f5_).1) (e := (setS l who (keyN node) f5_).2)) ?_); rintro _ _ ⟨rfl, rfl⟩
   iterate 4 (refine aL_S rfl rfl v_ ?_)
   refine ac_ ?_
   refine aj_ ?_
   refine ai_ (σ' := σ) v_ sub_ ?_
   exact ⟨by rw [dG_, if_pos hhas, he_], rfl⟩
  ·replace hc5 := nm_ hc5
   skip
   have hno' : ∀ x ∈ (nmsS l).take (i + 1), x ≠ node := fun x hx => by
    rw [aM_ hnm] at hx
    rcases List.mem_append.1 hx with hx | hx
    ·exact hno x hx
    ·rw [List.mem_singleton.1 hx]; exact hc5
   refine ae_ ?_
   refine aa_ kr_ ?_
   iterate 3 (refine aL_S rfl rfl v_ ?_)
   refine ac_ ?_
   refine aI_ (ι := Nat) (i := i) (i + 1) ?_ ?_ ?_ ?_
   ·omega
   ·exact ⟨by omega, hno'⟩
   ·exact cv_
   ·exact sub_
 ·replace hc3 := nm_ hc3
  refine av_ ?_
  refine af_ ?_
  refine af_ ?_
  refine aq_ ?_
  refine ab_ ?_
  refine aa_ kr_ ?_
  iterate 2 (refine aL_S rfl rfl v_ ?_)
  refine ac_ ?_
  refine aj_ ?_
  have hall : ∀ x ∈ nmsS l, x ≠ node := by
   have hll : (nmsS l).length = (bD_ l).length := by rw [hnn, List.length_map]
   rw [List.take_of_length_le (by omega)] at hno; exact hno
  rw [show dG_ l who node = ([], 5) from by rw [dG_, ra_ hall]; rfl]
  exact aF_ (v := .tup [.sl 4 [] false, vInt 5]) (v' := .tup [vNil, vInt 5]) va_ (bm_ _) sub_ ⟨rfl, rfl⟩
theorem ik_ {l : List Ent} {who : ByteArray} : ∀ (ms : List Mv) (s : List Ent × Int), s.2 ≠ 0 → ms.foldl (fun s x => bX_ s (setS l who (aY_ x.part) x.now)) s = s
 |[], s, _ => rfl
 |x :: ms, s, h => by
  rw [List.foldl_cons, show bX_ s (setS l who (aY_ x.part) x.now) = s from by rw [bX_, if_neg h]]
  exact ik_ ms s h
theorem f3_ {l : List Ent} {who : ByteArray} {ms : List Mv} {k : Nat} (h : (clMv l who (ms.take k)).2 ≠ 0) : clMv l who ms = clMv l who (ms.take k) := by
 conv => lhs; rw [← List.take_append_drop k ms]
 unfold clMv at h ⊢
 rw [List.foldl_append]
 exact ik_ _ _ h
set_option maxHeartbeats 2000000 in
theorem ku_ {l : List Ent} {t : Bool} {who : ByteArray} {σ : Store} (hs : ∀ x ∈ l, EntSm x) (hks : ∀ x ∈ l, x.key.size ≤ 400000 ∧ x.value.size ≤ 400000) (hl : l.length ≤ 60) (h2 : who.size ≤ 1000000) : ap_ Tryz.prog 48 [.sl 4 (l.map sEnt) t, vStr who] σ fun v σ' => v = .tup [.sl 4 ((fin (bL_ l who)).1.map sEnt) false, vInt (fin (bL_ l who)).2] ∧ σ = σ' := by
 have hml := dv_ l
 have hol : (aD_ l 16).length = 16 := by simp [aD_]
 obtain ⟨P, hP⟩ : ∃ P, bP_ l = P := ⟨_, rfl⟩
 have hPl : P.length ≤ 16 := by
  rw [← hP]; have := do_ 0 (aD_ l 16) (a2_ (aD_ l 16) (nmsS l)); rw [hol] at this; exact this
 have hPp : ∀ x ∈ P, x.part < 16 := fun x hx => e7_ (hP ▸ hx)
 have hPd : dK_ (aD_ l 16) (a2_ (aD_ l 16) (nmsS l)) = P := hP
 have hlen := fun k => ha_ l who (P.take k)
 have htl := fun k => List.length_take_le k P
 refine am_ Tryz.func48 rfl Tryz.ntmps48 (congrArg Array.toList Tryz.results48) (by simp only [List.length_cons, List.length_nil]; decide) ?_; simp only [ah_, al_, Nat.reduceAdd]
 refine ab_ ?_
 refine aa_ kr_ ?_
 iterate 2 (refine aL_S rfl rfl v_ ?_)
 refine ac_ ?_
 refine ab_ ?_
 refine aa_ kr_ ?_
 (refine aL_S rfl rfl v_ ?_)
 refine aL_X rfl rfl (ag_ rfl rfl (.inr ⟨rfl, rfl, rfl⟩) g_ va_ (fa_ (by omega) hks) ?_); rintro _ _ ⟨rfl, rfl⟩
 (refine aL_S rfl rfl v_ ?_)
 refine ac_ ?_
 refine ab_ ?_
 refine ab_ ?_
 refine aa_ kr_ ?_
 iterate 3 (refine aL_S rfl rfl v_ ?_)
 refine ac_ ?_
 refine ad_ v_ (fun hc2 => ?_) (fun hc2 => ?_)
 ·replace hc2 := nm_ hc2
  refine ab_ ?_
  refine aa_ kr_ ?_
  iterate 2 (refine aL_S rfl rfl v_ ?_)
  refine ac_ ?_
  refine aj_ ?_
  rw [show bL_ l who = ([], 5) from by rw [bL_, if_pos (by omega)]]
  exact aF_ (v := .tup [.sl 4 [] false, vInt 5]) (v' := .tup [vNil, vInt 5]) va_ (bm_ _) sub_ ⟨rfl, rfl⟩
 ·replace hc2 := nm_ hc2
  have hcl : bL_ l who = clMv l who P := by rw [bL_, if_neg (by omega), hP]
  refine ae_ ?_
  refine ab_ ?_
  refine aa_ kr_ ?_
  (refine aL_S rfl rfl v_ ?_)
  refine aL_X rfl rfl (ag_ rfl rfl (.inr ⟨rfl, rfl, rfl⟩) g_ va_ (fR_ (n := 16) (by decide) (by decide) (by omega) hs) ?_); rintro _ _ ⟨rfl, rfl⟩
  (refine aL_S rfl rfl v_ ?_)
  refine ac_ ?_
  refine ab_ ?_
  refine aa_ kr_ ?_
  iterate 3 (refine aL_S rfl rfl v_ ?_)
  refine aL_X rfl rfl (ag_ rfl rfl (.inr ⟨rfl, rfl, rfl⟩) g_ va_ (fd_ (ms := bD_ l) (by omega)) ?_); rintro _ _ ⟨rfl, rfl⟩
  refine aL_X rfl rfl (ag_ rfl rfl (.inr ⟨rfl, rfl, rfl⟩) g_ va_ (ap_.still (iV_ (ow := aD_ l 16) (nm := nmsS l) (by omega) (by rw [nmsS, List.length_map]; omega))) ?_); rintro _ _ ⟨rfl, rfl⟩
  refine aL_X rfl rfl (ag_ rfl rfl (.inr ⟨rfl, rfl, rfl⟩) g_ va_ (p5_ (a := aD_ l 16) (b := a2_ (aD_ l 16) (nmsS l)) (by omega) (by rw [aZ_])) ?_); rintro _ _ ⟨rfl, rfl⟩
  rw [hPd]
  (refine aL_S rfl rfl v_ ?_)
  refine ac_ ?_
  refine ab_ ?_
  refine aa_ kr_ ?_
  refine bp_ 45 4 rfl rfl rfl (by rfl) fun k9 hk9 => ?_
  refine ac_ ?_
  refine ab_ ?_
  refine ab_ ?_
  refine aa_ kr_ ?_
  (refine aL_S rfl rfl v_ ?_)
  refine ac_ ?_
  refine ak_ ?_
  refine ao_ (ι := Nat × Nat) (fun ⟨tk, i⟩ => P.length - i) (fun ⟨tk, i⟩ => i ≤ P.length ∧ σ.tok tk = none ∧ (clMv l who (P.take i)).2 = 0) (fun ⟨tk, i⟩ => [(0, .sl 4 (l.map sEnt) t), (1, vStr who), (8, .sl 3 (P.map sMv) false), (9, .own tk 4 ((clMv l who (P.take i)).1.map sEnt)), (10, vInt i)]) (fun ⟨tk, i⟩ => (σ.newTok none tk (45, 4))) (k9, 0) ?_ ?_ ?_ ?_
  ·exact ⟨Nat.zero_le _, hk9, rfl⟩
  ·exact cv_
  ·exact Store.Wk.refl _
  rintro ⟨tk, i⟩ ⟨hi, htk, he0⟩
  simp only [ar_, as_]
  refine ab_ ?_
  refine ab_ ?_
  refine aa_ kr_ ?_
  iterate 4 (refine aL_S rfl rfl v_ ?_)
  refine ac_ ?_
  refine ad_ v_ (fun hc8 => ?_) (fun hc8 => ?_)
  ·replace hc8 := nm_ hc8
   refine ae_ ?_
   refine ab_ ?_
   refine ak_ ?_
   refine ab_ ?_
   obtain ⟨x, hx⟩ := aA_ (l := P) (k := i) (by omega)
   have hst := hN_ (l := l) (who := who) hx
   have hxp := hPp x (List.mem_of_getElem? hx)
   have hle := hlen i
   have htl' := htl i
   rw [bX_, if_pos he0] at hst
   have R := hx
   refine aE_ (.op 0 0 (.op 1 0 (.op 2 0 (.op 3 0 (.op 4 0 (.op 5 0 (.op 6 0 (.op 8 0 (.op 9 0 (.op 10 0 (.op 11 0 (.op 12 0 (.alt 7 1 (.alt 13 1 (.op 14 0 (.op 15 0 (.op 16 0 (.op 17 1 (.op 18 2 (.op 19 0 .nil)))))) (.op 17 1 (.op 13 1 (.op 14 0 (.op 15 0 (.op 16 0 (.op 18 2 (.op 19 0 .nil)))))))) (.op 17 1 (.op 7 1 (.op 13 1 (.op 14 0 (.op 15 0 (.op 16 0 (.op 18 2 (.op 19 0 .nil))))))))))))))))))))) Tryz.mixed kr_ ?_
   iterate 12 (refine dR_S o_ (by rfl) (by rfl) v_ ?_)
   refine fi_ ?_ ?_
   ·refine dR_X o_ (by rfl) (by rfl) (ag_ (by rfl) (by rfl) (.inr ⟨by rfl, by rfl, by rfl⟩) g_ va_ (eu_ (by omega)) ?_); rintro _ _ ⟨rfl, rfl⟩; refine ⟨sub_, ?_⟩
    refine fi_ ?_ ?_
    ·refine dR_X o_ (by rfl) (by rfl) (ag_ (by rfl) (by rfl) (.inr ⟨by rfl, by rfl, by rfl⟩) g_ va_ (eK_ hs (by omega) h2) ?_); rintro _ _ ⟨rfl, rfl⟩; refine ⟨sub_, ?_⟩
     iterate 3 (refine dR_S o_ (by rfl) (by rfl) v_ ?_)
     refine cX_ o_ (by rfl) (by rfl) (by rfl) g_ gl_ sub_ fun o11 ho11 => ?_
     repeat (rw [an_] at ho11; obtain ⟨_, ho11⟩ := ho11)
     refine ba_ o_ (by rfl) (by rfl) (by rfl) v_ v_ h_ g_ rfl g_ c_ (by rfl) le_ v_ ?_
     (refine dR_S o_ (by rfl) (by rfl) v_ ?_)
     refine aK_ ?_
     refine ab_ ?_
     refine ab_ ?_
     refine aa_ kr_ ?_
     iterate 2 (refine aL_S rfl rfl v_ ?_)
     refine ac_ ?_
     refine ad_ v_ (fun hc11 => ?_) (fun hc11 => ?_)
     ·replace hc11 := nm_ hc11
      refine ab_ ?_
      refine aa_ kr_ ?_
      iterate 3 (refine aL_S rfl rfl v_ ?_)
      refine ac_ ?_
      refine aj_ ?_
      have hn2 : (clMv l who (P.take (i + 1))).2 ≠ 0 := by rw [hst]; exact hc11
      rw [hcl, f3_ hn2, show fin (clMv l who (P.take (i + 1))) = ([], (clMv l who (P.take (i + 1))).2) from if_neg hn2, hst]
      exact aF_ (v := .tup [.sl 4 [] false, vInt (setS l who (aY_ x.part) x.now).2]) (v' := .tup [vNil, vInt (setS l who (aY_ x.part) x.now).2]) va_ (bm_ _) sub_ ⟨rfl, rfl⟩
     ·replace hc11 := nm_ hc11
      have hcv : (clMv l who (P.take (i + 1))).1.map sEnt = (clMv l who (P.take i)).1.map sEnt ++ [sEnt (setS l who (aY_ x.part) x.now).1] := by rw [hst]; simp
      refine ae_ ?_
      refine aa_ kr_ ?_
      iterate 2 (refine aL_S rfl rfl v_ ?_)
      refine au_ rfl rfl rfl g_ g_ rfl rfl h_ c2_ (by decide) ?_
      refine aP_ rfl rfl rfl g_ g_ v_ h_ v_ c_ (by simp only [List.length_map, List.length_append, List.length_singleton]; omega) fun k55 hk55 => ?_
      (refine aL_S rfl rfl v_ ?_)
      refine ac_ ?_
      refine aa_ kr_ ?_
      iterate 3 (refine aL_S rfl rfl v_ ?_)
      refine ac_ ?_
      refine aI_ (ι := Nat × Nat) (i := ⟨tk, i⟩) (k55, i + 1) ?_ ?_ ?_ ?_
      ·show P.length - (i + 1) < P.length - i; omega
      ·exact ⟨by show i + 1 ≤ P.length; omega, (aJ_ hk55).2, by rw [hst]; simpa using hc11⟩
      ·have R := hcv; exact cv_
      ·exact sub_
    refine cX_ o_ (by rfl) (by rfl) (by rfl) g_ gl_ sub_ fun o11 ho11 => ?_
    repeat (rw [an_] at ho11; obtain ⟨_, ho11⟩ := ho11)
    refine dR_X o_ (by rfl) (by rfl) (ag_ (by rfl) (by rfl) (.inr ⟨by rfl, by rfl, by rfl⟩) g_ va_ (eK_ hs (by omega) h2) ?_); rintro _ _ ⟨rfl, rfl⟩; refine ⟨sub_, ?_⟩
    iterate 3 (refine dR_S o_ (by rfl) (by rfl) v_ ?_)
    refine ba_ o_ (by rfl) (by rfl) (by rfl) v_ v_ h_ g_ rfl g_ c_ (by rfl) le_ v_ ?_
    (refine dR_S o_ (by rfl) (by rfl) v_ ?_)
    refine aK_ ?_
    refine ab_ ?_
    refine ab_ ?_
    refine aa_ kr_ ?_
    iterate 2 (refine aL_S rfl rfl v_ ?_)
    refine ac_ ?_
    refine ad_ v_ (fun hc11 => ?_) (fun hc11 => ?_)
    ·replace hc11 := nm_ hc11
     refine ab_ ?_
     refine aa_ kr_ ?_
     iterate 3 (refine aL_S rfl rfl v_ ?_)
     refine ac_ ?_
     refine aj_ ?_
     have hn2 : (clMv l who (P.take (i + 1))).2 ≠ 0 := by rw [hst]; exact hc11
     rw [hcl, f3_ hn2, show fin (clMv l who (P.take (i + 1))) = ([], (clMv l who (P.take (i + 1))).2) from if_neg hn2, hst]
     exact aF_ (v := .tup [.sl 4 [] false, vInt (setS l who (aY_ x.part) x.now).2]) (v' := .tup [vNil, vInt (setS l who (aY_ x.part) x.now).2]) va_ (bm_ _) sub_ ⟨rfl, rfl⟩
    ·replace hc11 := nm_ hc11
     have hcv : (clMv l who (P.take (i + 1))).1.map sEnt = (clMv l who (P.take i)).1.map sEnt ++ [sEnt (setS l who (aY_ x.part) x.now).1] := by rw [hst]; simp
     refine ae_ ?_
     refine aa_ kr_ ?_
     iterate 2 (refine aL_S rfl rfl v_ ?_)
     refine au_ rfl rfl rfl g_ g_ rfl rfl h_ c2_ (by decide) ?_
     refine aP_ rfl rfl rfl g_ g_ v_ h_ v_ c_ (by simp only [List.length_map, List.length_append, List.length_singleton]; omega) fun k55 hk55 => ?_
     (refine aL_S rfl rfl v_ ?_)
     refine ac_ ?_
     refine aa_ kr_ ?_
     iterate 3 (refine aL_S rfl rfl v_ ?_)
     refine ac_ ?_
     refine aI_ (ι := Nat × Nat) (i := ⟨tk, i⟩) (k55, i + 1) ?_ ?_ ?_ ?_
     ·show P.length - (i + 1) < P.length - i; omega
     ·exact ⟨by show i + 1 ≤ P.length; omega, (aJ_ hk55).2, by rw [hst]; simpa using hc11⟩
     ·have R := hcv; exact cv_
     ·exact sub_
   refine cX_ o_ (by rfl) (by rfl) (by rfl) g_ gl_ sub_ fun o11 ho11 => ?_
   repeat (rw [an_] at ho11; obtain ⟨_, ho11⟩ := ho11)
   refine dR_X o_ (by rfl) (by rfl) (ag_ (by rfl) (by rfl) (.inr ⟨by rfl, by rfl, by rfl⟩) g_ va_ (eu_ (by omega)) ?_); rintro _ _ ⟨rfl, rfl⟩; refine ⟨sub_, ?_⟩
   refine dR_X o_ (by rfl) (by rfl) (ag_ (by rfl) (by rfl) (.inr ⟨by rfl, by rfl, by rfl⟩) g_ va_ (eK_ hs (by omega) h2) ?_); rintro _ _ ⟨rfl, rfl⟩; refine ⟨sub_, ?_⟩
   iterate 3 (refine dR_S o_ (by rfl) (by rfl) v_ ?_)
   refine ba_ o_ (by rfl) (by rfl) (by rfl) v_ v_ h_ g_ rfl g_ c_ (by rfl) le_ v_ ?_
   (refine dR_S o_ (by rfl) (by rfl) v_ ?_)
   refine aK_ ?_
   refine ab_ ?_
   refine ab_ ?_
   refine aa_ kr_ ?_
   iterate 2 (refine aL_S rfl rfl v_ ?_)
   refine ac_ ?_
   refine ad_ v_ (fun hc11 => ?_) (fun hc11 => ?_)
   ·replace hc11 := nm_ hc11
    refine ab_ ?_
    refine aa_ kr_ ?_
    iterate 3 (refine aL_S rfl rfl v_ ?_)
    refine ac_ ?_
    refine aj_ ?_
    have hn2 : (clMv l who (P.take (i + 1))).2 ≠ 0 := by rw [hst]; exact hc11
    rw [hcl, f3_ hn2, show fin (clMv l who (P.take (i + 1))) = ([], (clMv l who (P.take (i + 1))).2) from if_neg hn2, hst]
    exact aF_ (v := .tup [.sl 4 [] false, vInt (setS l who (aY_ x.part) x.now).2]) (v' := .tup [vNil, vInt (setS l who (aY_ x.part) x.now).2]) va_ (bm_ _) sub_ ⟨rfl, rfl⟩
   ·replace hc11 := nm_ hc11
    have hcv : (clMv l who (P.take (i + 1))).1.map sEnt = (clMv l who (P.take i)).1.map sEnt ++ [sEnt (setS l who (aY_ x.part) x.now).1] := by rw [hst]; simp
    refine ae_ ?_
    refine aa_ kr_ ?_
    iterate 2 (refine aL_S rfl rfl v_ ?_)
    refine au_ rfl rfl rfl g_ g_ rfl rfl h_ c2_ (by decide) ?_
    refine aP_ rfl rfl rfl g_ g_ v_ h_ v_ c_ (by simp only [List.length_map, List.length_append, List.length_singleton]; omega) fun k55 hk55 => ?_
    (refine aL_S rfl rfl v_ ?_)
    refine ac_ ?_
    refine aa_ kr_ ?_
    iterate 3 (refine aL_S rfl rfl v_ ?_)
    refine ac_ ?_
    refine aI_ (ι := Nat × Nat) (i := ⟨tk, i⟩) (k55, i + 1) ?_ ?_ ?_ ?_
    ·show P.length - (i + 1) < P.length - i; omega
    ·exact ⟨by show i + 1 ≤ P.length; omega, (aJ_ hk55).2, by rw [hst]; simpa using hc11⟩
    ·have R := hcv; exact cv_
    ·exact sub_
  ·replace hc8 := nm_ hc8
   refine av_ ?_
   refine af_ ?_
   refine af_ ?_
   refine aq_ ?_
   refine ab_ ?_
   obtain rfl : i = P.length := by omega
   rw [List.take_length] at he0 ⊢
   refine aa_ kr_ ?_
   iterate 3 (refine aL_S rfl rfl v_ ?_)
   refine ac_ ?_
   refine aj_ ?_
   rw [hcl, show fin (clMv l who P) = ((clMv l who P).1, 0) from if_pos he0]
   exact aF_ (v := .tup [.sl 4 ((clMv l who P).1.map sEnt) false, vInt 0]) (v' := .tup [.own tk 4 ((clMv l who P).1.map sEnt), vInt 0]) va_ (mI_ 0 (.own1 _ _ _)) sub_ ⟨rfl, rfl⟩
theorem g3_ {r : Ent × Int} : fin (bX_ ([], 0) r) = fin ([r.1], r.2) := by rw [he_]
set_option maxHeartbeats 2000000 in
theorem ig_ {l : List Ent} {t : Bool} {who : ByteArray} {a : Adm} {σ : Store} (hs : ∀ x ∈ l, EntSm x) (hks : ∀ x ∈ l, x.key.size ≤ 400000 ∧ x.value.size ≤ 400000) (hl : l.length ≤ 60) (h2 : who.size ≤ 100000) (ha : AdmSm a) : ap_ Tryz.prog 12 [.sl 4 (l.map sEnt) t, vStr who, sAdm a] σ fun v σ' => v = .tup [.sl 4 ((adS l who a).1.map sEnt) false, vInt (adS l who a).2] ∧ σ = σ' := by
 have a1 := ha.ten; have a2 := ha.bkt; have a3 := ha.fld; have a4 := ha.txt; have a5 := ha.n0; have a6 := ha.n1; have a7 := ha.name; have a8 := ha.rack; have a9 := ha.zone
 refine am_ Tryz.func12 rfl Tryz.ntmps12 (congrArg Array.toList Tryz.results12) (by simp only [List.length_cons, List.length_nil]; decide) ?_; simp only [ah_, al_, Nat.reduceAdd]
 refine ab_ ?_
 refine aa_ kr_ ?_
 refine bj_ rfl rfl rfl v_ rfl g_ fun o5 ho5 => ?_
 repeat (rw [an_] at ho5; obtain ⟨_, ho5⟩ := ho5)
 iterate 2 (refine aL_S rfl rfl v_ ?_)
 refine ac_ ?_
 refine ab_ ?_
 refine ab_ ?_
 refine aa_ kr_ ?_
 (refine aL_S rfl rfl v_ ?_)
 refine aL_X rfl rfl (ag_ rfl rfl (.inr ⟨rfl, rfl, rfl⟩) g_ va_ (cZ_ hs (by omega)) ?_); rintro _ _ ⟨rfl, rfl⟩
 iterate 2 (refine aL_S rfl rfl v_ ?_)
 refine aw_ rfl rfl v_ rfl vg_ ?_
 refine bs_ rfl rfl v_ rfl (fun hb => aG_ (by rfl) (by rfl) (.inr ⟨by rfl, by rfl, by rfl⟩) g_ cg_ (du_ (by omega))) ?_
 refine aw_ rfl rfl v_ rfl vg_ ?_
 (refine aL_S rfl rfl v_ ?_)
 refine ac_ ?_
 refine ad_ v_ (fun hc1 => ?_) (fun hc1 => ?_)
 ·replace hc1 := nm_ hc1
  refine ab_ ?_
  refine aa_ kr_ ?_
  iterate 2 (refine aL_S rfl rfl v_ ?_)
  refine ac_ ?_
  refine aj_ ?_
  have hn : adS l who a = ([], 1) := by rw [adS, if_neg (by rintro ⟨g1, g2⟩; simp [g1, g2] at hc1)]
  exact aF_ (v := .tup [.sl 4 ((adS l who a).1.map sEnt) false, vInt (adS l who a).2]) (v' := .tup [vNil, vInt 1]) va_ (by rw [hn]; exact bm_ 1) sub_ ⟨rfl, rfl⟩
 ·replace hc1 := nm_ hc1
  have hadS : adS l who a = fin (b1_ l who a) := by rw [adS, if_pos ⟨hc1.1, hc1.2⟩]; rfl
  rw [hadS]
  refine ae_ ?_
  refine ab_ ?_
  refine ab_ ?_
  refine aa_ kr_ ?_
  iterate 2 (refine aL_S rfl rfl v_ ?_)
  refine ac_ ?_
  refine ak_ ?_
  refine ab_ ?_
  refine aa_ kr_ ?_
  iterate 2 (refine aL_S rfl rfl v_ ?_)
  refine ac_ ?_
  refine ad_ v_ (fun hc4 => ?_) (fun hc4 => ?_)
  ·replace hc4 := nm_ hc4
   refine ab_ ?_
   refine aa_ kr_ ?_
   iterate 6 (refine aL_S rfl rfl v_ ?_)
   refine aL_X rfl rfl (ag_ rfl rfl (.inr ⟨rfl, rfl, rfl⟩) g_ va_ (nb_ hs (by omega) (by omega) (by omega)) ?_); rintro _ _ ⟨rfl, rfl⟩
   iterate 2 (refine aL_S rfl rfl v_ ?_)
   refine aL_X rfl rfl (ag_ rfl rfl (.inr ⟨rfl, rfl, rfl⟩) g_ va_ (e1_ (x := (secS l who a.ten a.txt).1) (e := (secS l who a.ten a.txt).2)) ?_); rintro _ _ ⟨rfl, rfl⟩
   iterate 4 (refine aL_S rfl rfl v_ ?_)
   refine ac_ ?_
   refine aj_ ?_
   refine ai_ (σ' := σ) v_ sub_ ?_
   exact ⟨by rw [b1_, if_pos hc4, g3_], rfl⟩
  ·replace hc4 := nm_ hc4
   refine ab_ ?_
   refine aa_ kr_ ?_
   iterate 2 (refine aL_S rfl rfl v_ ?_)
   refine ac_ ?_
   refine ad_ v_ (fun hc6 => ?_) (fun hc6 => ?_)
   ·replace hc6 := nm_ hc6
    refine ab_ ?_
    refine aa_ kr_ ?_
    iterate 8 (refine aL_S rfl rfl v_ ?_)
    refine aL_X rfl rfl (ag_ rfl rfl (.inr ⟨rfl, rfl, rfl⟩) g_ va_ (oe_ hs (by omega) (by omega) (by omega) (by omega) a5 a6) ?_); rintro _ _ ⟨rfl, rfl⟩
    iterate 2 (refine aL_S rfl rfl v_ ?_)
    refine aL_X rfl rfl (ag_ rfl rfl (.inr ⟨rfl, rfl, rfl⟩) g_ va_ (e1_ (x := (c9_ l who a.ten a.fld a.n).1) (e := (c9_ l who a.ten a.fld a.n).2)) ?_); rintro _ _ ⟨rfl, rfl⟩
    iterate 4 (refine aL_S rfl rfl v_ ?_)
    refine ac_ ?_
    refine aj_ ?_
    refine ai_ (σ' := σ) v_ sub_ ?_
    exact ⟨by rw [b1_, if_neg hc4, if_pos hc6, g3_], rfl⟩
   ·replace hc6 := nm_ hc6
    refine ab_ ?_
    refine aa_ kr_ ?_
    iterate 2 (refine aL_S rfl rfl v_ ?_)
    refine ac_ ?_
    refine ad_ v_ (fun hc8 => ?_) (fun hc8 => ?_)
    ·replace hc8 := nm_ hc8
     refine ab_ ?_
     refine aa_ kr_ ?_
     iterate 10 (refine aL_S rfl rfl v_ ?_)
     refine aL_X rfl rfl (ag_ rfl rfl (.inr ⟨rfl, rfl, rfl⟩) g_ va_ (lz_ hs (by omega) (by omega) (by omega) (by omega) (by omega) a5 a6) ?_); rintro _ _ ⟨rfl, rfl⟩
     iterate 2 (refine aL_S rfl rfl v_ ?_)
     refine aL_X rfl rfl (ag_ rfl rfl (.inr ⟨rfl, rfl, rfl⟩) g_ va_ (e1_ (x := (dl_ l who a.ten a.bkt a.fld a.n).1) (e := (dl_ l who a.ten a.bkt a.fld a.n).2)) ?_); rintro _ _ ⟨rfl, rfl⟩
     iterate 4 (refine aL_S rfl rfl v_ ?_)
     refine ac_ ?_
     refine aj_ ?_
     refine ai_ (σ' := σ) v_ sub_ ?_
     exact ⟨by rw [b1_, if_neg hc4, if_neg hc6, if_pos hc8, g3_], rfl⟩
    ·replace hc8 := nm_ hc8
     refine ab_ ?_
     refine aa_ kr_ ?_
     iterate 2 (refine aL_S rfl rfl v_ ?_)
     refine ac_ ?_
     refine ad_ v_ (fun hc10 => ?_) (fun hc10 => ?_)
     ·replace hc10 := nm_ hc10
      refine ab_ ?_
      refine aa_ kr_ ?_
      iterate 10 (refine aL_S rfl rfl v_ ?_)
      refine aL_X rfl rfl (ag_ rfl rfl (.inr ⟨rfl, rfl, rfl⟩) g_ va_ (l4_ hs (by omega) (by omega) (by omega) (by omega) (by omega)) ?_); rintro _ _ ⟨rfl, rfl⟩
      iterate 2 (refine aL_S rfl rfl v_ ?_)
      refine aL_X rfl rfl (ag_ rfl rfl (.inr ⟨rfl, rfl, rfl⟩) g_ va_ (e1_ (x := (de_ l who a.ten a.bkt a.fld a.n).1) (e := (de_ l who a.ten a.bkt a.fld a.n).2)) ?_); rintro _ _ ⟨rfl, rfl⟩
      iterate 4 (refine aL_S rfl rfl v_ ?_)
      refine ac_ ?_
      refine aj_ ?_
      refine ai_ (σ' := σ) v_ sub_ ?_
      exact ⟨by rw [b1_, if_neg hc4, if_neg hc6, if_neg hc8, if_pos hc10, g3_], rfl⟩
     ·replace hc10 := nm_ hc10
      refine ab_ ?_
      refine aa_ kr_ ?_
      iterate 2 (refine aL_S rfl rfl v_ ?_)
      refine ac_ ?_
      refine ad_ v_ (fun hc12 => ?_) (fun hc12 => ?_)
      ·replace hc12 := nm_ hc12
       refine ab_ ?_
       refine aa_ kr_ ?_
       iterate 4 (refine aL_S rfl rfl v_ ?_)
       refine aL_X rfl rfl (ag_ rfl rfl (.inr ⟨rfl, rfl, rfl⟩) g_ va_ (i2_ (m := a.m) hs (by omega) (by omega) a7 a8 a9) ?_); rintro _ _ ⟨rfl, rfl⟩
       iterate 4 (refine aL_S rfl rfl v_ ?_)
       refine ac_ ?_
       refine aj_ ?_
       refine ai_ (σ' := σ) v_ sub_ ?_
       exact ⟨by rw [b1_, if_neg hc4, if_neg hc6, if_neg hc8, if_neg hc10, if_pos hc12], rfl⟩
      ·replace hc12 := nm_ hc12
       refine ab_ ?_
       refine aa_ kr_ ?_
       iterate 2 (refine aL_S rfl rfl v_ ?_)
       refine ac_ ?_
       refine ad_ v_ (fun hc14 => ?_) (fun hc14 => ?_)
       ·replace hc14 := nm_ hc14
        refine ab_ ?_
        refine aa_ kr_ ?_
        iterate 5 (refine aL_S rfl rfl v_ ?_)
        refine aL_X rfl rfl (ag_ rfl rfl (.inr ⟨rfl, rfl, rfl⟩) g_ va_ (mY_ hs hks (by omega) (by omega) a7) ?_); rintro _ _ ⟨rfl, rfl⟩
        iterate 4 (refine aL_S rfl rfl v_ ?_)
        refine ac_ ?_
        refine aj_ ?_
        refine ai_ (σ' := σ) v_ sub_ ?_
        exact ⟨by rw [b1_, if_neg hc4, if_neg hc6, if_neg hc8, if_neg hc10, if_neg hc12, if_pos hc14], rfl⟩
       ·replace hc14 := nm_ hc14
        refine ab_ ?_
        refine aa_ kr_ ?_
        iterate 2 (refine aL_S rfl rfl v_ ?_)
        refine ac_ ?_
        refine ad_ v_ (fun hc16 => ?_) (fun hc16 => ?_)
        ·replace hc16 := nm_ hc16
         refine ab_ ?_
         refine aa_ kr_ ?_
         iterate 2 (refine aL_S rfl rfl v_ ?_)
         refine aL_X rfl rfl (ag_ rfl rfl (.inr ⟨rfl, rfl, rfl⟩) g_ va_ (ku_ hs hks hl (by omega)) ?_); rintro _ _ ⟨rfl, rfl⟩
         iterate 4 (refine aL_S rfl rfl v_ ?_)
         refine ac_ ?_
         refine aj_ ?_
         refine ai_ (σ' := σ) v_ sub_ ?_
         exact ⟨by rw [b1_, if_neg hc4, if_neg hc6, if_neg hc8, if_neg hc10, if_neg hc12, if_neg hc14, if_pos hc16], rfl⟩
        ·replace hc16 := nm_ hc16
         refine ae_ ?_
         refine ab_ ?_
         refine aa_ kr_ ?_
         iterate 2 (refine aL_S rfl rfl v_ ?_)
         refine ac_ ?_
         refine aj_ ?_
         rw [show b1_ l who a = ([], 1) from by rw [b1_, if_neg hc4, if_neg hc6, if_neg hc8, if_neg hc10, if_neg hc12, if_neg hc14, if_neg hc16]]
         exact aF_ (v := .tup [.sl 4 [] false, vInt 1]) (v' := .tup [vNil, vInt 1]) va_ (bm_ _) sub_ ⟨rfl, rfl⟩
end Go.Proofs.YtkcmbjodladflaaGreatDoor
end

section
set_option linter.all false
set_option maxRecDepth 100000
namespace Go.Proofs.YtkcmbjodladflaaGreatDoor
open Go.Ab
theorem k5_ (l : List ByteArray) : (aW_ l).Nodup := by
 have : ∀ (l out : List ByteArray), out.Nodup → (l.foldl cl_ out).Nodup := by
  intro l
  induction l with
  |nil => intro out h; exact h
  |cons x l ih =>
   intro out h
   refine ih _ ?_
   unfold cl_
   split
   ·rename_i hx
    rw [List.nodup_append]
    refine ⟨h, by simp, fun a ha b hb hh => ?_⟩
    obtain rfl := List.mem_singleton.1 hb
    subst hh
    exact e3_.1 hx ha
   ·exact h
 exact this l [] List.nodup_nil
theorem n3_ {l : List ByteArray} {s : ByteArray} (h : s ∈ l) : s ∈ aW_ l := by
 have : ∀ (l out : List ByteArray), (∀ s ∈ out, s ∈ l.foldl cl_ out) ∧ ∀ s ∈ l, s ∈ l.foldl cl_ out := by
  intro l
  induction l with
  |nil => intro out; exact ⟨fun s h => h, by simp⟩
  |cons x l ih =>
   intro out
   have hm : ∀ s ∈ out, s ∈ cl_ out x := fun s hs => by
    unfold cl_
    split
    ·exact List.mem_append_left _ hs
    ·exact hs
   have hx : x ∈ cl_ out x := by
    unfold cl_
    split
    ·simp
    ·rename_i hh
     exact Classical.byContradiction fun hn => hh (e3_.2 hn)
   obtain ⟨i1, i2⟩ := ih (cl_ out x)
   refine ⟨fun s hs => i1 s (hm s hs), fun s hs => ?_⟩
   rcases List.mem_cons.1 hs with rfl | hs
   ·exact i1 _ hx
   ·exact i2 s hs
 exact (this l []).2 s h
theorem kX_ {l : List (Option Nat)} {p : Nat} {x y z : Option Nat} (hp : l[p]? = some x) (hxz : x ≠ z) : (l.set p y).count z = l.count z + if y = z then 1 else 0 := by
 obtain ⟨hpl, rfl⟩ := List.getElem?_eq_some_iff.1 hp
 have h1 : l.count z = (l.take p).count z + (l.drop (p + 1)).count z := by
  conv => lhs; rw [← List.take_append_drop p l, List.drop_eq_getElem_cons hpl]
  rw [List.count_append, List.count_cons_of_ne hxz]
 rw [h1, List.set_eq_take_append_cons_drop, if_pos hpl, List.count_append, List.count_cons]
 by_cases hh : y = z
 ·simp [hh]; omega
 ·simp [hh]
structure AsOk (ns : List ByteArray) (out : List ByteArray) (hs : List Int) (n : Nat) (a : List (Option Nat)) : Prop where
 len : a.length = n
 lo : out.length = n
 lh : hs.length = ns.length
 out : ∀ (p k : Nat), a[p]? = some (some k) → k < ns.length ∧ out[p]? = ns[k]?
 cnt : ∀ k, k < ns.length → gI hs k = (a.count (some k) : Int)
theorem AsOk.step {ns out : List ByteArray} {hs : List Int} {n p k : Nat} {s : ByteArray} {a : List (Option Nat)} (h : AsOk ns out hs n a) (hp : a[p]? = some none) (hk : ns[k]? = some s) : AsOk ns (out.set p s) (hs.set k (gI hs k + 1)) n (a.set p (some k)) where
 len := by simpa using h.len
 lo := by simpa using h.lo
 lh := by simpa using h.lh
 out := fun q j hq => by
  have hkl := (List.getElem?_eq_some_iff.1 hk).1
  have hpl := (List.getElem?_eq_some_iff.1 hp).1
  rw [List.getElem?_set] at hq
  by_cases hpq : p = q
  ·subst hpq
   rw [if_pos rfl, if_pos hpl] at hq
   obtain rfl : k = j := by simpa using hq
   refine ⟨hkl, ?_⟩
   rw [List.getElem?_set, if_pos rfl, if_pos (by rw [h.lo, ← h.len]; exact hpl), hk]
  ·rw [if_neg hpq] at hq
   rw [List.getElem?_set, if_neg hpq]
   exact h.out q j hq
 cnt := fun j hj => by
  have hkl := (List.getElem?_eq_some_iff.1 hk).1
  rw [cE_ (by rw [h.lh]; exact hkl), kX_ hp (by simp)]
  by_cases hjk : j = k
  ·subst hjk
   rw [if_pos rfl, if_pos rfl, h.cnt j hj]
   simp
  ·rw [if_neg hjk, if_neg (fun hh => hjk (Option.some.inj hh).symm), h.cnt j hj]
   simp
theorem rd_ (ow ns : List ByteArray) : ∀ i, i ≤ ow.length → ∃ a : List (Option Nat), AsOk ns (f1 ns (wsS ow ns) ow i).out (f1 ns (wsS ow ns) ow i).hs ow.length a ∧ ∀ (p : Nat), p < ow.length → (a[p]? = some none ↔ (i ≤ p ∨ gI (f1 ns (wsS ow ns) ow i).kp p ≠ 1))
 |0, _ => by
  refine ⟨List.replicate ow.length none, ⟨by simp, by simp [f1], by simp [f1], fun p k h => ?_, fun k _ => ?_⟩, fun p hp => ?_⟩
  ·rw [List.getElem?_replicate] at h
   split at h <;> simp at h
  ·unfold f1
   rw [jp_, List.count_replicate]
   simp
  ·rw [List.getElem?_replicate, if_pos hp]
   simp
 |i + 1, hi => by
  obtain ⟨a, h1, h2⟩ := rd_ ow ns i (by omega)
  have hI := ez_ ow ns i (by omega)
  have hai : a[i]? = some none := (h2 i (by omega)).2 (.inl (Nat.le_refl i))
  unfold f1 f1s
  generalize f1 ns (wsS ow ns) ow i = st at h1 h2 hI
  generalize ow[i]?.getD ByteArray.empty = s
  split
  ·rename_i hf
   obtain ⟨h0, _⟩ := hf
   obtain ⟨hk, _, hks⟩ := jE_ h0
   refine ⟨a.set i (some (idxI ns s).toNat), h1.step hai hks, fun p hp => ?_⟩
   have hik : i < st.kp.length := by rw [hI.lk]; omega
   show (a.set i _)[p]? = some none ↔ i + 1 ≤ p ∨ gI (st.kp.set i 1) p ≠ 1
   rw [cE_ hik, List.getElem?_set]
   by_cases hpi : i = p
   ·subst hpi
    rw [if_pos rfl, if_pos rfl, if_pos (by rw [h1.len]; omega)]
    simp
   ·rw [if_neg hpi, if_neg (Ne.symm hpi), h2 p hp]
    omega
  ·refine ⟨a, h1, fun p hp => ?_⟩
   rw [h2 p hp]
   have := hI.fresh i (Nat.le_refl i)
   by_cases hpi : p = i
   ·subst hpi
    rw [this]
    simp
   ·omega
theorem rW_ {ow ns : List ByteArray} {n : Nat} (hns : 0 < ns.length) (hn : n = ow.length) : ∀ (l : List Nat) (st : S2) (a : List (Option Nat)), AsOk ns st.out st.hs n a → Inv2 ns (wsS ow ns) ow.length l.length st → l.Nodup → (∀ p ∈ l, a[p]? = some none) →
  ∃ a', AsOk ns (p2L ns (wsS ow ns) st l).out (p2L ns (wsS ow ns) st l).hs n a' ∧ Inv2 ns (wsS ow ns) ow.length 0 (p2L ns (wsS ow ns) st l) ∧ (∀ p, p ∉ l → a'[p]? = a[p]?) ∧ (∀ p ∈ l, a'[p]? ≠ some none) ∧ ∀ p, p ∉ l → (p2L ns (wsS ow ns) st l).out[p]? = st.out[p]?
 |[], st, a, h, hI, _, _ => ⟨a, h, hI, fun _ _ => rfl, fun p hp => by simp at hp, fun _ _ => rfl⟩
 |x :: l, st, a, h, hI, hnd, hl => by
  obtain ⟨b, hb, hb1, _, _⟩ := hI.best hns
  obtain ⟨s, hs⟩ := aA_ hb1
  have hax := hl x (List.mem_cons_self ..)
  have hst := hI.step (p := x) hns
  obtain ⟨hxl, hnd'⟩ := List.nodup_cons.1 hnd
  have e : p2s ns (wsS ow ns) st x = ⟨st.hs.set b (gI st.hs b + 1), st.out.set x s⟩ := by
   unfold p2s
   rw [hb, Int.toNat_natCast, hs]; rfl
  rw [e] at hst
  have hxa := (List.getElem?_eq_some_iff.1 hax).1
  obtain ⟨a', i1, i2, i3, i4, i5⟩ := rW_ hns hn l ⟨st.hs.set b (gI st.hs b + 1), st.out.set x s⟩ (a.set x (some b)) (h.step hax hs) hst hnd' fun p hp => by
   rw [List.getElem?_set, if_neg (fun hh => hxl (by rw [hh]; exact hp))]
   exact hl p (List.mem_cons_of_mem _ hp)
  have e2 : p2L ns (wsS ow ns) st (x :: l) = p2L ns (wsS ow ns) ⟨st.hs.set b (gI st.hs b + 1), st.out.set x s⟩ l := by
   rw [← e]; rfl
  rw [e2]
  refine ⟨a', i1, i2, fun p hp => ?_, fun p hp => ?_, fun p hp => ?_⟩
  ·rw [i3 p (fun hh => hp (List.mem_cons_of_mem _ hh)), List.getElem?_set, if_neg (fun hh => hp (by rw [hh]; exact List.mem_cons_self ..))]
  ·rcases List.mem_cons.1 hp with rfl | hp
   ·rw [i3 _ hxl, List.getElem?_set, if_pos rfl, if_pos hxa]
    simp
   ·exact i4 p hp
  ·rw [i5 p (fun hh => hp (List.mem_cons_of_mem _ hh)), List.getElem?_set, if_neg (fun hh => hp (by rw [hh]; exact List.mem_cons_self ..))]
theorem ix_ : ∀ {a b : List Int}, a.length = b.length → (∀ k, gI a k ≤ gI b k) → a.sum = b.sum → ∀ k, gI a k = gI b k
 |[], [], _, _, _, k => rfl
 |[], y :: b, h, _, _, _ => by simp at h
 |x :: a, [], h, _, _, _ => by simp at h
 |x :: a, y :: b, h, hk, hs, k => by
  have h0 : x ≤ y := hk 0
  have h1 : a.sum ≤ b.sum := li_ (by simpa using h) fun k _ => hk (k + 1)
  have h2 : x + a.sum = y + b.sum := hs
  have ih := ix_ (a := a) (b := b) (by simpa using h) (fun k => hk (k + 1)) (by omega)
  cases k with
  |zero => show x = y; omega
  |succ k => exact ih k
structure EvenOk (ow nm : List ByteArray) (a : List (Option Nat)) : Prop where
 ok : AsOk (aW_ nm) (a2_ ow nm) (wsS ow (aW_ nm)) ow.length a
 all : ∀ (p : Nat), p < ow.length → ∃ k, a[p]? = some (some k)
theorem lH_ {ow nm : List ByteArray} (h : 0 < nm.length) : (∃ a, EvenOk ow nm a) ∧ ∀ p, p ∉ bS_ (f1 (aW_ nm) (wsS ow (aW_ nm)) ow ow.length).kp ow.length → (a2_ ow nm)[p]? = (f1 (aW_ nm) (wsS ow (aW_ nm)) ow ow.length).out[p]? := by
 obtain ⟨ns, hns⟩ : ∃ ns, aW_ nm = ns := ⟨_, rfl⟩
 have hns0 : 0 < ns.length := by rw [← hns]; exact ft_ h
 obtain ⟨a, h1, h2⟩ := rd_ ow ns ow.length (Nat.le_refl _)
 have hI := ez_ ow ns ow.length (Nat.le_refl _)
 have hev : a2_ ow nm = (p2L ns (wsS ow ns) ⟨(f1 ns (wsS ow ns) ow ow.length).hs, (f1 ns (wsS ow ns) ow ow.length).out⟩ (bS_ (f1 ns (wsS ow ns) ow ow.length).kp ow.length)).out := by
  unfold a2_ p2L
  rw [hns, if_neg (by omega)]
 obtain ⟨F, hF⟩ : ∃ F, f1 ns (wsS ow ns) ow ow.length = F := ⟨_, rfl⟩
 rw [hF] at h1 h2 hI hev
 obtain ⟨L0, hL0⟩ : ∃ L0, bS_ F.kp ow.length = L0 := ⟨_, rfl⟩
 have hmem : ∀ p, p ∈ L0 ↔ p < ow.length ∧ gI F.kp p ≠ 1 := fun p => by
  rw [← hL0]
  unfold bS_
  rw [List.mem_filter, List.mem_range]
  simp
 have hnd : L0.Nodup := by rw [← hL0]; exact List.Nodup.sublist List.filter_sublist List.nodup_range
 rw [hL0] at hev
 obtain ⟨a', i1, i2, i3, i4, i5⟩ := rW_ (ow := ow) hns0 rfl L0 ⟨F.hs, F.out⟩ a h1 ⟨hI.lh, hI.lo, hI.bd, by have := hI.sum; rw [hL0] at this; exact this⟩ hnd fun p hp => by
  obtain ⟨hp1, hp2⟩ := (hmem p).1 hp
  exact (h2 p hp1).2 (.inr hp2)
 have hws : ∀ k, gI (p2L ns (wsS ow ns) ⟨F.hs, F.out⟩ L0).hs k = gI (wsS ow ns) k := ix_ (by rw [i2.lh, es_]) (fun k => (i2.bd k).2) (by rw [mo_ hns0]; have := i2.sum; omega)
 refine ⟨⟨a', ?_, fun p hp => ?_⟩, fun p hp => ?_⟩
 ·rw [hns, hev]
  refine ⟨i1.len, i1.lo, es_ .., i1.out, fun k hk => ?_⟩
  rw [← hws k]
  exact i1.cnt k hk
 ·have hpa : p < a'.length := by rw [i1.len]; exact hp
  have h3 : a'[p]? ≠ some none := by
   by_cases hpl : p ∈ L0
   ·exact i4 p hpl
   ·rw [i3 p hpl]
    intro hh
    rcases (h2 p hp).1 hh with h4 | h4
    ·omega
    ·exact hpl ((hmem p).2 ⟨hp, h4⟩)
  rw [List.getElem?_eq_getElem hpa] at h3 ⊢
  cases hx : a'[p] with
  |none => rw [hx] at h3; exact absurd rfl h3
  |some k => exact ⟨k, rfl⟩
 ·rw [hns, hF, hL0] at hp
  rw [hns, hF, hev]
  exact i5 p hp
theorem oU_ {ns : List ByteArray} (hnd : ns.Nodup) {k : Nat} {s : ByteArray} (hk : ns[k]? = some s) : ∀ {l : List ByteArray} {a : List (Option Nat)}, a.length = l.length → (∀ (p j : Nat), a[p]? = some (some j) → j < ns.length ∧ l[p]? = ns[j]?) → (∀ (p : Nat), p < l.length → ∃ j, a[p]? = some (some j)) → cnt l s = a.count (some k)
 |[], [], _, _, _ => rfl
 |[], y :: a, h, _, _ => by simp at h
 |x :: l, [], h, _, _ => by simp at h
 |x :: l, y :: a, h, h1, h2 => by
  have ih := oU_ hnd hk (l := l) (a := a) (by simpa using h) (fun p j hp => by
   have := h1 (p + 1) j (by simpa using hp)
   simpa using this) fun p hp => by
   have := h2 (p + 1) (by simpa using hp)
   simpa using this
  obtain ⟨j, hj⟩ := h2 0 (by simp)
  obtain rfl : y = some j := by simpa using hj
  obtain ⟨hjl, hxj⟩ := h1 0 j rfl
  have hxj' : ns[j]? = some x := by rw [← hxj]; rfl
  unfold cnt at ih ⊢
  rw [List.countP_cons, ih, List.count_cons]
  have : x = s ↔ j = k := by
   constructor
   ·intro hh
    subst hh
    exact (List.getElem?_inj (i := j) (j := k) hjl hnd).1 (by rw [hxj', hk])
   ·intro hh
    subst hh
    rw [hxj'] at hk
    exact Option.some.inj hk
  by_cases hh : x = s
  ·rw [this.1 hh]; simp [hh]
  ·have hjk : j ≠ k := fun h => hh (this.2 h)
   simp [hh, hjk]
theorem kk_ {ow nm : List ByteArray} (h : 0 < nm.length) {k : Nat} {s : ByteArray} (hk : (aW_ nm)[k]? = some s) : (cnt (a2_ ow nm) s : Int) = gI (wsS ow (aW_ nm)) k := by
 obtain ⟨⟨a, h1, h2⟩, _⟩ := lH_ (ow := ow) h
 rw [h1.cnt k (List.getElem?_eq_some_iff.1 hk).1, oU_ (k5_ nm) hk (by rw [h1.len, h1.lo]) h1.out (fun p hp => h2 p (by rw [← h1.lo]; exact hp))]
theorem oX_ (ow ns : List ByteArray) {k : Nat} (hk : k < ns.length) : gI (wsS ow ns) k = ((ow.length / ns.length : Nat) : Int) + if dJ_ (aX_ ow ns) k < ow.length % ns.length then 1 else 0 := by
 unfold gI wsS
 rw [List.getElem?_map, List.getElem?_range hk]
 show e8_ _ _ _ = _
 unfold e8_
 rw [b5_]
theorem mD_ (ow : List ByteArray) {ns : List ByteArray} {k : Nat} {s : ByteArray} (hk : ns[k]? = some s) : gI (aX_ ow ns) k = (cnt ow s : Int) := by
 unfold gI aX_
 rw [List.getElem?_map, hk]; rfl
theorem kL_ {ow nm : List ByteArray} (h : 0 < nm.length) {k : Nat} (hk : k < (aW_ nm).length) : gI (aX_ (a2_ ow nm) (aW_ nm)) k = gI (wsS ow (aW_ nm)) k := by
 obtain ⟨s, hs⟩ := aA_ hk
 rw [mD_ _ hs, kk_ h hs]
theorem hE_ {ow nm : List ByteArray} (h : 0 < nm.length) : aX_ (a2_ ow nm) (aW_ nm) = wsS ow (aW_ nm) := by
 apply List.ext_getElem?
 intro k
 by_cases hk : k < (aW_ nm).length
 ·rw [dd_ (by rw [b5_]; exact hk), dd_ (by rw [es_]; exact hk), kL_ h hk]
 ·rw [List.getElem?_eq_none (by rw [b5_]; omega), List.getElem?_eq_none (by rw [es_]; omega)]
theorem lO_ {ow nm : List ByteArray} (h : 0 < nm.length) {i k : Nat} {a b : Int} (ha : (aX_ (a2_ ow nm) nm)[i]? = some a) (hb : (aX_ (a2_ ow nm) nm)[k]? = some b) : a - b ≤ 1 := by
 have e : ∀ {i : Nat} {a : Int}, (aX_ (a2_ ow nm) nm)[i]? = some a → ∃ j, j < (aW_ nm).length ∧ a = gI (wsS ow (aW_ nm)) j := fun {i a} ha => by
  unfold aX_ at ha
  rw [List.getElem?_map] at ha
  cases hs : nm[i]? with
  |none => rw [hs] at ha; cases ha
  |some s =>
   rw [hs] at ha
   obtain ⟨j, hj, hjs⟩ := List.getElem_of_mem (n3_ (List.mem_of_getElem? hs))
   have hjs' : (aW_ nm)[j]? = some s := by rw [List.getElem?_eq_getElem hj, hjs]
   exact ⟨j, hj, (Option.some.inj ha).symm.trans (kk_ h hjs')⟩
 obtain ⟨i', hi, rfl⟩ := e ha
 obtain ⟨k', hk, rfl⟩ := e hb
 rw [oX_ _ _ hi, oX_ _ _ hk]
 generalize ow.length / (aW_ nm).length = q
 split <;> split <;> omega
theorem mj_ {ow nm : List ByteArray} (h : 0 < nm.length) : ∀ s ∈ a2_ ow nm, s ∈ aW_ nm := fun s hs => by
 obtain ⟨⟨a, h1, h2⟩, _⟩ := lH_ (ow := ow) h
 obtain ⟨p, hp, rfl⟩ := List.getElem_of_mem hs
 obtain ⟨k, hk⟩ := h2 p (by rw [← aZ_ ow nm]; exact hp)
 obtain ⟨h3, h4⟩ := h1.out p k hk
 rw [List.getElem?_eq_getElem hp] at h4
 exact List.mem_of_getElem? h4.symm
theorem oL_ {ow nm : List ByteArray} (h : 0 < nm.length) : (aX_ (a2_ ow nm) (aW_ nm)).sum = ow.length := by
 rw [hE_ h, mo_ (ft_ h)]
end Go.Proofs.YtkcmbjodladflaaGreatDoor
end

section
set_option linter.all false
set_option maxRecDepth 100000
namespace Go.Proofs.YtkcmbjodladflaaGreatDoor
open Go.Ab
theorem jt_ : ∀ {a b : List ByteArray} {k j : Nat} {x y : ByteArray}, a[k]? = some x → b[k]? = some y → x = y ∨ (⟨j + k, x, y⟩ : Mv) ∈ bg_ j a b
 |[], b, k, j, x, y, hx, _ => by simp at hx
 |u :: a, [], k, j, x, y, _, hy => by simp at hy
 |u :: a, v :: b, 0, j, x, y, hx, hy => by
  simp only [List.getElem?_cons_zero, Option.some.injEq] at hx hy
  subst hx; subst hy
  by_cases h : u = v
  ·exact .inl h
  ·right; unfold bg_; rw [if_neg h]; exact .head _
 |u :: a, v :: b, k + 1, j, x, y, hx, hy => by
  simp only [List.getElem?_cons_succ] at hx hy
  rcases jt_ (j := j + 1) hx hy with h | h
  ·exact .inl h
  ·right
   rw [show j + 1 + k = j + (k + 1) by omega] at h
   unfold bg_
   split
   ·exact h
   ·exact .tail _ h
theorem mC_ {l : List Ent} {n k : Nat} (h : k < n) : (aD_ l n)[k]? = some (ownK l k) := by simp [aD_, h]
theorem kx_ {l : List Ent} {who : ByteArray} {ev : List ByteArray} (he : ev.length = 16) (hn : ∀ s ∈ ev, aN_ s = true) (h : (clMv l who (dK_ (aD_ l 16) ev)).2 = 0) (hp : PutsOk l (clMv l who (dK_ (aD_ l 16) ev)).1) : aD_ (jnS l (clMv l who (dK_ (aD_ l 16) ev)).1) 16 = ev := by
 have hl16 : (aD_ l 16).length = 16 := by simp [aD_]
 obtain ⟨_, h2, h3⟩ := iS_ (dK_ (aD_ l 16) ev) ([], 0) h
 have h2' : (clMv l who (dK_ (aD_ l 16) ev)).1 = (dK_ (aD_ l 16) ev).map fun x => (setS l who (aY_ x.part) x.now).1 := by unfold clMv; rw [h2, List.nil_append]
 have hpart : ∀ x ∈ dK_ (aD_ l 16) ev, x.part < 16 := fun x hx => by have := (d6_ hx).2.1; omega
 rw [h2'] at hp ⊢
 apply List.ext_getElem?
 intro k
 by_cases hk : k < 16
 ·rw [mC_ hk]
  obtain ⟨y, hy⟩ : ∃ y, ev[k]? = some y := ⟨_, List.getElem?_eq_getElem (by omega)⟩
  rw [hy]
  congr 1
  by_cases hm : ∃ x ∈ dK_ (aD_ l 16) ev, x.part = k
  ·obtain ⟨x, hx, rfl⟩ := hm
   have hs := gF_ (h3 x hx)
   have hg := rU_ hp _ (List.mem_map_of_mem (f := fun x : Mv => (setS l who (aY_ x.part) x.now).1) hx)
   simp only [hs.key] at hg
   have hnow : ev[x.part]? = some x.now := by have := (d6_ hx).2.2; simpa using this
   have e : x.now = y := Option.some.inj (hnow.symm.trans hy)
   have hny := hn y (List.mem_of_getElem? hy)
   rw [ownK, hg, hs.value, e, if_pos hny]
  ·have ho : ∀ z ∈ (dK_ (aD_ l 16) ev).map (fun x => (setS l who (aY_ x.part) x.now).1), z.key ≠ aY_ k := by
    intro z hz e
    obtain ⟨x, hx, rfl⟩ := List.mem_map.1 hz
    rw [(gF_ (h3 x hx)).key, cD_ (by have := hpart x hx; omega), cD_ (by omega)] at e
    exact hm ⟨x, hx, g6_ _ (hpart x hx) _ hk e⟩
   have e1 : ownK (jnS l ((dK_ (aD_ l 16) ev).map fun x => (setS l who (aY_ x.part) x.now).1)) k = ownK l k := by
    rw [ownK, ownK, ff_ ho]
   rw [e1]
   rcases jt_ (j := 0) (mC_ hk) hy with h | h
   ·exact h
   ·exact absurd ⟨_, h, by simp⟩ hm
 ·rw [List.getElem?_eq_none (by simp [aD_]; omega), List.getElem?_eq_none (by omega)]
theorem qm_ {l : List Ent} (h : aO_ l = true) (k : ByteArray) : regZ (getS l k) = true ∨ cy_ (getS l k).n (getS l k).who (getS l k).value = true := by
 unfold getS
 cases hf : l.find? fun x => decide (x.key = k) with
 |none => left; rfl
 |some x =>
  right
  unfold aO_ at h
  rw [Bool.and_eq_true] at h
  have := mV_ h.2 x (List.mem_of_find?_eq_some hf)
  unfold bA_ at this
  rw [Bool.and_eq_true] at this
  exact this.2
theorem qf_ {l : List Ent} {who k v : ByteArray} (he : aO_ l = true) (k1 : 1 ≤ k.size) (k2 : k.size ≤ 128) (hw : aN_ who = true) (hv : v.size ≤ 256) : (setS l who k v).2 = 0 ∨ (setS l who k v).2 = 4 := by
 have hn : (cJ_ (getS l k) who v).2 = 0 ∨ (cJ_ (getS l k) who v).2 = 4 := by
  unfold cJ_
  rw [if_neg (by
   rw [hw]
   have hv' : decide (256 < v.size) = false := decide_eq_false (by omega)
   rcases qm_ he k with h | h <;> simp [h, hv'])]
  split
  ·exact .inr rfl
  ·exact .inl rfl
 unfold setS
 rw [if_neg (by
  have h1 : decide (k.size < 1) = false := decide_eq_false (by omega)
  have h2 : decide (128 < k.size) = false := decide_eq_false (by omega)
  simp [he, h1, h2]
  intro hh; subst hh; simp at k1)]
 split
 ·exact hn
 ·exact .inl rfl
theorem jJ_ {l : List Ent} {who : ByteArray} : ∀ {ms : List Mv} {s : List Ent × Int}, (∀ x ∈ ms, (setS l who (aY_ x.part) x.now).2 = 0 ∨ (setS l who (aY_ x.part) x.now).2 = 4) → (s.2 = 0 ∨ s.2 = 4) → (ms.foldl (fun s x => bX_ s (setS l who (aY_ x.part) x.now)) s).2 = 0 ∨ (ms.foldl (fun s x => bX_ s (setS l who (aY_ x.part) x.now)) s).2 = 4
 |[], s, _, hs => hs
 |x :: ms, s, h, hs => by
  rw [List.foldl_cons]
  refine jJ_ (fun y hy => h y (.tail _ hy)) ?_
  unfold bX_
  split
  ·exact h x (.head _)
  ·exact hs
theorem qv_ {l : List Ent} {s : ByteArray} (h : s ∈ nmsS l) : aN_ s = true := by
 obtain ⟨m, hm, rfl⟩ := List.mem_map.1 h
 obtain ⟨x, _, hx⟩ := List.mem_filterMap.1 hm
 unfold memK mbrS at hx
 split at hx
 ·split at hx
  ·rename_i h1; rw [← Option.some.inj hx]; exact h1.1
  ·cases hx
 ·cases hx
end Go.Proofs.YtkcmbjodladflaaGreatDoor
end

section
set_option linter.all false
set_option maxRecDepth 100000
namespace Go.Proofs.YtkcmbjodladflaaGreatDoor
open Go.Ab
theorem iG_ {α : Type} {ok : α → Bool} {key : α → ByteArray} : ∀ {l : List α} {pv : Option ByteArray}, upGo ok key pv l = true → (∀ p, pv = some p → ∀ x ∈ l, sLt p (key x) = true) ∧ (l.Pairwise fun a b => sLt (key a) (key b) = true) ∧ ∀ x ∈ l, ok x = true
 |[], _, _ => ⟨fun _ _ x hx => (List.not_mem_nil hx).elim, List.Pairwise.nil, fun x hx => (List.not_mem_nil hx).elim⟩
 |x :: l, pv, h => by
  simp only [upGo, Bool.and_eq_true] at h
  obtain ⟨⟨h1, h2⟩, h3⟩ := h
  obtain ⟨g1, g2, g3⟩ := iG_ h3
  refine ⟨fun p hp y hy => ?_, List.pairwise_cons.2 ⟨fun y hy => g1 _ rfl y hy, g2⟩, fun y hy => ?_⟩
  ·subst hp
   have h4 : sLt p (key x) = true := h2
   rcases List.mem_cons.1 hy with rfl | hy
   ·exact h4
   ·exact b3_ h4 (g1 _ rfl y hy)
  ·rcases List.mem_cons.1 hy with rfl | hy
   ·exact h1
   ·exact g3 y hy
theorem fL_ {l : List Ent} (h : aO_ l = true) : l.Pairwise fun a b => sLt a.key b.key = true := by
 unfold aO_ at h
 rw [Bool.and_eq_true] at h
 exact (iG_ h.2).2.1
theorem jM_ {x : Ent} {m : Mbr} (h : memK x = some m) : m.name = x.key.extract 5 x.key.size := by
 unfold memK mbrS at h
 split at h
 ·split at h
  ·rw [← Option.some.inj h]
  ·cases h
 ·cases h
theorem jB_ {x : Ent} (h : hpS x.key (bt_ ++ ⟨#[47]⟩) = true) : x.key = (bt_ ++ ⟨#[47]⟩) ++ x.key.extract 5 x.key.size := by
 unfold hpS at h
 simp only [Bool.and_eq_true, decide_eq_true_eq] at h
 have e := h.2
 have : (bt_ ++ ⟨#[47]⟩ : ByteArray).size = 5 := rfl
 rw [this] at e
 apply dY_
 rw [a6_, ← e, bT_, bT_, Lb_B, Lb_B, List.drop_zero, List.take_of_length_le (l := Lb x.key) (i := x.key.size) (by rw [aH_]; exact Nat.le_refl _), List.take_append_drop]
theorem lh_ {l : List Ent} (h : aO_ l = true) : (nmsS l).Nodup := by
 have hr := (fL_ h).sublist (List.filter_sublist (p := fun x : Ent => hpS x.key (bt_ ++ ⟨#[47]⟩)))
 have hh : ∀ x ∈ undS l bt_, hpS x.key (bt_ ++ ⟨#[47]⟩) = true := fun x hx => nd_ hx
 change (undS l bt_).Pairwise _ at hr
 unfold nmsS bD_
 generalize undS l bt_ = U at hr hh
 induction U with
 |nil => simp
 |cons x U ih =>
  rw [List.pairwise_cons] at hr
  have ih' := ih hr.2 fun y hy => hh y (.tail _ hy)
  rw [List.filterMap_cons]
  split
  ·exact ih'
  ·rename_i m hm
   rw [List.map_cons, List.nodup_cons]
   refine ⟨fun hin => ?_, ih'⟩
   obtain ⟨m', hm', e⟩ := List.mem_map.1 hin
   obtain ⟨y, hy, hk⟩ := List.mem_filterMap.1 hm'
   have e1 := jM_ hm
   have e2 := jM_ hk
   have k1 := jB_ (hh x (.head _))
   have k2 := jB_ (hh y (.tail _ hy))
   rw [e1, e2] at e
   have hlt := hr.1 y hy
   rw [k1, k2, e, bh_] at hlt
   cases hlt
theorem l3_ {l : List ByteArray} (h : l.Nodup) : aW_ l = l := by
 have key : ∀ (l out : List ByteArray), (out ++ l).Nodup → l.foldl cl_ out = out ++ l := by
  intro l
  induction l with
  |nil => intro out _; simp
  |cons x l ih =>
   intro out hn
   have hx : x ∉ out := fun hx => by
    rw [List.nodup_append] at hn
    exact hn.2.2 x hx x (.head _) rfl
   rw [List.foldl_cons, cl_, if_pos (e3_.2 hx), ih (out ++ [x]) (by simpa using hn)]
   simp
 simpa [aW_] using key l [] (by simpa using h)
structure Claimed (l : List Ent) (who : ByteArray) (xs : List Ent) : Prop where
 puts : AdPuts l who xs
 owners : aD_ (jnS l xs) 16 = a2_ (aD_ l 16) (nmsS l)
theorem oh_ {l : List Ent} {who : ByteArray} {a : Adm} (hk : a.kind = 7) (hl : aO_ l = true) (hw : aN_ who = true) : adS l who a = if (bD_ l).length = 0 then ([], 5) else if (clMv l who (bP_ l)).2 = 0 then ((clMv l who (bP_ l)).1, 0) else ([], (clMv l who (bP_ l)).2) := by
 unfold adS
 rw [if_pos ⟨hl, hw⟩]
 have e : b1_ l who a = bL_ l who := by unfold b1_; simp [hk]
 rw [e]
 unfold bL_
 split
 ·rfl
 ·rfl
theorem jA_ {l : List Ent} (hm : ¬ (bD_ l).length = 0) : ∀ s ∈ a2_ (aD_ l 16) (nmsS l), aN_ s = true := fun s hs => by
 have h0 : 0 < (nmsS l).length := by rw [nmsS, List.length_map]; omega
 exact qv_ (by
  have h1 := mj_ h0 s hs
  have : ∀ (l out : List ByteArray) s, s ∈ l.foldl cl_ out → s ∈ out ∨ s ∈ l := by
   intro l
   induction l with
   |nil => intro out s h; exact .inl h
   |cons x l ih =>
    intro out s h
    rcases ih _ _ h with h | h
    ·unfold cl_ at h
     split at h
     ·rcases List.mem_append.1 h with h | h
      ·exact .inl h
      ·rw [List.mem_singleton.1 h]; exact .inr (.head _)
     ·exact .inl h
    ·exact .inr (.tail _ h)
  rcases this _ _ _ h1 with h | h
  ·cases h
  ·exact h)
theorem ih_ : ∀ k < 16, 1 ≤ (gm_ k).size ∧ (gm_ k).size ≤ 128 := by decide
theorem mO_ {l : List Ent} {who : ByteArray} (hl : aO_ l = true) (hw : aN_ who = true) (hm : ¬ (bD_ l).length = 0) : (clMv l who (bP_ l)).2 = 0 ∨ (clMv l who (bP_ l)).2 = 4 := by
 unfold clMv
 refine jJ_ (fun x hx => ?_) (.inl rfl)
 have hp := e7_ hx
 have hs := ih_ x.part hp
 rw [cD_ (by omega)]
 refine qf_ hl hs.1 hs.2 hw ?_
 have hnow := (d6_ hx).2.2
 have := (bz_ (jA_ hm _ (List.mem_of_getElem? hnow))).2
 omega
theorem pF_ {l : List Ent} {who : ByteArray} (hm : ¬ (bD_ l).length = 0) (h : (clMv l who (bP_ l)).2 = 0) : Claimed l who (clMv l who (bP_ l)).1 := by
 have hp := kA_ h
 refine ⟨hp, ?_⟩
 unfold bP_ at h hp ⊢
 exact kx_ (by rw [aZ_]; simp [aD_]) (jA_ hm) h hp.puts
end Go.Proofs.YtkcmbjodladflaaGreatDoor
end

section
set_option linter.all false
set_option maxRecDepth 100000
namespace Go.Proofs.YtkcmbjodladflaaGreatDoor
open Go.Ab
theorem ib_ {a : Adm} (h : l1_ a = true) (h0 : -9223372036854775808 ≤ a.n) (h1 : a.n ≤ 9223372036854775807) : AdmSm a := by
 simp only [l1_, id_, Bool.and_eq_true, decide_eq_true_eq, List.all_cons, List.all_nil, Bool.and_true] at h
 obtain ⟨⟨⟨⟨g1, g2⟩, g3⟩, g4⟩, _, g5, g6, g7⟩ := h
 exact ⟨by omega, by omega, by omega, by omega, h0, h1, by omega, by omega, by omega⟩
theorem r4_ (l : List Ent) (who : ByteArray) (a : Adm) : (adS l who a).1.length ≤ 100 := by
 have hp : ∀ r : Ent × Int, (bX_ ([], 0) r).1.length ≤ 100 := fun r => by rw [he_]; simp
 have hc : (bL_ l who).1.length ≤ 100 := by
  unfold bL_
  split
  ·simp
  ·have h1 := ha_ l who (bP_ l)
   have h2 := do_ 0 (aD_ l 16) (a2_ (aD_ l 16) (nmsS l))
   rw [show (aD_ l 16).length = 16 by simp [aD_]] at h2
   unfold bP_ dK_ at h1 ⊢
   omega
 have ha : (b1_ l who a).1.length ≤ 100 := by
  unfold b1_
  repeat' split
  all_goals first | exact hp _ | exact hc | (unfold bO_; split; exact hp _; simp) | (unfold dG_; split; exact hp _; simp) | simp
 unfold adS
 repeat' split
 ·exact ha
 ·simp
 ·simp
set_option maxHeartbeats 4000000 in
theorem mQ_ {l : List Ent} {t : Bool} {who : ByteArray} {a : Adm} {σ : Store} (n0 : -9223372036854775808 ≤ a.n) (n1 : a.n ≤ 9223372036854775807) : ap_ Tryz.prog 3 [.sl 4 (l.map sEnt) t, vStr who, sAdm a] σ fun v σ' => v = vB true ∧ σ = σ' := by
 have hal := r4_ l who a
 refine am_ Tryz.func3 rfl Tryz.ntmps3 (congrArg Array.toList Tryz.results3) (by simp only [List.length_cons, List.length_nil]; decide) ?_; simp only [ah_, al_, Nat.reduceAdd]
 refine ab_ ?_
 refine aa_ kr_ ?_
 refine bj_ rfl rfl rfl v_ rfl g_ fun o5 ho5 => ?_
 repeat (rw [an_] at ho5; obtain ⟨_, ho5⟩ := ho5)
 (refine aL_S rfl rfl v_ ?_)
 refine ac_ ?_
 refine ab_ ?_
 refine ab_ ?_
 refine aa_ kr_ ?_
 (refine aL_S rfl rfl v_ ?_)
 refine aL_X rfl rfl (ag_ rfl rfl (.inr ⟨rfl, rfl, rfl⟩) g_ va_ (iB_ (n := 40) (by decide)) ?_); rintro _ _ ⟨rfl, rfl⟩
 iterate 2 (refine aL_S rfl rfl v_ ?_)
 refine aw_ rfl rfl v_ rfl vg_ ?_
 refine aw_ rfl rfl v_ rfl vg_ ?_
 refine aw_ rfl rfl v_ rfl vg_ ?_
 iterate 2 (refine aL_S rfl rfl v_ ?_)
 refine aw_ rfl rfl v_ rfl vg_ ?_
 refine bs_ rfl rfl v_ rfl (fun hb => aG_ (by rfl) (by rfl) (.inr ⟨by rfl, by rfl, by rfl⟩) g_ cg_ (pU_)) ?_
 refine aw_ rfl rfl v_ rfl vg_ ?_
 (refine aL_S rfl rfl v_ ?_)
 refine ac_ ?_
 refine ad_ v_ (fun hc1 => ?_) (fun hc1 => ?_)
 ·replace hc1 := nm_ hc1
  refine ab_ ?_
  refine aa_ kr_ ?_
  refine aL_X rfl rfl (ag_ rfl rfl (.inr ⟨rfl, rfl, rfl⟩) g_ va_ (cf_) ?_); rintro _ _ ⟨rfl, rfl⟩
  (refine aL_S rfl rfl v_ ?_)
  refine ac_ ?_
  refine aj_ ?_
  refine ai_ (σ' := σ) v_ sub_ ?_
  exact ⟨rfl, rfl⟩
 ·replace hc1 := nm_ hc1
  have hfe : gq_ l 40 = true := by simp_all
  have hwz : who.size ≤ 100 := by have := hc1; simp_all; omega
  have hfa : l1_ a = true := by simp_all
  obtain ⟨nl, hs, hk⟩ := eG_ hfe
  refine ae_ ?_
  refine ab_ ?_
  refine aa_ kr_ ?_
  iterate 3 (refine aL_S rfl rfl v_ ?_)
  refine aL_X rfl rfl (ag_ rfl rfl (.inr ⟨rfl, rfl, rfl⟩) g_ va_ (cH_ hs (fun x hx => by have := hk x hx; omega) (by omega) (by omega) (ib_ hfa n0 n1)) ?_); rintro _ _ ⟨rfl, rfl⟩
  iterate 5 (refine aL_S rfl rfl v_ ?_)
  refine ac_ ?_
  refine ab_ ?_
  refine aa_ kr_ ?_
  iterate 3 (refine aL_S rfl rfl v_ ?_)
  refine aL_X rfl rfl (ag_ rfl rfl (.inr ⟨rfl, rfl, rfl⟩) g_ va_ (ig_ hs (fun x hx => by have := hk x hx; omega) (by omega) (by omega) (ib_ hfa n0 n1)) ?_); rintro _ _ ⟨rfl, rfl⟩
  iterate 5 (refine aL_S rfl rfl v_ ?_)
  refine ac_ ?_
  refine ab_ ?_
  refine aa_ kr_ ?_
  iterate 2 (refine aL_S rfl rfl v_ ?_)
  refine aL_X rfl rfl (ag_ rfl rfl (.inr ⟨rfl, rfl, rfl⟩) g_ va_ (i8_ (by omega) (by omega)) ?_); rintro _ _ ⟨rfl, rfl⟩
  (refine aL_S rfl rfl v_ ?_)
  refine aC_ rfl rfl v_ rfl vg_ ?_
  refine aC_ rfl rfl v_ rfl vg_ ?_
  refine aC_ rfl rfl v_ rfl vg_ ?_
  iterate 2 (refine aL_S rfl rfl v_ ?_)
  refine ee_ rfl rfl v_ rfl (fun hb => aG_ (by rfl) (by rfl) (.inr ⟨by rfl, by rfl, by rfl⟩) g_ cg_ (cf_)) ?_
  iterate 2 (refine aL_S rfl rfl v_ ?_)
  refine ac_ ?_
  refine aj_ ?_
  refine ai_ (σ' := σ) v_ sub_ ?_
  exact ⟨by simp, rfl⟩
end Go.Proofs.YtkcmbjodladflaaGreatDoor
end

section
set_option linter.all false
set_option maxRecDepth 100000
namespace Go.Proofs.YtkcmbjodladflaaGreatDoor
open Go.Ab
theorem nQ_ {l : List Int} {i : Nat} {x : Int} (hx : l[i]? = some x) : (l.take (i + 1)).sum = (l.take i).sum + x := by
 rw [List.take_succ, hx, List.sum_append]
 simp
theorem iH_ (l : List Int) (h : ∀ x ∈ l, 0 ≤ x) (i : Nat) : 0 ≤ (l.take i).sum ∧ (l.take i).sum ≤ l.sum := by
 have e : ∀ l : List Int, (∀ x ∈ l, 0 ≤ x) → 0 ≤ l.sum := by
  intro l
  induction l with
  |nil => intro _; simp
  |cons x l ih =>
   intro h
   have h1 := h x (List.mem_cons_self ..)
   have h2 := ih fun y hy => h y (List.mem_cons_of_mem _ hy)
   rw [List.sum_cons]; omega
 have h1 := e (l.take i) fun x hx => h x (List.mem_of_mem_take hx)
 have h2 := e (l.drop i) fun x hx => h x (List.mem_of_mem_drop hx)
 have h3 : l.sum = (l.take i).sum + (l.drop i).sum := by rw [← List.sum_append, List.take_append_drop]
 omega
theorem nf_ {ow nm : List ByteArray} {a : Int} (h : a ∈ aX_ ow nm) : 0 ≤ a ∧ a ≤ ow.length := by
 unfold aX_ at h
 obtain ⟨s, _, rfl⟩ := List.mem_map.1 h
 have := jq_ ow s
 omega
structure LoadsOk (L : List Int) (n : Nat) : Prop where
 len : L.length = n
 near : ∀ (i k : Nat) (a b : Int), L[i]? = some a → L[k]? = some b → a - b ≤ 1
 sum : L.sum = 16
 mem : ∀ a ∈ L, 0 ≤ a ∧ a ≤ 16
theorem oR_ {l xs : List Ent} {who : ByteArray} (hok : aO_ l = true) (hm : ¬ (bD_ l).length = 0) (hC : Claimed l who xs) : LoadsOk (aX_ (aD_ (jnS l xs) 16) (nmsS l)) (bD_ l).length := by
 have h0 : 0 < (nmsS l).length := by rw [nmsS, List.length_map]; omega
 have h16 : (aD_ l 16).length = 16 := by simp [aD_]
 rw [hC.owners]
 refine ⟨by rw [b5_, nmsS, List.length_map], fun i k a b ha hb => lO_ h0 ha hb, ?_, fun a ha => ?_⟩
 ·have := oL_ (ow := aD_ l 16) h0
  rw [l3_ (lh_ hok), h16] at this
  exact this
 ·have := nf_ ha
  rw [aZ_, h16] at this; exact this
set_option maxHeartbeats 4000000 in
theorem hv_ {l : List Ent} {t : Bool} {who : ByteArray} {σ : Store} (hw : who.size ≤ 9223372036854775807) : ap_ Tryz.prog 6 [.sl 4 (l.map sEnt) t, vStr who] σ fun v σ' => v = vB true ∧ σ = σ' := by
 refine am_ Tryz.func6 rfl Tryz.ntmps6 (congrArg Array.toList Tryz.results6) (by simp only [List.length_cons, List.length_nil]; decide) ?_; simp only [ah_, al_, Nat.reduceAdd]
 refine ab_ ?_
 refine aa_ kr_ ?_
 (refine aL_S rfl rfl v_ ?_)
 refine ac_ ?_
 refine ab_ ?_
 refine ab_ ?_
 refine aa_ kr_ ?_
 (refine aL_S rfl rfl v_ ?_)
 refine aL_X rfl rfl (ag_ rfl rfl (.inr ⟨rfl, rfl, rfl⟩) g_ va_ (iB_ (n := 40) (by decide)) ?_); rintro _ _ ⟨rfl, rfl⟩
 iterate 2 (refine aL_S rfl rfl v_ ?_)
 refine aw_ rfl rfl v_ rfl vg_ ?_
 refine bs_ rfl rfl v_ rfl (fun hb => aG_ (by rfl) (by rfl) (.inr ⟨by rfl, by rfl, by rfl⟩) g_ cg_ (cZ_ (eG_ (show gq_ l 40 = true from by simp_all)).2.1 (by have := (eG_ (show gq_ l 40 = true from by simp_all)).1; omega))) ?_
 refine aw_ rfl rfl v_ rfl vg_ ?_
 iterate 2 (refine aL_S rfl rfl v_ ?_)
 refine aw_ rfl rfl v_ rfl vg_ ?_
 refine bs_ rfl rfl v_ rfl (fun hb => aG_ (by rfl) (by rfl) (.inr ⟨by rfl, by rfl, by rfl⟩) g_ cg_ (rt_ hw)) ?_
 refine aw_ rfl rfl v_ rfl vg_ ?_
 (refine aL_S rfl rfl v_ ?_)
 refine ac_ ?_
 refine ad_ v_ (fun hc1 => ?_) (fun hc1 => ?_)
 ·replace hc1 := nm_ hc1
  refine ab_ ?_
  refine aa_ kr_ ?_
  refine aL_X rfl rfl (ag_ rfl rfl (.inr ⟨rfl, rfl, rfl⟩) g_ va_ (cf_) ?_); rintro _ _ ⟨rfl, rfl⟩
  (refine aL_S rfl rfl v_ ?_)
  refine ac_ ?_
  refine aj_ ?_
  refine ai_ (σ' := σ) v_ sub_ ?_
  exact ⟨rfl, rfl⟩
 ·replace hc1 := nm_ hc1
  have hfe : gq_ l 40 = true := by simp_all
  have hok : aO_ l = true := by simp_all
  have hwk : aN_ who = true := by simp_all
  obtain ⟨nl, hs, hk⟩ := eG_ hfe
  have hws := hM_ hwk
  have hml := dv_ l
  refine ae_ ?_
  refine ab_ ?_
  refine aa_ kr_ ?_
  (refine aL_S rfl rfl v_ ?_)
  refine aL_X rfl rfl (ag_ rfl rfl (.inr ⟨rfl, rfl, rfl⟩) g_ va_ (fa_ (by omega) (fun x hx => by have := hk x hx; omega)) ?_); rintro _ _ ⟨rfl, rfl⟩
  (refine aL_S rfl rfl v_ ?_)
  refine ac_ ?_
  refine ab_ ?_
  refine aa_ kr_ ?_
  iterate 3 (refine aL_S rfl rfl v_ ?_)
  refine aL_X rfl rfl (ag_ rfl rfl (.inr ⟨rfl, rfl, rfl⟩) g_ va_ (cH_ (a := ad7) hs (fun x hx => by have := hk x hx; omega) (by omega) (by omega) (oM_ (by decide) (by decide) (by decide))) ?_); rintro _ _ ⟨rfl, rfl⟩
  iterate 5 (refine aL_S rfl rfl v_ ?_)
  refine ac_ ?_
  obtain ⟨R, hR⟩ : ∃ R, adS l who ad7 = R := ⟨_, rfl⟩
  have hA := oh_ (a := ad7) rfl hok hwk
  rw [hR] at hA ⊢
  obtain ⟨X, n⟩ := R
  dsimp only at hA ⊢
  refine ab_ ?_
  refine ab_ ?_
  refine aa_ kr_ ?_
  iterate 3 (refine aL_S rfl rfl v_ ?_)
  refine ac_ ?_
  refine ad_ v_ (fun hc5 => ?_) (fun hc5 => ?_)
  ·replace hc5 := nm_ hc5
   rw [if_pos (by omega)] at hA
   obtain ⟨rfl, rfl⟩ := Prod.mk.inj hA
   refine ab_ ?_
   refine aa_ kr_ ?_
   iterate 3 (refine aL_S rfl rfl v_ ?_)
   refine ee_ rfl rfl v_ rfl (fun hb => aG_ (by rfl) (by rfl) (.inr ⟨by rfl, by rfl, by rfl⟩) g_ cg_ (cf_)) ?_
   iterate 2 (refine aL_S rfl rfl v_ ?_)
   refine ac_ ?_
   refine aj_ ?_
   refine ai_ (σ' := σ) v_ sub_ ?_
   exact ⟨rfl, rfl⟩
  ·replace hc5 := nm_ hc5
   have hm : ¬ (bD_ l).length = 0 := by omega
   rw [if_neg hm] at hA
   have hE := mO_ hok hwk hm
   refine ae_ ?_
   refine ab_ ?_
   refine ab_ ?_
   refine aa_ kr_ ?_
   iterate 2 (refine aL_S rfl rfl v_ ?_)
   refine ac_ ?_
   refine ad_ v_ (fun hc7 => ?_) (fun hc7 => ?_)
   ·replace hc7 := nm_ hc7
    refine ab_ ?_
    refine aa_ kr_ ?_
    refine aL_X rfl rfl (ag_ rfl rfl (.inr ⟨rfl, rfl, rfl⟩) g_ va_ (cf_) ?_); rintro _ _ ⟨rfl, rfl⟩
    (refine aL_S rfl rfl v_ ?_)
    refine ac_ ?_
    refine aj_ ?_
    refine ai_ (σ' := σ) v_ sub_ ?_
    exact ⟨rfl, rfl⟩
   ·replace hc7 := nm_ hc7
    have h0 : (clMv l who (bP_ l)).2 = 0 := by
     rcases hE with h | h
     ·exact h
     ·rw [if_neg (by omega)] at hA
      have := (Prod.mk.inj hA).2
      omega
    rw [if_pos h0] at hA
    obtain ⟨hX, rfl⟩ := Prod.mk.inj hA
    have hC := pF_ hm h0
    rw [← hX] at hC
    have hL := oR_ hok hm hC
    have hp := hC.puts.puts
    have hfew := hC.puts.few
    have hjoX := rT_ hp hok (by omega)
    have hleX := jy_ X l
    obtain ⟨LD, hLD⟩ : ∃ LD, aX_ (aD_ (jnS l X) 16) (nmsS l) = LD := ⟨_, rfl⟩
    have hL1 := hL.len
    have hL2 := hL.sum
    have hL3 := hL.mem
    have hL4 := hL.near
    rw [hLD] at hL1 hL2 hL3 hL4
    have hnl : (nmsS l).length = (bD_ l).length := by rw [nmsS, List.length_map]
    refine ae_ ?_
    refine ab_ ?_
    refine aa_ kr_ ?_
    iterate 2 (refine aL_S rfl rfl v_ ?_)
    refine ac_ ?_
    refine ab_ ?_
    refine ab_ ?_
    refine aa_ kr_ ?_
    (refine aL_S rfl rfl v_ ?_)
    refine ac_ ?_
    refine ak_ ?_
    refine ao_ (ι := Nat × Bool) (fun ⟨i, u⟩ => X.length - i) (fun ⟨i, u⟩ => i ≤ X.length) (fun ⟨i, u⟩ => [(5, .sl 4 ((bD_ l).map sMbr) false), (6, .sl 4 (X.map sEnt) false), (7, vInt 0), (8, .sl 4 ((jnS l (X.take i)).map sEnt) u), (9, vInt i)]) (fun ⟨i, u⟩ => σ) (0, t) ?_ ?_ ?_ ?_
    ·exact Nat.zero_le _
    ·exact cv_
    ·exact sub_
    rintro ⟨i, u⟩ hi
    simp only [ar_, as_]
    refine ab_ ?_
    refine ab_ ?_
    refine aa_ kr_ ?_
    iterate 4 (refine aL_S rfl rfl v_ ?_)
    refine ac_ ?_
    refine ad_ v_ (fun hc11 => ?_) (fun hc11 => ?_)
    ·replace hc11 := nm_ hc11
     refine ae_ ?_
     refine ab_ ?_
     refine ak_ ?_
     refine ab_ ?_
     obtain ⟨x, hx⟩ := aA_ (l := X) (k := i) (by omega)
     have hst := m9_ (a := l) hx
     have hle := jy_ (X.take i) l
     rw [List.length_take] at hle
     have hxo := (hp.ok x (List.mem_of_getElem? hx)).1
     have hjo := rT_ (hp.take i) hok (by rw [List.length_take]; omega)
     have hpe := q8_ hjo hxo (by omega)
     have R := hx
     refine aa_ kr_ ?_
     iterate 5 (refine aL_S rfl rfl v_ ?_)
     refine aL_X rfl rfl (ag_ rfl rfl (.inr ⟨rfl, rfl, rfl⟩) g_ va_ (pe_ (y := x) (by omega) (fun z hz => (cq_ hjo z hz).1) (rV_ hxo)) ?_); rintro _ _ ⟨rfl, rfl⟩
     iterate 5 (refine aL_S rfl rfl v_ ?_)
     refine ac_ ?_
     rw [hpe]
     refine ab_ ?_
     refine ab_ ?_
     refine aa_ kr_ ?_
     iterate 2 (refine aL_S rfl rfl v_ ?_)
     refine ac_ ?_
     refine ad_ v_ (fun hc14 => ?_) (fun hc14 => ?_)
     ·replace hc14 := nm_ hc14
      exact absurd hc14 (by decide)
     ·replace hc14 := nm_ hc14
      refine ae_ ?_
      refine aa_ kr_ ?_
      iterate 2 (refine aL_S rfl rfl v_ ?_)
      refine ac_ ?_
      refine aa_ kr_ ?_
      iterate 3 (refine aL_S rfl rfl v_ ?_)
      refine ac_ ?_
      refine aI_ (ι := Nat × Bool) (i := ⟨i, u⟩) (i + 1, false) ?_ ?_ ?_ ?_
      ·show X.length - (i + 1) < X.length - i; omega
      ·(show i + 1 ≤ X.length; omega)
      ·have R := hst; exact cv_
      ·exact sub_
    ·replace hc11 := nm_ hc11
     refine av_ ?_
     refine af_ ?_
     refine af_ ?_
     refine aq_ ?_
     refine ab_ ?_
     obtain rfl : i = X.length := by omega
     rw [List.take_length]
     refine aa_ kr_ ?_
     refine bp_ 9 1 rfl rfl rfl (by rfl) fun k12 hk12 => ?_
     refine ac_ ?_
     refine ab_ ?_
     refine ab_ ?_
     refine aa_ kr_ ?_
     (refine aL_S rfl rfl v_ ?_)
     refine ac_ ?_
     refine ak_ ?_
     refine ao_ (ι := Nat × Nat) (fun ⟨tk, j⟩ => (bD_ l).length - j) (fun ⟨tk, j⟩ => j ≤ (bD_ l).length ∧ σ.tok tk = none) (fun ⟨tk, j⟩ => [(5, .sl 4 ((bD_ l).map sMbr) false), (7, vInt 0), (8, .sl 4 ((jnS l X).map sEnt) u), (12, .own tk 1 ((((bD_ l).take j).map Mbr.name).map vStr)), (13, vInt j)]) (fun ⟨tk, j⟩ => (σ.newTok none tk (9, 1))) (k12, 0) ?_ ?_ ?_ ?_
     ·exact ⟨Nat.zero_le _, hk12⟩
     ·exact cv_
     ·exact Store.Wk.refl _
     rintro ⟨tk, j⟩ ⟨hj, htk⟩
     simp only [ar_, as_]
     refine ab_ ?_
     refine ab_ ?_
     refine aa_ kr_ ?_
     iterate 4 (refine aL_S rfl rfl v_ ?_)
     refine ac_ ?_
     refine ad_ v_ (fun hc19 => ?_) (fun hc19 => ?_)
     ·replace hc19 := nm_ hc19
      refine ae_ ?_
      refine ab_ ?_
      refine ak_ ?_
      obtain ⟨m, hm'⟩ := aA_ (l := bD_ l) (k := j) (by omega)
      have hnx : ((((bD_ l).take (j + 1)).map Mbr.name).map vStr) = ((((bD_ l).take j).map Mbr.name).map vStr) ++ [vStr m.name] := by rw [aM_ hm']; simp
      have R := hm'
      refine aa_ kr_ ?_
      iterate 6 (refine aL_S rfl rfl v_ ?_)
      refine au_ rfl rfl rfl g_ g_ rfl rfl h_ c2_ (by decide) ?_
      refine aP_ rfl rfl rfl g_ g_ v_ h_ v_ c_ (by simp only [List.length_map, List.length_take, List.length_append, List.length_singleton]; omega) fun k84 hk84 => ?_
      (refine aL_S rfl rfl v_ ?_)
      refine ac_ ?_
      refine aa_ kr_ ?_
      iterate 3 (refine aL_S rfl rfl v_ ?_)
      refine ac_ ?_
      refine aI_ (ι := Nat × Nat) (i := ⟨tk, j⟩) (k84, j + 1) ?_ ?_ ?_ ?_
      ·show (bD_ l).length - (j + 1) < (bD_ l).length - j; omega
      ·exact ⟨by show j + 1 ≤ (bD_ l).length; omega, (aJ_ hk84).2⟩
      ·have R := hnx; exact cv_
      ·exact sub_
     ·replace hc19 := nm_ hc19
      refine av_ ?_
      refine af_ ?_
      refine af_ ?_
      refine aq_ ?_
      refine ab_ ?_
      obtain rfl : j = (bD_ l).length := by omega
      rw [List.take_length, show (bD_ l).map Mbr.name = nmsS l from rfl]
      refine aa_ kr_ ?_
      (refine aL_S rfl rfl v_ ?_)
      refine aL_X rfl rfl (ag_ rfl rfl (.inr ⟨rfl, rfl, rfl⟩) g_ va_ (fR_ (n := 16) (by decide) (by decide) (by omega) (fun z hz => (cq_ hjoX z hz).1)) ?_); rintro _ _ ⟨rfl, rfl⟩
      refine aL_X rfl rfl (eb_ (a := .own tk 1 ((nmsS l).map vStr)) (bM_ (by rfl) ⟨rfl, rfl⟩) (.own1 _ _ _) ?_)
      refine aL_X rfl rfl (ag_ rfl rfl (.inr ⟨rfl, rfl, rfl⟩) g_ va_ (ap_.still (km_ (ow := aD_ (jnS l X) 16) (nm := nmsS l) (by simp [aD_]) (by omega))) ?_); rintro _ _ ⟨rfl, rfl⟩
      rw [hLD]
      (refine aL_S rfl rfl v_ ?_)
      refine ac_ ?_
      refine ab_ ?_
      refine aa_ kr_ ?_
      (refine aL_S rfl rfl v_ ?_)
      refine ac_ ?_
      refine ab_ ?_
      refine ab_ ?_
      refine aa_ kr_ ?_
      (refine aL_S rfl rfl v_ ?_)
      refine ac_ ?_
      refine ak_ ?_
      refine ao_ (ι := Nat) (fun i => LD.length - i) (fun i => i ≤ LD.length) (fun i => [(7, vInt 0), (14, .sl 1 (LD.map vInt) false), (15, vInt (LD.take i).sum), (16, vInt i)]) (fun i => (σ.newTok none tk (9, 1))) 0 ?_ ?_ ?_ ?_
      ·exact Nat.zero_le _
      ·exact cv_
      ·exact Store.Wk.refl _
      rintro i hi2
      simp only [ar_, as_]
      refine ab_ ?_
      refine ab_ ?_
      refine aa_ kr_ ?_
      iterate 4 (refine aL_S rfl rfl v_ ?_)
      refine ac_ ?_
      refine ad_ v_ (fun hc25 => ?_) (fun hc25 => ?_)
      ·replace hc25 := nm_ hc25
       refine ae_ ?_
       refine ab_ ?_
       refine ak_ ?_
       refine ab_ ?_
       obtain ⟨a, ha⟩ : ∃ a, LD[i]? = some a := ⟨_, dd_ (by omega)⟩
       have ha' := hL3 a (List.mem_of_getElem? ha)
       have hts := nQ_ ha
       have hsl := iH_ LD (fun x hx => (hL3 x hx).1) i
       have R := ha
       refine aa_ kr_ ?_
       iterate 7 (refine aL_S rfl rfl v_ ?_)
       refine ac_ ?_
       refine ab_ ?_
       refine aa_ kr_ ?_
       (refine aL_S rfl rfl v_ ?_)
       refine ac_ ?_
       refine ak_ ?_
       refine ao_ (ι := Nat) (fun k => LD.length - k) (fun k => k ≤ LD.length) (fun k => [(7, vInt 0), (14, .sl 1 (LD.map vInt) false), (15, vInt (LD.take (i + 1)).sum), (16, vInt i), (17, vInt k)]) (fun k => (σ.newTok none tk (9, 1))) 0 ?_ ?_ ?_ ?_
       ·exact Nat.zero_le _
       ·have R := hts; exact cv_
       ·exact Store.Wk.refl _
       rintro k hk2
       simp only [ar_, as_]
       refine ab_ ?_
       refine ab_ ?_
       refine aa_ kr_ ?_
       iterate 4 (refine aL_S rfl rfl v_ ?_)
       refine ac_ ?_
       refine ad_ v_ (fun hc29 => ?_) (fun hc29 => ?_)
       ·replace hc29 := nm_ hc29
        refine ae_ ?_
        refine ab_ ?_
        refine ak_ ?_
        refine ab_ ?_
        obtain ⟨b, hb⟩ : ∃ b, LD[k]? = some b := ⟨_, dd_ (by omega)⟩
        have hb' := hL3 b (List.mem_of_getElem? hb)
        have hab := hL4 i k a b ha hb
        have R := And.intro ha hb
        refine aE_ (.op 0 0 (.op 1 0 (.op 2 0 (.op 3 0 (.op 4 0 (.op 5 0 (.op 6 0 (.op 7 0 (.op 8 0 (.op 9 0 .nil)))))))))) Tryz.mixed kr_ ?_
        iterate 10 (refine dR_S o_ (by rfl) (by rfl) v_ ?_)
        refine aK_ ?_
        refine ad_ v_ (fun hc31 => ?_) (fun hc31 => ?_)
        ·replace hc31 := nm_ hc31
         omega
        ·replace hc31 := nm_ hc31
         refine ae_ ?_
         refine aa_ kr_ ?_
         iterate 3 (refine aL_S rfl rfl v_ ?_)
         refine ac_ ?_
         refine aI_ (ι := Nat) (i := k) (k + 1) ?_ ?_ ?_ ?_
         ·omega
         ·omega
         ·exact cv_
         ·exact Store.Wk.refl _
       ·replace hc29 := nm_ hc29
        refine av_ ?_
        refine af_ ?_
        refine af_ ?_
        refine aq_ ?_
        refine aa_ kr_ ?_
        iterate 3 (refine aL_S rfl rfl v_ ?_)
        refine ac_ ?_
        refine aI_ (ι := Nat) (i := i) (i + 1) ?_ ?_ ?_ ?_
        ·omega
        ·omega
        ·exact cv_
        ·exact Store.Wk.refl _
      ·replace hc25 := nm_ hc25
       refine av_ ?_
       refine af_ ?_
       refine af_ ?_
       refine aq_ ?_
       refine ab_ ?_
       obtain rfl : i = LD.length := by omega
       rw [List.take_length, hL2]
       refine aa_ kr_ ?_
       iterate 3 (refine aL_S rfl rfl v_ ?_)
       refine aC_ rfl rfl v_ rfl vg_ ?_
       refine aC_ rfl rfl v_ rfl vg_ ?_
       iterate 2 (refine aL_S rfl rfl v_ ?_)
       refine ee_ rfl rfl v_ rfl (fun hb => aG_ (by rfl) (by rfl) (.inr ⟨by rfl, by rfl, by rfl⟩) g_ cg_ (cf_)) ?_
       iterate 2 (refine aL_S rfl rfl v_ ?_)
       refine ac_ ?_
       refine aj_ ?_
       refine ai_ (σ' := σ) v_ sub_ ?_
       exact ⟨rfl, rfl⟩
end Go.Proofs.YtkcmbjodladflaaGreatDoor
end
