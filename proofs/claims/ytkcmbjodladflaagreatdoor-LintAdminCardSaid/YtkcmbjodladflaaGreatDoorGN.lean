/-
  The reference of members: Member; The reference of the ring: Key, Owners; Claims: what the plain sharing out comes to: how many each name gets; What a claim by an administrator comes to, plainly: who owns what behind it; Names of members are apart, and shared out evenly among them: plainly; AdminShares: the walk. Own work (an AI agent).
-/
import Derived.Test.YtkcmbjodladflaaGreatDoorGJ
import Derived.Test.YtkcmbjodladflaaGreatDoorGK

section
set_option linter.all false
set_option maxRecDepth 100000
namespace Go.Proofs.YtkcmbjodladflaaGreatDoor
open Go.Ab
theorem hU_ {a v : ByteArray} {σ : Store} (ha : a.size ≤ 900000) (hv : v.size ≤ 900000) : ao_ Tryz.prog 67 [vStr a, vStr v] σ fun w σ' => w = .tup [sMbr ((mbrS a v).getD d1_), vB (mbrS a v).isSome] ∧ σ = σ' := by
 have hpl := dT_ v
 have hpm : ∀ x ∈ aH_ v, x.size ≤ 900000 := fun x hx => Nat.le_trans (c9_ hx).2 hv
 obtain ⟨r, hr, rz⟩ := gm_ hpm 0
 obtain ⟨z, hz, zz⟩ := gm_ hpm 1
 obtain ⟨u, hu, uz⟩ := gm_ hpm 2
 refine aj_ Tryz.func67 rfl Tryz.ntmps67 (congrArg Array.toList Tryz.results67) (by simp only [List.length_cons, List.length_nil]; decide) ?_; simp only [af_, ak_, Nat.reduceAdd]
 refine ab_ ?_
 refine aa_ kr_ ?_
 refine aQ_ rfl rfl rfl g_ gl_ fun o4 ho4 => ?_
 repeat (rw [an_] at ho4; obtain ⟨_, ho4⟩ := ho4)
 (refine aL_S rfl rfl v_ ?_)
 refine ac_ ?_
 refine ab_ ?_
 refine aa_ kr_ ?_
 (refine aL_S rfl rfl v_ ?_)
 refine aL_X rfl rfl (ae_ rfl rfl (.inr ⟨rfl, rfl, rfl⟩) g_ va_ (nY_ (by omega)) ?_); rintro _ _ ⟨rfl, rfl⟩
 (refine aL_S rfl rfl v_ ?_)
 refine ac_ ?_
 refine ab_ ?_
 refine ab_ ?_
 have R := And.intro hr (And.intro hz hu)
 refine aa_ kr_ ?_
 (refine aL_S rfl rfl v_ ?_)
 refine aL_X rfl rfl (ae_ rfl rfl (.inr ⟨rfl, rfl, rfl⟩) g_ va_ (l5_ (by omega)) ?_); rintro _ _ ⟨rfl, rfl⟩
 iterate 2 (refine aL_S rfl rfl v_ ?_)
 refine ay_ rfl rfl v_ rfl vg_ ?_
 refine ay_ rfl rfl v_ rfl vg_ ?_
 refine ay_ rfl rfl v_ rfl vg_ ?_
 iterate 2 (refine aL_S rfl rfl v_ ?_)
 refine ay_ rfl rfl v_ rfl vg_ ?_
 refine ay_ rfl rfl v_ rfl vg_ ?_
 refine ay_ rfl rfl v_ rfl vg_ ?_
 refine bQ_ rfl rfl v_ rfl (fun hb => aK_ (by rfl) (by rfl) (.inr ⟨by rfl, by rfl, by rfl⟩) g_ cg_ (l5_ (by omega))) ?_
 refine ay_ rfl rfl v_ rfl vg_ ?_
 iterate 2 (refine aL_S rfl rfl v_ ?_)
 refine ay_ rfl rfl v_ rfl vg_ ?_
 refine ay_ rfl rfl v_ rfl vg_ ?_
 refine ay_ rfl rfl v_ rfl vg_ ?_
 refine bQ_ rfl rfl v_ rfl (fun hb => aK_ (by rfl) (by rfl) (.inr ⟨by rfl, by rfl, by rfl⟩) g_ cg_ (l5_ (by omega))) ?_
 refine ay_ rfl rfl v_ rfl vg_ ?_
 iterate 2 (refine aL_S rfl rfl v_ ?_)
 refine ay_ rfl rfl v_ rfl vg_ ?_
 refine ay_ rfl rfl v_ rfl vg_ ?_
 refine ay_ rfl rfl v_ rfl vg_ ?_
 refine ay_ rfl rfl v_ rfl vg_ ?_
 refine ay_ rfl rfl v_ rfl vg_ ?_
 refine eo_ rfl rfl v_ rfl vg_ ?_
 refine eo_ rfl rfl v_ rfl vg_ ?_
 refine eo_ rfl rfl v_ rfl vg_ ?_
 refine eo_ rfl rfl v_ rfl vg_ ?_
 refine ay_ rfl rfl v_ rfl vg_ ?_
 (refine aL_S rfl rfl v_ ?_)
 refine ac_ ?_
 refine ad_ v_ (fun hc2 => ?_) (fun hc2 => ?_)
 ·replace hc2 := nm_ hc2
  refine ab_ ?_
  refine aa_ kr_ ?_
  (refine aL_S rfl rfl v_ ?_)
  refine av_ rfl rfl rfl v_ v_ h_ g_ rfl g_ c_ (by rfl) le_ v_ ?_
  (refine aL_S rfl rfl v_ ?_)
  refine ac_ ?_
  refine am_ ?_
  refine ai_ (σ' := σ) v_ sub_ ?_
  skip
  have hn : mbrS a v = none := by
   by_cases h3 : (aH_ v).length = 3
   ·rw [fi_ h3 (hr (by omega)) (hz (by omega)) (hu (by omega)), if_neg]
    rintro ⟨g1, g2, g3, g4⟩
    rcases g4 with rfl | rfl <;> simp [g1, g2, g3, h3, bsUp, e6_] at hc2
   ·exact ji_ h3
  exact ⟨by rw [hn]; rfl, rfl⟩
 ·replace hc2 := nm_ hc2
  have h3 : (aH_ v).length = 3 := by omega
  have hr' := hr (by omega)
  have hz' := hz (by omega)
  have hu' := hu (by omega)
  have hms := fi_ (a := a) h3 hr' hz' hu'
  refine ah_ ?_
  refine ab_ ?_
  have R := And.intro hr' (And.intro hz' hu')
  refine aG_ (.op 0 0 (.op 1 0 (.op 2 0 (.op 3 0 (.op 4 0 (.op 5 0 (.op 6 0 (.op 7 0 (.op 8 0 (.op 9 0 (.op 10 0 (.op 11 0 (.op 12 2 (.op 13 0 .nil)))))))))))))) Tryz.mixed kr_ ?_
  iterate 12 (refine dR_S o_ (by rfl) (by rfl) v_ ?_)
  refine aM_ o_ (by rfl) (by rfl) (by rfl) v_ v_ h_ g_ rfl g_ c_ (by rfl) le_ v_ ?_
  (refine dR_S o_ (by rfl) (by rfl) v_ ?_)
  refine aL_ ?_
  refine am_ ?_
  refine ai_ (σ' := σ) v_ sub_ ?_
  skip
  have hud : u = bsUp ∨ u = e6_ := by
   by_cases h1 : u = bsUp
   ·exact .inl h1
   ·by_cases h2 : u = e6_
    ·exact .inr h2
    ·simp_all [bsUp, e6_]
  refine ⟨?_, rfl⟩
  rw [hms, if_pos (by simp_all)]; rfl
theorem nD_ {k s : ByteArray} {c : UInt8} (hc : s.size < k.size → k[s.size]? = some c) : hpS k (s ++ ⟨#[47]⟩) = (decide (s.size < k.size) && decide (k.extract 0 s.size = s) && decide (c = 47)) := by
 have e0 : s ++ ⟨#[47]⟩ = B (Lb s ++ [47]) := by rw [← df_, B_Lb]; rfl
 have hget : s.size < k.size → (Lb k)[s.size]? = some c := fun h => by
  have h1 := hi_ h
  have h2 := hc h
  rw [getElem?_pos k s.size h] at h2
  rw [h1, Option.some.inj h2]
 rw [e0, Bool.eq_iff_iff, gR_]
 simp only [Bool.and_eq_true, decide_eq_true_eq]
 constructor
 ·rintro ⟨r, h⟩
  have hl := congrArg List.length h
  simp only [List.length_append, aB_, List.length_singleton] at hl
  have hlt : s.size < k.size := by omega
  refine ⟨⟨hlt, ?_⟩, ?_⟩
  ·apply fn_
   rw [bM_, Lb_B, List.drop_zero, h, List.append_assoc, List.take_append_of_le_length (by rw [aB_]; exact Nat.le_refl _), List.take_of_length_le (by rw [aB_]; exact Nat.le_refl _)]
  ·have h1 := hget hlt
   rw [h, List.append_assoc, List.getElem?_append_right (by rw [aB_]; exact Nat.le_refl _), aB_, Nat.sub_self] at h1
   simpa using h1.symm
 ·rintro ⟨⟨hlt, h1⟩, rfl⟩
  have h2 := congrArg Lb h1
  rw [bM_, Lb_B, List.drop_zero] at h2
  refine ⟨(Lb k).drop (s.size + 1), ?_⟩
  rw [← h2, ← aX_ (hget hlt), List.take_append_drop]
theorem qw_ {l : List Ent} {s : ByteArray} {i : Nat} {x : Ent} (hx : l[i]? = some x) (h : hpS x.key (s ++ ⟨#[47]⟩) = true) : (undS (l.take (i + 1)) s).map sEnt = (undS (l.take i) s).map sEnt ++ [sEnt x] := by
 rw [aX_ hx, undS, List.filter_append, List.map_append]; simp [h, undS]
theorem r8_ {l : List Ent} {s : ByteArray} {i : Nat} {x : Ent} (hx : l[i]? = some x) (h : hpS x.key (s ++ ⟨#[47]⟩) = false) : (undS (l.take (i + 1)) s).map sEnt = (undS (l.take i) s).map sEnt := by
 rw [aX_ hx, undS, List.filter_append, List.map_append]; simp [h, undS]
theorem nZ_ {l : List Ent} {s : ByteArray} {t : Bool} {σ : Store} (la : l.length ≤ 100000) (hs : s.size ≤ 100000) (hk : ∀ x ∈ l, x.key.size ≤ 1000000) : ao_ Tryz.prog 66 [.sl 4 (l.map sEnt) t, vStr s] σ fun v σ' => v = .sl 4 ((undS l s).map sEnt) false ∧ σ = σ' := by
 have hol := fun i => dL_ (l.take i) s
 have htl := fun i => List.length_take_le i l
 refine aj_ Tryz.func66 rfl Tryz.ntmps66 (congrArg Array.toList Tryz.results66) (by simp only [List.length_cons, List.length_nil]; decide) ?_; simp only [af_, ak_, Nat.reduceAdd]
 refine ab_ ?_
 refine aa_ kr_ ?_
 (refine aL_S rfl rfl v_ ?_)
 refine ac_ ?_
 refine ab_ ?_
 refine aa_ kr_ ?_
 refine ci_ 45 4 rfl rfl rfl (by rfl) fun k5 hk5 => ?_
 refine ac_ ?_
 refine ab_ ?_
 refine ab_ ?_
 refine aa_ kr_ ?_
 (refine aL_S rfl rfl v_ ?_)
 refine ac_ ?_
 refine al_ ?_
 refine ap_ (ι := Nat × Nat) (fun ⟨tk, i⟩ => l.length - i) (fun ⟨tk, i⟩ => i ≤ l.length ∧ σ.tok tk = none) (fun ⟨tk, i⟩ => [(0, .sl 4 (l.map sEnt) t), (1, vStr s), (5, .own tk 4 ((undS (l.take i) s).map sEnt)), (6, vInt i)]) (fun ⟨tk, i⟩ => (σ.newTok none tk (45, 4))) (k5, 0) ?_ ?_ ?_ ?_
 ·exact ⟨Nat.zero_le _, hk5⟩
 ·exact cv_
 ·exact Store.Wk.refl _
 rintro ⟨tk, i⟩ ⟨hi, htk⟩
 simp only [ar_, au_]
 refine ab_ ?_
 refine ab_ ?_
 refine aa_ kr_ ?_
 iterate 4 (refine aL_S rfl rfl v_ ?_)
 refine ac_ ?_
 refine ad_ v_ (fun hc3 => ?_) (fun hc3 => ?_)
 ·replace hc3 := nm_ hc3
  refine ah_ ?_
  refine ab_ ?_
  refine al_ ?_
  refine ab_ ?_
  obtain ⟨x, hx⟩ := aA_ (l := l) (k := i) (by omega)
  have h1 := hol i
  have h2 := htl i
  have hkx := hk x (List.mem_of_getElem? hx)
  obtain ⟨c, hc⟩ : ∃ c : UInt8, s.size < x.key.size → x.key[s.size]? = some c := by
   by_cases h : s.size < x.key.size
   ·exact ⟨x.key[s.size], fun _ => getElem?_pos x.key s.size h⟩
   ·exact ⟨0, fun h' => absurd h' h⟩
  have hps := nD_ hc
  have hcl : c.toNat < 256 := c.toNat_lt
  have R := hx
  refine aa_ kr_ ?_
  iterate 6 (refine aL_S rfl rfl v_ ?_)
  refine ac_ ?_
  refine ab_ ?_
  have R := hc
  refine aa_ kr_ ?_
  iterate 6 (refine aL_S rfl rfl v_ ?_)
  refine aC_ rfl rfl v_ rfl vg_ ?_
  refine aC_ rfl rfl v_ rfl vg_ ?_
  refine aC_ rfl rfl v_ rfl vg_ ?_
  refine aC_ rfl rfl v_ rfl vg_ ?_
  refine aC_ rfl rfl v_ rfl vg_ ?_
  refine aC_ rfl rfl v_ rfl vg_ ?_
  iterate 2 (refine aL_S rfl rfl v_ ?_)
  refine aC_ rfl rfl v_ rfl vg_ ?_
  refine aC_ rfl rfl v_ rfl vg_ ?_
  refine aC_ rfl rfl v_ rfl vg_ ?_
  refine aC_ rfl rfl v_ rfl vg_ ?_
  refine aC_ rfl rfl v_ rfl vg_ ?_
  (refine aL_S rfl rfl v_ ?_)
  refine ac_ ?_
  refine ad_ v_ (fun hc6 => ?_) (fun hc6 => ?_)
  ·replace hc6 := nm_ hc6
   have hcv := qw_ (s := s) hx (by rw [hps]; obtain ⟨⟨a1, a2⟩, a3⟩ := hc6; rw [decide_eq_true (by omega), decide_eq_true a2, decide_eq_true (UInt8.toNat_inj.1 (by rw [show (47 : UInt8).toNat = 47 from rfl]; omega))]; rfl)
   have R := hx
   refine aa_ kr_ ?_
   iterate 5 (refine aL_S rfl rfl v_ ?_)
   refine aw_ rfl rfl rfl g_ g_ rfl rfl h_ c2_ (by decide) ?_
   refine be_ rfl rfl rfl g_ g_ v_ h_ v_ c_ (by simp; omega) fun k45 hk45 => ?_
   (refine aL_S rfl rfl v_ ?_)
   refine ac_ ?_
   refine aa_ kr_ ?_
   iterate 3 (refine aL_S rfl rfl v_ ?_)
   refine ac_ ?_
   refine aJ_ (ι := Nat × Nat) (i := ⟨tk, i⟩) (k45, i + 1) ?_ ?_ ?_ ?_
   ·show l.length - (i + 1) < l.length - i; omega
   ·exact ⟨by show i + 1 ≤ l.length; omega, (a8_ hk45).2⟩
   ·have R := hcv; exact cv_
   ·exact sub_
  ·replace hc6 := nm_ hc6
   have hcv := r8_ (s := s) hx (by
    rw [hps]
    by_cases a1 : s.size < x.key.size
    ·by_cases a2 : x.key.extract 0 s.size = s
     ·by_cases a3 : c = 47
      ·subst a3; exfalso; simp_all; omega
      ·simp [a3]
     ·simp [a2]
    ·simp [a1])
   refine ah_ ?_
   refine aa_ kr_ ?_
   iterate 3 (refine aL_S rfl rfl v_ ?_)
   refine ac_ ?_
   refine aJ_ (ι := Nat × Nat) (i := ⟨tk, i⟩) (tk, i + 1) ?_ ?_ ?_ ?_
   ·show l.length - (i + 1) < l.length - i; omega
   ·exact ⟨by show i + 1 ≤ l.length; omega, htk⟩
   ·have R := hcv; exact cv_
   ·exact sub_
 ·replace hc3 := nm_ hc3
  refine ax_ ?_
  refine ag_ ?_
  refine ag_ ?_
  refine aq_ ?_
  refine ab_ ?_
  obtain rfl : i = l.length := by omega
  rw [List.take_length]
  refine aa_ kr_ ?_
  iterate 2 (refine aL_S rfl rfl v_ ?_)
  refine ac_ ?_
  refine am_ ?_
  exact a6_ (v := .sl 4 ((undS l s).map sEnt) false) (v' := .own tk 4 ((undS l s).map sEnt)) va_ (.own1 _ _ _) sub_ ⟨rfl, rfl⟩
theorem kq_ {l : List Ent} {t : Bool} {σ : Store} (hl : l.length ≤ 100000) (hks : ∀ x ∈ l, x.key.size ≤ 400000 ∧ x.value.size ≤ 400000) : ao_ Tryz.prog 23 [.sl 4 (l.map sEnt) t] σ fun v σ' => v = .sl 4 ((bT_ l).map sMbr) false ∧ σ = σ' := by
 obtain ⟨U, hU⟩ : ∃ U, undS l a0_ = U := ⟨_, rfl⟩
 have hUl := dL_ l a0_
 have hsub : ∀ x ∈ undS l a0_, x ∈ l := fun x hx => (List.mem_filter.1 hx).1
 have hhp : ∀ x ∈ undS l a0_, 5 ≤ x.key.size := fun x hx => by
  have := jQ_ hx
  unfold hpS at this
  simp only [Bool.and_eq_true, decide_eq_true_eq] at this
  exact this.1
 have hml := dm_ l
 rw [show bT_ l = (undS l a0_).filterMap memK from rfl] at hml ⊢
 rw [hU] at hUl hsub hml hhp ⊢
 have hol := fun i => List.length_filterMap_le memK (U.take i)
 have htl := fun i => List.length_take_le i U
 refine aj_ Tryz.func23 rfl Tryz.ntmps23 (congrArg Array.toList Tryz.results23) (by simp only [List.length_cons, List.length_nil]; decide) ?_; simp only [af_, ak_, Nat.reduceAdd]
 refine ab_ ?_
 refine aa_ kr_ ?_
 (refine aL_S rfl rfl v_ ?_)
 refine ac_ ?_
 refine ab_ ?_
 refine aa_ kr_ ?_
 refine ci_ 24 4 rfl rfl rfl (by rfl) fun k3 hk3 => ?_
 refine ac_ ?_
 refine ab_ ?_
 refine aa_ kr_ ?_
 (refine aL_S rfl rfl v_ ?_)
 refine aL_X rfl rfl (ae_ rfl rfl (.inr ⟨rfl, rfl, rfl⟩) g_ va_ (nZ_ (s := a0_) hl (by decide) (fun x hx => by have := hks x hx; omega)) ?_); rintro _ _ ⟨rfl, rfl⟩
 (refine aL_S rfl rfl v_ ?_)
 refine ac_ ?_
 rw [hU]
 refine ab_ ?_
 refine ab_ ?_
 refine aa_ kr_ ?_
 (refine aL_S rfl rfl v_ ?_)
 refine ac_ ?_
 refine al_ ?_
 refine ap_ (ι := Nat × Nat) (fun ⟨tk, i⟩ => U.length - i) (fun ⟨tk, i⟩ => i ≤ U.length ∧ σ.tok tk = none) (fun ⟨tk, i⟩ => [(3, .own tk 4 (((U.take i).filterMap memK).map sMbr)), (4, .sl 4 (U.map sEnt) false), (5, vInt i)]) (fun ⟨tk, i⟩ => (σ.newTok none tk (24, 4))) (k3, 0) ?_ ?_ ?_ ?_
 ·exact ⟨Nat.zero_le _, hk3⟩
 ·exact cv_
 ·exact Store.Wk.refl _
 rintro ⟨tk, i⟩ ⟨hi, htk⟩
 simp only [ar_, au_]
 refine ab_ ?_
 refine ab_ ?_
 refine aa_ kr_ ?_
 iterate 4 (refine aL_S rfl rfl v_ ?_)
 refine ac_ ?_
 refine ad_ v_ (fun hc4 => ?_) (fun hc4 => ?_)
 ·replace hc4 := nm_ hc4
  refine ah_ ?_
  refine ab_ ?_
  refine al_ ?_
  refine ab_ ?_
  obtain ⟨x, hx⟩ := aA_ (l := U) (k := i) (by omega)
  have hxm := List.mem_of_getElem? hx
  have hsn := gQ_ (f := memK) hx
  have hk1 := (hks x (hsub x hxm)).1
  have hk2 := (hks x (hsub x hxm)).2
  have hk5 := hhp x hxm
  have h1 := hol i
  have h2 := htl i
  obtain ⟨mo, hmo⟩ : ∃ mo, memK x = mo := ⟨_, rfl⟩
  have hmo' : mbrS (x.key.extract 5 x.key.size) x.value = mo := hmo
  have R := hx
  refine aG_ (.op 0 0 (.op 1 0 (.op 2 0 (.op 3 0 (.op 4 0 (.op 5 0 (.op 6 0 (.op 7 0 (.op 8 0 (.op 9 0 (.op 10 0 (.op 11 0 (.alt 12 1 (.op 13 0 (.op 14 0 (.op 15 0 (.op 16 1 (.op 17 2 (.op 18 0 .nil)))))) (.op 16 1 (.op 12 1 (.op 13 0 (.op 14 0 (.op 15 0 (.op 17 2 (.op 18 0 .nil)))))))))))))))))))) Tryz.mixed kr_ ?_
  iterate 12 (refine dR_S o_ (by rfl) (by rfl) v_ ?_)
  refine ck_ ?_ ?_
  ·refine dR_X o_ (by rfl) (by rfl) (ae_ (by rfl) (by rfl) (.inr ⟨by rfl, by rfl, by rfl⟩) g_ va_ (hU_ (by simp only [ByteArray.size_extract]; omega) (by omega)) ?_); rintro _ _ ⟨rfl, rfl⟩; refine ⟨sub_, ?_⟩
   rw [hmo']
   iterate 3 (refine dR_S o_ (by rfl) (by rfl) v_ ?_)
   refine bm_ o_ (by rfl) (by rfl) (by rfl) g_ gl_ sub_ fun o6 ho6 => ?_
   repeat (rw [an_] at ho6; obtain ⟨_, ho6⟩ := ho6)
   refine aM_ o_ (by rfl) (by rfl) (by rfl) v_ v_ h_ g_ rfl g_ c_ (by rfl) le_ v_ ?_
   (refine dR_S o_ (by rfl) (by rfl) v_ ?_)
   refine aL_ ?_
   refine ab_ ?_
   refine aa_ kr_ ?_
   (refine aL_S rfl rfl v_ ?_)
   refine ac_ ?_
   refine ad_ v_ (fun hc7 => ?_) (fun hc7 => ?_)
   ·replace hc7 := nm_ hc7
    obtain ⟨m, rfl⟩ := Option.isSome_iff_exists.1 hc7
    have hcov : ((U.take (i + 1)).filterMap memK).map sMbr = ((U.take i).filterMap memK).map sMbr ++ [sMbr m] := by rw [hsn, hmo, List.map_append]; rfl
    refine aa_ kr_ ?_
    iterate 2 (refine aL_S rfl rfl v_ ?_)
    refine aw_ rfl rfl rfl g_ g_ rfl rfl h_ c2_ (by decide) ?_
    refine be_ rfl rfl rfl g_ g_ v_ h_ v_ c_ (by simp only [List.length_map, List.length_append, List.length_singleton]; omega) fun k36 hk36 => ?_
    (refine aL_S rfl rfl v_ ?_)
    refine ac_ ?_
    refine aa_ kr_ ?_
    iterate 3 (refine aL_S rfl rfl v_ ?_)
    refine ac_ ?_
    refine aJ_ (ι := Nat × Nat) (i := ⟨tk, i⟩) (k36, i + 1) ?_ ?_ ?_ ?_
    ·show U.length - (i + 1) < U.length - i; omega
    ·exact ⟨by show i + 1 ≤ U.length; omega, (a8_ hk36).2⟩
    ·have R := hcov; exact cv_
    ·exact sub_
   ·replace hc7 := nm_ hc7
    obtain rfl : mo = none := by simpa using hc7
    have hcov : ((U.take (i + 1)).filterMap memK).map sMbr = ((U.take i).filterMap memK).map sMbr := by rw [hsn, hmo]; simp
    refine ah_ ?_
    refine aa_ kr_ ?_
    iterate 3 (refine aL_S rfl rfl v_ ?_)
    refine ac_ ?_
    refine aJ_ (ι := Nat × Nat) (i := ⟨tk, i⟩) (tk, i + 1) ?_ ?_ ?_ ?_
    ·show U.length - (i + 1) < U.length - i; omega
    ·exact ⟨by show i + 1 ≤ U.length; omega, htk⟩
    ·have R := hcov; exact cv_
    ·exact sub_
  refine bm_ o_ (by rfl) (by rfl) (by rfl) g_ gl_ sub_ fun o6 ho6 => ?_
  repeat (rw [an_] at ho6; obtain ⟨_, ho6⟩ := ho6)
  refine dR_X o_ (by rfl) (by rfl) (ae_ (by rfl) (by rfl) (.inr ⟨by rfl, by rfl, by rfl⟩) g_ va_ (hU_ (by simp only [ByteArray.size_extract]; omega) (by omega)) ?_); rintro _ _ ⟨rfl, rfl⟩; refine ⟨sub_, ?_⟩
  rw [hmo']
  iterate 3 (refine dR_S o_ (by rfl) (by rfl) v_ ?_)
  refine aM_ o_ (by rfl) (by rfl) (by rfl) v_ v_ h_ g_ rfl g_ c_ (by rfl) le_ v_ ?_
  (refine dR_S o_ (by rfl) (by rfl) v_ ?_)
  refine aL_ ?_
  refine ab_ ?_
  refine aa_ kr_ ?_
  (refine aL_S rfl rfl v_ ?_)
  refine ac_ ?_
  refine ad_ v_ (fun hc7 => ?_) (fun hc7 => ?_)
  ·replace hc7 := nm_ hc7
   obtain ⟨m, rfl⟩ := Option.isSome_iff_exists.1 hc7
   have hcov : ((U.take (i + 1)).filterMap memK).map sMbr = ((U.take i).filterMap memK).map sMbr ++ [sMbr m] := by rw [hsn, hmo, List.map_append]; rfl
   refine aa_ kr_ ?_
   iterate 2 (refine aL_S rfl rfl v_ ?_)
   refine aw_ rfl rfl rfl g_ g_ rfl rfl h_ c2_ (by decide) ?_
   refine be_ rfl rfl rfl g_ g_ v_ h_ v_ c_ (by simp only [List.length_map, List.length_append, List.length_singleton]; omega) fun k36 hk36 => ?_
   (refine aL_S rfl rfl v_ ?_)
   refine ac_ ?_
   refine aa_ kr_ ?_
   iterate 3 (refine aL_S rfl rfl v_ ?_)
   refine ac_ ?_
   refine aJ_ (ι := Nat × Nat) (i := ⟨tk, i⟩) (k36, i + 1) ?_ ?_ ?_ ?_
   ·show U.length - (i + 1) < U.length - i; omega
   ·exact ⟨by show i + 1 ≤ U.length; omega, (a8_ hk36).2⟩
   ·have R := hcov; exact cv_
   ·exact sub_
  ·replace hc7 := nm_ hc7
   obtain rfl : mo = none := by simpa using hc7
   have hcov : ((U.take (i + 1)).filterMap memK).map sMbr = ((U.take i).filterMap memK).map sMbr := by rw [hsn, hmo]; simp
   refine ah_ ?_
   refine aa_ kr_ ?_
   iterate 3 (refine aL_S rfl rfl v_ ?_)
   refine ac_ ?_
   refine aJ_ (ι := Nat × Nat) (i := ⟨tk, i⟩) (tk, i + 1) ?_ ?_ ?_ ?_
   ·show U.length - (i + 1) < U.length - i; omega
   ·exact ⟨by show i + 1 ≤ U.length; omega, htk⟩
   ·have R := hcov; exact cv_
   ·exact sub_
 ·replace hc4 := nm_ hc4
  refine ax_ ?_
  refine ag_ ?_
  refine ag_ ?_
  refine aq_ ?_
  refine ab_ ?_
  obtain rfl : i = U.length := by omega
  rw [List.take_length]
  refine aa_ kr_ ?_
  iterate 2 (refine aL_S rfl rfl v_ ?_)
  refine ac_ ?_
  refine am_ ?_
  exact a6_ (v := .sl 4 ((U.filterMap memK).map sMbr) false) (v' := .own tk 4 ((U.filterMap memK).map sMbr)) va_ (.own1 _ _ _) sub_ ⟨rfl, rfl⟩
end Go.Proofs.YtkcmbjodladflaaGreatDoor
end

section
set_option linter.all false
set_option maxRecDepth 100000
namespace Go.Proofs.YtkcmbjodladflaaGreatDoor
open Go.Ab
theorem l7_ (k : Nat) : (⟨#[114, 105, 110, 103, 47]⟩ : ByteArray) ++ B (Lib.itoa (k : Int)) = br_ k := by
 apply fn_
 unfold br_ cJ_
 rw [hh_, Lb_B]
 simp [fM_, Lb_B, show Lb bH_ = [114, 105, 110, 103] from rfl, show Lb (⟨#[114, 105, 110, 103, 47]⟩ : ByteArray) = [114, 105, 110, 103, 47] from rfl]
theorem nW_ {k : Nat} {σ : Store} (hk : k ≤ 1000000) : ao_ Tryz.prog 68 [vInt k] σ fun v σ' => v = vStr (br_ k) ∧ σ = σ' := by
 have hi := it_ hk
 have e1 := eq_ (⟨#[114, 105, 110, 103, 47]⟩) (B (Lib.itoa (k : Int))) (by rw [cK_, show (ByteArray.mk #[114, 105, 110, 103, 47]).size = 5 from rfl]; omega)
 refine aj_ Tryz.func68 rfl Tryz.ntmps68 (congrArg Array.toList Tryz.results68) (by simp only [List.length_cons, List.length_nil]; decide) ?_; simp only [af_, ak_, Nat.reduceAdd]
 refine ab_ ?_
 refine aa_ kr_ ?_
 (refine aL_S rfl rfl v_ ?_)
 refine ac_ ?_
 refine ab_ ?_
 have R := e1
 refine aa_ kr_ ?_
 (refine aL_S rfl rfl v_ ?_)
 refine aL_X rfl rfl (ae_ rfl rfl (.inr ⟨rfl, rfl, rfl⟩) g_ va_ (rR_ (by omega) (by omega)) ?_); rintro _ _ ⟨rfl, rfl⟩
 iterate 2 (refine aL_S rfl rfl v_ ?_)
 refine ac_ ?_
 refine am_ ?_
 refine ai_ (σ' := σ) v_ sub_ ?_
 exact ⟨by rw [l7_], rfl⟩
theorem nR_ (l : List Ent) (k : Nat) : (aF_ l (k + 1)).map vStr = (aF_ l k).map vStr ++ [vStr (ownK l k)] := by
 unfold aF_
 rw [List.range_succ]; simp
theorem p4_ {l : List Ent} {k : Nat} (h : aI_ (getS l (br_ k)).value = true) : ownK l k = (getS l (br_ k)).value := by rw [ownK, if_pos h]
theorem rM_ {l : List Ent} {k : Nat} (h : ¬ aI_ (getS l (br_ k)).value = true) : ownK l k = ⟨#[]⟩ := by rw [ownK, if_neg h]
theorem iA_ {l : List Ent} {t : Bool} {n : Nat} {σ : Store} (h1 : 1 ≤ n) (hn : n ≤ 4096) (hl : l.length ≤ 1000000) (hs : ∀ x ∈ l, EntSm x) : ao_ Tryz.prog 25 [.sl 4 (l.map sEnt) t, vInt n] σ fun v σ' => v = .sl 1 ((aF_ l n).map vStr) false ∧ σ = σ' := by
 have hol := fun i => (show (aF_ l i).length = i by simp [aF_])
 refine aj_ Tryz.func25 rfl Tryz.ntmps25 (congrArg Array.toList Tryz.results25) (by simp only [List.length_cons, List.length_nil]; decide) ?_; simp only [af_, ak_, Nat.reduceAdd]
 refine ab_ ?_
 refine aa_ kr_ ?_
 (refine aL_S rfl rfl v_ ?_)
 refine ac_ ?_
 refine ab_ ?_
 refine ab_ ?_
 refine aa_ kr_ ?_
 iterate 3 (refine aL_S rfl rfl v_ ?_)
 refine ay_ rfl rfl v_ rfl vg_ ?_
 refine ay_ rfl rfl v_ rfl vg_ ?_
 (refine aL_S rfl rfl v_ ?_)
 refine ac_ ?_
 refine ad_ v_ (fun hc1 => ?_) (fun hc1 => ?_)
 ·replace hc1 := nm_ hc1
  omega
 ·replace hc1 := nm_ hc1
  refine ah_ ?_
  refine ab_ ?_
  refine aa_ kr_ ?_
  refine ci_ 9 1 rfl rfl rfl (by rfl) fun k5 hk5 => ?_
  refine ac_ ?_
  refine ab_ ?_
  refine ab_ ?_
  refine aa_ kr_ ?_
  (refine aL_S rfl rfl v_ ?_)
  refine ac_ ?_
  refine al_ ?_
  refine ap_ (ι := Nat × Nat) (fun ⟨tk, i⟩ => n - i) (fun ⟨tk, i⟩ => i ≤ n ∧ σ.tok tk = none) (fun ⟨tk, i⟩ => [(0, .sl 4 (l.map sEnt) t), (1, vInt n), (5, .own tk 1 ((aF_ l i).map vStr)), (6, vInt i)]) (fun ⟨tk, i⟩ => (σ.newTok none tk (9, 1))) (k5, 0) ?_ ?_ ?_ ?_
  ·exact ⟨Nat.zero_le _, hk5⟩
  ·exact cv_
  ·exact Store.Wk.refl _
  rintro ⟨tk, i⟩ ⟨hi, htk⟩
  simp only [ar_, au_]
  refine ab_ ?_
  refine ab_ ?_
  refine aa_ kr_ ?_
  iterate 3 (refine aL_S rfl rfl v_ ?_)
  refine ac_ ?_
  refine ad_ v_ (fun hc5 => ?_) (fun hc5 => ?_)
  ·replace hc5 := nm_ hc5
   refine ah_ ?_
   refine ab_ ?_
   refine al_ ?_
   refine ab_ ?_
   have hsp := nR_ l i
   have hvz := (fE_ hs (br_ i)).2
   have hll := hol i
   refine aa_ kr_ ?_
   iterate 2 (refine aL_S rfl rfl v_ ?_)
   refine aL_X rfl rfl (ae_ rfl rfl (.inr ⟨rfl, rfl, rfl⟩) g_ va_ (nW_ (by omega)) ?_); rintro _ _ ⟨rfl, rfl⟩
   refine aL_X rfl rfl (ae_ rfl rfl (.inr ⟨rfl, rfl, rfl⟩) g_ va_ (rS_ hl) ?_); rintro _ _ ⟨rfl, rfl⟩
   iterate 2 (refine aL_S rfl rfl v_ ?_)
   refine ac_ ?_
   refine ab_ ?_
   refine ab_ ?_
   refine aa_ kr_ ?_
   (refine aL_S rfl rfl v_ ?_)
   refine aL_X rfl rfl (ae_ rfl rfl (.inr ⟨rfl, rfl, rfl⟩) g_ va_ (l5_ (by omega)) ?_); rintro _ _ ⟨rfl, rfl⟩
   (refine aL_S rfl rfl v_ ?_)
   refine ac_ ?_
   refine ad_ v_ (fun hc8 => ?_) (fun hc8 => ?_)
   ·replace hc8 := nm_ hc8
    have hst := hsp
    rw [rM_ (by simpa using hc8)] at hst
    refine aa_ kr_ ?_
    (refine aL_S rfl rfl v_ ?_)
    refine ac_ ?_
    refine aa_ kr_ ?_
    iterate 2 (refine aL_S rfl rfl v_ ?_)
    refine aw_ rfl rfl rfl g_ g_ rfl rfl h_ c2_ (by decide) ?_
    refine be_ rfl rfl rfl g_ g_ v_ h_ v_ c_ (by simp; omega) fun k30 hk30 => ?_
    (refine aL_S rfl rfl v_ ?_)
    refine ac_ ?_
    refine aa_ kr_ ?_
    iterate 3 (refine aL_S rfl rfl v_ ?_)
    refine ac_ ?_
    refine aJ_ (ι := Nat × Nat) (i := ⟨tk, i⟩) (k30, i + 1) ?_ ?_ ?_ ?_
    ·show n - (i + 1) < n - i; omega
    ·exact ⟨by show i + 1 ≤ n; omega, (a8_ hk30).2⟩
    ·have R := hst; exact cv_
    ·exact sub_
   ·replace hc8 := nm_ hc8
    have hst := hsp
    rw [p4_ (by simpa using hc8)] at hst
    refine ah_ ?_
    refine aa_ kr_ ?_
    iterate 2 (refine aL_S rfl rfl v_ ?_)
    refine aw_ rfl rfl rfl g_ g_ rfl rfl h_ c2_ (by decide) ?_
    refine be_ rfl rfl rfl g_ g_ v_ h_ v_ c_ (by simp; omega) fun k30 hk30 => ?_
    (refine aL_S rfl rfl v_ ?_)
    refine ac_ ?_
    refine aa_ kr_ ?_
    iterate 3 (refine aL_S rfl rfl v_ ?_)
    refine ac_ ?_
    refine aJ_ (ι := Nat × Nat) (i := ⟨tk, i⟩) (k30, i + 1) ?_ ?_ ?_ ?_
    ·show n - (i + 1) < n - i; omega
    ·exact ⟨by show i + 1 ≤ n; omega, (a8_ hk30).2⟩
    ·have R := hst; exact cv_
    ·exact sub_
  ·replace hc5 := nm_ hc5
   refine ax_ ?_
   refine ag_ ?_
   refine ag_ ?_
   refine aq_ ?_
   refine ab_ ?_
   obtain rfl : i = n := by omega
   refine aa_ kr_ ?_
   iterate 2 (refine aL_S rfl rfl v_ ?_)
   refine ac_ ?_
   refine am_ ?_
   exact a6_ (v := .sl 1 ((aF_ l i).map vStr) false) (v' := .own tk 1 ((aF_ l i).map vStr)) va_ (.own1 _ _ _) sub_ ⟨rfl, rfl⟩
end Go.Proofs.YtkcmbjodladflaaGreatDoor
end

section
set_option linter.all false
set_option maxRecDepth 100000
namespace Go.Proofs.YtkcmbjodladflaaGreatDoor
open Go.Ab
theorem km_ (l : List ByteArray) : (a2_ l).Nodup := by
 have : ∀ (l out : List ByteArray), out.Nodup → (l.foldl cw_ out).Nodup := by
  intro l
  induction l with
  |nil => intro out h; exact h
  |cons x l ih =>
   intro out h
   refine ih _ ?_
   unfold cw_
   split
   ·rename_i hx
    rw [List.nodup_append]
    refine ⟨h, by simp, fun a ha b hb hh => ?_⟩
    obtain rfl := List.mem_singleton.1 hb
    subst hh
    exact eU_.1 hx ha
   ·exact h
 exact this l [] List.nodup_nil
theorem nP_ {l : List ByteArray} {s : ByteArray} (h : s ∈ l) : s ∈ a2_ l := by
 have : ∀ (l out : List ByteArray), (∀ s ∈ out, s ∈ l.foldl cw_ out) ∧ ∀ s ∈ l, s ∈ l.foldl cw_ out := by
  intro l
  induction l with
  |nil => intro out; exact ⟨fun s h => h, by simp⟩
  |cons x l ih =>
   intro out
   have hm : ∀ s ∈ out, s ∈ cw_ out x := fun s hs => by
    unfold cw_
    split
    ·exact List.mem_append_left _ hs
    ·exact hs
   have hx : x ∈ cw_ out x := by
    unfold cw_
    split
    ·simp
    ·rename_i hh
     exact Classical.byContradiction fun hn => hh (eU_.2 hn)
   obtain ⟨i1, i2⟩ := ih (cw_ out x)
   refine ⟨fun s hs => i1 s (hm s hs), fun s hs => ?_⟩
   rcases List.mem_cons.1 hs with rfl | hs
   ·exact i1 _ hx
   ·exact i2 s hs
 exact (this l []).2 s h
theorem j9_ {l : List (Option Nat)} {p : Nat} {x y z : Option Nat} (hp : l[p]? = some x) (hxz : x ≠ z) : (l.set p y).count z = l.count z + if y = z then 1 else 0 := by
 obtain ⟨hpl, rfl⟩ := List.getElem?_eq_some_iff.1 hp
 have h1 : l.count z = (l.take p).count z + (l.drop (p + 1)).count z := by
  conv => lhs; rw [← List.take_append_drop p l, List.drop_eq_getElem_cons hpl]
  rw [List.count_append, List.count_cons_of_ne hxz]
 rw [h1, List.set_eq_take_append_cons_drop, if_pos hpl, List.count_append, List.count_cons]
 by_cases hh : y = z
 ·simp [hh]; omega
 ·simp [hh]
structure AsOk (ns : List ByteArray) (out : List ByteArray) (hs : List Int) (n : Nat) (a : List (Option Nat)) : Prop where
 len : a.length = n
 lo : out.length = n
 lh : hs.length = ns.length
 out : ∀ (p k : Nat), a[p]? = some (some k) → k < ns.length ∧ out[p]? = ns[k]?
 cnt : ∀ k, k < ns.length → gI hs k = (a.count (some k) : Int)
theorem AsOk.step {ns out : List ByteArray} {hs : List Int} {n p k : Nat} {s : ByteArray} {a : List (Option Nat)} (h : AsOk ns out hs n a) (hp : a[p]? = some none) (hk : ns[k]? = some s) : AsOk ns (out.set p s) (hs.set k (gI hs k + 1)) n (a.set p (some k)) where
 len := by simpa using h.len
 lo := by simpa using h.lo
 lh := by simpa using h.lh
 out := fun q j hq => by
  have hkl := (List.getElem?_eq_some_iff.1 hk).1
  have hpl := (List.getElem?_eq_some_iff.1 hp).1
  rw [List.getElem?_set] at hq
  by_cases hpq : p = q
  ·subst hpq
   rw [if_pos rfl, if_pos hpl] at hq
   obtain rfl : k = j := by simpa using hq
   refine ⟨hkl, ?_⟩
   rw [List.getElem?_set, if_pos rfl, if_pos (by rw [h.lo, ← h.len]; exact hpl), hk]
  ·rw [if_neg hpq] at hq
   rw [List.getElem?_set, if_neg hpq]
   exact h.out q j hq
 cnt := fun j hj => by
  have hkl := (List.getElem?_eq_some_iff.1 hk).1
  rw [cC_ (by rw [h.lh]; exact hkl), j9_ hp (by simp)]
  by_cases hjk : j = k
  ·subst hjk
   rw [if_pos rfl, if_pos rfl, h.cnt j hj]
   simp
  ·rw [if_neg hjk, if_neg (fun hh => hjk (Option.some.inj hh).symm), h.cnt j hj]
   simp
theorem rj_ (ow ns : List ByteArray) : ∀ i, i ≤ ow.length → ∃ a : List (Option Nat), AsOk ns (f1 ns (wsS ow ns) ow i).out (f1 ns (wsS ow ns) ow i).hs ow.length a ∧ ∀ (p : Nat), p < ow.length → (a[p]? = some none ↔ (i ≤ p ∨ gI (f1 ns (wsS ow ns) ow i).kp p ≠ 1))
 |0, _ => by
  refine ⟨List.replicate ow.length none, ⟨by simp, by simp [f1], by simp [f1], fun p k h => ?_, fun k _ => ?_⟩, fun p hp => ?_⟩
  ·rw [List.getElem?_replicate] at h
   split at h <;> simp at h
  ·unfold f1
   rw [i7_, List.count_replicate]
   simp
  ·rw [List.getElem?_replicate, if_pos hp]
   simp
 |i + 1, hi => by
  obtain ⟨a, h1, h2⟩ := rj_ ow ns i (by omega)
  have hI := fz_ ow ns i (by omega)
  have hai : a[i]? = some none := (h2 i (by omega)).2 (.inl (Nat.le_refl i))
  unfold f1 f1s
  generalize f1 ns (wsS ow ns) ow i = st at h1 h2 hI
  generalize ow[i]?.getD ByteArray.empty = s
  split
  ·rename_i hf
   obtain ⟨h0, _⟩ := hf
   obtain ⟨hk, _, hks⟩ := oG_ h0
   refine ⟨a.set i (some (idxI ns s).toNat), h1.step hai hks, fun p hp => ?_⟩
   have hik : i < st.kp.length := by rw [hI.lk]; omega
   show (a.set i _)[p]? = some none ↔ i + 1 ≤ p ∨ gI (st.kp.set i 1) p ≠ 1
   rw [cC_ hik, List.getElem?_set]
   by_cases hpi : i = p
   ·subst hpi
    rw [if_pos rfl, if_pos rfl, if_pos (by rw [h1.len]; omega)]
    simp
   ·rw [if_neg hpi, if_neg (Ne.symm hpi), h2 p hp]
    omega
  ·refine ⟨a, h1, fun p hp => ?_⟩
   rw [h2 p hp]
   have := hI.fresh i (Nat.le_refl i)
   by_cases hpi : p = i
   ·subst hpi
    rw [this]
    simp
   ·omega
theorem rN_ {ow ns : List ByteArray} {n : Nat} (hns : 0 < ns.length) (hn : n = ow.length) : ∀ (l : List Nat) (st : S2) (a : List (Option Nat)), AsOk ns st.out st.hs n a → Inv2 ns (wsS ow ns) ow.length l.length st → l.Nodup → (∀ p ∈ l, a[p]? = some none) →
  ∃ a', AsOk ns (p2L ns (wsS ow ns) st l).out (p2L ns (wsS ow ns) st l).hs n a' ∧ Inv2 ns (wsS ow ns) ow.length 0 (p2L ns (wsS ow ns) st l) ∧ (∀ p, p ∉ l → a'[p]? = a[p]?) ∧ (∀ p ∈ l, a'[p]? ≠ some none) ∧ ∀ p, p ∉ l → (p2L ns (wsS ow ns) st l).out[p]? = st.out[p]?
 |[], st, a, h, hI, _, _ => ⟨a, h, hI, fun _ _ => rfl, fun p hp => by simp at hp, fun _ _ => rfl⟩
 |x :: l, st, a, h, hI, hnd, hl => by
  obtain ⟨b, hb, hb1, _, _⟩ := hI.best hns
  obtain ⟨s, hs⟩ := aA_ hb1
  have hax := hl x (List.mem_cons_self ..)
  have hst := hI.step (p := x) hns
  obtain ⟨hxl, hnd'⟩ := List.nodup_cons.1 hnd
  have e : p2s ns (wsS ow ns) st x = ⟨st.hs.set b (gI st.hs b + 1), st.out.set x s⟩ := by
   unfold p2s
   rw [hb, Int.toNat_natCast, hs]; rfl
  rw [e] at hst
  have hxa := (List.getElem?_eq_some_iff.1 hax).1
  obtain ⟨a', i1, i2, i3, i4, i5⟩ := rN_ hns hn l ⟨st.hs.set b (gI st.hs b + 1), st.out.set x s⟩ (a.set x (some b)) (h.step hax hs) hst hnd' fun p hp => by
   rw [List.getElem?_set, if_neg (fun hh => hxl (by rw [hh]; exact hp))]
   exact hl p (List.mem_cons_of_mem _ hp)
  have e2 : p2L ns (wsS ow ns) st (x :: l) = p2L ns (wsS ow ns) ⟨st.hs.set b (gI st.hs b + 1), st.out.set x s⟩ l := by
   rw [← e]; rfl
  rw [e2]
  refine ⟨a', i1, i2, fun p hp => ?_, fun p hp => ?_, fun p hp => ?_⟩
  ·rw [i3 p (fun hh => hp (List.mem_cons_of_mem _ hh)), List.getElem?_set, if_neg (fun hh => hp (by rw [hh]; exact List.mem_cons_self ..))]
  ·rcases List.mem_cons.1 hp with rfl | hp
   ·rw [i3 _ hxl, List.getElem?_set, if_pos rfl, if_pos hxa]
    simp
   ·exact i4 p hp
  ·rw [i5 p (fun hh => hp (List.mem_cons_of_mem _ hh)), List.getElem?_set, if_neg (fun hh => hp (by rw [hh]; exact List.mem_cons_self ..))]
theorem h4_ : ∀ {a b : List Int}, a.length = b.length → (∀ k, gI a k ≤ gI b k) → a.sum = b.sum → ∀ k, gI a k = gI b k
 |[], [], _, _, _, k => rfl
 |[], y :: b, h, _, _, _ => by simp at h
 |x :: a, [], h, _, _, _ => by simp at h
 |x :: a, y :: b, h, hk, hs, k => by
  have h0 : x ≤ y := hk 0
  have h1 : a.sum ≤ b.sum := mv_ (by simpa using h) fun k _ => hk (k + 1)
  have h2 : x + a.sum = y + b.sum := hs
  have ih := h4_ (a := a) (b := b) (by simpa using h) (fun k => hk (k + 1)) (by omega)
  cases k with
  |zero => show x = y; omega
  |succ k => exact ih k
structure EvenOk (ow nm : List ByteArray) (a : List (Option Nat)) : Prop where
 ok : AsOk (a2_ nm) (cl_ ow nm) (wsS ow (a2_ nm)) ow.length a
 all : ∀ (p : Nat), p < ow.length → ∃ k, a[p]? = some (some k)
theorem ld_ {ow nm : List ByteArray} (h : 0 < nm.length) : (∃ a, EvenOk ow nm a) ∧ ∀ p, p ∉ b0_ (f1 (a2_ nm) (wsS ow (a2_ nm)) ow ow.length).kp ow.length → (cl_ ow nm)[p]? = (f1 (a2_ nm) (wsS ow (a2_ nm)) ow ow.length).out[p]? := by
 obtain ⟨ns, hns⟩ : ∃ ns, a2_ nm = ns := ⟨_, rfl⟩
 have hns0 : 0 < ns.length := by rw [← hns]; exact fj_ h
 obtain ⟨a, h1, h2⟩ := rj_ ow ns ow.length (Nat.le_refl _)
 have hI := fz_ ow ns ow.length (Nat.le_refl _)
 have hev : cl_ ow nm = (p2L ns (wsS ow ns) ⟨(f1 ns (wsS ow ns) ow ow.length).hs, (f1 ns (wsS ow ns) ow ow.length).out⟩ (b0_ (f1 ns (wsS ow ns) ow ow.length).kp ow.length)).out := by
  unfold cl_ p2L
  rw [hns, if_neg (by omega)]
 obtain ⟨F, hF⟩ : ∃ F, f1 ns (wsS ow ns) ow ow.length = F := ⟨_, rfl⟩
 rw [hF] at h1 h2 hI hev
 obtain ⟨L0, hL0⟩ : ∃ L0, b0_ F.kp ow.length = L0 := ⟨_, rfl⟩
 have hmem : ∀ p, p ∈ L0 ↔ p < ow.length ∧ gI F.kp p ≠ 1 := fun p => by
  rw [← hL0]
  unfold b0_
  rw [List.mem_filter, List.mem_range]
  simp
 have hnd : L0.Nodup := by rw [← hL0]; exact List.Nodup.sublist List.filter_sublist List.nodup_range
 rw [hL0] at hev
 obtain ⟨a', i1, i2, i3, i4, i5⟩ := rN_ (ow := ow) hns0 rfl L0 ⟨F.hs, F.out⟩ a h1 ⟨hI.lh, hI.lo, hI.bd, by have := hI.sum; rw [hL0] at this; exact this⟩ hnd fun p hp => by
  obtain ⟨hp1, hp2⟩ := (hmem p).1 hp
  exact (h2 p hp1).2 (.inr hp2)
 have hws : ∀ k, gI (p2L ns (wsS ow ns) ⟨F.hs, F.out⟩ L0).hs k = gI (wsS ow ns) k := h4_ (by rw [i2.lh, eZ_]) (fun k => (i2.bd k).2) (by rw [mP_ hns0]; have := i2.sum; omega)
 refine ⟨⟨a', ?_, fun p hp => ?_⟩, fun p hp => ?_⟩
 ·rw [hns, hev]
  refine ⟨i1.len, i1.lo, eZ_ .., i1.out, fun k hk => ?_⟩
  rw [← hws k]
  exact i1.cnt k hk
 ·have hpa : p < a'.length := by rw [i1.len]; exact hp
  have h3 : a'[p]? ≠ some none := by
   by_cases hpl : p ∈ L0
   ·exact i4 p hpl
   ·rw [i3 p hpl]
    intro hh
    rcases (h2 p hp).1 hh with h4 | h4
    ·omega
    ·exact hpl ((hmem p).2 ⟨hp, h4⟩)
  rw [List.getElem?_eq_getElem hpa] at h3 ⊢
  cases hx : a'[p] with
  |none => rw [hx] at h3; exact absurd rfl h3
  |some k => exact ⟨k, rfl⟩
 ·rw [hns, hF, hL0] at hp
  rw [hns, hF, hev]
  exact i5 p hp
theorem oB_ {ns : List ByteArray} (hnd : ns.Nodup) {k : Nat} {s : ByteArray} (hk : ns[k]? = some s) : ∀ {l : List ByteArray} {a : List (Option Nat)}, a.length = l.length → (∀ (p j : Nat), a[p]? = some (some j) → j < ns.length ∧ l[p]? = ns[j]?) → (∀ (p : Nat), p < l.length → ∃ j, a[p]? = some (some j)) → cnt l s = a.count (some k)
 |[], [], _, _, _ => rfl
 |[], y :: a, h, _, _ => by simp at h
 |x :: l, [], h, _, _ => by simp at h
 |x :: l, y :: a, h, h1, h2 => by
  have ih := oB_ hnd hk (l := l) (a := a) (by simpa using h) (fun p j hp => by
   have := h1 (p + 1) j (by simpa using hp)
   simpa using this) fun p hp => by
   have := h2 (p + 1) (by simpa using hp)
   simpa using this
  obtain ⟨j, hj⟩ := h2 0 (by simp)
  obtain rfl : y = some j := by simpa using hj
  obtain ⟨hjl, hxj⟩ := h1 0 j rfl
  have hxj' : ns[j]? = some x := by rw [← hxj]; rfl
  unfold cnt at ih ⊢
  rw [List.countP_cons, ih, List.count_cons]
  have : x = s ↔ j = k := by
   constructor
   ·intro hh
    subst hh
    exact (List.getElem?_inj (i := j) (j := k) hjl hnd).1 (by rw [hxj', hk])
   ·intro hh
    subst hh
    rw [hxj'] at hk
    exact Option.some.inj hk
  by_cases hh : x = s
  ·rw [this.1 hh]; simp [hh]
  ·have hjk : j ≠ k := fun h => hh (this.2 h)
   simp [hh, hjk]
theorem i1_ {ow nm : List ByteArray} (h : 0 < nm.length) {k : Nat} {s : ByteArray} (hk : (a2_ nm)[k]? = some s) : (cnt (cl_ ow nm) s : Int) = gI (wsS ow (a2_ nm)) k := by
 obtain ⟨⟨a, h1, h2⟩, _⟩ := ld_ (ow := ow) h
 rw [h1.cnt k (List.getElem?_eq_some_iff.1 hk).1, oB_ (km_ nm) hk (by rw [h1.len, h1.lo]) h1.out (fun p hp => h2 p (by rw [← h1.lo]; exact hp))]
theorem oY_ (ow ns : List ByteArray) {k : Nat} (hk : k < ns.length) : gI (wsS ow ns) k = ((ow.length / ns.length : Nat) : Int) + if dz_ (aW_ ow ns) k < ow.length % ns.length then 1 else 0 := by
 unfold gI wsS
 rw [List.getElem?_map, List.getElem?_range hk]
 show f7_ _ _ _ = _
 unfold f7_
 rw [cb_]
theorem lL_ (ow : List ByteArray) {ns : List ByteArray} {k : Nat} {s : ByteArray} (hk : ns[k]? = some s) : gI (aW_ ow ns) k = (cnt ow s : Int) := by
 unfold gI aW_
 rw [List.getElem?_map, hk]; rfl
theorem ka_ {ow nm : List ByteArray} (h : 0 < nm.length) {k : Nat} (hk : k < (a2_ nm).length) : gI (aW_ (cl_ ow nm) (a2_ nm)) k = gI (wsS ow (a2_ nm)) k := by
 obtain ⟨s, hs⟩ := aA_ hk
 rw [lL_ _ hs, i1_ h hs]
theorem gN_ {ow nm : List ByteArray} (h : 0 < nm.length) : aW_ (cl_ ow nm) (a2_ nm) = wsS ow (a2_ nm) := by
 apply List.ext_getElem?
 intro k
 by_cases hk : k < (a2_ nm).length
 ·rw [oE_ (by rw [cb_]; exact hk), oE_ (by rw [eZ_]; exact hk), ka_ h hk]
 ·rw [List.getElem?_eq_none (by rw [cb_]; omega), List.getElem?_eq_none (by rw [eZ_]; omega)]
theorem lc_ {ow nm : List ByteArray} (h : 0 < nm.length) {i k : Nat} {a b : Int} (ha : (aW_ (cl_ ow nm) nm)[i]? = some a) (hb : (aW_ (cl_ ow nm) nm)[k]? = some b) : a - b ≤ 1 := by
 have e : ∀ {i : Nat} {a : Int}, (aW_ (cl_ ow nm) nm)[i]? = some a → ∃ j, j < (a2_ nm).length ∧ a = gI (wsS ow (a2_ nm)) j := fun {i a} ha => by
  unfold aW_ at ha
  rw [List.getElem?_map] at ha
  cases hs : nm[i]? with
  |none => rw [hs] at ha; cases ha
  |some s =>
   rw [hs] at ha
   obtain ⟨j, hj, hjs⟩ := List.getElem_of_mem (nP_ (List.mem_of_getElem? hs))
   have hjs' : (a2_ nm)[j]? = some s := by rw [List.getElem?_eq_getElem hj, hjs]
   exact ⟨j, hj, (Option.some.inj ha).symm.trans (i1_ h hjs')⟩
 obtain ⟨i', hi, rfl⟩ := e ha
 obtain ⟨k', hk, rfl⟩ := e hb
 rw [oY_ _ _ hi, oY_ _ _ hk]
 generalize ow.length / (a2_ nm).length = q
 split <;> split <;> omega
theorem lb_ {ow nm : List ByteArray} (h : 0 < nm.length) : ∀ s ∈ cl_ ow nm, s ∈ a2_ nm := fun s hs => by
 obtain ⟨⟨a, h1, h2⟩, _⟩ := ld_ (ow := ow) h
 obtain ⟨p, hp, rfl⟩ := List.getElem_of_mem hs
 obtain ⟨k, hk⟩ := h2 p (by rw [← ff_ ow nm]; exact hp)
 obtain ⟨h3, h4⟩ := h1.out p k hk
 rw [List.getElem?_eq_getElem hp] at h4
 exact List.mem_of_getElem? h4.symm
theorem ns_ {ow nm : List ByteArray} (h : 0 < nm.length) : (aW_ (cl_ ow nm) (a2_ nm)).sum = ow.length := by
 rw [gN_ h, mP_ (fj_ h)]
end Go.Proofs.YtkcmbjodladflaaGreatDoor
end

section
set_option linter.all false
set_option maxRecDepth 100000
namespace Go.Proofs.YtkcmbjodladflaaGreatDoor
open Go.Ab
theorem jy_ : ∀ {a b : List ByteArray} {k j : Nat} {x y : ByteArray}, a[k]? = some x → b[k]? = some y → x = y ∨ (⟨j + k, x, y⟩ : Mv) ∈ bj_ j a b
 |[], b, k, j, x, y, hx, _ => by simp at hx
 |u :: a, [], k, j, x, y, _, hy => by simp at hy
 |u :: a, v :: b, 0, j, x, y, hx, hy => by
  simp only [List.getElem?_cons_zero, Option.some.injEq] at hx hy
  subst hx; subst hy
  by_cases h : u = v
  ·exact .inl h
  ·right; unfold bj_; rw [if_neg h]; exact .head _
 |u :: a, v :: b, k + 1, j, x, y, hx, hy => by
  simp only [List.getElem?_cons_succ] at hx hy
  rcases jy_ (j := j + 1) hx hy with h | h
  ·exact .inl h
  ·right
   rw [show j + 1 + k = j + (k + 1) by omega] at h
   unfold bj_
   split
   ·exact h
   ·exact .tail _ h
theorem iz_ {l : List Ent} {n k : Nat} (h : k < n) : (aF_ l n)[k]? = some (ownK l k) := by simp [aF_, h]
theorem kp_ {l : List Ent} {who : ByteArray} {ev : List ByteArray} (he : ev.length = 16) (hn : ∀ s ∈ ev, aI_ s = true) (h : (clMv l who (eE_ (aF_ l 16) ev)).2 = 0) (hp : PutsOk l (clMv l who (eE_ (aF_ l 16) ev)).1) : aF_ (jnS l (clMv l who (eE_ (aF_ l 16) ev)).1) 16 = ev := by
 have hl16 : (aF_ l 16).length = 16 := by simp [aF_]
 obtain ⟨_, h2, h3⟩ := fw_ (eE_ (aF_ l 16) ev) ([], 0) h
 have h2' : (clMv l who (eE_ (aF_ l 16) ev)).1 = (eE_ (aF_ l 16) ev).map fun x => (setS l who (br_ x.part) x.now).1 := by unfold clMv; rw [h2, List.nil_append]
 have hpart : ∀ x ∈ eE_ (aF_ l 16) ev, x.part < 16 := fun x hx => by have := (dU_ hx).2.1; omega
 rw [h2'] at hp ⊢
 apply List.ext_getElem?
 intro k
 by_cases hk : k < 16
 ·rw [iz_ hk]
  obtain ⟨y, hy⟩ : ∃ y, ev[k]? = some y := ⟨_, List.getElem?_eq_getElem (by omega)⟩
  rw [hy]
  congr 1
  by_cases hm : ∃ x ∈ eE_ (aF_ l 16) ev, x.part = k
  ·obtain ⟨x, hx, rfl⟩ := hm
   have hs := bV_ (h3 x hx)
   have hg := rA_ hp _ (List.mem_map_of_mem (f := fun x : Mv => (setS l who (br_ x.part) x.now).1) hx)
   simp only [hs.key] at hg
   have hnow : ev[x.part]? = some x.now := by have := (dU_ hx).2.2; simpa using this
   have e : x.now = y := Option.some.inj (hnow.symm.trans hy)
   have hny := hn y (List.mem_of_getElem? hy)
   rw [ownK, hg, hs.value, e, if_pos hny]
  ·have ho : ∀ z ∈ (eE_ (aF_ l 16) ev).map (fun x => (setS l who (br_ x.part) x.now).1), z.key ≠ br_ k := by
    intro z hz e
    obtain ⟨x, hx, rfl⟩ := List.mem_map.1 hz
    rw [(bV_ (h3 x hx)).key, dH_ (by have := hpart x hx; omega), dH_ (by omega)] at e
    exact hm ⟨x, hx, jH_ _ (hpart x hx) _ hk e⟩
   have e1 : ownK (jnS l ((eE_ (aF_ l 16) ev).map fun x => (setS l who (br_ x.part) x.now).1)) k = ownK l k := by
    rw [ownK, ownK, e7_ ho]
   rw [e1]
   rcases jy_ (j := 0) (iz_ hk) hy with h | h
   ·exact h
   ·exact absurd ⟨_, h, by simp⟩ hm
 ·rw [List.getElem?_eq_none (by simp [aF_]; omega), List.getElem?_eq_none (by omega)]
theorem pw_ {l : List Ent} (h : bc_ l = true) (k : ByteArray) : regZ (getS l k) = true ∨ cW_ (getS l k).n (getS l k).who (getS l k).value = true := by
 unfold getS
 cases hf : l.find? fun x => decide (x.key = k) with
 |none => left; rfl
 |some x =>
  right
  unfold bc_ at h
  rw [Bool.and_eq_true] at h
  have := mI_ h.2 x (List.mem_of_find?_eq_some hf)
  unfold bS_ at this
  rw [Bool.and_eq_true] at this
  exact this.2
theorem ql_ {l : List Ent} {who k v : ByteArray} (he : bc_ l = true) (k1 : 1 ≤ k.size) (k2 : k.size ≤ 128) (hw : aI_ who = true) (hv : v.size ≤ 256) : (setS l who k v).2 = 0 ∨ (setS l who k v).2 = 4 := by
 have hn : (cU_ (getS l k) who v).2 = 0 ∨ (cU_ (getS l k) who v).2 = 4 := by
  unfold cU_
  rw [if_neg (by
   rw [hw]
   have hv' : decide (256 < v.size) = false := decide_eq_false (by omega)
   rcases pw_ he k with h | h <;> simp [h, hv'])]
  split
  ·exact .inr rfl
  ·exact .inl rfl
 unfold setS
 rw [if_neg (by
  have h1 : decide (k.size < 1) = false := decide_eq_false (by omega)
  have h2 : decide (128 < k.size) = false := decide_eq_false (by omega)
  simp [he, h1, h2]
  intro hh; subst hh; simp at k1)]
 split
 ·exact hn
 ·exact .inl rfl
theorem iZ_ {l : List Ent} {who : ByteArray} : ∀ {ms : List Mv} {s : List Ent × Int}, (∀ x ∈ ms, (setS l who (br_ x.part) x.now).2 = 0 ∨ (setS l who (br_ x.part) x.now).2 = 4) → (s.2 = 0 ∨ s.2 = 4) → (ms.foldl (fun s x => ca_ s (setS l who (br_ x.part) x.now)) s).2 = 0 ∨ (ms.foldl (fun s x => ca_ s (setS l who (br_ x.part) x.now)) s).2 = 4
 |[], s, _, hs => hs
 |x :: ms, s, h, hs => by
  rw [List.foldl_cons]
  refine iZ_ (fun y hy => h y (.tail _ hy)) ?_
  unfold ca_
  split
  ·exact h x (.head _)
  ·exact hs
theorem lQ_ {l : List Ent} {s : ByteArray} (h : s ∈ nmsS l) : aI_ s = true := by
 obtain ⟨m, hm, rfl⟩ := List.mem_map.1 h
 obtain ⟨x, _, hx⟩ := List.mem_filterMap.1 hm
 unfold memK mbrS at hx
 split at hx
 ·split at hx
  ·rename_i h1; rw [← Option.some.inj hx]; exact h1.1
  ·cases hx
 ·cases hx
end Go.Proofs.YtkcmbjodladflaaGreatDoor
end

section
set_option linter.all false
set_option maxRecDepth 100000
namespace Go.Proofs.YtkcmbjodladflaaGreatDoor
open Go.Ab
theorem mG_ {α : Type} {ok : α → Bool} {key : α → ByteArray} : ∀ {l : List α} {pv : Option ByteArray}, upGo ok key pv l = true → (∀ p, pv = some p → ∀ x ∈ l, sLt p (key x) = true) ∧ (l.Pairwise fun a b => sLt (key a) (key b) = true) ∧ ∀ x ∈ l, ok x = true
 |[], _, _ => ⟨fun _ _ x hx => (List.not_mem_nil hx).elim, List.Pairwise.nil, fun x hx => (List.not_mem_nil hx).elim⟩
 |x :: l, pv, h => by
  simp only [upGo, Bool.and_eq_true] at h
  obtain ⟨⟨h1, h2⟩, h3⟩ := h
  obtain ⟨g1, g2, g3⟩ := mG_ h3
  refine ⟨fun p hp y hy => ?_, List.pairwise_cons.2 ⟨fun y hy => g1 _ rfl y hy, g2⟩, fun y hy => ?_⟩
  ·subst hp
   have h4 : sLt p (key x) = true := h2
   rcases List.mem_cons.1 hy with rfl | hy
   ·exact h4
   ·exact eI_ h4 (g1 _ rfl y hy)
  ·rcases List.mem_cons.1 hy with rfl | hy
   ·exact h1
   ·exact g3 y hy
theorem la_ {l : List Ent} (h : bc_ l = true) : l.Pairwise fun a b => sLt a.key b.key = true := by
 unfold bc_ at h
 rw [Bool.and_eq_true] at h
 exact (mG_ h.2).2.1
theorem jk_ {x : Ent} {m : Mbr} (h : memK x = some m) : m.name = x.key.extract 5 x.key.size := by
 unfold memK mbrS at h
 split at h
 ·split at h
  ·rw [← Option.some.inj h]
  ·cases h
 ·cases h
theorem jr_ {x : Ent} (h : hpS x.key (a0_ ++ ⟨#[47]⟩) = true) : x.key = (a0_ ++ ⟨#[47]⟩) ++ x.key.extract 5 x.key.size := by
 unfold hpS at h
 simp only [Bool.and_eq_true, decide_eq_true_eq] at h
 have e := h.2
 have : (a0_ ++ ⟨#[47]⟩ : ByteArray).size = 5 := rfl
 rw [this] at e
 apply fn_
 rw [hh_, ← e, bM_, bM_, Lb_B, Lb_B, List.drop_zero, List.take_of_length_le (l := Lb x.key) (i := x.key.size) (by rw [aB_]; exact Nat.le_refl _), List.take_append_drop]
theorem hQ_ {l : List Ent} (h : bc_ l = true) : (nmsS l).Nodup := by
 have hr := (la_ h).sublist (List.filter_sublist (p := fun x : Ent => hpS x.key (a0_ ++ ⟨#[47]⟩)))
 have hh : ∀ x ∈ undS l a0_, hpS x.key (a0_ ++ ⟨#[47]⟩) = true := fun x hx => jQ_ hx
 change (undS l a0_).Pairwise _ at hr
 unfold nmsS bT_
 generalize undS l a0_ = U at hr hh
 induction U with
 |nil => simp
 |cons x U ih =>
  rw [List.pairwise_cons] at hr
  have ih' := ih hr.2 fun y hy => hh y (.tail _ hy)
  rw [List.filterMap_cons]
  split
  ·exact ih'
  ·rename_i m hm
   rw [List.map_cons, List.nodup_cons]
   refine ⟨fun hin => ?_, ih'⟩
   obtain ⟨m', hm', e⟩ := List.mem_map.1 hin
   obtain ⟨y, hy, hk⟩ := List.mem_filterMap.1 hm'
   have e1 := jk_ hm
   have e2 := jk_ hk
   have k1 := jr_ (hh x (.head _))
   have k2 := jr_ (hh y (.tail _ hy))
   rw [e1, e2] at e
   have hlt := hr.1 y hy
   rw [k1, k2, e, dc_] at hlt
   cases hlt
theorem lY_ {l : List ByteArray} (h : l.Nodup) : a2_ l = l := by
 have key : ∀ (l out : List ByteArray), (out ++ l).Nodup → l.foldl cw_ out = out ++ l := by
  intro l
  induction l with
  |nil => intro out _; simp
  |cons x l ih =>
   intro out hn
   have hx : x ∉ out := fun hx => by
    rw [List.nodup_append] at hn
    exact hn.2.2 x hx x (.head _) rfl
   rw [List.foldl_cons, cw_, if_pos (eU_.2 hx), ih (out ++ [x]) (by simpa using hn)]
   simp
 simpa [a2_] using key l [] (by simpa using h)
structure Claimed (l : List Ent) (who : ByteArray) (xs : List Ent) : Prop where
 puts : AdPuts l who xs
 owners : aF_ (jnS l xs) 16 = cl_ (aF_ l 16) (nmsS l)
theorem m1_ {l : List Ent} {who : ByteArray} {a : Adm} (hk : a.kind = 7) (hl : bc_ l = true) (hw : aI_ who = true) : adS l who a = if (bT_ l).length = 0 then ([], 5) else if (clMv l who (bh_ l)).2 = 0 then ((clMv l who (bh_ l)).1, 0) else ([], (clMv l who (bh_ l)).2) := by
 unfold adS
 rw [if_pos ⟨hl, hw⟩]
 have e : cj_ l who a = cR_ l who := by unfold cj_; simp [hk]
 rw [e]
 unfold cR_
 split
 ·rfl
 ·rfl
theorem i2_ {l : List Ent} (hm : ¬ (bT_ l).length = 0) : ∀ s ∈ cl_ (aF_ l 16) (nmsS l), aI_ s = true := fun s hs => by
 have h0 : 0 < (nmsS l).length := by rw [nmsS, List.length_map]; omega
 exact lQ_ (by
  have h1 := lb_ h0 s hs
  have : ∀ (l out : List ByteArray) s, s ∈ l.foldl cw_ out → s ∈ out ∨ s ∈ l := by
   intro l
   induction l with
   |nil => intro out s h; exact .inl h
   |cons x l ih =>
    intro out s h
    rcases ih _ _ h with h | h
    ·unfold cw_ at h
     split at h
     ·rcases List.mem_append.1 h with h | h
      ·exact .inl h
      ·rw [List.mem_singleton.1 h]; exact .inr (.head _)
     ·exact .inl h
    ·exact .inr (.tail _ h)
  rcases this _ _ _ h1 with h | h
  ·cases h
  ·exact h)
theorem md_ : ∀ k < 16, 1 ≤ (g3_ k).size ∧ (g3_ k).size ≤ 128 := by decide
theorem hv_ {l : List Ent} {who : ByteArray} (hl : bc_ l = true) (hw : aI_ who = true) (hm : ¬ (bT_ l).length = 0) : (clMv l who (bh_ l)).2 = 0 ∨ (clMv l who (bh_ l)).2 = 4 := by
 unfold clMv
 refine iZ_ (fun x hx => ?_) (.inl rfl)
 have hp := eR_ hx
 have hs := md_ x.part hp
 rw [dH_ (by omega)]
 refine ql_ hl hs.1 hs.2 hw ?_
 have hnow := (dU_ hx).2.2
 have := (eB_ (i2_ hm _ (List.mem_of_getElem? hnow))).2
 omega
theorem k5_ {l : List Ent} {who : ByteArray} (hm : ¬ (bT_ l).length = 0) (h : (clMv l who (bh_ l)).2 = 0) : Claimed l who (clMv l who (bh_ l)).1 := by
 have hp := gj_ h
 refine ⟨hp, ?_⟩
 unfold bh_ at h hp ⊢
 exact kp_ (by rw [ff_]; simp [aF_]) (i2_ hm) h hp.puts
end Go.Proofs.YtkcmbjodladflaaGreatDoor
end

section
set_option linter.all false
set_option maxRecDepth 100000
namespace Go.Proofs.YtkcmbjodladflaaGreatDoor
open Go.Ab
theorem lM_ {ow nm : List ByteArray} {a : Int} (h : a ∈ aW_ ow nm) : 0 ≤ a ∧ a ≤ ow.length := by
 unfold aW_ at h
 obtain ⟨s, _, rfl⟩ := List.mem_map.1 h
 have := hw_ ow s
 omega
structure LoadsOk (L : List Int) (n : Nat) : Prop where
 len : L.length = n
 near : ∀ (i k : Nat) (a b : Int), L[i]? = some a → L[k]? = some b → a - b ≤ 1
 sum : L.sum = 16
 mem : ∀ a ∈ L, 0 ≤ a ∧ a ≤ 16
theorem nI_ {l xs : List Ent} {who : ByteArray} (hok : bc_ l = true) (hm : ¬ (bT_ l).length = 0) (hC : Claimed l who xs) : LoadsOk (aW_ (aF_ (jnS l xs) 16) (nmsS l)) (bT_ l).length := by
 have h0 : 0 < (nmsS l).length := by rw [nmsS, List.length_map]; omega
 have h16 : (aF_ l 16).length = 16 := by simp [aF_]
 rw [hC.owners]
 refine ⟨by rw [cb_, nmsS, List.length_map], fun i k a b ha hb => lc_ h0 ha hb, ?_, fun a ha => ?_⟩
 ·have := ns_ (ow := aF_ l 16) h0
  rw [lY_ (hQ_ hok), h16] at this
  exact this
 ·have := lM_ ha
  rw [ff_, h16] at this; exact this
end Go.Proofs.YtkcmbjodladflaaGreatDoor
end
