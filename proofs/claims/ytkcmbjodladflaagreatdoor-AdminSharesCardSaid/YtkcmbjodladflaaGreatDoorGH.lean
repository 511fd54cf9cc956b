/-
  Which keys are spoken of, plainly; Which keys are spoken of: the walks; Members, as registers tell them: the program; Partitions and their owners: the program; Properties of buckets: the program; Numbers below twenty in keys of partitions, as the kernel can reckon them. Own work (an AI agent).
-/
import Derived.Test.YtkcmbjodladflaaGreatDoorGF
import Derived.Test.YtkcmbjodladflaaGreatDoorGG

section
set_option linter.all false
set_option maxRecDepth 100000
namespace Go.Proofs.YtkcmbjodladflaaGreatDoor
open Go.Ab
def bt_ : ByteArray := ⟨#[110, 111, 100, 101]⟩
def f6_ : ByteArray := ⟨#[114, 105, 110, 103]⟩
def jZ_ : ByteArray := ⟨#[112, 114, 111, 112]⟩
def n7_ : ByteArray := ⟨#[97, 99, 108]⟩
def hasT (l : List ByteArray) (s : ByteArray) : Bool := l.any fun y => decide (y = s)
end Go.Proofs.YtkcmbjodladflaaGreatDoor
end

section
set_option linter.all false
set_option maxRecDepth 100000
namespace Go.Proofs.YtkcmbjodladflaaGreatDoor
open Go.Ab
theorem qo_ {α : Type} {l : List α} {k : Nat} {x : α} {f : α → Bool} (h : l[k]? = some x) (hf : f x = true) : l.any f = true := List.any_eq_true.2 ⟨x, List.mem_of_getElem? h, hf⟩
theorem oC_ {α : Type} {l : List α} {k : Nat} {x : α} {f : α → Bool} (h : l[k]? = some x) (hf : f x = false) (ha : (l.take k).any f = false) : (l.take (k + 1)).any f = false := by
 rw [aM_ h, List.any_append, ha]; simp [hf]
theorem pK_ {α : Type} {l : List α} {k : Nat} {f : α → Bool} (h : l.length ≤ k) (ha : (l.take k).any f = false) : l.any f = false := by rwa [List.take_of_length_le h] at ha
theorem kW_ {l : List ByteArray} {x : ByteArray} {t : Bool} {σ : Store} (hn : l.length ≤ 1000000) : ap_ Tryz.prog 108 [.sl 1 (l.map vStr) t, vStr x] σ fun v σ' => (∃ r, v = vInt r ∧ decide (0 ≤ r) = hasT l x) ∧ σ = σ' := by
 refine am_ Tryz.func108 rfl Tryz.ntmps108 (congrArg Array.toList Tryz.results108) (by simp only [List.length_cons, List.length_nil]; decide) ?_; simp only [ah_, al_, Nat.reduceAdd]
 refine ab_ ?_
 refine aa_ kr_ ?_
 (refine aL_S rfl rfl v_ ?_)
 refine ac_ ?_
 refine ab_ ?_
 refine ab_ ?_
 refine aa_ kr_ ?_
 iterate 3 (refine aL_S rfl rfl v_ ?_)
 refine ac_ ?_
 refine ak_ ?_
 refine ao_ (ι := Nat) (fun k => l.length - k) (fun k => k ≤ l.length ∧ (l.take k).any (fun y => decide (y = x)) = false) (fun k => [(0, .sl 1 (l.map vStr) t), (1, vStr x), (7, vInt l.length), (8, vInt k)]) (fun k => σ) 0 ?_ ?_ ?_ ?_
 ·exact ⟨Nat.zero_le _, rfl⟩
 ·exact cv_
 ·exact sub_
 rintro k ⟨hk, ha⟩
 simp only [ar_, as_]
 refine ab_ ?_
 refine aa_ kr_ ?_
 (refine aL_S rfl rfl v_ ?_)
 refine ac_ ?_
 refine ab_ ?_
 refine ad_ v_ (fun hc2 => ?_) (fun hc2 => ?_)
 ·replace hc2 := nm_ hc2
  refine ae_ ?_
  refine ab_ ?_
  refine ak_ ?_
  refine ab_ ?_
  refine aa_ kr_ ?_
  iterate 2 (refine aL_S rfl rfl v_ ?_)
  refine ac_ ?_
  refine ab_ ?_
  obtain ⟨y, hy⟩ := aA_ (l := l) (k := k) (by omega)
  have R := hy
  refine aa_ kr_ ?_
  iterate 6 (refine aL_S rfl rfl v_ ?_)
  refine ac_ ?_
  refine ad_ v_ (fun hc4 => ?_) (fun hc4 => ?_)
  ·replace hc4 := nm_ hc4
   refine ab_ ?_
   refine aa_ kr_ ?_
   iterate 2 (refine aL_S rfl rfl v_ ?_)
   refine ac_ ?_
   refine aj_ ?_
   refine ai_ (σ' := σ) v_ sub_ ?_
   exact ⟨⟨(k : Int), rfl, by rw [decide_eq_true (by omega)]; exact (qo_ hy (decide_eq_true hc4.symm)).symm⟩, rfl⟩
  ·replace hc4 := nm_ hc4
   have hxy : y ≠ x := fun h => hc4 h.symm
   refine ae_ ?_
   refine aa_ kr_ ?_
   iterate 2 (refine aL_S rfl rfl v_ ?_)
   refine ac_ ?_
   refine aI_ (ι := Nat) (i := k) (k + 1) ?_ ?_ ?_ ?_
   ·omega
   ·exact ⟨by omega, oC_ hy (decide_eq_false hxy) ha⟩
   ·exact cv_
   ·exact sub_
 ·replace hc2 := nm_ hc2
  refine av_ ?_
  refine af_ ?_
  refine af_ ?_
  refine aq_ ?_
  refine ab_ ?_
  refine aa_ kr_ ?_
  (refine aL_S rfl rfl v_ ?_)
  refine ac_ ?_
  refine aj_ ?_
  refine ai_ (σ' := σ) v_ sub_ ?_
  exact ⟨⟨-1, rfl, (pK_ (by omega) ha).symm⟩, rfl⟩
theorem dx_ {l : List ByteArray} {x : ByteArray} {t : Bool} {σ : Store} (hn : l.length ≤ 1000000) : ap_ Tryz.prog 50 [.sl 1 (l.map vStr) t, vStr x] σ fun v σ' => v = vB (hasT l x) ∧ σ = σ' := by
 refine am_ Tryz.func50 rfl Tryz.ntmps50 (congrArg Array.toList Tryz.results50) (by simp only [List.length_cons, List.length_nil]; decide) ?_; simp only [ah_, al_, Nat.reduceAdd]
 refine ab_ ?_
 refine aa_ kr_ ?_
 (refine aL_S rfl rfl v_ ?_)
 refine ac_ ?_
 refine ab_ ?_
 refine aa_ kr_ ?_
 iterate 2 (refine aL_S rfl rfl v_ ?_)
 refine aL_X rfl rfl (ag_ rfl rfl (.inr ⟨rfl, rfl, rfl⟩) g_ va_ (kW_ hn) ?_); rintro _ _ ⟨⟨r, rfl, hr⟩, rfl⟩
 iterate 2 (refine aL_S rfl rfl v_ ?_)
 refine ac_ ?_
 refine aj_ ?_
 refine ai_ (σ' := σ) v_ sub_ ?_
 exact ⟨by rw [← hr], rfl⟩
end Go.Proofs.YtkcmbjodladflaaGreatDoor
end

section
set_option linter.all false
set_option maxRecDepth 100000
namespace Go.Ab
structure Mbr where
 name : ByteArray
 rack : ByteArray
 zone : ByteArray
 up : Bool
@[reducible] def sMbr (x : Mbr) : AVal := .agg [.lit (.string x.name), .lit (.string x.rack), .lit (.string x.zone), .lit (.bool x.up)]
end Go.Ab
namespace Go.Proofs.YtkcmbjodladflaaGreatDoor
open Go.Ab
def bsUp : ByteArray := ⟨#[117, 112]⟩
def d0_ : ByteArray := ⟨#[100, 111, 119, 110]⟩
def dO_ : Mbr := ⟨⟨#[]⟩, ⟨#[]⟩, ⟨#[]⟩, false⟩
def mbrS (a v : ByteArray) : Option Mbr := match bE_ v with | [r, z, u] => if aN_ a = true ∧ aN_ r = true ∧ aN_ z = true ∧ (u = bsUp ∨ u = d0_) then some ⟨a, r, z, decide (u = bsUp)⟩ else none | _ => none
def memK (x : Ent) : Option Mbr := mbrS (x.key.extract 5 x.key.size) x.value
def bD_ (l : List Ent) : List Mbr := (undS l bt_).filterMap memK
def nmsS (l : List Ent) : List ByteArray := (bD_ l).map Mbr.name
theorem dv_ (l : List Ent) : (bD_ l).length ≤ l.length := Nat.le_trans (List.length_filterMap_le ..) (hc_ l bt_)
theorem oH_ (l : List Mbr) : ∀ y ∈ l.map sMbr, y.cells.length = 4 := fun y hy => by
 obtain ⟨x, _, rfl⟩ := List.mem_map.1 hy
 rfl
theorem gS_ {l : List ByteArray} {N : Nat} (h : ∀ x ∈ l, x.size ≤ N) (k : Nat) : ∃ x : ByteArray, (k < l.length → l[k]? = some x) ∧ x.size ≤ N := by
 by_cases hk : k < l.length
 ·exact ⟨l[k], fun _ => List.getElem?_eq_getElem hk, h _ (List.getElem_mem hk)⟩
 ·exact ⟨⟨#[]⟩, fun h' => absurd h' hk, Nat.zero_le _⟩
theorem fx_ {a v r z u : ByteArray} (h3 : (bE_ v).length = 3) (h0 : (bE_ v)[0]? = some r) (h1 : (bE_ v)[1]? = some z) (h2 : (bE_ v)[2]? = some u) : mbrS a v = if aN_ a = true ∧ aN_ r = true ∧ aN_ z = true ∧ (u = bsUp ∨ u = d0_) then some ⟨a, r, z, decide (u = bsUp)⟩ else none := by
 unfold mbrS
 obtain ⟨a', b', c', e⟩ : ∃ a b c, bE_ v = [a, b, c] := by
  match hp : bE_ v, h3 with
  |[a, b, c], _ => exact ⟨a, b, c, rfl⟩
 rw [e] at h0 h1 h2 ⊢
 simp only [List.getElem?_cons_succ, List.getElem?_cons_zero, Option.some.injEq] at h0 h1 h2
 subst h0; subst h1; subst h2; rfl
theorem kp_ {a v : ByteArray} (h3 : ¬(bE_ v).length = 3) : mbrS a v = none := by
 unfold mbrS
 split
 ·rename_i a b c e; rw [e] at h3; simp at h3
 ·rfl
theorem hj_ {a v : ByteArray} {σ : Store} (ha : a.size ≤ 900000) (hv : v.size ≤ 900000) : ap_ Tryz.prog 149 [vStr a, vStr v] σ fun w σ' => w = .tup [sMbr ((mbrS a v).getD dO_), vB (mbrS a v).isSome] ∧ σ = σ' := by
 have hpl := gB_ v
 have hpm : ∀ x ∈ bE_ v, x.size ≤ 900000 := fun x hx => Nat.le_trans (gw_ hx).2 hv
 obtain ⟨r, hr, rz⟩ := gS_ hpm 0
 obtain ⟨z, hz, zz⟩ := gS_ hpm 1
 obtain ⟨u, hu, uz⟩ := gS_ hpm 2
 refine am_ Tryz.func149 rfl Tryz.ntmps149 (congrArg Array.toList Tryz.results149) (by simp only [List.length_cons, List.length_nil]; decide) ?_; simp only [ah_, al_, Nat.reduceAdd]
 refine ab_ ?_
 refine aa_ kr_ ?_
 refine aR_ rfl rfl rfl g_ gl_ fun o4 ho4 => ?_
 repeat (rw [an_] at ho4; obtain ⟨_, ho4⟩ := ho4)
 (refine aL_S rfl rfl v_ ?_)
 refine ac_ ?_
 refine ab_ ?_
 refine aa_ kr_ ?_
 (refine aL_S rfl rfl v_ ?_)
 refine aL_X rfl rfl (ag_ rfl rfl (.inr ⟨rfl, rfl, rfl⟩) g_ va_ (qF_ (by omega)) ?_); rintro _ _ ⟨rfl, rfl⟩
 (refine aL_S rfl rfl v_ ?_)
 refine ac_ ?_
 refine ab_ ?_
 refine ab_ ?_
 have R := And.intro hr hz
 refine aa_ kr_ ?_
 (refine aL_S rfl rfl v_ ?_)
 refine aL_X rfl rfl (ag_ rfl rfl (.inr ⟨rfl, rfl, rfl⟩) g_ va_ (br_ (by omega)) ?_); rintro _ _ ⟨rfl, rfl⟩
 iterate 2 (refine aL_S rfl rfl v_ ?_)
 refine aw_ rfl rfl v_ rfl vg_ ?_
 refine aw_ rfl rfl v_ rfl vg_ ?_
 refine aw_ rfl rfl v_ rfl vg_ ?_
 iterate 2 (refine aL_S rfl rfl v_ ?_)
 refine aw_ rfl rfl v_ rfl vg_ ?_
 refine aw_ rfl rfl v_ rfl vg_ ?_
 refine aw_ rfl rfl v_ rfl vg_ ?_
 refine bs_ rfl rfl v_ rfl (fun hb => aG_ (by rfl) (by rfl) (.inr ⟨by rfl, by rfl, by rfl⟩) g_ cg_ (br_ (by omega))) ?_
 refine aw_ rfl rfl v_ rfl vg_ ?_
 iterate 2 (refine aL_S rfl rfl v_ ?_)
 refine aw_ rfl rfl v_ rfl vg_ ?_
 refine aw_ rfl rfl v_ rfl vg_ ?_
 refine aw_ rfl rfl v_ rfl vg_ ?_
 refine bs_ rfl rfl v_ rfl (fun hb => aG_ (by rfl) (by rfl) (.inr ⟨by rfl, by rfl, by rfl⟩) g_ cg_ (br_ (by omega))) ?_
 refine aw_ rfl rfl v_ rfl vg_ ?_
 (refine aL_S rfl rfl v_ ?_)
 refine ac_ ?_
 refine ad_ v_ (fun hc2 => ?_) (fun hc2 => ?_)
 ·replace hc2 := nm_ hc2
  refine ab_ ?_
  refine aa_ kr_ ?_
  (refine aL_S rfl rfl v_ ?_)
  refine ax_ rfl rfl rfl v_ v_ h_ g_ rfl g_ c_ (by rfl) le_ v_ ?_
  (refine aL_S rfl rfl v_ ?_)
  refine ac_ ?_
  refine aj_ ?_
  refine ai_ (σ' := σ) v_ sub_ ?_
  skip
  have hn : mbrS a v = none := by
   by_cases h3 : (bE_ v).length = 3
   ·rw [fx_ h3 (hr (by omega)) (hz (by omega)) (hu (by omega)), if_neg]
    rintro ⟨g1, g2, g3, _⟩
    simp [g1, g2, g3, h3] at hc2
   ·exact kp_ h3
  exact ⟨by rw [hn]; rfl, rfl⟩
 ·replace hc2 := nm_ hc2
  have h3 : (bE_ v).length = 3 := by omega
  have hr' := hr (by omega)
  have hz' := hz (by omega)
  have hu' := hu (by omega)
  have hms := fx_ (a := a) h3 hr' hz' hu'
  refine ae_ ?_
  refine ab_ ?_
  refine ab_ ?_
  have R := hu'
  refine aa_ kr_ ?_
  iterate 3 (refine aL_S rfl rfl v_ ?_)
  refine ac_ ?_
  refine ak_ ?_
  refine ab_ ?_
  refine ab_ ?_
  refine aa_ kr_ ?_
  iterate 2 (refine aL_S rfl rfl v_ ?_)
  refine ac_ ?_
  refine ad_ v_ (fun hc5 => ?_) (fun hc5 => ?_)
  ·replace hc5 := nm_ hc5
   have hup := hc5
   refine ae_ ?_
   refine ad_ v_ (fun hc5 => ?_) (fun hc5 => ?_)
   ·replace hc5 := nm_ hc5
    have hup := hc5
    refine ab_ ?_
    have R := And.intro hr' (And.intro hz' hu')
    refine aE_ (.op 0 0 (.op 1 0 (.op 2 0 (.op 3 0 (.op 4 0 (.op 5 0 (.op 6 0 (.op 7 0 (.op 8 0 (.op 9 0 (.op 10 0 (.op 11 0 (.op 12 2 (.op 13 0 .nil)))))))))))))) Tryz.mixed kr_ ?_
    iterate 12 (refine dR_S o_ (by rfl) (by rfl) v_ ?_)
    refine ba_ o_ (by rfl) (by rfl) (by rfl) v_ v_ h_ g_ rfl g_ c_ (by rfl) le_ v_ ?_
    (refine dR_S o_ (by rfl) (by rfl) v_ ?_)
    refine aK_ ?_
    refine aj_ ?_
    refine ai_ (σ' := σ) v_ sub_ ?_
    exact ⟨by rw [hms, if_pos ⟨hc2.1.1.1, hc2.1.2, hc2.2, .inl hup⟩]; rfl, rfl⟩
   ·replace hc5 := nm_ hc5
    exact absurd hup hc5
  ·replace hc5 := nm_ hc5
   refine aa_ kr_ ?_
   iterate 2 (refine aL_S rfl rfl v_ ?_)
   refine ac_ ?_
   refine ad_ v_ (fun hc6 => ?_) (fun hc6 => ?_)
   ·replace hc6 := nm_ hc6
    refine ab_ ?_
    have R := And.intro hr' (And.intro hz' hu')
    refine aE_ (.op 0 0 (.op 1 0 (.op 2 0 (.op 3 0 (.op 4 0 (.op 5 0 (.op 6 0 (.op 7 0 (.op 8 0 (.op 9 0 (.op 10 0 (.op 11 0 (.op 12 2 (.op 13 0 .nil)))))))))))))) Tryz.mixed kr_ ?_
    iterate 12 (refine dR_S o_ (by rfl) (by rfl) v_ ?_)
    refine ba_ o_ (by rfl) (by rfl) (by rfl) v_ v_ h_ g_ rfl g_ c_ (by rfl) le_ v_ ?_
    (refine dR_S o_ (by rfl) (by rfl) v_ ?_)
    refine aK_ ?_
    refine aj_ ?_
    refine ai_ (σ' := σ) v_ sub_ ?_
    exact ⟨by rw [hms, if_pos ⟨hc2.1.1.1, hc2.1.2, hc2.2, .inr hc6⟩]; rfl, rfl⟩
   ·replace hc6 := nm_ hc6
    refine ae_ ?_
    refine ab_ ?_
    refine aa_ kr_ ?_
    (refine aL_S rfl rfl v_ ?_)
    refine ax_ rfl rfl rfl v_ v_ h_ g_ rfl g_ c_ (by rfl) le_ v_ ?_
    (refine aL_S rfl rfl v_ ?_)
    refine ac_ ?_
    refine aj_ ?_
    refine ai_ (σ' := σ) v_ sub_ ?_
    exact ⟨by rw [hms, if_neg (fun hh => by rcases hh.2.2.2 with h | h; exact hc5 h; exact hc6 h)]; rfl, rfl⟩
def i5_ (s p : ByteArray) : ByteArray := if hpS s p = true then s.extract p.size s.size else s
theorem n1_ {s p : ByteArray} {σ : Store} : ap_ Tryz.prog 195 [vStr s, vStr p] σ fun v σ' => v = vStr (i5_ s p) ∧ σ = σ' := by
 refine am_ Tryz.func195 rfl Tryz.ntmps195 (congrArg Array.toList Tryz.results195) (by simp only [List.length_cons, List.length_nil]; decide) ?_; simp only [ah_, al_, Nat.reduceAdd]
 refine ab_ ?_
 refine aa_ kr_ ?_
 (refine aL_S rfl rfl v_ ?_)
 refine ac_ ?_
 refine ab_ ?_
 refine ab_ ?_
 refine aa_ kr_ ?_
 iterate 2 (refine aL_S rfl rfl v_ ?_)
 refine aL_X rfl rfl (ag_ rfl rfl (.inr ⟨rfl, rfl, rfl⟩) g_ va_ (eW_) ?_); rintro _ _ ⟨rfl, rfl⟩
 refine ac_ ?_
 refine ad_ v_ (fun hc1 => ?_) (fun hc1 => ?_)
 ·replace hc1 := nm_ hc1
  have hle : p.size ≤ s.size := by unfold hpS at hc1; simp only [Bool.and_eq_true, decide_eq_true_eq] at hc1; exact hc1.1
  refine ab_ ?_
  refine aa_ kr_ ?_
  iterate 5 (refine aL_S rfl rfl v_ ?_)
  refine ac_ ?_
  refine aj_ ?_
  refine ai_ (σ' := σ) v_ sub_ ?_
  exact ⟨by rw [i5_, if_pos hc1], rfl⟩
 ·replace hc1 := nm_ hc1
  refine ae_ ?_
  refine ab_ ?_
  refine aa_ kr_ ?_
  iterate 2 (refine aL_S rfl rfl v_ ?_)
  refine ac_ ?_
  refine aj_ ?_
  refine ai_ (σ' := σ) v_ sub_ ?_
  exact ⟨by rw [i5_, if_neg (by simp [hc1])], rfl⟩
theorem pc_ {s p : ByteArray} {σ : Store} : ap_ Tryz.prog 150 [vStr s, vStr p] σ fun v σ' => v = vStr (i5_ s p) ∧ σ = σ' := by
 refine am_ Tryz.func150 rfl Tryz.ntmps150 (congrArg Array.toList Tryz.results150) (by simp only [List.length_cons, List.length_nil]; decide) ?_; simp only [ah_, al_, Nat.reduceAdd]
 refine ab_ ?_
 refine aa_ kr_ ?_
 (refine aL_S rfl rfl v_ ?_)
 refine ac_ ?_
 refine ab_ ?_
 refine aa_ kr_ ?_
 iterate 2 (refine aL_S rfl rfl v_ ?_)
 refine aL_X rfl rfl (ag_ rfl rfl (.inr ⟨rfl, rfl, rfl⟩) g_ va_ (n1_) ?_); rintro _ _ ⟨rfl, rfl⟩
 (refine aL_S rfl rfl v_ ?_)
 refine ac_ ?_
 refine aj_ ?_
 refine ai_ (σ' := σ) v_ sub_ ?_
 exact ⟨rfl, rfl⟩
theorem nd_ {l : List Ent} {s : ByteArray} {x : Ent} (h : x ∈ undS l s) : hpS x.key (s ++ ⟨#[47]⟩) = true := by simpa using (List.mem_filter.1 h).2
theorem m6_ {l : List Ent} {x : Ent} (h : x ∈ undS l bt_) : i5_ x.key ⟨#[110, 111, 100, 101, 47]⟩ = x.key.extract 5 x.key.size := by
 have h1 : hpS x.key ⟨#[110, 111, 100, 101, 47]⟩ = true := nd_ h
 rw [i5_, if_pos h1]; rfl
set_option maxHeartbeats 2000000 in
theorem nt_ {l : List Ent} {t : Bool} {σ : Store} (hl : l.length ≤ 1000000) (hs : ∀ x ∈ l, EntSm x) (hks : ∀ x ∈ l, x.key.size ≤ 400000 ∧ x.value.size ≤ 400000) : ap_ Tryz.prog 94 [.sl 4 (l.map sEnt) t] σ fun v σ' => ∃ σ1, CBp σ1 σ' 4 ((bD_ l).map sMbr) v ∧ σ.Sub σ1 := by
 obtain ⟨U, hU⟩ : ∃ U, undS l bt_ = U := ⟨_, rfl⟩
 have hUl := hc_ l bt_
 have hUs := sa_ (s := bt_) hs
 have hUt : ∀ x ∈ undS l bt_, i5_ x.key ⟨#[110, 111, 100, 101, 47]⟩ = x.key.extract 5 x.key.size := fun x hx => m6_ hx
 have hsub : ∀ x ∈ undS l bt_, x ∈ l := fun x hx => (List.mem_filter.1 hx).1
 have hml := dv_ l
 rw [show bD_ l = (undS l bt_).filterMap memK from rfl] at hml ⊢
 rw [hU] at hUl hUs hUt hsub hml ⊢
 refine am_ Tryz.func94 rfl Tryz.ntmps94 (congrArg Array.toList Tryz.results94) (by simp only [List.length_cons, List.length_nil]; decide) ?_; simp only [ah_, al_, Nat.reduceAdd]
 refine ab_ ?_
 refine aa_ kr_ ?_
 (refine aL_S rfl rfl v_ ?_)
 refine ac_ ?_
 refine ab_ ?_
 refine aa_ kr_ ?_
 (refine aL_S rfl rfl v_ ?_)
 refine ac_ ?_
 refine ab_ ?_
 refine ab_ ?_
 refine aa_ kr_ ?_
 (refine aL_S rfl rfl v_ ?_)
 refine aL_X rfl rfl (ag_ rfl rfl (.inr ⟨rfl, rfl, rfl⟩) g_ va_ (qS_ (s := bt_) hl (by decide)) ?_); rintro _ _ ⟨rfl, rfl⟩
 iterate 2 (refine aL_S rfl rfl v_ ?_)
 refine ac_ ?_
 rw [hU]
 refine ak_ ?_
 refine ao_ (ι := Store × AVal × Nat) (fun ⟨τ, g, k⟩ => U.length - k) (fun ⟨τ, g, k⟩ => k ≤ U.length ∧ CBp σ τ 4 (((U.take k).filterMap memK).map sMbr) g) (fun ⟨τ, g, k⟩ => [(3, g), (9, .sl 4 (U.map sEnt) false), (10, vInt U.length), (11, vInt k)]) (fun ⟨τ, g, k⟩ => τ) (σ, vNil, 0) ?_ ?_ ?_ ?_
 ·exact ⟨Nat.zero_le _, .inl ⟨rfl, rfl, rfl⟩⟩
 ·exact cv_
 ·exact Store.Wk.refl _
 rintro ⟨τ, g, k⟩ ⟨hk, hC⟩
 simp only [ar_, as_]
 refine ab_ ?_
 refine aa_ kr_ ?_
 (refine aL_S rfl rfl v_ ?_)
 refine ac_ ?_
 refine ab_ ?_
 refine ad_ v_ (fun hc3 => ?_) (fun hc3 => ?_)
 ·replace hc3 := nm_ hc3
  refine ae_ ?_
  refine ab_ ?_
  refine ak_ ?_
  refine ab_ ?_
  obtain ⟨x, hx⟩ := aA_ (l := U) (k := k) (by omega)
  have hxm := List.mem_of_getElem? hx
  have hxs := hUs x hxm
  have hsn := l9_ (f := memK) hx
  have hxt := hUt x hxm
  have hk1 := (hks x (hsub x hxm)).1
  have hk2 := (hks x (hsub x hxm)).2
  have hle : ((U.take k).filterMap memK).length ≤ U.length := Nat.le_trans (List.length_filterMap_le ..) (by rw [List.length_take]; omega)
  have R := hx
  refine aa_ kr_ ?_
  iterate 2 (refine aL_S rfl rfl v_ ?_)
  refine aR_ rfl rfl rfl g_ gl_ fun o5 ho5 => ?_
  repeat (rw [an_] at ho5; obtain ⟨_, ho5⟩ := ho5)
  refine ax_ rfl rfl rfl v_ v_ h_ g_ rfl g_ c_ (by rfl) le_ v_ ?_
  refine ac_ ?_
  skip
  have n5 := cL_ hC ho5
  have hC1 := dn_ (x := .cells [.lit (.string ⟨#[]⟩), vInt 0, .lit (.string ⟨#[]⟩), .lit (.string ⟨#[]⟩)]) (y := .cells (sEnt x).cells) hC ho5
  obtain ⟨mo, hmo⟩ : ∃ mo, memK x = mo := ⟨_, rfl⟩
  have hmo' : mbrS (x.key.extract 5 x.key.size) x.value = mo := hmo
  refine ab_ ?_
  refine aE_ (.op 0 0 (.op 1 0 (.op 3 0 (.op 4 0 (.op 5 0 (.alt 2 1 (.alt 6 1 (.op 7 0 (.op 8 0 (.op 9 0 (.op 10 1 (.op 11 2 (.op 12 0 .nil)))))) (.op 10 1 (.op 6 1 (.op 7 0 (.op 8 0 (.op 9 0 (.op 11 2 (.op 12 0 .nil)))))))) (.op 10 1 (.op 2 1 (.op 6 1 (.op 7 0 (.op 8 0 (.op 9 0 (.op 11 2 (.op 12 0 .nil)))))))))))))) Tryz.mixed kr_ ?_
  iterate 5 (refine dR_S o_ (by rfl) (by rfl) v_ ?_)
  refine fi_ ?_ ?_
  ·refine dR_X o_ (by rfl) (by rfl) (ag_ (by rfl) (by rfl) (.inr ⟨by rfl, by rfl, by rfl⟩) g_ va_ (pc_) ?_); rintro _ _ ⟨rfl, rfl⟩; refine ⟨sub_, ?_⟩
   rw [hxt]
   refine fi_ ?_ ?_
   ·refine dR_X o_ (by rfl) (by rfl) (ag_ (by rfl) (by rfl) (.inr ⟨by rfl, by rfl, by rfl⟩) g_ va_ (hj_ (by simp only [ByteArray.size_extract]; omega) (by omega)) ?_); rintro _ _ ⟨rfl, rfl⟩; refine ⟨sub_, ?_⟩
    rw [hmo']
    iterate 3 (refine dR_S o_ (by rfl) (by rfl) v_ ?_)
    refine cX_ o_ (by rfl) (by rfl) (by rfl) g_ gl_ sub_ fun o6 ho6 => ?_
    repeat (rw [an_] at ho6; obtain ⟨_, ho6⟩ := ho6)
    refine ba_ o_ (by rfl) (by rfl) (by rfl) v_ v_ h_ g_ rfl g_ c_ (by rfl) le_ v_ ?_
    (refine dR_S o_ (by rfl) (by rfl) v_ ?_)
    refine aK_ ?_
    skip
    have h6 : ((τ.set o5 (.cells [.lit (.string ⟨#[]⟩), vInt 0, .lit (.string ⟨#[]⟩), .lit (.string ⟨#[]⟩)])).set o5 (.cells (sEnt x).cells)).heap o6 = none := by rw [Store.set_ne _ _ (by assumption), Store.set_ne _ _ (by assumption)]; exact ho6
    have n6 := cL_ hC1 h6
    have hC2 := dn_ (x := .cells (sMbr dO_).cells) (y := .cells (sMbr (mo.getD dO_)).cells) hC1 h6
    refine ab_ ?_
    refine aa_ kr_ ?_
    (refine aL_S rfl rfl v_ ?_)
    refine ac_ ?_
    refine ad_ v_ (fun hc6 => ?_) (fun hc6 => ?_)
    ·replace hc6 := nm_ hc6
     obtain ⟨m, rfl⟩ := Option.isSome_iff_exists.1 hc6
     have hcov : (U.take (k + 1)).filterMap memK = (U.take k).filterMap memK ++ [m] := by rw [hsn, hmo]; rfl
     refine aa_ kr_ ?_
     iterate 2 (refine aL_S rfl rfl v_ ?_)
     refine au_ rfl rfl rfl g_ g_ rfl rfl h_ c2_ (by decide) ?_
     refine aL_X rfl rfl (a9_ rfl g_ g_ hC2 va_ (oH_ _) va_ c_ (by simp; omega) fun a' σ' hC3 => ?_)
     rw [show ((U.take k).filterMap memK).map sMbr ++ [sMbr ((some m).getD dO_)] = ((U.take k).filterMap memK ++ [m]).map sMbr from by simp] at hC3
     obtain ⟨τ1, hC4, hs1⟩ := cx_ hC3 n6
     obtain ⟨τ2, hC5, hs2⟩ := cx_ hC4 n5
     (refine aL_S rfl rfl v_ ?_)
     refine ac_ ?_
     refine aa_ kr_ ?_
     iterate 2 (refine aL_S rfl rfl v_ ?_)
     refine ac_ ?_
     refine aI_ (ι := Store × AVal × Nat) (i := ⟨τ, g, k⟩) (τ2, a', k + 1) ?_ ?_ ?_ ?_
     ·show U.length - (k + 1) < U.length - k; omega
     ·exact ⟨by show k + 1 ≤ U.length; omega, by rw [hcov]; exact hC5⟩
     ·exact cv_
     ·exact (hs2.trans hs1).wk
    ·replace hc6 := nm_ hc6
     obtain rfl : mo = none := by simpa using hc6
     have hcov : (U.take (k + 1)).filterMap memK = (U.take k).filterMap memK := by rw [hsn, hmo]; simp
     refine ae_ ?_
     refine aa_ kr_ ?_
     iterate 2 (refine aL_S rfl rfl v_ ?_)
     refine ac_ ?_
     refine aI_ (ι := Store × AVal × Nat) (i := ⟨τ, g, k⟩) (τ, g, k + 1) ?_ ?_ ?_ ?_
     ·show U.length - (k + 1) < U.length - k; omega
     ·exact ⟨by show k + 1 ≤ U.length; omega, by rw [hcov]; exact hC⟩
     ·exact cv_
     ·exact sub_
   refine cX_ o_ (by rfl) (by rfl) (by rfl) g_ gl_ sub_ fun o6 ho6 => ?_
   repeat (rw [an_] at ho6; obtain ⟨_, ho6⟩ := ho6)
   refine dR_X o_ (by rfl) (by rfl) (ag_ (by rfl) (by rfl) (.inr ⟨by rfl, by rfl, by rfl⟩) g_ va_ (hj_ (by simp only [ByteArray.size_extract]; omega) (by omega)) ?_); rintro _ _ ⟨rfl, rfl⟩; refine ⟨sub_, ?_⟩
   rw [hmo']
   iterate 3 (refine dR_S o_ (by rfl) (by rfl) v_ ?_)
   refine ba_ o_ (by rfl) (by rfl) (by rfl) v_ v_ h_ g_ rfl g_ c_ (by rfl) le_ v_ ?_
   (refine dR_S o_ (by rfl) (by rfl) v_ ?_)
   refine aK_ ?_
   skip
   have h6 : ((τ.set o5 (.cells [.lit (.string ⟨#[]⟩), vInt 0, .lit (.string ⟨#[]⟩), .lit (.string ⟨#[]⟩)])).set o5 (.cells (sEnt x).cells)).heap o6 = none := by rw [Store.set_ne _ _ (by assumption), Store.set_ne _ _ (by assumption)]; exact ho6
   have n6 := cL_ hC1 h6
   have hC2 := dn_ (x := .cells (sMbr dO_).cells) (y := .cells (sMbr (mo.getD dO_)).cells) hC1 h6
   refine ab_ ?_
   refine aa_ kr_ ?_
   (refine aL_S rfl rfl v_ ?_)
   refine ac_ ?_
   refine ad_ v_ (fun hc6 => ?_) (fun hc6 => ?_)
   ·replace hc6 := nm_ hc6
    obtain ⟨m, rfl⟩ := Option.isSome_iff_exists.1 hc6
    have hcov : (U.take (k + 1)).filterMap memK = (U.take k).filterMap memK ++ [m] := by rw [hsn, hmo]; rfl
    refine aa_ kr_ ?_
    iterate 2 (refine aL_S rfl rfl v_ ?_)
    refine au_ rfl rfl rfl g_ g_ rfl rfl h_ c2_ (by decide) ?_
    refine aL_X rfl rfl (a9_ rfl g_ g_ hC2 va_ (oH_ _) va_ c_ (by simp; omega) fun a' σ' hC3 => ?_)
    rw [show ((U.take k).filterMap memK).map sMbr ++ [sMbr ((some m).getD dO_)] = ((U.take k).filterMap memK ++ [m]).map sMbr from by simp] at hC3
    obtain ⟨τ1, hC4, hs1⟩ := cx_ hC3 n6
    obtain ⟨τ2, hC5, hs2⟩ := cx_ hC4 n5
    (refine aL_S rfl rfl v_ ?_)
    refine ac_ ?_
    refine aa_ kr_ ?_
    iterate 2 (refine aL_S rfl rfl v_ ?_)
    refine ac_ ?_
    refine aI_ (ι := Store × AVal × Nat) (i := ⟨τ, g, k⟩) (τ2, a', k + 1) ?_ ?_ ?_ ?_
    ·show U.length - (k + 1) < U.length - k; omega
    ·exact ⟨by show k + 1 ≤ U.length; omega, by rw [hcov]; exact hC5⟩
    ·exact cv_
    ·exact (hs2.trans hs1).wk
   ·replace hc6 := nm_ hc6
    obtain rfl : mo = none := by simpa using hc6
    have hcov : (U.take (k + 1)).filterMap memK = (U.take k).filterMap memK := by rw [hsn, hmo]; simp
    refine ae_ ?_
    refine aa_ kr_ ?_
    iterate 2 (refine aL_S rfl rfl v_ ?_)
    refine ac_ ?_
    refine aI_ (ι := Store × AVal × Nat) (i := ⟨τ, g, k⟩) (τ, g, k + 1) ?_ ?_ ?_ ?_
    ·show U.length - (k + 1) < U.length - k; omega
    ·exact ⟨by show k + 1 ≤ U.length; omega, by rw [hcov]; exact hC⟩
    ·exact cv_
    ·exact sub_
  refine cX_ o_ (by rfl) (by rfl) (by rfl) g_ gl_ sub_ fun o6 ho6 => ?_
  repeat (rw [an_] at ho6; obtain ⟨_, ho6⟩ := ho6)
  refine dR_X o_ (by rfl) (by rfl) (ag_ (by rfl) (by rfl) (.inr ⟨by rfl, by rfl, by rfl⟩) g_ va_ (pc_) ?_); rintro _ _ ⟨rfl, rfl⟩; refine ⟨sub_, ?_⟩
  rw [hxt]
  refine dR_X o_ (by rfl) (by rfl) (ag_ (by rfl) (by rfl) (.inr ⟨by rfl, by rfl, by rfl⟩) g_ va_ (hj_ (by simp only [ByteArray.size_extract]; omega) (by omega)) ?_); rintro _ _ ⟨rfl, rfl⟩; refine ⟨sub_, ?_⟩
  rw [hmo']
  iterate 3 (refine dR_S o_ (by rfl) (by rfl) v_ ?_)
  refine ba_ o_ (by rfl) (by rfl) (by rfl) v_ v_ h_ g_ rfl g_ c_ (by rfl) le_ v_ ?_
  (refine dR_S o_ (by rfl) (by rfl) v_ ?_)
  refine aK_ ?_
  skip
  have h6 : ((τ.set o5 (.cells [.lit (.string ⟨#[]⟩), vInt 0, .lit (.string ⟨#[]⟩), .lit (.string ⟨#[]⟩)])).set o5 (.cells (sEnt x).cells)).heap o6 = none := by rw [Store.set_ne _ _ (by assumption), Store.set_ne _ _ (by assumption)]; exact ho6
  have n6 := cL_ hC1 h6
  have hC2 := dn_ (x := .cells (sMbr dO_).cells) (y := .cells (sMbr (mo.getD dO_)).cells) hC1 h6
  refine ab_ ?_
  refine aa_ kr_ ?_
  (refine aL_S rfl rfl v_ ?_)
  refine ac_ ?_
  refine ad_ v_ (fun hc6 => ?_) (fun hc6 => ?_)
  ·replace hc6 := nm_ hc6
   obtain ⟨m, rfl⟩ := Option.isSome_iff_exists.1 hc6
   have hcov : (U.take (k + 1)).filterMap memK = (U.take k).filterMap memK ++ [m] := by rw [hsn, hmo]; rfl
   refine aa_ kr_ ?_
   iterate 2 (refine aL_S rfl rfl v_ ?_)
   refine au_ rfl rfl rfl g_ g_ rfl rfl h_ c2_ (by decide) ?_
   refine aL_X rfl rfl (a9_ rfl g_ g_ hC2 va_ (oH_ _) va_ c_ (by simp; omega) fun a' σ' hC3 => ?_)
   rw [show ((U.take k).filterMap memK).map sMbr ++ [sMbr ((some m).getD dO_)] = ((U.take k).filterMap memK ++ [m]).map sMbr from by simp] at hC3
   obtain ⟨τ1, hC4, hs1⟩ := cx_ hC3 n6
   obtain ⟨τ2, hC5, hs2⟩ := cx_ hC4 n5
   (refine aL_S rfl rfl v_ ?_)
   refine ac_ ?_
   refine aa_ kr_ ?_
   iterate 2 (refine aL_S rfl rfl v_ ?_)
   refine ac_ ?_
   refine aI_ (ι := Store × AVal × Nat) (i := ⟨τ, g, k⟩) (τ2, a', k + 1) ?_ ?_ ?_ ?_
   ·show U.length - (k + 1) < U.length - k; omega
   ·exact ⟨by show k + 1 ≤ U.length; omega, by rw [hcov]; exact hC5⟩
   ·exact cv_
   ·exact (hs2.trans hs1).wk
  ·replace hc6 := nm_ hc6
   obtain rfl : mo = none := by simpa using hc6
   have hcov : (U.take (k + 1)).filterMap memK = (U.take k).filterMap memK := by rw [hsn, hmo]; simp
   refine ae_ ?_
   refine aa_ kr_ ?_
   iterate 2 (refine aL_S rfl rfl v_ ?_)
   refine ac_ ?_
   refine aI_ (ι := Store × AVal × Nat) (i := ⟨τ, g, k⟩) (τ, g, k + 1) ?_ ?_ ?_ ?_
   ·show U.length - (k + 1) < U.length - k; omega
   ·exact ⟨by show k + 1 ≤ U.length; omega, by rw [hcov]; exact hC⟩
   ·exact cv_
   ·exact sub_
 ·replace hc3 := nm_ hc3
  refine av_ ?_
  refine af_ ?_
  refine af_ ?_
  refine aq_ ?_
  refine ab_ ?_
  obtain rfl : k = U.length := by omega
  rw [List.take_length] at hC
  refine aa_ kr_ ?_
  iterate 2 (refine aL_S rfl rfl v_ ?_)
  refine ac_ ?_
  refine aj_ ?_
  refine ai_ v_ (Store.Wk.refl _) ?_
  exact ⟨_, hC, .refl _⟩
theorem in_ {l : List Ent} {t : Bool} {σ : Store} (hl : l.length ≤ 1000000) (hs : ∀ x ∈ l, EntSm x) (hks : ∀ x ∈ l, x.key.size ≤ 400000 ∧ x.value.size ≤ 400000) : ap_ Tryz.prog 94 [.sl 4 (l.map sEnt) t] σ fun v σ' => v = .sl 4 ((bD_ l).map sMbr) false ∧ σ = σ' := fJ_ (nt_ hl hs hks) (oH_ _)
end Go.Proofs.YtkcmbjodladflaaGreatDoor
end

section
set_option linter.all false
set_option maxRecDepth 100000
namespace Go.Proofs.YtkcmbjodladflaaGreatDoor
open Go.Ab
def aY_ (k : Nat) : ByteArray := cM_ [f6_, B (Lib.itoa (k : Int))]
def ownK (l : List Ent) (k : Nat) : ByteArray := if aN_ (getS l (aY_ k)).value = true then (getS l (aY_ k)).value else ⟨#[]⟩
def aD_ (l : List Ent) (n : Nat) : List ByteArray := (List.range n).map (ownK l)
theorem iL_ {k : Nat} (hk : k ≤ 1000000) : (Lib.itoa (k : Int)).length ≤ 20 := (k4_ (by omega) (by omega)).2
theorem kg_ {k : Nat} (hk : k ≤ 1000000) : (aY_ k).size ≤ 30 := by
 unfold aY_ cM_
 rw [cr_]
 have := iL_ hk
 simp [eH_, Lb_B, aH_, show f6_.size = 4 from rfl]; omega
theorem fO_ {k : Nat} {σ : Store} (hk : k ≤ 1000000) : ap_ Tryz.prog 97 [vInt k] σ fun v σ' => v = vStr (aY_ k) ∧ σ = σ' := by
 have hi := iL_ hk
 refine am_ Tryz.func97 rfl Tryz.ntmps97 (congrArg Array.toList Tryz.results97) (by simp only [List.length_cons, List.length_nil]; decide) ?_; simp only [ah_, al_, Nat.reduceAdd]
 refine ab_ ?_
 refine aa_ kr_ ?_
 (refine aL_S rfl rfl v_ ?_)
 refine ac_ ?_
 refine ab_ ?_
 refine aa_ kr_ ?_
 (refine aL_S rfl rfl v_ ?_)
 refine aL_X rfl rfl (ag_ rfl rfl (.inr ⟨rfl, rfl, rfl⟩) g_ va_ (pw_ (by omega) (by omega)) ?_); rintro _ _ ⟨rfl, rfl⟩
 refine au_ rfl rfl rfl g_ g_ rfl rfl h_ c2_ (by decide) ?_
 refine aL_X rfl rfl (ag_ rfl rfl (.inr ⟨rfl, rfl, rfl⟩) g_ va_ (gd_ (l := [f6_, B (Lib.itoa (k : Int))]) (by simp) (by simp [aH_, cr_, show (Lb f6_).length = 4 from rfl]; omega)) ?_); rintro _ _ ⟨rfl, rfl⟩
 (refine aL_S rfl rfl v_ ?_)
 refine ac_ ?_
 refine aj_ ?_
 refine ai_ (σ' := σ) v_ sub_ ?_
 exact ⟨rfl, rfl⟩
theorem l2_ {n : Int} {σ : Store} : ap_ Tryz.prog 151 [vInt n] σ fun v σ' => v = vB (decide (1 ≤ n) && decide (n ≤ 4096)) ∧ σ = σ' := by
 refine am_ Tryz.func151 rfl Tryz.ntmps151 (congrArg Array.toList Tryz.results151) (by simp only [List.length_cons, List.length_nil]; decide) ?_; simp only [ah_, al_, Nat.reduceAdd]
 refine ab_ ?_
 refine aa_ kr_ ?_
 (refine aL_S rfl rfl v_ ?_)
 refine ac_ ?_
 refine ab_ ?_
 refine aa_ kr_ ?_
 iterate 3 (refine aL_S rfl rfl v_ ?_)
 refine aC_ rfl rfl v_ rfl vg_ ?_
 refine aC_ rfl rfl v_ rfl vg_ ?_
 iterate 2 (refine aL_S rfl rfl v_ ?_)
 refine ac_ ?_
 refine aj_ ?_
 refine ai_ (σ' := σ) v_ sub_ ?_
 exact ⟨rfl, rfl⟩
theorem oI_ {l : List Ent} {n k : Nat} (hk : k < n) (h : aN_ (getS l (aY_ k)).value = false) : ((List.range (k + 1)).map (ownK l)).map vStr ++ List.replicate (n - (k + 1)) (vStr ⟨#[]⟩) = ((List.range k).map (ownK l)).map vStr ++ List.replicate (n - k) (vStr ⟨#[]⟩) := by
 have e : n - k = (n - (k + 1)) + 1 := by omega
 rw [e, List.replicate_succ, List.range_succ, List.map_append, List.map_append, List.append_assoc]
 simp [ownK, h]
theorem p6_ {l : List Ent} {n k : Nat} (hk : k < n) (h : aN_ (getS l (aY_ k)).value = true) : aput (((List.range k).map (ownK l)).map vStr ++ List.replicate (n - k) (vStr ⟨#[]⟩)) k [vStr (getS l (aY_ k)).value] = ((List.range (k + 1)).map (ownK l)).map vStr ++ List.replicate (n - (k + 1)) (vStr ⟨#[]⟩) := by
 have hL := g0_ (done := (List.range k).map (ownK l)) (N := n) (x := (getS l (aY_ k)).value) (by simp; exact hk)
 simp only [List.length_map, List.length_range, List.length_append, List.length_singleton] at hL
 have e : ownK l k = (getS l (aY_ k)).value := by unfold ownK; rw [if_pos h]
 rw [hL, ← e]
 simp [List.range_succ]
theorem qA_ {l : List Ent} {t : Bool} {n : Nat} {σ : Store} (h1 : 1 ≤ n) (hn : n ≤ 4096) (hl : l.length ≤ 1000000) (hs : ∀ x ∈ l, EntSm x) : ap_ Tryz.prog 95 [.sl 4 (l.map sEnt) t, vInt n] σ fun v σ' => ∃ o, σ.heap o = none ∧ v = .msl o 1 0 n ∧ σ' = σ.set o (.cells ((aD_ l n).map vStr)) := by
 refine am_ Tryz.func95 rfl Tryz.ntmps95 (congrArg Array.toList Tryz.results95) (by simp only [List.length_cons, List.length_nil]; decide) ?_; simp only [ah_, al_, Nat.reduceAdd]
 refine ab_ ?_
 refine aa_ kr_ ?_
 (refine aL_S rfl rfl v_ ?_)
 refine ac_ ?_
 refine ab_ ?_
 refine ab_ ?_
 refine aa_ kr_ ?_
 (refine aL_S rfl rfl v_ ?_)
 refine aL_X rfl rfl (ag_ rfl rfl (.inr ⟨rfl, rfl, rfl⟩) g_ va_ (l2_) ?_); rintro _ _ ⟨rfl, rfl⟩
 (refine aL_S rfl rfl v_ ?_)
 refine ac_ ?_
 refine ad_ v_ (fun hc1 => ?_) (fun hc1 => ?_)
 ·replace hc1 := nm_ hc1
  omega
 ·replace hc1 := nm_ hc1
  refine ae_ ?_
  refine ab_ ?_
  refine aa_ kr_ ?_
  (refine aL_S rfl rfl v_ ?_)
  refine aL_X rfl rfl (a5_ rfl g_ g_ g_ rfl v_ v_ (by omega) fun oa hoa => ?_)
  (refine aL_S rfl rfl v_ ?_)
  refine ac_ ?_
  refine ab_ ?_
  refine ab_ ?_
  refine aa_ kr_ ?_
  iterate 3 (refine aL_S rfl rfl v_ ?_)
  refine ac_ ?_
  refine ak_ ?_
  refine ao_ (ι := Nat) (fun k => n - k) (fun k => k ≤ n) (fun k => [(0, .sl 4 (l.map sEnt) t), (5, .msl oa 1 0 n), (14, vInt n), (15, vInt k)]) (fun k => (σ.set oa (.cells (((List.range k).map (ownK l)).map vStr ++ List.replicate (n - k) (vStr ⟨#[]⟩))))) 0 ?_ ?_ ?_ ?_
  ·exact Nat.zero_le _
  ·exact cv_
  ·exact Store.Wk.refl _
  rintro k hk
  simp only [ar_, as_]
  refine ab_ ?_
  refine aa_ kr_ ?_
  (refine aL_S rfl rfl v_ ?_)
  refine ac_ ?_
  refine ab_ ?_
  refine ad_ v_ (fun hc5 => ?_) (fun hc5 => ?_)
  ·replace hc5 := nm_ hc5
   refine ae_ ?_
   refine ab_ ?_
   refine ak_ ?_
   refine ab_ ?_
   refine aa_ kr_ ?_
   iterate 2 (refine aL_S rfl rfl v_ ?_)
   refine ac_ ?_
   refine ab_ ?_
   have hkn : k < n := by omega
   have hvz := (hC_ hs (aY_ k)).2
   refine aa_ kr_ ?_
   iterate 2 (refine aL_S rfl rfl v_ ?_)
   refine aL_X rfl rfl (ag_ rfl rfl (.inr ⟨rfl, rfl, rfl⟩) g_ va_ (fO_ (by omega)) ?_); rintro _ _ ⟨rfl, rfl⟩
   refine aL_X rfl rfl (ag_ rfl rfl (.inr ⟨rfl, rfl, rfl⟩) g_ va_ (rE_ hl) ?_); rintro _ _ ⟨rfl, rfl⟩
   iterate 2 (refine aL_S rfl rfl v_ ?_)
   refine ac_ ?_
   refine ab_ ?_
   refine aa_ kr_ ?_
   (refine aL_S rfl rfl v_ ?_)
   refine aL_X rfl rfl (ag_ rfl rfl (.inr ⟨rfl, rfl, rfl⟩) g_ va_ (br_ (by omega)) ?_); rintro _ _ ⟨rfl, rfl⟩
   refine ac_ ?_
   refine ad_ v_ (fun hc8 => ?_) (fun hc8 => ?_)
   ·replace hc8 := nm_ hc8
    have hput := p6_ hkn hc8
    refine aa_ kr_ ?_
    iterate 4 (refine aL_S rfl rfl v_ ?_)
    refine ax_ rfl rfl rfl v_ v_ h_ g_ rfl g_ c_ (by rfl) le_ (by first | exact hput | (rw [Nat.mul_one]; exact hput) | (rw [Nat.zero_add]; exact hput) | (rw [Nat.mul_one, Nat.zero_add]; exact hput)) ?_
    refine ac_ ?_
    refine aa_ kr_ ?_
    iterate 2 (refine aL_S rfl rfl v_ ?_)
    refine ac_ ?_
    refine aI_ (ι := Nat) (i := k) (k + 1) ?_ ?_ ?_ ?_
    ·omega
    ·exact (by omega)
    ·exact cv_
    ·(try dsimp only); rw [Store.set_set]; exact Store.Wk.refl _
   ·replace hc8 := nm_ hc8
    have hkp := oI_ hkn (by simpa using hc8)
    refine ae_ ?_
    refine aa_ kr_ ?_
    iterate 2 (refine aL_S rfl rfl v_ ?_)
    refine ac_ ?_
    refine aI_ (ι := Nat) (i := k) (k + 1) ?_ ?_ ?_ ?_
    ·omega
    ·exact (by omega)
    ·exact cv_
    ·rw [hkp]; exact Store.Wk.refl _
  ·replace hc5 := nm_ hc5
   refine av_ ?_
   refine af_ ?_
   refine af_ ?_
   refine aq_ ?_
   refine ab_ ?_
   obtain rfl : k = n := by omega
   refine aa_ kr_ ?_
   iterate 2 (refine aL_S rfl rfl v_ ?_)
   refine ac_ ?_
   refine aj_ ?_
   refine ai_ v_ (Store.Wk.refl _) ?_
   exact ⟨oa, hoa, rfl, by simp [aD_]⟩
theorem op_ {l : List Ent} {t : Bool} {n : Nat} {σ : Store} (h1 : 1 ≤ n) (hn : n ≤ 4096) (hl : l.length ≤ 1000000) (hs : ∀ x ∈ l, EntSm x) : ap_ Tryz.prog 95 [.sl 4 (l.map sEnt) t, vInt n] σ fun v σ' => v = .sl 1 ((aD_ l n).map vStr) false ∧ σ = σ' := by
 refine (qA_ h1 hn hl hs).aft ?_
 rintro κ a τ cv hI hr ⟨o, ho, rfl, rfl⟩
 have hlen : (aD_ l n).length = n := by simp [aD_]
 obtain ⟨κ', h1, h2, h3, h4⟩ := Ab.freeze hI hr (Store.set_get ..) (l := (aD_ l n).map vStr) (by rw [Nat.mul_one, List.take_of_length_le (by simp [hlen]), ie_]) (by simp [hlen]) fun x hx => by
  obtain ⟨z, _, rfl⟩ := List.mem_map.1 hx
  rfl
 rw [Store.set_del ho] at h3
 exact ⟨κ', _, _, h1, h2, h3, h4, rfl, rfl⟩
end Go.Proofs.YtkcmbjodladflaaGreatDoor
end

section
set_option linter.all false
set_option maxRecDepth 100000
namespace Go.Ab
structure Prp where
 n : Int
 r : Int
 w : Int
 pr : Int
 pw : Int
 sev : Bool
 mis : Bool
 bas : Bool
@[reducible] def sPrp (p : Prp) : AVal := .agg [vInt p.n, vInt p.r, vInt p.w, vInt p.pr, vInt p.pw, .lit (.bool p.sev), .lit (.bool p.mis), .lit (.bool p.bas)]
end Go.Ab
namespace Go.Proofs.YtkcmbjodladflaaGreatDoor
open Go.Ab
abbrev fdN : ByteArray := ⟨#[110]⟩
abbrev fdR : ByteArray := ⟨#[114]⟩
abbrev fdW : ByteArray := ⟨#[119]⟩
abbrev fdPr : ByteArray := ⟨#[112, 114]⟩
abbrev fdPw : ByteArray := ⟨#[112, 119]⟩
abbrev hg_ : ByteArray := ⟨#[115, 101, 118, 101, 114, 97, 108]⟩
abbrev hh_ : ByteArray := ⟨#[109, 105, 115, 115, 105, 110, 103]⟩
abbrev lm_ : ByteArray := ⟨#[98, 97, 115, 105, 99]⟩
def bdP (f : ByteArray) : Int × Int × Bool := if f = fdN ∨ f = fdR ∨ f = fdW then (1, 16, true) else if f = fdPr ∨ f = fdPw then (0, 16, true) else if f = hg_ ∨ f = hh_ ∨ f = lm_ then (0, 1, true) else (0, 0, false)
def mayP (f : ByteArray) (n : Int) : Bool := (bdP f).2.2 && decide ((bdP f).1 ≤ n) && decide (n ≤ (bdP f).2.1)
def prpK (a b f : ByteArray) : ByteArray := cM_ [jZ_, a, b, f]
theorem s7_ {f : ByteArray} {σ : Store} : ap_ Tryz.prog 147 [vStr f] σ fun v σ' => v = .tup [vInt (bdP f).1, vInt (bdP f).2.1, vB (bdP f).2.2] ∧ σ = σ' := by
 refine am_ Tryz.func147 rfl Tryz.ntmps147 (congrArg Array.toList Tryz.results147) (by simp only [List.length_cons, List.length_nil]; decide) ?_; simp only [ah_, al_, Nat.reduceAdd]
 refine ab_ ?_
 refine aa_ kr_ ?_
 iterate 3 (refine aL_S rfl rfl v_ ?_)
 refine ac_ ?_
 refine ab_ ?_
 refine ab_ ?_
 refine aa_ kr_ ?_
 (refine aL_S rfl rfl v_ ?_)
 refine ac_ ?_
 refine ak_ ?_
 refine bi_ (ι := Bool) (fun b => b = decide (f = fdN ∨ f = fdR ∨ f = fdW)) (fun b => [(5, vStr f), (6, vB b)]) (fun b => σ) ?_ ?_
 ·refine ab_ ?_
  refine aa_ kr_ ?_
  iterate 2 (refine aL_S rfl rfl v_ ?_)
  refine ac_ ?_
  refine ad_ v_ (fun hc2 => ?_) (fun hc2 => ?_)
  ·replace hc2 := nm_ hc2
   refine ae_ ?_
   refine ⟨decide (f = fdN), ?_, ?_, ?_⟩
   ·simp [show f = fdN from hc2]
   ·exact cv_
   ·exact sub_
  ·replace hc2 := nm_ hc2
   refine ab_ ?_
   refine aa_ kr_ ?_
   iterate 2 (refine aL_S rfl rfl v_ ?_)
   refine ac_ ?_
   refine ad_ v_ (fun hc3 => ?_) (fun hc3 => ?_)
   ·replace hc3 := nm_ hc3
    refine ae_ ?_
    refine ⟨decide (f = fdR), ?_, ?_, ?_⟩
    ·simp [show f = fdR from hc3]
    ·exact cv_
    ·exact sub_
   ·replace hc3 := nm_ hc3
    refine aa_ kr_ ?_
    iterate 2 (refine aL_S rfl rfl v_ ?_)
    refine ac_ ?_
    refine ⟨decide (f = fdW), ?_, ?_, ?_⟩
    ·simp [show ¬ f = fdN from hc2, show ¬ f = fdR from hc3]
    ·exact cv_
    ·exact sub_
 ·rintro b rfl
  simp only [ar_, as_]
  refine ad_ v_ (fun hc4 => ?_) (fun hc4 => ?_)
  ·replace hc4 := nm_ hc4
   refine ab_ ?_
   refine aa_ kr_ ?_
   iterate 3 (refine aL_S rfl rfl v_ ?_)
   refine ac_ ?_
   refine aj_ ?_
   refine ai_ (σ' := σ) v_ sub_ ?_
   exact ⟨by rw [bdP, if_pos hc4], rfl⟩
  ·replace hc4 := nm_ hc4
   refine bi_ (ι := Bool) (fun b => b = decide (f = fdPr ∨ f = fdPw)) (fun b => [(5, vStr f), (10, vB b)]) (fun b => σ) ?_ ?_
   ·refine ab_ ?_
    refine aa_ kr_ ?_
    iterate 2 (refine aL_S rfl rfl v_ ?_)
    refine ac_ ?_
    refine ad_ v_ (fun hc6 => ?_) (fun hc6 => ?_)
    ·replace hc6 := nm_ hc6
     refine ae_ ?_
     refine ⟨decide (f = fdPr), ?_, ?_, ?_⟩
     ·simp [show f = fdPr from hc6]
     ·exact cv_
     ·exact sub_
    ·replace hc6 := nm_ hc6
     refine aa_ kr_ ?_
     iterate 2 (refine aL_S rfl rfl v_ ?_)
     refine ac_ ?_
     refine ⟨decide (f = fdPw), ?_, ?_, ?_⟩
     ·simp [show ¬ f = fdPr from hc6]
     ·exact cv_
     ·exact sub_
   ·rintro b rfl
    simp only [ar_, as_]
    refine ad_ v_ (fun hc7 => ?_) (fun hc7 => ?_)
    ·replace hc7 := nm_ hc7
     refine ab_ ?_
     refine aa_ kr_ ?_
     iterate 3 (refine aL_S rfl rfl v_ ?_)
     refine ac_ ?_
     refine aj_ ?_
     refine ai_ (σ' := σ) v_ sub_ ?_
     exact ⟨by rw [bdP, if_neg hc4, if_pos hc7], rfl⟩
    ·replace hc7 := nm_ hc7
     refine bi_ (ι := Bool) (fun b => b = decide (f = hg_ ∨ f = hh_ ∨ f = lm_)) (fun b => [(5, vStr f), (13, vB b)]) (fun b => σ) ?_ ?_
     ·refine ab_ ?_
      refine aa_ kr_ ?_
      iterate 2 (refine aL_S rfl rfl v_ ?_)
      refine ac_ ?_
      refine ad_ v_ (fun hc9 => ?_) (fun hc9 => ?_)
      ·replace hc9 := nm_ hc9
       refine ae_ ?_
       refine ⟨decide (f = hg_), ?_, ?_, ?_⟩
       ·simp [show f = hg_ from hc9]
       ·exact cv_
       ·exact sub_
      ·replace hc9 := nm_ hc9
       refine ab_ ?_
       refine aa_ kr_ ?_
       iterate 2 (refine aL_S rfl rfl v_ ?_)
       refine ac_ ?_
       refine ad_ v_ (fun hc10 => ?_) (fun hc10 => ?_)
       ·replace hc10 := nm_ hc10
        refine ae_ ?_
        refine ⟨decide (f = hh_), ?_, ?_, ?_⟩
        ·simp [show f = hh_ from hc10]
        ·exact cv_
        ·exact sub_
       ·replace hc10 := nm_ hc10
        refine aa_ kr_ ?_
        iterate 2 (refine aL_S rfl rfl v_ ?_)
        refine ac_ ?_
        refine ⟨decide (f = lm_), ?_, ?_, ?_⟩
        ·simp [show ¬ f = hg_ from hc9, show ¬ f = hh_ from hc10]
        ·exact cv_
        ·exact sub_
     ·rintro b rfl
      simp only [ar_, as_]
      refine ad_ v_ (fun hc11 => ?_) (fun hc11 => ?_)
      ·replace hc11 := nm_ hc11
       refine ab_ ?_
       refine aa_ kr_ ?_
       iterate 3 (refine aL_S rfl rfl v_ ?_)
       refine ac_ ?_
       refine aj_ ?_
       refine ai_ (σ' := σ) v_ sub_ ?_
       exact ⟨by rw [bdP, if_neg hc4, if_neg hc7, if_pos hc11], rfl⟩
      ·replace hc11 := nm_ hc11
       refine ae_ ?_
       refine ab_ ?_
       refine aa_ kr_ ?_
       iterate 3 (refine aL_S rfl rfl v_ ?_)
       refine ac_ ?_
       refine aj_ ?_
       refine ai_ (σ' := σ) v_ sub_ ?_
       exact ⟨by rw [bdP, if_neg hc4, if_neg hc7, if_neg hc11], rfl⟩
theorem r8_ {f : ByteArray} {n : Int} {σ : Store} : ap_ Tryz.prog 89 [vStr f, vInt n] σ fun v σ' => v = vB (mayP f n) ∧ σ = σ' := by
 refine am_ Tryz.func89 rfl Tryz.ntmps89 (congrArg Array.toList Tryz.results89) (by simp only [List.length_cons, List.length_nil]; decide) ?_; simp only [ah_, al_, Nat.reduceAdd]
 refine ab_ ?_
 refine aa_ kr_ ?_
 (refine aL_S rfl rfl v_ ?_)
 refine ac_ ?_
 refine ab_ ?_
 refine aa_ kr_ ?_
 (refine aL_S rfl rfl v_ ?_)
 refine aL_X rfl rfl (ag_ rfl rfl (.inr ⟨rfl, rfl, rfl⟩) g_ va_ (s7_) ?_); rintro _ _ ⟨rfl, rfl⟩
 iterate 7 (refine aL_S rfl rfl v_ ?_)
 refine ac_ ?_
 refine ab_ ?_
 refine aa_ kr_ ?_
 iterate 2 (refine aL_S rfl rfl v_ ?_)
 refine aC_ rfl rfl v_ rfl vg_ ?_
 refine aC_ rfl rfl v_ rfl vg_ ?_
 refine aC_ rfl rfl v_ rfl vg_ ?_
 iterate 2 (refine aL_S rfl rfl v_ ?_)
 refine aC_ rfl rfl v_ rfl vg_ ?_
 refine aC_ rfl rfl v_ rfl vg_ ?_
 refine aC_ rfl rfl v_ rfl vg_ ?_
 iterate 2 (refine aL_S rfl rfl v_ ?_)
 refine ac_ ?_
 refine aj_ ?_
 refine ai_ (σ' := σ) v_ sub_ ?_
 exact ⟨rfl, rfl⟩
theorem nq_ {a b f : ByteArray} {σ : Store} (ha : a.size ≤ 200000) (hb : b.size ≤ 200000) (hf : f.size ≤ 200000) : ap_ Tryz.prog 90 [vStr a, vStr b, vStr f] σ fun v σ' => v = vStr (prpK a b f) ∧ σ = σ' := by
 refine am_ Tryz.func90 rfl Tryz.ntmps90 (congrArg Array.toList Tryz.results90) (by simp only [List.length_cons, List.length_nil]; decide) ?_; simp only [ah_, al_, Nat.reduceAdd]
 refine ab_ ?_
 refine aa_ kr_ ?_
 (refine aL_S rfl rfl v_ ?_)
 refine ac_ ?_
 refine ab_ ?_
 refine aa_ kr_ ?_
 iterate 3 (refine aL_S rfl rfl v_ ?_)
 refine au_ rfl rfl rfl g_ g_ rfl rfl h_ c2_ (by decide) ?_
 refine aL_X rfl rfl (ag_ rfl rfl (.inr ⟨rfl, rfl, rfl⟩) g_ va_ (gd_ (l := [jZ_, a, b, f]) (by simp) (by simp [aH_, show (Lb jZ_).length = 4 from rfl]; omega)) ?_); rintro _ _ ⟨rfl, rfl⟩
 (refine aL_S rfl rfl v_ ?_)
 refine ac_ ?_
 refine aj_ ?_
 refine ai_ (σ' := σ) v_ sub_ ?_
 exact ⟨rfl, rfl⟩
end Go.Proofs.YtkcmbjodladflaaGreatDoor
end

section
set_option linter.all false
set_option maxRecDepth 100000
namespace Go.Proofs.YtkcmbjodladflaaGreatDoor
open Go.Ab
theorem qz_ {k : Nat} (h : k < 20) : Lib.itoa (k : Int) = if k < 10 then [UInt8.ofNat (48 + k)] else [49, UInt8.ofNat (48 + k % 10)] := by
 rw [Lib.itoa_nonneg]
 by_cases h1 : k < 10
 ·rw [if_pos h1, ei_ h1]
 ·rw [if_neg h1, fA_ h1, ei_ (by omega), show k / 10 = 1 from by omega]; rfl
def gm_ (k : Nat) : ByteArray := cM_ [f6_, B (if k < 10 then [UInt8.ofNat (48 + k)] else [49, UInt8.ofNat (48 + k % 10)])]
theorem cD_ {k : Nat} (h : k < 20) : aY_ k = gm_ k := by rw [aY_, qz_ h]; rfl
def n0_ (l : List Ent) (k : Nat) : ByteArray := if aN_ (getS l (gm_ k)).value = true then (getS l (gm_ k)).value else ⟨#[]⟩
theorem sj_ {l : List Ent} {k : Nat} (h : k < 20) : ownK l k = n0_ l k := by rw [ownK, cD_ h]; rfl
theorem p3_ {l : List Ent} : aD_ l 16 = (List.range 16).map (n0_ l) := List.map_congr_left fun k hk => sj_ (by have := List.mem_range.1 hk; omega)
end Go.Proofs.YtkcmbjodladflaaGreatDoor
end
