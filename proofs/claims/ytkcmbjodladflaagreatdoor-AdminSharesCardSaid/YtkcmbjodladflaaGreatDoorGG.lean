/-
  Tenants: what is said of one, and the entries that say it. Both sides; What is said of a tenant; all tenants. Both sides; Rows that grow while other objects come and go (no deeds); All tenants. Both sides; What must come of tenants, whatever the arguments are; TenantOf, TenantSets: the walks; One entry more; TenantSound: the walk. Own work (an AI agent).
-/
import Derived.Test.YtkcmbjodladflaaGreatDoorGF
import Derived.Test.YtkcmbjodladflaaGreatDoorGE
import Derived.Test.YtkcmbjodladflaaGreatDoorGD

section
set_option linter.all false
set_option maxRecDepth 100000
namespace Go.Proofs.YtkcmbjodladflaaGreatDoor
open Go.Ab
theorem gd_ {l : List ByteArray} {t : Bool} {σ : Store} (hL : l.length ≤ 1000000) (hT : (l.flatMap Lb).length ≤ 1000000) : ap_ Tryz.prog 81 [.sl 1 (l.map vStr) t] σ fun v σ' => v = vStr (cM_ l) ∧ σ = σ' := by
 refine am_ Tryz.func81 rfl Tryz.ntmps81 (congrArg Array.toList Tryz.results81) (by simp only [List.length_cons, List.length_nil]; decide) ?_; simp only [ah_, al_, Nat.reduceAdd]
 refine ab_ ?_
 refine aa_ kr_ ?_
 (refine aL_S rfl rfl v_ ?_)
 refine ac_ ?_
 refine ab_ ?_
 refine aa_ kr_ ?_
 (refine aL_S rfl rfl v_ ?_)
 refine aL_X rfl rfl (ag_ rfl rfl (.inr ⟨rfl, rfl, rfl⟩) g_ va_ (pC_ hL hT) ?_); rintro _ _ ⟨rfl, rfl⟩
 (refine aL_S rfl rfl v_ ?_)
 refine ac_ ?_
 refine aj_ ?_
 refine ai_ (σ' := σ) v_ sub_ ?_
 exact ⟨rfl, rfl⟩
theorem sd_ {a f : ByteArray} {σ : Store} (ha : a.size ≤ 400000) (hf : f.size ≤ 400000) : ap_ Tryz.prog 86 [vStr a, vStr f] σ fun v σ' => v = vStr (keyS a f) ∧ σ = σ' := by
 refine am_ Tryz.func86 rfl Tryz.ntmps86 (congrArg Array.toList Tryz.results86) (by simp only [List.length_cons, List.length_nil]; decide) ?_; simp only [ah_, al_, Nat.reduceAdd]
 refine ab_ ?_
 refine aa_ kr_ ?_
 (refine aL_S rfl rfl v_ ?_)
 refine ac_ ?_
 refine ab_ ?_
 refine aa_ kr_ ?_
 iterate 2 (refine aL_S rfl rfl v_ ?_)
 refine au_ rfl rfl rfl g_ g_ rfl rfl h_ c2_ (by decide) ?_
 refine aL_X rfl rfl (ag_ rfl rfl (.inr ⟨rfl, rfl, rfl⟩) g_ va_ (gd_ (l := [eR_, a, f]) (by simp) (by simp [aH_, show (Lb eR_).length = 6 from rfl]; omega)) ?_); rintro _ _ ⟨rfl, rfl⟩
 (refine aL_S rfl rfl v_ ?_)
 refine ac_ ?_
 refine aj_ ?_
 refine ai_ (σ' := σ) v_ sub_ ?_
 exact ⟨rfl, rfl⟩
theorem py_ (a f : ByteArray) : (⟨#[116, 101, 110, 97, 110, 116, 47]⟩ ++ a) ++ ⟨#[47]⟩ ++ f = keyS a f := by
 apply dY_
 rw [qh_, a6_, a6_, a6_]
 simp [Lb, eR_]
theorem pm_ {a f : ByteArray} {σ : Store} (ha : a.size ≤ 400000) (hf : f.size ≤ 400000) : ap_ Tryz.prog 100 [vStr a, vStr f] σ fun v σ' => v = vStr (keyS a f) ∧ σ = σ' := by
 have e1 := a1_ (⟨#[116, 101, 110, 97, 110, 116, 47]⟩) a (by rw [show (ByteArray.mk #[116, 101, 110, 97, 110, 116, 47]).size = 7 from rfl]; omega)
 have e2 := a1_ (⟨#[116, 101, 110, 97, 110, 116, 47]⟩ ++ a) ⟨#[47]⟩ (by rw [ByteArray.size_append, show (ByteArray.mk #[116, 101, 110, 97, 110, 116, 47]).size = 7 from rfl, show (ByteArray.mk #[47]).size = 1 from rfl]; omega)
 have e3 := a1_ ((⟨#[116, 101, 110, 97, 110, 116, 47]⟩ ++ a) ++ ⟨#[47]⟩) f (by rw [ByteArray.size_append, ByteArray.size_append, show (ByteArray.mk #[116, 101, 110, 97, 110, 116, 47]).size = 7 from rfl, show (ByteArray.mk #[47]).size = 1 from rfl]; omega)
 refine am_ Tryz.func100 rfl Tryz.ntmps100 (congrArg Array.toList Tryz.results100) (by simp only [List.length_cons, List.length_nil]; decide) ?_; simp only [ah_, al_, Nat.reduceAdd]
 refine ab_ ?_
 refine aa_ kr_ ?_
 (refine aL_S rfl rfl v_ ?_)
 refine ac_ ?_
 refine ab_ ?_
 have R := And.intro e1 (And.intro e2 e3)
 refine aa_ kr_ ?_
 iterate 6 (refine aL_S rfl rfl v_ ?_)
 refine ac_ ?_
 refine aj_ ?_
 refine ai_ (σ' := σ) v_ sub_ ?_
 exact ⟨by rw [py_], rfl⟩
theorem k3_ {s : ByteArray} {σ : Store} : ap_ Tryz.prog 84 [vStr s] σ fun v σ' => v = vB (mw_ s) ∧ σ = σ' := by
 have h0 := ne0 s
 refine am_ Tryz.func84 rfl Tryz.ntmps84 (congrArg Array.toList Tryz.results84) (by simp only [List.length_cons, List.length_nil]; decide) ?_; simp only [ah_, al_, Nat.reduceAdd]
 refine ab_ ?_
 refine aa_ kr_ ?_
 (refine aL_S rfl rfl v_ ?_)
 refine ac_ ?_
 refine ab_ ?_
 have R := h0
 refine aa_ kr_ ?_
 iterate 3 (refine aL_S rfl rfl v_ ?_)
 refine aC_ rfl rfl v_ rfl vg_ ?_
 refine aC_ rfl rfl v_ rfl vg_ ?_
 refine aC_ rfl rfl v_ rfl vg_ ?_
 iterate 2 (refine aL_S rfl rfl v_ ?_)
 refine ac_ ?_
 refine aj_ ?_
 refine ai_ (σ' := σ) v_ sub_ ?_
 refine ⟨?_, rfl⟩
 unfold mw_
 by_cases h1 : s.size = 0 <;> by_cases h2 : s.size ≤ 64 <;> simp [h1, h2, h0] <;> omega
theorem ji_ {s : ByteArray} {σ : Store} : ap_ Tryz.prog 98 [vStr s] σ fun v σ' => v = vB (mw_ s) ∧ σ = σ' := by
 refine am_ Tryz.func98 rfl Tryz.ntmps98 (congrArg Array.toList Tryz.results98) (by simp only [List.length_cons, List.length_nil]; decide) ?_; simp only [ah_, al_, Nat.reduceAdd]
 refine ab_ ?_
 refine aa_ kr_ ?_
 (refine aL_S rfl rfl v_ ?_)
 refine ac_ ?_
 refine ab_ ?_
 refine aa_ kr_ ?_
 iterate 4 (refine aL_S rfl rfl v_ ?_)
 refine aC_ rfl rfl v_ rfl vg_ ?_
 refine aC_ rfl rfl v_ rfl vg_ ?_
 refine aC_ rfl rfl v_ rfl vg_ ?_
 iterate 2 (refine aL_S rfl rfl v_ ?_)
 refine ac_ ?_
 refine aj_ ?_
 refine ai_ (σ' := σ) v_ sub_ ?_
 refine ⟨?_, rfl⟩
 unfold mw_
 by_cases h1 : 1 ≤ s.size <;> by_cases h2 : s.size ≤ 64 <;> simp [h1, h2] <;> omega
theorem oF_ {f : ByteArray} {σ : Store} : ap_ Tryz.prog 87 [vStr f] σ fun v σ' => v = .tup [.agg [vInt (bndS f).1, vInt (bndS f).2.1], vB (bndS f).2.2] ∧ σ = σ' := by
 refine am_ Tryz.func87 rfl Tryz.ntmps87 (congrArg Array.toList Tryz.results87) (by simp only [List.length_cons, List.length_nil]; decide) ?_; simp only [ah_, al_, Nat.reduceAdd]
 refine ab_ ?_
 refine aa_ kr_ ?_
 refine aR_ rfl rfl rfl g_ gl_ fun o2 ho2 => ?_
 repeat (rw [an_] at ho2; obtain ⟨_, ho2⟩ := ho2)
 (refine aL_S rfl rfl v_ ?_)
 refine ac_ ?_
 refine ab_ ?_
 refine ab_ ?_
 refine aa_ kr_ ?_
 (refine aL_S rfl rfl v_ ?_)
 refine ac_ ?_
 refine ak_ ?_
 refine ab_ ?_
 refine aa_ kr_ ?_
 iterate 2 (refine aL_S rfl rfl v_ ?_)
 refine ac_ ?_
 refine ad_ v_ (fun hc2 => ?_) (fun hc2 => ?_)
 ·replace hc2 := nm_ hc2
  refine ab_ ?_
  refine aa_ kr_ ?_
  (refine aL_S rfl rfl v_ ?_)
  refine ax_ rfl rfl rfl v_ v_ h_ g_ rfl g_ c_ (by rfl) le_ v_ ?_
  (refine aL_S rfl rfl v_ ?_)
  refine ac_ ?_
  refine aj_ ?_
  refine ai_ (σ' := σ) v_ sub_ ?_
  exact ⟨by rw [bndS, if_pos (show f = cN_ from hc2)], rfl⟩
 ·replace hc2 := nm_ hc2
  refine ab_ ?_
  refine aa_ kr_ ?_
  iterate 2 (refine aL_S rfl rfl v_ ?_)
  refine ac_ ?_
  refine ad_ v_ (fun hc4 => ?_) (fun hc4 => ?_)
  ·replace hc4 := nm_ hc4
   refine ab_ ?_
   refine aa_ kr_ ?_
   (refine aL_S rfl rfl v_ ?_)
   refine ax_ rfl rfl rfl v_ v_ h_ g_ rfl g_ c_ (by rfl) le_ v_ ?_
   (refine aL_S rfl rfl v_ ?_)
   refine ac_ ?_
   refine aj_ ?_
   refine ai_ (σ' := σ) v_ sub_ ?_
   exact ⟨by rw [bndS, if_neg (show ¬ f = cN_ from hc2), if_pos (show f = ey_ from hc4)], rfl⟩
  ·replace hc4 := nm_ hc4
   refine ab_ ?_
   refine aa_ kr_ ?_
   iterate 2 (refine aL_S rfl rfl v_ ?_)
   refine ac_ ?_
   refine ad_ v_ (fun hc6 => ?_) (fun hc6 => ?_)
   ·replace hc6 := nm_ hc6
    refine ab_ ?_
    refine aa_ kr_ ?_
    (refine aL_S rfl rfl v_ ?_)
    refine ax_ rfl rfl rfl v_ v_ h_ g_ rfl g_ c_ (by rfl) le_ v_ ?_
    (refine aL_S rfl rfl v_ ?_)
    refine ac_ ?_
    refine aj_ ?_
    refine ai_ (σ' := σ) v_ sub_ ?_
    exact ⟨by rw [bndS, if_neg (show ¬ f = cN_ from hc2), if_neg (show ¬ f = ey_ from hc4), if_pos (show f = eo_ from hc6)], rfl⟩
   ·replace hc6 := nm_ hc6
    refine ab_ ?_
    refine aa_ kr_ ?_
    iterate 2 (refine aL_S rfl rfl v_ ?_)
    refine ac_ ?_
    refine ad_ v_ (fun hc8 => ?_) (fun hc8 => ?_)
    ·replace hc8 := nm_ hc8
     refine ab_ ?_
     refine aa_ kr_ ?_
     (refine aL_S rfl rfl v_ ?_)
     refine ax_ rfl rfl rfl v_ v_ h_ g_ rfl g_ c_ (by rfl) le_ v_ ?_
     (refine aL_S rfl rfl v_ ?_)
     refine ac_ ?_
     refine aj_ ?_
     refine ai_ (σ' := σ) v_ sub_ ?_
     exact ⟨by rw [bndS, if_neg (show ¬ f = cN_ from hc2), if_neg (show ¬ f = ey_ from hc4), if_neg (show ¬ f = eo_ from hc6), if_pos (show f = fP_ from hc8)], rfl⟩
    ·replace hc8 := nm_ hc8
     refine ae_ ?_
     refine ab_ ?_
     refine aa_ kr_ ?_
     (refine aL_S rfl rfl v_ ?_)
     refine ax_ rfl rfl rfl v_ v_ h_ g_ rfl g_ c_ (by rfl) le_ v_ ?_
     (refine aL_S rfl rfl v_ ?_)
     refine ac_ ?_
     refine aj_ ?_
     refine ai_ (σ' := σ) v_ sub_ ?_
     exact ⟨by rw [bndS, if_neg (show ¬ f = cN_ from hc2), if_neg (show ¬ f = ey_ from hc4), if_neg (show ¬ f = eo_ from hc6), if_neg (show ¬ f = fP_ from hc8)], rfl⟩
theorem mi_ {f : ByteArray} {σ : Store} : ap_ Tryz.prog 101 [vStr f] σ fun v σ' => v = .tup [vInt (if (bndS f).2.2 then (bndS f).1 else -1), vInt (bndS f).2.1] ∧ σ = σ' := by
 refine am_ Tryz.func101 rfl Tryz.ntmps101 (congrArg Array.toList Tryz.results101) (by simp only [List.length_cons, List.length_nil]; decide) ?_; simp only [ah_, al_, Nat.reduceAdd]
 refine ab_ ?_
 refine aa_ kr_ ?_
 iterate 2 (refine aL_S rfl rfl v_ ?_)
 refine ac_ ?_
 refine ab_ ?_
 refine ab_ ?_
 refine aa_ kr_ ?_
 (refine aL_S rfl rfl v_ ?_)
 refine ac_ ?_
 refine ak_ ?_
 refine ab_ ?_
 refine aa_ kr_ ?_
 iterate 2 (refine aL_S rfl rfl v_ ?_)
 refine ac_ ?_
 refine ad_ v_ (fun hc2 => ?_) (fun hc2 => ?_)
 ·replace hc2 := nm_ hc2
  refine ab_ ?_
  refine aa_ kr_ ?_
  iterate 2 (refine aL_S rfl rfl v_ ?_)
  refine ac_ ?_
  refine aj_ ?_
  refine ai_ (σ' := σ) v_ sub_ ?_
  exact ⟨by rw [bndS, if_pos (show f = cN_ from hc2)]; rfl, rfl⟩
 ·replace hc2 := nm_ hc2
  refine ab_ ?_
  refine aa_ kr_ ?_
  iterate 2 (refine aL_S rfl rfl v_ ?_)
  refine ac_ ?_
  refine ad_ v_ (fun hc4 => ?_) (fun hc4 => ?_)
  ·replace hc4 := nm_ hc4
   refine ab_ ?_
   refine aa_ kr_ ?_
   iterate 2 (refine aL_S rfl rfl v_ ?_)
   refine ac_ ?_
   refine aj_ ?_
   refine ai_ (σ' := σ) v_ sub_ ?_
   exact ⟨by rw [bndS, if_neg (show ¬ f = cN_ from hc2), if_pos (show f = ey_ from hc4)]; rfl, rfl⟩
  ·replace hc4 := nm_ hc4
   refine ab_ ?_
   refine aa_ kr_ ?_
   iterate 2 (refine aL_S rfl rfl v_ ?_)
   refine ac_ ?_
   refine ad_ v_ (fun hc6 => ?_) (fun hc6 => ?_)
   ·replace hc6 := nm_ hc6
    refine ab_ ?_
    refine aa_ kr_ ?_
    iterate 2 (refine aL_S rfl rfl v_ ?_)
    refine ac_ ?_
    refine aj_ ?_
    refine ai_ (σ' := σ) v_ sub_ ?_
    exact ⟨by rw [bndS, if_neg (show ¬ f = cN_ from hc2), if_neg (show ¬ f = ey_ from hc4), if_pos (show f = eo_ from hc6)]; rfl, rfl⟩
   ·replace hc6 := nm_ hc6
    refine ab_ ?_
    refine aa_ kr_ ?_
    iterate 2 (refine aL_S rfl rfl v_ ?_)
    refine ac_ ?_
    refine ad_ v_ (fun hc8 => ?_) (fun hc8 => ?_)
    ·replace hc8 := nm_ hc8
     refine ab_ ?_
     refine aa_ kr_ ?_
     iterate 2 (refine aL_S rfl rfl v_ ?_)
     refine ac_ ?_
     refine aj_ ?_
     refine ai_ (σ' := σ) v_ sub_ ?_
     exact ⟨by rw [bndS, if_neg (show ¬ f = cN_ from hc2), if_neg (show ¬ f = ey_ from hc4), if_neg (show ¬ f = eo_ from hc6), if_pos (show f = fP_ from hc8)]; rfl, rfl⟩
    ·replace hc8 := nm_ hc8
     refine ae_ ?_
     refine ab_ ?_
     refine aa_ kr_ ?_
     iterate 2 (refine aL_S rfl rfl v_ ?_)
     refine ac_ ?_
     refine aj_ ?_
     refine ai_ (σ' := σ) v_ sub_ ?_
     exact ⟨by rw [bndS, if_neg (show ¬ f = cN_ from hc2), if_neg (show ¬ f = ey_ from hc4), if_neg (show ¬ f = eo_ from hc6), if_neg (show ¬ f = fP_ from hc8)]; rfl, rfl⟩
theorem oz_ {l : List Ent} {t : Bool} {who a s : ByteArray} {σ : Store} (hs : ∀ x ∈ l, EntSm x) (hl : l.length ≤ 1000000) (h2 : who.size ≤ 1000000) (h3 : a.size ≤ 400000) : ap_ Tryz.prog 34 [.sl 4 (l.map sEnt) t, vStr who, vStr a, vStr s] σ fun r σ' => r = .tup [sEnt (secS l who a s).1, vInt (secS l who a s).2] ∧ σ = σ' := by
 refine am_ Tryz.func34 rfl Tryz.ntmps34 (congrArg Array.toList Tryz.results34) (by simp only [List.length_cons, List.length_nil]; decide) ?_; simp only [ah_, al_, Nat.reduceAdd]
 refine ab_ ?_
 refine aa_ kr_ ?_
 refine aR_ rfl rfl rfl g_ gl_ fun o8 ho8 => ?_
 repeat (rw [an_] at ho8; obtain ⟨_, ho8⟩ := ho8)
 (refine aL_S rfl rfl v_ ?_)
 refine ac_ ?_
 refine ab_ ?_
 refine ab_ ?_
 refine aa_ kr_ ?_
 (refine aL_S rfl rfl v_ ?_)
 refine aL_X rfl rfl (ag_ rfl rfl (.inr ⟨rfl, rfl, rfl⟩) g_ va_ (br_ (by omega)) ?_); rintro _ _ ⟨rfl, rfl⟩
 iterate 2 (refine aL_S rfl rfl v_ ?_)
 refine aw_ rfl rfl v_ rfl vg_ ?_
 refine bs_ rfl rfl v_ rfl (fun hb => aG_ (by rfl) (by rfl) (.inr ⟨by rfl, by rfl, by rfl⟩) g_ cg_ (k3_)) ?_
 refine aw_ rfl rfl v_ rfl vg_ ?_
 (refine aL_S rfl rfl v_ ?_)
 refine ac_ ?_
 refine ad_ v_ (fun hc1 => ?_) (fun hc1 => ?_)
 ·replace hc1 := nm_ hc1
  refine ab_ ?_
  refine aa_ kr_ ?_
  (refine aL_S rfl rfl v_ ?_)
  refine ax_ rfl rfl rfl v_ v_ h_ g_ rfl g_ c_ (by rfl) le_ v_ ?_
  (refine aL_S rfl rfl v_ ?_)
  refine ac_ ?_
  refine aj_ ?_
  refine ai_ (σ' := σ) v_ sub_ ?_
  exact ⟨by rw [secS, if_pos (by rcases hc1 with h | h <;> simp [h])]; rfl, rfl⟩
 ·replace hc1 := nm_ hc1
  refine ae_ ?_
  refine ab_ ?_
  refine aa_ kr_ ?_
  iterate 3 (refine aL_S rfl rfl v_ ?_)
  refine aL_X rfl rfl (ag_ rfl rfl (.inr ⟨rfl, rfl, rfl⟩) g_ va_ (sd_ (f := g7_) (by omega) (by decide)) ?_); rintro _ _ ⟨rfl, rfl⟩
  (refine aL_S rfl rfl v_ ?_)
  refine aL_X rfl rfl (ag_ rfl rfl (.inr ⟨rfl, rfl, rfl⟩) g_ va_ (lZ_ hs hl h2) ?_); rintro _ _ ⟨rfl, rfl⟩
  iterate 2 (refine aL_S rfl rfl v_ ?_)
  refine ax_ rfl rfl rfl v_ v_ h_ g_ rfl g_ c_ (by rfl) le_ v_ ?_
  (refine aL_S rfl rfl v_ ?_)
  refine ac_ ?_
  refine aj_ ?_
  refine ai_ (σ' := σ) v_ sub_ ?_
  exact ⟨by rw [secS, if_neg (by simp [hc1.1, hc1.2])], rfl⟩
theorem nb_ {l : List Ent} {t : Bool} {who a s : ByteArray} {σ : Store} (hs : ∀ x ∈ l, EntSm x) (hl : l.length ≤ 1000000) (h2 : who.size ≤ 1000000) (h3 : a.size ≤ 400000) : ap_ Tryz.prog 42 [.sl 4 (l.map sEnt) t, vStr who, vStr a, vStr s] σ fun r σ' => r = .tup [sEnt (secS l who a s).1, vInt (secS l who a s).2] ∧ σ = σ' := by
 refine am_ Tryz.func42 rfl Tryz.ntmps42 (congrArg Array.toList Tryz.results42) (by simp only [List.length_cons, List.length_nil]; decide) ?_; simp only [ah_, al_, Nat.reduceAdd]
 refine ab_ ?_
 refine aa_ kr_ ?_
 refine aR_ rfl rfl rfl g_ gl_ fun o8 ho8 => ?_
 repeat (rw [an_] at ho8; obtain ⟨_, ho8⟩ := ho8)
 (refine aL_S rfl rfl v_ ?_)
 refine ac_ ?_
 refine ab_ ?_
 refine ab_ ?_
 refine aa_ kr_ ?_
 (refine aL_S rfl rfl v_ ?_)
 refine aL_X rfl rfl (ag_ rfl rfl (.inr ⟨rfl, rfl, rfl⟩) g_ va_ (du_ (by omega)) ?_); rintro _ _ ⟨rfl, rfl⟩
 iterate 2 (refine aL_S rfl rfl v_ ?_)
 refine aw_ rfl rfl v_ rfl vg_ ?_
 refine bs_ rfl rfl v_ rfl (fun hb => aG_ (by rfl) (by rfl) (.inr ⟨by rfl, by rfl, by rfl⟩) g_ cg_ (ji_)) ?_
 refine aw_ rfl rfl v_ rfl vg_ ?_
 (refine aL_S rfl rfl v_ ?_)
 refine ac_ ?_
 refine ad_ v_ (fun hc1 => ?_) (fun hc1 => ?_)
 ·replace hc1 := nm_ hc1
  refine ab_ ?_
  refine aa_ kr_ ?_
  (refine aL_S rfl rfl v_ ?_)
  refine ax_ rfl rfl rfl v_ v_ h_ g_ rfl g_ c_ (by rfl) le_ v_ ?_
  (refine aL_S rfl rfl v_ ?_)
  refine ac_ ?_
  refine aj_ ?_
  refine ai_ (σ' := σ) v_ sub_ ?_
  exact ⟨by rw [secS, if_pos (by rcases hc1 with h | h <;> simp [h])]; rfl, rfl⟩
 ·replace hc1 := nm_ hc1
  refine ae_ ?_
  refine ab_ ?_
  refine aa_ kr_ ?_
  iterate 3 (refine aL_S rfl rfl v_ ?_)
  refine aL_X rfl rfl (ag_ rfl rfl (.inr ⟨rfl, rfl, rfl⟩) g_ va_ (pm_ (f := g7_) (by omega) (by decide)) ?_); rintro _ _ ⟨rfl, rfl⟩
  (refine aL_S rfl rfl v_ ?_)
  refine aL_X rfl rfl (ag_ rfl rfl (.inr ⟨rfl, rfl, rfl⟩) g_ va_ (eK_ hs hl h2) ?_); rintro _ _ ⟨rfl, rfl⟩
  iterate 2 (refine aL_S rfl rfl v_ ?_)
  refine ax_ rfl rfl rfl v_ v_ h_ g_ rfl g_ c_ (by rfl) le_ v_ ?_
  (refine aL_S rfl rfl v_ ?_)
  refine ac_ ?_
  refine aj_ ?_
  refine ai_ (σ' := σ) v_ sub_ ?_
  exact ⟨by rw [secS, if_neg (by simp [hc1.1, hc1.2])], rfl⟩
theorem qr_ {l : List Ent} {t : Bool} {who a f : ByteArray} {n : Int} {σ : Store} (hs : ∀ x ∈ l, EntSm x) (hl : l.length ≤ 1000000) (h2 : who.size ≤ 1000000) (h3 : a.size ≤ 400000) (h4 : f.size ≤ 400000) (h0 : -9223372036854775808 ≤ n) (h1 : n ≤ 9223372036854775807) : ap_ Tryz.prog 35 [.sl 4 (l.map sEnt) t, vStr who, vStr a, vStr f, vInt n] σ fun r σ' => r = .tup [sEnt (c9_ l who a f n).1, vInt (c9_ l who a f n).2] ∧ σ = σ' := by
 refine am_ Tryz.func35 rfl Tryz.ntmps35 (congrArg Array.toList Tryz.results35) (by simp only [List.length_cons, List.length_nil]; decide) ?_; simp only [ah_, al_, Nat.reduceAdd]
 refine ab_ ?_
 refine aa_ kr_ ?_
 refine aR_ rfl rfl rfl g_ gl_ fun o10 ho10 => ?_
 repeat (rw [an_] at ho10; obtain ⟨_, ho10⟩ := ho10)
 (refine aL_S rfl rfl v_ ?_)
 refine ac_ ?_
 refine ab_ ?_
 refine aa_ kr_ ?_
 (refine aL_S rfl rfl v_ ?_)
 refine aL_X rfl rfl (ag_ rfl rfl (.inr ⟨rfl, rfl, rfl⟩) g_ va_ (oF_) ?_); rintro _ _ ⟨rfl, rfl⟩
 iterate 3 (refine aL_S rfl rfl v_ ?_)
 refine aR_ rfl rfl rfl g_ gl_ fun o12 ho12 => ?_
 repeat (rw [an_] at ho12; obtain ⟨_, ho12⟩ := ho12)
 refine ax_ rfl rfl rfl v_ v_ h_ g_ rfl g_ c_ (by rfl) le_ v_ ?_
 (refine aL_S rfl rfl v_ ?_)
 refine ac_ ?_
 refine ab_ ?_
 refine ab_ ?_
 refine aa_ kr_ ?_
 (refine aL_S rfl rfl v_ ?_)
 refine aL_X rfl rfl (ag_ rfl rfl (.inr ⟨rfl, rfl, rfl⟩) g_ va_ (br_ (by omega)) ?_); rintro _ _ ⟨rfl, rfl⟩
 iterate 2 (refine aL_S rfl rfl v_ ?_)
 refine aw_ rfl rfl v_ rfl vg_ ?_
 refine aw_ rfl rfl v_ rfl vg_ ?_
 iterate 2 (refine aL_S rfl rfl v_ ?_)
 refine aw_ rfl rfl v_ rfl vg_ ?_
 refine aw_ rfl rfl v_ rfl vg_ ?_
 iterate 2 (refine aL_S rfl rfl v_ ?_)
 refine aw_ rfl rfl v_ rfl vg_ ?_
 refine aw_ rfl rfl v_ rfl vg_ ?_
 refine aw_ rfl rfl v_ rfl vg_ ?_
 refine aw_ rfl rfl v_ rfl vg_ ?_
 (refine aL_S rfl rfl v_ ?_)
 refine ac_ ?_
 refine ad_ v_ (fun hc2 => ?_) (fun hc2 => ?_)
 ·replace hc2 := nm_ hc2
  refine ab_ ?_
  refine aa_ kr_ ?_
  (refine aL_S rfl rfl v_ ?_)
  refine ax_ rfl rfl rfl v_ v_ h_ g_ rfl g_ c_ (by rfl) le_ v_ ?_
  (refine aL_S rfl rfl v_ ?_)
  refine ac_ ?_
  refine aj_ ?_
  refine ai_ (σ' := σ) v_ sub_ ?_
  exact ⟨by rw [c9_, if_pos (by rcases hc2 with ((h | h) | h) | h <;> simp [h])]; rfl, rfl⟩
 ·replace hc2 := nm_ hc2
  refine ae_ ?_
  refine ab_ ?_
  refine aa_ kr_ ?_
  iterate 4 (refine aL_S rfl rfl v_ ?_)
  refine aL_X rfl rfl (ag_ rfl rfl (.inr ⟨rfl, rfl, rfl⟩) g_ va_ (sd_ (by omega) (by omega)) ?_); rintro _ _ ⟨rfl, rfl⟩
  (refine aL_S rfl rfl v_ ?_)
  refine aL_X rfl rfl (ag_ rfl rfl (.inr ⟨rfl, rfl, rfl⟩) g_ va_ (pw_ h0 h1) ?_); rintro _ _ ⟨rfl, rfl⟩
  refine aL_X rfl rfl (ag_ rfl rfl (.inr ⟨rfl, rfl, rfl⟩) g_ va_ (lZ_ hs hl h2) ?_); rintro _ _ ⟨rfl, rfl⟩
  iterate 2 (refine aL_S rfl rfl v_ ?_)
  refine ax_ rfl rfl rfl v_ v_ h_ g_ rfl g_ c_ (by rfl) le_ v_ ?_
  (refine aL_S rfl rfl v_ ?_)
  refine ac_ ?_
  refine aj_ ?_
  refine ai_ (σ' := σ) v_ sub_ ?_
  exact ⟨by rw [c9_, if_neg (by obtain ⟨⟨⟨h1, h2⟩, h3⟩, h4⟩ := hc2; simp [h1, h2]; omega)], rfl⟩
theorem oe_ {l : List Ent} {t : Bool} {who a f : ByteArray} {n : Int} {σ : Store} (hs : ∀ x ∈ l, EntSm x) (hl : l.length ≤ 1000000) (h2 : who.size ≤ 1000000) (h3 : a.size ≤ 400000) (h4 : f.size ≤ 400000) (h0 : -9223372036854775808 ≤ n) (h1 : n ≤ 9223372036854775807) : ap_ Tryz.prog 43 [.sl 4 (l.map sEnt) t, vStr who, vStr a, vStr f, vInt n] σ fun r σ' => r = .tup [sEnt (c9_ l who a f n).1, vInt (c9_ l who a f n).2] ∧ σ = σ' := by
 refine am_ Tryz.func43 rfl Tryz.ntmps43 (congrArg Array.toList Tryz.results43) (by simp only [List.length_cons, List.length_nil]; decide) ?_; simp only [ah_, al_, Nat.reduceAdd]
 refine ab_ ?_
 refine aa_ kr_ ?_
 refine aR_ rfl rfl rfl g_ gl_ fun o10 ho10 => ?_
 repeat (rw [an_] at ho10; obtain ⟨_, ho10⟩ := ho10)
 (refine aL_S rfl rfl v_ ?_)
 refine ac_ ?_
 refine ab_ ?_
 refine aa_ kr_ ?_
 (refine aL_S rfl rfl v_ ?_)
 refine aL_X rfl rfl (ag_ rfl rfl (.inr ⟨rfl, rfl, rfl⟩) g_ va_ (mi_) ?_); rintro _ _ ⟨rfl, rfl⟩
 iterate 5 (refine aL_S rfl rfl v_ ?_)
 refine ac_ ?_
 refine ab_ ?_
 refine ab_ ?_
 refine aa_ kr_ ?_
 (refine aL_S rfl rfl v_ ?_)
 refine aL_X rfl rfl (ag_ rfl rfl (.inr ⟨rfl, rfl, rfl⟩) g_ va_ (du_ (by omega)) ?_); rintro _ _ ⟨rfl, rfl⟩
 iterate 2 (refine aL_S rfl rfl v_ ?_)
 refine aw_ rfl rfl v_ rfl vg_ ?_
 refine aw_ rfl rfl v_ rfl vg_ ?_
 iterate 2 (refine aL_S rfl rfl v_ ?_)
 refine aw_ rfl rfl v_ rfl vg_ ?_
 refine aw_ rfl rfl v_ rfl vg_ ?_
 refine aw_ rfl rfl v_ rfl vg_ ?_
 (refine aL_S rfl rfl v_ ?_)
 refine ac_ ?_
 refine ad_ v_ (fun hc2 => ?_) (fun hc2 => ?_)
 ·replace hc2 := nm_ hc2
  refine ab_ ?_
  refine aa_ kr_ ?_
  (refine aL_S rfl rfl v_ ?_)
  refine ax_ rfl rfl rfl v_ v_ h_ g_ rfl g_ c_ (by rfl) le_ v_ ?_
  (refine aL_S rfl rfl v_ ?_)
  refine ac_ ?_
  refine aj_ ?_
  refine ai_ (σ' := σ) v_ sub_ ?_
  exact ⟨by rw [c9_, if_pos (by cases hb : (bndS f).2.2 <;> simp [hb] at hc2 ⊢ <;> (rcases hc2 with (h | h) | h <;> simp [h]))]; rfl, rfl⟩
 ·replace hc2 := nm_ hc2
  refine ae_ ?_
  refine ab_ ?_
  refine aa_ kr_ ?_
  iterate 4 (refine aL_S rfl rfl v_ ?_)
  refine aL_X rfl rfl (ag_ rfl rfl (.inr ⟨rfl, rfl, rfl⟩) g_ va_ (pm_ (by omega) (by omega)) ?_); rintro _ _ ⟨rfl, rfl⟩
  (refine aL_S rfl rfl v_ ?_)
  refine aL_X rfl rfl (ag_ rfl rfl (.inr ⟨rfl, rfl, rfl⟩) g_ va_ (mL_ h0 h1) ?_); rintro _ _ ⟨rfl, rfl⟩
  refine aL_X rfl rfl (ag_ rfl rfl (.inr ⟨rfl, rfl, rfl⟩) g_ va_ (eK_ hs hl h2) ?_); rintro _ _ ⟨rfl, rfl⟩
  iterate 2 (refine aL_S rfl rfl v_ ?_)
  refine ax_ rfl rfl rfl v_ v_ h_ g_ rfl g_ c_ (by rfl) le_ v_ ?_
  (refine aL_S rfl rfl v_ ?_)
  refine ac_ ?_
  refine aj_ ?_
  refine ai_ (σ' := σ) v_ sub_ ?_
  exact ⟨by rw [c9_, if_neg (by cases hb : (bndS f).2.2 <;> simp [hb] at hc2 ⊢ <;> first | omega | (obtain ⟨⟨h1, h2⟩, h3⟩ := hc2; simp [h1]; omega))], rfl⟩
end Go.Proofs.YtkcmbjodladflaaGreatDoor
end

section
set_option linter.all false
set_option maxRecDepth 100000
namespace Go.Proofs.YtkcmbjodladflaaGreatDoor
open Go.Ab
end Go.Proofs.YtkcmbjodladflaaGreatDoor
end

section
set_option linter.all false
set_option maxRecDepth 100000
namespace Go.Ab
theorem eb_ {P : Program} {o : Oper} {α : Operand → AVal} {σ : Store} {a a' : AVal} {Kk : AVal → Store → Prop} (h : AOp P o α σ fun v τ => v = a ∧ τ = σ) (hw : Wk a a') (hk : Kk a' σ) : AOp P o α σ Kk :=
 fun κ ev hI hx => (h κ ev hI hx).mono fun v w ⟨κ', b, τ, h1, h2, h3, h4, hb, hτ⟩ => by
  subst hb; subst hτ
  exact ⟨κ', a', τ, h1, h2, h3, h4.wk hw, hk⟩
end Go.Ab
namespace Go.Proofs.YtkcmbjodladflaaGreatDoor
open Go.Ab
theorem kc_ {σ : Store} {i j : Nat} {x y : AObj} (h : i ≠ j) : (σ.set i x).set j y = (σ.set j y).set i x := by
 unfold Store.set
 congr 1
 funext k
 by_cases h1 : k = j
 ·subst h1; simp [Ne.symm h]
 ·by_cases h2 : k = i
  ·subst h2; simp [h]
  ·simp [h1, h2]
theorem pJ_ {σ0 σ : Store} {sz : Nat} {l : List AVal} {a : AVal} (h : CBp σ0 σ sz l a) {i : Nat} {x : AObj} (hi : σ.heap i = none) : CBp (σ0.set i x) (σ.set i x) sz l a := by
 rcases h with ⟨h1, h2, rfl⟩ | ⟨o, ho, h1, rfl⟩
 ·exact .inl ⟨h1, h2, rfl⟩
 ·have hne : i ≠ o := fun hh => by rw [hh, Store.set_get] at hi; cases hi
  exact .inr ⟨o, by rw [Store.set_ne _ _ (Ne.symm hne)]; exact ho, h1, kc_ (Ne.symm hne)⟩
theorem dn_ {σ0 σ : Store} {sz : Nat} {l : List AVal} {a : AVal} (h : CBp σ0 σ sz l a) {i : Nat} {x y : AObj} (hi : σ.heap i = none) : CBp (σ0.set i y) ((σ.set i x).set i y) sz l a := by
 rw [Store.set_set]; exact pJ_ h hi
theorem cx_ {σ σ' : Store} {sz : Nat} {l : List AVal} {a : AVal} {i : Nat} {y : AObj} (h : CBp (σ.set i y) σ' sz l a) (hi : σ.heap i = none) : ∃ τ, CBp σ τ sz l a ∧ τ.Sub σ' := by
 have hsub : ∀ τ : Store, τ.heap i = none → τ.Sub (τ.set i y) := fun τ hτ => ⟨fun j x hx => by rw [Store.set_ne _ _ (fun hh => by rw [hh, hτ] at hx; cases hx)]; exact hx, fun _ _ h => h⟩
 rcases h with ⟨h1, h2, rfl⟩ | ⟨o, ho, h1, rfl⟩
 ·exact ⟨σ, .inl ⟨h1, h2, rfl⟩, hsub σ hi⟩
 ·have hne : o ≠ i := fun hh => by rw [hh, Store.set_get] at ho; cases ho
  rw [Store.set_ne _ _ hne] at ho
  refine ⟨σ.set o (.cells (flat l)), .inr ⟨o, ho, h1, rfl⟩, ?_⟩
  rw [kc_ (Ne.symm hne)]
  exact hsub _ (by rw [Store.set_ne _ _ (Ne.symm hne)]; exact hi)
theorem fJ_ {P : Program} {f : FuncId} {args : List AVal} {σ : Store} {sz : Nat} {l : List AVal} (h : ap_ P f args σ fun v σ' => ∃ σ1, CBp σ1 σ' sz l v ∧ σ.Sub σ1) (hs : ∀ x ∈ l, x.cells.length = sz) : ap_ P f args σ fun v σ' => v = .sl sz l false ∧ σ = σ' := by
 refine h.after ?_
 rintro κ a σ' cv hI hr ⟨σ1, hC, hsub⟩
 rcases hC with ⟨rfl, rfl, rfl⟩ | ⟨o, ho, rfl, rfl⟩
 ·exact ⟨κ, _, _, rfl, .refl κ, hI.sub hsub, hr.wk (.nil sz false), rfl, rfl⟩
 ·obtain ⟨κ', h1, h2, h3, h4⟩ := Ab.freeze hI hr (Store.set_get ..) (l := l) (by rw [List.take_of_length_le (by rw [aS_ hs]; exact Nat.le_refl _)]) rfl hs
  rw [Store.set_del ho] at h3
  exact ⟨κ', _, _, h1, h2, h3.sub hsub, h4, rfl, rfl⟩
theorem cL_ {σ0 σ : Store} {sz : Nat} {l : List AVal} {a : AVal} (h : CBp σ0 σ sz l a) {i : Nat} (hi : σ.heap i = none) : σ0.heap i = none := by
 cases hh : σ0.heap i with
 |none => rfl
 |some y => have := h.sub.heap i y hh; rw [hi] at this; cases this
end Go.Proofs.YtkcmbjodladflaaGreatDoor
end

section
set_option linter.all false
set_option maxRecDepth 100000
namespace Go.Proofs.YtkcmbjodladflaaGreatDoor
open Go.Ab
theorem oZ_ {α : Type} [Inhabited α] (l : List α) (k : Nat) : ∃ x : α, k < l.length → l[k]? = some x := by
 by_cases h : k < l.length
 ·exact ⟨l[k], fun _ => List.getElem?_eq_getElem h⟩
 ·exact ⟨default, fun h' => absurd h' h⟩
def hpS (s p : ByteArray) : Bool := decide (p.size ≤ s.size) && decide (s.extract 0 p.size = p)
theorem eW_ {s p : ByteArray} {σ : Store} : ap_ Tryz.prog 203 [vStr s, vStr p] σ fun v σ' => v = vB (hpS s p) ∧ σ = σ' := by
 refine am_ Tryz.func203 rfl Tryz.ntmps203 (congrArg Array.toList Tryz.results203) (by simp only [List.length_cons, List.length_nil]; decide) ?_; simp only [ah_, al_, Nat.reduceAdd]
 refine ab_ ?_
 refine aa_ kr_ ?_
 (refine aL_S rfl rfl v_ ?_)
 refine ac_ ?_
 refine ab_ ?_
 refine aa_ kr_ ?_
 iterate 6 (refine aL_S rfl rfl v_ ?_)
 refine aC_ rfl rfl v_ rfl vg_ ?_
 refine aC_ rfl rfl v_ rfl vg_ ?_
 refine aC_ rfl rfl v_ rfl vg_ ?_
 refine aC_ rfl rfl v_ rfl vg_ ?_
 refine aC_ rfl rfl v_ rfl vg_ ?_
 refine aC_ rfl rfl v_ rfl vg_ ?_
 iterate 2 (refine aL_S rfl rfl v_ ?_)
 refine ac_ ?_
 refine aj_ ?_
 refine ai_ (σ' := σ) v_ sub_ ?_
 refine ⟨?_, rfl⟩
 unfold hpS
 by_cases h1 : p.size ≤ s.size <;> simp [h1]
theorem iO_ {s p : ByteArray} {σ : Store} : ap_ Tryz.prog 174 [vStr s, vStr p] σ fun v σ' => v = vB (hpS s p) ∧ σ = σ' := by
 refine am_ Tryz.func174 rfl Tryz.ntmps174 (congrArg Array.toList Tryz.results174) (by simp only [List.length_cons, List.length_nil]; decide) ?_; simp only [ah_, al_, Nat.reduceAdd]
 refine ab_ ?_
 refine aa_ kr_ ?_
 (refine aL_S rfl rfl v_ ?_)
 refine ac_ ?_
 refine ab_ ?_
 refine aa_ kr_ ?_
 iterate 2 (refine aL_S rfl rfl v_ ?_)
 refine aL_X rfl rfl (ag_ rfl rfl (.inr ⟨rfl, rfl, rfl⟩) g_ va_ (eW_) ?_); rintro _ _ ⟨rfl, rfl⟩
 (refine aL_S rfl rfl v_ ?_)
 refine ac_ ?_
 refine aj_ ?_
 refine ai_ (σ' := σ) v_ sub_ ?_
 exact ⟨rfl, rfl⟩
theorem pP_ {s : ByteArray} {p : List UInt8} : hpS s (B p) = true ↔ ∃ r, Lb s = p ++ r := by
  unfold hpS
  rw [Bool.and_eq_true, decide_eq_true_eq, decide_eq_true_eq, cr_]
  constructor
  · rintro ⟨h1, h2⟩
    have := congrArg Lb h2
    rw [bT_, Lb_B, Lb_B, List.drop_zero] at this
    exact ⟨(Lb s).drop p.length, by conv => rhs; rw [← this]
                                    rw [List.length_take, Nat.min_eq_left (by rw [aH_]; exact h1), List.take_append_drop]⟩
  · rintro ⟨r, h⟩
    refine ⟨by rw [← aH_, h, List.length_append]; omega, ?_⟩
    apply dY_
    rw [bT_, Lb_B, Lb_B, List.drop_zero, h, List.take_left]
theorem nw_ {q : Nat} {x : Ent} {s : ByteArray} {σ : Store} (hq : σ.heap q = some (.cells [vStr s])) (hs : s.size ≤ 1000000) : ap_ Tryz.prog 173 [sEnt x, .ref q 0] σ fun v σ' => v = vB (!hpS x.key (s ++ ⟨#[47]⟩)) ∧ σ = σ' := by
 have e1 := a1_ s ⟨#[47]⟩ (by rw [show (ByteArray.mk #[47]).size = 1 from rfl]; omega)
 refine am_ Tryz.func173 rfl Tryz.ntmps173 (congrArg Array.toList Tryz.results173) (by simp only [List.length_cons, List.length_nil]; decide) ?_; simp only [ah_, al_, Nat.reduceAdd]
 refine ab_ ?_
 refine aa_ kr_ ?_
 refine bj_ rfl rfl rfl v_ rfl g_ fun o2 ho2 => ?_
 repeat (rw [an_] at ho2; obtain ⟨_, ho2⟩ := ho2)
 (refine aL_S rfl rfl v_ ?_)
 refine ac_ ?_
 have n3 := aV_ hq ho2
 refine ab_ ?_
 have R := And.intro hq e1
 refine aa_ kr_ ?_
 iterate 4 (refine aL_S rfl rfl v_ ?_)
 refine aL_X rfl rfl (ag_ rfl rfl (.inr ⟨rfl, rfl, rfl⟩) g_ va_ (iO_) ?_); rintro _ _ ⟨rfl, rfl⟩
 iterate 2 (refine aL_S rfl rfl v_ ?_)
 refine ac_ ?_
 refine aj_ ?_
 refine ai_ (σ' := σ) v_ sub_ ?_
 exact ⟨rfl, rfl⟩
theorem pR_ {q : Nat} {s : ByteArray} {σ : Store} (hq : σ.heap q = some (.cells [vStr s])) (hs : s.size ≤ 1000000) : PFEn 173 [.ref q 0] σ fun x => !hpS x.key (s ++ ⟨#[47]⟩) := ⟨by kernel_rfl, fun τ h x => nw_ (h _ _ hq) hs⟩
def undS (l : List Ent) (s : ByteArray) : List Ent := l.filter fun x => hpS x.key (s ++ ⟨#[47]⟩)
theorem qS_ {l : List Ent} {t : Bool} {s : ByteArray} {σ : Store} (hl : l.length ≤ 1000000) (hs : s.size ≤ 1000000) : ap_ Tryz.prog 125 [.sl 4 (l.map sEnt) t, vStr s] σ fun v σ' => v = .sl 4 ((undS l s).map sEnt) false ∧ σ = σ' := by
 refine am_ Tryz.func125 rfl Tryz.ntmps125 (congrArg Array.toList Tryz.results125) (by simp only [List.length_cons, List.length_nil]; decide) ?_; simp only [ah_, al_, Nat.reduceAdd]
 refine ab_ ?_
 refine aa_ kr_ ?_
 refine bj_ rfl rfl rfl v_ rfl g_ fun o3 ho3 => ?_
 repeat (rw [an_] at ho3; obtain ⟨_, ho3⟩ := ho3)
 (refine aL_S rfl rfl v_ ?_)
 refine ac_ ?_
 refine ab_ ?_
 refine aa_ kr_ ?_
 (refine aL_S rfl rfl v_ ?_)
 refine aL_X rfl rfl (ag_ rfl rfl (.inr ⟨rfl, rfl, rfl⟩) g_ va_ (pq_ hl) ?_); rintro _ τ0 hC0
 (refine aL_S rfl rfl v_ ?_)
 refine aL_X rfl rfl (ag_ rfl rfl (.inr ⟨rfl, rfl, rfl⟩) g_ va_ (nA_ (pR_ (s := s) h_ hs) hC0 hl) ?_); rintro _ _ ⟨rfl, rfl⟩
 (refine aL_S rfl rfl v_ ?_)
 refine ac_ ?_
 refine aj_ ?_
 refine ai_ (σ' := σ) v_ sub_ ?_
 exact ⟨by simp [undS], rfl⟩
theorem l9_ {α β : Type} {f : α → Option β} {l : List α} {k : Nat} {x : α} (h : l[k]? = some x) : (l.take (k + 1)).filterMap f = (l.take k).filterMap f ++ (f x).toList := by
 rw [aM_ h, List.filterMap_append, List.filterMap_cons]
 cases f x <;> rfl
theorem hc_ (l : List Ent) (s : ByteArray) : (undS l s).length ≤ l.length := List.length_filter_le ..
theorem sa_ {l : List Ent} {s : ByteArray} (h : ∀ x ∈ l, EntSm x) : ∀ x ∈ undS l s, EntSm x := fun x hx => h x (List.mem_filter.1 hx).1
end Go.Proofs.YtkcmbjodladflaaGreatDoor
end

section
set_option linter.all false
set_option maxRecDepth 100000
namespace Go.Proofs.YtkcmbjodladflaaGreatDoor
open Go.Ab
end Go.Proofs.YtkcmbjodladflaaGreatDoor
end

section
set_option linter.all false
set_option maxRecDepth 100000
namespace Go.Proofs.YtkcmbjodladflaaGreatDoor
open Go.Ab
end Go.Proofs.YtkcmbjodladflaaGreatDoor
end

section
set_option linter.all false
set_option maxRecDepth 100000
namespace Go.Proofs.YtkcmbjodladflaaGreatDoor
open Go.Ab
theorem sGt {a b : ByteArray} : (!(sLt a b || decide (a = b))) = sLt b a := by
 by_cases h : a = b
 ·subst h; simp [bh_]
 ·cases h1 : sLt a b with
  |false => rw [dB_ h1 h]; simp [h]
  |true =>
   cases h2 : sLt b a with
   |false => rfl
   |true => have := b3_ h1 h2; rw [bh_] at this; cases this
theorem nv_ {a b : Ent} {σ : Store} : ap_ Tryz.prog 19 [sReg a, sReg b] σ fun v σ' => v = vB (bF_ a b) ∧ σ = σ' := by
 refine am_ Tryz.func19 rfl Tryz.ntmps19 (congrArg Array.toList Tryz.results19) (by simp only [List.length_cons, List.length_nil]; decide) ?_; simp only [ah_, al_, Nat.reduceAdd]
 refine ab_ ?_
 refine aa_ kr_ ?_
 refine bj_ rfl rfl rfl v_ rfl g_ fun o2 ho2 => ?_
 repeat (rw [an_] at ho2; obtain ⟨_, ho2⟩ := ho2)
 refine bj_ rfl rfl rfl v_ rfl g_ fun o3 ho3 => ?_
 repeat (rw [an_] at ho3; obtain ⟨_, ho3⟩ := ho3)
 (refine aL_S rfl rfl v_ ?_)
 refine ac_ ?_
 refine ab_ ?_
 refine ab_ ?_
 refine aa_ kr_ ?_
 iterate 5 (refine aL_S rfl rfl v_ ?_)
 refine ac_ ?_
 refine ad_ v_ (fun hc1 => ?_) (fun hc1 => ?_)
 ·replace hc1 := nm_ hc1
  refine ab_ ?_
  refine aa_ kr_ ?_
  iterate 6 (refine aL_S rfl rfl v_ ?_)
  refine ac_ ?_
  refine aj_ ?_
  refine ai_ (σ' := σ) v_ sub_ ?_
  exact ⟨by rw [bF_, if_pos hc1], rfl⟩
 ·replace hc1 := nm_ hc1
  refine ae_ ?_
  refine ab_ ?_
  refine ab_ ?_
  refine aa_ kr_ ?_
  iterate 5 (refine aL_S rfl rfl v_ ?_)
  refine ac_ ?_
  refine ad_ v_ (fun hc3 => ?_) (fun hc3 => ?_)
  ·replace hc3 := nm_ hc3
   refine ab_ ?_
   refine aa_ kr_ ?_
   iterate 6 (refine aL_S rfl rfl v_ ?_)
   refine ac_ ?_
   refine aj_ ?_
   refine ai_ (σ' := σ) v_ sub_ ?_
   exact ⟨by rw [bF_, if_neg (by simpa using hc1), if_pos hc3, sGt], rfl⟩
  ·replace hc3 := nm_ hc3
   refine ae_ ?_
   refine ab_ ?_
   refine aa_ kr_ ?_
   iterate 6 (refine aL_S rfl rfl v_ ?_)
   refine ac_ ?_
   refine aj_ ?_
   refine ai_ (σ' := σ) v_ sub_ ?_
   exact ⟨by rw [bF_, if_neg (by simpa using hc1), if_neg (by simpa using hc3), sGt], rfl⟩
theorem mN_ {a b : Ent} {σ : Store} : ap_ Tryz.prog 123 [sReg a, sReg b] σ fun v σ' => v = sReg (if bF_ b a then b else a) ∧ σ = σ' := by
 refine am_ Tryz.func123 rfl Tryz.ntmps123 (congrArg Array.toList Tryz.results123) (by simp only [List.length_cons, List.length_nil]; decide) ?_; simp only [ah_, al_, Nat.reduceAdd]
 refine ab_ ?_
 refine aa_ kr_ ?_
 refine bj_ rfl rfl rfl v_ rfl g_ fun o2 ho2 => ?_
 repeat (rw [an_] at ho2; obtain ⟨_, ho2⟩ := ho2)
 refine bj_ rfl rfl rfl v_ rfl g_ fun o3 ho3 => ?_
 repeat (rw [an_] at ho3; obtain ⟨_, ho3⟩ := ho3)
 refine aR_ rfl rfl rfl g_ gl_ fun o4 ho4 => ?_
 repeat (rw [an_] at ho4; obtain ⟨_, ho4⟩ := ho4)
 refine ac_ ?_
 refine ab_ ?_
 refine ab_ ?_
 refine aa_ kr_ ?_
 iterate 2 (refine aL_S rfl rfl v_ ?_)
 refine aL_X rfl rfl (ag_ rfl rfl (.inr ⟨rfl, rfl, rfl⟩) g_ va_ (nv_) ?_); rintro _ _ ⟨rfl, rfl⟩
 refine ac_ ?_
 refine ad_ v_ (fun hc1 => ?_) (fun hc1 => ?_)
 ·replace hc1 := nm_ hc1
  refine ab_ ?_
  refine aa_ kr_ ?_
  (refine aL_S rfl rfl v_ ?_)
  refine ax_ rfl rfl rfl v_ v_ h_ g_ rfl g_ c_ (by rfl) le_ v_ ?_
  refine ac_ ?_
  refine aj_ ?_
  refine ai_ (σ' := σ) v_ sub_ ?_
  exact ⟨by rw [if_pos hc1], rfl⟩
 ·replace hc1 := nm_ hc1
  refine ae_ ?_
  refine ab_ ?_
  refine aa_ kr_ ?_
  (refine aL_S rfl rfl v_ ?_)
  refine ax_ rfl rfl rfl v_ v_ h_ g_ rfl g_ c_ (by rfl) le_ v_ ?_
  refine ac_ ?_
  refine aj_ ?_
  refine ai_ (σ' := σ) v_ sub_ ?_
  exact ⟨by rw [if_neg (by simpa using hc1)], rfl⟩
theorem iI_ {y : Ent} : ∀ {l : List Ent} {k : Nat}, (∀ j x, j < k → l[j]? = some x → sLt x.key y.key = true) → (∀ x, l[k]? = some x → sLt x.key y.key = false) → k ≤ l.length → putS y l = match l[k]? with | some x => if x.key = y.key then l.take k ++ (if bF_ y x then y else x) :: l.drop (k + 1) else l.take k ++ y :: l.drop k | none => l.take k ++ y :: l.drop k
 |[], k, _, _, hk => by
  obtain rfl : k = 0 := by simpa using hk
  simp [putS]
 |m :: l, 0, _, h2, _ => by
  have := h2 m rfl
  simp only [putS, this, List.getElem?_cons_zero, List.take_zero, List.drop_zero, List.nil_append, List.drop_succ_cons]
  simp
 |m :: l, k + 1, h1, h2, hk => by
  have hm := h1 0 m (by omega) rfl
  have ih := iI_ (y := y) (l := l) (k := k) (fun j x hj hx => h1 (j + 1) x (by omega) hx) (fun x hx => h2 x hx) (by simpa using hk)
  rw [putS, if_pos hm, ih]
  simp only [List.getElem?_cons_succ, List.take_succ_cons, List.drop_succ_cons, List.cons_append]
  split
  ·split <;> rfl
  ·rfl
theorem gu_ (l : List Ent) : ∀ y ∈ l.map sEnt, ∀ c ∈ y.cells, c.one = true := fun y hy c hc => by
 obtain ⟨s, _, rfl⟩ := List.mem_map.1 hy
 simp [AVal.cells] at hc; rcases hc with rfl | rfl | rfl | rfl <;> rfl
theorem ls_ {x y : Ent} (h : x.key = y.key) : AVal.agg [vStr y.key, vInt (if bF_ y x then y else x).n, vStr (if bF_ y x then y else x).who, vStr (if bF_ y x then y else x).value] = sEnt (if bF_ y x then y else x) := by
 split
 ·rfl
 ·rw [← h]
set_option maxHeartbeats 2000000 in
theorem r5_ {l : List Ent} {t : Bool} {y : Ent} {σ : Store} (hl : l.length ≤ 1000000) : ap_ Tryz.prog 65 [.sl 4 (l.map sEnt) t, sEnt y] σ fun v σ' => v = .sl 4 ((putS y l).map sEnt) false ∧ σ = σ' := by
 refine am_ Tryz.func65 rfl Tryz.ntmps65 (congrArg Array.toList Tryz.results65) (by simp only [List.length_cons, List.length_nil]; decide) ?_; simp only [ah_, al_, Nat.reduceAdd]
 refine ab_ ?_
 refine aa_ kr_ ?_
 refine bj_ rfl rfl rfl v_ rfl g_ fun o3 ho3 => ?_
 repeat (rw [an_] at ho3; obtain ⟨_, ho3⟩ := ho3)
 (refine aL_S rfl rfl v_ ?_)
 refine ac_ ?_
 refine ab_ ?_
 refine aa_ kr_ ?_
 (refine aL_S rfl rfl v_ ?_)
 refine ac_ ?_
 refine ab_ ?_
 refine ak_ ?_
 refine ao_ (ι := Nat) (fun k => l.length - k) (fun k => k ≤ l.length ∧ ∀ j x, j < k → l[j]? = some x → sLt x.key y.key = true) (fun k => [(0, .sl 4 (l.map sEnt) t), (3, .ref o3 0), (5, vInt k)]) (fun k => (σ.set o3 (.cells (sEnt y).cells))) 0 ?_ ?_ ?_ ?_
 ·exact ⟨Nat.zero_le _, fun j x h => by omega⟩
 ·exact cv_
 ·exact Store.Wk.refl _
 rintro k ⟨hk, hal⟩
 simp only [ar_, as_]
 refine ab_ ?_
 refine ab_ ?_
 obtain ⟨x, hx⟩ := oZ_ l k
 have R := hx
 refine aE_ (.op 0 0 (.op 1 0 (.op 2 0 (.op 3 0 (.op 4 0 (.op 5 0 (.op 6 0 (.op 7 0 (.op 8 0 (.op 9 0 (.op 10 0 (.op 11 0 (.op 12 0 (.op 13 0 .nil)))))))))))))) Tryz.mixed kr_ ?_
 iterate 5 (refine dR_S o_ (by rfl) (by rfl) v_ ?_)
 refine a3_ o_ (by rfl) (by rfl) v_ (by rfl) vg_ ?_
 refine a3_ o_ (by rfl) (by rfl) v_ (by rfl) vg_ ?_
 refine a3_ o_ (by rfl) (by rfl) v_ (by rfl) vg_ ?_
 refine a3_ o_ (by rfl) (by rfl) v_ (by rfl) vg_ ?_
 refine a3_ o_ (by rfl) (by rfl) v_ (by rfl) vg_ ?_
 refine a3_ o_ (by rfl) (by rfl) v_ (by rfl) vg_ ?_
 refine a3_ o_ (by rfl) (by rfl) v_ (by rfl) vg_ ?_
 refine a3_ o_ (by rfl) (by rfl) v_ (by rfl) vg_ ?_
 (refine dR_S o_ (by rfl) (by rfl) v_ ?_)
 refine aK_ ?_
 refine ad_ v_ (fun hc2 => ?_) (fun hc2 => ?_)
 ·replace hc2 := nm_ hc2
  refine ae_ ?_
  refine ak_ ?_
  refine aa_ kr_ ?_
  iterate 3 (refine aL_S rfl rfl v_ ?_)
  refine ac_ ?_
  refine aI_ (ι := Nat) (i := k) (k + 1) ?_ ?_ ?_ ?_
  ·omega
  ·exact ⟨by omega, fun j z hj hz => by rcases Nat.lt_or_eq_of_le (Nat.le_of_lt_succ hj) with h | h; exact hal j z h hz; rw [h, hx (by omega)] at hz; obtain rfl := Option.some.inj hz; exact hc2.2⟩
  ·exact cv_
  ·exact sub_
 ·replace hc2 := nm_ hc2
  refine av_ ?_
  refine af_ ?_
  refine af_ ?_
  refine aq_ ?_
  refine ab_ ?_
  skip
  have hat := iI_ (y := y) hal (fun z hz => by
   have h1 := (List.getElem?_eq_some_iff.1 hz).1
   rw [hx h1] at hz; obtain rfl := Option.some.inj hz
   rcases hc2 with h | h
   ·omega
   ·simpa using h) hk
  have m1 : (l.map sEnt).take k = (l.take k).map sEnt := List.map_take.symm
  have m2 : ((l.map sEnt).take l.length).drop k = (l.drop k).map sEnt := by rw [List.take_of_length_le (by simp), List.map_drop]
  have m3 : (l.map sEnt).drop k = (l.drop k).map sEnt := List.map_drop.symm
  refine aa_ kr_ ?_
  refine bp_ 45 4 rfl rfl rfl (by rfl) fun k6 hk6 => ?_
  refine ac_ ?_
  refine ab_ ?_
  have R := m1
  refine aa_ kr_ ?_
  iterate 4 (refine aL_S rfl rfl v_ ?_)
  refine aP_ rfl rfl rfl g_ g_ v_ h_ v_ (gu_ _) (by simp; omega) fun k27 hk27 => ?_
  have t27 := (aJ_ hk27).2
  have u6 : σ.tok k6 = none := by simpa only [Store.set_tok] using hk6
  have u27 : σ.tok k27 = none := by simpa only [Store.set_tok] using t27
  (refine aL_S rfl rfl v_ ?_)
  refine ac_ ?_
  refine ab_ ?_
  refine ab_ ?_
  have R := hx
  refine aE_ (.op 0 0 (.op 1 0 (.op 2 0 (.op 3 0 (.op 4 0 (.op 5 0 (.op 6 0 (.op 7 0 (.op 8 0 (.op 9 0 (.op 10 0 (.op 11 0 (.op 12 0 (.op 13 0 .nil)))))))))))))) Tryz.mixed kr_ ?_
  iterate 5 (refine dR_S o_ (by rfl) (by rfl) v_ ?_)
  refine a3_ o_ (by rfl) (by rfl) v_ (by rfl) vg_ ?_
  refine a3_ o_ (by rfl) (by rfl) v_ (by rfl) vg_ ?_
  refine a3_ o_ (by rfl) (by rfl) v_ (by rfl) vg_ ?_
  refine a3_ o_ (by rfl) (by rfl) v_ (by rfl) vg_ ?_
  refine a3_ o_ (by rfl) (by rfl) v_ (by rfl) vg_ ?_
  refine a3_ o_ (by rfl) (by rfl) v_ (by rfl) vg_ ?_
  refine a3_ o_ (by rfl) (by rfl) v_ (by rfl) vg_ ?_
  refine a3_ o_ (by rfl) (by rfl) v_ (by rfl) vg_ ?_
  (refine dR_S o_ (by rfl) (by rfl) v_ ?_)
  refine aK_ ?_
  refine ad_ v_ (fun hc6 => ?_) (fun hc6 => ?_)
  ·replace hc6 := nm_ hc6
   have hxk := hx (by omega)
   have hput : putS y l = l.take k ++ (if bF_ y x then y else x) :: l.drop (k + 1) := by rw [hat, hxk]; simp only; rw [if_pos hc6.2]
   have hrow : (l.take k).map sEnt ++ [.agg [vStr y.key, vInt (if bF_ y x then y else x).n, vStr (if bF_ y x then y else x).who, vStr (if bF_ y x then y else x).value]] ++ (l.drop (k + 1)).map sEnt = (putS y l).map sEnt := by rw [hput, ls_ hc6.2]; simp
   have m4 : ((l.map sEnt).take l.length).drop (k + 1) = (l.drop (k + 1)).map sEnt := by rw [List.take_of_length_le (by simp), List.map_drop]
   have m5 : (l.map sEnt).drop (k + 1) = (l.drop (k + 1)).map sEnt := List.map_drop.symm
   have m6 : ((k : Int) + 1).toNat = k + 1 := by omega
   refine ab_ ?_
   have R := hxk
   refine aE_ (.op 0 0 (.op 1 0 (.op 2 0 (.op 3 0 (.op 4 0 (.op 5 0 (.op 6 0 (.op 7 0 (.op 8 0 (.op 9 0 (.op 10 1 (.op 11 0 (.op 12 1 (.op 13 2 (.op 14 0 .nil))))))))))))))) Tryz.mixed kr_ ?_
   iterate 10 (refine dR_S o_ (by rfl) (by rfl) v_ ?_)
   refine dR_X o_ (by rfl) (by rfl) (ag_ (by rfl) (by rfl) (.inr ⟨by rfl, by rfl, by rfl⟩) g_ va_ (mN_) ?_); rintro _ _ ⟨rfl, rfl⟩; refine ⟨sub_, ?_⟩
   (refine dR_S o_ (by rfl) (by rfl) v_ ?_)
   refine dR_X o_ (by rfl) (by rfl) (aU_ (by rfl) g_ g_ (by rfl) (by rfl) h_ c2_ (by decide) ⟨sub_, ?_⟩)
   refine dR_T o_ (by rfl) (by rfl) (en_ (by rfl) g_ g_ (.inl ⟨_, va_, h_, rfl⟩) (.inl ⟨⟨_, g_⟩, .inl v_, c_⟩) (by simp; omega) fun k55 hk55 => ?_)
   (refine dR_S o_ (by rfl) (by rfl) v_ ?_)
   refine aK_ ?_
   rw [Store.newTok_step (by exact hk6)] at hk55
   have t55 := (aJ_ hk55).2
   have u55 : σ.tok k55 = none := by simpa only [Store.set_tok] using t55
   refine ab_ ?_
   have R := And.intro m6 (And.intro m4 m5)
   refine aa_ kr_ ?_
   iterate 5 (refine aL_S rfl rfl v_ ?_)
   refine aP_ rfl rfl rfl g_ g_ v_ h_ v_ (gu_ _) (by simp; omega) fun k61 hk61 => ?_
   rw [Store.newTok_step (by exact hk6), Store.newTok_step (by exact t27)] at hk61
   have t61 := (aJ_ hk61).2
   have u61 : σ.tok k61 = none := by simpa only [Store.set_tok] using t61
   (refine aL_S rfl rfl v_ ?_)
   refine ac_ ?_
   refine ab_ ?_
   refine aa_ kr_ ?_
   iterate 2 (refine aL_S rfl rfl v_ ?_)
   refine ac_ ?_
   refine aj_ ?_
   exact aF_ (v := .sl 4 ((putS y l).map sEnt) false) (v' := .own k61 4 ((putS y l).map sEnt)) (by rw [← hrow]; first | exact va_ | exact vb_) (.own1 _ _ _) sub_ ⟨rfl, rfl⟩
  ·replace hc6 := nm_ hc6
   skip
   have hput : putS y l = l.take k ++ y :: l.drop k := by
    rw [hat]
    cases hg : l[k]? with
    |none => rfl
    |some z =>
     have h1 := (List.getElem?_eq_some_iff.1 hg).1
     rw [hx h1] at hg; obtain rfl := Option.some.inj hg
     simp only
     rw [if_neg (by rcases hc6 with h | h; omega; exact h)]
   have hrow : (l.take k).map sEnt ++ [sEnt y] ++ (l.drop k).map sEnt = (putS y l).map sEnt := by rw [hput]; simp
   refine ae_ ?_
   refine ab_ ?_
   refine aa_ kr_ ?_
   iterate 2 (refine aL_S rfl rfl v_ ?_)
   refine au_ rfl rfl rfl g_ g_ rfl rfl h_ c2_ (by decide) ?_
   refine aP_ rfl rfl rfl g_ g_ v_ h_ v_ c_ (by simp; omega) fun k66 hk66 => ?_
   (refine aL_S rfl rfl v_ ?_)
   refine ac_ ?_
   rw [Store.newTok_step (by exact hk6)] at hk66
   have t66 := (aJ_ hk66).2
   have u66 : σ.tok k66 = none := by simpa only [Store.set_tok] using t66
   refine ab_ ?_
   have R := And.intro m2 m3
   refine aa_ kr_ ?_
   iterate 4 (refine aL_S rfl rfl v_ ?_)
   refine aP_ rfl rfl rfl g_ g_ v_ h_ v_ (gu_ _) (by simp; omega) fun k71 hk71 => ?_
   rw [Store.newTok_step (by exact hk6), Store.newTok_step (by exact t27)] at hk71
   have t71 := (aJ_ hk71).2
   have u71 : σ.tok k71 = none := by simpa only [Store.set_tok] using t71
   (refine aL_S rfl rfl v_ ?_)
   refine ac_ ?_
   refine ab_ ?_
   refine aa_ kr_ ?_
   iterate 2 (refine aL_S rfl rfl v_ ?_)
   refine ac_ ?_
   refine aj_ ?_
   exact aF_ (v := .sl 4 ((putS y l).map sEnt) false) (v' := .own k71 4 ((putS y l).map sEnt)) (by rw [← hrow]; first | exact va_ | exact vb_) (.own1 _ _ _) sub_ ⟨rfl, rfl⟩
def putE (l : List Ent) (y : Ent) : List Ent × Int := if !aO_ l || !bA_ y then ([], 1) else if 4096 < (putS y l).length then ([], 4) else (putS y l, 0)
theorem pe_ {l : List Ent} {t : Bool} {y : Ent} {σ : Store} (hl : l.length ≤ 100000) (hs : ∀ x ∈ l, EntSm x) (hy : EntSm y) : ap_ Tryz.prog 21 [.sl 4 (l.map sEnt) t, sEnt y] σ fun v σ' => v = .tup [.sl 4 ((putE l y).1.map sEnt) false, vInt (putE l y).2] ∧ σ = σ' := by
 have hpl := cY_ y l
 refine am_ Tryz.func21 rfl Tryz.ntmps21 (congrArg Array.toList Tryz.results21) (by simp only [List.length_cons, List.length_nil]; decide) ?_; simp only [ah_, al_, Nat.reduceAdd]
 refine ab_ ?_
 refine aa_ kr_ ?_
 refine bj_ rfl rfl rfl v_ rfl g_ fun o3 ho3 => ?_
 repeat (rw [an_] at ho3; obtain ⟨_, ho3⟩ := ho3)
 iterate 2 (refine aL_S rfl rfl v_ ?_)
 refine ac_ ?_
 refine ab_ ?_
 refine ab_ ?_
 refine aa_ kr_ ?_
 (refine aL_S rfl rfl v_ ?_)
 refine aL_X rfl rfl (ag_ rfl rfl (.inr ⟨rfl, rfl, rfl⟩) g_ va_ (cZ_ hs (by omega)) ?_); rintro _ _ ⟨rfl, rfl⟩
 iterate 2 (refine aL_S rfl rfl v_ ?_)
 refine aw_ rfl rfl v_ rfl vg_ ?_
 refine bs_ rfl rfl v_ rfl (fun hb => aG_ (by rfl) (by rfl) (.inr ⟨by rfl, by rfl, by rfl⟩) g_ cg_ (gG_ hy)) ?_
 refine aw_ rfl rfl v_ rfl vg_ ?_
 (refine aL_S rfl rfl v_ ?_)
 refine ac_ ?_
 refine ad_ v_ (fun hc1 => ?_) (fun hc1 => ?_)
 ·replace hc1 := nm_ hc1
  have he : putE l y = ([], 1) := by rw [putE, if_pos (by rcases hc1 with h | h <;> simp [h])]
  refine ab_ ?_
  refine aa_ kr_ ?_
  iterate 2 (refine aL_S rfl rfl v_ ?_)
  refine ac_ ?_
  refine aj_ ?_
  exact aF_ (v := .tup [.sl 4 [] false, vInt 1]) (v' := .tup [vNil, vInt 1]) va_ (.tup _ _ rfl fun i h h' => by match i, h with | 0, _ => exact .nil _ _ | 1, _ => exact .refl _) sub_ ⟨by rw [he]; rfl, rfl⟩
 ·replace hc1 := nm_ hc1
  have he : putE l y = if 4096 < (putS y l).length then ([], 4) else (putS y l, 0) := by rw [putE, if_neg (by simp [hc1.1, hc1.2])]
  refine ae_ ?_
  refine ab_ ?_
  refine aa_ kr_ ?_
  iterate 2 (refine aL_S rfl rfl v_ ?_)
  refine aL_X rfl rfl (ag_ rfl rfl (.inr ⟨rfl, rfl, rfl⟩) g_ va_ (r5_ (by omega)) ?_); rintro _ _ ⟨rfl, rfl⟩
  (refine aL_S rfl rfl v_ ?_)
  refine ac_ ?_
  refine ab_ ?_
  refine ab_ ?_
  refine aa_ kr_ ?_
  iterate 3 (refine aL_S rfl rfl v_ ?_)
  refine ac_ ?_
  refine ad_ v_ (fun hc4 => ?_) (fun hc4 => ?_)
  ·replace hc4 := nm_ hc4
   refine ab_ ?_
   refine aa_ kr_ ?_
   iterate 2 (refine aL_S rfl rfl v_ ?_)
   refine ac_ ?_
   refine aj_ ?_
   exact aF_ (v := .tup [.sl 4 [] false, vInt 4]) (v' := .tup [vNil, vInt 4]) va_ (.tup _ _ rfl fun i h h' => by match i, h with | 0, _ => exact .nil _ _ | 1, _ => exact .refl _) sub_ ⟨by rw [he, if_pos (by omega)]; rfl, rfl⟩
  ·replace hc4 := nm_ hc4
   refine ae_ ?_
   refine ab_ ?_
   refine aa_ kr_ ?_
   iterate 3 (refine aL_S rfl rfl v_ ?_)
   refine ac_ ?_
   refine aj_ ?_
   refine ai_ (σ' := σ) v_ sub_ ?_
   exact ⟨by rw [he, if_neg (by omega)], rfl⟩
end Go.Proofs.YtkcmbjodladflaaGreatDoor
end
