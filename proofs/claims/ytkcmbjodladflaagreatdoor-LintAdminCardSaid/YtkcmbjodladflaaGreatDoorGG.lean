/-
  Tenants: what is said of one, and the entries that say it. Both sides; What is said of a tenant; all tenants. Both sides; Rows that grow while other objects come and go (no deeds); All tenants. Both sides; What must come of tenants, whatever the arguments are; TenantOf, TenantSets: the walks; One entry more; TenantSound: the walk. Own work (an AI agent).
-/
import Derived.Test.YtkcmbjodladflaaGreatDoorGF
import Derived.Test.YtkcmbjodladflaaGreatDoorGE
import Derived.Test.YtkcmbjodladflaaGreatDoorGD

section
set_option linter.all false
set_option maxRecDepth 100000
namespace Go.Proofs.YtkcmbjodladflaaGreatDoor
open Go.Ab
theorem bJ_ {l : List ByteArray} {t : Bool} {σ : Store} (hL : l.length ≤ 1000000) (hT : (l.flatMap Lb).length ≤ 1000000) : ao_ Tryz.prog 81 [.sl 1 (l.map vStr) t] σ fun v σ' => v = vStr (cJ_ l) ∧ σ = σ' := by
 refine aj_ Tryz.func81 rfl Tryz.ntmps81 (congrArg Array.toList Tryz.results81) (by simp only [List.length_cons, List.length_nil]; decide) ?_; simp only [af_, ak_, Nat.reduceAdd]
 refine ab_ ?_
 refine aa_ kr_ ?_
 (refine aL_S rfl rfl v_ ?_)
 refine ac_ ?_
 refine ab_ ?_
 refine aa_ kr_ ?_
 (refine aL_S rfl rfl v_ ?_)
 refine aL_X rfl rfl (ae_ rfl rfl (.inr ⟨rfl, rfl, rfl⟩) g_ va_ (pD_ hL hT) ?_); rintro _ _ ⟨rfl, rfl⟩
 (refine aL_S rfl rfl v_ ?_)
 refine ac_ ?_
 refine am_ ?_
 refine ai_ (σ' := σ) v_ sub_ ?_
 exact ⟨rfl, rfl⟩
theorem pK_ {a f : ByteArray} {σ : Store} (ha : a.size ≤ 400000) (hf : f.size ≤ 400000) : ao_ Tryz.prog 86 [vStr a, vStr f] σ fun v σ' => v = vStr (keyS a f) ∧ σ = σ' := by
 refine aj_ Tryz.func86 rfl Tryz.ntmps86 (congrArg Array.toList Tryz.results86) (by simp only [List.length_cons, List.length_nil]; decide) ?_; simp only [af_, ak_, Nat.reduceAdd]
 refine ab_ ?_
 refine aa_ kr_ ?_
 (refine aL_S rfl rfl v_ ?_)
 refine ac_ ?_
 refine ab_ ?_
 refine aa_ kr_ ?_
 iterate 2 (refine aL_S rfl rfl v_ ?_)
 refine aw_ rfl rfl rfl g_ g_ rfl rfl h_ c2_ (by decide) ?_
 refine aL_X rfl rfl (ae_ rfl rfl (.inr ⟨rfl, rfl, rfl⟩) g_ va_ (bJ_ (l := [aR_, a, f]) (by simp) (by simp [aB_, show (Lb aR_).length = 6 from rfl]; omega)) ?_); rintro _ _ ⟨rfl, rfl⟩
 (refine aL_S rfl rfl v_ ?_)
 refine ac_ ?_
 refine am_ ?_
 refine ai_ (σ' := σ) v_ sub_ ?_
 exact ⟨rfl, rfl⟩
theorem gq_ {s : ByteArray} {σ : Store} : ao_ Tryz.prog 84 [vStr s] σ fun v σ' => v = vB (iE_ s) ∧ σ = σ' := by
 have h0 := ne0 s
 refine aj_ Tryz.func84 rfl Tryz.ntmps84 (congrArg Array.toList Tryz.results84) (by simp only [List.length_cons, List.length_nil]; decide) ?_; simp only [af_, ak_, Nat.reduceAdd]
 refine ab_ ?_
 refine aa_ kr_ ?_
 (refine aL_S rfl rfl v_ ?_)
 refine ac_ ?_
 refine ab_ ?_
 have R := h0
 refine aa_ kr_ ?_
 iterate 3 (refine aL_S rfl rfl v_ ?_)
 refine aC_ rfl rfl v_ rfl vg_ ?_
 refine aC_ rfl rfl v_ rfl vg_ ?_
 refine aC_ rfl rfl v_ rfl vg_ ?_
 iterate 2 (refine aL_S rfl rfl v_ ?_)
 refine ac_ ?_
 refine am_ ?_
 refine ai_ (σ' := σ) v_ sub_ ?_
 refine ⟨?_, rfl⟩
 unfold iE_
 by_cases h1 : s.size = 0 <;> by_cases h2 : s.size ≤ 64 <;> simp [h1, h2, h0] <;> omega
theorem iV_ {f : ByteArray} {σ : Store} : ao_ Tryz.prog 87 [vStr f] σ fun v σ' => v = .tup [.agg [vInt (bndS f).1, vInt (bndS f).2.1], vB (bndS f).2.2] ∧ σ = σ' := by
 refine aj_ Tryz.func87 rfl Tryz.ntmps87 (congrArg Array.toList Tryz.results87) (by simp only [List.length_cons, List.length_nil]; decide) ?_; simp only [af_, ak_, Nat.reduceAdd]
 refine ab_ ?_
 refine aa_ kr_ ?_
 refine aQ_ rfl rfl rfl g_ gl_ fun o2 ho2 => ?_
 repeat (rw [an_] at ho2; obtain ⟨_, ho2⟩ := ho2)
 (refine aL_S rfl rfl v_ ?_)
 refine ac_ ?_
 refine ab_ ?_
 refine ab_ ?_
 refine aa_ kr_ ?_
 (refine aL_S rfl rfl v_ ?_)
 refine ac_ ?_
 refine al_ ?_
 refine ab_ ?_
 refine aa_ kr_ ?_
 iterate 2 (refine aL_S rfl rfl v_ ?_)
 refine ac_ ?_
 refine ad_ v_ (fun hc2 => ?_) (fun hc2 => ?_)
 ·replace hc2 := nm_ hc2
  refine ab_ ?_
  refine aa_ kr_ ?_
  (refine aL_S rfl rfl v_ ?_)
  refine av_ rfl rfl rfl v_ v_ h_ g_ rfl g_ c_ (by rfl) le_ v_ ?_
  (refine aL_S rfl rfl v_ ?_)
  refine ac_ ?_
  refine am_ ?_
  refine ai_ (σ' := σ) v_ sub_ ?_
  exact ⟨by rw [bndS, if_pos (show f = cS_ from hc2)], rfl⟩
 ·replace hc2 := nm_ hc2
  refine ab_ ?_
  refine aa_ kr_ ?_
  iterate 2 (refine aL_S rfl rfl v_ ?_)
  refine ac_ ?_
  refine ad_ v_ (fun hc4 => ?_) (fun hc4 => ?_)
  ·replace hc4 := nm_ hc4
   refine ab_ ?_
   refine aa_ kr_ ?_
   (refine aL_S rfl rfl v_ ?_)
   refine av_ rfl rfl rfl v_ v_ h_ g_ rfl g_ c_ (by rfl) le_ v_ ?_
   (refine aL_S rfl rfl v_ ?_)
   refine ac_ ?_
   refine am_ ?_
   refine ai_ (σ' := σ) v_ sub_ ?_
   exact ⟨by rw [bndS, if_neg (show ¬ f = cS_ from hc2), if_pos (show f = es_ from hc4)], rfl⟩
  ·replace hc4 := nm_ hc4
   refine ab_ ?_
   refine aa_ kr_ ?_
   iterate 2 (refine aL_S rfl rfl v_ ?_)
   refine ac_ ?_
   refine ad_ v_ (fun hc6 => ?_) (fun hc6 => ?_)
   ·replace hc6 := nm_ hc6
    refine ab_ ?_
    refine aa_ kr_ ?_
    (refine aL_S rfl rfl v_ ?_)
    refine av_ rfl rfl rfl v_ v_ h_ g_ rfl g_ c_ (by rfl) le_ v_ ?_
    (refine aL_S rfl rfl v_ ?_)
    refine ac_ ?_
    refine am_ ?_
    refine ai_ (σ' := σ) v_ sub_ ?_
    exact ⟨by rw [bndS, if_neg (show ¬ f = cS_ from hc2), if_neg (show ¬ f = es_ from hc4), if_pos (show f = dB_ from hc6)], rfl⟩
   ·replace hc6 := nm_ hc6
    refine ab_ ?_
    refine aa_ kr_ ?_
    iterate 2 (refine aL_S rfl rfl v_ ?_)
    refine ac_ ?_
    refine ad_ v_ (fun hc8 => ?_) (fun hc8 => ?_)
    ·replace hc8 := nm_ hc8
     refine ab_ ?_
     refine aa_ kr_ ?_
     (refine aL_S rfl rfl v_ ?_)
     refine av_ rfl rfl rfl v_ v_ h_ g_ rfl g_ c_ (by rfl) le_ v_ ?_
     (refine aL_S rfl rfl v_ ?_)
     refine ac_ ?_
     refine am_ ?_
     refine ai_ (σ' := σ) v_ sub_ ?_
     exact ⟨by rw [bndS, if_neg (show ¬ f = cS_ from hc2), if_neg (show ¬ f = es_ from hc4), if_neg (show ¬ f = dB_ from hc6), if_pos (show f = ef_ from hc8)], rfl⟩
    ·replace hc8 := nm_ hc8
     refine ah_ ?_
     refine ab_ ?_
     refine aa_ kr_ ?_
     (refine aL_S rfl rfl v_ ?_)
     refine av_ rfl rfl rfl v_ v_ h_ g_ rfl g_ c_ (by rfl) le_ v_ ?_
     (refine aL_S rfl rfl v_ ?_)
     refine ac_ ?_
     refine am_ ?_
     refine ai_ (σ' := σ) v_ sub_ ?_
     exact ⟨by rw [bndS, if_neg (show ¬ f = cS_ from hc2), if_neg (show ¬ f = es_ from hc4), if_neg (show ¬ f = dB_ from hc6), if_neg (show ¬ f = ef_ from hc8)], rfl⟩
theorem ob_ {l : List Ent} {t : Bool} {who a s : ByteArray} {σ : Store} (hs : ∀ x ∈ l, EntSm x) (hl : l.length ≤ 1000000) (h2 : who.size ≤ 1000000) (h3 : a.size ≤ 400000) : ao_ Tryz.prog 34 [.sl 4 (l.map sEnt) t, vStr who, vStr a, vStr s] σ fun r σ' => r = .tup [sEnt (secS l who a s).1, vInt (secS l who a s).2] ∧ σ = σ' := by
 refine aj_ Tryz.func34 rfl Tryz.ntmps34 (congrArg Array.toList Tryz.results34) (by simp only [List.length_cons, List.length_nil]; decide) ?_; simp only [af_, ak_, Nat.reduceAdd]
 refine ab_ ?_
 refine aa_ kr_ ?_
 refine aQ_ rfl rfl rfl g_ gl_ fun o8 ho8 => ?_
 repeat (rw [an_] at ho8; obtain ⟨_, ho8⟩ := ho8)
 (refine aL_S rfl rfl v_ ?_)
 refine ac_ ?_
 refine ab_ ?_
 refine ab_ ?_
 refine aa_ kr_ ?_
 (refine aL_S rfl rfl v_ ?_)
 refine aL_X rfl rfl (ae_ rfl rfl (.inr ⟨rfl, rfl, rfl⟩) g_ va_ (bf_ (by omega)) ?_); rintro _ _ ⟨rfl, rfl⟩
 iterate 2 (refine aL_S rfl rfl v_ ?_)
 refine ay_ rfl rfl v_ rfl vg_ ?_
 refine bQ_ rfl rfl v_ rfl (fun hb => aK_ (by rfl) (by rfl) (.inr ⟨by rfl, by rfl, by rfl⟩) g_ cg_ (gq_)) ?_
 refine ay_ rfl rfl v_ rfl vg_ ?_
 (refine aL_S rfl rfl v_ ?_)
 refine ac_ ?_
 refine ad_ v_ (fun hc1 => ?_) (fun hc1 => ?_)
 ·replace hc1 := nm_ hc1
  refine ab_ ?_
  refine aa_ kr_ ?_
  (refine aL_S rfl rfl v_ ?_)
  refine av_ rfl rfl rfl v_ v_ h_ g_ rfl g_ c_ (by rfl) le_ v_ ?_
  (refine aL_S rfl rfl v_ ?_)
  refine ac_ ?_
  refine am_ ?_
  refine ai_ (σ' := σ) v_ sub_ ?_
  exact ⟨by rw [secS, if_pos (by rcases hc1 with h | h <;> simp [h])]; rfl, rfl⟩
 ·replace hc1 := nm_ hc1
  refine ah_ ?_
  refine ab_ ?_
  refine aa_ kr_ ?_
  iterate 3 (refine aL_S rfl rfl v_ ?_)
  refine aL_X rfl rfl (ae_ rfl rfl (.inr ⟨rfl, rfl, rfl⟩) g_ va_ (pK_ (f := bP_) (by omega) (by decide)) ?_); rintro _ _ ⟨rfl, rfl⟩
  (refine aL_S rfl rfl v_ ?_)
  refine aL_X rfl rfl (ae_ rfl rfl (.inr ⟨rfl, rfl, rfl⟩) g_ va_ (mj_ hs hl h2) ?_); rintro _ _ ⟨rfl, rfl⟩
  iterate 2 (refine aL_S rfl rfl v_ ?_)
  refine av_ rfl rfl rfl v_ v_ h_ g_ rfl g_ c_ (by rfl) le_ v_ ?_
  (refine aL_S rfl rfl v_ ?_)
  refine ac_ ?_
  refine am_ ?_
  refine ai_ (σ' := σ) v_ sub_ ?_
  exact ⟨by rw [secS, if_neg (by simp [hc1.1, hc1.2])], rfl⟩
theorem pO_ {l : List Ent} {t : Bool} {who a f : ByteArray} {n : Int} {σ : Store} (hs : ∀ x ∈ l, EntSm x) (hl : l.length ≤ 1000000) (h2 : who.size ≤ 1000000) (h3 : a.size ≤ 400000) (h4 : f.size ≤ 400000) (h0 : -9223372036854775808 ≤ n) (h1 : n ≤ 9223372036854775807) : ao_ Tryz.prog 35 [.sl 4 (l.map sEnt) t, vStr who, vStr a, vStr f, vInt n] σ fun r σ' => r = .tup [sEnt (dt_ l who a f n).1, vInt (dt_ l who a f n).2] ∧ σ = σ' := by
 refine aj_ Tryz.func35 rfl Tryz.ntmps35 (congrArg Array.toList Tryz.results35) (by simp only [List.length_cons, List.length_nil]; decide) ?_; simp only [af_, ak_, Nat.reduceAdd]
 refine ab_ ?_
 refine aa_ kr_ ?_
 refine aQ_ rfl rfl rfl g_ gl_ fun o10 ho10 => ?_
 repeat (rw [an_] at ho10; obtain ⟨_, ho10⟩ := ho10)
 (refine aL_S rfl rfl v_ ?_)
 refine ac_ ?_
 refine ab_ ?_
 refine aa_ kr_ ?_
 (refine aL_S rfl rfl v_ ?_)
 refine aL_X rfl rfl (ae_ rfl rfl (.inr ⟨rfl, rfl, rfl⟩) g_ va_ (iV_) ?_); rintro _ _ ⟨rfl, rfl⟩
 iterate 3 (refine aL_S rfl rfl v_ ?_)
 refine aQ_ rfl rfl rfl g_ gl_ fun o12 ho12 => ?_
 repeat (rw [an_] at ho12; obtain ⟨_, ho12⟩ := ho12)
 refine av_ rfl rfl rfl v_ v_ h_ g_ rfl g_ c_ (by rfl) le_ v_ ?_
 (refine aL_S rfl rfl v_ ?_)
 refine ac_ ?_
 refine ab_ ?_
 refine ab_ ?_
 refine aa_ kr_ ?_
 (refine aL_S rfl rfl v_ ?_)
 refine aL_X rfl rfl (ae_ rfl rfl (.inr ⟨rfl, rfl, rfl⟩) g_ va_ (bf_ (by omega)) ?_); rintro _ _ ⟨rfl, rfl⟩
 iterate 2 (refine aL_S rfl rfl v_ ?_)
 refine ay_ rfl rfl v_ rfl vg_ ?_
 refine ay_ rfl rfl v_ rfl vg_ ?_
 iterate 2 (refine aL_S rfl rfl v_ ?_)
 refine ay_ rfl rfl v_ rfl vg_ ?_
 refine ay_ rfl rfl v_ rfl vg_ ?_
 iterate 2 (refine aL_S rfl rfl v_ ?_)
 refine ay_ rfl rfl v_ rfl vg_ ?_
 refine ay_ rfl rfl v_ rfl vg_ ?_
 refine ay_ rfl rfl v_ rfl vg_ ?_
 refine ay_ rfl rfl v_ rfl vg_ ?_
 (refine aL_S rfl rfl v_ ?_)
 refine ac_ ?_
 refine ad_ v_ (fun hc2 => ?_) (fun hc2 => ?_)
 ·replace hc2 := nm_ hc2
  refine ab_ ?_
  refine aa_ kr_ ?_
  (refine aL_S rfl rfl v_ ?_)
  refine av_ rfl rfl rfl v_ v_ h_ g_ rfl g_ c_ (by rfl) le_ v_ ?_
  (refine aL_S rfl rfl v_ ?_)
  refine ac_ ?_
  refine am_ ?_
  refine ai_ (σ' := σ) v_ sub_ ?_
  exact ⟨by rw [dt_, if_pos (by rcases hc2 with ((h | h) | h) | h <;> simp [h])]; rfl, rfl⟩
 ·replace hc2 := nm_ hc2
  refine ah_ ?_
  refine ab_ ?_
  refine aa_ kr_ ?_
  iterate 4 (refine aL_S rfl rfl v_ ?_)
  refine aL_X rfl rfl (ae_ rfl rfl (.inr ⟨rfl, rfl, rfl⟩) g_ va_ (pK_ (by omega) (by omega)) ?_); rintro _ _ ⟨rfl, rfl⟩
  (refine aL_S rfl rfl v_ ?_)
  refine aL_X rfl rfl (ae_ rfl rfl (.inr ⟨rfl, rfl, rfl⟩) g_ va_ (pq_ h0 h1) ?_); rintro _ _ ⟨rfl, rfl⟩
  refine aL_X rfl rfl (ae_ rfl rfl (.inr ⟨rfl, rfl, rfl⟩) g_ va_ (mj_ hs hl h2) ?_); rintro _ _ ⟨rfl, rfl⟩
  iterate 2 (refine aL_S rfl rfl v_ ?_)
  refine av_ rfl rfl rfl v_ v_ h_ g_ rfl g_ c_ (by rfl) le_ v_ ?_
  (refine aL_S rfl rfl v_ ?_)
  refine ac_ ?_
  refine am_ ?_
  refine ai_ (σ' := σ) v_ sub_ ?_
  exact ⟨by rw [dt_, if_neg (by obtain ⟨⟨⟨h1, h2⟩, h3⟩, h4⟩ := hc2; simp [h1, h2]; omega)], rfl⟩
end Go.Proofs.YtkcmbjodladflaaGreatDoor
end

section
set_option linter.all false
set_option maxRecDepth 100000
namespace Go.Proofs.YtkcmbjodladflaaGreatDoor
open Go.Ab
abbrev fOf1 (a b : Nat) : AVal := .fn (.func 141) [] [.ref a 0, .ref b 0]
theorem pZ_ {p q : Nat} {l : List Ent} {t : Bool} {a f : ByteArray} {σ : Store} (hp : σ.heap p = some (.cells [.sl 4 (l.map sEnt) t])) (hq : σ.heap q = some (.cells [vStr a])) (hl : l.length ≤ 1000000) (ha : a.size ≤ 400000) (hf : f.size ≤ 400000) : ao_ Tryz.prog 141 [vStr f, .ref p 0, .ref q 0] σ fun v σ' => v = vStr (getS l (keyS a f)).value ∧ σ = σ' := by
 refine aj_ Tryz.func141 rfl Tryz.ntmps141 (congrArg Array.toList Tryz.results141) (by simp only [List.length_cons, List.length_nil]; decide) ?_; simp only [af_, ak_, Nat.reduceAdd]
 refine ab_ ?_
 refine aa_ kr_ ?_
 (refine aL_S rfl rfl v_ ?_)
 refine ac_ ?_
 refine ab_ ?_
 have R := And.intro hp hq
 refine aG_ (.op 0 0 (.op 1 0 (.op 2 0 (.op 3 1 (.op 4 1 (.op 5 0 (.op 6 0 .nil))))))) Tryz.mixed kr_ ?_
 iterate 3 (refine dR_S o_ (by rfl) (by rfl) v_ ?_)
 refine dR_X o_ (by rfl) (by rfl) (ae_ (by rfl) (by rfl) (.inr ⟨by rfl, by rfl, by rfl⟩) g_ va_ (pK_ ha hf) ?_); rintro _ _ ⟨rfl, rfl⟩; refine ⟨sub_, ?_⟩
 refine dR_X o_ (by rfl) (by rfl) (ae_ (by rfl) (by rfl) (.inr ⟨by rfl, by rfl, by rfl⟩) g_ va_ (nB_ hl) ?_); rintro _ _ ⟨rfl, rfl⟩; refine ⟨sub_, ?_⟩
 iterate 2 (refine dR_S o_ (by rfl) (by rfl) v_ ?_)
 refine aL_ ?_
 refine am_ ?_
 refine ai_ (σ' := σ) v_ sub_ ?_
 exact ⟨rfl, rfl⟩
theorem rE_ {s : ByteArray} {m o : Int} (h : ((numS s).isSome = false ∨ (numS s).getD 0 < 0) ∨ m < (numS s).getD 0) : limN s m o = o := by
 unfold limN
 cases hn : numS s with
 |none => rfl
 |some n =>
  rw [hn] at h
  simp only [Option.isSome_some, Option.getD_some] at h ⊢
  rw [if_neg]
  rcases h with (h | h) | h
  ·cases h
  ·omega
  ·omega
theorem rF_ {s : ByteArray} {m o : Int} (h : ((numS s).isSome = true ∧ 0 ≤ (numS s).getD 0) ∧ (numS s).getD 0 ≤ m) : limN s m o = (numS s).getD 0 := by
 unfold limN
 cases hn : numS s with
 |none => rw [hn] at h; exact absurd h.1.1 (by simp)
 |some n =>
  rw [hn] at h
  simp only [Option.getD_some] at h ⊢
  rw [if_pos ⟨h.1.2, h.2⟩]
theorem nO_ {p q g : Nat} {l : List Ent} {t : Bool} {a f : ByteArray} {σ : Store} (hp : σ.heap p = some (.cells [.sl 4 (l.map sEnt) t])) (hq : σ.heap q = some (.cells [vStr a])) (hg : σ.heap g = some (.cells [fOf1 p q])) (hl : l.length ≤ 1000000) (hs : ∀ x ∈ l, EntSm x) (ha : a.size ≤ 400000) (hf : f.size ≤ 400000) : ao_ Tryz.prog 143 [vStr f, .ref g 0] σ fun v σ' => v = vInt (limS l a f) ∧ σ = σ' := by
 have hv := (fE_ hs (keyS a f)).2
 obtain ⟨r, hr⟩ : ∃ r, numS (getS l (keyS a f)).value = r := ⟨_, rfl⟩
 refine aj_ Tryz.func143 rfl Tryz.ntmps143 (congrArg Array.toList Tryz.results143) (by simp only [List.length_cons, List.length_nil]; decide) ?_; simp only [af_, ak_, Nat.reduceAdd]
 refine ab_ ?_
 refine aa_ kr_ ?_
 (refine aL_S rfl rfl v_ ?_)
 refine ac_ ?_
 refine ab_ ?_
 refine aa_ kr_ ?_
 (refine aL_S rfl rfl v_ ?_)
 refine aL_X rfl rfl (ae_ rfl rfl (.inr ⟨rfl, rfl, rfl⟩) g_ va_ (iV_) ?_); rintro _ _ ⟨rfl, rfl⟩
 iterate 3 (refine aL_S rfl rfl v_ ?_)
 refine aQ_ rfl rfl rfl g_ gl_ fun o4 ho4 => ?_
 repeat (rw [an_] at ho4; obtain ⟨_, ho4⟩ := ho4)
 refine av_ rfl rfl rfl v_ v_ h_ g_ rfl g_ c_ (by rfl) le_ v_ ?_
 (refine aL_S rfl rfl v_ ?_)
 refine ac_ ?_
 have n1 := aT_ hg ho4; have n2 := aT_ hp ho4; have n3 := aT_ hq ho4
 refine ab_ ?_
 have R := hg
 refine aa_ kr_ ?_
 iterate 2 (refine aL_S rfl rfl v_ ?_)
 refine aL_X rfl rfl (ae_ rfl rfl (.inl v_) g_ va_ (pZ_ (p := p) (q := q) (by rw [Store.set_ne _ _ n2, Store.set_ne _ _ n2]; exact hp) (by rw [Store.set_ne _ _ n3, Store.set_ne _ _ n3]; exact hq) hl ha hf) ?_); rintro _ _ ⟨rfl, rfl⟩
 refine aL_X rfl rfl (ae_ rfl rfl (.inr ⟨rfl, rfl, rfl⟩) g_ va_ (pY_ hv) ?_); rintro _ _ ⟨rfl, rfl⟩
 iterate 5 (refine aL_S rfl rfl v_ ?_)
 refine ac_ ?_
 refine ab_ ?_
 refine ab_ ?_
 refine aa_ kr_ ?_
 iterate 3 (refine aL_S rfl rfl v_ ?_)
 refine ay_ rfl rfl v_ rfl vg_ ?_
 refine ay_ rfl rfl v_ rfl vg_ ?_
 iterate 2 (refine aL_S rfl rfl v_ ?_)
 refine ay_ rfl rfl v_ rfl vg_ ?_
 refine ay_ rfl rfl v_ rfl vg_ ?_
 refine ay_ rfl rfl v_ rfl vg_ ?_
 refine ay_ rfl rfl v_ rfl vg_ ?_
 (refine aL_S rfl rfl v_ ?_)
 refine ac_ ?_
 refine ad_ v_ (fun hc3 => ?_) (fun hc3 => ?_)
 ·replace hc3 := nm_ hc3
  refine ab_ ?_
  refine aa_ kr_ ?_
  iterate 3 (refine aL_S rfl rfl v_ ?_)
  refine ac_ ?_
  refine am_ ?_
  refine ai_ (σ' := σ) v_ sub_ ?_
  exact ⟨by rw [limS, rE_ hc3], rfl⟩
 ·replace hc3 := nm_ hc3
  refine ah_ ?_
  refine ab_ ?_
  refine aa_ kr_ ?_
  iterate 2 (refine aL_S rfl rfl v_ ?_)
  refine ac_ ?_
  refine am_ ?_
  refine ai_ (σ' := σ) v_ sub_ ?_
  exact ⟨by rw [limS, rF_ hc3], rfl⟩
theorem mA_ {l : List Ent} {a : ByteArray} (h : aI_ a = false ∨ iE_ (getS l (keyS a bP_)).value = false) : eY_ l a = false := by
 unfold eY_; rcases h with h | h <;> simp [h]
theorem jO_ {l : List Ent} {a : ByteArray} (h : aI_ a = true ∧ iE_ (getS l (keyS a bP_)).value = true) : eY_ l a = true := by
 unfold eY_; rw [h.1, h.2]; rfl
theorem of_c {l : List Ent} {t : Bool} {a : ByteArray} {σ : Store} (hl : l.length ≤ 1000000) (hs : ∀ x ∈ l, EntSm x) (ha : a.size ≤ 400000) : ao_ Tryz.prog 79 [.sl 4 (l.map sEnt) t, vStr a] σ fun v σ' => v = .tup [sTen (tenS l a), vB (eY_ l a)] ∧ σ = σ' := by
 refine aj_ Tryz.func79 rfl Tryz.ntmps79 (congrArg Array.toList Tryz.results79) (by simp only [List.length_cons, List.length_nil]; decide) ?_; simp only [af_, ak_, Nat.reduceAdd]
 refine ab_ ?_
 refine aa_ kr_ ?_
 refine bb_ rfl rfl rfl v_ rfl g_ fun o2 ho2 => ?_
 repeat (rw [an_] at ho2; obtain ⟨_, ho2⟩ := ho2)
 refine bb_ rfl rfl rfl v_ rfl g_ fun o3 ho3 => ?_
 repeat (rw [an_] at ho3; obtain ⟨_, ho3⟩ := ho3)
 refine aQ_ rfl rfl rfl g_ gl_ fun o4 ho4 => ?_
 repeat (rw [an_] at ho4; obtain ⟨_, ho4⟩ := ho4)
 (refine aL_S rfl rfl v_ ?_)
 refine ac_ ?_
 refine ab_ ?_
 refine aa_ kr_ ?_
 (refine aL_S rfl rfl v_ ?_)
 refine aQ_ rfl rfl rfl g_ gl_ fun o6 ho6 => ?_
 repeat (rw [an_] at ho6; obtain ⟨_, ho6⟩ := ho6)
 refine av_ rfl rfl rfl v_ v_ h_ g_ rfl g_ c_ (by rfl) le_ v_ ?_
 refine ac_ ?_
 refine ab_ ?_
 refine aa_ kr_ ?_
 iterate 2 (refine aL_S rfl rfl v_ ?_)
 refine ac_ ?_
 refine ab_ ?_
 refine ab_ ?_
 refine aa_ kr_ ?_
 (refine aL_S rfl rfl v_ ?_)
 refine aL_X rfl rfl (ae_ rfl rfl (.inr ⟨rfl, rfl, rfl⟩) g_ va_ (bf_ (by omega)) ?_); rintro _ _ ⟨rfl, rfl⟩
 iterate 2 (refine aL_S rfl rfl v_ ?_)
 refine ay_ rfl rfl v_ rfl vg_ ?_
 refine bQ_ rfl rfl v_ rfl (fun hb => aK_ (by rfl) (by rfl) (.inl vh_) g_ cg_ (pZ_ (f := bP_) h_ h_ hl ha (by decide))) ?_
 refine bQ_ rfl rfl v_ rfl (fun hb => aK_ (by rfl) (by rfl) (.inr ⟨by rfl, by rfl, by rfl⟩) g_ cg_ (gq_)) ?_
 refine ay_ rfl rfl v_ rfl vg_ ?_
 (refine aL_S rfl rfl v_ ?_)
 refine ac_ ?_
 refine ad_ v_ (fun hc3 => ?_) (fun hc3 => ?_)
 ·replace hc3 := nm_ hc3
  refine ab_ ?_
  refine aa_ kr_ ?_
  (refine aL_S rfl rfl v_ ?_)
  refine av_ rfl rfl rfl v_ v_ h_ g_ rfl g_ c_ (by rfl) le_ v_ ?_
  (refine aL_S rfl rfl v_ ?_)
  refine ac_ ?_
  refine am_ ?_
  refine ai_ (σ' := σ) v_ sub_ ?_
  exact ⟨by rw [tenS, if_neg (by rw [mA_ hc3]; simp), mA_ hc3]; rfl, rfl⟩
 ·replace hc3 := nm_ hc3
  refine ah_ ?_
  refine ab_ ?_
  refine aG_ (.op 0 0 (.op 1 0 (.op 3 0 (.op 5 0 (.op 7 0 (.op 9 0 (.op 2 1 (.op 4 1 (.op 6 1 (.op 8 1 (.op 10 1 (.op 11 0 (.op 12 2 (.op 13 0 .nil)))))))))))))) Tryz.mixed kr_ ?_
  iterate 6 (refine dR_S o_ (by rfl) (by rfl) v_ ?_)
  refine dR_X o_ (by rfl) (by rfl) (ae_ (by rfl) (by rfl) (.inl v_) g_ va_ (pZ_ (f := bP_) h_ h_ hl ha (by decide)) ?_); rintro _ _ ⟨rfl, rfl⟩; refine ⟨sub_, ?_⟩
  refine dR_X o_ (by rfl) (by rfl) (ae_ (by rfl) (by rfl) (.inl v_) g_ va_ (nO_ (p := o2) (q := o3) (g := o6) (f := cS_) h_ h_ h_ hl hs ha (by decide)) ?_); rintro _ _ ⟨rfl, rfl⟩; refine ⟨sub_, ?_⟩
  refine dR_X o_ (by rfl) (by rfl) (ae_ (by rfl) (by rfl) (.inl v_) g_ va_ (nO_ (p := o2) (q := o3) (g := o6) (f := es_) h_ h_ h_ hl hs ha (by decide)) ?_); rintro _ _ ⟨rfl, rfl⟩; refine ⟨sub_, ?_⟩
  refine dR_X o_ (by rfl) (by rfl) (ae_ (by rfl) (by rfl) (.inl v_) g_ va_ (nO_ (p := o2) (q := o3) (g := o6) (f := dB_) h_ h_ h_ hl hs ha (by decide)) ?_); rintro _ _ ⟨rfl, rfl⟩; refine ⟨sub_, ?_⟩
  refine dR_X o_ (by rfl) (by rfl) (ae_ (by rfl) (by rfl) (.inl v_) g_ va_ (nO_ (p := o2) (q := o3) (g := o6) (f := ef_) h_ h_ h_ hl hs ha (by decide)) ?_); rintro _ _ ⟨rfl, rfl⟩; refine ⟨sub_, ?_⟩
  (refine dR_S o_ (by rfl) (by rfl) v_ ?_)
  refine aM_ o_ (by rfl) (by rfl) (by rfl) v_ v_ h_ g_ rfl g_ c_ (by rfl) le_ v_ ?_
  (refine dR_S o_ (by rfl) (by rfl) v_ ?_)
  refine aL_ ?_
  refine am_ ?_
  refine ai_ (σ' := σ) v_ sub_ ?_
  exact ⟨by rw [tenS, if_pos (jO_ hc3), jO_ hc3], rfl⟩
end Go.Proofs.YtkcmbjodladflaaGreatDoor
end

section
set_option linter.all false
set_option maxRecDepth 100000
namespace Go.Ab
end Go.Ab
namespace Go.Proofs.YtkcmbjodladflaaGreatDoor
open Go.Ab
theorem jK_ {σ : Store} {i j : Nat} {x y : AObj} (h : i ≠ j) : (σ.set i x).set j y = (σ.set j y).set i x := by
 unfold Store.set
 congr 1
 funext k
 by_cases h1 : k = j
 ·subst h1; simp [Ne.symm h]
 ·by_cases h2 : k = i
  ·subst h2; simp [h]
  ·simp [h1, h2]
theorem pj_ {σ0 σ : Store} {sz : Nat} {l : List AVal} {a : AVal} (h : CBp σ0 σ sz l a) {i : Nat} {x : AObj} (hi : σ.heap i = none) : CBp (σ0.set i x) (σ.set i x) sz l a := by
 rcases h with ⟨h1, h2, rfl⟩ | ⟨o, ho, h1, rfl⟩
 ·exact .inl ⟨h1, h2, rfl⟩
 ·have hne : i ≠ o := fun hh => by rw [hh, Store.set_get] at hi; cases hi
  exact .inr ⟨o, by rw [Store.set_ne _ _ (Ne.symm hne)]; exact ho, h1, jK_ (Ne.symm hne)⟩
theorem cr_ {σ0 σ : Store} {sz : Nat} {l : List AVal} {a : AVal} (h : CBp σ0 σ sz l a) {i : Nat} {x y : AObj} (hi : σ.heap i = none) : CBp (σ0.set i y) ((σ.set i x).set i y) sz l a := by
 rw [Store.set_set]; exact pj_ h hi
theorem b2_ {σ σ' : Store} {sz : Nat} {l : List AVal} {a : AVal} {i : Nat} {y : AObj} (h : CBp (σ.set i y) σ' sz l a) (hi : σ.heap i = none) : ∃ τ, CBp σ τ sz l a ∧ τ.Sub σ' := by
 have hsub : ∀ τ : Store, τ.heap i = none → τ.Sub (τ.set i y) := fun τ hτ => ⟨fun j x hx => by rw [Store.set_ne _ _ (fun hh => by rw [hh, hτ] at hx; cases hx)]; exact hx, fun _ _ h => h⟩
 rcases h with ⟨h1, h2, rfl⟩ | ⟨o, ho, h1, rfl⟩
 ·exact ⟨σ, .inl ⟨h1, h2, rfl⟩, hsub σ hi⟩
 ·have hne : o ≠ i := fun hh => by rw [hh, Store.set_get] at ho; cases ho
  rw [Store.set_ne _ _ hne] at ho
  refine ⟨σ.set o (.cells (flat l)), .inr ⟨o, ho, h1, rfl⟩, ?_⟩
  rw [jK_ (Ne.symm hne)]
  exact hsub _ (by rw [Store.set_ne _ _ (Ne.symm hne)]; exact hi)
theorem iq_ {P : Program} {f : FuncId} {args : List AVal} {σ : Store} {sz : Nat} {l : List AVal} (h : ao_ P f args σ fun v σ' => ∃ σ1, CBp σ1 σ' sz l v ∧ σ.Sub σ1) (hs : ∀ x ∈ l, x.cells.length = sz) : ao_ P f args σ fun v σ' => v = .sl sz l false ∧ σ = σ' := by
 refine h.after ?_
 rintro κ a σ' cv hI hr ⟨σ1, hC, hsub⟩
 rcases hC with ⟨rfl, rfl, rfl⟩ | ⟨o, ho, rfl, rfl⟩
 ·exact ⟨κ, _, _, rfl, .refl κ, hI.sub hsub, hr.wk (.nil sz false), rfl, rfl⟩
 ·obtain ⟨κ', h1, h2, h3, h4⟩ := Ab.freeze hI hr (Store.set_get ..) (l := l) (by rw [List.take_of_length_le (by rw [aU_ hs]; exact Nat.le_refl _)]) rfl hs
  rw [Store.set_del ho] at h3
  exact ⟨κ', _, _, h1, h2, h3.sub hsub, h4, rfl, rfl⟩
theorem b5_ {σ0 σ : Store} {sz : Nat} {l : List AVal} {a : AVal} (h : CBp σ0 σ sz l a) {i : Nat} (hi : σ.heap i = none) : σ0.heap i = none := by
 cases hh : σ0.heap i with
 |none => rfl
 |some y => have := h.sub.heap i y hh; rw [hi] at this; cases this
end Go.Proofs.YtkcmbjodladflaaGreatDoor
end

section
set_option linter.all false
set_option maxRecDepth 100000
namespace Go.Proofs.YtkcmbjodladflaaGreatDoor
open Go.Ab
theorem lq_ {α : Type} [Inhabited α] (l : List α) (k : Nat) : ∃ x : α, k < l.length → l[k]? = some x := by
 by_cases h : k < l.length
 ·exact ⟨l[k], fun _ => List.getElem?_eq_getElem h⟩
 ·exact ⟨default, fun h' => absurd h' h⟩
def hpS (s p : ByteArray) : Bool := decide (p.size ≤ s.size) && decide (s.extract 0 p.size = p)
theorem eK_ {s p : ByteArray} {σ : Store} : ao_ Tryz.prog 203 [vStr s, vStr p] σ fun v σ' => v = vB (hpS s p) ∧ σ = σ' := by
 refine aj_ Tryz.func203 rfl Tryz.ntmps203 (congrArg Array.toList Tryz.results203) (by simp only [List.length_cons, List.length_nil]; decide) ?_; simp only [af_, ak_, Nat.reduceAdd]
 refine ab_ ?_
 refine aa_ kr_ ?_
 (refine aL_S rfl rfl v_ ?_)
 refine ac_ ?_
 refine ab_ ?_
 refine aa_ kr_ ?_
 iterate 6 (refine aL_S rfl rfl v_ ?_)
 refine aC_ rfl rfl v_ rfl vg_ ?_
 refine aC_ rfl rfl v_ rfl vg_ ?_
 refine aC_ rfl rfl v_ rfl vg_ ?_
 refine aC_ rfl rfl v_ rfl vg_ ?_
 refine aC_ rfl rfl v_ rfl vg_ ?_
 refine aC_ rfl rfl v_ rfl vg_ ?_
 iterate 2 (refine aL_S rfl rfl v_ ?_)
 refine ac_ ?_
 refine am_ ?_
 refine ai_ (σ' := σ) v_ sub_ ?_
 refine ⟨?_, rfl⟩
 unfold hpS
 by_cases h1 : p.size ≤ s.size <;> simp [h1]
theorem ir_ {s p : ByteArray} {σ : Store} : ao_ Tryz.prog 174 [vStr s, vStr p] σ fun v σ' => v = vB (hpS s p) ∧ σ = σ' := by
 refine aj_ Tryz.func174 rfl Tryz.ntmps174 (congrArg Array.toList Tryz.results174) (by simp only [List.length_cons, List.length_nil]; decide) ?_; simp only [af_, ak_, Nat.reduceAdd]
 refine ab_ ?_
 refine aa_ kr_ ?_
 (refine aL_S rfl rfl v_ ?_)
 refine ac_ ?_
 refine ab_ ?_
 refine aa_ kr_ ?_
 iterate 2 (refine aL_S rfl rfl v_ ?_)
 refine aL_X rfl rfl (ae_ rfl rfl (.inr ⟨rfl, rfl, rfl⟩) g_ va_ (eK_) ?_); rintro _ _ ⟨rfl, rfl⟩
 (refine aL_S rfl rfl v_ ?_)
 refine ac_ ?_
 refine am_ ?_
 refine ai_ (σ' := σ) v_ sub_ ?_
 exact ⟨rfl, rfl⟩
theorem gR_ {s : ByteArray} {p : List UInt8} : hpS s (B p) = true ↔ ∃ r, Lb s = p ++ r := by
  unfold hpS
  rw [Bool.and_eq_true, decide_eq_true_eq, decide_eq_true_eq, cK_]
  constructor
  · rintro ⟨h1, h2⟩
    have := congrArg Lb h2
    rw [bM_, Lb_B, Lb_B, List.drop_zero] at this
    exact ⟨(Lb s).drop p.length, by conv => rhs; rw [← this]
                                    rw [List.length_take, Nat.min_eq_left (by rw [aB_]; exact h1), List.take_append_drop]⟩
  · rintro ⟨r, h⟩
    refine ⟨by rw [← aB_, h, List.length_append]; omega, ?_⟩
    apply fn_
    rw [bM_, Lb_B, Lb_B, List.drop_zero, h, List.take_left]
theorem oo_ {q : Nat} {x : Ent} {s : ByteArray} {σ : Store} (hq : σ.heap q = some (.cells [vStr s])) (hs : s.size ≤ 1000000) : ao_ Tryz.prog 173 [sEnt x, .ref q 0] σ fun v σ' => v = vB (!hpS x.key (s ++ ⟨#[47]⟩)) ∧ σ = σ' := by
 have e1 := eq_ s ⟨#[47]⟩ (by rw [show (ByteArray.mk #[47]).size = 1 from rfl]; omega)
 refine aj_ Tryz.func173 rfl Tryz.ntmps173 (congrArg Array.toList Tryz.results173) (by simp only [List.length_cons, List.length_nil]; decide) ?_; simp only [af_, ak_, Nat.reduceAdd]
 refine ab_ ?_
 refine aa_ kr_ ?_
 refine bb_ rfl rfl rfl v_ rfl g_ fun o2 ho2 => ?_
 repeat (rw [an_] at ho2; obtain ⟨_, ho2⟩ := ho2)
 (refine aL_S rfl rfl v_ ?_)
 refine ac_ ?_
 have n3 := aT_ hq ho2
 refine ab_ ?_
 have R := And.intro hq e1
 refine aa_ kr_ ?_
 iterate 4 (refine aL_S rfl rfl v_ ?_)
 refine aL_X rfl rfl (ae_ rfl rfl (.inr ⟨rfl, rfl, rfl⟩) g_ va_ (ir_) ?_); rintro _ _ ⟨rfl, rfl⟩
 iterate 2 (refine aL_S rfl rfl v_ ?_)
 refine ac_ ?_
 refine am_ ?_
 refine ai_ (σ' := σ) v_ sub_ ?_
 exact ⟨rfl, rfl⟩
theorem p7_ {q : Nat} {s : ByteArray} {σ : Store} (hq : σ.heap q = some (.cells [vStr s])) (hs : s.size ≤ 1000000) : PFEn 173 [.ref q 0] σ fun x => !hpS x.key (s ++ ⟨#[47]⟩) := ⟨by kernel_rfl, fun τ h x => oo_ (h _ _ hq) hs⟩
def undS (l : List Ent) (s : ByteArray) : List Ent := l.filter fun x => hpS x.key (s ++ ⟨#[47]⟩)
theorem hb_ {l : List Ent} {t : Bool} {s : ByteArray} {σ : Store} (hl : l.length ≤ 1000000) (hs : s.size ≤ 1000000) : ao_ Tryz.prog 125 [.sl 4 (l.map sEnt) t, vStr s] σ fun v σ' => v = .sl 4 ((undS l s).map sEnt) false ∧ σ = σ' := by
 refine aj_ Tryz.func125 rfl Tryz.ntmps125 (congrArg Array.toList Tryz.results125) (by simp only [List.length_cons, List.length_nil]; decide) ?_; simp only [af_, ak_, Nat.reduceAdd]
 refine ab_ ?_
 refine aa_ kr_ ?_
 refine bb_ rfl rfl rfl v_ rfl g_ fun o3 ho3 => ?_
 repeat (rw [an_] at ho3; obtain ⟨_, ho3⟩ := ho3)
 (refine aL_S rfl rfl v_ ?_)
 refine ac_ ?_
 refine ab_ ?_
 refine aa_ kr_ ?_
 (refine aL_S rfl rfl v_ ?_)
 refine aL_X rfl rfl (ae_ rfl rfl (.inr ⟨rfl, rfl, rfl⟩) g_ va_ (pm_ hl) ?_); rintro _ τ0 hC0
 (refine aL_S rfl rfl v_ ?_)
 refine aL_X rfl rfl (ae_ rfl rfl (.inr ⟨rfl, rfl, rfl⟩) g_ va_ (nq_ (p7_ (s := s) h_ hs) hC0 hl) ?_); rintro _ _ ⟨rfl, rfl⟩
 (refine aL_S rfl rfl v_ ?_)
 refine ac_ ?_
 refine am_ ?_
 refine ai_ (σ' := σ) v_ sub_ ?_
 exact ⟨by simp [undS], rfl⟩
def tnU (l : List Ent) (k : ByteArray) : Option ByteArray := match aH_ k with | [_, b, c] => if c = bP_ ∧ eY_ l b = true then some b else none | _ => none
theorem r6_ {l : List Ent} {k : ByteArray} : tnK l k = if hpS k (aR_ ++ ⟨#[47]⟩) = true then tnU l k else none := by
 have e0 : aR_ ++ ⟨#[47]⟩ = B (Lb aR_ ++ [47]) := by rw [← df_, B_Lb]; rfl
 have h47 : ∀ c ∈ Lb aR_, c ≠ 47 := by decide
 rw [e0]
 unfold tnK tnU
 by_cases hp : hpS k (B (Lb aR_ ++ [47])) = true
 ·rw [if_pos hp]
  obtain ⟨r, hr⟩ := gR_.1 hp
  have hk : k = B (Lb aR_ ++ 47 :: Lb (B r)) := by apply fn_; rw [hr, Lb_B, Lb_B]; simp
  rw [hk, hS_ h47]
  split
  ·rename_i a b c he
   injection he with h1 h2
   rw [← h1, h2]
   simp
  ·rename_i hno
   split
   ·rename_i a b c he
    exact absurd he (hno _ _ _)
   ·rfl
 ·rw [if_neg hp]
  split
  ·rename_i a b c he
   rw [if_neg]
   rintro ⟨rfl, _⟩
   apply hp
   unfold aH_ at he
   split at he
   ·cases he
   ·cases hs : aY_ (Lb k) with
    |nil => exact absurd hs (fU_ _)
    |cons p q =>
     cases q with
     |nil => rw [hs] at he; cases he
     |cons q r =>
      rw [hs] at he
      simp only [List.map_cons] at he
      injection he with h1 h2
      obtain ⟨b', e1, _⟩ := gA_ hs
      have e2 : p = Lb aR_ := by rw [← h1, Lb_B]
      exact gR_.2 ⟨b', by rw [e1, e2]; simp⟩
  ·rfl
theorem fD_ {α β : Type} {p : α → Bool} {f g : α → Option β} (h : ∀ x, g x = if p x = true then f x else none) : ∀ l : List α, (l.filter p).filterMap f = l.filterMap g
 |[] => rfl
 |x :: l => by
  rw [List.filterMap_cons, h x]
  cases hp : p x with
  |true => rw [List.filter_cons_of_pos hp, List.filterMap_cons, if_pos rfl, fD_ h l]
  |false => rw [List.filter_cons_of_neg (by simp [hp]), if_neg (by simp), fD_ h l]
theorem mD_ (l : List Ent) : (undS l aR_).filterMap (fun x => tnU l x.key) = l.filterMap fun x => tnK l x.key := fD_ (fun x => r6_) l
theorem jP_ {l : List Ent} {k b c : ByteArray} (h3 : (aH_ k).length = 3) (h1 : (aH_ k)[1]? = some b) (h2 : (aH_ k)[2]? = some c) : tnU l k = if c = bP_ ∧ eY_ l b = true then some b else none := by
 unfold tnU
 obtain ⟨a', b', c', e⟩ : ∃ a b c, aH_ k = [a, b, c] := by
  match hp : aH_ k, h3 with
  |[a, b, c], _ => exact ⟨a, b, c, rfl⟩
 rw [e] at h1 h2 ⊢
 simp only [List.getElem?_cons_succ, List.getElem?_cons_zero, Option.some.injEq] at h1 h2
 subst h1; subst h2; rfl
theorem on_ {l : List Ent} {k : ByteArray} (h3 : ¬(aH_ k).length = 3) : tnU l k = none := by
 unfold tnU
 split
 ·rename_i a b c e; rw [e] at h3; simp at h3
 ·rfl
theorem gQ_ {α β : Type} {f : α → Option β} {l : List α} {k : Nat} {x : α} (h : l[k]? = some x) : (l.take (k + 1)).filterMap f = (l.take k).filterMap f ++ (f x).toList := by
 rw [aX_ h, List.filterMap_append, List.filterMap_cons]
 cases f x <;> rfl
theorem dL_ (l : List Ent) (s : ByteArray) : (undS l s).length ≤ l.length := List.length_filter_le ..
theorem mF_ {l : List Ent} {s : ByteArray} (h : ∀ x ∈ l, EntSm x) : ∀ x ∈ undS l s, EntSm x := fun x hx => h x (List.mem_filter.1 hx).1
set_option maxHeartbeats 2000000 in
theorem sL_ {l : List Ent} {t : Bool} {σ : Store} (hl : l.length ≤ 1000000) (hs : ∀ x ∈ l, EntSm x) (hks : ∀ x ∈ l, x.key.size ≤ 400000) : ao_ Tryz.prog 78 [.sl 4 (l.map sEnt) t] σ fun v σ' => v = .sl 1 ((allS l).map vStr) false ∧ σ = σ' := by
 obtain ⟨U, hU⟩ : ∃ U, undS l aR_ = U := ⟨_, rfl⟩
 have hUl := dL_ l aR_
 have hUs := mF_ (s := aR_) hs
 have hsub : ∀ x ∈ undS l aR_, x ∈ l := fun x hx => (List.mem_filter.1 hx).1
 rw [hU] at hUl hUs hsub
 have hall : bC_ (bK_ (U.filterMap fun x => tnU l x.key)) = allS l := by rw [← hU, mD_]; rfl
 refine aj_ Tryz.func78 rfl Tryz.ntmps78 (congrArg Array.toList Tryz.results78) (by simp only [List.length_cons, List.length_nil]; decide) ?_; simp only [af_, ak_, Nat.reduceAdd]
 refine ab_ ?_
 refine aa_ kr_ ?_
 (refine aL_S rfl rfl v_ ?_)
 refine ac_ ?_
 refine ab_ ?_
 refine aa_ kr_ ?_
 (refine aL_S rfl rfl v_ ?_)
 refine ac_ ?_
 refine ab_ ?_
 refine ab_ ?_
 refine aa_ kr_ ?_
 (refine aL_S rfl rfl v_ ?_)
 refine aL_X rfl rfl (ae_ rfl rfl (.inr ⟨rfl, rfl, rfl⟩) g_ va_ (hb_ (s := aR_) hl (by decide)) ?_); rintro _ _ ⟨rfl, rfl⟩
 iterate 2 (refine aL_S rfl rfl v_ ?_)
 refine ac_ ?_
 rw [hU]
 refine al_ ?_
 refine ap_ (ι := Store × AVal × Nat) (fun ⟨τ, g, k⟩ => U.length - k) (fun ⟨τ, g, k⟩ => k ≤ U.length ∧ CBp σ τ 1 (((U.take k).filterMap fun x => tnU l x.key).map vStr) g) (fun ⟨τ, g, k⟩ => [(0, .sl 4 (l.map sEnt) t), (3, g), (10, .sl 4 (U.map sEnt) false), (11, vInt U.length), (12, vInt k)]) (fun ⟨τ, g, k⟩ => τ) (σ, vNil, 0) ?_ ?_ ?_ ?_
 ·exact ⟨Nat.zero_le _, .inl ⟨rfl, rfl, rfl⟩⟩
 ·exact cv_
 ·exact Store.Wk.refl _
 rintro ⟨τ, g, k⟩ ⟨hk, hC⟩
 simp only [ar_, au_]
 refine ab_ ?_
 refine aa_ kr_ ?_
 (refine aL_S rfl rfl v_ ?_)
 refine ac_ ?_
 refine ab_ ?_
 refine ad_ v_ (fun hc3 => ?_) (fun hc3 => ?_)
 ·replace hc3 := nm_ hc3
  refine ah_ ?_
  refine ab_ ?_
  refine al_ ?_
  refine ab_ ?_
  obtain ⟨x, hx⟩ := aA_ (l := U) (k := k) (by omega)
  have hxs := hUs x (List.mem_of_getElem? hx)
  have hsn := gQ_ (f := fun x : Ent => tnU l x.key) hx
  have hle : ((U.take k).filterMap fun x => tnU l x.key).length ≤ U.length := Nat.le_trans (List.length_filterMap_le ..) (by rw [List.length_take]; omega)
  have hpl := dT_ x.key
  have hkz := hxs.key
  obtain ⟨b, hb⟩ := lq_ (aH_ x.key) 1
  obtain ⟨c, hc⟩ := lq_ (aH_ x.key) 2
  have R := hx
  refine aa_ kr_ ?_
  iterate 2 (refine aL_S rfl rfl v_ ?_)
  refine aQ_ rfl rfl rfl g_ gl_ fun o5 ho5 => ?_
  repeat (rw [an_] at ho5; obtain ⟨_, ho5⟩ := ho5)
  refine av_ rfl rfl rfl v_ v_ h_ g_ rfl g_ c_ (by rfl) le_ v_ ?_
  refine ac_ ?_
  skip
  have n5 := b5_ hC ho5
  have hC1 := cr_ (x := .cells [.lit (.string ⟨#[]⟩), vInt 0, .lit (.string ⟨#[]⟩), .lit (.string ⟨#[]⟩)]) (y := .cells (sEnt x).cells) hC ho5
  refine ab_ ?_
  refine aa_ kr_ ?_
  iterate 2 (refine aL_S rfl rfl v_ ?_)
  refine aL_X rfl rfl (ae_ rfl rfl (.inr ⟨rfl, rfl, rfl⟩) g_ va_ (gZ_ hkz) ?_); rintro _ _ ⟨rfl, rfl⟩
  (refine aL_S rfl rfl v_ ?_)
  refine ac_ ?_
  refine ab_ ?_
  refine ab_ ?_
  have R := hc
  refine aa_ kr_ ?_
  iterate 4 (refine aL_S rfl rfl v_ ?_)
  refine ay_ rfl rfl v_ rfl vg_ ?_
  refine ay_ rfl rfl v_ rfl vg_ ?_
  refine ay_ rfl rfl v_ rfl vg_ ?_
  refine ay_ rfl rfl v_ rfl vg_ ?_
  (refine aL_S rfl rfl v_ ?_)
  refine ac_ ?_
  refine ad_ v_ (fun hc6 => ?_) (fun hc6 => ?_)
  ·replace hc6 := nm_ hc6
   skip
   have hcov : (U.take (k + 1)).filterMap (fun x => tnU l x.key) = (U.take k).filterMap fun x => tnU l x.key := by
    rw [hsn]
    by_cases h3 : (aH_ x.key).length = 3
    ·rw [jP_ h3 (hb (by omega)) (hc (by omega)), if_neg (fun hh => by rcases hc6 with h | h; omega; exact h hh.1)]; simp
    ·rw [on_ h3]; simp
   refine ax_ ?_
   refine ag_ ?_
   refine aq_ ?_
   refine aa_ kr_ ?_
   iterate 2 (refine aL_S rfl rfl v_ ?_)
   refine ac_ ?_
   refine aJ_ (ι := Store × AVal × Nat) (i := ⟨τ, g, k⟩) (τ, g, k + 1) ?_ ?_ ?_ ?_
   ·show U.length - (k + 1) < U.length - k; omega
   ·exact ⟨by show k + 1 ≤ U.length; omega, by rw [hcov]; exact hC⟩
   ·exact cv_
   ·exact sub_
  ·replace hc6 := nm_ hc6
   have h3 : (aH_ x.key).length = 3 := by omega
   have hb' := hb (by omega)
   have hbs : b.size ≤ 400000 := Nat.le_trans (c9_ (List.mem_of_getElem? hb')).2 (hks x (hsub x (List.mem_of_getElem? hx)))
   have htn := jP_ (l := l) h3 hb' (hc (by omega))
   refine ah_ ?_
   refine ab_ ?_
   have R := hb'
   refine aa_ kr_ ?_
   iterate 4 (refine aL_S rfl rfl v_ ?_)
   refine aL_X rfl rfl (ae_ rfl rfl (.inr ⟨rfl, rfl, rfl⟩) g_ va_ (of_c hl hs hbs) ?_); rintro _ _ ⟨rfl, rfl⟩
   iterate 3 (refine aL_S rfl rfl v_ ?_)
   refine aQ_ rfl rfl rfl g_ gl_ fun o7 ho7 => ?_
   repeat (rw [an_] at ho7; obtain ⟨_, ho7⟩ := ho7)
   refine av_ rfl rfl rfl v_ v_ h_ g_ rfl g_ c_ (by rfl) le_ v_ ?_
   (refine aL_S rfl rfl v_ ?_)
   refine ac_ ?_
   skip
   have n7 := b5_ hC1 (i := o7) (by rw [Store.set_ne _ _ (by assumption), Store.set_ne _ _ (by assumption)]; exact ho7)
   have hC2 := cr_ (x := .cells [.lit (.string ⟨#[]⟩), .lit (.string ⟨#[]⟩), vInt 0, vInt 0, vInt 0, vInt 0]) (y := .cells (sTen (tenS l b)).cells) hC1 (i := o7) (by rw [Store.set_ne _ _ (by assumption), Store.set_ne _ _ (by assumption)]; exact ho7)
   refine ab_ ?_
   refine aa_ kr_ ?_
   (refine aL_S rfl rfl v_ ?_)
   refine ac_ ?_
   refine ad_ v_ (fun hc8 => ?_) (fun hc8 => ?_)
   ·replace hc8 := nm_ hc8
    have hcov : (U.take (k + 1)).filterMap (fun x => tnU l x.key) = (U.take k).filterMap (fun x => tnU l x.key) ++ [b] := by rw [hsn, htn, if_pos ⟨hc6.2, hc8⟩]; rfl
    have R := hb'
    refine aa_ kr_ ?_
    iterate 4 (refine aL_S rfl rfl v_ ?_)
    refine aw_ rfl rfl rfl g_ g_ rfl rfl h_ c2_ (by decide) ?_
    refine aL_X rfl rfl (bz_ rfl g_ g_ hC2 va_ (fun y hy => by obtain ⟨s, _, rfl⟩ := List.mem_map.1 hy; rfl) va_ c_ (by simp; omega) fun a' σ' hC3 => ?_)
    rw [show ((U.take k).filterMap fun x => tnU l x.key).map vStr ++ [vStr b] = ((U.take k).filterMap (fun x => tnU l x.key) ++ [b]).map vStr from by simp] at hC3
    obtain ⟨τ1, hC4, hs1⟩ := b2_ hC3 n7
    obtain ⟨τ2, hC5, hs2⟩ := b2_ hC4 n5
    (refine aL_S rfl rfl v_ ?_)
    refine ac_ ?_
    refine aa_ kr_ ?_
    iterate 2 (refine aL_S rfl rfl v_ ?_)
    refine ac_ ?_
    refine aJ_ (ι := Store × AVal × Nat) (i := ⟨τ, g, k⟩) (τ2, a', k + 1) ?_ ?_ ?_ ?_
    ·show U.length - (k + 1) < U.length - k; omega
    ·exact ⟨by show k + 1 ≤ U.length; omega, by rw [hcov]; exact hC5⟩
    ·exact cv_
    ·exact (hs2.trans hs1).wk
   ·replace hc8 := nm_ hc8
    have hcov : (U.take (k + 1)).filterMap (fun x => tnU l x.key) = (U.take k).filterMap fun x => tnU l x.key := by rw [hsn, htn, if_neg (by simp [hc8])]; simp
    refine ah_ ?_
    refine aa_ kr_ ?_
    iterate 2 (refine aL_S rfl rfl v_ ?_)
    refine ac_ ?_
    refine aJ_ (ι := Store × AVal × Nat) (i := ⟨τ, g, k⟩) (τ, g, k + 1) ?_ ?_ ?_ ?_
    ·show U.length - (k + 1) < U.length - k; omega
    ·exact ⟨by show k + 1 ≤ U.length; omega, by rw [hcov]; exact hC⟩
    ·exact cv_
    ·exact sub_
 ·replace hc3 := nm_ hc3
  refine ax_ ?_
  refine ag_ ?_
  refine ag_ ?_
  refine aq_ ?_
  refine ab_ ?_
  obtain rfl : k = U.length := by omega
  rw [List.take_length] at hC
  have hle : (U.filterMap fun x => tnU l x.key).length ≤ U.length := List.length_filterMap_le ..
  refine aa_ kr_ ?_
  (refine aL_S rfl rfl v_ ?_)
  refine aL_X rfl rfl (ae_ rfl rfl (.inr ⟨rfl, rfl, rfl⟩) g_ va_ (g8_ hC (by omega)) ?_); rintro _ τ1 ⟨rfl, hC4⟩
  refine ac_ ?_
  refine ab_ ?_
  refine aa_ kr_ ?_
  (refine aL_S rfl rfl v_ ?_)
  refine aL_X rfl rfl (ae_ rfl rfl (.inr ⟨rfl, rfl, rfl⟩) g_ va_ (eg_ (ss := bK_ (U.filterMap fun x => tnU l x.key)) hC4 (by simp [bK_]; omega) (by refine Nat.le_trans (dO_ _) (by simp))) ?_); rintro _ _ ⟨rfl, rfl⟩
  (refine aL_S rfl rfl v_ ?_)
  refine ac_ ?_
  refine am_ ?_
  refine ai_ v_ (Store.Wk.refl _) ?_
  exact ⟨by rw [hall], rfl⟩
def anR (l m : List Ent) : List ByteArray := (m.filterMap fun x => tnK l x.key).foldl (fun acc s => insS s acc) []
theorem qR_ (l : List Ent) : anR l l = allS l := jc_ _
end Go.Proofs.YtkcmbjodladflaaGreatDoor
end

section
set_option linter.all false
set_option maxRecDepth 100000
namespace Go.Proofs.YtkcmbjodladflaaGreatDoor
open Go.Ab
theorem iD_ {a : List ByteArray} {t1 t2 : Bool} {σ : Store} (hl : a.length ≤ 1000000) : ao_ Tryz.prog 70 [.sl 1 (a.map vStr) t1, .sl 1 (a.map vStr) t2] σ fun v σ' => v = vB true ∧ σ = σ' := by
 refine aj_ Tryz.func70 rfl Tryz.ntmps70 (congrArg Array.toList Tryz.results70) (by simp only [List.length_cons, List.length_nil]; decide) ?_; simp only [af_, ak_, Nat.reduceAdd]
 refine ab_ ?_
 refine aa_ kr_ ?_
 (refine aL_S rfl rfl v_ ?_)
 refine ac_ ?_
 refine ab_ ?_
 refine ab_ ?_
 refine aa_ kr_ ?_
 iterate 5 (refine aL_S rfl rfl v_ ?_)
 refine ac_ ?_
 refine ad_ v_ (fun hc1 => ?_) (fun hc1 => ?_)
 ·replace hc1 := nm_ hc1
  simp at hc1
 ·replace hc1 := nm_ hc1
  refine ah_ ?_
  refine ab_ ?_
  refine ab_ ?_
  refine aa_ kr_ ?_
  (refine aL_S rfl rfl v_ ?_)
  refine ac_ ?_
  refine al_ ?_
  refine ap_ (ι := Nat) (fun k => a.length - k) (fun k => k ≤ a.length) (fun k => [(0, .sl 1 (a.map vStr) t1), (1, .sl 1 (a.map vStr) t2), (5, vInt k)]) (fun k => σ) 0 ?_ ?_ ?_ ?_
  ·exact Nat.zero_le _
  ·exact cv_
  ·exact sub_
  rintro k hk
  simp only [ar_, au_]
  refine ab_ ?_
  refine ab_ ?_
  refine aa_ kr_ ?_
  iterate 5 (refine aL_S rfl rfl v_ ?_)
  refine aC_ rfl rfl v_ rfl vg_ ?_
  refine aC_ rfl rfl v_ rfl vg_ ?_
  refine aC_ rfl rfl v_ rfl vg_ ?_
  refine aC_ rfl rfl v_ rfl vg_ ?_
  (refine aL_S rfl rfl v_ ?_)
  refine ac_ ?_
  refine ad_ v_ (fun hc4 => ?_) (fun hc4 => ?_)
  ·replace hc4 := nm_ hc4
   refine ah_ ?_
   refine ab_ ?_
   refine al_ ?_
   refine ab_ ?_
   obtain ⟨x, hx⟩ := aA_ (l := a) (k := k) (by omega)
   have R := hx
   refine aG_ (.op 0 0 (.op 1 0 (.op 2 0 (.op 3 0 (.op 4 0 (.op 5 0 (.op 6 0 (.op 7 0 (.op 8 0 .nil))))))))) Tryz.mixed kr_ ?_
   iterate 9 (refine dR_S o_ (by rfl) (by rfl) v_ ?_)
   refine aL_ ?_
   refine ad_ v_ (fun hc6 => ?_) (fun hc6 => ?_)
   ·replace hc6 := nm_ hc6
    simp at hc6
   ·replace hc6 := nm_ hc6
    refine ah_ ?_
    refine aa_ kr_ ?_
    iterate 3 (refine aL_S rfl rfl v_ ?_)
    refine ac_ ?_
    refine aJ_ (ι := Nat) (i := k) (k + 1) ?_ ?_ ?_ ?_
    ·omega
    ·exact (by omega)
    ·exact cv_
    ·exact sub_
  ·replace hc4 := nm_ hc4
   refine ax_ ?_
   refine ag_ ?_
   refine ag_ ?_
   refine aq_ ?_
   refine ab_ ?_
   refine aa_ kr_ ?_
   (refine aL_S rfl rfl v_ ?_)
   refine ac_ ?_
   refine am_ ?_
   refine ai_ (σ' := σ) v_ sub_ ?_
   exact ⟨rfl, rfl⟩
abbrev tT : ByteArray := ⟨#[116]⟩
theorem rw_ : Lib.itoa 3 = [51] := by rw [show (3 : Int) = ((3 : Nat) : Int) from rfl, Lib.itoa_nonneg, cB_ (by decide)]; rfl
theorem sX_ : numS ⟨#[51]⟩ = some 3 := fJ_.2 ⟨by rw [rw_]; rfl, by decide, by decide⟩
theorem sY_ : numS ⟨#[]⟩ = none := by kernel_rfl
end Go.Proofs.YtkcmbjodladflaaGreatDoor
end

section
set_option linter.all false
set_option maxRecDepth 100000
namespace Go.Proofs.YtkcmbjodladflaaGreatDoor
open Go.Ab
end Go.Proofs.YtkcmbjodladflaaGreatDoor
end

section
set_option linter.all false
set_option maxRecDepth 100000
namespace Go.Proofs.YtkcmbjodladflaaGreatDoor
open Go.Ab
theorem sGt {a b : ByteArray} : (!(sLt a b || decide (a = b))) = sLt b a := by
 by_cases h : a = b
 ·subst h; simp [dc_]
 ·cases h1 : sLt a b with
  |false => rw [iB_ h1 h]; simp [h]
  |true =>
   cases h2 : sLt b a with
   |false => rfl
   |true => have := eI_ h1 h2; rw [dc_] at this; cases this
theorem nX_ {a b : Ent} {σ : Store} : ao_ Tryz.prog 19 [sReg a, sReg b] σ fun v σ' => v = vB (b6_ a b) ∧ σ = σ' := by
 refine aj_ Tryz.func19 rfl Tryz.ntmps19 (congrArg Array.toList Tryz.results19) (by simp only [List.length_cons, List.length_nil]; decide) ?_; simp only [af_, ak_, Nat.reduceAdd]
 refine ab_ ?_
 refine aa_ kr_ ?_
 refine bb_ rfl rfl rfl v_ rfl g_ fun o2 ho2 => ?_
 repeat (rw [an_] at ho2; obtain ⟨_, ho2⟩ := ho2)
 refine bb_ rfl rfl rfl v_ rfl g_ fun o3 ho3 => ?_
 repeat (rw [an_] at ho3; obtain ⟨_, ho3⟩ := ho3)
 (refine aL_S rfl rfl v_ ?_)
 refine ac_ ?_
 refine ab_ ?_
 refine ab_ ?_
 refine aa_ kr_ ?_
 iterate 5 (refine aL_S rfl rfl v_ ?_)
 refine ac_ ?_
 refine ad_ v_ (fun hc1 => ?_) (fun hc1 => ?_)
 ·replace hc1 := nm_ hc1
  refine ab_ ?_
  refine aa_ kr_ ?_
  iterate 6 (refine aL_S rfl rfl v_ ?_)
  refine ac_ ?_
  refine am_ ?_
  refine ai_ (σ' := σ) v_ sub_ ?_
  exact ⟨by rw [b6_, if_pos hc1], rfl⟩
 ·replace hc1 := nm_ hc1
  refine ah_ ?_
  refine ab_ ?_
  refine ab_ ?_
  refine aa_ kr_ ?_
  iterate 5 (refine aL_S rfl rfl v_ ?_)
  refine ac_ ?_
  refine ad_ v_ (fun hc3 => ?_) (fun hc3 => ?_)
  ·replace hc3 := nm_ hc3
   refine ab_ ?_
   refine aa_ kr_ ?_
   iterate 6 (refine aL_S rfl rfl v_ ?_)
   refine ac_ ?_
   refine am_ ?_
   refine ai_ (σ' := σ) v_ sub_ ?_
   exact ⟨by rw [b6_, if_neg (by simpa using hc1), if_pos hc3, sGt], rfl⟩
  ·replace hc3 := nm_ hc3
   refine ah_ ?_
   refine ab_ ?_
   refine aa_ kr_ ?_
   iterate 6 (refine aL_S rfl rfl v_ ?_)
   refine ac_ ?_
   refine am_ ?_
   refine ai_ (σ' := σ) v_ sub_ ?_
   exact ⟨by rw [b6_, if_neg (by simpa using hc1), if_neg (by simpa using hc3), sGt], rfl⟩
theorem l6_ {a b : Ent} {σ : Store} : ao_ Tryz.prog 123 [sReg a, sReg b] σ fun v σ' => v = sReg (if b6_ b a then b else a) ∧ σ = σ' := by
 refine aj_ Tryz.func123 rfl Tryz.ntmps123 (congrArg Array.toList Tryz.results123) (by simp only [List.length_cons, List.length_nil]; decide) ?_; simp only [af_, ak_, Nat.reduceAdd]
 refine ab_ ?_
 refine aa_ kr_ ?_
 refine bb_ rfl rfl rfl v_ rfl g_ fun o2 ho2 => ?_
 repeat (rw [an_] at ho2; obtain ⟨_, ho2⟩ := ho2)
 refine bb_ rfl rfl rfl v_ rfl g_ fun o3 ho3 => ?_
 repeat (rw [an_] at ho3; obtain ⟨_, ho3⟩ := ho3)
 refine aQ_ rfl rfl rfl g_ gl_ fun o4 ho4 => ?_
 repeat (rw [an_] at ho4; obtain ⟨_, ho4⟩ := ho4)
 refine ac_ ?_
 refine ab_ ?_
 refine ab_ ?_
 refine aa_ kr_ ?_
 iterate 2 (refine aL_S rfl rfl v_ ?_)
 refine aL_X rfl rfl (ae_ rfl rfl (.inr ⟨rfl, rfl, rfl⟩) g_ va_ (nX_) ?_); rintro _ _ ⟨rfl, rfl⟩
 refine ac_ ?_
 refine ad_ v_ (fun hc1 => ?_) (fun hc1 => ?_)
 ·replace hc1 := nm_ hc1
  refine ab_ ?_
  refine aa_ kr_ ?_
  (refine aL_S rfl rfl v_ ?_)
  refine av_ rfl rfl rfl v_ v_ h_ g_ rfl g_ c_ (by rfl) le_ v_ ?_
  refine ac_ ?_
  refine am_ ?_
  refine ai_ (σ' := σ) v_ sub_ ?_
  exact ⟨by rw [if_pos hc1], rfl⟩
 ·replace hc1 := nm_ hc1
  refine ah_ ?_
  refine ab_ ?_
  refine aa_ kr_ ?_
  (refine aL_S rfl rfl v_ ?_)
  refine av_ rfl rfl rfl v_ v_ h_ g_ rfl g_ c_ (by rfl) le_ v_ ?_
  refine ac_ ?_
  refine am_ ?_
  refine ai_ (σ' := σ) v_ sub_ ?_
  exact ⟨by rw [if_neg (by simpa using hc1)], rfl⟩
theorem l4_ {y : Ent} : ∀ {l : List Ent} {k : Nat}, (∀ j x, j < k → l[j]? = some x → sLt x.key y.key = true) → (∀ x, l[k]? = some x → sLt x.key y.key = false) → k ≤ l.length → putS y l = match l[k]? with | some x => if x.key = y.key then l.take k ++ (if b6_ y x then y else x) :: l.drop (k + 1) else l.take k ++ y :: l.drop k | none => l.take k ++ y :: l.drop k
 |[], k, _, _, hk => by
  obtain rfl : k = 0 := by simpa using hk
  simp [putS]
 |m :: l, 0, _, h2, _ => by
  have := h2 m rfl
  simp only [putS, this, List.getElem?_cons_zero, List.take_zero, List.drop_zero, List.nil_append, List.drop_succ_cons]
  simp
 |m :: l, k + 1, h1, h2, hk => by
  have hm := h1 0 m (by omega) rfl
  have ih := l4_ (y := y) (l := l) (k := k) (fun j x hj hx => h1 (j + 1) x (by omega) hx) (fun x hx => h2 x hx) (by simpa using hk)
  rw [putS, if_pos hm, ih]
  simp only [List.getElem?_cons_succ, List.take_succ_cons, List.drop_succ_cons, List.cons_append]
  split
  ·split <;> rfl
  ·rfl
theorem lZ_ (l : List Ent) : ∀ y ∈ l.map sEnt, ∀ c ∈ y.cells, c.one = true := fun y hy c hc => by
 obtain ⟨s, _, rfl⟩ := List.mem_map.1 hy
 simp [AVal.cells] at hc; rcases hc with rfl | rfl | rfl | rfl <;> rfl
theorem mg_ {x y : Ent} (h : x.key = y.key) : AVal.agg [vStr y.key, vInt (if b6_ y x then y else x).n, vStr (if b6_ y x then y else x).who, vStr (if b6_ y x then y else x).value] = sEnt (if b6_ y x then y else x) := by
 split
 ·rfl
 ·rw [← h]
set_option maxHeartbeats 2000000 in
theorem s1_ {l : List Ent} {t : Bool} {y : Ent} {σ : Store} (hl : l.length ≤ 1000000) : ao_ Tryz.prog 65 [.sl 4 (l.map sEnt) t, sEnt y] σ fun v σ' => v = .sl 4 ((putS y l).map sEnt) false ∧ σ = σ' := by
 refine aj_ Tryz.func65 rfl Tryz.ntmps65 (congrArg Array.toList Tryz.results65) (by simp only [List.length_cons, List.length_nil]; decide) ?_; simp only [af_, ak_, Nat.reduceAdd]
 refine ab_ ?_
 refine aa_ kr_ ?_
 refine bb_ rfl rfl rfl v_ rfl g_ fun o3 ho3 => ?_
 repeat (rw [an_] at ho3; obtain ⟨_, ho3⟩ := ho3)
 (refine aL_S rfl rfl v_ ?_)
 refine ac_ ?_
 refine ab_ ?_
 refine aa_ kr_ ?_
 (refine aL_S rfl rfl v_ ?_)
 refine ac_ ?_
 refine ab_ ?_
 refine al_ ?_
 refine ap_ (ι := Nat) (fun k => l.length - k) (fun k => k ≤ l.length ∧ ∀ j x, j < k → l[j]? = some x → sLt x.key y.key = true) (fun k => [(0, .sl 4 (l.map sEnt) t), (3, .ref o3 0), (5, vInt k)]) (fun k => (σ.set o3 (.cells (sEnt y).cells))) 0 ?_ ?_ ?_ ?_
 ·exact ⟨Nat.zero_le _, fun j x h => by omega⟩
 ·exact cv_
 ·exact Store.Wk.refl _
 rintro k ⟨hk, hal⟩
 simp only [ar_, au_]
 refine ab_ ?_
 refine ab_ ?_
 obtain ⟨x, hx⟩ := lq_ l k
 have R := hx
 refine aG_ (.op 0 0 (.op 1 0 (.op 2 0 (.op 3 0 (.op 4 0 (.op 5 0 (.op 6 0 (.op 7 0 (.op 8 0 (.op 9 0 (.op 10 0 (.op 11 0 (.op 12 0 (.op 13 0 .nil)))))))))))))) Tryz.mixed kr_ ?_
 iterate 5 (refine dR_S o_ (by rfl) (by rfl) v_ ?_)
 refine bk_ o_ (by rfl) (by rfl) v_ (by rfl) vg_ ?_
 refine bk_ o_ (by rfl) (by rfl) v_ (by rfl) vg_ ?_
 refine bk_ o_ (by rfl) (by rfl) v_ (by rfl) vg_ ?_
 refine bk_ o_ (by rfl) (by rfl) v_ (by rfl) vg_ ?_
 refine bk_ o_ (by rfl) (by rfl) v_ (by rfl) vg_ ?_
 refine bk_ o_ (by rfl) (by rfl) v_ (by rfl) vg_ ?_
 refine bk_ o_ (by rfl) (by rfl) v_ (by rfl) vg_ ?_
 refine bk_ o_ (by rfl) (by rfl) v_ (by rfl) vg_ ?_
 (refine dR_S o_ (by rfl) (by rfl) v_ ?_)
 refine aL_ ?_
 refine ad_ v_ (fun hc2 => ?_) (fun hc2 => ?_)
 ·replace hc2 := nm_ hc2
  refine ah_ ?_
  refine al_ ?_
  refine aa_ kr_ ?_
  iterate 3 (refine aL_S rfl rfl v_ ?_)
  refine ac_ ?_
  refine aJ_ (ι := Nat) (i := k) (k + 1) ?_ ?_ ?_ ?_
  ·omega
  ·exact ⟨by omega, fun j z hj hz => by rcases Nat.lt_or_eq_of_le (Nat.le_of_lt_succ hj) with h | h; exact hal j z h hz; rw [h, hx (by omega)] at hz; obtain rfl := Option.some.inj hz; exact hc2.2⟩
  ·exact cv_
  ·exact sub_
 ·replace hc2 := nm_ hc2
  refine ax_ ?_
  refine ag_ ?_
  refine ag_ ?_
  refine aq_ ?_
  refine ab_ ?_
  skip
  have hat := l4_ (y := y) hal (fun z hz => by
   have h1 := (List.getElem?_eq_some_iff.1 hz).1
   rw [hx h1] at hz; obtain rfl := Option.some.inj hz
   rcases hc2 with h | h
   ·omega
   ·simpa using h) hk
  have m1 : (l.map sEnt).take k = (l.take k).map sEnt := List.map_take.symm
  have m2 : ((l.map sEnt).take l.length).drop k = (l.drop k).map sEnt := by rw [List.take_of_length_le (by simp), List.map_drop]
  have m3 : (l.map sEnt).drop k = (l.drop k).map sEnt := List.map_drop.symm
  refine aa_ kr_ ?_
  refine ci_ 45 4 rfl rfl rfl (by rfl) fun k6 hk6 => ?_
  refine ac_ ?_
  refine ab_ ?_
  have R := m1
  refine aa_ kr_ ?_
  iterate 4 (refine aL_S rfl rfl v_ ?_)
  refine be_ rfl rfl rfl g_ g_ v_ h_ v_ (lZ_ _) (by simp; omega) fun k27 hk27 => ?_
  have t27 := (a8_ hk27).2
  have u6 : σ.tok k6 = none := by simpa only [Store.set_tok] using hk6
  have u27 : σ.tok k27 = none := by simpa only [Store.set_tok] using t27
  (refine aL_S rfl rfl v_ ?_)
  refine ac_ ?_
  refine ab_ ?_
  refine ab_ ?_
  have R := hx
  refine aG_ (.op 0 0 (.op 1 0 (.op 2 0 (.op 3 0 (.op 4 0 (.op 5 0 (.op 6 0 (.op 7 0 (.op 8 0 (.op 9 0 (.op 10 0 (.op 11 0 (.op 12 0 (.op 13 0 .nil)))))))))))))) Tryz.mixed kr_ ?_
  iterate 5 (refine dR_S o_ (by rfl) (by rfl) v_ ?_)
  refine bk_ o_ (by rfl) (by rfl) v_ (by rfl) vg_ ?_
  refine bk_ o_ (by rfl) (by rfl) v_ (by rfl) vg_ ?_
  refine bk_ o_ (by rfl) (by rfl) v_ (by rfl) vg_ ?_
  refine bk_ o_ (by rfl) (by rfl) v_ (by rfl) vg_ ?_
  refine bk_ o_ (by rfl) (by rfl) v_ (by rfl) vg_ ?_
  refine bk_ o_ (by rfl) (by rfl) v_ (by rfl) vg_ ?_
  refine bk_ o_ (by rfl) (by rfl) v_ (by rfl) vg_ ?_
  refine bk_ o_ (by rfl) (by rfl) v_ (by rfl) vg_ ?_
  (refine dR_S o_ (by rfl) (by rfl) v_ ?_)
  refine aL_ ?_
  refine ad_ v_ (fun hc6 => ?_) (fun hc6 => ?_)
  ·replace hc6 := nm_ hc6
   have hxk := hx (by omega)
   have hput : putS y l = l.take k ++ (if b6_ y x then y else x) :: l.drop (k + 1) := by rw [hat, hxk]; simp only; rw [if_pos hc6.2]
   have hrow : (l.take k).map sEnt ++ [.agg [vStr y.key, vInt (if b6_ y x then y else x).n, vStr (if b6_ y x then y else x).who, vStr (if b6_ y x then y else x).value]] ++ (l.drop (k + 1)).map sEnt = (putS y l).map sEnt := by rw [hput, mg_ hc6.2]; simp
   have m4 : ((l.map sEnt).take l.length).drop (k + 1) = (l.drop (k + 1)).map sEnt := by rw [List.take_of_length_le (by simp), List.map_drop]
   have m5 : (l.map sEnt).drop (k + 1) = (l.drop (k + 1)).map sEnt := List.map_drop.symm
   have m6 : ((k : Int) + 1).toNat = k + 1 := by omega
   refine ab_ ?_
   have R := hxk
   refine aG_ (.op 0 0 (.op 1 0 (.op 2 0 (.op 3 0 (.op 4 0 (.op 5 0 (.op 6 0 (.op 7 0 (.op 8 0 (.op 9 0 (.op 10 1 (.op 11 0 (.op 12 1 (.op 13 2 (.op 14 0 .nil))))))))))))))) Tryz.mixed kr_ ?_
   iterate 10 (refine dR_S o_ (by rfl) (by rfl) v_ ?_)
   refine dR_X o_ (by rfl) (by rfl) (ae_ (by rfl) (by rfl) (.inr ⟨by rfl, by rfl, by rfl⟩) g_ va_ (l6_) ?_); rintro _ _ ⟨rfl, rfl⟩; refine ⟨sub_, ?_⟩
   (refine dR_S o_ (by rfl) (by rfl) v_ ?_)
   refine dR_X o_ (by rfl) (by rfl) (aD_ (by rfl) g_ g_ (by rfl) (by rfl) h_ c2_ (by decide) ⟨sub_, ?_⟩)
   refine dR_T o_ (by rfl) (by rfl) (cz_ (by rfl) g_ g_ (.inl ⟨_, va_, h_, rfl⟩) (.inl ⟨⟨_, g_⟩, .inl v_, c_⟩) (by simp; omega) fun k55 hk55 => ?_)
   (refine dR_S o_ (by rfl) (by rfl) v_ ?_)
   refine aL_ ?_
   rw [Store.newTok_step (by exact hk6)] at hk55
   have t55 := (a8_ hk55).2
   have u55 : σ.tok k55 = none := by simpa only [Store.set_tok] using t55
   refine ab_ ?_
   have R := And.intro m6 (And.intro m4 m5)
   refine aa_ kr_ ?_
   iterate 5 (refine aL_S rfl rfl v_ ?_)
   refine be_ rfl rfl rfl g_ g_ v_ h_ v_ (lZ_ _) (by simp; omega) fun k61 hk61 => ?_
   rw [Store.newTok_step (by exact hk6), Store.newTok_step (by exact t27)] at hk61
   have t61 := (a8_ hk61).2
   have u61 : σ.tok k61 = none := by simpa only [Store.set_tok] using t61
   (refine aL_S rfl rfl v_ ?_)
   refine ac_ ?_
   refine ab_ ?_
   refine aa_ kr_ ?_
   iterate 2 (refine aL_S rfl rfl v_ ?_)
   refine ac_ ?_
   refine am_ ?_
   exact a6_ (v := .sl 4 ((putS y l).map sEnt) false) (v' := .own k61 4 ((putS y l).map sEnt)) (by rw [← hrow]; first | exact va_ | exact vb_) (.own1 _ _ _) sub_ ⟨rfl, rfl⟩
  ·replace hc6 := nm_ hc6
   skip
   have hput : putS y l = l.take k ++ y :: l.drop k := by
    rw [hat]
    cases hg : l[k]? with
    |none => rfl
    |some z =>
     have h1 := (List.getElem?_eq_some_iff.1 hg).1
     rw [hx h1] at hg; obtain rfl := Option.some.inj hg
     simp only
     rw [if_neg (by rcases hc6 with h | h; omega; exact h)]
   have hrow : (l.take k).map sEnt ++ [sEnt y] ++ (l.drop k).map sEnt = (putS y l).map sEnt := by rw [hput]; simp
   refine ah_ ?_
   refine ab_ ?_
   refine aa_ kr_ ?_
   iterate 2 (refine aL_S rfl rfl v_ ?_)
   refine aw_ rfl rfl rfl g_ g_ rfl rfl h_ c2_ (by decide) ?_
   refine be_ rfl rfl rfl g_ g_ v_ h_ v_ c_ (by simp; omega) fun k66 hk66 => ?_
   (refine aL_S rfl rfl v_ ?_)
   refine ac_ ?_
   rw [Store.newTok_step (by exact hk6)] at hk66
   have t66 := (a8_ hk66).2
   have u66 : σ.tok k66 = none := by simpa only [Store.set_tok] using t66
   refine ab_ ?_
   have R := And.intro m2 m3
   refine aa_ kr_ ?_
   iterate 4 (refine aL_S rfl rfl v_ ?_)
   refine be_ rfl rfl rfl g_ g_ v_ h_ v_ (lZ_ _) (by simp; omega) fun k71 hk71 => ?_
   rw [Store.newTok_step (by exact hk6), Store.newTok_step (by exact t27)] at hk71
   have t71 := (a8_ hk71).2
   have u71 : σ.tok k71 = none := by simpa only [Store.set_tok] using t71
   (refine aL_S rfl rfl v_ ?_)
   refine ac_ ?_
   refine ab_ ?_
   refine aa_ kr_ ?_
   iterate 2 (refine aL_S rfl rfl v_ ?_)
   refine ac_ ?_
   refine am_ ?_
   exact a6_ (v := .sl 4 ((putS y l).map sEnt) false) (v' := .own k71 4 ((putS y l).map sEnt)) (by rw [← hrow]; first | exact va_ | exact vb_) (.own1 _ _ _) sub_ ⟨rfl, rfl⟩
def putE (l : List Ent) (y : Ent) : List Ent × Int := if !bc_ l || !bS_ y then ([], 1) else if 4096 < (putS y l).length then ([], 4) else (putS y l, 0)
theorem rT_ {l : List Ent} {t : Bool} {y : Ent} {σ : Store} (hl : l.length ≤ 100000) (hs : ∀ x ∈ l, EntSm x) (hy : EntSm y) : ao_ Tryz.prog 21 [.sl 4 (l.map sEnt) t, sEnt y] σ fun v σ' => v = .tup [.sl 4 ((putE l y).1.map sEnt) false, vInt (putE l y).2] ∧ σ = σ' := by
 have hpl := dV_ y l
 refine aj_ Tryz.func21 rfl Tryz.ntmps21 (congrArg Array.toList Tryz.results21) (by simp only [List.length_cons, List.length_nil]; decide) ?_; simp only [af_, ak_, Nat.reduceAdd]
 refine ab_ ?_
 refine aa_ kr_ ?_
 refine bb_ rfl rfl rfl v_ rfl g_ fun o3 ho3 => ?_
 repeat (rw [an_] at ho3; obtain ⟨_, ho3⟩ := ho3)
 iterate 2 (refine aL_S rfl rfl v_ ?_)
 refine ac_ ?_
 refine ab_ ?_
 refine ab_ ?_
 refine aa_ kr_ ?_
 (refine aL_S rfl rfl v_ ?_)
 refine aL_X rfl rfl (ae_ rfl rfl (.inr ⟨rfl, rfl, rfl⟩) g_ va_ (jC_ hs (by omega)) ?_); rintro _ _ ⟨rfl, rfl⟩
 iterate 2 (refine aL_S rfl rfl v_ ?_)
 refine ay_ rfl rfl v_ rfl vg_ ?_
 refine bQ_ rfl rfl v_ rfl (fun hb => aK_ (by rfl) (by rfl) (.inr ⟨by rfl, by rfl, by rfl⟩) g_ cg_ (gx_ hy)) ?_
 refine ay_ rfl rfl v_ rfl vg_ ?_
 (refine aL_S rfl rfl v_ ?_)
 refine ac_ ?_
 refine ad_ v_ (fun hc1 => ?_) (fun hc1 => ?_)
 ·replace hc1 := nm_ hc1
  have he : putE l y = ([], 1) := by rw [putE, if_pos (by rcases hc1 with h | h <;> simp [h])]
  refine ab_ ?_
  refine aa_ kr_ ?_
  iterate 2 (refine aL_S rfl rfl v_ ?_)
  refine ac_ ?_
  refine am_ ?_
  exact a6_ (v := .tup [.sl 4 [] false, vInt 1]) (v' := .tup [vNil, vInt 1]) va_ (.tup _ _ rfl fun i h h' => by match i, h with | 0, _ => exact .nil _ _ | 1, _ => exact .refl _) sub_ ⟨by rw [he]; rfl, rfl⟩
 ·replace hc1 := nm_ hc1
  have he : putE l y = if 4096 < (putS y l).length then ([], 4) else (putS y l, 0) := by rw [putE, if_neg (by simp [hc1.1, hc1.2])]
  refine ah_ ?_
  refine ab_ ?_
  refine aa_ kr_ ?_
  iterate 2 (refine aL_S rfl rfl v_ ?_)
  refine aL_X rfl rfl (ae_ rfl rfl (.inr ⟨rfl, rfl, rfl⟩) g_ va_ (s1_ (by omega)) ?_); rintro _ _ ⟨rfl, rfl⟩
  (refine aL_S rfl rfl v_ ?_)
  refine ac_ ?_
  refine ab_ ?_
  refine ab_ ?_
  refine aa_ kr_ ?_
  iterate 3 (refine aL_S rfl rfl v_ ?_)
  refine ac_ ?_
  refine ad_ v_ (fun hc4 => ?_) (fun hc4 => ?_)
  ·replace hc4 := nm_ hc4
   refine ab_ ?_
   refine aa_ kr_ ?_
   iterate 2 (refine aL_S rfl rfl v_ ?_)
   refine ac_ ?_
   refine am_ ?_
   exact a6_ (v := .tup [.sl 4 [] false, vInt 4]) (v' := .tup [vNil, vInt 4]) va_ (.tup _ _ rfl fun i h h' => by match i, h with | 0, _ => exact .nil _ _ | 1, _ => exact .refl _) sub_ ⟨by rw [he, if_pos (by omega)]; rfl, rfl⟩
  ·replace hc4 := nm_ hc4
   refine ah_ ?_
   refine ab_ ?_
   refine aa_ kr_ ?_
   iterate 3 (refine aL_S rfl rfl v_ ?_)
   refine ac_ ?_
   refine am_ ?_
   refine ai_ (σ' := σ) v_ sub_ ?_
   exact ⟨by rw [he, if_neg (by omega)], rfl⟩
end Go.Proofs.YtkcmbjodladflaaGreatDoor
end
