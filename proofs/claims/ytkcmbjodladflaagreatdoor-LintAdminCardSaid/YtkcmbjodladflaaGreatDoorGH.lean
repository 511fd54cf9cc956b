/-
  Which keys are spoken of, plainly; Which keys are spoken of: the walks; Members, as registers tell them: the program; Partitions and their owners: the program; Properties of buckets: the program; Numbers below twenty in keys of partitions, as the kernel can reckon them. Own work (an AI agent).
-/
import Derived.Test.YtkcmbjodladflaaGreatDoorGF
import Derived.Test.YtkcmbjodladflaaGreatDoorGG

section
set_option linter.all false
set_option maxRecDepth 100000
namespace Go.Proofs.YtkcmbjodladflaaGreatDoor
open Go.Ab
def a0_ : ByteArray := ⟨#[110, 111, 100, 101]⟩
def bH_ : ByteArray := ⟨#[114, 105, 110, 103]⟩
def aO_ : ByteArray := ⟨#[112, 114, 111, 112]⟩
def er_ : ByteArray := ⟨#[97, 99, 108]⟩
def g0_ : List ByteArray := [⟨#[110]⟩, ⟨#[114]⟩, ⟨#[119]⟩, ⟨#[112, 114]⟩, ⟨#[112, 119]⟩, ⟨#[115, 101, 118, 101, 114, 97, 108]⟩, ⟨#[109, 105, 115, 115, 105, 110, 103]⟩, ⟨#[98, 97, 115, 105, 99]⟩]
def tenF : List ByteArray := [bP_, cS_, es_, dB_, ef_]
def in16 (s : ByteArray) : Bool := match numS s with | some n => decide (0 ≤ n) && decide (n < 16) | none => false
def hasT (l : List ByteArray) (s : ByteArray) : Bool := l.any fun y => decide (y = s)
def knP (p : List ByteArray) (a q : ByteArray) : Bool :=
 if a = a0_ then decide (p.length = 2) && (p.drop 1).all aI_ else if a = bH_ then decide (p.length = 2) && in16 q
 else if a = aO_ then decide (p.length = 4) && ((p.take 3).drop 1).all aI_ && hasT g0_ q else if a = er_ then decide (p.length = 4) && (p.drop 1).all aI_
 else if a = aR_ then decide (p.length = 3) && ((p.take 2).drop 1).all aI_ && hasT tenF q else false
def kj_ (p : List ByteArray) : ByteArray := (p[p.length - 1]?).getD ⟨#[]⟩
def dG_ (p : List ByteArray) : Bool := decide (2 ≤ p.length) && knP p (p.headD ⟨#[]⟩) (kj_ p)
def bi_ (k : ByteArray) : Bool := dG_ (aH_ k)
def arS (a : ByteArray) : Nat := if a = a0_ then 2 else if a = bH_ then 2 else if a = aO_ then 4 else if a = er_ then 4 else if a = aR_ then 3 else 0
theorem pL_ {p : List ByteArray} {a q : ByteArray} (h : knP p a q = true) : p.length = arS a := by
 unfold knP at h
 unfold arS
 split at h
 ·rename_i h1; rw [if_pos h1]; simp only [Bool.and_eq_true, decide_eq_true_eq] at h; exact h.1
 ·rename_i h1; rw [if_neg h1]
  split at h
  ·rename_i h2; rw [if_pos h2]; simp only [Bool.and_eq_true, decide_eq_true_eq] at h; exact h.1
  ·rename_i h2; rw [if_neg h2]
   split at h
   ·rename_i h3; rw [if_pos h3]; simp only [Bool.and_eq_true, decide_eq_true_eq] at h; exact h.1.1
   ·rename_i h3; rw [if_neg h3]
    split at h
    ·rename_i h4; rw [if_pos h4]; simp only [Bool.and_eq_true, decide_eq_true_eq] at h; exact h.1
    ·rename_i h4; rw [if_neg h4]
     split at h
     ·rename_i h5; rw [if_pos h5]; simp only [Bool.and_eq_true, decide_eq_true_eq] at h; exact h.1.1
     ·cases h
theorem qT_ (a : ByteArray) : arS a ≤ 4 := by
 unfold arS; repeat' split
 all_goals omega
theorem lE_ {p : List ByteArray} (h : dG_ p = true) : 2 ≤ p.length ∧ p.length ≤ 4 ∧ p.length = arS (p.headD ⟨#[]⟩) := by
 unfold dG_ at h
 simp only [Bool.and_eq_true, decide_eq_true_eq] at h
 have := pL_ h.2
 exact ⟨h.1, by rw [this]; exact qT_ _, this⟩
end Go.Proofs.YtkcmbjodladflaaGreatDoor
end

section
set_option linter.all false
set_option maxRecDepth 100000
namespace Go.Proofs.YtkcmbjodladflaaGreatDoor
open Go.Ab
theorem id_ {α : Type} {l : List α} {k : Nat} {x : α} {f : α → Bool} (h : l[k]? = some x) (hf : f x = true) : l.any f = true := List.any_eq_true.2 ⟨x, List.mem_of_getElem? h, hf⟩
theorem gH_ {α : Type} {l : List α} {k : Nat} {x : α} {f : α → Bool} (h : l[k]? = some x) (hf : f x = false) (ha : (l.take k).any f = false) : (l.take (k + 1)).any f = false := by
 rw [aX_ h, List.any_append, ha]; simp [hf]
theorem ic_ {α : Type} {l : List α} {k : Nat} {f : α → Bool} (h : l.length ≤ k) (ha : (l.take k).any f = false) : l.any f = false := by rwa [List.take_of_length_le h] at ha
theorem ke_ {l : List ByteArray} {x : ByteArray} {t : Bool} {σ : Store} (hn : l.length ≤ 1000000) : ao_ Tryz.prog 108 [.sl 1 (l.map vStr) t, vStr x] σ fun v σ' => (∃ r, v = vInt r ∧ decide (0 ≤ r) = hasT l x) ∧ σ = σ' := by
 refine aj_ Tryz.func108 rfl Tryz.ntmps108 (congrArg Array.toList Tryz.results108) (by simp only [List.length_cons, List.length_nil]; decide) ?_; simp only [af_, ak_, Nat.reduceAdd]
 refine ab_ ?_
 refine aa_ kr_ ?_
 (refine aL_S rfl rfl v_ ?_)
 refine ac_ ?_
 refine ab_ ?_
 refine ab_ ?_
 refine aa_ kr_ ?_
 iterate 3 (refine aL_S rfl rfl v_ ?_)
 refine ac_ ?_
 refine al_ ?_
 refine ap_ (ι := Nat) (fun k => l.length - k) (fun k => k ≤ l.length ∧ (l.take k).any (fun y => decide (y = x)) = false) (fun k => [(0, .sl 1 (l.map vStr) t), (1, vStr x), (7, vInt l.length), (8, vInt k)]) (fun k => σ) 0 ?_ ?_ ?_ ?_
 ·exact ⟨Nat.zero_le _, rfl⟩
 ·exact cv_
 ·exact sub_
 rintro k ⟨hk, ha⟩
 simp only [ar_, au_]
 refine ab_ ?_
 refine aa_ kr_ ?_
 (refine aL_S rfl rfl v_ ?_)
 refine ac_ ?_
 refine ab_ ?_
 refine ad_ v_ (fun hc2 => ?_) (fun hc2 => ?_)
 ·replace hc2 := nm_ hc2
  refine ah_ ?_
  refine ab_ ?_
  refine al_ ?_
  refine ab_ ?_
  refine aa_ kr_ ?_
  iterate 2 (refine aL_S rfl rfl v_ ?_)
  refine ac_ ?_
  refine ab_ ?_
  obtain ⟨y, hy⟩ := aA_ (l := l) (k := k) (by omega)
  have R := hy
  refine aa_ kr_ ?_
  iterate 6 (refine aL_S rfl rfl v_ ?_)
  refine ac_ ?_
  refine ad_ v_ (fun hc4 => ?_) (fun hc4 => ?_)
  ·replace hc4 := nm_ hc4
   refine ab_ ?_
   refine aa_ kr_ ?_
   iterate 2 (refine aL_S rfl rfl v_ ?_)
   refine ac_ ?_
   refine am_ ?_
   refine ai_ (σ' := σ) v_ sub_ ?_
   exact ⟨⟨(k : Int), rfl, by rw [decide_eq_true (by omega)]; exact (id_ hy (decide_eq_true hc4.symm)).symm⟩, rfl⟩
  ·replace hc4 := nm_ hc4
   have hxy : y ≠ x := fun h => hc4 h.symm
   refine ah_ ?_
   refine aa_ kr_ ?_
   iterate 2 (refine aL_S rfl rfl v_ ?_)
   refine ac_ ?_
   refine aJ_ (ι := Nat) (i := k) (k + 1) ?_ ?_ ?_ ?_
   ·omega
   ·exact ⟨by omega, gH_ hy (decide_eq_false hxy) ha⟩
   ·exact cv_
   ·exact sub_
 ·replace hc2 := nm_ hc2
  refine ax_ ?_
  refine ag_ ?_
  refine ag_ ?_
  refine aq_ ?_
  refine ab_ ?_
  refine aa_ kr_ ?_
  (refine aL_S rfl rfl v_ ?_)
  refine ac_ ?_
  refine am_ ?_
  refine ai_ (σ' := σ) v_ sub_ ?_
  exact ⟨⟨-1, rfl, (ic_ (by omega) ha).symm⟩, rfl⟩
theorem cs_ {l : List ByteArray} {x : ByteArray} {t : Bool} {σ : Store} (hn : l.length ≤ 1000000) : ao_ Tryz.prog 50 [.sl 1 (l.map vStr) t, vStr x] σ fun v σ' => v = vB (hasT l x) ∧ σ = σ' := by
 refine aj_ Tryz.func50 rfl Tryz.ntmps50 (congrArg Array.toList Tryz.results50) (by simp only [List.length_cons, List.length_nil]; decide) ?_; simp only [af_, ak_, Nat.reduceAdd]
 refine ab_ ?_
 refine aa_ kr_ ?_
 (refine aL_S rfl rfl v_ ?_)
 refine ac_ ?_
 refine ab_ ?_
 refine aa_ kr_ ?_
 iterate 2 (refine aL_S rfl rfl v_ ?_)
 refine aL_X rfl rfl (ae_ rfl rfl (.inr ⟨rfl, rfl, rfl⟩) g_ va_ (ke_ hn) ?_); rintro _ _ ⟨⟨r, rfl, hr⟩, rfl⟩
 iterate 2 (refine aL_S rfl rfl v_ ?_)
 refine ac_ ?_
 refine am_ ?_
 refine ai_ (σ' := σ) v_ sub_ ?_
 exact ⟨by rw [← hr], rfl⟩
theorem nH_ {s : ByteArray} {σ : Store} (hs : s.size ≤ 1000000) : ao_ Tryz.prog 130 [vStr s] σ fun v σ' => v = vB (!aI_ s) ∧ σ = σ' := by
 refine aj_ Tryz.func130 rfl Tryz.ntmps130 (congrArg Array.toList Tryz.results130) (by simp only [List.length_cons, List.length_nil]; decide) ?_; simp only [af_, ak_, Nat.reduceAdd]
 refine ab_ ?_
 refine aa_ kr_ ?_
 (refine aL_S rfl rfl v_ ?_)
 refine ac_ ?_
 refine ab_ ?_
 refine aa_ kr_ ?_
 (refine aL_S rfl rfl v_ ?_)
 refine aL_X rfl rfl (ae_ rfl rfl (.inr ⟨rfl, rfl, rfl⟩) g_ va_ (bf_ (by omega)) ?_); rintro _ _ ⟨rfl, rfl⟩
 iterate 2 (refine aL_S rfl rfl v_ ?_)
 refine ac_ ?_
 refine am_ ?_
 refine ai_ (σ' := σ) v_ sub_ ?_
 exact ⟨rfl, rfl⟩
abbrev fNm : AVal := .lit (.func (.func 130) #[] #[])
theorem lA_ {l : List ByteArray} {t : Bool} {σ : Store} (hn : l.length ≤ 1000000) (hs : ∀ x ∈ l, x.size ≤ 1000000) : ao_ Tryz.prog 177 [.sl 1 (l.map vStr) t, fNm] σ fun v σ' => (∃ r, v = vInt r ∧ decide (0 ≤ r) = l.any (fun y => !aI_ y)) ∧ σ = σ' := by
 refine aj_ Tryz.func177 rfl Tryz.ntmps177 (congrArg Array.toList Tryz.results177) (by simp only [List.length_cons, List.length_nil]; decide) ?_; simp only [af_, ak_, Nat.reduceAdd]
 refine ab_ ?_
 refine aa_ kr_ ?_
 (refine aL_S rfl rfl v_ ?_)
 refine ac_ ?_
 refine ab_ ?_
 refine ab_ ?_
 refine aa_ kr_ ?_
 iterate 3 (refine aL_S rfl rfl v_ ?_)
 refine ac_ ?_
 refine al_ ?_
 refine ap_ (ι := Nat) (fun k => l.length - k) (fun k => k ≤ l.length ∧ (l.take k).any (fun y => !aI_ y) = false) (fun k => [(0, .sl 1 (l.map vStr) t), (1, fNm), (7, vInt l.length), (8, vInt k)]) (fun k => σ) 0 ?_ ?_ ?_ ?_
 ·exact ⟨Nat.zero_le _, rfl⟩
 ·exact cv_
 ·exact sub_
 rintro k ⟨hk, ha⟩
 simp only [ar_, au_]
 refine ab_ ?_
 refine aa_ kr_ ?_
 (refine aL_S rfl rfl v_ ?_)
 refine ac_ ?_
 refine ab_ ?_
 refine ad_ v_ (fun hc2 => ?_) (fun hc2 => ?_)
 ·replace hc2 := nm_ hc2
  refine ah_ ?_
  refine ab_ ?_
  refine al_ ?_
  refine ab_ ?_
  refine aa_ kr_ ?_
  iterate 2 (refine aL_S rfl rfl v_ ?_)
  refine ac_ ?_
  refine ab_ ?_
  obtain ⟨y, hy⟩ := aA_ (l := l) (k := k) (by omega)
  have R := hy
  refine aa_ kr_ ?_
  iterate 5 (refine aL_S rfl rfl v_ ?_)
  refine aL_X rfl rfl (ae_ rfl rfl (.inr ⟨va_, rfl, rfl⟩) g_ va_ (nH_ (hs y (List.mem_of_getElem? hy))) ?_); rintro _ _ ⟨rfl, rfl⟩
  refine ac_ ?_
  refine ad_ v_ (fun hc4 => ?_) (fun hc4 => ?_)
  ·replace hc4 := nm_ hc4
   refine ab_ ?_
   refine aa_ kr_ ?_
   iterate 2 (refine aL_S rfl rfl v_ ?_)
   refine ac_ ?_
   refine am_ ?_
   refine ai_ (σ' := σ) v_ sub_ ?_
   exact ⟨⟨(k : Int), rfl, by rw [decide_eq_true (by omega)]; exact (id_ hy (by simpa using hc4)).symm⟩, rfl⟩
  ·replace hc4 := nm_ hc4
   refine ah_ ?_
   refine aa_ kr_ ?_
   iterate 2 (refine aL_S rfl rfl v_ ?_)
   refine ac_ ?_
   refine aJ_ (ι := Nat) (i := k) (k + 1) ?_ ?_ ?_ ?_
   ·omega
   ·exact ⟨by omega, gH_ hy (by simpa using hc4) ha⟩
   ·exact cv_
   ·exact sub_
 ·replace hc2 := nm_ hc2
  refine ax_ ?_
  refine ag_ ?_
  refine ag_ ?_
  refine aq_ ?_
  refine ab_ ?_
  refine aa_ kr_ ?_
  (refine aL_S rfl rfl v_ ?_)
  refine ac_ ?_
  refine am_ ?_
  refine ai_ (σ' := σ) v_ sub_ ?_
  exact ⟨⟨-1, rfl, (ic_ (by omega) ha).symm⟩, rfl⟩
theorem k3_ {l : List ByteArray} {t : Bool} {σ : Store} (hn : l.length ≤ 1000000) (hs : ∀ x ∈ l, x.size ≤ 1000000) : ao_ Tryz.prog 129 [.sl 1 (l.map vStr) t, fNm] σ fun v σ' => v = vB (l.any fun y => !aI_ y) ∧ σ = σ' := by
 refine aj_ Tryz.func129 rfl Tryz.ntmps129 (congrArg Array.toList Tryz.results129) (by simp only [List.length_cons, List.length_nil]; decide) ?_; simp only [af_, ak_, Nat.reduceAdd]
 refine ab_ ?_
 refine aa_ kr_ ?_
 (refine aL_S rfl rfl v_ ?_)
 refine ac_ ?_
 refine ab_ ?_
 refine aa_ kr_ ?_
 iterate 2 (refine aL_S rfl rfl v_ ?_)
 refine aL_X rfl rfl (ae_ rfl rfl (.inr ⟨rfl, rfl, rfl⟩) g_ va_ (lA_ hn hs) ?_); rintro _ _ ⟨⟨r, rfl, hr⟩, rfl⟩
 iterate 2 (refine aL_S rfl rfl v_ ?_)
 refine ac_ ?_
 refine am_ ?_
 refine ai_ (σ' := σ) v_ sub_ ?_
 exact ⟨by rw [← hr], rfl⟩
theorem gV_ {l : List ByteArray} {t : Bool} {σ : Store} (hn : l.length ≤ 1000000) (hs : ∀ x ∈ l, x.size ≤ 1000000) : ao_ Tryz.prog 73 [.sl 1 (l.map vStr) t] σ fun v σ' => v = vB (l.all aI_) ∧ σ = σ' := by
 refine aj_ Tryz.func73 rfl Tryz.ntmps73 (congrArg Array.toList Tryz.results73) (by simp only [List.length_cons, List.length_nil]; decide) ?_; simp only [af_, ak_, Nat.reduceAdd]
 refine ab_ ?_
 refine aa_ kr_ ?_
 (refine aL_S rfl rfl v_ ?_)
 refine ac_ ?_
 refine ab_ ?_
 refine aa_ kr_ ?_
 (refine aL_S rfl rfl v_ ?_)
 refine aL_X rfl rfl (ae_ rfl rfl (.inr ⟨rfl, rfl, rfl⟩) g_ va_ (k3_ hn hs) ?_); rintro _ _ ⟨rfl, rfl⟩
 iterate 2 (refine aL_S rfl rfl v_ ?_)
 refine ac_ ?_
 refine am_ ?_
 refine ai_ (σ' := σ) v_ sub_ ?_
 exact ⟨by congr 2; rw [List.any_eq_not_all_not, Bool.not_not]; congr 1; funext y; simp, rfl⟩
theorem sV_ {k a q : ByteArray} {p : List ByteArray} (hp : aH_ k = p) (h2 : 2 ≤ p.length) (h0 : p[0]? = some a) (hq : p[((p.length : Int) - 1).toNat]? = some q) : bi_ k = knP p a q := by
 unfold bi_ dG_
 rw [hp, decide_eq_true h2, Bool.true_and]
 have e : ((p.length : Int) - 1).toNat = p.length - 1 := by omega
 rw [e] at hq
 congr 1
 ·cases p with
  |nil => cases h0
  |cons x y => simpa using h0
 ·unfold kj_; rw [hq]; rfl
set_option maxHeartbeats 2000000 in
theorem eX_ {k : ByteArray} {σ : Store} (hk : k.size ≤ 900000) : ao_ Tryz.prog 27 [vStr k] σ fun v σ' => v = vB (bi_ k) ∧ σ = σ' := by
 obtain ⟨p, hp⟩ : ∃ p, aH_ k = p := ⟨_, rfl⟩
 have hpl := dT_ k
 have hpm : ∀ x ∈ aH_ k, x.size ≤ k.size := fun x hx => (c9_ hx).2
 rw [hp] at hpl hpm
 have m1 : ((p.map vStr).take p.length).drop 1 = (p.drop 1).map vStr := by rw [List.take_of_length_le (by simp), List.map_drop]
 have m2 : ((p.map vStr).take 3).drop 1 = ((p.take 3).drop 1).map vStr := by rw [← List.map_take, List.map_drop]
 have m3 : ((p.map vStr).take 2).drop 1 = ((p.take 2).drop 1).map vStr := by rw [← List.map_take, List.map_drop]
 have d1 : (p.drop 1).length ≤ 1000000 := by rw [List.length_drop]; omega
 have d2 : ((p.take 3).drop 1).length ≤ 1000000 := by simp; omega
 have d3 : ((p.take 2).drop 1).length ≤ 1000000 := by simp; omega
 have q1 : ∀ x ∈ p.drop 1, x.size ≤ 1000000 := fun x hx => by have := hpm x (List.mem_of_mem_drop hx); omega
 have q2 : ∀ x ∈ (p.take 3).drop 1, x.size ≤ 1000000 := fun x hx => by have := hpm x (List.mem_of_mem_take (List.mem_of_mem_drop hx)); omega
 have q3 : ∀ x ∈ (p.take 2).drop 1, x.size ≤ 1000000 := fun x hx => by have := hpm x (List.mem_of_mem_take (List.mem_of_mem_drop hx)); omega
 have i2 : decide ((p.length : Int) = 2) = decide (p.length = 2) := decide_eq_decide.2 (by omega)
 have i3 : decide ((p.length : Int) = 3) = decide (p.length = 3) := decide_eq_decide.2 (by omega)
 have i4 : decide ((p.length : Int) = 4) = decide (p.length = 4) := decide_eq_decide.2 (by omega)
 refine aj_ Tryz.func27 rfl Tryz.ntmps27 (congrArg Array.toList Tryz.results27) (by simp only [List.length_cons, List.length_nil]; decide) ?_; simp only [af_, ak_, Nat.reduceAdd]
 refine ab_ ?_
 refine aa_ kr_ ?_
 (refine aL_S rfl rfl v_ ?_)
 refine ac_ ?_
 refine ab_ ?_
 refine aa_ kr_ ?_
 (refine aL_S rfl rfl v_ ?_)
 refine aL_X rfl rfl (ae_ rfl rfl (.inr ⟨rfl, rfl, rfl⟩) g_ va_ (gZ_ (by omega)) ?_); rintro _ _ ⟨rfl, rfl⟩
 (refine aL_S rfl rfl v_ ?_)
 refine ac_ ?_
 rw [hp]
 refine ab_ ?_
 refine ab_ ?_
 refine aa_ kr_ ?_
 iterate 3 (refine aL_S rfl rfl v_ ?_)
 refine ac_ ?_
 refine ad_ v_ (fun hc2 => ?_) (fun hc2 => ?_)
 ·replace hc2 := nm_ hc2
  refine ab_ ?_
  refine aa_ kr_ ?_
  (refine aL_S rfl rfl v_ ?_)
  refine ac_ ?_
  refine am_ ?_
  refine ai_ (σ' := σ) v_ sub_ ?_
  exact ⟨by rw [bi_, hp, dG_, decide_eq_false (by omega)]; rfl, rfl⟩
 ·replace hc2 := nm_ hc2
  refine ah_ ?_
  refine ab_ ?_
  obtain ⟨q, hq⟩ := aA_ (l := p) (k := ((p.length : Int) - 1).toNat) (by omega)
  obtain ⟨a, ha⟩ := aA_ (l := p) (k := 0) (by omega)
  have hK := sV_ hp (by omega) ha hq
  have hqs : q.size ≤ 1000000 := by have := hpm q (List.mem_of_getElem? hq); omega
  have R := hq
  refine aa_ kr_ ?_
  iterate 7 (refine aL_S rfl rfl v_ ?_)
  refine ac_ ?_
  refine ab_ ?_
  refine ab_ ?_
  have R := ha
  refine aa_ kr_ ?_
  iterate 3 (refine aL_S rfl rfl v_ ?_)
  refine ac_ ?_
  refine al_ ?_
  refine ab_ ?_
  refine aa_ kr_ ?_
  iterate 2 (refine aL_S rfl rfl v_ ?_)
  refine ac_ ?_
  refine ad_ v_ (fun hc6 => ?_) (fun hc6 => ?_)
  ·replace hc6 := nm_ hc6
   refine ab_ ?_
   have R := m1
   refine aa_ kr_ ?_
   iterate 4 (refine aL_S rfl rfl v_ ?_)
   refine aC_ rfl rfl v_ rfl vg_ ?_
   refine aC_ rfl rfl v_ rfl vg_ ?_
   refine b8_ rfl rfl v_ rfl (fun hb => aK_ (by rfl) (by rfl) (.inr ⟨by rfl, by rfl, by rfl⟩) g_ cg_ (gV_ d1 q1)) ?_
   iterate 2 (refine aL_S rfl rfl v_ ?_)
   refine ac_ ?_
   refine am_ ?_
   refine ai_ (σ' := σ) v_ sub_ ?_
   exact ⟨by rw [hK, knP, if_pos (show a = a0_ from hc6), i2], rfl⟩
  ·replace hc6 := nm_ hc6
   refine ab_ ?_
   refine aa_ kr_ ?_
   iterate 2 (refine aL_S rfl rfl v_ ?_)
   refine ac_ ?_
   refine ad_ v_ (fun hc8 => ?_) (fun hc8 => ?_)
   ·replace hc8 := nm_ hc8
    refine ab_ ?_
    refine aa_ kr_ ?_
    (refine aL_S rfl rfl v_ ?_)
    refine aL_X rfl rfl (ae_ rfl rfl (.inr ⟨rfl, rfl, rfl⟩) g_ va_ (pY_ hqs) ?_); rintro _ _ ⟨rfl, rfl⟩
    iterate 5 (refine aL_S rfl rfl v_ ?_)
    refine ac_ ?_
    refine ab_ ?_
    refine aa_ kr_ ?_
    iterate 4 (refine aL_S rfl rfl v_ ?_)
    refine aC_ rfl rfl v_ rfl vg_ ?_
    iterate 2 (refine aL_S rfl rfl v_ ?_)
    refine aC_ rfl rfl v_ rfl vg_ ?_
    refine aC_ rfl rfl v_ rfl vg_ ?_
    iterate 2 (refine aL_S rfl rfl v_ ?_)
    refine aC_ rfl rfl v_ rfl vg_ ?_
    refine aC_ rfl rfl v_ rfl vg_ ?_
    iterate 2 (refine aL_S rfl rfl v_ ?_)
    refine ac_ ?_
    refine am_ ?_
    refine ai_ (σ' := σ) v_ sub_ ?_
    exact ⟨by rw [hK, knP, if_neg (show ¬ a = a0_ from hc6), if_pos (show a = bH_ from hc8), i2]; unfold in16; cases numS q <;> simp [Bool.and_assoc], rfl⟩
   ·replace hc8 := nm_ hc8
    refine ab_ ?_
    refine aa_ kr_ ?_
    iterate 2 (refine aL_S rfl rfl v_ ?_)
    refine ac_ ?_
    refine ad_ v_ (fun hc11 => ?_) (fun hc11 => ?_)
    ·replace hc11 := nm_ hc11
     refine ab_ ?_
     refine aa_ kr_ ?_
     refine aw_ rfl rfl rfl g_ g_ rfl rfl h_ c2_ (by decide) ?_
     (refine aL_S rfl rfl v_ ?_)
     refine ac_ ?_
     refine ab_ ?_
     have R := m2
     refine aa_ kr_ ?_
     iterate 4 (refine aL_S rfl rfl v_ ?_)
     refine aC_ rfl rfl v_ rfl vg_ ?_
     refine aC_ rfl rfl v_ rfl vg_ ?_
     refine b8_ rfl rfl v_ rfl (fun hb => aK_ (by rfl) (by rfl) (.inr ⟨by rfl, by rfl, by rfl⟩) g_ cg_ (gV_ d2 q2)) ?_
     iterate 2 (refine aL_S rfl rfl v_ ?_)
     refine aC_ rfl rfl v_ rfl vg_ ?_
     refine aC_ rfl rfl v_ rfl vg_ ?_
     refine b8_ rfl rfl v_ rfl (fun hb => aK_ (by rfl) (by rfl) (.inr ⟨by rfl, by rfl, by rfl⟩) g_ cg_ (cs_ (l := g0_) (by decide))) ?_
     iterate 2 (refine aL_S rfl rfl v_ ?_)
     refine ac_ ?_
     refine am_ ?_
     refine ai_ (σ' := σ) v_ sub_ ?_
     exact ⟨by rw [hK, knP, if_neg (show ¬ a = a0_ from hc6), if_neg (show ¬ a = bH_ from hc8), if_pos (show a = aO_ from hc11), i4], rfl⟩
    ·replace hc11 := nm_ hc11
     refine ab_ ?_
     refine aa_ kr_ ?_
     iterate 2 (refine aL_S rfl rfl v_ ?_)
     refine ac_ ?_
     refine ad_ v_ (fun hc14 => ?_) (fun hc14 => ?_)
     ·replace hc14 := nm_ hc14
      refine ab_ ?_
      have R := m1
      refine aa_ kr_ ?_
      iterate 4 (refine aL_S rfl rfl v_ ?_)
      refine aC_ rfl rfl v_ rfl vg_ ?_
      refine aC_ rfl rfl v_ rfl vg_ ?_
      refine b8_ rfl rfl v_ rfl (fun hb => aK_ (by rfl) (by rfl) (.inr ⟨by rfl, by rfl, by rfl⟩) g_ cg_ (gV_ d1 q1)) ?_
      iterate 2 (refine aL_S rfl rfl v_ ?_)
      refine ac_ ?_
      refine am_ ?_
      refine ai_ (σ' := σ) v_ sub_ ?_
      exact ⟨by rw [hK, knP, if_neg (show ¬ a = a0_ from hc6), if_neg (show ¬ a = bH_ from hc8), if_neg (show ¬ a = aO_ from hc11), if_pos (show a = er_ from hc14), i4], rfl⟩
     ·replace hc14 := nm_ hc14
      refine ab_ ?_
      refine aa_ kr_ ?_
      iterate 2 (refine aL_S rfl rfl v_ ?_)
      refine ac_ ?_
      refine ad_ v_ (fun hc16 => ?_) (fun hc16 => ?_)
      ·replace hc16 := nm_ hc16
       refine ab_ ?_
       refine aa_ kr_ ?_
       refine aw_ rfl rfl rfl g_ g_ rfl rfl h_ c2_ (by decide) ?_
       (refine aL_S rfl rfl v_ ?_)
       refine ac_ ?_
       refine ab_ ?_
       have R := m3
       refine aa_ kr_ ?_
       iterate 4 (refine aL_S rfl rfl v_ ?_)
       refine aC_ rfl rfl v_ rfl vg_ ?_
       refine aC_ rfl rfl v_ rfl vg_ ?_
       refine b8_ rfl rfl v_ rfl (fun hb => aK_ (by rfl) (by rfl) (.inr ⟨by rfl, by rfl, by rfl⟩) g_ cg_ (gV_ d3 q3)) ?_
       iterate 2 (refine aL_S rfl rfl v_ ?_)
       refine aC_ rfl rfl v_ rfl vg_ ?_
       refine aC_ rfl rfl v_ rfl vg_ ?_
       refine b8_ rfl rfl v_ rfl (fun hb => aK_ (by rfl) (by rfl) (.inr ⟨by rfl, by rfl, by rfl⟩) g_ cg_ (cs_ (l := tenF) (by decide))) ?_
       iterate 2 (refine aL_S rfl rfl v_ ?_)
       refine ac_ ?_
       refine am_ ?_
       refine ai_ (σ' := σ) v_ sub_ ?_
       exact ⟨by rw [hK, knP, if_neg (show ¬ a = a0_ from hc6), if_neg (show ¬ a = bH_ from hc8), if_neg (show ¬ a = aO_ from hc11), if_neg (show ¬ a = er_ from hc14), if_pos (show a = aR_ from hc16), i3], rfl⟩
      ·replace hc16 := nm_ hc16
       refine ah_ ?_
       refine ab_ ?_
       refine aa_ kr_ ?_
       (refine aL_S rfl rfl v_ ?_)
       refine ac_ ?_
       refine am_ ?_
       refine ai_ (σ' := σ) v_ sub_ ?_
       exact ⟨by rw [hK, knP, if_neg (show ¬ a = a0_ from hc6), if_neg (show ¬ a = bH_ from hc8), if_neg (show ¬ a = aO_ from hc11), if_neg (show ¬ a = er_ from hc14), if_neg (show ¬ a = aR_ from hc16)], rfl⟩
end Go.Proofs.YtkcmbjodladflaaGreatDoor
end

section
set_option linter.all false
set_option maxRecDepth 100000
namespace Go.Ab
structure Mbr where
 name : ByteArray
 rack : ByteArray
 zone : ByteArray
 up : Bool
@[reducible] def sMbr (x : Mbr) : AVal := .agg [.lit (.string x.name), .lit (.string x.rack), .lit (.string x.zone), .lit (.bool x.up)]
end Go.Ab
namespace Go.Proofs.YtkcmbjodladflaaGreatDoor
open Go.Ab
def bsUp : ByteArray := ⟨#[117, 112]⟩
def e6_ : ByteArray := ⟨#[100, 111, 119, 110]⟩
def d1_ : Mbr := ⟨⟨#[]⟩, ⟨#[]⟩, ⟨#[]⟩, false⟩
def mbrS (a v : ByteArray) : Option Mbr := match aH_ v with | [r, z, u] => if aI_ a = true ∧ aI_ r = true ∧ aI_ z = true ∧ (u = bsUp ∨ u = e6_) then some ⟨a, r, z, decide (u = bsUp)⟩ else none | _ => none
def memK (x : Ent) : Option Mbr := mbrS (x.key.extract 5 x.key.size) x.value
def bT_ (l : List Ent) : List Mbr := (undS l a0_).filterMap memK
def nmsS (l : List Ent) : List ByteArray := (bT_ l).map Mbr.name
theorem dm_ (l : List Ent) : (bT_ l).length ≤ l.length := Nat.le_trans (List.length_filterMap_le ..) (dL_ l a0_)
theorem om_ (l : List Mbr) : ∀ y ∈ l.map sMbr, y.cells.length = 4 := fun y hy => by
 obtain ⟨x, _, rfl⟩ := List.mem_map.1 hy
 rfl
theorem gm_ {l : List ByteArray} {N : Nat} (h : ∀ x ∈ l, x.size ≤ N) (k : Nat) : ∃ x : ByteArray, (k < l.length → l[k]? = some x) ∧ x.size ≤ N := by
 by_cases hk : k < l.length
 ·exact ⟨l[k], fun _ => List.getElem?_eq_getElem hk, h _ (List.getElem_mem hk)⟩
 ·exact ⟨⟨#[]⟩, fun h' => absurd h' hk, Nat.zero_le _⟩
theorem fi_ {a v r z u : ByteArray} (h3 : (aH_ v).length = 3) (h0 : (aH_ v)[0]? = some r) (h1 : (aH_ v)[1]? = some z) (h2 : (aH_ v)[2]? = some u) : mbrS a v = if aI_ a = true ∧ aI_ r = true ∧ aI_ z = true ∧ (u = bsUp ∨ u = e6_) then some ⟨a, r, z, decide (u = bsUp)⟩ else none := by
 unfold mbrS
 obtain ⟨a', b', c', e⟩ : ∃ a b c, aH_ v = [a, b, c] := by
  match hp : aH_ v, h3 with
  |[a, b, c], _ => exact ⟨a, b, c, rfl⟩
 rw [e] at h0 h1 h2 ⊢
 simp only [List.getElem?_cons_succ, List.getElem?_cons_zero, Option.some.injEq] at h0 h1 h2
 subst h0; subst h1; subst h2; rfl
theorem ji_ {a v : ByteArray} (h3 : ¬(aH_ v).length = 3) : mbrS a v = none := by
 unfold mbrS
 split
 ·rename_i a b c e; rw [e] at h3; simp at h3
 ·rfl
theorem gX_ {a v : ByteArray} {σ : Store} (ha : a.size ≤ 900000) (hv : v.size ≤ 900000) : ao_ Tryz.prog 149 [vStr a, vStr v] σ fun w σ' => w = .tup [sMbr ((mbrS a v).getD d1_), vB (mbrS a v).isSome] ∧ σ = σ' := by
 have hpl := dT_ v
 have hpm : ∀ x ∈ aH_ v, x.size ≤ 900000 := fun x hx => Nat.le_trans (c9_ hx).2 hv
 obtain ⟨r, hr, rz⟩ := gm_ hpm 0
 obtain ⟨z, hz, zz⟩ := gm_ hpm 1
 obtain ⟨u, hu, uz⟩ := gm_ hpm 2
 refine aj_ Tryz.func149 rfl Tryz.ntmps149 (congrArg Array.toList Tryz.results149) (by simp only [List.length_cons, List.length_nil]; decide) ?_; simp only [af_, ak_, Nat.reduceAdd]
 refine ab_ ?_
 refine aa_ kr_ ?_
 refine aQ_ rfl rfl rfl g_ gl_ fun o4 ho4 => ?_
 repeat (rw [an_] at ho4; obtain ⟨_, ho4⟩ := ho4)
 (refine aL_S rfl rfl v_ ?_)
 refine ac_ ?_
 refine ab_ ?_
 refine aa_ kr_ ?_
 (refine aL_S rfl rfl v_ ?_)
 refine aL_X rfl rfl (ae_ rfl rfl (.inr ⟨rfl, rfl, rfl⟩) g_ va_ (gZ_ (by omega)) ?_); rintro _ _ ⟨rfl, rfl⟩
 (refine aL_S rfl rfl v_ ?_)
 refine ac_ ?_
 refine ab_ ?_
 refine ab_ ?_
 have R := And.intro hr hz
 refine aa_ kr_ ?_
 (refine aL_S rfl rfl v_ ?_)
 refine aL_X rfl rfl (ae_ rfl rfl (.inr ⟨rfl, rfl, rfl⟩) g_ va_ (bf_ (by omega)) ?_); rintro _ _ ⟨rfl, rfl⟩
 iterate 2 (refine aL_S rfl rfl v_ ?_)
 refine ay_ rfl rfl v_ rfl vg_ ?_
 refine ay_ rfl rfl v_ rfl vg_ ?_
 refine ay_ rfl rfl v_ rfl vg_ ?_
 iterate 2 (refine aL_S rfl rfl v_ ?_)
 refine ay_ rfl rfl v_ rfl vg_ ?_
 refine ay_ rfl rfl v_ rfl vg_ ?_
 refine ay_ rfl rfl v_ rfl vg_ ?_
 refine bQ_ rfl rfl v_ rfl (fun hb => aK_ (by rfl) (by rfl) (.inr ⟨by rfl, by rfl, by rfl⟩) g_ cg_ (bf_ (by omega))) ?_
 refine ay_ rfl rfl v_ rfl vg_ ?_
 iterate 2 (refine aL_S rfl rfl v_ ?_)
 refine ay_ rfl rfl v_ rfl vg_ ?_
 refine ay_ rfl rfl v_ rfl vg_ ?_
 refine ay_ rfl rfl v_ rfl vg_ ?_
 refine bQ_ rfl rfl v_ rfl (fun hb => aK_ (by rfl) (by rfl) (.inr ⟨by rfl, by rfl, by rfl⟩) g_ cg_ (bf_ (by omega))) ?_
 refine ay_ rfl rfl v_ rfl vg_ ?_
 (refine aL_S rfl rfl v_ ?_)
 refine ac_ ?_
 refine ad_ v_ (fun hc2 => ?_) (fun hc2 => ?_)
 ·replace hc2 := nm_ hc2
  refine ab_ ?_
  refine aa_ kr_ ?_
  (refine aL_S rfl rfl v_ ?_)
  refine av_ rfl rfl rfl v_ v_ h_ g_ rfl g_ c_ (by rfl) le_ v_ ?_
  (refine aL_S rfl rfl v_ ?_)
  refine ac_ ?_
  refine am_ ?_
  refine ai_ (σ' := σ) v_ sub_ ?_
  skip
  have hn : mbrS a v = none := by
   by_cases h3 : (aH_ v).length = 3
   ·rw [fi_ h3 (hr (by omega)) (hz (by omega)) (hu (by omega)), if_neg]
    rintro ⟨g1, g2, g3, _⟩
    simp [g1, g2, g3, h3] at hc2
   ·exact ji_ h3
  exact ⟨by rw [hn]; rfl, rfl⟩
 ·replace hc2 := nm_ hc2
  have h3 : (aH_ v).length = 3 := by omega
  have hr' := hr (by omega)
  have hz' := hz (by omega)
  have hu' := hu (by omega)
  have hms := fi_ (a := a) h3 hr' hz' hu'
  refine ah_ ?_
  refine ab_ ?_
  refine ab_ ?_
  have R := hu'
  refine aa_ kr_ ?_
  iterate 3 (refine aL_S rfl rfl v_ ?_)
  refine ac_ ?_
  refine al_ ?_
  refine ab_ ?_
  refine ab_ ?_
  refine aa_ kr_ ?_
  iterate 2 (refine aL_S rfl rfl v_ ?_)
  refine ac_ ?_
  refine ad_ v_ (fun hc5 => ?_) (fun hc5 => ?_)
  ·replace hc5 := nm_ hc5
   have hup := hc5
   refine ah_ ?_
   refine ad_ v_ (fun hc5 => ?_) (fun hc5 => ?_)
   ·replace hc5 := nm_ hc5
    have hup := hc5
    refine ab_ ?_
    have R := And.intro hr' (And.intro hz' hu')
    refine aG_ (.op 0 0 (.op 1 0 (.op 2 0 (.op 3 0 (.op 4 0 (.op 5 0 (.op 6 0 (.op 7 0 (.op 8 0 (.op 9 0 (.op 10 0 (.op 11 0 (.op 12 2 (.op 13 0 .nil)))))))))))))) Tryz.mixed kr_ ?_
    iterate 12 (refine dR_S o_ (by rfl) (by rfl) v_ ?_)
    refine aM_ o_ (by rfl) (by rfl) (by rfl) v_ v_ h_ g_ rfl g_ c_ (by rfl) le_ v_ ?_
    (refine dR_S o_ (by rfl) (by rfl) v_ ?_)
    refine aL_ ?_
    refine am_ ?_
    refine ai_ (σ' := σ) v_ sub_ ?_
    exact ⟨by rw [hms, if_pos ⟨hc2.1.1.1, hc2.1.2, hc2.2, .inl hup⟩]; rfl, rfl⟩
   ·replace hc5 := nm_ hc5
    exact absurd hup hc5
  ·replace hc5 := nm_ hc5
   refine aa_ kr_ ?_
   iterate 2 (refine aL_S rfl rfl v_ ?_)
   refine ac_ ?_
   refine ad_ v_ (fun hc6 => ?_) (fun hc6 => ?_)
   ·replace hc6 := nm_ hc6
    refine ab_ ?_
    have R := And.intro hr' (And.intro hz' hu')
    refine aG_ (.op 0 0 (.op 1 0 (.op 2 0 (.op 3 0 (.op 4 0 (.op 5 0 (.op 6 0 (.op 7 0 (.op 8 0 (.op 9 0 (.op 10 0 (.op 11 0 (.op 12 2 (.op 13 0 .nil)))))))))))))) Tryz.mixed kr_ ?_
    iterate 12 (refine dR_S o_ (by rfl) (by rfl) v_ ?_)
    refine aM_ o_ (by rfl) (by rfl) (by rfl) v_ v_ h_ g_ rfl g_ c_ (by rfl) le_ v_ ?_
    (refine dR_S o_ (by rfl) (by rfl) v_ ?_)
    refine aL_ ?_
    refine am_ ?_
    refine ai_ (σ' := σ) v_ sub_ ?_
    exact ⟨by rw [hms, if_pos ⟨hc2.1.1.1, hc2.1.2, hc2.2, .inr hc6⟩]; rfl, rfl⟩
   ·replace hc6 := nm_ hc6
    refine ah_ ?_
    refine ab_ ?_
    refine aa_ kr_ ?_
    (refine aL_S rfl rfl v_ ?_)
    refine av_ rfl rfl rfl v_ v_ h_ g_ rfl g_ c_ (by rfl) le_ v_ ?_
    (refine aL_S rfl rfl v_ ?_)
    refine ac_ ?_
    refine am_ ?_
    refine ai_ (σ' := σ) v_ sub_ ?_
    exact ⟨by rw [hms, if_neg (fun hh => by rcases hh.2.2.2 with h | h; exact hc5 h; exact hc6 h)]; rfl, rfl⟩
def iN_ (s p : ByteArray) : ByteArray := if hpS s p = true then s.extract p.size s.size else s
theorem od_ {s p : ByteArray} {σ : Store} : ao_ Tryz.prog 195 [vStr s, vStr p] σ fun v σ' => v = vStr (iN_ s p) ∧ σ = σ' := by
 refine aj_ Tryz.func195 rfl Tryz.ntmps195 (congrArg Array.toList Tryz.results195) (by simp only [List.length_cons, List.length_nil]; decide) ?_; simp only [af_, ak_, Nat.reduceAdd]
 refine ab_ ?_
 refine aa_ kr_ ?_
 (refine aL_S rfl rfl v_ ?_)
 refine ac_ ?_
 refine ab_ ?_
 refine ab_ ?_
 refine aa_ kr_ ?_
 iterate 2 (refine aL_S rfl rfl v_ ?_)
 refine aL_X rfl rfl (ae_ rfl rfl (.inr ⟨rfl, rfl, rfl⟩) g_ va_ (eK_) ?_); rintro _ _ ⟨rfl, rfl⟩
 refine ac_ ?_
 refine ad_ v_ (fun hc1 => ?_) (fun hc1 => ?_)
 ·replace hc1 := nm_ hc1
  have hle : p.size ≤ s.size := by unfold hpS at hc1; simp only [Bool.and_eq_true, decide_eq_true_eq] at hc1; exact hc1.1
  refine ab_ ?_
  refine aa_ kr_ ?_
  iterate 5 (refine aL_S rfl rfl v_ ?_)
  refine ac_ ?_
  refine am_ ?_
  refine ai_ (σ' := σ) v_ sub_ ?_
  exact ⟨by rw [iN_, if_pos hc1], rfl⟩
 ·replace hc1 := nm_ hc1
  refine ah_ ?_
  refine ab_ ?_
  refine aa_ kr_ ?_
  iterate 2 (refine aL_S rfl rfl v_ ?_)
  refine ac_ ?_
  refine am_ ?_
  refine ai_ (σ' := σ) v_ sub_ ?_
  exact ⟨by rw [iN_, if_neg (by simp [hc1])], rfl⟩
theorem oT_ {s p : ByteArray} {σ : Store} : ao_ Tryz.prog 150 [vStr s, vStr p] σ fun v σ' => v = vStr (iN_ s p) ∧ σ = σ' := by
 refine aj_ Tryz.func150 rfl Tryz.ntmps150 (congrArg Array.toList Tryz.results150) (by simp only [List.length_cons, List.length_nil]; decide) ?_; simp only [af_, ak_, Nat.reduceAdd]
 refine ab_ ?_
 refine aa_ kr_ ?_
 (refine aL_S rfl rfl v_ ?_)
 refine ac_ ?_
 refine ab_ ?_
 refine aa_ kr_ ?_
 iterate 2 (refine aL_S rfl rfl v_ ?_)
 refine aL_X rfl rfl (ae_ rfl rfl (.inr ⟨rfl, rfl, rfl⟩) g_ va_ (od_) ?_); rintro _ _ ⟨rfl, rfl⟩
 (refine aL_S rfl rfl v_ ?_)
 refine ac_ ?_
 refine am_ ?_
 refine ai_ (σ' := σ) v_ sub_ ?_
 exact ⟨rfl, rfl⟩
theorem jQ_ {l : List Ent} {s : ByteArray} {x : Ent} (h : x ∈ undS l s) : hpS x.key (s ++ ⟨#[47]⟩) = true := by simpa using (List.mem_filter.1 h).2
theorem mC_ {l : List Ent} {x : Ent} (h : x ∈ undS l a0_) : iN_ x.key ⟨#[110, 111, 100, 101, 47]⟩ = x.key.extract 5 x.key.size := by
 have h1 : hpS x.key ⟨#[110, 111, 100, 101, 47]⟩ = true := jQ_ h
 rw [iN_, if_pos h1]; rfl
set_option maxHeartbeats 2000000 in
theorem nL_ {l : List Ent} {t : Bool} {σ : Store} (hl : l.length ≤ 1000000) (hs : ∀ x ∈ l, EntSm x) (hks : ∀ x ∈ l, x.key.size ≤ 400000 ∧ x.value.size ≤ 400000) : ao_ Tryz.prog 94 [.sl 4 (l.map sEnt) t] σ fun v σ' => ∃ σ1, CBp σ1 σ' 4 ((bT_ l).map sMbr) v ∧ σ.Sub σ1 := by
 obtain ⟨U, hU⟩ : ∃ U, undS l a0_ = U := ⟨_, rfl⟩
 have hUl := dL_ l a0_
 have hUs := mF_ (s := a0_) hs
 have hUt : ∀ x ∈ undS l a0_, iN_ x.key ⟨#[110, 111, 100, 101, 47]⟩ = x.key.extract 5 x.key.size := fun x hx => mC_ hx
 have hsub : ∀ x ∈ undS l a0_, x ∈ l := fun x hx => (List.mem_filter.1 hx).1
 have hml := dm_ l
 rw [show bT_ l = (undS l a0_).filterMap memK from rfl] at hml ⊢
 rw [hU] at hUl hUs hUt hsub hml ⊢
 refine aj_ Tryz.func94 rfl Tryz.ntmps94 (congrArg Array.toList Tryz.results94) (by simp only [List.length_cons, List.length_nil]; decide) ?_; simp only [af_, ak_, Nat.reduceAdd]
 refine ab_ ?_
 refine aa_ kr_ ?_
 (refine aL_S rfl rfl v_ ?_)
 refine ac_ ?_
 refine ab_ ?_
 refine aa_ kr_ ?_
 (refine aL_S rfl rfl v_ ?_)
 refine ac_ ?_
 refine ab_ ?_
 refine ab_ ?_
 refine aa_ kr_ ?_
 (refine aL_S rfl rfl v_ ?_)
 refine aL_X rfl rfl (ae_ rfl rfl (.inr ⟨rfl, rfl, rfl⟩) g_ va_ (hb_ (s := a0_) hl (by decide)) ?_); rintro _ _ ⟨rfl, rfl⟩
 iterate 2 (refine aL_S rfl rfl v_ ?_)
 refine ac_ ?_
 rw [hU]
 refine al_ ?_
 refine ap_ (ι := Store × AVal × Nat) (fun ⟨τ, g, k⟩ => U.length - k) (fun ⟨τ, g, k⟩ => k ≤ U.length ∧ CBp σ τ 4 (((U.take k).filterMap memK).map sMbr) g) (fun ⟨τ, g, k⟩ => [(3, g), (9, .sl 4 (U.map sEnt) false), (10, vInt U.length), (11, vInt k)]) (fun ⟨τ, g, k⟩ => τ) (σ, vNil, 0) ?_ ?_ ?_ ?_
 ·exact ⟨Nat.zero_le _, .inl ⟨rfl, rfl, rfl⟩⟩
 ·exact cv_
 ·exact Store.Wk.refl _
 rintro ⟨τ, g, k⟩ ⟨hk, hC⟩
 simp only [ar_, au_]
 refine ab_ ?_
 refine aa_ kr_ ?_
 (refine aL_S rfl rfl v_ ?_)
 refine ac_ ?_
 refine ab_ ?_
 refine ad_ v_ (fun hc3 => ?_) (fun hc3 => ?_)
 ·replace hc3 := nm_ hc3
  refine ah_ ?_
  refine ab_ ?_
  refine al_ ?_
  refine ab_ ?_
  obtain ⟨x, hx⟩ := aA_ (l := U) (k := k) (by omega)
  have hxm := List.mem_of_getElem? hx
  have hxs := hUs x hxm
  have hsn := gQ_ (f := memK) hx
  have hxt := hUt x hxm
  have hk1 := (hks x (hsub x hxm)).1
  have hk2 := (hks x (hsub x hxm)).2
  have hle : ((U.take k).filterMap memK).length ≤ U.length := Nat.le_trans (List.length_filterMap_le ..) (by rw [List.length_take]; omega)
  have R := hx
  refine aa_ kr_ ?_
  iterate 2 (refine aL_S rfl rfl v_ ?_)
  refine aQ_ rfl rfl rfl g_ gl_ fun o5 ho5 => ?_
  repeat (rw [an_] at ho5; obtain ⟨_, ho5⟩ := ho5)
  refine av_ rfl rfl rfl v_ v_ h_ g_ rfl g_ c_ (by rfl) le_ v_ ?_
  refine ac_ ?_
  skip
  have n5 := b5_ hC ho5
  have hC1 := cr_ (x := .cells [.lit (.string ⟨#[]⟩), vInt 0, .lit (.string ⟨#[]⟩), .lit (.string ⟨#[]⟩)]) (y := .cells (sEnt x).cells) hC ho5
  obtain ⟨mo, hmo⟩ : ∃ mo, memK x = mo := ⟨_, rfl⟩
  have hmo' : mbrS (x.key.extract 5 x.key.size) x.value = mo := hmo
  refine ab_ ?_
  refine aG_ (.op 0 0 (.op 1 0 (.op 3 0 (.op 4 0 (.op 5 0 (.alt 2 1 (.alt 6 1 (.op 7 0 (.op 8 0 (.op 9 0 (.op 10 1 (.op 11 2 (.op 12 0 .nil)))))) (.op 10 1 (.op 6 1 (.op 7 0 (.op 8 0 (.op 9 0 (.op 11 2 (.op 12 0 .nil)))))))) (.op 10 1 (.op 2 1 (.op 6 1 (.op 7 0 (.op 8 0 (.op 9 0 (.op 11 2 (.op 12 0 .nil)))))))))))))) Tryz.mixed kr_ ?_
  iterate 5 (refine dR_S o_ (by rfl) (by rfl) v_ ?_)
  refine ck_ ?_ ?_
  ·refine dR_X o_ (by rfl) (by rfl) (ae_ (by rfl) (by rfl) (.inr ⟨by rfl, by rfl, by rfl⟩) g_ va_ (oT_) ?_); rintro _ _ ⟨rfl, rfl⟩; refine ⟨sub_, ?_⟩
   rw [hxt]
   refine ck_ ?_ ?_
   ·refine dR_X o_ (by rfl) (by rfl) (ae_ (by rfl) (by rfl) (.inr ⟨by rfl, by rfl, by rfl⟩) g_ va_ (gX_ (by simp only [ByteArray.size_extract]; omega) (by omega)) ?_); rintro _ _ ⟨rfl, rfl⟩; refine ⟨sub_, ?_⟩
    rw [hmo']
    iterate 3 (refine dR_S o_ (by rfl) (by rfl) v_ ?_)
    refine bm_ o_ (by rfl) (by rfl) (by rfl) g_ gl_ sub_ fun o6 ho6 => ?_
    repeat (rw [an_] at ho6; obtain ⟨_, ho6⟩ := ho6)
    refine aM_ o_ (by rfl) (by rfl) (by rfl) v_ v_ h_ g_ rfl g_ c_ (by rfl) le_ v_ ?_
    (refine dR_S o_ (by rfl) (by rfl) v_ ?_)
    refine aL_ ?_
    skip
    have h6 : ((τ.set o5 (.cells [.lit (.string ⟨#[]⟩), vInt 0, .lit (.string ⟨#[]⟩), .lit (.string ⟨#[]⟩)])).set o5 (.cells (sEnt x).cells)).heap o6 = none := by rw [Store.set_ne _ _ (by assumption), Store.set_ne _ _ (by assumption)]; exact ho6
    have n6 := b5_ hC1 h6
    have hC2 := cr_ (x := .cells (sMbr d1_).cells) (y := .cells (sMbr (mo.getD d1_)).cells) hC1 h6
    refine ab_ ?_
    refine aa_ kr_ ?_
    (refine aL_S rfl rfl v_ ?_)
    refine ac_ ?_
    refine ad_ v_ (fun hc6 => ?_) (fun hc6 => ?_)
    ·replace hc6 := nm_ hc6
     obtain ⟨m, rfl⟩ := Option.isSome_iff_exists.1 hc6
     have hcov : (U.take (k + 1)).filterMap memK = (U.take k).filterMap memK ++ [m] := by rw [hsn, hmo]; rfl
     refine aa_ kr_ ?_
     iterate 2 (refine aL_S rfl rfl v_ ?_)
     refine aw_ rfl rfl rfl g_ g_ rfl rfl h_ c2_ (by decide) ?_
     refine aL_X rfl rfl (bz_ rfl g_ g_ hC2 va_ (om_ _) va_ c_ (by simp; omega) fun a' σ' hC3 => ?_)
     rw [show ((U.take k).filterMap memK).map sMbr ++ [sMbr ((some m).getD d1_)] = ((U.take k).filterMap memK ++ [m]).map sMbr from by simp] at hC3
     obtain ⟨τ1, hC4, hs1⟩ := b2_ hC3 n6
     obtain ⟨τ2, hC5, hs2⟩ := b2_ hC4 n5
     (refine aL_S rfl rfl v_ ?_)
     refine ac_ ?_
     refine aa_ kr_ ?_
     iterate 2 (refine aL_S rfl rfl v_ ?_)
     refine ac_ ?_
     refine aJ_ (ι := Store × AVal × Nat) (i := ⟨τ, g, k⟩) (τ2, a', k + 1) ?_ ?_ ?_ ?_
     ·show U.length - (k + 1) < U.length - k; omega
     ·exact ⟨by show k + 1 ≤ U.length; omega, by rw [hcov]; exact hC5⟩
     ·exact cv_
     ·exact (hs2.trans hs1).wk
    ·replace hc6 := nm_ hc6
     obtain rfl : mo = none := by simpa using hc6
     have hcov : (U.take (k + 1)).filterMap memK = (U.take k).filterMap memK := by rw [hsn, hmo]; simp
     refine ah_ ?_
     refine aa_ kr_ ?_
     iterate 2 (refine aL_S rfl rfl v_ ?_)
     refine ac_ ?_
     refine aJ_ (ι := Store × AVal × Nat) (i := ⟨τ, g, k⟩) (τ, g, k + 1) ?_ ?_ ?_ ?_
     ·show U.length - (k + 1) < U.length - k; omega
     ·exact ⟨by show k + 1 ≤ U.length; omega, by rw [hcov]; exact hC⟩
     ·exact cv_
     ·exact sub_
   refine bm_ o_ (by rfl) (by rfl) (by rfl) g_ gl_ sub_ fun o6 ho6 => ?_
   repeat (rw [an_] at ho6; obtain ⟨_, ho6⟩ := ho6)
   refine dR_X o_ (by rfl) (by rfl) (ae_ (by rfl) (by rfl) (.inr ⟨by rfl, by rfl, by rfl⟩) g_ va_ (gX_ (by simp only [ByteArray.size_extract]; omega) (by omega)) ?_); rintro _ _ ⟨rfl, rfl⟩; refine ⟨sub_, ?_⟩
   rw [hmo']
   iterate 3 (refine dR_S o_ (by rfl) (by rfl) v_ ?_)
   refine aM_ o_ (by rfl) (by rfl) (by rfl) v_ v_ h_ g_ rfl g_ c_ (by rfl) le_ v_ ?_
   (refine dR_S o_ (by rfl) (by rfl) v_ ?_)
   refine aL_ ?_
   skip
   have h6 : ((τ.set o5 (.cells [.lit (.string ⟨#[]⟩), vInt 0, .lit (.string ⟨#[]⟩), .lit (.string ⟨#[]⟩)])).set o5 (.cells (sEnt x).cells)).heap o6 = none := by rw [Store.set_ne _ _ (by assumption), Store.set_ne _ _ (by assumption)]; exact ho6
   have n6 := b5_ hC1 h6
   have hC2 := cr_ (x := .cells (sMbr d1_).cells) (y := .cells (sMbr (mo.getD d1_)).cells) hC1 h6
   refine ab_ ?_
   refine aa_ kr_ ?_
   (refine aL_S rfl rfl v_ ?_)
   refine ac_ ?_
   refine ad_ v_ (fun hc6 => ?_) (fun hc6 => ?_)
   ·replace hc6 := nm_ hc6
    obtain ⟨m, rfl⟩ := Option.isSome_iff_exists.1 hc6
    have hcov : (U.take (k + 1)).filterMap memK = (U.take k).filterMap memK ++ [m] := by rw [hsn, hmo]; rfl
    refine aa_ kr_ ?_
    iterate 2 (refine aL_S rfl rfl v_ ?_)
    refine aw_ rfl rfl rfl g_ g_ rfl rfl h_ c2_ (by decide) ?_
    refine aL_X rfl rfl (bz_ rfl g_ g_ hC2 va_ (om_ _) va_ c_ (by simp; omega) fun a' σ' hC3 => ?_)
    rw [show ((U.take k).filterMap memK).map sMbr ++ [sMbr ((some m).getD d1_)] = ((U.take k).filterMap memK ++ [m]).map sMbr from by simp] at hC3
    obtain ⟨τ1, hC4, hs1⟩ := b2_ hC3 n6
    obtain ⟨τ2, hC5, hs2⟩ := b2_ hC4 n5
    (refine aL_S rfl rfl v_ ?_)
    refine ac_ ?_
    refine aa_ kr_ ?_
    iterate 2 (refine aL_S rfl rfl v_ ?_)
    refine ac_ ?_
    refine aJ_ (ι := Store × AVal × Nat) (i := ⟨τ, g, k⟩) (τ2, a', k + 1) ?_ ?_ ?_ ?_
    ·show U.length - (k + 1) < U.length - k; omega
    ·exact ⟨by show k + 1 ≤ U.length; omega, by rw [hcov]; exact hC5⟩
    ·exact cv_
    ·exact (hs2.trans hs1).wk
   ·replace hc6 := nm_ hc6
    obtain rfl : mo = none := by simpa using hc6
    have hcov : (U.take (k + 1)).filterMap memK = (U.take k).filterMap memK := by rw [hsn, hmo]; simp
    refine ah_ ?_
    refine aa_ kr_ ?_
    iterate 2 (refine aL_S rfl rfl v_ ?_)
    refine ac_ ?_
    refine aJ_ (ι := Store × AVal × Nat) (i := ⟨τ, g, k⟩) (τ, g, k + 1) ?_ ?_ ?_ ?_
    ·show U.length - (k + 1) < U.length - k; omega
    ·exact ⟨by show k + 1 ≤ U.length; omega, by rw [hcov]; exact hC⟩
    ·exact cv_
    ·exact sub_
  refine bm_ o_ (by rfl) (by rfl) (by rfl) g_ gl_ sub_ fun o6 ho6 => ?_
  repeat (rw [an_] at ho6; obtain ⟨_, ho6⟩ := ho6)
  refine dR_X o_ (by rfl) (by rfl) (ae_ (by rfl) (by rfl) (.inr ⟨by rfl, by rfl, by rfl⟩) g_ va_ (oT_) ?_); rintro _ _ ⟨rfl, rfl⟩; refine ⟨sub_, ?_⟩
  rw [hxt]
  refine dR_X o_ (by rfl) (by rfl) (ae_ (by rfl) (by rfl) (.inr ⟨by rfl, by rfl, by rfl⟩) g_ va_ (gX_ (by simp only [ByteArray.size_extract]; omega) (by omega)) ?_); rintro _ _ ⟨rfl, rfl⟩; refine ⟨sub_, ?_⟩
  rw [hmo']
  iterate 3 (refine dR_S o_ (by rfl) (by rfl) v_ ?_)
  refine aM_ o_ (by rfl) (by rfl) (by rfl) v_ v_ h_ g_ rfl g_ c_ (by rfl) le_ v_ ?_
  (refine dR_S o_ (by rfl) (by rfl) v_ ?_)
  refine aL_ ?_
  skip
  have h6 : ((τ.set o5 (.cells [.lit (.string ⟨#[]⟩), vInt 0, .lit (.string ⟨#[]⟩), .lit (.string ⟨#[]⟩)])).set o5 (.cells (sEnt x).cells)).heap o6 = none := by rw [Store.set_ne _ _ (by assumption), Store.set_ne _ _ (by assumption)]; exact ho6
  have n6 := b5_ hC1 h6
  have hC2 := cr_ (x := .cells (sMbr d1_).cells) (y := .cells (sMbr (mo.getD d1_)).cells) hC1 h6
  refine ab_ ?_
  refine aa_ kr_ ?_
  (refine aL_S rfl rfl v_ ?_)
  refine ac_ ?_
  refine ad_ v_ (fun hc6 => ?_) (fun hc6 => ?_)
  ·replace hc6 := nm_ hc6
   obtain ⟨m, rfl⟩ := Option.isSome_iff_exists.1 hc6
   have hcov : (U.take (k + 1)).filterMap memK = (U.take k).filterMap memK ++ [m] := by rw [hsn, hmo]; rfl
   refine aa_ kr_ ?_
   iterate 2 (refine aL_S rfl rfl v_ ?_)
   refine aw_ rfl rfl rfl g_ g_ rfl rfl h_ c2_ (by decide) ?_
   refine aL_X rfl rfl (bz_ rfl g_ g_ hC2 va_ (om_ _) va_ c_ (by simp; omega) fun a' σ' hC3 => ?_)
   rw [show ((U.take k).filterMap memK).map sMbr ++ [sMbr ((some m).getD d1_)] = ((U.take k).filterMap memK ++ [m]).map sMbr from by simp] at hC3
   obtain ⟨τ1, hC4, hs1⟩ := b2_ hC3 n6
   obtain ⟨τ2, hC5, hs2⟩ := b2_ hC4 n5
   (refine aL_S rfl rfl v_ ?_)
   refine ac_ ?_
   refine aa_ kr_ ?_
   iterate 2 (refine aL_S rfl rfl v_ ?_)
   refine ac_ ?_
   refine aJ_ (ι := Store × AVal × Nat) (i := ⟨τ, g, k⟩) (τ2, a', k + 1) ?_ ?_ ?_ ?_
   ·show U.length - (k + 1) < U.length - k; omega
   ·exact ⟨by show k + 1 ≤ U.length; omega, by rw [hcov]; exact hC5⟩
   ·exact cv_
   ·exact (hs2.trans hs1).wk
  ·replace hc6 := nm_ hc6
   obtain rfl : mo = none := by simpa using hc6
   have hcov : (U.take (k + 1)).filterMap memK = (U.take k).filterMap memK := by rw [hsn, hmo]; simp
   refine ah_ ?_
   refine aa_ kr_ ?_
   iterate 2 (refine aL_S rfl rfl v_ ?_)
   refine ac_ ?_
   refine aJ_ (ι := Store × AVal × Nat) (i := ⟨τ, g, k⟩) (τ, g, k + 1) ?_ ?_ ?_ ?_
   ·show U.length - (k + 1) < U.length - k; omega
   ·exact ⟨by show k + 1 ≤ U.length; omega, by rw [hcov]; exact hC⟩
   ·exact cv_
   ·exact sub_
 ·replace hc3 := nm_ hc3
  refine ax_ ?_
  refine ag_ ?_
  refine ag_ ?_
  refine aq_ ?_
  refine ab_ ?_
  obtain rfl : k = U.length := by omega
  rw [List.take_length] at hC
  refine aa_ kr_ ?_
  iterate 2 (refine aL_S rfl rfl v_ ?_)
  refine ac_ ?_
  refine am_ ?_
  refine ai_ v_ (Store.Wk.refl _) ?_
  exact ⟨_, hC, .refl _⟩
theorem bn_ {l : List Ent} {t : Bool} {σ : Store} (hl : l.length ≤ 1000000) (hs : ∀ x ∈ l, EntSm x) (hks : ∀ x ∈ l, x.key.size ≤ 400000 ∧ x.value.size ≤ 400000) : ao_ Tryz.prog 94 [.sl 4 (l.map sEnt) t] σ fun v σ' => v = .sl 4 ((bT_ l).map sMbr) false ∧ σ = σ' := iq_ (nL_ hl hs hks) (om_ _)
end Go.Proofs.YtkcmbjodladflaaGreatDoor
end

section
set_option linter.all false
set_option maxRecDepth 100000
namespace Go.Proofs.YtkcmbjodladflaaGreatDoor
open Go.Ab
def br_ (k : Nat) : ByteArray := cJ_ [bH_, B (Lib.itoa (k : Int))]
def ownK (l : List Ent) (k : Nat) : ByteArray := if aI_ (getS l (br_ k)).value = true then (getS l (br_ k)).value else ⟨#[]⟩
def aF_ (l : List Ent) (n : Nat) : List ByteArray := (List.range n).map (ownK l)
theorem it_ {k : Nat} (hk : k ≤ 1000000) : (Lib.itoa (k : Int)).length ≤ 20 := (kf_ (by omega) (by omega)).2
theorem fR_ {k : Nat} {σ : Store} (hk : k ≤ 1000000) : ao_ Tryz.prog 97 [vInt k] σ fun v σ' => v = vStr (br_ k) ∧ σ = σ' := by
 have hi := it_ hk
 refine aj_ Tryz.func97 rfl Tryz.ntmps97 (congrArg Array.toList Tryz.results97) (by simp only [List.length_cons, List.length_nil]; decide) ?_; simp only [af_, ak_, Nat.reduceAdd]
 refine ab_ ?_
 refine aa_ kr_ ?_
 (refine aL_S rfl rfl v_ ?_)
 refine ac_ ?_
 refine ab_ ?_
 refine aa_ kr_ ?_
 (refine aL_S rfl rfl v_ ?_)
 refine aL_X rfl rfl (ae_ rfl rfl (.inr ⟨rfl, rfl, rfl⟩) g_ va_ (pq_ (by omega) (by omega)) ?_); rintro _ _ ⟨rfl, rfl⟩
 refine aw_ rfl rfl rfl g_ g_ rfl rfl h_ c2_ (by decide) ?_
 refine aL_X rfl rfl (ae_ rfl rfl (.inr ⟨rfl, rfl, rfl⟩) g_ va_ (bJ_ (l := [bH_, B (Lib.itoa (k : Int))]) (by simp) (by simp [aB_, cK_, show (Lb bH_).length = 4 from rfl]; omega)) ?_); rintro _ _ ⟨rfl, rfl⟩
 (refine aL_S rfl rfl v_ ?_)
 refine ac_ ?_
 refine am_ ?_
 refine ai_ (σ' := σ) v_ sub_ ?_
 exact ⟨rfl, rfl⟩
theorem mc_ {n : Int} {σ : Store} : ao_ Tryz.prog 151 [vInt n] σ fun v σ' => v = vB (decide (1 ≤ n) && decide (n ≤ 4096)) ∧ σ = σ' := by
 refine aj_ Tryz.func151 rfl Tryz.ntmps151 (congrArg Array.toList Tryz.results151) (by simp only [List.length_cons, List.length_nil]; decide) ?_; simp only [af_, ak_, Nat.reduceAdd]
 refine ab_ ?_
 refine aa_ kr_ ?_
 (refine aL_S rfl rfl v_ ?_)
 refine ac_ ?_
 refine ab_ ?_
 refine aa_ kr_ ?_
 iterate 3 (refine aL_S rfl rfl v_ ?_)
 refine aC_ rfl rfl v_ rfl vg_ ?_
 refine aC_ rfl rfl v_ rfl vg_ ?_
 iterate 2 (refine aL_S rfl rfl v_ ?_)
 refine ac_ ?_
 refine am_ ?_
 refine ai_ (σ' := σ) v_ sub_ ?_
 exact ⟨rfl, rfl⟩
theorem nQ_ {l : List Ent} {n k : Nat} (hk : k < n) (h : aI_ (getS l (br_ k)).value = false) : ((List.range (k + 1)).map (ownK l)).map vStr ++ List.replicate (n - (k + 1)) (vStr ⟨#[]⟩) = ((List.range k).map (ownK l)).map vStr ++ List.replicate (n - k) (vStr ⟨#[]⟩) := by
 have e : n - k = (n - (k + 1)) + 1 := by omega
 rw [e, List.replicate_succ, List.range_succ, List.map_append, List.map_append, List.append_assoc]
 simp [ownK, h]
theorem p3_ {l : List Ent} {n k : Nat} (hk : k < n) (h : aI_ (getS l (br_ k)).value = true) : aput (((List.range k).map (ownK l)).map vStr ++ List.replicate (n - k) (vStr ⟨#[]⟩)) k [vStr (getS l (br_ k)).value] = ((List.range (k + 1)).map (ownK l)).map vStr ++ List.replicate (n - (k + 1)) (vStr ⟨#[]⟩) := by
 have hL := gT_ (done := (List.range k).map (ownK l)) (N := n) (x := (getS l (br_ k)).value) (by simp; exact hk)
 simp only [List.length_map, List.length_range, List.length_append, List.length_singleton] at hL
 have e : ownK l k = (getS l (br_ k)).value := by unfold ownK; rw [if_pos h]
 rw [hL, ← e]
 simp [List.range_succ]
theorem p5_ {l : List Ent} {t : Bool} {n : Nat} {σ : Store} (h1 : 1 ≤ n) (hn : n ≤ 4096) (hl : l.length ≤ 1000000) (hs : ∀ x ∈ l, EntSm x) : ao_ Tryz.prog 95 [.sl 4 (l.map sEnt) t, vInt n] σ fun v σ' => ∃ o, σ.heap o = none ∧ v = .msl o 1 0 n ∧ σ' = σ.set o (.cells ((aF_ l n).map vStr)) := by
 refine aj_ Tryz.func95 rfl Tryz.ntmps95 (congrArg Array.toList Tryz.results95) (by simp only [List.length_cons, List.length_nil]; decide) ?_; simp only [af_, ak_, Nat.reduceAdd]
 refine ab_ ?_
 refine aa_ kr_ ?_
 (refine aL_S rfl rfl v_ ?_)
 refine ac_ ?_
 refine ab_ ?_
 refine ab_ ?_
 refine aa_ kr_ ?_
 (refine aL_S rfl rfl v_ ?_)
 refine aL_X rfl rfl (ae_ rfl rfl (.inr ⟨rfl, rfl, rfl⟩) g_ va_ (mc_) ?_); rintro _ _ ⟨rfl, rfl⟩
 (refine aL_S rfl rfl v_ ?_)
 refine ac_ ?_
 refine ad_ v_ (fun hc1 => ?_) (fun hc1 => ?_)
 ·replace hc1 := nm_ hc1
  omega
 ·replace hc1 := nm_ hc1
  refine ah_ ?_
  refine ab_ ?_
  refine aa_ kr_ ?_
  (refine aL_S rfl rfl v_ ?_)
  refine aL_X rfl rfl (de_ rfl g_ g_ g_ rfl v_ v_ (by omega) fun oa hoa => ?_)
  (refine aL_S rfl rfl v_ ?_)
  refine ac_ ?_
  refine ab_ ?_
  refine ab_ ?_
  refine aa_ kr_ ?_
  iterate 3 (refine aL_S rfl rfl v_ ?_)
  refine ac_ ?_
  refine al_ ?_
  refine ap_ (ι := Nat) (fun k => n - k) (fun k => k ≤ n) (fun k => [(0, .sl 4 (l.map sEnt) t), (5, .msl oa 1 0 n), (14, vInt n), (15, vInt k)]) (fun k => (σ.set oa (.cells (((List.range k).map (ownK l)).map vStr ++ List.replicate (n - k) (vStr ⟨#[]⟩))))) 0 ?_ ?_ ?_ ?_
  ·exact Nat.zero_le _
  ·exact cv_
  ·exact Store.Wk.refl _
  rintro k hk
  simp only [ar_, au_]
  refine ab_ ?_
  refine aa_ kr_ ?_
  (refine aL_S rfl rfl v_ ?_)
  refine ac_ ?_
  refine ab_ ?_
  refine ad_ v_ (fun hc5 => ?_) (fun hc5 => ?_)
  ·replace hc5 := nm_ hc5
   refine ah_ ?_
   refine ab_ ?_
   refine al_ ?_
   refine ab_ ?_
   refine aa_ kr_ ?_
   iterate 2 (refine aL_S rfl rfl v_ ?_)
   refine ac_ ?_
   refine ab_ ?_
   have hkn : k < n := by omega
   have hvz := (fE_ hs (br_ k)).2
   refine aa_ kr_ ?_
   iterate 2 (refine aL_S rfl rfl v_ ?_)
   refine aL_X rfl rfl (ae_ rfl rfl (.inr ⟨rfl, rfl, rfl⟩) g_ va_ (fR_ (by omega)) ?_); rintro _ _ ⟨rfl, rfl⟩
   refine aL_X rfl rfl (ae_ rfl rfl (.inr ⟨rfl, rfl, rfl⟩) g_ va_ (nB_ hl) ?_); rintro _ _ ⟨rfl, rfl⟩
   iterate 2 (refine aL_S rfl rfl v_ ?_)
   refine ac_ ?_
   refine ab_ ?_
   refine aa_ kr_ ?_
   (refine aL_S rfl rfl v_ ?_)
   refine aL_X rfl rfl (ae_ rfl rfl (.inr ⟨rfl, rfl, rfl⟩) g_ va_ (bf_ (by omega)) ?_); rintro _ _ ⟨rfl, rfl⟩
   refine ac_ ?_
   refine ad_ v_ (fun hc8 => ?_) (fun hc8 => ?_)
   ·replace hc8 := nm_ hc8
    have hput := p3_ hkn hc8
    refine aa_ kr_ ?_
    iterate 4 (refine aL_S rfl rfl v_ ?_)
    refine av_ rfl rfl rfl v_ v_ h_ g_ rfl g_ c_ (by rfl) le_ (by first | exact hput | (rw [Nat.mul_one]; exact hput) | (rw [Nat.zero_add]; exact hput) | (rw [Nat.mul_one, Nat.zero_add]; exact hput)) ?_
    refine ac_ ?_
    refine aa_ kr_ ?_
    iterate 2 (refine aL_S rfl rfl v_ ?_)
    refine ac_ ?_
    refine aJ_ (ι := Nat) (i := k) (k + 1) ?_ ?_ ?_ ?_
    ·omega
    ·exact (by omega)
    ·exact cv_
    ·(try dsimp only); rw [Store.set_set]; exact Store.Wk.refl _
   ·replace hc8 := nm_ hc8
    have hkp := nQ_ hkn (by simpa using hc8)
    refine ah_ ?_
    refine aa_ kr_ ?_
    iterate 2 (refine aL_S rfl rfl v_ ?_)
    refine ac_ ?_
    refine aJ_ (ι := Nat) (i := k) (k + 1) ?_ ?_ ?_ ?_
    ·omega
    ·exact (by omega)
    ·exact cv_
    ·rw [hkp]; exact Store.Wk.refl _
  ·replace hc5 := nm_ hc5
   refine ax_ ?_
   refine ag_ ?_
   refine ag_ ?_
   refine aq_ ?_
   refine ab_ ?_
   obtain rfl : k = n := by omega
   refine aa_ kr_ ?_
   iterate 2 (refine aL_S rfl rfl v_ ?_)
   refine ac_ ?_
   refine am_ ?_
   refine ai_ v_ (Store.Wk.refl _) ?_
   exact ⟨oa, hoa, rfl, by simp [aF_]⟩
theorem ju_ {l : List Ent} {t : Bool} {n : Nat} {σ : Store} (h1 : 1 ≤ n) (hn : n ≤ 4096) (hl : l.length ≤ 1000000) (hs : ∀ x ∈ l, EntSm x) : ao_ Tryz.prog 95 [.sl 4 (l.map sEnt) t, vInt n] σ fun v σ' => v = .sl 1 ((aF_ l n).map vStr) false ∧ σ = σ' := by
 refine (p5_ h1 hn hl hs).aft ?_
 rintro κ a τ cv hI hr ⟨o, ho, rfl, rfl⟩
 have hlen : (aF_ l n).length = n := by simp [aF_]
 obtain ⟨κ', h1, h2, h3, h4⟩ := Ab.freeze hI hr (Store.set_get ..) (l := (aF_ l n).map vStr) (by rw [Nat.mul_one, List.take_of_length_le (by simp [hlen]), hJ_]) (by simp [hlen]) fun x hx => by
  obtain ⟨z, _, rfl⟩ := List.mem_map.1 hx
  rfl
 rw [Store.set_del ho] at h3
 exact ⟨κ', _, _, h1, h2, h3, h4, rfl, rfl⟩
end Go.Proofs.YtkcmbjodladflaaGreatDoor
end

section
set_option linter.all false
set_option maxRecDepth 100000
namespace Go.Ab
structure Prp where
 n : Int
 r : Int
 w : Int
 pr : Int
 pw : Int
 sev : Bool
 mis : Bool
 bas : Bool
@[reducible] def sPrp (p : Prp) : AVal := .agg [vInt p.n, vInt p.r, vInt p.w, vInt p.pr, vInt p.pw, .lit (.bool p.sev), .lit (.bool p.mis), .lit (.bool p.bas)]
end Go.Ab
namespace Go.Proofs.YtkcmbjodladflaaGreatDoor
open Go.Ab
abbrev fdN : ByteArray := ⟨#[110]⟩
abbrev fdR : ByteArray := ⟨#[114]⟩
abbrev fdW : ByteArray := ⟨#[119]⟩
abbrev fdPr : ByteArray := ⟨#[112, 114]⟩
abbrev fdPw : ByteArray := ⟨#[112, 119]⟩
abbrev hE_ : ByteArray := ⟨#[115, 101, 118, 101, 114, 97, 108]⟩
abbrev hD_ : ByteArray := ⟨#[109, 105, 115, 115, 105, 110, 103]⟩
abbrev kb_ : ByteArray := ⟨#[98, 97, 115, 105, 99]⟩
def bdP (f : ByteArray) : Int × Int × Bool := if f = fdN ∨ f = fdR ∨ f = fdW then (1, 16, true) else if f = fdPr ∨ f = fdPw then (0, 16, true) else if f = hE_ ∨ f = hD_ ∨ f = kb_ then (0, 1, true) else (0, 0, false)
def mayP (f : ByteArray) (n : Int) : Bool := (bdP f).2.2 && decide ((bdP f).1 ≤ n) && decide (n ≤ (bdP f).2.1)
def prpK (a b f : ByteArray) : ByteArray := cJ_ [aO_, a, b, f]
def fldS (l : List Ent) (a b f : ByteArray) (o : Int) : Int := match numS (getS l (prpK a b f)).value with | some n => if mayP f n = true then n else o | none => o
def minF (l : List Ent) (a b f : ByteArray) (o : Int) : Int := min (fldS l a b fdN 3) (fldS l a b f o)
def prpS (l : List Ent) (a b : ByteArray) : Prp := ⟨fldS l a b fdN 3, minF l a b fdR 2, minF l a b fdW 2, minF l a b fdPr 0, minF l a b fdPw 0, decide (fldS l a b hE_ 1 = 1), decide (fldS l a b hD_ 1 = 1), decide (fldS l a b kb_ 0 = 1)⟩
theorem sM_ {f : ByteArray} {σ : Store} : ao_ Tryz.prog 147 [vStr f] σ fun v σ' => v = .tup [vInt (bdP f).1, vInt (bdP f).2.1, vB (bdP f).2.2] ∧ σ = σ' := by
 refine aj_ Tryz.func147 rfl Tryz.ntmps147 (congrArg Array.toList Tryz.results147) (by simp only [List.length_cons, List.length_nil]; decide) ?_; simp only [af_, ak_, Nat.reduceAdd]
 refine ab_ ?_
 refine aa_ kr_ ?_
 iterate 3 (refine aL_S rfl rfl v_ ?_)
 refine ac_ ?_
 refine ab_ ?_
 refine ab_ ?_
 refine aa_ kr_ ?_
 (refine aL_S rfl rfl v_ ?_)
 refine ac_ ?_
 refine al_ ?_
 refine bp_ (ι := Bool) (fun b => b = decide (f = fdN ∨ f = fdR ∨ f = fdW)) (fun b => [(5, vStr f), (6, vB b)]) (fun b => σ) ?_ ?_
 ·refine ab_ ?_
  refine aa_ kr_ ?_
  iterate 2 (refine aL_S rfl rfl v_ ?_)
  refine ac_ ?_
  refine ad_ v_ (fun hc2 => ?_) (fun hc2 => ?_)
  ·replace hc2 := nm_ hc2
   refine ah_ ?_
   refine ⟨decide (f = fdN), ?_, ?_, ?_⟩
   ·simp [show f = fdN from hc2]
   ·exact cv_
   ·exact sub_
  ·replace hc2 := nm_ hc2
   refine ab_ ?_
   refine aa_ kr_ ?_
   iterate 2 (refine aL_S rfl rfl v_ ?_)
   refine ac_ ?_
   refine ad_ v_ (fun hc3 => ?_) (fun hc3 => ?_)
   ·replace hc3 := nm_ hc3
    refine ah_ ?_
    refine ⟨decide (f = fdR), ?_, ?_, ?_⟩
    ·simp [show f = fdR from hc3]
    ·exact cv_
    ·exact sub_
   ·replace hc3 := nm_ hc3
    refine aa_ kr_ ?_
    iterate 2 (refine aL_S rfl rfl v_ ?_)
    refine ac_ ?_
    refine ⟨decide (f = fdW), ?_, ?_, ?_⟩
    ·simp [show ¬ f = fdN from hc2, show ¬ f = fdR from hc3]
    ·exact cv_
    ·exact sub_
 ·rintro b rfl
  simp only [ar_, au_]
  refine ad_ v_ (fun hc4 => ?_) (fun hc4 => ?_)
  ·replace hc4 := nm_ hc4
   refine ab_ ?_
   refine aa_ kr_ ?_
   iterate 3 (refine aL_S rfl rfl v_ ?_)
   refine ac_ ?_
   refine am_ ?_
   refine ai_ (σ' := σ) v_ sub_ ?_
   exact ⟨by rw [bdP, if_pos hc4], rfl⟩
  ·replace hc4 := nm_ hc4
   refine bp_ (ι := Bool) (fun b => b = decide (f = fdPr ∨ f = fdPw)) (fun b => [(5, vStr f), (10, vB b)]) (fun b => σ) ?_ ?_
   ·refine ab_ ?_
    refine aa_ kr_ ?_
    iterate 2 (refine aL_S rfl rfl v_ ?_)
    refine ac_ ?_
    refine ad_ v_ (fun hc6 => ?_) (fun hc6 => ?_)
    ·replace hc6 := nm_ hc6
     refine ah_ ?_
     refine ⟨decide (f = fdPr), ?_, ?_, ?_⟩
     ·simp [show f = fdPr from hc6]
     ·exact cv_
     ·exact sub_
    ·replace hc6 := nm_ hc6
     refine aa_ kr_ ?_
     iterate 2 (refine aL_S rfl rfl v_ ?_)
     refine ac_ ?_
     refine ⟨decide (f = fdPw), ?_, ?_, ?_⟩
     ·simp [show ¬ f = fdPr from hc6]
     ·exact cv_
     ·exact sub_
   ·rintro b rfl
    simp only [ar_, au_]
    refine ad_ v_ (fun hc7 => ?_) (fun hc7 => ?_)
    ·replace hc7 := nm_ hc7
     refine ab_ ?_
     refine aa_ kr_ ?_
     iterate 3 (refine aL_S rfl rfl v_ ?_)
     refine ac_ ?_
     refine am_ ?_
     refine ai_ (σ' := σ) v_ sub_ ?_
     exact ⟨by rw [bdP, if_neg hc4, if_pos hc7], rfl⟩
    ·replace hc7 := nm_ hc7
     refine bp_ (ι := Bool) (fun b => b = decide (f = hE_ ∨ f = hD_ ∨ f = kb_)) (fun b => [(5, vStr f), (13, vB b)]) (fun b => σ) ?_ ?_
     ·refine ab_ ?_
      refine aa_ kr_ ?_
      iterate 2 (refine aL_S rfl rfl v_ ?_)
      refine ac_ ?_
      refine ad_ v_ (fun hc9 => ?_) (fun hc9 => ?_)
      ·replace hc9 := nm_ hc9
       refine ah_ ?_
       refine ⟨decide (f = hE_), ?_, ?_, ?_⟩
       ·simp [show f = hE_ from hc9]
       ·exact cv_
       ·exact sub_
      ·replace hc9 := nm_ hc9
       refine ab_ ?_
       refine aa_ kr_ ?_
       iterate 2 (refine aL_S rfl rfl v_ ?_)
       refine ac_ ?_
       refine ad_ v_ (fun hc10 => ?_) (fun hc10 => ?_)
       ·replace hc10 := nm_ hc10
        refine ah_ ?_
        refine ⟨decide (f = hD_), ?_, ?_, ?_⟩
        ·simp [show f = hD_ from hc10]
        ·exact cv_
        ·exact sub_
       ·replace hc10 := nm_ hc10
        refine aa_ kr_ ?_
        iterate 2 (refine aL_S rfl rfl v_ ?_)
        refine ac_ ?_
        refine ⟨decide (f = kb_), ?_, ?_, ?_⟩
        ·simp [show ¬ f = hE_ from hc9, show ¬ f = hD_ from hc10]
        ·exact cv_
        ·exact sub_
     ·rintro b rfl
      simp only [ar_, au_]
      refine ad_ v_ (fun hc11 => ?_) (fun hc11 => ?_)
      ·replace hc11 := nm_ hc11
       refine ab_ ?_
       refine aa_ kr_ ?_
       iterate 3 (refine aL_S rfl rfl v_ ?_)
       refine ac_ ?_
       refine am_ ?_
       refine ai_ (σ' := σ) v_ sub_ ?_
       exact ⟨by rw [bdP, if_neg hc4, if_neg hc7, if_pos hc11], rfl⟩
      ·replace hc11 := nm_ hc11
       refine ah_ ?_
       refine ab_ ?_
       refine aa_ kr_ ?_
       iterate 3 (refine aL_S rfl rfl v_ ?_)
       refine ac_ ?_
       refine am_ ?_
       refine ai_ (σ' := σ) v_ sub_ ?_
       exact ⟨by rw [bdP, if_neg hc4, if_neg hc7, if_neg hc11], rfl⟩
theorem fI_ {f : ByteArray} {n : Int} {σ : Store} : ao_ Tryz.prog 89 [vStr f, vInt n] σ fun v σ' => v = vB (mayP f n) ∧ σ = σ' := by
 refine aj_ Tryz.func89 rfl Tryz.ntmps89 (congrArg Array.toList Tryz.results89) (by simp only [List.length_cons, List.length_nil]; decide) ?_; simp only [af_, ak_, Nat.reduceAdd]
 refine ab_ ?_
 refine aa_ kr_ ?_
 (refine aL_S rfl rfl v_ ?_)
 refine ac_ ?_
 refine ab_ ?_
 refine aa_ kr_ ?_
 (refine aL_S rfl rfl v_ ?_)
 refine aL_X rfl rfl (ae_ rfl rfl (.inr ⟨rfl, rfl, rfl⟩) g_ va_ (sM_) ?_); rintro _ _ ⟨rfl, rfl⟩
 iterate 7 (refine aL_S rfl rfl v_ ?_)
 refine ac_ ?_
 refine ab_ ?_
 refine aa_ kr_ ?_
 iterate 2 (refine aL_S rfl rfl v_ ?_)
 refine aC_ rfl rfl v_ rfl vg_ ?_
 refine aC_ rfl rfl v_ rfl vg_ ?_
 refine aC_ rfl rfl v_ rfl vg_ ?_
 iterate 2 (refine aL_S rfl rfl v_ ?_)
 refine aC_ rfl rfl v_ rfl vg_ ?_
 refine aC_ rfl rfl v_ rfl vg_ ?_
 refine aC_ rfl rfl v_ rfl vg_ ?_
 iterate 2 (refine aL_S rfl rfl v_ ?_)
 refine ac_ ?_
 refine am_ ?_
 refine ai_ (σ' := σ) v_ sub_ ?_
 exact ⟨rfl, rfl⟩
theorem jz_ {a b f : ByteArray} {σ : Store} (ha : a.size ≤ 200000) (hb : b.size ≤ 200000) (hf : f.size ≤ 200000) : ao_ Tryz.prog 90 [vStr a, vStr b, vStr f] σ fun v σ' => v = vStr (prpK a b f) ∧ σ = σ' := by
 refine aj_ Tryz.func90 rfl Tryz.ntmps90 (congrArg Array.toList Tryz.results90) (by simp only [List.length_cons, List.length_nil]; decide) ?_; simp only [af_, ak_, Nat.reduceAdd]
 refine ab_ ?_
 refine aa_ kr_ ?_
 (refine aL_S rfl rfl v_ ?_)
 refine ac_ ?_
 refine ab_ ?_
 refine aa_ kr_ ?_
 iterate 3 (refine aL_S rfl rfl v_ ?_)
 refine aw_ rfl rfl rfl g_ g_ rfl rfl h_ c2_ (by decide) ?_
 refine aL_X rfl rfl (ae_ rfl rfl (.inr ⟨rfl, rfl, rfl⟩) g_ va_ (bJ_ (l := [aO_, a, b, f]) (by simp) (by simp [aB_, show (Lb aO_).length = 4 from rfl]; omega)) ?_); rintro _ _ ⟨rfl, rfl⟩
 (refine aL_S rfl rfl v_ ?_)
 refine ac_ ?_
 refine am_ ?_
 refine ai_ (σ' := σ) v_ sub_ ?_
 exact ⟨rfl, rfl⟩
abbrev fPg (p q r : Nat) : AVal := .fn (.func 182) [] [.ref p 0, .ref q 0, .ref r 0]
theorem sR_ {s f : ByteArray} {o : Int} (h : (numS s).isSome = false ∨ mayP f ((numS s).getD 0) = false) : (match numS s with | some n => if mayP f n = true then n else o | none => o) = o := by
 cases hn : numS s with
 |none => rfl
 |some n =>
  rw [hn] at h
  rcases h with h | h
  ·cases h
  ·simp only [Option.getD_some] at h; simp [h]
theorem sS_ {s f : ByteArray} {o : Int} (h : (numS s).isSome = true ∧ mayP f ((numS s).getD 0) = true) : (match numS s with | some n => if mayP f n = true then n else o | none => o) = (numS s).getD 0 := by
 cases hn : numS s with
 |none => rw [hn] at h; exact absurd h.1 (by simp)
 |some n =>
  rw [hn] at h
  simp only [Option.getD_some] at h ⊢
  rw [if_pos h.2]
theorem hR_ {p q r : Nat} {l : List Ent} {t : Bool} {a b f : ByteArray} {o : Int} {σ : Store} (hp : σ.heap p = some (.cells [.sl 4 (l.map sEnt) t])) (hq : σ.heap q = some (.cells [vStr a])) (hr : σ.heap r = some (.cells [vStr b])) (hl : l.length ≤ 1000000) (hs : ∀ x ∈ l, EntSm x) (ha : a.size ≤ 200000) (hb : b.size ≤ 200000) (hf : f.size ≤ 200000) : ao_ Tryz.prog 182 [vStr f, vInt o, .ref p 0, .ref q 0, .ref r 0] σ fun v σ' => v = vInt (fldS l a b f o) ∧ σ = σ' := by
 have hv := (fE_ hs (prpK a b f)).2
 refine aj_ Tryz.func182 rfl Tryz.ntmps182 (congrArg Array.toList Tryz.results182) (by simp only [List.length_cons, List.length_nil]; decide) ?_; simp only [af_, ak_, Nat.reduceAdd]
 refine ab_ ?_
 refine aa_ kr_ ?_
 (refine aL_S rfl rfl v_ ?_)
 refine ac_ ?_
 refine ab_ ?_
 have R := And.intro hp (And.intro hq hr)
 refine aG_ (.op 0 0 (.op 1 0 (.op 2 0 (.op 3 0 (.op 4 1 (.op 5 1 (.op 6 0 (.op 7 1 (.op 8 0 (.op 9 0 (.op 10 0 (.op 11 0 (.op 12 0 .nil))))))))))))) Tryz.mixed kr_ ?_
 iterate 4 (refine dR_S o_ (by rfl) (by rfl) v_ ?_)
 refine dR_X o_ (by rfl) (by rfl) (ae_ (by rfl) (by rfl) (.inr ⟨by rfl, by rfl, by rfl⟩) g_ va_ (jz_ ha hb hf) ?_); rintro _ _ ⟨rfl, rfl⟩; refine ⟨sub_, ?_⟩
 refine dR_X o_ (by rfl) (by rfl) (ae_ (by rfl) (by rfl) (.inr ⟨by rfl, by rfl, by rfl⟩) g_ va_ (nB_ hl) ?_); rintro _ _ ⟨rfl, rfl⟩; refine ⟨sub_, ?_⟩
 (refine dR_S o_ (by rfl) (by rfl) v_ ?_)
 refine dR_X o_ (by rfl) (by rfl) (ae_ (by rfl) (by rfl) (.inr ⟨by rfl, by rfl, by rfl⟩) g_ va_ (pY_ hv) ?_); rintro _ _ ⟨rfl, rfl⟩; refine ⟨sub_, ?_⟩
 iterate 5 (refine dR_S o_ (by rfl) (by rfl) v_ ?_)
 refine aL_ ?_
 refine ab_ ?_
 refine ab_ ?_
 refine aa_ kr_ ?_
 iterate 3 (refine aL_S rfl rfl v_ ?_)
 refine ay_ rfl rfl v_ rfl vg_ ?_
 refine ay_ rfl rfl v_ rfl vg_ ?_
 refine bQ_ rfl rfl v_ rfl (fun hb => aK_ (by rfl) (by rfl) (.inr ⟨by rfl, by rfl, by rfl⟩) g_ cg_ (fI_)) ?_
 refine ay_ rfl rfl v_ rfl vg_ ?_
 (refine aL_S rfl rfl v_ ?_)
 refine ac_ ?_
 refine ad_ v_ (fun hc2 => ?_) (fun hc2 => ?_)
 ·replace hc2 := nm_ hc2
  refine ab_ ?_
  refine aa_ kr_ ?_
  iterate 2 (refine aL_S rfl rfl v_ ?_)
  refine ac_ ?_
  refine am_ ?_
  refine ai_ (σ' := σ) v_ sub_ ?_
  exact ⟨by rw [fldS, sR_ hc2], rfl⟩
 ·replace hc2 := nm_ hc2
  refine ah_ ?_
  refine ab_ ?_
  refine aa_ kr_ ?_
  iterate 2 (refine aL_S rfl rfl v_ ?_)
  refine ac_ ?_
  refine am_ ?_
  refine ai_ (σ' := σ) v_ sub_ ?_
  exact ⟨by rw [fldS, sS_ hc2], rfl⟩
theorem jv_ {g h p q r : Nat} {l : List Ent} {t : Bool} {a b f : ByteArray} {o n : Int} {c1 c2 c3 c4 c5 c6 c7 : AVal} {σ : Store} (hg : σ.heap g = some (.cells [vInt n, c1, c2, c3, c4, c5, c6, c7])) (hh : σ.heap h = some (.cells [fPg p q r])) (hp : σ.heap p = some (.cells [.sl 4 (l.map sEnt) t])) (hq : σ.heap q = some (.cells [vStr a])) (hr : σ.heap r = some (.cells [vStr b])) (hl : l.length ≤ 1000000) (hs : ∀ x ∈ l, EntSm x) (ha : a.size ≤ 200000) (hb : b.size ≤ 200000) (hf : f.size ≤ 200000) : ao_ Tryz.prog 183 [vStr f, vInt o, .ref g 0, .ref h 0] σ fun v σ' => v = vInt (min n (fldS l a b f o)) ∧ σ = σ' := by
 refine aj_ Tryz.func183 rfl Tryz.ntmps183 (congrArg Array.toList Tryz.results183) (by simp only [List.length_cons, List.length_nil]; decide) ?_; simp only [af_, ak_, Nat.reduceAdd]
 refine ab_ ?_
 refine aa_ kr_ ?_
 (refine aL_S rfl rfl v_ ?_)
 refine ac_ ?_
 refine ab_ ?_
 have R := And.intro hg hh
 refine aG_ (.op 0 0 (.op 1 0 (.op 2 0 (.op 3 0 (.op 4 0 (.op 5 1 (.op 6 0 (.op 7 0 .nil)))))))) Tryz.mixed kr_ ?_
 iterate 5 (refine dR_S o_ (by rfl) (by rfl) v_ ?_)
 refine dR_X o_ (by rfl) (by rfl) (ae_ (by rfl) (by rfl) (.inl v_) g_ va_ (hR_ (p := p) (q := q) (r := r) hp hq hr hl hs ha hb hf) ?_); rintro _ _ ⟨rfl, rfl⟩; refine ⟨sub_, ?_⟩
 iterate 2 (refine dR_S o_ (by rfl) (by rfl) v_ ?_)
 refine aL_ ?_
 refine am_ ?_
 refine ai_ (σ' := σ) v_ sub_ ?_
 exact ⟨rfl, rfl⟩
set_option maxHeartbeats 4000000 in
theorem l0_ {l : List Ent} {t : Bool} {a b : ByteArray} {σ : Store} (hl : l.length ≤ 1000000) (hs : ∀ x ∈ l, EntSm x) (ha : a.size ≤ 200000) (hb : b.size ≤ 200000) : ao_ Tryz.prog 137 [.sl 4 (l.map sEnt) t, vStr a, vStr b] σ fun v σ' => v = sPrp (prpS l a b) ∧ σ = σ' := by
 refine aj_ Tryz.func137 rfl Tryz.ntmps137 (congrArg Array.toList Tryz.results137) (by simp only [List.length_cons, List.length_nil]; decide) ?_; simp only [af_, ak_, Nat.reduceAdd]
 refine ab_ ?_
 refine aa_ kr_ ?_
 refine bb_ rfl rfl rfl v_ rfl g_ fun o3 ho3 => ?_
 repeat (rw [an_] at ho3; obtain ⟨_, ho3⟩ := ho3)
 refine bb_ rfl rfl rfl v_ rfl g_ fun o4 ho4 => ?_
 repeat (rw [an_] at ho4; obtain ⟨_, ho4⟩ := ho4)
 refine bb_ rfl rfl rfl v_ rfl g_ fun o5 ho5 => ?_
 repeat (rw [an_] at ho5; obtain ⟨_, ho5⟩ := ho5)
 refine aQ_ rfl rfl rfl g_ gl_ fun o6 ho6 => ?_
 repeat (rw [an_] at ho6; obtain ⟨_, ho6⟩ := ho6)
 refine ac_ ?_
 refine ab_ ?_
 refine aa_ kr_ ?_
 (refine aL_S rfl rfl v_ ?_)
 refine aQ_ rfl rfl rfl g_ gl_ fun o7 ho7 => ?_
 repeat (rw [an_] at ho7; obtain ⟨_, ho7⟩ := ho7)
 refine av_ rfl rfl rfl v_ v_ h_ g_ rfl g_ c_ (by rfl) le_ v_ ?_
 refine ac_ ?_
 refine ab_ ?_
 refine aa_ kr_ ?_
 (refine aL_S rfl rfl v_ ?_)
 refine aL_X rfl rfl (ae_ rfl rfl (.inl v_) g_ va_ (hR_ (p := o3) (q := o4) (r := o5) (f := fdN) h_ h_ h_ hl hs ha hb (by decide)) ?_); rintro _ _ ⟨rfl, rfl⟩
 (refine aL_S rfl rfl v_ ?_)
 refine aQ_ rfl rfl rfl g_ gl_ fun o8 ho8 => ?_
 repeat (rw [an_] at ho8; obtain ⟨_, ho8⟩ := ho8)
 refine av_ rfl rfl rfl v_ v_ h_ g_ rfl g_ c_ (by rfl) le_ v_ ?_
 refine ac_ ?_
 refine ab_ ?_
 refine aa_ kr_ ?_
 iterate 2 (refine aL_S rfl rfl v_ ?_)
 refine ac_ ?_
 refine ab_ ?_
 refine aa_ kr_ ?_
 (refine aL_S rfl rfl v_ ?_)
 refine aL_X rfl rfl (ae_ rfl rfl (.inl v_) g_ va_ (jv_ (g := o8) (h := o7) (p := o3) (q := o4) (r := o5) (f := fdR) h_ h_ h_ h_ h_ hl hs ha hb (by decide)) ?_); rintro _ _ ⟨rfl, rfl⟩
 (refine aL_S rfl rfl v_ ?_)
 refine aL_X rfl rfl (ae_ rfl rfl (.inl v_) g_ va_ (jv_ (g := o8) (h := o7) (p := o3) (q := o4) (r := o5) (f := fdW) h_ h_ h_ h_ h_ hl hs ha hb (by decide)) ?_); rintro _ _ ⟨rfl, rfl⟩
 (refine aL_S rfl rfl v_ ?_)
 refine av_ rfl rfl rfl v_ v_ h_ g_ rfl g_ c_ (by rfl) le_ v_ ?_
 (refine aL_S rfl rfl v_ ?_)
 refine av_ rfl rfl rfl v_ v_ h_ g_ rfl g_ c_ (by rfl) le_ v_ ?_
 refine ac_ ?_
 refine ab_ ?_
 refine aa_ kr_ ?_
 (refine aL_S rfl rfl v_ ?_)
 refine aL_X rfl rfl (ae_ rfl rfl (.inl v_) g_ va_ (jv_ (g := o8) (h := o7) (p := o3) (q := o4) (r := o5) (f := fdPr) h_ h_ h_ h_ h_ hl hs ha hb (by decide)) ?_); rintro _ _ ⟨rfl, rfl⟩
 (refine aL_S rfl rfl v_ ?_)
 refine aL_X rfl rfl (ae_ rfl rfl (.inl v_) g_ va_ (jv_ (g := o8) (h := o7) (p := o3) (q := o4) (r := o5) (f := fdPw) h_ h_ h_ h_ h_ hl hs ha hb (by decide)) ?_); rintro _ _ ⟨rfl, rfl⟩
 (refine aL_S rfl rfl v_ ?_)
 refine av_ rfl rfl rfl v_ v_ h_ g_ rfl g_ c_ (by rfl) le_ v_ ?_
 (refine aL_S rfl rfl v_ ?_)
 refine av_ rfl rfl rfl v_ v_ h_ g_ rfl g_ c_ (by rfl) le_ v_ ?_
 refine ac_ ?_
 refine ab_ ?_
 refine aG_ (.op 0 0 (.op 3 0 (.op 6 0 (.op 1 1 (.op 2 0 (.op 9 0 (.op 4 1 (.any 5 (.op 7 1 (.any 8 (.op 10 2 (.op 11 0 (.op 12 2 (.op 13 0 (.op 14 2 .nil))))))))))))))) Tryz.mixed kr_ ?_
 iterate 3 (refine dR_S o_ (by rfl) (by rfl) v_ ?_)
 refine dR_X o_ (by rfl) (by rfl) (ae_ (by rfl) (by rfl) (.inl v_) g_ va_ (hR_ (p := o3) (q := o4) (r := o5) (f := hE_) h_ h_ h_ hl hs ha hb (by decide)) ?_); rintro _ _ ⟨rfl, rfl⟩; refine ⟨sub_, ?_⟩
 iterate 2 (refine dR_S o_ (by rfl) (by rfl) v_ ?_)
 refine dR_X o_ (by rfl) (by rfl) (ae_ (by rfl) (by rfl) (.inl v_) g_ va_ (hR_ (p := o3) (q := o4) (r := o5) (f := hD_) h_ h_ h_ hl hs ha hb (by decide)) ?_); rintro _ _ ⟨rfl, rfl⟩; refine ⟨sub_, ?_⟩
 refine dR_A o_ (by rfl) (by rfl) (fun _ => v_) ?_
 refine dR_X o_ (by rfl) (by rfl) (ae_ (by rfl) (by rfl) (.inl v_) g_ va_ (hR_ (p := o3) (q := o4) (r := o5) (f := kb_) h_ h_ h_ hl hs ha hb (by decide)) ?_); rintro _ _ ⟨rfl, rfl⟩; refine ⟨sub_, ?_⟩
 refine dR_A o_ (by rfl) (by rfl) (fun _ => v_) ?_
 refine aM_ o_ (by rfl) (by rfl) (by rfl) v_ v_ h_ g_ rfl g_ c_ (by rfl) le_ v_ ?_
 (refine dR_S o_ (by rfl) (by rfl) v_ ?_)
 refine aM_ o_ (by rfl) (by rfl) (by rfl) v_ v_ h_ g_ rfl g_ c_ (by rfl) le_ v_ ?_
 (refine dR_S o_ (by rfl) (by rfl) v_ ?_)
 refine aM_ o_ (by rfl) (by rfl) (by rfl) v_ v_ h_ g_ rfl g_ c_ (by rfl) le_ v_ ?_
 refine aL_ ?_
 refine ab_ ?_
 refine aa_ kr_ ?_
 (refine aL_S rfl rfl v_ ?_)
 refine av_ rfl rfl rfl v_ v_ h_ g_ rfl g_ c_ (by rfl) le_ v_ ?_
 refine ac_ ?_
 refine am_ ?_
 refine ai_ (σ' := σ) v_ sub_ ?_
 exact ⟨rfl, rfl⟩
def chkP (p : Prp) : Bool := mayP fdN p.n && (mayP fdR p.r && mayP fdW p.w && mayP fdPr p.pr && mayP fdPw p.pw) && decide (max (max (max p.r p.w) p.pr) p.pw ≤ p.n)
def fX_ (p : Prp) : Bool := chkP p && decide (p.n < p.pr + p.pw)
theorem nS_ {p : Prp} {σ : Store} : ao_ Tryz.prog 186 [sPrp p] σ fun v σ' => v = vInt (if chkP p then 0 else 1) ∧ σ = σ' := by
 refine aj_ Tryz.func186 rfl Tryz.ntmps186 (congrArg Array.toList Tryz.results186) (by simp only [List.length_cons, List.length_nil]; decide) ?_; simp only [af_, ak_, Nat.reduceAdd]
 refine ab_ ?_
 refine aa_ kr_ ?_
 refine bb_ rfl rfl rfl v_ rfl g_ fun o1 ho1 => ?_
 repeat (rw [an_] at ho1; obtain ⟨_, ho1⟩ := ho1)
 (refine aL_S rfl rfl v_ ?_)
 refine ac_ ?_
 refine ab_ ?_
 refine aa_ kr_ ?_
 iterate 2 (refine aL_S rfl rfl v_ ?_)
 refine aL_X rfl rfl (ae_ rfl rfl (.inr ⟨rfl, rfl, rfl⟩) g_ va_ (fI_) ?_); rintro _ _ ⟨rfl, rfl⟩
 (refine aL_S rfl rfl v_ ?_)
 refine aC_ rfl rfl v_ rfl vg_ ?_
 refine aC_ rfl rfl v_ rfl vg_ ?_
 refine b8_ rfl rfl v_ rfl (fun hb => aK_ (by rfl) (by rfl) (.inr ⟨by rfl, by rfl, by rfl⟩) g_ cg_ (fI_)) ?_
 iterate 2 (refine aL_S rfl rfl v_ ?_)
 refine aC_ rfl rfl v_ rfl vg_ ?_
 refine aC_ rfl rfl v_ rfl vg_ ?_
 refine b8_ rfl rfl v_ rfl (fun hb => aK_ (by rfl) (by rfl) (.inr ⟨by rfl, by rfl, by rfl⟩) g_ cg_ (fI_)) ?_
 iterate 2 (refine aL_S rfl rfl v_ ?_)
 refine aC_ rfl rfl v_ rfl vg_ ?_
 refine aC_ rfl rfl v_ rfl vg_ ?_
 refine b8_ rfl rfl v_ rfl (fun hb => aK_ (by rfl) (by rfl) (.inr ⟨by rfl, by rfl, by rfl⟩) g_ cg_ (fI_)) ?_
 iterate 2 (refine aL_S rfl rfl v_ ?_)
 refine ac_ ?_
 refine ab_ ?_
 refine ab_ ?_
 refine aa_ kr_ ?_
 iterate 2 (refine aL_S rfl rfl v_ ?_)
 refine aL_X rfl rfl (ae_ rfl rfl (.inr ⟨rfl, rfl, rfl⟩) g_ va_ (fI_) ?_); rintro _ _ ⟨rfl, rfl⟩
 iterate 2 (refine aL_S rfl rfl v_ ?_)
 refine ay_ rfl rfl v_ rfl vg_ ?_
 refine ay_ rfl rfl v_ rfl vg_ ?_
 iterate 2 (refine aL_S rfl rfl v_ ?_)
 refine ay_ rfl rfl v_ rfl vg_ ?_
 refine ay_ rfl rfl v_ rfl vg_ ?_
 refine ay_ rfl rfl v_ rfl vg_ ?_
 refine ay_ rfl rfl v_ rfl vg_ ?_
 refine ay_ rfl rfl v_ rfl vg_ ?_
 refine ay_ rfl rfl v_ rfl vg_ ?_
 refine ay_ rfl rfl v_ rfl vg_ ?_
 refine ay_ rfl rfl v_ rfl vg_ ?_
 refine ay_ rfl rfl v_ rfl vg_ ?_
 refine ay_ rfl rfl v_ rfl vg_ ?_
 refine ay_ rfl rfl v_ rfl vg_ ?_
 refine ay_ rfl rfl v_ rfl vg_ ?_
 (refine aL_S rfl rfl v_ ?_)
 refine ac_ ?_
 refine ad_ v_ (fun hc2 => ?_) (fun hc2 => ?_)
 ·replace hc2 := nm_ hc2
  refine ab_ ?_
  refine aa_ kr_ ?_
  (refine aL_S rfl rfl v_ ?_)
  refine ac_ ?_
  refine am_ ?_
  refine ai_ (σ' := σ) v_ sub_ ?_
  skip
  have : chkP p = false := by
   unfold chkP
   rcases hc2 with (h | ((h | h) | h) | h) | h
   ·rw [show mayP fdN p.n = false from h]; rfl
   ·rw [show mayP fdR p.r = false from h]; simp
   ·rw [show mayP fdW p.w = false from h]; simp
   ·rw [show mayP fdPr p.pr = false from h]; simp
   ·rw [show mayP fdPw p.pw = false from h]; simp
   ·rw [decide_eq_false (by omega)]; simp
  exact ⟨by rw [this]; rfl, rfl⟩
 ·replace hc2 := nm_ hc2
  refine ah_ ?_
  refine ab_ ?_
  refine aa_ kr_ ?_
  (refine aL_S rfl rfl v_ ?_)
  refine ac_ ?_
  refine am_ ?_
  refine ai_ (σ' := σ) v_ sub_ ?_
  skip
  have : chkP p = true := by
   unfold chkP
   obtain ⟨⟨h0, ⟨⟨h1, h2⟩, h3⟩, h4⟩, h5⟩ := hc2
   rw [show mayP fdN p.n = true from h0, show mayP fdR p.r = true from h1, show mayP fdW p.w = true from h2, show mayP fdPr p.pr = true from h3, show mayP fdPw p.pw = true from h4, decide_eq_true h5]; rfl
  exact ⟨by rw [this]; rfl, rfl⟩
theorem l1_ {p : Prp} {σ : Store} : ao_ Tryz.prog 139 [sPrp p] σ fun v σ' => v = vB (fX_ p) ∧ σ = σ' := by
 refine aj_ Tryz.func139 rfl Tryz.ntmps139 (congrArg Array.toList Tryz.results139) (by simp only [List.length_cons, List.length_nil]; decide) ?_; simp only [af_, ak_, Nat.reduceAdd]
 refine ab_ ?_
 refine aa_ kr_ ?_
 refine bb_ rfl rfl rfl v_ rfl g_ fun o1 ho1 => ?_
 repeat (rw [an_] at ho1; obtain ⟨_, ho1⟩ := ho1)
 (refine aL_S rfl rfl v_ ?_)
 refine ac_ ?_
 refine ab_ ?_
 refine aa_ kr_ ?_
 (refine aL_S rfl rfl v_ ?_)
 refine aL_X rfl rfl (ae_ rfl rfl (.inr ⟨rfl, rfl, rfl⟩) g_ va_ (nS_) ?_); rintro _ _ ⟨rfl, rfl⟩
 iterate 2 (refine aL_S rfl rfl v_ ?_)
 refine aC_ rfl rfl v_ rfl vg_ ?_
 refine aC_ rfl rfl v_ rfl vg_ ?_
 refine aC_ rfl rfl v_ rfl vg_ ?_
 refine aC_ rfl rfl v_ rfl vg_ ?_
 refine aC_ rfl rfl v_ rfl vg_ ?_
 refine aC_ rfl rfl v_ rfl vg_ ?_
 refine aC_ rfl rfl v_ rfl vg_ ?_
 refine aC_ rfl rfl v_ rfl vg_ ?_
 iterate 2 (refine aL_S rfl rfl v_ ?_)
 refine ac_ ?_
 refine am_ ?_
 refine ai_ (σ' := σ) v_ sub_ ?_
 refine ⟨?_, rfl⟩
 unfold fX_
 cases hk : chkP p with
 |false => rfl
 |true =>
  have h1 : mayP fdPr p.pr = true := by unfold chkP at hk; simp only [Bool.and_eq_true] at hk; exact hk.1.2.1.2
  have h2 : mayP fdPw p.pw = true := by unfold chkP at hk; simp only [Bool.and_eq_true] at hk; exact hk.1.2.2
  simp only [mayP, show bdP fdPr = (0, 16, true) from by decide, show bdP fdPw = (0, 16, true) from by decide, Bool.and_eq_true, decide_eq_true_eq] at h1 h2
  rw [qz_ (by omega) (by omega)]; rfl
end Go.Proofs.YtkcmbjodladflaaGreatDoor
end

section
set_option linter.all false
set_option maxRecDepth 100000
namespace Go.Proofs.YtkcmbjodladflaaGreatDoor
open Go.Ab
theorem lx_ {k : Nat} (h : k < 20) : Lib.itoa (k : Int) = if k < 10 then [UInt8.ofNat (48 + k)] else [49, UInt8.ofNat (48 + k % 10)] := by
 rw [Lib.itoa_nonneg]
 by_cases h1 : k < 10
 ·rw [if_pos h1, cB_ h1]
 ·rw [if_neg h1, dP_ h1, cB_ (by omega), show k / 10 = 1 from by omega]; rfl
def g3_ (k : Nat) : ByteArray := cJ_ [bH_, B (if k < 10 then [UInt8.ofNat (48 + k)] else [49, UInt8.ofNat (48 + k % 10)])]
theorem dH_ {k : Nat} (h : k < 20) : br_ k = g3_ k := by rw [br_, lx_ h]; rfl
def p1_ (l : List Ent) (k : Nat) : ByteArray := if aI_ (getS l (g3_ k)).value = true then (getS l (g3_ k)).value else ⟨#[]⟩
theorem rJ_ {l : List Ent} {k : Nat} (h : k < 20) : ownK l k = p1_ l k := by rw [ownK, dH_ h]; rfl
end Go.Proofs.YtkcmbjodladflaaGreatDoor
end
