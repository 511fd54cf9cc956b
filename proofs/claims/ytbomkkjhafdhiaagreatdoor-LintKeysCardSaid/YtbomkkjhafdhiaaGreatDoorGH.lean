/-
  Which keys are spoken of, plainly; Which keys are spoken of: the walks; Members, as registers tell them: the program; Partitions and their owners: the program; Properties of buckets: the program. Own work (an AI agent).
-/
import Derived.Test.YtbomkkjhafdhiaaGreatDoorGF
import Derived.Test.YtbomkkjhafdhiaaGreatDoorGG

section
set_option linter.all false
set_option maxRecDepth 100000
namespace Go.Proofs.YtbomkkjhafdhiaaGreatDoor
open Go.Ab
def bsNode : ByteArray := ⟨#[110, 111, 100, 101]⟩
def bsRing : ByteArray := ⟨#[114, 105, 110, 103]⟩
def bsProp : ByteArray := ⟨#[112, 114, 111, 112]⟩
def bsAcl : ByteArray := ⟨#[97, 99, 108]⟩
def propF : List ByteArray := [⟨#[110]⟩, ⟨#[114]⟩, ⟨#[119]⟩, ⟨#[112, 114]⟩, ⟨#[112, 119]⟩, ⟨#[115, 101, 118, 101, 114, 97, 108]⟩, ⟨#[109, 105, 115, 115, 105, 110, 103]⟩, ⟨#[98, 97, 115, 105, 99]⟩]
def tenF : List ByteArray := [bsSecret, bsBytes, bsRate, bsBurst, bsQueue]
def in16 (s : ByteArray) : Bool := match numS s with | some n => decide (0 ≤ n) && decide (n < 16) | none => false
def hasT (l : List ByteArray) (s : ByteArray) : Bool := l.any fun y => decide (y = s)
def knP (p : List ByteArray) (a q : ByteArray) : Bool :=
  if a = bsNode then decide (p.length = 2) && (p.drop 1).all nameOk else if a = bsRing then decide (p.length = 2) && in16 q
  else if a = bsProp then decide (p.length = 4) && ((p.take 3).drop 1).all nameOk && hasT propF q else if a = bsAcl then decide (p.length = 4) && (p.drop 1).all nameOk
  else if a = bsTenant then decide (p.length = 3) && ((p.take 2).drop 1).all nameOk && hasT tenF q else false
def lastS (p : List ByteArray) : ByteArray := (p[p.length - 1]?).getD ⟨#[]⟩
def knownP (p : List ByteArray) : Bool := decide (2 ≤ p.length) && knP p (p.headD ⟨#[]⟩) (lastS p)
def knownS (k : ByteArray) : Bool := knownP (partsS k)
/-! ### how many parts a key has -/
def arS (a : ByteArray) : Nat := if a = bsNode then 2 else if a = bsRing then 2 else if a = bsProp then 4 else if a = bsAcl then 4 else if a = bsTenant then 3 else 0
theorem knP_len {p : List ByteArray} {a q : ByteArray} (h : knP p a q = true) : p.length = arS a := by
  unfold knP at h
  unfold arS
  split at h
  · rename_i h1; rw [if_pos h1]; simp only [Bool.and_eq_true, decide_eq_true_eq] at h; exact h.1
  · rename_i h1; rw [if_neg h1]
    split at h
    · rename_i h2; rw [if_pos h2]; simp only [Bool.and_eq_true, decide_eq_true_eq] at h; exact h.1
    · rename_i h2; rw [if_neg h2]
      split at h
      · rename_i h3; rw [if_pos h3]; simp only [Bool.and_eq_true, decide_eq_true_eq] at h; exact h.1.1
      · rename_i h3; rw [if_neg h3]
        split at h
        · rename_i h4; rw [if_pos h4]; simp only [Bool.and_eq_true, decide_eq_true_eq] at h; exact h.1
        · rename_i h4; rw [if_neg h4]
          split at h
          · rename_i h5; rw [if_pos h5]; simp only [Bool.and_eq_true, decide_eq_true_eq] at h; exact h.1.1
          · cases h
theorem arS_le (a : ByteArray) : arS a ≤ 4 := by
  unfold arS; repeat' split
  all_goals omega
theorem known_len {p : List ByteArray} (h : knownP p = true) : 2 ≤ p.length ∧ p.length ≤ 4 ∧ p.length = arS (p.headD ⟨#[]⟩) := by
  unfold knownP at h
  simp only [Bool.and_eq_true, decide_eq_true_eq] at h
  have := knP_len h.2
  exact ⟨h.1, by rw [this]; exact arS_le _, this⟩
theorem known_more {p r : List ByteArray} (h : knownP p = true) (hr : r ≠ []) : knownP (p ++ r) = false := by
  obtain ⟨h1, _, h3⟩ := known_len h
  rw [Bool.eq_false_iff]
  intro hh
  obtain ⟨_, _, h4⟩ := known_len hh
  match p, h1 with
  | x :: y :: p, _ =>
    simp only [List.cons_append, List.headD_cons, List.length_cons, List.length_append] at h3 h4
    have : 0 < r.length := List.length_pos_iff.2 hr
    omega
theorem known_nil {p : List ByteArray} : knownP (⟨#[]⟩ :: p) = false := by
  rw [Bool.eq_false_iff]
  intro hh
  obtain ⟨h1, _, h4⟩ := known_len hh
  rw [List.headD_cons, show arS ⟨#[]⟩ = 0 from by decide] at h4
  omega
/-! ### keys joined -/
theorem splitL_app : ∀ {a b : List UInt8}, splitL (a ++ 47 :: b) = splitL a ++ splitL b
  | [], b => by simp [splitL]
  | c :: a, b => by
    have ih := splitL_app (a := a) (b := b)
    rw [List.cons_append, splitL, splitL]
    split
    · rw [ih]; rfl
    · rw [ih]
      cases hs : splitL a with
      | nil => exact absurd hs (splitL_ne a)
      | cons x y => rfl
theorem parts_ne {s : ByteArray} (h : 2 ≤ (partsS s).length) : partsS s = (splitL (Lb s)).map B := by
  unfold partsS at h ⊢
  split at h
  · simp at h
  · rename_i hn; rw [if_neg hn]
abbrev sl47 : ByteArray := ⟨#[47]⟩
theorem Lb47 : Lb sl47 = [47] := rfl
theorem parts_app {a b : ByteArray} : partsS (a ++ sl47 ++ b) = (splitL (Lb a)).map B ++ (splitL (Lb b)).map B := by
  unfold partsS
  rw [if_neg (by rw [ByteArray.size_append, ByteArray.size_append, show sl47.size = 1 from rfl]; omega), Lb_append, Lb_append, Lb47, List.append_assoc, List.singleton_append, splitL_app, List.map_append]
theorem Lb_e : Lb ⟨#[]⟩ = [] := rfl
theorem B_nil : B [] = ⟨#[]⟩ := rfl
theorem app_e (s : ByteArray) : s ++ (⟨#[]⟩ : ByteArray) = s := by apply Lb_inj; rw [Lb_append, Lb_e, List.append_nil]
theorem e_app (s : ByteArray) : (⟨#[]⟩ : ByteArray) ++ s = s := by apply Lb_inj; rw [Lb_append, Lb_e, List.nil_append]
theorem known_end {k : ByteArray} (h : knownS k = true) : knownS (k ++ sl47) = false ∧ knownS (sl47 ++ k) = false ∧ knownS (k ++ sl47 ++ k) = false := by
  have hl := (known_len (p := partsS k) h).1
  have hp := parts_ne hl
  refine ⟨?_, ?_, ?_⟩
  · unfold knownS
    rw [← app_e (k ++ sl47), parts_app, ← hp]
    exact known_more h (by simp [Lb_e, splitL])
  · unfold knownS
    rw [← e_app sl47, parts_app]
    simp only [Lb_e, splitL, List.map_cons, List.map_nil, List.singleton_append, B_nil]
    exact known_nil
  · unfold knownS
    rw [parts_app, ← hp]
    exact known_more h (fun e => by rw [e] at hl; simp at hl)
/-! ### a name in a key -/
theorem split_name {s : ByteArray} (h : nameOk s = true) : (splitL (Lb s)).map B = [s] := by rw [splitL_none (name_no47 h)]; simp [B_Lb]
theorem split_one {s : ByteArray} (h : (splitL (Lb s)).length = 1) : (splitL (Lb s)).map B = [s] := by
  match hs : splitL (Lb s), h with
  | [p], _ => rw [← splitL_one hs]; simp [B_Lb]
theorem split_pos (s : ByteArray) : 1 ≤ (splitL (Lb s)).length := (splitL_len _).1
theorem known_node (s : ByteArray) : knownS (bsNode ++ sl47 ++ s) = nameOk s := by
  have h0 : (splitL (Lb bsNode)).map B = [bsNode] := by rw [splitL_none (by decide)]; simp [B_Lb]
  unfold knownS
  rw [parts_app, h0]
  unfold knownP
  rw [List.singleton_append, List.headD_cons, knP, if_pos rfl, List.drop_one, List.tail_cons, List.length_cons, List.length_map]
  have := split_pos s
  by_cases h1 : (splitL (Lb s)).length = 1
  · rw [split_one h1, h1]; simp
  · rw [decide_eq_false (show ¬ (splitL (Lb s)).length + 1 = 2 by omega)]
    rw [Bool.false_and, Bool.and_false]
    cases hn : nameOk s with
    | false => rfl
    | true => have := congrArg List.length (split_name hn); rw [List.length_map] at this; exact absurd this h1
theorem known_acl (s : ByteArray) : knownS (bsAcl ++ sl47 ++ (s ++ sl47 ++ (s ++ sl47 ++ s))) = nameOk s := by
  have h0 : (splitL (Lb bsAcl)).map B = [bsAcl] := by rw [splitL_none (by decide)]; simp [B_Lb]
  have hS : (splitL (Lb (s ++ sl47 ++ (s ++ sl47 ++ s)))).map B = (splitL (Lb s)).map B ++ ((splitL (Lb s)).map B ++ (splitL (Lb s)).map B) := by
    rw [Lb_append, Lb_append, Lb_append, Lb_append, Lb47, List.append_assoc, List.singleton_append, splitL_app, List.append_assoc, List.singleton_append, splitL_app, List.map_append, List.map_append]
  unfold knownS
  rw [parts_app, h0, hS]
  unfold knownP
  rw [List.singleton_append, List.headD_cons, knP, if_neg (by decide), if_neg (by decide), if_neg (by decide), if_pos rfl, List.drop_one, List.tail_cons, List.length_cons, List.length_append, List.length_append, List.length_map]
  have := split_pos s
  by_cases h1 : (splitL (Lb s)).length = 1
  · rw [split_one h1, h1]; simp
  · rw [decide_eq_false (show ¬ (splitL (Lb s)).length + ((splitL (Lb s)).length + (splitL (Lb s)).length) + 1 = 4 by omega)]
    rw [Bool.false_and, Bool.and_false]
    cases hn : nameOk s with
    | false => rfl
    | true => have := congrArg List.length (split_name hn); rw [List.length_map] at this; exact absurd this h1
end Go.Proofs.YtbomkkjhafdhiaaGreatDoor
end

section
set_option linter.all false
set_option maxRecDepth 100000
namespace Go.Proofs.YtbomkkjhafdhiaaGreatDoor
open Go.Ab
theorem any_yes {α : Type} {l : List α} {k : Nat} {x : α} {f : α → Bool} (h : l[k]? = some x) (hf : f x = true) : l.any f = true := List.any_eq_true.2 ⟨x, List.mem_of_getElem? h, hf⟩
theorem any_next {α : Type} {l : List α} {k : Nat} {x : α} {f : α → Bool} (h : l[k]? = some x) (hf : f x = false) (ha : (l.take k).any f = false) : (l.take (k + 1)).any f = false := by
  rw [take_snoc h, List.any_append, ha]; simp [hf]
theorem any_end {α : Type} {l : List α} {k : Nat} {f : α → Bool} (h : l.length ≤ k) (ha : (l.take k).any f = false) : l.any f = false := by rwa [List.take_of_length_le h] at ha
theorem indexStr_c {l : List ByteArray} {x : ByteArray} {t : Bool} {σ : Store} (hn : l.length ≤ 1000000) : ACalls Tryz.prog 79 [.sl 1 (l.map vStr) t, vStr x] σ fun v σ' => (∃ r, v = vInt r ∧ decide (0 ≤ r) = hasT l x) ∧ σ = σ' := by
  refine ACalls_of Tryz.func79 rfl Tryz.ntmps79 (congrArg Array.toList Tryz.results79) (by simp only [List.length_cons, List.length_nil]; decide) ?_; simp only [envOf_cons, envOf_nil, Nat.reduceAdd]
  refine awp_seq ?_
  refine awp_region (by kernel_rfl) ?_
  (refine aL_S rfl rfl v_ ?_)
  refine aL_nil ?_
  refine awp_seq ?_
  refine awp_seq ?_
  refine awp_region (by kernel_rfl) ?_
  iterate 3 (refine aL_S rfl rfl v_ ?_)
  refine aL_nil ?_
  refine awp_block ?_
  refine awp_loop_env (ι := Nat) (fun k => l.length - k) (fun k => k ≤ l.length ∧ (l.take k).any (fun y => decide (y = x)) = false) (fun k => [(0, .sl 1 (l.map vStr) t), (1, vStr x), (7, vInt l.length), (8, vInt k)]) (fun k => σ) 0 ?_ ?_ ?_ ?_
  · exact ⟨Nat.zero_le _, rfl⟩
  · exact cv_
  · exact sub_
  rintro k ⟨hk, ha⟩
  simp only [envL_cons, envL_nil]
  refine awp_seq ?_
  refine awp_region (by kernel_rfl) ?_
  (refine aL_S rfl rfl v_ ?_)
  refine aL_nil ?_
  refine awp_seq ?_
  refine awp_cond v_ (fun hc2 => ?_) (fun hc2 => ?_)
  · replace hc2 := nm_ hc2
    refine awp_skip ?_
    refine awp_seq ?_
    refine awp_block ?_
    refine awp_seq ?_
    refine awp_region (by kernel_rfl) ?_
    iterate 2 (refine aL_S rfl rfl v_ ?_)
    refine aL_nil ?_
    refine awp_seq ?_
    obtain ⟨y, hy⟩ := get_some (l := l) (k := k) (by omega)
    have R := hy
    refine awp_region (by kernel_rfl) ?_
    iterate 6 (refine aL_S rfl rfl v_ ?_)
    refine aL_nil ?_
    refine awp_cond v_ (fun hc4 => ?_) (fun hc4 => ?_)
    · replace hc4 := nm_ hc4
      refine awp_seq ?_
      refine awp_region (by kernel_rfl) ?_
      iterate 2 (refine aL_S rfl rfl v_ ?_)
      refine aL_nil ?_
      refine awp_ret ?_
      refine aEnd_ret (σ' := σ) v_ sub_ ?_
      exact ⟨⟨(k : Int), rfl, by rw [decide_eq_true (by omega)]; exact (any_yes hy (decide_eq_true hc4.symm)).symm⟩, rfl⟩
    · replace hc4 := nm_ hc4
      have hxy : y ≠ x := fun h => hc4 h.symm
      refine awp_skip ?_
      refine awp_region (by kernel_rfl) ?_
      iterate 2 (refine aL_S rfl rfl v_ ?_)
      refine aL_nil ?_
      refine aNext (ι := Nat) (i := k) (k + 1) ?_ ?_ ?_ ?_
      · omega
      · exact ⟨by omega, any_next hy (decide_eq_false hxy) ha⟩
      · exact cv_
      · exact sub_
  · replace hc2 := nm_ hc2
    refine awp_exit ?_
    refine aThen_exit ?_
    refine aThen_exit ?_
    refine aBlock_hit ?_
    refine awp_seq ?_
    refine awp_region (by kernel_rfl) ?_
    (refine aL_S rfl rfl v_ ?_)
    refine aL_nil ?_
    refine awp_ret ?_
    refine aEnd_ret (σ' := σ) v_ sub_ ?_
    exact ⟨⟨-1, rfl, (any_end (by omega) ha).symm⟩, rfl⟩
theorem containsStr_c {l : List ByteArray} {x : ByteArray} {t : Bool} {σ : Store} (hn : l.length ≤ 1000000) : ACalls Tryz.prog 53 [.sl 1 (l.map vStr) t, vStr x] σ fun v σ' => v = vB (hasT l x) ∧ σ = σ' := by
  refine ACalls_of Tryz.func53 rfl Tryz.ntmps53 (congrArg Array.toList Tryz.results53) (by simp only [List.length_cons, List.length_nil]; decide) ?_; simp only [envOf_cons, envOf_nil, Nat.reduceAdd]
  refine awp_seq ?_
  refine awp_region (by kernel_rfl) ?_
  (refine aL_S rfl rfl v_ ?_)
  refine aL_nil ?_
  refine awp_seq ?_
  refine awp_region (by kernel_rfl) ?_
  iterate 2 (refine aL_S rfl rfl v_ ?_)
  refine aL_X rfl rfl (AOp_use rfl rfl (.inr ⟨rfl, rfl, rfl⟩) g_ va_ (indexStr_c hn) ?_); rintro _ _ ⟨⟨r, rfl, hr⟩, rfl⟩
  iterate 2 (refine aL_S rfl rfl v_ ?_)
  refine aL_nil ?_
  refine awp_ret ?_
  refine aEnd_ret (σ' := σ) v_ sub_ ?_
  exact ⟨by rw [← hr], rfl⟩
theorem lnAll1_c {s : ByteArray} {σ : Store} (hs : s.size ≤ 1000000) : ACalls Tryz.prog 78 [vStr s] σ fun v σ' => v = vB (!nameOk s) ∧ σ = σ' := by
  refine ACalls_of Tryz.func78 rfl Tryz.ntmps78 (congrArg Array.toList Tryz.results78) (by simp only [List.length_cons, List.length_nil]; decide) ?_; simp only [envOf_cons, envOf_nil, Nat.reduceAdd]
  refine awp_seq ?_
  refine awp_region (by kernel_rfl) ?_
  (refine aL_S rfl rfl v_ ?_)
  refine aL_nil ?_
  refine awp_seq ?_
  refine awp_region (by kernel_rfl) ?_
  (refine aL_S rfl rfl v_ ?_)
  refine aL_X rfl rfl (AOp_use rfl rfl (.inr ⟨rfl, rfl, rfl⟩) g_ va_ (nameIs_c (by omega)) ?_); rintro _ _ ⟨rfl, rfl⟩
  iterate 2 (refine aL_S rfl rfl v_ ?_)
  refine aL_nil ?_
  refine awp_ret ?_
  refine aEnd_ret (σ' := σ) v_ sub_ ?_
  exact ⟨rfl, rfl⟩
abbrev fNm : AVal := .lit (.func (.func 78) #[] #[])
theorem ixNames_c {l : List ByteArray} {t : Bool} {σ : Store} (hn : l.length ≤ 1000000) (hs : ∀ x ∈ l, x.size ≤ 1000000) : ACalls Tryz.prog 113 [.sl 1 (l.map vStr) t, fNm] σ fun v σ' => (∃ r, v = vInt r ∧ decide (0 ≤ r) = l.any (fun y => !nameOk y)) ∧ σ = σ' := by
  refine ACalls_of Tryz.func113 rfl Tryz.ntmps113 (congrArg Array.toList Tryz.results113) (by simp only [List.length_cons, List.length_nil]; decide) ?_; simp only [envOf_cons, envOf_nil, Nat.reduceAdd]
  refine awp_seq ?_
  refine awp_region (by kernel_rfl) ?_
  (refine aL_S rfl rfl v_ ?_)
  refine aL_nil ?_
  refine awp_seq ?_
  refine awp_seq ?_
  refine awp_region (by kernel_rfl) ?_
  iterate 3 (refine aL_S rfl rfl v_ ?_)
  refine aL_nil ?_
  refine awp_block ?_
  refine awp_loop_env (ι := Nat) (fun k => l.length - k) (fun k => k ≤ l.length ∧ (l.take k).any (fun y => !nameOk y) = false) (fun k => [(0, .sl 1 (l.map vStr) t), (1, fNm), (7, vInt l.length), (8, vInt k)]) (fun k => σ) 0 ?_ ?_ ?_ ?_
  · exact ⟨Nat.zero_le _, rfl⟩
  · exact cv_
  · exact sub_
  rintro k ⟨hk, ha⟩
  simp only [envL_cons, envL_nil]
  refine awp_seq ?_
  refine awp_region (by kernel_rfl) ?_
  (refine aL_S rfl rfl v_ ?_)
  refine aL_nil ?_
  refine awp_seq ?_
  refine awp_cond v_ (fun hc2 => ?_) (fun hc2 => ?_)
  · replace hc2 := nm_ hc2
    refine awp_skip ?_
    refine awp_seq ?_
    refine awp_block ?_
    refine awp_seq ?_
    refine awp_region (by kernel_rfl) ?_
    iterate 2 (refine aL_S rfl rfl v_ ?_)
    refine aL_nil ?_
    refine awp_seq ?_
    obtain ⟨y, hy⟩ := get_some (l := l) (k := k) (by omega)
    have R := hy
    refine awp_region (by kernel_rfl) ?_
    iterate 5 (refine aL_S rfl rfl v_ ?_)
    refine aL_X rfl rfl (AOp_use rfl rfl (.inr ⟨va_, rfl, rfl⟩) g_ va_ (lnAll1_c (hs y (List.mem_of_getElem? hy))) ?_); rintro _ _ ⟨rfl, rfl⟩
    refine aL_nil ?_
    refine awp_cond v_ (fun hc4 => ?_) (fun hc4 => ?_)
    · replace hc4 := nm_ hc4
      refine awp_seq ?_
      refine awp_region (by kernel_rfl) ?_
      iterate 2 (refine aL_S rfl rfl v_ ?_)
      refine aL_nil ?_
      refine awp_ret ?_
      refine aEnd_ret (σ' := σ) v_ sub_ ?_
      exact ⟨⟨(k : Int), rfl, by rw [decide_eq_true (by omega)]; exact (any_yes hy (by simpa using hc4)).symm⟩, rfl⟩
    · replace hc4 := nm_ hc4
      refine awp_skip ?_
      refine awp_region (by kernel_rfl) ?_
      iterate 2 (refine aL_S rfl rfl v_ ?_)
      refine aL_nil ?_
      refine aNext (ι := Nat) (i := k) (k + 1) ?_ ?_ ?_ ?_
      · omega
      · exact ⟨by omega, any_next hy (by simpa using hc4) ha⟩
      · exact cv_
      · exact sub_
  · replace hc2 := nm_ hc2
    refine awp_exit ?_
    refine aThen_exit ?_
    refine aThen_exit ?_
    refine aBlock_hit ?_
    refine awp_seq ?_
    refine awp_region (by kernel_rfl) ?_
    (refine aL_S rfl rfl v_ ?_)
    refine aL_nil ?_
    refine awp_ret ?_
    refine aEnd_ret (σ' := σ) v_ sub_ ?_
    exact ⟨⟨-1, rfl, (any_end (by omega) ha).symm⟩, rfl⟩
theorem cfNames_c {l : List ByteArray} {t : Bool} {σ : Store} (hn : l.length ≤ 1000000) (hs : ∀ x ∈ l, x.size ≤ 1000000) : ACalls Tryz.prog 77 [.sl 1 (l.map vStr) t, fNm] σ fun v σ' => v = vB (l.any fun y => !nameOk y) ∧ σ = σ' := by
  refine ACalls_of Tryz.func77 rfl Tryz.ntmps77 (congrArg Array.toList Tryz.results77) (by simp only [List.length_cons, List.length_nil]; decide) ?_; simp only [envOf_cons, envOf_nil, Nat.reduceAdd]
  refine awp_seq ?_
  refine awp_region (by kernel_rfl) ?_
  (refine aL_S rfl rfl v_ ?_)
  refine aL_nil ?_
  refine awp_seq ?_
  refine awp_region (by kernel_rfl) ?_
  iterate 2 (refine aL_S rfl rfl v_ ?_)
  refine aL_X rfl rfl (AOp_use rfl rfl (.inr ⟨rfl, rfl, rfl⟩) g_ va_ (ixNames_c hn hs) ?_); rintro _ _ ⟨⟨r, rfl, hr⟩, rfl⟩
  iterate 2 (refine aL_S rfl rfl v_ ?_)
  refine aL_nil ?_
  refine awp_ret ?_
  refine aEnd_ret (σ' := σ) v_ sub_ ?_
  exact ⟨by rw [← hr], rfl⟩
theorem lnAll_c {l : List ByteArray} {t : Bool} {σ : Store} (hn : l.length ≤ 1000000) (hs : ∀ x ∈ l, x.size ≤ 1000000) : ACalls Tryz.prog 52 [.sl 1 (l.map vStr) t] σ fun v σ' => v = vB (l.all nameOk) ∧ σ = σ' := by
  refine ACalls_of Tryz.func52 rfl Tryz.ntmps52 (congrArg Array.toList Tryz.results52) (by simp only [List.length_cons, List.length_nil]; decide) ?_; simp only [envOf_cons, envOf_nil, Nat.reduceAdd]
  refine awp_seq ?_
  refine awp_region (by kernel_rfl) ?_
  (refine aL_S rfl rfl v_ ?_)
  refine aL_nil ?_
  refine awp_seq ?_
  refine awp_region (by kernel_rfl) ?_
  (refine aL_S rfl rfl v_ ?_)
  refine aL_X rfl rfl (AOp_use rfl rfl (.inr ⟨rfl, rfl, rfl⟩) g_ va_ (cfNames_c hn hs) ?_); rintro _ _ ⟨rfl, rfl⟩
  iterate 2 (refine aL_S rfl rfl v_ ?_)
  refine aL_nil ?_
  refine awp_ret ?_
  refine aEnd_ret (σ' := σ) v_ sub_ ?_
  exact ⟨by congr 2; rw [List.any_eq_not_all_not, Bool.not_not]; congr 1; funext y; simp, rfl⟩
theorem kn_eq {k a q : ByteArray} {p : List ByteArray} (hp : partsS k = p) (h2 : 2 ≤ p.length) (h0 : p[0]? = some a) (hq : p[((p.length : Int) - 1).toNat]? = some q) : knownS k = knP p a q := by
  unfold knownS knownP
  rw [hp, decide_eq_true h2, Bool.true_and]
  have e : ((p.length : Int) - 1).toNat = p.length - 1 := by omega
  rw [e] at hq
  congr 1
  · cases p with
    | nil => cases h0
    | cons x y => simpa using h0
  · unfold lastS; rw [hq]; rfl
set_option maxHeartbeats 2000000 in
theorem known_c {k : ByteArray} {σ : Store} (hk : k.size ≤ 900000) : ACalls Tryz.prog 24 [vStr k] σ fun v σ' => v = vB (knownS k) ∧ σ = σ' := by
  obtain ⟨p, hp⟩ : ∃ p, partsS k = p := ⟨_, rfl⟩
  have hpl := partsS_len k
  have hpm : ∀ x ∈ partsS k, x.size ≤ k.size := fun x hx => (partsS_mem hx).2
  rw [hp] at hpl hpm
  have m1 : ((p.map vStr).take p.length).drop 1 = (p.drop 1).map vStr := by rw [List.take_of_length_le (by simp), List.map_drop]
  have m2 : ((p.map vStr).take 3).drop 1 = ((p.take 3).drop 1).map vStr := by rw [← List.map_take, List.map_drop]
  have m3 : ((p.map vStr).take 2).drop 1 = ((p.take 2).drop 1).map vStr := by rw [← List.map_take, List.map_drop]
  have d1 : (p.drop 1).length ≤ 1000000 := by rw [List.length_drop]; omega
  have d2 : ((p.take 3).drop 1).length ≤ 1000000 := by simp; omega
  have d3 : ((p.take 2).drop 1).length ≤ 1000000 := by simp; omega
  have q1 : ∀ x ∈ p.drop 1, x.size ≤ 1000000 := fun x hx => by have := hpm x (List.mem_of_mem_drop hx); omega
  have q2 : ∀ x ∈ (p.take 3).drop 1, x.size ≤ 1000000 := fun x hx => by have := hpm x (List.mem_of_mem_take (List.mem_of_mem_drop hx)); omega
  have q3 : ∀ x ∈ (p.take 2).drop 1, x.size ≤ 1000000 := fun x hx => by have := hpm x (List.mem_of_mem_take (List.mem_of_mem_drop hx)); omega
  have i2 : decide ((p.length : Int) = 2) = decide (p.length = 2) := decide_eq_decide.2 (by omega)
  have i3 : decide ((p.length : Int) = 3) = decide (p.length = 3) := decide_eq_decide.2 (by omega)
  have i4 : decide ((p.length : Int) = 4) = decide (p.length = 4) := decide_eq_decide.2 (by omega)
  refine ACalls_of Tryz.func24 rfl Tryz.ntmps24 (congrArg Array.toList Tryz.results24) (by simp only [List.length_cons, List.length_nil]; decide) ?_; simp only [envOf_cons, envOf_nil, Nat.reduceAdd]
  refine awp_seq ?_
  refine awp_region (by kernel_rfl) ?_
  (refine aL_S rfl rfl v_ ?_)
  refine aL_nil ?_
  refine awp_seq ?_
  refine awp_region (by kernel_rfl) ?_
  (refine aL_S rfl rfl v_ ?_)
  refine aL_X rfl rfl (AOp_use rfl rfl (.inr ⟨rfl, rfl, rfl⟩) g_ va_ (parts_c (by omega)) ?_); rintro _ _ ⟨rfl, rfl⟩
  (refine aL_S rfl rfl v_ ?_)
  refine aL_nil ?_
  rw [hp]
  refine awp_seq ?_
  refine awp_seq ?_
  refine awp_region (by kernel_rfl) ?_
  iterate 3 (refine aL_S rfl rfl v_ ?_)
  refine aL_nil ?_
  refine awp_cond v_ (fun hc2 => ?_) (fun hc2 => ?_)
  · replace hc2 := nm_ hc2
    refine awp_seq ?_
    refine awp_region (by kernel_rfl) ?_
    (refine aL_S rfl rfl v_ ?_)
    refine aL_nil ?_
    refine awp_ret ?_
    refine aEnd_ret (σ' := σ) v_ sub_ ?_
    exact ⟨by rw [knownS, hp, knownP, decide_eq_false (by omega)]; rfl, rfl⟩
  · replace hc2 := nm_ hc2
    refine awp_skip ?_
    refine awp_seq ?_
    obtain ⟨q, hq⟩ := get_some (l := p) (k := ((p.length : Int) - 1).toNat) (by omega)
    obtain ⟨a, ha⟩ := get_some (l := p) (k := 0) (by omega)
    have hK := kn_eq hp (by omega) ha hq
    have hqs : q.size ≤ 1000000 := by have := hpm q (List.mem_of_getElem? hq); omega
    have R := hq
    refine awp_region (by kernel_rfl) ?_
    iterate 7 (refine aL_S rfl rfl v_ ?_)
    refine aL_nil ?_
    refine awp_seq ?_
    refine awp_seq ?_
    have R := ha
    refine awp_region (by kernel_rfl) ?_
    iterate 3 (refine aL_S rfl rfl v_ ?_)
    refine aL_nil ?_
    refine awp_block ?_
    refine awp_seq ?_
    refine awp_region (by kernel_rfl) ?_
    iterate 2 (refine aL_S rfl rfl v_ ?_)
    refine aL_nil ?_
    refine awp_cond v_ (fun hc6 => ?_) (fun hc6 => ?_)
    · replace hc6 := nm_ hc6
      refine awp_seq ?_
      have R := m1
      refine awp_region (by kernel_rfl) ?_
      iterate 4 (refine aL_S rfl rfl v_ ?_)
      refine aL_GT rfl rfl v_ rfl vg_ ?_
      refine aL_GT rfl rfl v_ rfl vg_ ?_
      refine aL_GTX rfl rfl v_ rfl (fun hb => AOp_useV (by rfl) (by rfl) (.inr ⟨by rfl, by rfl, by rfl⟩) g_ cg_ (lnAll_c d1 q1)) ?_
      iterate 2 (refine aL_S rfl rfl v_ ?_)
      refine aL_nil ?_
      refine awp_ret ?_
      refine aEnd_ret (σ' := σ) v_ sub_ ?_
      exact ⟨by rw [hK, knP, if_pos (show a = bsNode from hc6), i2], rfl⟩
    · replace hc6 := nm_ hc6
      refine awp_seq ?_
      refine awp_region (by kernel_rfl) ?_
      iterate 2 (refine aL_S rfl rfl v_ ?_)
      refine aL_nil ?_
      refine awp_cond v_ (fun hc8 => ?_) (fun hc8 => ?_)
      · replace hc8 := nm_ hc8
        refine awp_seq ?_
        refine awp_region (by kernel_rfl) ?_
        (refine aL_S rfl rfl v_ ?_)
        refine aL_X rfl rfl (AOp_use rfl rfl (.inr ⟨rfl, rfl, rfl⟩) g_ va_ (num_c hqs) ?_); rintro _ _ ⟨rfl, rfl⟩
        iterate 5 (refine aL_S rfl rfl v_ ?_)
        refine aL_nil ?_
        refine awp_seq ?_
        refine awp_region (by kernel_rfl) ?_
        iterate 4 (refine aL_S rfl rfl v_ ?_)
        refine aL_GT rfl rfl v_ rfl vg_ ?_
        iterate 2 (refine aL_S rfl rfl v_ ?_)
        refine aL_GT rfl rfl v_ rfl vg_ ?_
        refine aL_GT rfl rfl v_ rfl vg_ ?_
        iterate 2 (refine aL_S rfl rfl v_ ?_)
        refine aL_GT rfl rfl v_ rfl vg_ ?_
        refine aL_GT rfl rfl v_ rfl vg_ ?_
        iterate 2 (refine aL_S rfl rfl v_ ?_)
        refine aL_nil ?_
        refine awp_ret ?_
        refine aEnd_ret (σ' := σ) v_ sub_ ?_
        exact ⟨by rw [hK, knP, if_neg (show ¬ a = bsNode from hc6), if_pos (show a = bsRing from hc8), i2]; unfold in16; cases numS q <;> simp [Bool.and_assoc], rfl⟩
      · replace hc8 := nm_ hc8
        refine awp_seq ?_
        refine awp_region (by kernel_rfl) ?_
        iterate 2 (refine aL_S rfl rfl v_ ?_)
        refine aL_nil ?_
        refine awp_cond v_ (fun hc11 => ?_) (fun hc11 => ?_)
        · replace hc11 := nm_ hc11
          refine awp_seq ?_
          refine awp_region (by kernel_rfl) ?_
          refine aL_buildSlice rfl rfl rfl g_ g_ rfl rfl h_ c2_ (by decide) ?_
          (refine aL_S rfl rfl v_ ?_)
          refine aL_nil ?_
          refine awp_seq ?_
          have R := m2
          refine awp_region (by kernel_rfl) ?_
          iterate 4 (refine aL_S rfl rfl v_ ?_)
          refine aL_GT rfl rfl v_ rfl vg_ ?_
          refine aL_GT rfl rfl v_ rfl vg_ ?_
          refine aL_GTX rfl rfl v_ rfl (fun hb => AOp_useV (by rfl) (by rfl) (.inr ⟨by rfl, by rfl, by rfl⟩) g_ cg_ (lnAll_c d2 q2)) ?_
          iterate 2 (refine aL_S rfl rfl v_ ?_)
          refine aL_GT rfl rfl v_ rfl vg_ ?_
          refine aL_GT rfl rfl v_ rfl vg_ ?_
          refine aL_GTX rfl rfl v_ rfl (fun hb => AOp_useV (by rfl) (by rfl) (.inr ⟨by rfl, by rfl, by rfl⟩) g_ cg_ (containsStr_c (l := propF) (by decide))) ?_
          iterate 2 (refine aL_S rfl rfl v_ ?_)
          refine aL_nil ?_
          refine awp_ret ?_
          refine aEnd_ret (σ' := σ) v_ sub_ ?_
          exact ⟨by rw [hK, knP, if_neg (show ¬ a = bsNode from hc6), if_neg (show ¬ a = bsRing from hc8), if_pos (show a = bsProp from hc11), i4], rfl⟩
        · replace hc11 := nm_ hc11
          refine awp_seq ?_
          refine awp_region (by kernel_rfl) ?_
          iterate 2 (refine aL_S rfl rfl v_ ?_)
          refine aL_nil ?_
          refine awp_cond v_ (fun hc14 => ?_) (fun hc14 => ?_)
          · replace hc14 := nm_ hc14
            refine awp_seq ?_
            have R := m1
            refine awp_region (by kernel_rfl) ?_
            iterate 4 (refine aL_S rfl rfl v_ ?_)
            refine aL_GT rfl rfl v_ rfl vg_ ?_
            refine aL_GT rfl rfl v_ rfl vg_ ?_
            refine aL_GTX rfl rfl v_ rfl (fun hb => AOp_useV (by rfl) (by rfl) (.inr ⟨by rfl, by rfl, by rfl⟩) g_ cg_ (lnAll_c d1 q1)) ?_
            iterate 2 (refine aL_S rfl rfl v_ ?_)
            refine aL_nil ?_
            refine awp_ret ?_
            refine aEnd_ret (σ' := σ) v_ sub_ ?_
            exact ⟨by rw [hK, knP, if_neg (show ¬ a = bsNode from hc6), if_neg (show ¬ a = bsRing from hc8), if_neg (show ¬ a = bsProp from hc11), if_pos (show a = bsAcl from hc14), i4], rfl⟩
          · replace hc14 := nm_ hc14
            refine awp_seq ?_
            refine awp_region (by kernel_rfl) ?_
            iterate 2 (refine aL_S rfl rfl v_ ?_)
            refine aL_nil ?_
            refine awp_cond v_ (fun hc16 => ?_) (fun hc16 => ?_)
            · replace hc16 := nm_ hc16
              refine awp_seq ?_
              refine awp_region (by kernel_rfl) ?_
              refine aL_buildSlice rfl rfl rfl g_ g_ rfl rfl h_ c2_ (by decide) ?_
              (refine aL_S rfl rfl v_ ?_)
              refine aL_nil ?_
              refine awp_seq ?_
              have R := m3
              refine awp_region (by kernel_rfl) ?_
              iterate 4 (refine aL_S rfl rfl v_ ?_)
              refine aL_GT rfl rfl v_ rfl vg_ ?_
              refine aL_GT rfl rfl v_ rfl vg_ ?_
              refine aL_GTX rfl rfl v_ rfl (fun hb => AOp_useV (by rfl) (by rfl) (.inr ⟨by rfl, by rfl, by rfl⟩) g_ cg_ (lnAll_c d3 q3)) ?_
              iterate 2 (refine aL_S rfl rfl v_ ?_)
              refine aL_GT rfl rfl v_ rfl vg_ ?_
              refine aL_GT rfl rfl v_ rfl vg_ ?_
              refine aL_GTX rfl rfl v_ rfl (fun hb => AOp_useV (by rfl) (by rfl) (.inr ⟨by rfl, by rfl, by rfl⟩) g_ cg_ (containsStr_c (l := tenF) (by decide))) ?_
              iterate 2 (refine aL_S rfl rfl v_ ?_)
              refine aL_nil ?_
              refine awp_ret ?_
              refine aEnd_ret (σ' := σ) v_ sub_ ?_
              exact ⟨by rw [hK, knP, if_neg (show ¬ a = bsNode from hc6), if_neg (show ¬ a = bsRing from hc8), if_neg (show ¬ a = bsProp from hc11), if_neg (show ¬ a = bsAcl from hc14), if_pos (show a = bsTenant from hc16), i3], rfl⟩
            · replace hc16 := nm_ hc16
              refine awp_skip ?_
              refine awp_seq ?_
              refine awp_region (by kernel_rfl) ?_
              (refine aL_S rfl rfl v_ ?_)
              refine aL_nil ?_
              refine awp_ret ?_
              refine aEnd_ret (σ' := σ) v_ sub_ ?_
              exact ⟨by rw [hK, knP, if_neg (show ¬ a = bsNode from hc6), if_neg (show ¬ a = bsRing from hc8), if_neg (show ¬ a = bsProp from hc11), if_neg (show ¬ a = bsAcl from hc14), if_neg (show ¬ a = bsTenant from hc16)], rfl⟩
end Go.Proofs.YtbomkkjhafdhiaaGreatDoor
end

section
set_option linter.all false
set_option maxRecDepth 100000
namespace Go.Ab
structure Mbr where
  name : ByteArray
  rack : ByteArray
  zone : ByteArray
  up : Bool
@[reducible] def sMbr (x : Mbr) : AVal := .agg [.lit (.string x.name), .lit (.string x.rack), .lit (.string x.zone), .lit (.bool x.up)]
end Go.Ab
namespace Go.Proofs.YtbomkkjhafdhiaaGreatDoor
open Go.Ab
def bsUp : ByteArray := ⟨#[117, 112]⟩
def bsDown : ByteArray := ⟨#[100, 111, 119, 110]⟩
def zeroM : Mbr := ⟨⟨#[]⟩, ⟨#[]⟩, ⟨#[]⟩, false⟩
def mbrS (a v : ByteArray) : Option Mbr := match partsS v with | [r, z, u] => if nameOk a = true ∧ nameOk r = true ∧ nameOk z = true ∧ (u = bsUp ∨ u = bsDown) then some ⟨a, r, z, decide (u = bsUp)⟩ else none | _ => none
def memK (x : Ent) : Option Mbr := mbrS (x.key.extract 5 x.key.size) x.value
def memsS (l : List Ent) : List Mbr := (undS l bsNode).filterMap memK
theorem mems_len (l : List Ent) : (memsS l).length ≤ l.length := Nat.le_trans (List.length_filterMap_le ..) (und_len l bsNode)
theorem szMbr (l : List Mbr) : ∀ y ∈ l.map sMbr, y.cells.length = 4 := fun y hy => by
  obtain ⟨x, _, rfl⟩ := List.mem_map.1 hy
  rfl
theorem get_sz {l : List ByteArray} {N : Nat} (h : ∀ x ∈ l, x.size ≤ N) (k : Nat) : ∃ x : ByteArray, (k < l.length → l[k]? = some x) ∧ x.size ≤ N := by
  by_cases hk : k < l.length
  · exact ⟨l[k], fun _ => List.getElem?_eq_getElem hk, h _ (List.getElem_mem hk)⟩
  · exact ⟨⟨#[]⟩, fun h' => absurd h' hk, Nat.zero_le _⟩
theorem mbr_some {a v r z u : ByteArray} (h3 : (partsS v).length = 3) (h0 : (partsS v)[0]? = some r) (h1 : (partsS v)[1]? = some z) (h2 : (partsS v)[2]? = some u) : mbrS a v = if nameOk a = true ∧ nameOk r = true ∧ nameOk z = true ∧ (u = bsUp ∨ u = bsDown) then some ⟨a, r, z, decide (u = bsUp)⟩ else none := by
  unfold mbrS
  obtain ⟨a', b', c', e⟩ : ∃ a b c, partsS v = [a, b, c] := by
    match hp : partsS v, h3 with
    | [a, b, c], _ => exact ⟨a, b, c, rfl⟩
  rw [e] at h0 h1 h2 ⊢
  simp only [List.getElem?_cons_succ, List.getElem?_cons_zero, Option.some.injEq] at h0 h1 h2
  subst h0; subst h1; subst h2; rfl
theorem mbr_none {a v : ByteArray} (h3 : ¬(partsS v).length = 3) : mbrS a v = none := by
  unfold mbrS
  split
  · rename_i a b c e; rw [e] at h3; simp at h3
  · rfl
theorem member_c {a v : ByteArray} {σ : Store} (ha : a.size ≤ 900000) (hv : v.size ≤ 900000) : ACalls Tryz.prog 131 [vStr a, vStr v] σ fun w σ' => w = .tup [sMbr ((mbrS a v).getD zeroM), vB (mbrS a v).isSome] ∧ σ = σ' := by
  have hpl := partsS_len v
  have hpm : ∀ x ∈ partsS v, x.size ≤ 900000 := fun x hx => Nat.le_trans (partsS_mem hx).2 hv
  obtain ⟨r, hr, rz⟩ := get_sz hpm 0
  obtain ⟨z, hz, zz⟩ := get_sz hpm 1
  obtain ⟨u, hu, uz⟩ := get_sz hpm 2
  refine ACalls_of Tryz.func131 rfl Tryz.ntmps131 (congrArg Array.toList Tryz.results131) (by simp only [List.length_cons, List.length_nil]; decide) ?_; simp only [envOf_cons, envOf_nil, Nat.reduceAdd]
  refine awp_seq ?_
  refine awp_region (by kernel_rfl) ?_
  refine aL_alloc rfl rfl rfl g_ gl_ fun o4 ho4 => ?_
  repeat (rw [none_set_iff] at ho4; obtain ⟨_, ho4⟩ := ho4)
  (refine aL_S rfl rfl v_ ?_)
  refine aL_nil ?_
  refine awp_seq ?_
  refine awp_region (by kernel_rfl) ?_
  (refine aL_S rfl rfl v_ ?_)
  refine aL_X rfl rfl (AOp_use rfl rfl (.inr ⟨rfl, rfl, rfl⟩) g_ va_ (parts_c (by omega)) ?_); rintro _ _ ⟨rfl, rfl⟩
  (refine aL_S rfl rfl v_ ?_)
  refine aL_nil ?_
  refine awp_seq ?_
  refine awp_seq ?_
  have R := And.intro hr hz
  refine awp_region (by kernel_rfl) ?_
  (refine aL_S rfl rfl v_ ?_)
  refine aL_X rfl rfl (AOp_use rfl rfl (.inr ⟨rfl, rfl, rfl⟩) g_ va_ (nameIs_c (by omega)) ?_); rintro _ _ ⟨rfl, rfl⟩
  iterate 2 (refine aL_S rfl rfl v_ ?_)
  refine aL_GF rfl rfl v_ rfl vg_ ?_
  refine aL_GF rfl rfl v_ rfl vg_ ?_
  refine aL_GF rfl rfl v_ rfl vg_ ?_
  iterate 2 (refine aL_S rfl rfl v_ ?_)
  refine aL_GF rfl rfl v_ rfl vg_ ?_
  refine aL_GF rfl rfl v_ rfl vg_ ?_
  refine aL_GF rfl rfl v_ rfl vg_ ?_
  refine aL_GFX rfl rfl v_ rfl (fun hb => AOp_useV (by rfl) (by rfl) (.inr ⟨by rfl, by rfl, by rfl⟩) g_ cg_ (nameIs_c (by omega))) ?_
  refine aL_GF rfl rfl v_ rfl vg_ ?_
  iterate 2 (refine aL_S rfl rfl v_ ?_)
  refine aL_GF rfl rfl v_ rfl vg_ ?_
  refine aL_GF rfl rfl v_ rfl vg_ ?_
  refine aL_GF rfl rfl v_ rfl vg_ ?_
  refine aL_GFX rfl rfl v_ rfl (fun hb => AOp_useV (by rfl) (by rfl) (.inr ⟨by rfl, by rfl, by rfl⟩) g_ cg_ (nameIs_c (by omega))) ?_
  refine aL_GF rfl rfl v_ rfl vg_ ?_
  (refine aL_S rfl rfl v_ ?_)
  refine aL_nil ?_
  refine awp_cond v_ (fun hc2 => ?_) (fun hc2 => ?_)
  · replace hc2 := nm_ hc2
    refine awp_seq ?_
    refine awp_region (by kernel_rfl) ?_
    (refine aL_S rfl rfl v_ ?_)
    refine aL_store rfl rfl rfl v_ v_ h_ g_ rfl g_ c_ (by rfl) le_ v_ ?_
    (refine aL_S rfl rfl v_ ?_)
    refine aL_nil ?_
    refine awp_ret ?_
    refine aEnd_ret (σ' := σ) v_ sub_ ?_
    skip
    have hn : mbrS a v = none := by
      by_cases h3 : (partsS v).length = 3
      · rw [mbr_some h3 (hr (by omega)) (hz (by omega)) (hu (by omega)), if_neg]
        rintro ⟨g1, g2, g3, _⟩
        simp [g1, g2, g3, h3] at hc2
      · exact mbr_none h3
    exact ⟨by rw [hn]; rfl, rfl⟩
  · replace hc2 := nm_ hc2
    have h3 : (partsS v).length = 3 := by omega
    have hr' := hr (by omega)
    have hz' := hz (by omega)
    have hu' := hu (by omega)
    have hms := mbr_some (a := a) h3 hr' hz' hu'
    refine awp_skip ?_
    refine awp_seq ?_
    refine awp_seq ?_
    have R := hu'
    refine awp_region (by kernel_rfl) ?_
    iterate 3 (refine aL_S rfl rfl v_ ?_)
    refine aL_nil ?_
    refine awp_block ?_
    refine awp_seq ?_
    refine awp_seq ?_
    refine awp_region (by kernel_rfl) ?_
    iterate 2 (refine aL_S rfl rfl v_ ?_)
    refine aL_nil ?_
    refine awp_cond v_ (fun hc5 => ?_) (fun hc5 => ?_)
    · replace hc5 := nm_ hc5
      have hup := hc5
      refine awp_skip ?_
      refine awp_cond v_ (fun hc5 => ?_) (fun hc5 => ?_)
      · replace hc5 := nm_ hc5
        have hup := hc5
        refine awp_seq ?_
        have R := And.intro hr' (And.intro hz' hu')
        refine awp_draw (.op 0 0 (.op 1 0 (.op 2 0 (.op 3 0 (.op 4 0 (.op 5 0 (.op 6 0 (.op 7 0 (.op 8 0 (.op 9 0 (.op 10 0 (.op 11 0 (.op 12 2 (.op 13 0 .nil)))))))))))))) Tryz.mixed (by kernel_rfl) ?_
        iterate 12 (refine dR_S o_ (by rfl) (by rfl) v_ ?_)
        refine dR_store o_ (by rfl) (by rfl) (by rfl) v_ v_ h_ g_ rfl g_ c_ (by rfl) le_ v_ ?_
        (refine dR_S o_ (by rfl) (by rfl) v_ ?_)
        refine dR_nil ?_
        refine awp_ret ?_
        refine aEnd_ret (σ' := σ) v_ sub_ ?_
        exact ⟨by rw [hms, if_pos ⟨hc2.1.1.1, hc2.1.2, hc2.2, .inl hup⟩]; rfl, rfl⟩
      · replace hc5 := nm_ hc5
        exact absurd hup hc5
    · replace hc5 := nm_ hc5
      refine awp_region (by kernel_rfl) ?_
      iterate 2 (refine aL_S rfl rfl v_ ?_)
      refine aL_nil ?_
      refine awp_cond v_ (fun hc6 => ?_) (fun hc6 => ?_)
      · replace hc6 := nm_ hc6
        refine awp_seq ?_
        have R := And.intro hr' (And.intro hz' hu')
        refine awp_draw (.op 0 0 (.op 1 0 (.op 2 0 (.op 3 0 (.op 4 0 (.op 5 0 (.op 6 0 (.op 7 0 (.op 8 0 (.op 9 0 (.op 10 0 (.op 11 0 (.op 12 2 (.op 13 0 .nil)))))))))))))) Tryz.mixed (by kernel_rfl) ?_
        iterate 12 (refine dR_S o_ (by rfl) (by rfl) v_ ?_)
        refine dR_store o_ (by rfl) (by rfl) (by rfl) v_ v_ h_ g_ rfl g_ c_ (by rfl) le_ v_ ?_
        (refine dR_S o_ (by rfl) (by rfl) v_ ?_)
        refine dR_nil ?_
        refine awp_ret ?_
        refine aEnd_ret (σ' := σ) v_ sub_ ?_
        exact ⟨by rw [hms, if_pos ⟨hc2.1.1.1, hc2.1.2, hc2.2, .inr hc6⟩]; rfl, rfl⟩
      · replace hc6 := nm_ hc6
        refine awp_skip ?_
        refine awp_seq ?_
        refine awp_region (by kernel_rfl) ?_
        (refine aL_S rfl rfl v_ ?_)
        refine aL_store rfl rfl rfl v_ v_ h_ g_ rfl g_ c_ (by rfl) le_ v_ ?_
        (refine aL_S rfl rfl v_ ?_)
        refine aL_nil ?_
        refine awp_ret ?_
        refine aEnd_ret (σ' := σ) v_ sub_ ?_
        exact ⟨by rw [hms, if_neg (fun hh => by rcases hh.2.2.2 with h | h; exact hc5 h; exact hc6 h)]; rfl, rfl⟩
def trimS (s p : ByteArray) : ByteArray := if hpS s p = true then s.extract p.size s.size else s
theorem slTrim_c {s p : ByteArray} {σ : Store} : ACalls Tryz.prog 159 [vStr s, vStr p] σ fun v σ' => v = vStr (trimS s p) ∧ σ = σ' := by
  refine ACalls_of Tryz.func159 rfl Tryz.ntmps159 (congrArg Array.toList Tryz.results159) (by simp only [List.length_cons, List.length_nil]; decide) ?_; simp only [envOf_cons, envOf_nil, Nat.reduceAdd]
  refine awp_seq ?_
  refine awp_region (by kernel_rfl) ?_
  (refine aL_S rfl rfl v_ ?_)
  refine aL_nil ?_
  refine awp_seq ?_
  refine awp_seq ?_
  refine awp_region (by kernel_rfl) ?_
  iterate 2 (refine aL_S rfl rfl v_ ?_)
  refine aL_X rfl rfl (AOp_use rfl rfl (.inr ⟨rfl, rfl, rfl⟩) g_ va_ (slHasPrefix_c) ?_); rintro _ _ ⟨rfl, rfl⟩
  refine aL_nil ?_
  refine awp_cond v_ (fun hc1 => ?_) (fun hc1 => ?_)
  · replace hc1 := nm_ hc1
    have hle : p.size ≤ s.size := by unfold hpS at hc1; simp only [Bool.and_eq_true, decide_eq_true_eq] at hc1; exact hc1.1
    refine awp_seq ?_
    refine awp_region (by kernel_rfl) ?_
    iterate 5 (refine aL_S rfl rfl v_ ?_)
    refine aL_nil ?_
    refine awp_ret ?_
    refine aEnd_ret (σ' := σ) v_ sub_ ?_
    exact ⟨by rw [trimS, if_pos hc1], rfl⟩
  · replace hc1 := nm_ hc1
    refine awp_skip ?_
    refine awp_seq ?_
    refine awp_region (by kernel_rfl) ?_
    iterate 2 (refine aL_S rfl rfl v_ ?_)
    refine aL_nil ?_
    refine awp_ret ?_
    refine aEnd_ret (σ' := σ) v_ sub_ ?_
    exact ⟨by rw [trimS, if_neg (by simp [hc1])], rfl⟩
theorem trim_c {s p : ByteArray} {σ : Store} : ACalls Tryz.prog 132 [vStr s, vStr p] σ fun v σ' => v = vStr (trimS s p) ∧ σ = σ' := by
  refine ACalls_of Tryz.func132 rfl Tryz.ntmps132 (congrArg Array.toList Tryz.results132) (by simp only [List.length_cons, List.length_nil]; decide) ?_; simp only [envOf_cons, envOf_nil, Nat.reduceAdd]
  refine awp_seq ?_
  refine awp_region (by kernel_rfl) ?_
  (refine aL_S rfl rfl v_ ?_)
  refine aL_nil ?_
  refine awp_seq ?_
  refine awp_region (by kernel_rfl) ?_
  iterate 2 (refine aL_S rfl rfl v_ ?_)
  refine aL_X rfl rfl (AOp_use rfl rfl (.inr ⟨rfl, rfl, rfl⟩) g_ va_ (slTrim_c) ?_); rintro _ _ ⟨rfl, rfl⟩
  (refine aL_S rfl rfl v_ ?_)
  refine aL_nil ?_
  refine awp_ret ?_
  refine aEnd_ret (σ' := σ) v_ sub_ ?_
  exact ⟨rfl, rfl⟩
theorem und_hp {l : List Ent} {s : ByteArray} {x : Ent} (h : x ∈ undS l s) : hpS x.key (s ++ ⟨#[47]⟩) = true := by simpa using (List.mem_filter.1 h).2
theorem trim_node {l : List Ent} {x : Ent} (h : x ∈ undS l bsNode) : trimS x.key ⟨#[110, 111, 100, 101, 47]⟩ = x.key.extract 5 x.key.size := by
  have h1 : hpS x.key ⟨#[110, 111, 100, 101, 47]⟩ = true := und_hp h
  rw [trimS, if_pos h1]; rfl
set_option maxHeartbeats 2000000 in
theorem membersC {l : List Ent} {t : Bool} {σ : Store} (hl : l.length ≤ 1000000) (hs : ∀ x ∈ l, EntSm x) (hks : ∀ x ∈ l, x.key.size ≤ 400000 ∧ x.value.size ≤ 400000) : ACalls Tryz.prog 102 [.sl 4 (l.map sEnt) t] σ fun v σ' => ∃ σ1, CBp σ1 σ' 4 ((memsS l).map sMbr) v ∧ σ.Sub σ1 := by
  obtain ⟨U, hU⟩ : ∃ U, undS l bsNode = U := ⟨_, rfl⟩
  have hUl := und_len l bsNode
  have hUs := und_sm (s := bsNode) hs
  have hUt : ∀ x ∈ undS l bsNode, trimS x.key ⟨#[110, 111, 100, 101, 47]⟩ = x.key.extract 5 x.key.size := fun x hx => trim_node hx
  have hsub : ∀ x ∈ undS l bsNode, x ∈ l := fun x hx => (List.mem_filter.1 hx).1
  have hml := mems_len l
  rw [show memsS l = (undS l bsNode).filterMap memK from rfl] at hml ⊢
  rw [hU] at hUl hUs hUt hsub hml ⊢
  refine ACalls_of Tryz.func102 rfl Tryz.ntmps102 (congrArg Array.toList Tryz.results102) (by simp only [List.length_cons, List.length_nil]; decide) ?_; simp only [envOf_cons, envOf_nil, Nat.reduceAdd]
  refine awp_seq ?_
  refine awp_region (by kernel_rfl) ?_
  (refine aL_S rfl rfl v_ ?_)
  refine aL_nil ?_
  refine awp_seq ?_
  refine awp_region (by kernel_rfl) ?_
  (refine aL_S rfl rfl v_ ?_)
  refine aL_nil ?_
  refine awp_seq ?_
  refine awp_seq ?_
  refine awp_region (by kernel_rfl) ?_
  (refine aL_S rfl rfl v_ ?_)
  refine aL_X rfl rfl (AOp_use rfl rfl (.inr ⟨rfl, rfl, rfl⟩) g_ va_ (under_c (s := bsNode) hl (by decide)) ?_); rintro _ _ ⟨rfl, rfl⟩
  iterate 2 (refine aL_S rfl rfl v_ ?_)
  refine aL_nil ?_
  rw [hU]
  refine awp_block ?_
  refine awp_loop_env (ι := Store × AVal × Nat) (fun ⟨τ, g, k⟩ => U.length - k) (fun ⟨τ, g, k⟩ => k ≤ U.length ∧ CBp σ τ 4 (((U.take k).filterMap memK).map sMbr) g) (fun ⟨τ, g, k⟩ => [(3, g), (9, .sl 4 (U.map sEnt) false), (10, vInt U.length), (11, vInt k)]) (fun ⟨τ, g, k⟩ => τ) (σ, vNil, 0) ?_ ?_ ?_ ?_
  · exact ⟨Nat.zero_le _, .inl ⟨rfl, rfl, rfl⟩⟩
  · exact cv_
  · exact Store.Wk.refl _
  rintro ⟨τ, g, k⟩ ⟨hk, hC⟩
  simp only [envL_cons, envL_nil]
  refine awp_seq ?_
  refine awp_region (by kernel_rfl) ?_
  (refine aL_S rfl rfl v_ ?_)
  refine aL_nil ?_
  refine awp_seq ?_
  refine awp_cond v_ (fun hc3 => ?_) (fun hc3 => ?_)
  · replace hc3 := nm_ hc3
    refine awp_skip ?_
    refine awp_seq ?_
    refine awp_block ?_
    refine awp_seq ?_
    obtain ⟨x, hx⟩ := get_some (l := U) (k := k) (by omega)
    have hxm := List.mem_of_getElem? hx
    have hxs := hUs x hxm
    have hsn := fm_snoc (f := memK) hx
    have hxt := hUt x hxm
    have hk1 := (hks x (hsub x hxm)).1
    have hk2 := (hks x (hsub x hxm)).2
    have hle : ((U.take k).filterMap memK).length ≤ U.length := Nat.le_trans (List.length_filterMap_le ..) (by rw [List.length_take]; omega)
    have R := hx
    refine awp_region (by kernel_rfl) ?_
    iterate 2 (refine aL_S rfl rfl v_ ?_)
    refine aL_alloc rfl rfl rfl g_ gl_ fun o5 ho5 => ?_
    repeat (rw [none_set_iff] at ho5; obtain ⟨_, ho5⟩ := ho5)
    refine aL_store rfl rfl rfl v_ v_ h_ g_ rfl g_ c_ (by rfl) le_ v_ ?_
    refine aL_nil ?_
    skip
    have n5 := heap_none hC ho5
    have hC1 := cbp_set2 (x := .cells [.lit (.string ⟨#[]⟩), vInt 0, .lit (.string ⟨#[]⟩), .lit (.string ⟨#[]⟩)]) (y := .cells (sEnt x).cells) hC ho5
    obtain ⟨mo, hmo⟩ : ∃ mo, memK x = mo := ⟨_, rfl⟩
    have hmo' : mbrS (x.key.extract 5 x.key.size) x.value = mo := hmo
    refine awp_seq ?_
    refine awp_draw (.op 0 0 (.op 1 0 (.op 3 0 (.op 4 0 (.op 5 0 (.alt 2 1 (.alt 6 1 (.op 7 0 (.op 8 0 (.op 9 0 (.op 10 1 (.op 11 2 (.op 12 0 .nil)))))) (.op 10 1 (.op 6 1 (.op 7 0 (.op 8 0 (.op 9 0 (.op 11 2 (.op 12 0 .nil)))))))) (.op 10 1 (.op 2 1 (.op 6 1 (.op 7 0 (.op 8 0 (.op 9 0 (.op 11 2 (.op 12 0 .nil)))))))))))))) Tryz.mixed (by kernel_rfl) ?_
    iterate 5 (refine dR_S o_ (by rfl) (by rfl) v_ ?_)
    refine dR_alt ?_ ?_
    · refine dR_X o_ (by rfl) (by rfl) (AOp_use (by rfl) (by rfl) (.inr ⟨by rfl, by rfl, by rfl⟩) g_ va_ (trim_c) ?_); rintro _ _ ⟨rfl, rfl⟩; refine ⟨sub_, ?_⟩
      rw [hxt]
      refine dR_alt ?_ ?_
      · refine dR_X o_ (by rfl) (by rfl) (AOp_use (by rfl) (by rfl) (.inr ⟨by rfl, by rfl, by rfl⟩) g_ va_ (member_c (by simp only [ByteArray.size_extract]; omega) (by omega)) ?_); rintro _ _ ⟨rfl, rfl⟩; refine ⟨sub_, ?_⟩
        rw [hmo']
        iterate 3 (refine dR_S o_ (by rfl) (by rfl) v_ ?_)
        refine dR_alloc o_ (by rfl) (by rfl) (by rfl) g_ gl_ sub_ fun o6 ho6 => ?_
        repeat (rw [none_set_iff] at ho6; obtain ⟨_, ho6⟩ := ho6)
        refine dR_store o_ (by rfl) (by rfl) (by rfl) v_ v_ h_ g_ rfl g_ c_ (by rfl) le_ v_ ?_
        (refine dR_S o_ (by rfl) (by rfl) v_ ?_)
        refine dR_nil ?_
        skip
        have h6 : ((τ.set o5 (.cells [.lit (.string ⟨#[]⟩), vInt 0, .lit (.string ⟨#[]⟩), .lit (.string ⟨#[]⟩)])).set o5 (.cells (sEnt x).cells)).heap o6 = none := by rw [Store.set_ne _ _ (by assumption), Store.set_ne _ _ (by assumption)]; exact ho6
        have n6 := heap_none hC1 h6
        have hC2 := cbp_set2 (x := .cells (sMbr zeroM).cells) (y := .cells (sMbr (mo.getD zeroM)).cells) hC1 h6
        refine awp_seq ?_
        refine awp_region (by kernel_rfl) ?_
        (refine aL_S rfl rfl v_ ?_)
        refine aL_nil ?_
        refine awp_cond v_ (fun hc6 => ?_) (fun hc6 => ?_)
        · replace hc6 := nm_ hc6
          obtain ⟨m, rfl⟩ := Option.isSome_iff_exists.1 hc6
          have hcov : (U.take (k + 1)).filterMap memK = (U.take k).filterMap memK ++ [m] := by rw [hsn, hmo]; rfl
          refine awp_region (by kernel_rfl) ?_
          iterate 2 (refine aL_S rfl rfl v_ ?_)
          refine aL_buildSlice rfl rfl rfl g_ g_ rfl rfl h_ c2_ (by decide) ?_
          refine aL_X rfl rfl (AOp_appendC rfl g_ g_ hC2 va_ (szMbr _) va_ c_ (by simp; omega) fun a' σ' hC3 => ?_)
          rw [show ((U.take k).filterMap memK).map sMbr ++ [sMbr ((some m).getD zeroM)] = ((U.take k).filterMap memK ++ [m]).map sMbr from by simp] at hC3
          obtain ⟨τ1, hC4, hs1⟩ := cbp_drop hC3 n6
          obtain ⟨τ2, hC5, hs2⟩ := cbp_drop hC4 n5
          (refine aL_S rfl rfl v_ ?_)
          refine aL_nil ?_
          refine awp_region (by kernel_rfl) ?_
          iterate 2 (refine aL_S rfl rfl v_ ?_)
          refine aL_nil ?_
          refine aNext (ι := Store × AVal × Nat) (i := ⟨τ, g, k⟩) (τ2, a', k + 1) ?_ ?_ ?_ ?_
          · show U.length - (k + 1) < U.length - k; omega
          · exact ⟨by show k + 1 ≤ U.length; omega, by rw [hcov]; exact hC5⟩
          · exact cv_
          · exact (hs2.trans hs1).wk
        · replace hc6 := nm_ hc6
          obtain rfl : mo = none := by simpa using hc6
          have hcov : (U.take (k + 1)).filterMap memK = (U.take k).filterMap memK := by rw [hsn, hmo]; simp
          refine awp_skip ?_
          refine awp_region (by kernel_rfl) ?_
          iterate 2 (refine aL_S rfl rfl v_ ?_)
          refine aL_nil ?_
          refine aNext (ι := Store × AVal × Nat) (i := ⟨τ, g, k⟩) (τ, g, k + 1) ?_ ?_ ?_ ?_
          · show U.length - (k + 1) < U.length - k; omega
          · exact ⟨by show k + 1 ≤ U.length; omega, by rw [hcov]; exact hC⟩
          · exact cv_
          · exact sub_
      refine dR_alloc o_ (by rfl) (by rfl) (by rfl) g_ gl_ sub_ fun o6 ho6 => ?_
      repeat (rw [none_set_iff] at ho6; obtain ⟨_, ho6⟩ := ho6)
      refine dR_X o_ (by rfl) (by rfl) (AOp_use (by rfl) (by rfl) (.inr ⟨by rfl, by rfl, by rfl⟩) g_ va_ (member_c (by simp only [ByteArray.size_extract]; omega) (by omega)) ?_); rintro _ _ ⟨rfl, rfl⟩; refine ⟨sub_, ?_⟩
      rw [hmo']
      iterate 3 (refine dR_S o_ (by rfl) (by rfl) v_ ?_)
      refine dR_store o_ (by rfl) (by rfl) (by rfl) v_ v_ h_ g_ rfl g_ c_ (by rfl) le_ v_ ?_
      (refine dR_S o_ (by rfl) (by rfl) v_ ?_)
      refine dR_nil ?_
      skip
      have h6 : ((τ.set o5 (.cells [.lit (.string ⟨#[]⟩), vInt 0, .lit (.string ⟨#[]⟩), .lit (.string ⟨#[]⟩)])).set o5 (.cells (sEnt x).cells)).heap o6 = none := by rw [Store.set_ne _ _ (by assumption), Store.set_ne _ _ (by assumption)]; exact ho6
      have n6 := heap_none hC1 h6
      have hC2 := cbp_set2 (x := .cells (sMbr zeroM).cells) (y := .cells (sMbr (mo.getD zeroM)).cells) hC1 h6
      refine awp_seq ?_
      refine awp_region (by kernel_rfl) ?_
      (refine aL_S rfl rfl v_ ?_)
      refine aL_nil ?_
      refine awp_cond v_ (fun hc6 => ?_) (fun hc6 => ?_)
      · replace hc6 := nm_ hc6
        obtain ⟨m, rfl⟩ := Option.isSome_iff_exists.1 hc6
        have hcov : (U.take (k + 1)).filterMap memK = (U.take k).filterMap memK ++ [m] := by rw [hsn, hmo]; rfl
        refine awp_region (by kernel_rfl) ?_
        iterate 2 (refine aL_S rfl rfl v_ ?_)
        refine aL_buildSlice rfl rfl rfl g_ g_ rfl rfl h_ c2_ (by decide) ?_
        refine aL_X rfl rfl (AOp_appendC rfl g_ g_ hC2 va_ (szMbr _) va_ c_ (by simp; omega) fun a' σ' hC3 => ?_)
        rw [show ((U.take k).filterMap memK).map sMbr ++ [sMbr ((some m).getD zeroM)] = ((U.take k).filterMap memK ++ [m]).map sMbr from by simp] at hC3
        obtain ⟨τ1, hC4, hs1⟩ := cbp_drop hC3 n6
        obtain ⟨τ2, hC5, hs2⟩ := cbp_drop hC4 n5
        (refine aL_S rfl rfl v_ ?_)
        refine aL_nil ?_
        refine awp_region (by kernel_rfl) ?_
        iterate 2 (refine aL_S rfl rfl v_ ?_)
        refine aL_nil ?_
        refine aNext (ι := Store × AVal × Nat) (i := ⟨τ, g, k⟩) (τ2, a', k + 1) ?_ ?_ ?_ ?_
        · show U.length - (k + 1) < U.length - k; omega
        · exact ⟨by show k + 1 ≤ U.length; omega, by rw [hcov]; exact hC5⟩
        · exact cv_
        · exact (hs2.trans hs1).wk
      · replace hc6 := nm_ hc6
        obtain rfl : mo = none := by simpa using hc6
        have hcov : (U.take (k + 1)).filterMap memK = (U.take k).filterMap memK := by rw [hsn, hmo]; simp
        refine awp_skip ?_
        refine awp_region (by kernel_rfl) ?_
        iterate 2 (refine aL_S rfl rfl v_ ?_)
        refine aL_nil ?_
        refine aNext (ι := Store × AVal × Nat) (i := ⟨τ, g, k⟩) (τ, g, k + 1) ?_ ?_ ?_ ?_
        · show U.length - (k + 1) < U.length - k; omega
        · exact ⟨by show k + 1 ≤ U.length; omega, by rw [hcov]; exact hC⟩
        · exact cv_
        · exact sub_
    refine dR_alloc o_ (by rfl) (by rfl) (by rfl) g_ gl_ sub_ fun o6 ho6 => ?_
    repeat (rw [none_set_iff] at ho6; obtain ⟨_, ho6⟩ := ho6)
    refine dR_X o_ (by rfl) (by rfl) (AOp_use (by rfl) (by rfl) (.inr ⟨by rfl, by rfl, by rfl⟩) g_ va_ (trim_c) ?_); rintro _ _ ⟨rfl, rfl⟩; refine ⟨sub_, ?_⟩
    rw [hxt]
    refine dR_X o_ (by rfl) (by rfl) (AOp_use (by rfl) (by rfl) (.inr ⟨by rfl, by rfl, by rfl⟩) g_ va_ (member_c (by simp only [ByteArray.size_extract]; omega) (by omega)) ?_); rintro _ _ ⟨rfl, rfl⟩; refine ⟨sub_, ?_⟩
    rw [hmo']
    iterate 3 (refine dR_S o_ (by rfl) (by rfl) v_ ?_)
    refine dR_store o_ (by rfl) (by rfl) (by rfl) v_ v_ h_ g_ rfl g_ c_ (by rfl) le_ v_ ?_
    (refine dR_S o_ (by rfl) (by rfl) v_ ?_)
    refine dR_nil ?_
    skip
    have h6 : ((τ.set o5 (.cells [.lit (.string ⟨#[]⟩), vInt 0, .lit (.string ⟨#[]⟩), .lit (.string ⟨#[]⟩)])).set o5 (.cells (sEnt x).cells)).heap o6 = none := by rw [Store.set_ne _ _ (by assumption), Store.set_ne _ _ (by assumption)]; exact ho6
    have n6 := heap_none hC1 h6
    have hC2 := cbp_set2 (x := .cells (sMbr zeroM).cells) (y := .cells (sMbr (mo.getD zeroM)).cells) hC1 h6
    refine awp_seq ?_
    refine awp_region (by kernel_rfl) ?_
    (refine aL_S rfl rfl v_ ?_)
    refine aL_nil ?_
    refine awp_cond v_ (fun hc6 => ?_) (fun hc6 => ?_)
    · replace hc6 := nm_ hc6
      obtain ⟨m, rfl⟩ := Option.isSome_iff_exists.1 hc6
      have hcov : (U.take (k + 1)).filterMap memK = (U.take k).filterMap memK ++ [m] := by rw [hsn, hmo]; rfl
      refine awp_region (by kernel_rfl) ?_
      iterate 2 (refine aL_S rfl rfl v_ ?_)
      refine aL_buildSlice rfl rfl rfl g_ g_ rfl rfl h_ c2_ (by decide) ?_
      refine aL_X rfl rfl (AOp_appendC rfl g_ g_ hC2 va_ (szMbr _) va_ c_ (by simp; omega) fun a' σ' hC3 => ?_)
      rw [show ((U.take k).filterMap memK).map sMbr ++ [sMbr ((some m).getD zeroM)] = ((U.take k).filterMap memK ++ [m]).map sMbr from by simp] at hC3
      obtain ⟨τ1, hC4, hs1⟩ := cbp_drop hC3 n6
      obtain ⟨τ2, hC5, hs2⟩ := cbp_drop hC4 n5
      (refine aL_S rfl rfl v_ ?_)
      refine aL_nil ?_
      refine awp_region (by kernel_rfl) ?_
      iterate 2 (refine aL_S rfl rfl v_ ?_)
      refine aL_nil ?_
      refine aNext (ι := Store × AVal × Nat) (i := ⟨τ, g, k⟩) (τ2, a', k + 1) ?_ ?_ ?_ ?_
      · show U.length - (k + 1) < U.length - k; omega
      · exact ⟨by show k + 1 ≤ U.length; omega, by rw [hcov]; exact hC5⟩
      · exact cv_
      · exact (hs2.trans hs1).wk
    · replace hc6 := nm_ hc6
      obtain rfl : mo = none := by simpa using hc6
      have hcov : (U.take (k + 1)).filterMap memK = (U.take k).filterMap memK := by rw [hsn, hmo]; simp
      refine awp_skip ?_
      refine awp_region (by kernel_rfl) ?_
      iterate 2 (refine aL_S rfl rfl v_ ?_)
      refine aL_nil ?_
      refine aNext (ι := Store × AVal × Nat) (i := ⟨τ, g, k⟩) (τ, g, k + 1) ?_ ?_ ?_ ?_
      · show U.length - (k + 1) < U.length - k; omega
      · exact ⟨by show k + 1 ≤ U.length; omega, by rw [hcov]; exact hC⟩
      · exact cv_
      · exact sub_
  · replace hc3 := nm_ hc3
    refine awp_exit ?_
    refine aThen_exit ?_
    refine aThen_exit ?_
    refine aBlock_hit ?_
    refine awp_seq ?_
    obtain rfl : k = U.length := by omega
    rw [List.take_length] at hC
    refine awp_region (by kernel_rfl) ?_
    iterate 2 (refine aL_S rfl rfl v_ ?_)
    refine aL_nil ?_
    refine awp_ret ?_
    refine aEnd_ret v_ (Store.Wk.refl _) ?_
    exact ⟨_, hC, .refl _⟩
theorem members_c {l : List Ent} {t : Bool} {σ : Store} (hl : l.length ≤ 1000000) (hs : ∀ x ∈ l, EntSm x) (hks : ∀ x ∈ l, x.key.size ≤ 400000 ∧ x.value.size ≤ 400000) : ACalls Tryz.prog 102 [.sl 4 (l.map sEnt) t] σ fun v σ' => v = .sl 4 ((memsS l).map sMbr) false ∧ σ = σ' := frozenS (membersC hl hs hks) (szMbr _)
end Go.Proofs.YtbomkkjhafdhiaaGreatDoor
end

section
set_option linter.all false
set_option maxRecDepth 100000
namespace Go.Proofs.YtbomkkjhafdhiaaGreatDoor
open Go.Ab
def ringK (k : Nat) : ByteArray := pathS [bsRing, B (Lib.itoa (k : Int))]
def ownK (l : List Ent) (k : Nat) : ByteArray := if nameOk (getS l (ringK k)).value = true then (getS l (ringK k)).value else ⟨#[]⟩
def ownersS (l : List Ent) (n : Nat) : List ByteArray := (List.range n).map (ownK l)
theorem itoa_sz {k : Nat} (hk : k ≤ 1000000) : (Lib.itoa (k : Int)).length ≤ 20 := (itoa_len20 (by omega) (by omega)).2
theorem ringKey_c {k : Nat} {σ : Store} (hk : k ≤ 1000000) : ACalls Tryz.prog 104 [vInt k] σ fun v σ' => v = vStr (ringK k) ∧ σ = σ' := by
  have hi := itoa_sz hk
  refine ACalls_of Tryz.func104 rfl Tryz.ntmps104 (congrArg Array.toList Tryz.results104) (by simp only [List.length_cons, List.length_nil]; decide) ?_; simp only [envOf_cons, envOf_nil, Nat.reduceAdd]
  refine awp_seq ?_
  refine awp_region (by kernel_rfl) ?_
  (refine aL_S rfl rfl v_ ?_)
  refine aL_nil ?_
  refine awp_seq ?_
  refine awp_region (by kernel_rfl) ?_
  (refine aL_S rfl rfl v_ ?_)
  refine aL_X rfl rfl (AOp_use rfl rfl (.inr ⟨rfl, rfl, rfl⟩) g_ va_ (dec_c (by omega) (by omega)) ?_); rintro _ _ ⟨rfl, rfl⟩
  refine aL_buildSlice rfl rfl rfl g_ g_ rfl rfl h_ c2_ (by decide) ?_
  refine aL_X rfl rfl (AOp_use rfl rfl (.inr ⟨rfl, rfl, rfl⟩) g_ va_ (path_c (l := [bsRing, B (Lib.itoa (k : Int))]) (by simp) (by simp [Lb_length, B_size, show (Lb bsRing).length = 4 from rfl]; omega)) ?_); rintro _ _ ⟨rfl, rfl⟩
  (refine aL_S rfl rfl v_ ?_)
  refine aL_nil ?_
  refine awp_ret ?_
  refine aEnd_ret (σ' := σ) v_ sub_ ?_
  exact ⟨rfl, rfl⟩
theorem ringMay_c {n : Int} {σ : Store} : ACalls Tryz.prog 133 [vInt n] σ fun v σ' => v = vB (decide (1 ≤ n) && decide (n ≤ 4096)) ∧ σ = σ' := by
  refine ACalls_of Tryz.func133 rfl Tryz.ntmps133 (congrArg Array.toList Tryz.results133) (by simp only [List.length_cons, List.length_nil]; decide) ?_; simp only [envOf_cons, envOf_nil, Nat.reduceAdd]
  refine awp_seq ?_
  refine awp_region (by kernel_rfl) ?_
  (refine aL_S rfl rfl v_ ?_)
  refine aL_nil ?_
  refine awp_seq ?_
  refine awp_region (by kernel_rfl) ?_
  iterate 3 (refine aL_S rfl rfl v_ ?_)
  refine aL_GT rfl rfl v_ rfl vg_ ?_
  refine aL_GT rfl rfl v_ rfl vg_ ?_
  iterate 2 (refine aL_S rfl rfl v_ ?_)
  refine aL_nil ?_
  refine awp_ret ?_
  refine aEnd_ret (σ' := σ) v_ sub_ ?_
  exact ⟨rfl, rfl⟩
theorem own_keep {l : List Ent} {n k : Nat} (hk : k < n) (h : nameOk (getS l (ringK k)).value = false) : ((List.range (k + 1)).map (ownK l)).map vStr ++ List.replicate (n - (k + 1)) (vStr ⟨#[]⟩) = ((List.range k).map (ownK l)).map vStr ++ List.replicate (n - k) (vStr ⟨#[]⟩) := by
  have e : n - k = (n - (k + 1)) + 1 := by omega
  rw [e, List.replicate_succ, List.range_succ, List.map_append, List.map_append, List.append_assoc]
  simp [ownK, h]
theorem own_put {l : List Ent} {n k : Nat} (hk : k < n) (h : nameOk (getS l (ringK k)).value = true) : aput (((List.range k).map (ownK l)).map vStr ++ List.replicate (n - k) (vStr ⟨#[]⟩)) k [vStr (getS l (ringK k)).value] = ((List.range (k + 1)).map (ownK l)).map vStr ++ List.replicate (n - (k + 1)) (vStr ⟨#[]⟩) := by
  have hL := laid_set (done := (List.range k).map (ownK l)) (N := n) (x := (getS l (ringK k)).value) (by simp; exact hk)
  simp only [List.length_map, List.length_range, List.length_append, List.length_singleton] at hL
  have e : ownK l k = (getS l (ringK k)).value := by unfold ownK; rw [if_pos h]
  rw [hL, ← e]
  simp [List.range_succ]
theorem ownersM {l : List Ent} {t : Bool} {n : Nat} {σ : Store} (h1 : 1 ≤ n) (hn : n ≤ 4096) (hl : l.length ≤ 1000000) (hs : ∀ x ∈ l, EntSm x) : ACalls Tryz.prog 103 [.sl 4 (l.map sEnt) t, vInt n] σ fun v σ' => ∃ o, σ.heap o = none ∧ v = .msl o 1 0 n ∧ σ' = σ.set o (.cells ((ownersS l n).map vStr)) := by
  refine ACalls_of Tryz.func103 rfl Tryz.ntmps103 (congrArg Array.toList Tryz.results103) (by simp only [List.length_cons, List.length_nil]; decide) ?_; simp only [envOf_cons, envOf_nil, Nat.reduceAdd]
  refine awp_seq ?_
  refine awp_region (by kernel_rfl) ?_
  (refine aL_S rfl rfl v_ ?_)
  refine aL_nil ?_
  refine awp_seq ?_
  refine awp_seq ?_
  refine awp_region (by kernel_rfl) ?_
  (refine aL_S rfl rfl v_ ?_)
  refine aL_X rfl rfl (AOp_use rfl rfl (.inr ⟨rfl, rfl, rfl⟩) g_ va_ (ringMay_c) ?_); rintro _ _ ⟨rfl, rfl⟩
  (refine aL_S rfl rfl v_ ?_)
  refine aL_nil ?_
  refine awp_cond v_ (fun hc1 => ?_) (fun hc1 => ?_)
  · replace hc1 := nm_ hc1
    omega
  · replace hc1 := nm_ hc1
    refine awp_skip ?_
    refine awp_seq ?_
    refine awp_region (by kernel_rfl) ?_
    (refine aL_S rfl rfl v_ ?_)
    refine aL_X rfl rfl (AOp_makeSlice rfl g_ g_ g_ rfl v_ v_ (by omega) fun oa hoa => ?_)
    (refine aL_S rfl rfl v_ ?_)
    refine aL_nil ?_
    refine awp_seq ?_
    refine awp_seq ?_
    refine awp_region (by kernel_rfl) ?_
    iterate 3 (refine aL_S rfl rfl v_ ?_)
    refine aL_nil ?_
    refine awp_block ?_
    refine awp_loop_env (ι := Nat) (fun k => n - k) (fun k => k ≤ n) (fun k => [(0, .sl 4 (l.map sEnt) t), (5, .msl oa 1 0 n), (14, vInt n), (15, vInt k)]) (fun k => (σ.set oa (.cells (((List.range k).map (ownK l)).map vStr ++ List.replicate (n - k) (vStr ⟨#[]⟩))))) 0 ?_ ?_ ?_ ?_
    · exact Nat.zero_le _
    · exact cv_
    · exact Store.Wk.refl _
    rintro k hk
    simp only [envL_cons, envL_nil]
    refine awp_seq ?_
    refine awp_region (by kernel_rfl) ?_
    (refine aL_S rfl rfl v_ ?_)
    refine aL_nil ?_
    refine awp_seq ?_
    refine awp_cond v_ (fun hc5 => ?_) (fun hc5 => ?_)
    · replace hc5 := nm_ hc5
      refine awp_skip ?_
      refine awp_seq ?_
      refine awp_block ?_
      refine awp_seq ?_
      refine awp_region (by kernel_rfl) ?_
      iterate 2 (refine aL_S rfl rfl v_ ?_)
      refine aL_nil ?_
      refine awp_seq ?_
      have hkn : k < n := by omega
      have hvz := (getS_sm hs (ringK k)).2
      refine awp_region (by kernel_rfl) ?_
      iterate 2 (refine aL_S rfl rfl v_ ?_)
      refine aL_X rfl rfl (AOp_use rfl rfl (.inr ⟨rfl, rfl, rfl⟩) g_ va_ (ringKey_c (by omega)) ?_); rintro _ _ ⟨rfl, rfl⟩
      refine aL_X rfl rfl (AOp_use rfl rfl (.inr ⟨rfl, rfl, rfl⟩) g_ va_ (get_c hl) ?_); rintro _ _ ⟨rfl, rfl⟩
      iterate 2 (refine aL_S rfl rfl v_ ?_)
      refine aL_nil ?_
      refine awp_seq ?_
      refine awp_region (by kernel_rfl) ?_
      (refine aL_S rfl rfl v_ ?_)
      refine aL_X rfl rfl (AOp_use rfl rfl (.inr ⟨rfl, rfl, rfl⟩) g_ va_ (nameIs_c (by omega)) ?_); rintro _ _ ⟨rfl, rfl⟩
      refine aL_nil ?_
      refine awp_cond v_ (fun hc8 => ?_) (fun hc8 => ?_)
      · replace hc8 := nm_ hc8
        have hput := own_put hkn hc8
        refine awp_region (by kernel_rfl) ?_
        iterate 4 (refine aL_S rfl rfl v_ ?_)
        refine aL_store rfl rfl rfl v_ v_ h_ g_ rfl g_ c_ (by rfl) le_ (by first | exact hput | (rw [Nat.mul_one]; exact hput) | (rw [Nat.zero_add]; exact hput) | (rw [Nat.mul_one, Nat.zero_add]; exact hput)) ?_
        refine aL_nil ?_
        refine awp_region (by kernel_rfl) ?_
        iterate 2 (refine aL_S rfl rfl v_ ?_)
        refine aL_nil ?_
        refine aNext (ι := Nat) (i := k) (k + 1) ?_ ?_ ?_ ?_
        · omega
        · exact (by omega)
        · exact cv_
        · (try dsimp only); rw [Store.set_set]; exact Store.Wk.refl _
      · replace hc8 := nm_ hc8
        have hkp := own_keep hkn (by simpa using hc8)
        refine awp_skip ?_
        refine awp_region (by kernel_rfl) ?_
        iterate 2 (refine aL_S rfl rfl v_ ?_)
        refine aL_nil ?_
        refine aNext (ι := Nat) (i := k) (k + 1) ?_ ?_ ?_ ?_
        · omega
        · exact (by omega)
        · exact cv_
        · rw [hkp]; exact Store.Wk.refl _
    · replace hc5 := nm_ hc5
      refine awp_exit ?_
      refine aThen_exit ?_
      refine aThen_exit ?_
      refine aBlock_hit ?_
      refine awp_seq ?_
      obtain rfl : k = n := by omega
      refine awp_region (by kernel_rfl) ?_
      iterate 2 (refine aL_S rfl rfl v_ ?_)
      refine aL_nil ?_
      refine awp_ret ?_
      refine aEnd_ret v_ (Store.Wk.refl _) ?_
      exact ⟨oa, hoa, rfl, by simp [ownersS]⟩
theorem owners_c {l : List Ent} {t : Bool} {n : Nat} {σ : Store} (h1 : 1 ≤ n) (hn : n ≤ 4096) (hl : l.length ≤ 1000000) (hs : ∀ x ∈ l, EntSm x) : ACalls Tryz.prog 103 [.sl 4 (l.map sEnt) t, vInt n] σ fun v σ' => v = .sl 1 ((ownersS l n).map vStr) false ∧ σ = σ' := by
  refine (ownersM h1 hn hl hs).aft ?_
  rintro κ a τ cv hI hr ⟨o, ho, rfl, rfl⟩
  have hlen : (ownersS l n).length = n := by simp [ownersS]
  obtain ⟨κ', h1, h2, h3, h4⟩ := Ab.freeze hI hr (Store.set_get ..) (l := (ownersS l n).map vStr) (by rw [Nat.mul_one, List.take_of_length_le (by simp [hlen]), flat_strs]) (by simp [hlen]) fun x hx => by
    obtain ⟨z, _, rfl⟩ := List.mem_map.1 hx
    rfl
  rw [Store.set_del ho] at h3
  exact ⟨κ', _, _, h1, h2, h3, h4, rfl, rfl⟩
end Go.Proofs.YtbomkkjhafdhiaaGreatDoor
end

section
set_option linter.all false
set_option maxRecDepth 100000
namespace Go.Ab
structure Prp where
  n : Int
  r : Int
  w : Int
  pr : Int
  pw : Int
  sev : Bool
  mis : Bool
  bas : Bool
@[reducible] def sPrp (p : Prp) : AVal := .agg [vInt p.n, vInt p.r, vInt p.w, vInt p.pr, vInt p.pw, .lit (.bool p.sev), .lit (.bool p.mis), .lit (.bool p.bas)]
end Go.Ab
namespace Go.Proofs.YtbomkkjhafdhiaaGreatDoor
open Go.Ab
abbrev fdN : ByteArray := ⟨#[110]⟩
abbrev fdR : ByteArray := ⟨#[114]⟩
abbrev fdW : ByteArray := ⟨#[119]⟩
abbrev fdPr : ByteArray := ⟨#[112, 114]⟩
abbrev fdPw : ByteArray := ⟨#[112, 119]⟩
abbrev fdSev : ByteArray := ⟨#[115, 101, 118, 101, 114, 97, 108]⟩
abbrev fdMis : ByteArray := ⟨#[109, 105, 115, 115, 105, 110, 103]⟩
abbrev fdBas : ByteArray := ⟨#[98, 97, 115, 105, 99]⟩
def bdP (f : ByteArray) : Int × Int × Bool := if f = fdN ∨ f = fdR ∨ f = fdW then (1, 16, true) else if f = fdPr ∨ f = fdPw then (0, 16, true) else if f = fdSev ∨ f = fdMis ∨ f = fdBas then (0, 1, true) else (0, 0, false)
def mayP (f : ByteArray) (n : Int) : Bool := (bdP f).2.2 && decide ((bdP f).1 ≤ n) && decide (n ≤ (bdP f).2.1)
def prpK (a b f : ByteArray) : ByteArray := pathS [bsProp, a, b, f]
def fldS (l : List Ent) (a b f : ByteArray) (o : Int) : Int := match numS (getS l (prpK a b f)).value with | some n => if mayP f n = true then n else o | none => o
def minF (l : List Ent) (a b f : ByteArray) (o : Int) : Int := min (fldS l a b fdN 3) (fldS l a b f o)
def prpS (l : List Ent) (a b : ByteArray) : Prp := ⟨fldS l a b fdN 3, minF l a b fdR 2, minF l a b fdW 2, minF l a b fdPr 0, minF l a b fdPw 0, decide (fldS l a b fdSev 1 = 1), decide (fldS l a b fdMis 1 = 1), decide (fldS l a b fdBas 0 = 1)⟩
theorem bdP_c {f : ByteArray} {σ : Store} : ACalls Tryz.prog 160 [vStr f] σ fun v σ' => v = .tup [vInt (bdP f).1, vInt (bdP f).2.1, vB (bdP f).2.2] ∧ σ = σ' := by
  refine ACalls_of Tryz.func160 rfl Tryz.ntmps160 (congrArg Array.toList Tryz.results160) (by simp only [List.length_cons, List.length_nil]; decide) ?_; simp only [envOf_cons, envOf_nil, Nat.reduceAdd]
  refine awp_seq ?_
  refine awp_region (by kernel_rfl) ?_
  iterate 3 (refine aL_S rfl rfl v_ ?_)
  refine aL_nil ?_
  refine awp_seq ?_
  refine awp_seq ?_
  refine awp_region (by kernel_rfl) ?_
  (refine aL_S rfl rfl v_ ?_)
  refine aL_nil ?_
  refine awp_block ?_
  refine awp_seq_mid (ι := Bool) (fun b => b = decide (f = fdN ∨ f = fdR ∨ f = fdW)) (fun b => [(5, vStr f), (6, vB b)]) (fun b => σ) ?_ ?_
  · refine awp_seq ?_
    refine awp_region (by kernel_rfl) ?_
    iterate 2 (refine aL_S rfl rfl v_ ?_)
    refine aL_nil ?_
    refine awp_cond v_ (fun hc2 => ?_) (fun hc2 => ?_)
    · replace hc2 := nm_ hc2
      refine awp_skip ?_
      refine ⟨decide (f = fdN), ?_, ?_, ?_⟩
      · simp [show f = fdN from hc2]
      · exact cv_
      · exact sub_
    · replace hc2 := nm_ hc2
      refine awp_seq ?_
      refine awp_region (by kernel_rfl) ?_
      iterate 2 (refine aL_S rfl rfl v_ ?_)
      refine aL_nil ?_
      refine awp_cond v_ (fun hc3 => ?_) (fun hc3 => ?_)
      · replace hc3 := nm_ hc3
        refine awp_skip ?_
        refine ⟨decide (f = fdR), ?_, ?_, ?_⟩
        · simp [show f = fdR from hc3]
        · exact cv_
        · exact sub_
      · replace hc3 := nm_ hc3
        refine awp_region (by kernel_rfl) ?_
        iterate 2 (refine aL_S rfl rfl v_ ?_)
        refine aL_nil ?_
        refine ⟨decide (f = fdW), ?_, ?_, ?_⟩
        · simp [show ¬ f = fdN from hc2, show ¬ f = fdR from hc3]
        · exact cv_
        · exact sub_
  · rintro b rfl
    simp only [envL_cons, envL_nil]
    refine awp_cond v_ (fun hc4 => ?_) (fun hc4 => ?_)
    · replace hc4 := nm_ hc4
      refine awp_seq ?_
      refine awp_region (by kernel_rfl) ?_
      iterate 3 (refine aL_S rfl rfl v_ ?_)
      refine aL_nil ?_
      refine awp_ret ?_
      refine aEnd_ret (σ' := σ) v_ sub_ ?_
      exact ⟨by rw [bdP, if_pos hc4], rfl⟩
    · replace hc4 := nm_ hc4
      refine awp_seq_mid (ι := Bool) (fun b => b = decide (f = fdPr ∨ f = fdPw)) (fun b => [(5, vStr f), (10, vB b)]) (fun b => σ) ?_ ?_
      · refine awp_seq ?_
        refine awp_region (by kernel_rfl) ?_
        iterate 2 (refine aL_S rfl rfl v_ ?_)
        refine aL_nil ?_
        refine awp_cond v_ (fun hc6 => ?_) (fun hc6 => ?_)
        · replace hc6 := nm_ hc6
          refine awp_skip ?_
          refine ⟨decide (f = fdPr), ?_, ?_, ?_⟩
          · simp [show f = fdPr from hc6]
          · exact cv_
          · exact sub_
        · replace hc6 := nm_ hc6
          refine awp_region (by kernel_rfl) ?_
          iterate 2 (refine aL_S rfl rfl v_ ?_)
          refine aL_nil ?_
          refine ⟨decide (f = fdPw), ?_, ?_, ?_⟩
          · simp [show ¬ f = fdPr from hc6]
          · exact cv_
          · exact sub_
      · rintro b rfl
        simp only [envL_cons, envL_nil]
        refine awp_cond v_ (fun hc7 => ?_) (fun hc7 => ?_)
        · replace hc7 := nm_ hc7
          refine awp_seq ?_
          refine awp_region (by kernel_rfl) ?_
          iterate 3 (refine aL_S rfl rfl v_ ?_)
          refine aL_nil ?_
          refine awp_ret ?_
          refine aEnd_ret (σ' := σ) v_ sub_ ?_
          exact ⟨by rw [bdP, if_neg hc4, if_pos hc7], rfl⟩
        · replace hc7 := nm_ hc7
          refine awp_seq_mid (ι := Bool) (fun b => b = decide (f = fdSev ∨ f = fdMis ∨ f = fdBas)) (fun b => [(5, vStr f), (13, vB b)]) (fun b => σ) ?_ ?_
          · refine awp_seq ?_
            refine awp_region (by kernel_rfl) ?_
            iterate 2 (refine aL_S rfl rfl v_ ?_)
            refine aL_nil ?_
            refine awp_cond v_ (fun hc9 => ?_) (fun hc9 => ?_)
            · replace hc9 := nm_ hc9
              refine awp_skip ?_
              refine ⟨decide (f = fdSev), ?_, ?_, ?_⟩
              · simp [show f = fdSev from hc9]
              · exact cv_
              · exact sub_
            · replace hc9 := nm_ hc9
              refine awp_seq ?_
              refine awp_region (by kernel_rfl) ?_
              iterate 2 (refine aL_S rfl rfl v_ ?_)
              refine aL_nil ?_
              refine awp_cond v_ (fun hc10 => ?_) (fun hc10 => ?_)
              · replace hc10 := nm_ hc10
                refine awp_skip ?_
                refine ⟨decide (f = fdMis), ?_, ?_, ?_⟩
                · simp [show f = fdMis from hc10]
                · exact cv_
                · exact sub_
              · replace hc10 := nm_ hc10
                refine awp_region (by kernel_rfl) ?_
                iterate 2 (refine aL_S rfl rfl v_ ?_)
                refine aL_nil ?_
                refine ⟨decide (f = fdBas), ?_, ?_, ?_⟩
                · simp [show ¬ f = fdSev from hc9, show ¬ f = fdMis from hc10]
                · exact cv_
                · exact sub_
          · rintro b rfl
            simp only [envL_cons, envL_nil]
            refine awp_cond v_ (fun hc11 => ?_) (fun hc11 => ?_)
            · replace hc11 := nm_ hc11
              refine awp_seq ?_
              refine awp_region (by kernel_rfl) ?_
              iterate 3 (refine aL_S rfl rfl v_ ?_)
              refine aL_nil ?_
              refine awp_ret ?_
              refine aEnd_ret (σ' := σ) v_ sub_ ?_
              exact ⟨by rw [bdP, if_neg hc4, if_neg hc7, if_pos hc11], rfl⟩
            · replace hc11 := nm_ hc11
              refine awp_skip ?_
              refine awp_seq ?_
              refine awp_region (by kernel_rfl) ?_
              iterate 3 (refine aL_S rfl rfl v_ ?_)
              refine aL_nil ?_
              refine awp_ret ?_
              refine aEnd_ret (σ' := σ) v_ sub_ ?_
              exact ⟨by rw [bdP, if_neg hc4, if_neg hc7, if_neg hc11], rfl⟩
theorem mayP_c {f : ByteArray} {n : Int} {σ : Store} : ACalls Tryz.prog 137 [vStr f, vInt n] σ fun v σ' => v = vB (mayP f n) ∧ σ = σ' := by
  refine ACalls_of Tryz.func137 rfl Tryz.ntmps137 (congrArg Array.toList Tryz.results137) (by simp only [List.length_cons, List.length_nil]; decide) ?_; simp only [envOf_cons, envOf_nil, Nat.reduceAdd]
  refine awp_seq ?_
  refine awp_region (by kernel_rfl) ?_
  (refine aL_S rfl rfl v_ ?_)
  refine aL_nil ?_
  refine awp_seq ?_
  refine awp_region (by kernel_rfl) ?_
  (refine aL_S rfl rfl v_ ?_)
  refine aL_X rfl rfl (AOp_use rfl rfl (.inr ⟨rfl, rfl, rfl⟩) g_ va_ (bdP_c) ?_); rintro _ _ ⟨rfl, rfl⟩
  iterate 7 (refine aL_S rfl rfl v_ ?_)
  refine aL_nil ?_
  refine awp_seq ?_
  refine awp_region (by kernel_rfl) ?_
  iterate 2 (refine aL_S rfl rfl v_ ?_)
  refine aL_GT rfl rfl v_ rfl vg_ ?_
  refine aL_GT rfl rfl v_ rfl vg_ ?_
  refine aL_GT rfl rfl v_ rfl vg_ ?_
  iterate 2 (refine aL_S rfl rfl v_ ?_)
  refine aL_GT rfl rfl v_ rfl vg_ ?_
  refine aL_GT rfl rfl v_ rfl vg_ ?_
  refine aL_GT rfl rfl v_ rfl vg_ ?_
  iterate 2 (refine aL_S rfl rfl v_ ?_)
  refine aL_nil ?_
  refine awp_ret ?_
  refine aEnd_ret (σ' := σ) v_ sub_ ?_
  exact ⟨rfl, rfl⟩
theorem prpKey_c {a b f : ByteArray} {σ : Store} (ha : a.size ≤ 200000) (hb : b.size ≤ 200000) (hf : f.size ≤ 200000) : ACalls Tryz.prog 136 [vStr a, vStr b, vStr f] σ fun v σ' => v = vStr (prpK a b f) ∧ σ = σ' := by
  refine ACalls_of Tryz.func136 rfl Tryz.ntmps136 (congrArg Array.toList Tryz.results136) (by simp only [List.length_cons, List.length_nil]; decide) ?_; simp only [envOf_cons, envOf_nil, Nat.reduceAdd]
  refine awp_seq ?_
  refine awp_region (by kernel_rfl) ?_
  (refine aL_S rfl rfl v_ ?_)
  refine aL_nil ?_
  refine awp_seq ?_
  refine awp_region (by kernel_rfl) ?_
  iterate 3 (refine aL_S rfl rfl v_ ?_)
  refine aL_buildSlice rfl rfl rfl g_ g_ rfl rfl h_ c2_ (by decide) ?_
  refine aL_X rfl rfl (AOp_use rfl rfl (.inr ⟨rfl, rfl, rfl⟩) g_ va_ (path_c (l := [bsProp, a, b, f]) (by simp) (by simp [Lb_length, show (Lb bsProp).length = 4 from rfl]; omega)) ?_); rintro _ _ ⟨rfl, rfl⟩
  (refine aL_S rfl rfl v_ ?_)
  refine aL_nil ?_
  refine awp_ret ?_
  refine aEnd_ret (σ' := σ) v_ sub_ ?_
  exact ⟨rfl, rfl⟩
abbrev fPg (p q r : Nat) : AVal := .fn (.func 135) [] [.ref p 0, .ref q 0, .ref r 0]
theorem fld_1 {s f : ByteArray} {o : Int} (h : (numS s).isSome = false ∨ mayP f ((numS s).getD 0) = false) : (match numS s with | some n => if mayP f n = true then n else o | none => o) = o := by
  cases hn : numS s with
  | none => rfl
  | some n =>
    rw [hn] at h
    rcases h with h | h
    · cases h
    · simp only [Option.getD_some] at h; simp [h]
theorem fld_2 {s f : ByteArray} {o : Int} (h : (numS s).isSome = true ∧ mayP f ((numS s).getD 0) = true) : (match numS s with | some n => if mayP f n = true then n else o | none => o) = (numS s).getD 0 := by
  cases hn : numS s with
  | none => rw [hn] at h; exact absurd h.1 (by simp)
  | some n =>
    rw [hn] at h
    simp only [Option.getD_some] at h ⊢
    rw [if_pos h.2]
theorem pOf1_c {p q r : Nat} {l : List Ent} {t : Bool} {a b f : ByteArray} {o : Int} {σ : Store} (hp : σ.heap p = some (.cells [.sl 4 (l.map sEnt) t])) (hq : σ.heap q = some (.cells [vStr a])) (hr : σ.heap r = some (.cells [vStr b])) (hl : l.length ≤ 1000000) (hs : ∀ x ∈ l, EntSm x) (ha : a.size ≤ 200000) (hb : b.size ≤ 200000) (hf : f.size ≤ 200000) : ACalls Tryz.prog 135 [vStr f, vInt o, .ref p 0, .ref q 0, .ref r 0] σ fun v σ' => v = vInt (fldS l a b f o) ∧ σ = σ' := by
  have hv := (getS_sm hs (prpK a b f)).2
  refine ACalls_of Tryz.func135 rfl Tryz.ntmps135 (congrArg Array.toList Tryz.results135) (by simp only [List.length_cons, List.length_nil]; decide) ?_; simp only [envOf_cons, envOf_nil, Nat.reduceAdd]
  refine awp_seq ?_
  refine awp_region (by kernel_rfl) ?_
  (refine aL_S rfl rfl v_ ?_)
  refine aL_nil ?_
  refine awp_seq ?_
  have R := And.intro hp (And.intro hq hr)
  refine awp_draw (.op 0 0 (.op 1 0 (.op 2 0 (.op 3 0 (.op 4 1 (.op 5 1 (.op 6 0 (.op 7 1 (.op 8 0 (.op 9 0 (.op 10 0 (.op 11 0 (.op 12 0 .nil))))))))))))) Tryz.mixed (by kernel_rfl) ?_
  iterate 4 (refine dR_S o_ (by rfl) (by rfl) v_ ?_)
  refine dR_X o_ (by rfl) (by rfl) (AOp_use (by rfl) (by rfl) (.inr ⟨by rfl, by rfl, by rfl⟩) g_ va_ (prpKey_c ha hb hf) ?_); rintro _ _ ⟨rfl, rfl⟩; refine ⟨sub_, ?_⟩
  refine dR_X o_ (by rfl) (by rfl) (AOp_use (by rfl) (by rfl) (.inr ⟨by rfl, by rfl, by rfl⟩) g_ va_ (get_c hl) ?_); rintro _ _ ⟨rfl, rfl⟩; refine ⟨sub_, ?_⟩
  (refine dR_S o_ (by rfl) (by rfl) v_ ?_)
  refine dR_X o_ (by rfl) (by rfl) (AOp_use (by rfl) (by rfl) (.inr ⟨by rfl, by rfl, by rfl⟩) g_ va_ (num_c hv) ?_); rintro _ _ ⟨rfl, rfl⟩; refine ⟨sub_, ?_⟩
  iterate 5 (refine dR_S o_ (by rfl) (by rfl) v_ ?_)
  refine dR_nil ?_
  refine awp_seq ?_
  refine awp_seq ?_
  refine awp_region (by kernel_rfl) ?_
  iterate 3 (refine aL_S rfl rfl v_ ?_)
  refine aL_GF rfl rfl v_ rfl vg_ ?_
  refine aL_GF rfl rfl v_ rfl vg_ ?_
  refine aL_GFX rfl rfl v_ rfl (fun hb => AOp_useV (by rfl) (by rfl) (.inr ⟨by rfl, by rfl, by rfl⟩) g_ cg_ (mayP_c)) ?_
  refine aL_GF rfl rfl v_ rfl vg_ ?_
  (refine aL_S rfl rfl v_ ?_)
  refine aL_nil ?_
  refine awp_cond v_ (fun hc2 => ?_) (fun hc2 => ?_)
  · replace hc2 := nm_ hc2
    refine awp_seq ?_
    refine awp_region (by kernel_rfl) ?_
    iterate 2 (refine aL_S rfl rfl v_ ?_)
    refine aL_nil ?_
    refine awp_ret ?_
    refine aEnd_ret (σ' := σ) v_ sub_ ?_
    exact ⟨by rw [fldS, fld_1 hc2], rfl⟩
  · replace hc2 := nm_ hc2
    refine awp_skip ?_
    refine awp_seq ?_
    refine awp_region (by kernel_rfl) ?_
    iterate 2 (refine aL_S rfl rfl v_ ?_)
    refine aL_nil ?_
    refine awp_ret ?_
    refine aEnd_ret (σ' := σ) v_ sub_ ?_
    exact ⟨by rw [fldS, fld_2 hc2], rfl⟩
theorem pOf2_c {g h p q r : Nat} {l : List Ent} {t : Bool} {a b f : ByteArray} {o n : Int} {c1 c2 c3 c4 c5 c6 c7 : AVal} {σ : Store} (hg : σ.heap g = some (.cells [vInt n, c1, c2, c3, c4, c5, c6, c7])) (hh : σ.heap h = some (.cells [fPg p q r])) (hp : σ.heap p = some (.cells [.sl 4 (l.map sEnt) t])) (hq : σ.heap q = some (.cells [vStr a])) (hr : σ.heap r = some (.cells [vStr b])) (hl : l.length ≤ 1000000) (hs : ∀ x ∈ l, EntSm x) (ha : a.size ≤ 200000) (hb : b.size ≤ 200000) (hf : f.size ≤ 200000) : ACalls Tryz.prog 138 [vStr f, vInt o, .ref g 0, .ref h 0] σ fun v σ' => v = vInt (min n (fldS l a b f o)) ∧ σ = σ' := by
  refine ACalls_of Tryz.func138 rfl Tryz.ntmps138 (congrArg Array.toList Tryz.results138) (by simp only [List.length_cons, List.length_nil]; decide) ?_; simp only [envOf_cons, envOf_nil, Nat.reduceAdd]
  refine awp_seq ?_
  refine awp_region (by kernel_rfl) ?_
  (refine aL_S rfl rfl v_ ?_)
  refine aL_nil ?_
  refine awp_seq ?_
  have R := And.intro hg hh
  refine awp_draw (.op 0 0 (.op 1 0 (.op 2 0 (.op 3 0 (.op 4 0 (.op 5 1 (.op 6 0 (.op 7 0 .nil)))))))) Tryz.mixed (by kernel_rfl) ?_
  iterate 5 (refine dR_S o_ (by rfl) (by rfl) v_ ?_)
  refine dR_X o_ (by rfl) (by rfl) (AOp_use (by rfl) (by rfl) (.inl v_) g_ va_ (pOf1_c (p := p) (q := q) (r := r) hp hq hr hl hs ha hb hf) ?_); rintro _ _ ⟨rfl, rfl⟩; refine ⟨sub_, ?_⟩
  iterate 2 (refine dR_S o_ (by rfl) (by rfl) v_ ?_)
  refine dR_nil ?_
  refine awp_ret ?_
  refine aEnd_ret (σ' := σ) v_ sub_ ?_
  exact ⟨rfl, rfl⟩
set_option maxHeartbeats 4000000 in
theorem pOf_c {l : List Ent} {t : Bool} {a b : ByteArray} {σ : Store} (hl : l.length ≤ 1000000) (hs : ∀ x ∈ l, EntSm x) (ha : a.size ≤ 200000) (hb : b.size ≤ 200000) : ACalls Tryz.prog 109 [.sl 4 (l.map sEnt) t, vStr a, vStr b] σ fun v σ' => v = sPrp (prpS l a b) ∧ σ = σ' := by
  refine ACalls_of Tryz.func109 rfl Tryz.ntmps109 (congrArg Array.toList Tryz.results109) (by simp only [List.length_cons, List.length_nil]; decide) ?_; simp only [envOf_cons, envOf_nil, Nat.reduceAdd]
  refine awp_seq ?_
  refine awp_region (by kernel_rfl) ?_
  refine aL_box rfl rfl rfl v_ rfl g_ fun o3 ho3 => ?_
  repeat (rw [none_set_iff] at ho3; obtain ⟨_, ho3⟩ := ho3)
  refine aL_box rfl rfl rfl v_ rfl g_ fun o4 ho4 => ?_
  repeat (rw [none_set_iff] at ho4; obtain ⟨_, ho4⟩ := ho4)
  refine aL_box rfl rfl rfl v_ rfl g_ fun o5 ho5 => ?_
  repeat (rw [none_set_iff] at ho5; obtain ⟨_, ho5⟩ := ho5)
  refine aL_alloc rfl rfl rfl g_ gl_ fun o6 ho6 => ?_
  repeat (rw [none_set_iff] at ho6; obtain ⟨_, ho6⟩ := ho6)
  refine aL_nil ?_
  refine awp_seq ?_
  refine awp_region (by kernel_rfl) ?_
  (refine aL_S rfl rfl v_ ?_)
  refine aL_alloc rfl rfl rfl g_ gl_ fun o7 ho7 => ?_
  repeat (rw [none_set_iff] at ho7; obtain ⟨_, ho7⟩ := ho7)
  refine aL_store rfl rfl rfl v_ v_ h_ g_ rfl g_ c_ (by rfl) le_ v_ ?_
  refine aL_nil ?_
  refine awp_seq ?_
  refine awp_region (by kernel_rfl) ?_
  (refine aL_S rfl rfl v_ ?_)
  refine aL_X rfl rfl (AOp_use rfl rfl (.inl v_) g_ va_ (pOf1_c (p := o3) (q := o4) (r := o5) (f := fdN) h_ h_ h_ hl hs ha hb (by decide)) ?_); rintro _ _ ⟨rfl, rfl⟩
  (refine aL_S rfl rfl v_ ?_)
  refine aL_alloc rfl rfl rfl g_ gl_ fun o8 ho8 => ?_
  repeat (rw [none_set_iff] at ho8; obtain ⟨_, ho8⟩ := ho8)
  refine aL_store rfl rfl rfl v_ v_ h_ g_ rfl g_ c_ (by rfl) le_ v_ ?_
  refine aL_nil ?_
  refine awp_seq ?_
  refine awp_region (by kernel_rfl) ?_
  iterate 2 (refine aL_S rfl rfl v_ ?_)
  refine aL_nil ?_
  refine awp_seq ?_
  refine awp_region (by kernel_rfl) ?_
  (refine aL_S rfl rfl v_ ?_)
  refine aL_X rfl rfl (AOp_use rfl rfl (.inl v_) g_ va_ (pOf2_c (g := o8) (h := o7) (p := o3) (q := o4) (r := o5) (f := fdR) h_ h_ h_ h_ h_ hl hs ha hb (by decide)) ?_); rintro _ _ ⟨rfl, rfl⟩
  (refine aL_S rfl rfl v_ ?_)
  refine aL_X rfl rfl (AOp_use rfl rfl (.inl v_) g_ va_ (pOf2_c (g := o8) (h := o7) (p := o3) (q := o4) (r := o5) (f := fdW) h_ h_ h_ h_ h_ hl hs ha hb (by decide)) ?_); rintro _ _ ⟨rfl, rfl⟩
  (refine aL_S rfl rfl v_ ?_)
  refine aL_store rfl rfl rfl v_ v_ h_ g_ rfl g_ c_ (by rfl) le_ v_ ?_
  (refine aL_S rfl rfl v_ ?_)
  refine aL_store rfl rfl rfl v_ v_ h_ g_ rfl g_ c_ (by rfl) le_ v_ ?_
  refine aL_nil ?_
  refine awp_seq ?_
  refine awp_region (by kernel_rfl) ?_
  (refine aL_S rfl rfl v_ ?_)
  refine aL_X rfl rfl (AOp_use rfl rfl (.inl v_) g_ va_ (pOf2_c (g := o8) (h := o7) (p := o3) (q := o4) (r := o5) (f := fdPr) h_ h_ h_ h_ h_ hl hs ha hb (by decide)) ?_); rintro _ _ ⟨rfl, rfl⟩
  (refine aL_S rfl rfl v_ ?_)
  refine aL_X rfl rfl (AOp_use rfl rfl (.inl v_) g_ va_ (pOf2_c (g := o8) (h := o7) (p := o3) (q := o4) (r := o5) (f := fdPw) h_ h_ h_ h_ h_ hl hs ha hb (by decide)) ?_); rintro _ _ ⟨rfl, rfl⟩
  (refine aL_S rfl rfl v_ ?_)
  refine aL_store rfl rfl rfl v_ v_ h_ g_ rfl g_ c_ (by rfl) le_ v_ ?_
  (refine aL_S rfl rfl v_ ?_)
  refine aL_store rfl rfl rfl v_ v_ h_ g_ rfl g_ c_ (by rfl) le_ v_ ?_
  refine aL_nil ?_
  refine awp_seq ?_
  refine awp_draw (.op 0 0 (.op 3 0 (.op 6 0 (.op 1 1 (.op 2 0 (.op 9 0 (.op 4 1 (.any 5 (.op 7 1 (.any 8 (.op 10 2 (.op 11 0 (.op 12 2 (.op 13 0 (.op 14 2 .nil))))))))))))))) Tryz.mixed (by kernel_rfl) ?_
  iterate 3 (refine dR_S o_ (by rfl) (by rfl) v_ ?_)
  refine dR_X o_ (by rfl) (by rfl) (AOp_use (by rfl) (by rfl) (.inl v_) g_ va_ (pOf1_c (p := o3) (q := o4) (r := o5) (f := fdSev) h_ h_ h_ hl hs ha hb (by decide)) ?_); rintro _ _ ⟨rfl, rfl⟩; refine ⟨sub_, ?_⟩
  iterate 2 (refine dR_S o_ (by rfl) (by rfl) v_ ?_)
  refine dR_X o_ (by rfl) (by rfl) (AOp_use (by rfl) (by rfl) (.inl v_) g_ va_ (pOf1_c (p := o3) (q := o4) (r := o5) (f := fdMis) h_ h_ h_ hl hs ha hb (by decide)) ?_); rintro _ _ ⟨rfl, rfl⟩; refine ⟨sub_, ?_⟩
  refine dR_A o_ (by rfl) (by rfl) (fun _ => v_) ?_
  refine dR_X o_ (by rfl) (by rfl) (AOp_use (by rfl) (by rfl) (.inl v_) g_ va_ (pOf1_c (p := o3) (q := o4) (r := o5) (f := fdBas) h_ h_ h_ hl hs ha hb (by decide)) ?_); rintro _ _ ⟨rfl, rfl⟩; refine ⟨sub_, ?_⟩
  refine dR_A o_ (by rfl) (by rfl) (fun _ => v_) ?_
  refine dR_store o_ (by rfl) (by rfl) (by rfl) v_ v_ h_ g_ rfl g_ c_ (by rfl) le_ v_ ?_
  (refine dR_S o_ (by rfl) (by rfl) v_ ?_)
  refine dR_store o_ (by rfl) (by rfl) (by rfl) v_ v_ h_ g_ rfl g_ c_ (by rfl) le_ v_ ?_
  (refine dR_S o_ (by rfl) (by rfl) v_ ?_)
  refine dR_store o_ (by rfl) (by rfl) (by rfl) v_ v_ h_ g_ rfl g_ c_ (by rfl) le_ v_ ?_
  refine dR_nil ?_
  refine awp_seq ?_
  refine awp_region (by kernel_rfl) ?_
  (refine aL_S rfl rfl v_ ?_)
  refine aL_store rfl rfl rfl v_ v_ h_ g_ rfl g_ c_ (by rfl) le_ v_ ?_
  refine aL_nil ?_
  refine awp_ret ?_
  refine aEnd_ret (σ' := σ) v_ sub_ ?_
  exact ⟨rfl, rfl⟩
def chkP (p : Prp) : Bool := mayP fdN p.n && (mayP fdR p.r && mayP fdW p.w && mayP fdPr p.pr && mayP fdPw p.pw) && decide (max (max (max p.r p.w) p.pr) p.pw ≤ p.n)
def strictP (p : Prp) : Bool := chkP p && decide (p.n < p.pr + p.pw)
theorem pCheck_c {p : Prp} {σ : Store} : ACalls Tryz.prog 141 [sPrp p] σ fun v σ' => v = vInt (if chkP p then 0 else 1) ∧ σ = σ' := by
  refine ACalls_of Tryz.func141 rfl Tryz.ntmps141 (congrArg Array.toList Tryz.results141) (by simp only [List.length_cons, List.length_nil]; decide) ?_; simp only [envOf_cons, envOf_nil, Nat.reduceAdd]
  refine awp_seq ?_
  refine awp_region (by kernel_rfl) ?_
  refine aL_box rfl rfl rfl v_ rfl g_ fun o1 ho1 => ?_
  repeat (rw [none_set_iff] at ho1; obtain ⟨_, ho1⟩ := ho1)
  (refine aL_S rfl rfl v_ ?_)
  refine aL_nil ?_
  refine awp_seq ?_
  refine awp_region (by kernel_rfl) ?_
  iterate 2 (refine aL_S rfl rfl v_ ?_)
  refine aL_X rfl rfl (AOp_use rfl rfl (.inr ⟨rfl, rfl, rfl⟩) g_ va_ (mayP_c) ?_); rintro _ _ ⟨rfl, rfl⟩
  (refine aL_S rfl rfl v_ ?_)
  refine aL_GT rfl rfl v_ rfl vg_ ?_
  refine aL_GT rfl rfl v_ rfl vg_ ?_
  refine aL_GTX rfl rfl v_ rfl (fun hb => AOp_useV (by rfl) (by rfl) (.inr ⟨by rfl, by rfl, by rfl⟩) g_ cg_ (mayP_c)) ?_
  iterate 2 (refine aL_S rfl rfl v_ ?_)
  refine aL_GT rfl rfl v_ rfl vg_ ?_
  refine aL_GT rfl rfl v_ rfl vg_ ?_
  refine aL_GTX rfl rfl v_ rfl (fun hb => AOp_useV (by rfl) (by rfl) (.inr ⟨by rfl, by rfl, by rfl⟩) g_ cg_ (mayP_c)) ?_
  iterate 2 (refine aL_S rfl rfl v_ ?_)
  refine aL_GT rfl rfl v_ rfl vg_ ?_
  refine aL_GT rfl rfl v_ rfl vg_ ?_
  refine aL_GTX rfl rfl v_ rfl (fun hb => AOp_useV (by rfl) (by rfl) (.inr ⟨by rfl, by rfl, by rfl⟩) g_ cg_ (mayP_c)) ?_
  iterate 2 (refine aL_S rfl rfl v_ ?_)
  refine aL_nil ?_
  refine awp_seq ?_
  refine awp_seq ?_
  refine awp_region (by kernel_rfl) ?_
  iterate 2 (refine aL_S rfl rfl v_ ?_)
  refine aL_X rfl rfl (AOp_use rfl rfl (.inr ⟨rfl, rfl, rfl⟩) g_ va_ (mayP_c) ?_); rintro _ _ ⟨rfl, rfl⟩
  iterate 2 (refine aL_S rfl rfl v_ ?_)
  refine aL_GF rfl rfl v_ rfl vg_ ?_
  refine aL_GF rfl rfl v_ rfl vg_ ?_
  iterate 2 (refine aL_S rfl rfl v_ ?_)
  refine aL_GF rfl rfl v_ rfl vg_ ?_
  refine aL_GF rfl rfl v_ rfl vg_ ?_
  refine aL_GF rfl rfl v_ rfl vg_ ?_
  refine aL_GF rfl rfl v_ rfl vg_ ?_
  refine aL_GF rfl rfl v_ rfl vg_ ?_
  refine aL_GF rfl rfl v_ rfl vg_ ?_
  refine aL_GF rfl rfl v_ rfl vg_ ?_
  refine aL_GF rfl rfl v_ rfl vg_ ?_
  refine aL_GF rfl rfl v_ rfl vg_ ?_
  refine aL_GF rfl rfl v_ rfl vg_ ?_
  refine aL_GF rfl rfl v_ rfl vg_ ?_
  refine aL_GF rfl rfl v_ rfl vg_ ?_
  (refine aL_S rfl rfl v_ ?_)
  refine aL_nil ?_
  refine awp_cond v_ (fun hc2 => ?_) (fun hc2 => ?_)
  · replace hc2 := nm_ hc2
    refine awp_seq ?_
    refine awp_region (by kernel_rfl) ?_
    (refine aL_S rfl rfl v_ ?_)
    refine aL_nil ?_
    refine awp_ret ?_
    refine aEnd_ret (σ' := σ) v_ sub_ ?_
    skip
    have : chkP p = false := by
      unfold chkP
      rcases hc2 with (h | ((h | h) | h) | h) | h
      · rw [show mayP fdN p.n = false from h]; rfl
      · rw [show mayP fdR p.r = false from h]; simp
      · rw [show mayP fdW p.w = false from h]; simp
      · rw [show mayP fdPr p.pr = false from h]; simp
      · rw [show mayP fdPw p.pw = false from h]; simp
      · rw [decide_eq_false (by omega)]; simp
    exact ⟨by rw [this]; rfl, rfl⟩
  · replace hc2 := nm_ hc2
    refine awp_skip ?_
    refine awp_seq ?_
    refine awp_region (by kernel_rfl) ?_
    (refine aL_S rfl rfl v_ ?_)
    refine aL_nil ?_
    refine awp_ret ?_
    refine aEnd_ret (σ' := σ) v_ sub_ ?_
    skip
    have : chkP p = true := by
      unfold chkP
      obtain ⟨⟨h0, ⟨⟨h1, h2⟩, h3⟩, h4⟩, h5⟩ := hc2
      rw [show mayP fdN p.n = true from h0, show mayP fdR p.r = true from h1, show mayP fdW p.w = true from h2, show mayP fdPr p.pr = true from h3, show mayP fdPw p.pw = true from h4, decide_eq_true h5]; rfl
    exact ⟨by rw [this]; rfl, rfl⟩
theorem pStrict_c {p : Prp} {σ : Store} : ACalls Tryz.prog 111 [sPrp p] σ fun v σ' => v = vB (strictP p) ∧ σ = σ' := by
  refine ACalls_of Tryz.func111 rfl Tryz.ntmps111 (congrArg Array.toList Tryz.results111) (by simp only [List.length_cons, List.length_nil]; decide) ?_; simp only [envOf_cons, envOf_nil, Nat.reduceAdd]
  refine awp_seq ?_
  refine awp_region (by kernel_rfl) ?_
  refine aL_box rfl rfl rfl v_ rfl g_ fun o1 ho1 => ?_
  repeat (rw [none_set_iff] at ho1; obtain ⟨_, ho1⟩ := ho1)
  (refine aL_S rfl rfl v_ ?_)
  refine aL_nil ?_
  refine awp_seq ?_
  refine awp_region (by kernel_rfl) ?_
  (refine aL_S rfl rfl v_ ?_)
  refine aL_X rfl rfl (AOp_use rfl rfl (.inr ⟨rfl, rfl, rfl⟩) g_ va_ (pCheck_c) ?_); rintro _ _ ⟨rfl, rfl⟩
  iterate 2 (refine aL_S rfl rfl v_ ?_)
  refine aL_GT rfl rfl v_ rfl vg_ ?_
  refine aL_GT rfl rfl v_ rfl vg_ ?_
  refine aL_GT rfl rfl v_ rfl vg_ ?_
  refine aL_GT rfl rfl v_ rfl vg_ ?_
  refine aL_GT rfl rfl v_ rfl vg_ ?_
  refine aL_GT rfl rfl v_ rfl vg_ ?_
  refine aL_GT rfl rfl v_ rfl vg_ ?_
  refine aL_GT rfl rfl v_ rfl vg_ ?_
  iterate 2 (refine aL_S rfl rfl v_ ?_)
  refine aL_nil ?_
  refine awp_ret ?_
  refine aEnd_ret (σ' := σ) v_ sub_ ?_
  refine ⟨?_, rfl⟩
  unfold strictP
  cases hk : chkP p with
  | false => rfl
  | true =>
    have h1 : mayP fdPr p.pr = true := by unfold chkP at hk; simp only [Bool.and_eq_true] at hk; exact hk.1.2.1.2
    have h2 : mayP fdPw p.pw = true := by unfold chkP at hk; simp only [Bool.and_eq_true] at hk; exact hk.1.2.2
    simp only [mayP, show bdP fdPr = (0, 16, true) from by decide, show bdP fdPw = (0, 16, true) from by decide, Bool.and_eq_true, decide_eq_true_eq] at h1 h2
    rw [wrap_in (by omega) (by omega)]; rfl
end Go.Proofs.YtbomkkjhafdhiaaGreatDoor
end
