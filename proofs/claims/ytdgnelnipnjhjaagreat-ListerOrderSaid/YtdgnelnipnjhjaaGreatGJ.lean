/-
  Keys that are gathered: what the program's lister does; Keys that are gathered: a new lister, one that nobody began; the document's lister; Keys that are gathered: what must come, whatever the arguments are; A nil slice in an object's cell is nobody's: it may be taken for one's own; ListerNobody, ListerPlays; Answers to a lister, as they come in. Own work (an AI agent).
-/
import Derived.Test.YtdgnelnipnjhjaaGreatGI
import Derived.Test.YtdgnelnipnjhjaaGreatGH

section
set_option linter.all false
set_option maxRecDepth 100000
namespace Go.Proofs.YtdgnelnipnjhjaaGreat
open Go.Ab
structure Act' where
  kind : Int
  node : ByteArray
  items : List Itm
@[reducible] def sAct (a : Act') : AVal := .agg [vInt a.kind, vStr a.node, .sl 3 (a.items.map sItem) false]
/-- who answered, whether one refused, what was told -/
structure Ls where
  rep : List ByteArray
  ref : Bool
  all : List Itm
def hasN (l : List ByteArray) (s : ByteArray) : Bool := l.any fun y => decide (y = s)
def kvR (l : List ByteArray) : List (Value × AVal) := l.map fun s => (.string s, vInt 1)
theorem kvR_keys (l : List ByteArray) : ∀ x ∈ kvR l, Go.MapKept.IsKey .string x.1 := by
  intro x hx
  obtain ⟨p, _, rfl⟩ := List.mem_map.1 hx
  trivial
theorem kvPut_R {s : ByteArray} : ∀ {l : List ByteArray}, hasN l s = false → kvPut (.string s) (vInt 1) (kvR l) = kvR (l ++ [s])
  | [], _ => rfl
  | p :: l, h => by
    have hp : p ≠ s ∧ hasN l s = false := by simpa [hasN] using h
    have ih := kvPut_R (s := s) (l := l) hp.2
    unfold kvR at ih ⊢
    have h1 : keyEq (.string p) (.string s) = false := by simp [keyEq, hp.1]
    simp only [List.map_cons, kvPut, h1, Bool.false_eq_true, if_false, List.cons_append]
    rw [ih]
theorem afind_R (s : ByteArray) : ∀ l, afindNow .string (.string s) (kvR l) = some (if hasN l s then some (vInt 1) else none)
  | [] => rfl
  | p :: l => by
    have ih := afind_R s l
    unfold kvR at ih ⊢
    rw [List.map_cons, afindNow]
    simp only [Instr.sameNow]
    by_cases h : p = s
    · have h' : (s == s) = true := (Go.MapKept.bytes_beq s s).2 rfl
      rw [h, h']
      simp [hasN]
    · have h' : (s == p) = false := by
        cases hh : (s == p) with
        | false => rfl
        | true => exact absurd (((Go.MapKept.bytes_beq _ _).1 hh).symm) h
      rw [h']
      have e : hasN (p :: l) s = hasN l s := by simp [hasN, h]
      rw [e]
      exact ih
theorem look_R {σ : Store} {o : Nat} {l : List ByteArray} (h : σ.heap o = some (.map (kvR l))) (s : ByteArray) : alookup Tryz.prog σ 83 (.map o) (.lit (.string s)) false = some (vInt (if hasN l s then 1 else 0)) := by
  have h1 : amapOf σ (.map o) = some (kvR l) := by simp [amapOf, h]
  unfold alookup
  simp only [go_sem, h1, plainKey, afind_R, if_true]
  cases hasN l s <;> rfl
@[reducible] def lsO (b : ByteArray) (nd : List ByteArray) (m : Nat) (ref : Bool) (all : List Itm) : AObj := .cells [vStr b, .sl 1 (nd.map vStr) false, .map m, vB ref, .sl 3 (all.map sItem) false]
def freshB (nd rep : List ByteArray) (s : ByteArray) : Bool := hasN nd s && !hasN rep s
def addR (nd rep : List ByteArray) (s : ByteArray) : List ByteArray := if freshB nd rep s then rep ++ [s] else rep
def hasSt (nd : List ByteArray) (s : Ls) (n : ByteArray) (items : List Itm) : Ls := if freshB nd s.rep n then (if (mergeI s.all items).2.2 = 0 then ⟨s.rep ++ [n], s.ref, (mergeI s.all items).1⟩ else ⟨s.rep ++ [n], true, s.all⟩) else s
def refSt (nd : List ByteArray) (s : Ls) (n : ByteArray) : Ls := if freshB nd s.rep n then ⟨s.rep ++ [n], true, s.all⟩ else s
def doSt (nd : List ByteArray) (a : Act') (s : Ls) : Ls := if a.kind = 1 then hasSt nd s a.node a.items else refSt nd s a.node
def stS (nd : List ByteArray) (s : Ls) : Int := if s.ref then 2 else if nd.any (fun x => !hasN s.rep x) then 0 else 1
theorem first_c {g m : Nat} {b s : ByteArray} {nd rep : List ByteArray} {ref : Bool} {all : List Itm} {σ : Store} (hg : σ.heap g = some (lsO b nd m ref all)) (hm : σ.heap m = some (.map (kvR rep))) (hn : nd.length ≤ 1000000) :
    ACalls Tryz.prog 126 [.ref g 0, vStr s] σ fun v σ' => v = vB (freshB nd rep s) ∧ σ' = σ.set m (.map (kvR (addR nd rep s))) := by
  have hlk := look_R hm s
  refine ACalls_of Tryz.func126 rfl Tryz.ntmps126 (congrArg Array.toList Tryz.results126) (by simp only [List.length_cons, List.length_nil]; decide) ?_; simp only [envOf_cons, envOf_nil, Nat.reduceAdd]
  refine awp_seq ?_
  have R := And.intro hg (And.intro hm hlk)
  refine awp_region (by kernel_rfl) ?_
  (refine aL_S rfl rfl v_ ?_)
  refine aL_nil ?_
  refine awp_seq ?_
  refine awp_seq ?_
  have R := And.intro hg (And.intro hm hlk)
  refine awp_region (by kernel_rfl) ?_
  iterate 3 (refine aL_S rfl rfl v_ ?_)
  refine aL_GF rfl rfl v_ rfl vg_ ?_
  refine aL_GF rfl rfl v_ rfl vg_ ?_
  refine aL_GF rfl rfl v_ rfl vg_ ?_
  refine aL_GF rfl rfl v_ rfl vg_ ?_
  refine aL_GF rfl rfl v_ rfl vg_ ?_
  refine aL_GFX rfl rfl v_ rfl (fun hb => AOp_useV (by rfl) (by rfl) (.inr ⟨by rfl, by rfl, by rfl⟩) g_ cg_ (containsStr_c hn)) ?_
  refine aL_GF rfl rfl v_ rfl vg_ ?_
  iterate 2 (refine aL_S rfl rfl v_ ?_)
  refine aL_GF rfl rfl v_ rfl vg_ ?_
  refine aL_GF rfl rfl v_ rfl vg_ ?_
  refine aL_GF rfl rfl v_ rfl vg_ ?_
  refine aL_GF rfl rfl v_ rfl vg_ ?_
  refine aL_GF rfl rfl v_ rfl vg_ ?_
  refine aL_GF rfl rfl v_ rfl vg_ ?_
  refine aL_GF rfl rfl v_ rfl vg_ ?_
  (refine aL_S rfl rfl v_ ?_)
  refine aL_nil ?_
  refine awp_cond v_ (fun hc1 => ?_) (fun hc1 => ?_)
  · replace hc1 := nm_ hc1
    skip
    have hf : freshB nd rep s = false := by
      rcases hc1 with h | h
      · simp [freshB, hasN, h]
      · cases hr : hasN rep s with
        | true => simp [freshB, hr]
        | false => rw [hr] at h; simp at h
    refine awp_seq ?_
    have R := And.intro hg (And.intro hm hlk)
    refine awp_region (by kernel_rfl) ?_
    (refine aL_S rfl rfl v_ ?_)
    refine aL_nil ?_
    refine awp_ret ?_
    refine aEnd_ret v_ (Store.Wk.refl _) ?_
    exact ⟨by rw [hf], by rw [addR, hf, if_neg (by simp), Store.set_self hm]⟩
  · replace hc1 := nm_ hc1
    skip
    have hr : hasN rep s = false := by
      cases hr : hasN rep s with
      | false => rfl
      | true => have := hc1.2; rw [hr] at this; simp at this
    have hf : freshB nd rep s = true := by
      rw [freshB, hr]; simpa [hasN] using hc1.1
    refine awp_skip ?_
    refine awp_seq ?_
    have R := And.intro hg (And.intro hm hlk)
    refine awp_region (by kernel_rfl) ?_
    iterate 5 (refine aL_S rfl rfl v_ ?_)
    refine aL_X0 rfl rfl (AOp_mapUpdate rfl g_ g_ v_ h_ v_ key_ (by exact kvR_keys rep) v_ ?_)
    refine aL_nil ?_
    refine awp_seq ?_
    rw [kvPut_R hr]
    have R := And.intro hg (And.intro hm hlk)
    refine awp_region (by kernel_rfl) ?_
    (refine aL_S rfl rfl v_ ?_)
    refine aL_nil ?_
    refine awp_ret ?_
    refine aEnd_ret (σ' := σ.set m (.map (kvR (rep ++ [s])))) v_ sub_ ?_
    exact ⟨by rw [hf], by rw [addR, hf, if_pos rfl]⟩
theorem first_nil {s : ByteArray} {σ : Store} : ACalls Tryz.prog 126 [.lit (.pointer none), vStr s] σ fun v σ' => v = vB false ∧ σ = σ' := by
  refine ACalls_of Tryz.func126 rfl Tryz.ntmps126 (congrArg Array.toList Tryz.results126) (by simp only [List.length_cons, List.length_nil]; decide) ?_; simp only [envOf_cons, envOf_nil, Nat.reduceAdd]
  refine awp_seq ?_
  refine awp_region (by kernel_rfl) ?_
  (refine aL_S rfl rfl v_ ?_)
  refine aL_nil ?_
  refine awp_seq ?_
  refine awp_seq ?_
  refine awp_region (by kernel_rfl) ?_
  iterate 3 (refine aL_S rfl rfl v_ ?_)
  first | refine aL_SN wn_ rfl ?_ | refine aL_GF rfl rfl v_ rfl vg_ ?_
  first | refine aL_SN wn_ rfl ?_ | refine aL_GF rfl rfl v_ rfl vg_ ?_
  first | refine aL_SN wn_ rfl ?_ | refine aL_GF rfl rfl v_ rfl vg_ ?_
  first | refine aL_SN wn_ rfl ?_ | refine aL_GF rfl rfl v_ rfl vg_ ?_
  first | refine aL_SN wn_ rfl ?_ | refine aL_GF rfl rfl v_ rfl vg_ ?_
  first | refine aL_SN wn_ rfl ?_ | refine aL_GFX rfl rfl v_ rfl (fun hb => AOp_useV (by rfl) (by rfl) (.inr ⟨by rfl, by rfl, by rfl⟩) g_ cg_ (containsStr_c)) ?_
  first | refine aL_SN wn_ rfl ?_ | refine aL_GF rfl rfl v_ rfl vg_ ?_
  iterate 2 (refine aL_S rfl rfl v_ ?_)
  first | refine aL_SN wn_ rfl ?_ | refine aL_GF rfl rfl v_ rfl vg_ ?_
  first | refine aL_SN wn_ rfl ?_ | refine aL_GF rfl rfl v_ rfl vg_ ?_
  first | refine aL_SN wn_ rfl ?_ | refine aL_GF rfl rfl v_ rfl vg_ ?_
  first | refine aL_SN wn_ rfl ?_ | refine aL_GF rfl rfl v_ rfl vg_ ?_
  first | refine aL_SN wn_ rfl ?_ | refine aL_GF rfl rfl v_ rfl vg_ ?_
  first | refine aL_SN wn_ rfl ?_ | refine aL_GF rfl rfl v_ rfl vg_ ?_
  first | refine aL_SN wn_ rfl ?_ | refine aL_GF rfl rfl v_ rfl vg_ ?_
  (refine aL_S rfl rfl v_ ?_)
  refine aL_nil ?_
  refine awp_cond v_ (fun hc1 => ?_) (fun hc1 => ?_)
  · replace hc1 := nm_ hc1
    refine awp_seq ?_
    refine awp_region (by kernel_rfl) ?_
    (refine aL_S rfl rfl v_ ?_)
    refine aL_nil ?_
    refine awp_ret ?_
    refine aEnd_ret (σ' := σ) v_ sub_ ?_
    exact ⟨rfl, rfl⟩
  · replace hc1 := nm_ hc1
    simp at hc1
set_option maxHeartbeats 1000000 in
theorem lHas_c {g m : Nat} {b n : ByteArray} {nd : List ByteArray} {s : Ls} {items : List Itm} {σ : Store} (hg : σ.heap g = some (lsO b nd m s.ref s.all)) (hm : σ.heap m = some (.map (kvR s.rep))) (hn : nd.length ≤ 1000000)
    (hl : ∀ x ∈ s.all, ItemSm x) (ho : ∀ x ∈ items, ItemSm x) (hM : ∀ x ∈ s.all, ∀ y ∈ items, ObjSm (mergeS x.obj y.obj).1) (n1 : s.all.length ≤ 100000) (n2 : items.length ≤ 100000) :
    ACalls Tryz.prog 82 [.ref g 0, vStr n, .sl 3 (items.map sItem) false] σ fun v σ' => v = .tup [] ∧ σ' = (σ.set m (.map (kvR (hasSt nd s n items).rep))).set g (lsO b nd m (hasSt nd s n items).ref (hasSt nd s n items).all) := by
  have hgm : g ≠ m := fun hh => by rw [hh, hm] at hg; cases hg
  refine ACalls_of Tryz.func82 rfl Tryz.ntmps82 (congrArg Array.toList Tryz.results82) (by simp only [List.length_cons, List.length_nil]; decide) ?_; simp only [envOf_cons, envOf_nil, Nat.reduceAdd]
  refine awp_seq ?_
  refine awp_seq ?_
  have R := And.intro hg hgm
  refine awp_region (by kernel_rfl) ?_
  iterate 2 (refine aL_S rfl rfl v_ ?_)
  refine aL_X rfl rfl (AOp_use rfl rfl (.inr ⟨rfl, rfl, rfl⟩) g_ va_ (first_c hg hm hn) ?_); rintro _ _ ⟨rfl, rfl⟩
  (refine aL_S rfl rfl v_ ?_)
  refine aL_nil ?_
  refine awp_cond v_ (fun hc0 => ?_) (fun hc0 => ?_)
  · replace hc0 := nm_ hc0
    have hf : freshB nd s.rep n = false := by simpa using hc0
    have h1 : hasSt nd s n items = s := by rw [hasSt, hf, if_neg (by simp)]
    have h2 : addR nd s.rep n = s.rep := by rw [addR, hf, if_neg (by simp)]
    rw [h2, Store.set_self hm]
    refine awp_ret ?_
    refine aEnd_ret v_ (Store.Wk.refl _) ?_
    exact ⟨rfl, by rw [h1, Store.set_self hm, Store.set_self hg]⟩
  · replace hc0 := nm_ hc0
    have hf : freshB nd s.rep n = true := by simpa using hc0
    have h2 : addR nd s.rep n = s.rep ++ [n] := by rw [addR, hf, if_pos rfl]
    have h1 : hasSt nd s n items = (if (mergeI s.all items).2.2 = 0 then ⟨s.rep ++ [n], s.ref, (mergeI s.all items).1⟩ else ⟨s.rep ++ [n], true, s.all⟩ : Ls) := by rw [hasSt, hf, if_pos rfl]
    rw [h2]
    refine awp_skip ?_
    refine awp_seq ?_
    have R := And.intro hg hgm
    refine awp_region (by kernel_rfl) ?_
    iterate 5 (refine aL_S rfl rfl v_ ?_)
    refine aL_X rfl rfl (AOp_use rfl rfl (.inr ⟨rfl, rfl, rfl⟩) g_ va_ (merge29_c hl ho hM n1 n2) ?_); rintro _ _ ⟨rfl, rfl⟩
    iterate 7 (refine aL_S rfl rfl v_ ?_)
    refine aL_nil ?_
    refine awp_seq ?_
    refine awp_seq ?_
    have R := And.intro hg hgm
    refine awp_region (by kernel_rfl) ?_
    iterate 2 (refine aL_S rfl rfl v_ ?_)
    refine aL_nil ?_
    refine awp_cond v_ (fun hc2 => ?_) (fun hc2 => ?_)
    · replace hc2 := nm_ hc2
      refine awp_seq ?_
      have R := And.intro hg hgm
      refine awp_region (by kernel_rfl) ?_
      iterate 3 (refine aL_S rfl rfl v_ ?_)
      refine aL_store rfl rfl rfl v_ v_ h_ g_ rfl g_ c_ (by rfl) le_ v_ ?_
      refine aL_nil ?_
      refine awp_ret ?_
      refine aEnd_ret (σ' := (σ.set m (.map (kvR (s.rep ++ [n])))).set g (lsO b nd m true s.all)) v_ sub_ ?_
      exact ⟨rfl, by rw [h1, if_neg hc2]⟩
    · replace hc2 := nm_ hc2
      refine awp_skip ?_
      have R := And.intro hg hgm
      refine awp_region (by kernel_rfl) ?_
      iterate 4 (refine aL_S rfl rfl v_ ?_)
      refine aL_store rfl rfl rfl v_ v_ h_ g_ rfl g_ c_ (by rfl) le_ v_ ?_
      refine aL_nil ?_
      refine aEnd_nor (σ' := (σ.set m (.map (kvR (s.rep ++ [n])))).set g (lsO b nd m s.ref (mergeI s.all items).1)) v_ sub_ ?_
      exact ⟨rfl, by rw [h1, if_pos hc2]⟩
theorem lHas_nil {n : ByteArray} {it : AVal} {σ : Store} : ACalls Tryz.prog 82 [.lit (.pointer none), vStr n, it] σ fun v σ' => v = .tup [] ∧ σ = σ' := by
  refine ACalls_of Tryz.func82 rfl Tryz.ntmps82 (congrArg Array.toList Tryz.results82) (by simp only [List.length_cons, List.length_nil]; decide) ?_; simp only [envOf_cons, envOf_nil, Nat.reduceAdd]
  refine awp_seq ?_
  refine awp_seq ?_
  refine awp_region (by kernel_rfl) ?_
  iterate 2 (refine aL_S rfl rfl v_ ?_)
  refine aL_X rfl rfl (AOp_use rfl rfl (.inr ⟨rfl, rfl, rfl⟩) g_ va_ (first_nil) ?_); rintro _ _ ⟨rfl, rfl⟩
  (refine aL_S rfl rfl v_ ?_)
  refine aL_nil ?_
  refine awp_cond v_ (fun hc0 => ?_) (fun hc0 => ?_)
  · replace hc0 := nm_ hc0
    refine awp_ret ?_
    refine aEnd_ret (σ' := σ) v_ sub_ ?_
    exact ⟨rfl, rfl⟩
  · replace hc0 := nm_ hc0
    cases hc0
theorem refused_c {g m : Nat} {b n : ByteArray} {nd : List ByteArray} {s : Ls} {σ : Store} (hg : σ.heap g = some (lsO b nd m s.ref s.all)) (hm : σ.heap m = some (.map (kvR s.rep))) (hn : nd.length ≤ 1000000) :
    ACalls Tryz.prog 83 [.ref g 0, vStr n] σ fun v σ' => v = .tup [] ∧ σ' = (σ.set m (.map (kvR (refSt nd s n).rep))).set g (lsO b nd m (refSt nd s n).ref (refSt nd s n).all) := by
  have hgm : g ≠ m := fun hh => by rw [hh, hm] at hg; cases hg
  refine ACalls_of Tryz.func83 rfl Tryz.ntmps83 (congrArg Array.toList Tryz.results83) (by simp only [List.length_cons, List.length_nil]; decide) ?_; simp only [envOf_cons, envOf_nil, Nat.reduceAdd]
  refine awp_seq ?_
  have R := And.intro hg hgm
  refine awp_region (by kernel_rfl) ?_
  iterate 2 (refine aL_S rfl rfl v_ ?_)
  refine aL_X rfl rfl (AOp_use rfl rfl (.inr ⟨rfl, rfl, rfl⟩) g_ va_ (first_c hg hm hn) ?_); rintro _ _ ⟨rfl, rfl⟩
  refine aL_nil ?_
  refine awp_cond v_ (fun hc0 => ?_) (fun hc0 => ?_)
  · replace hc0 := nm_ hc0
    have hf : freshB nd s.rep n = true := by simpa using hc0
    have h2 : addR nd s.rep n = s.rep ++ [n] := by rw [addR, hf, if_pos rfl]
    have h1 : refSt nd s n = ⟨s.rep ++ [n], true, s.all⟩ := by rw [refSt, hf, if_pos rfl]
    rw [h2]
    have R := And.intro hg hgm
    refine awp_region (by kernel_rfl) ?_
    iterate 3 (refine aL_S rfl rfl v_ ?_)
    refine aL_store rfl rfl rfl v_ v_ h_ g_ rfl g_ c_ (by rfl) le_ v_ ?_
    refine aL_nil ?_
    refine aEnd_nor (σ' := (σ.set m (.map (kvR (s.rep ++ [n])))).set g (lsO b nd m true s.all)) v_ sub_ ?_
    exact ⟨rfl, by rw [h1]⟩
  · replace hc0 := nm_ hc0
    have hf : freshB nd s.rep n = false := by simpa using hc0
    have h1 : refSt nd s n = s := by rw [refSt, hf, if_neg (by simp)]
    have h2 : addR nd s.rep n = s.rep := by rw [addR, hf, if_neg (by simp)]
    rw [h2, Store.set_self hm]
    refine awp_skip ?_
    refine aEnd_nor v_ (Store.Wk.refl _) ?_
    exact ⟨rfl, by rw [h1, Store.set_self hm, Store.set_self hg]⟩
theorem refused_nil {n : ByteArray} {σ : Store} : ACalls Tryz.prog 83 [.lit (.pointer none), vStr n] σ fun v σ' => v = .tup [] ∧ σ = σ' := by
  refine ACalls_of Tryz.func83 rfl Tryz.ntmps83 (congrArg Array.toList Tryz.results83) (by simp only [List.length_cons, List.length_nil]; decide) ?_; simp only [envOf_cons, envOf_nil, Nat.reduceAdd]
  refine awp_seq ?_
  refine awp_region (by kernel_rfl) ?_
  iterate 2 (refine aL_S rfl rfl v_ ?_)
  refine aL_X rfl rfl (AOp_use rfl rfl (.inr ⟨rfl, rfl, rfl⟩) g_ va_ (first_nil) ?_); rintro _ _ ⟨rfl, rfl⟩
  refine aL_nil ?_
  refine awp_cond v_ (fun hc0 => ?_) (fun hc0 => ?_)
  · replace hc0 := nm_ hc0
    cases hc0
  · replace hc0 := nm_ hc0
    refine awp_skip ?_
    refine aEnd_nor (σ' := σ) v_ sub_ ?_
    exact ⟨rfl, rfl⟩
abbrev fW (b : Nat) : AVal := .fn (.func 85) [] [.ref b 0]
theorem waits1_c {g m o : Nat} {b s : ByteArray} {nd rep : List ByteArray} {ref : Bool} {all : List Itm} {σ : Store} (hb : σ.heap o = some (.cells [.ref g 0])) (hg : σ.heap g = some (lsO b nd m ref all)) (hm : σ.heap m = some (.map (kvR rep))) :
    ACalls Tryz.prog 85 [vStr s, .ref o 0] σ fun v σ' => v = vB (!hasN rep s) ∧ σ = σ' := by
  have hlk := look_R hm s
  refine ACalls_of Tryz.func85 rfl Tryz.ntmps85 (congrArg Array.toList Tryz.results85) (by simp only [List.length_cons, List.length_nil]; decide) ?_; simp only [envOf_cons, envOf_nil, Nat.reduceAdd]
  refine awp_seq ?_
  have R := And.intro hb (And.intro hg (And.intro hm hlk))
  refine awp_region (by kernel_rfl) ?_
  (refine aL_S rfl rfl v_ ?_)
  refine aL_nil ?_
  refine awp_seq ?_
  have R := And.intro hb (And.intro hg (And.intro hm hlk))
  refine awp_region (by kernel_rfl) ?_
  iterate 8 (refine aL_S rfl rfl v_ ?_)
  refine aL_nil ?_
  refine awp_ret ?_
  refine aEnd_ret (σ' := σ) v_ sub_ ?_
  refine ⟨?_, rfl⟩
  cases hasN rep s <;> rfl
theorem idxW_c {g m o : Nat} {b : ByteArray} {nd rep l : List ByteArray} {ref : Bool} {all : List Itm} {σ : Store} (hb : σ.heap o = some (.cells [.ref g 0])) (hg : σ.heap g = some (lsO b nd m ref all)) (hm : σ.heap m = some (.map (kvR rep))) (hn : l.length ≤ 1000000) :
    ACalls Tryz.prog 127 [.sl 1 (l.map vStr) false, fW o] σ fun v σ' => (∃ r, v = vInt r ∧ decide (0 ≤ r) = l.any (fun x => !hasN rep x)) ∧ σ = σ' := by
  refine ACalls_of Tryz.func127 rfl Tryz.ntmps127 (congrArg Array.toList Tryz.results127) (by simp only [List.length_cons, List.length_nil]; decide) ?_; simp only [envOf_cons, envOf_nil, Nat.reduceAdd]
  refine awp_seq ?_
  refine awp_region (by kernel_rfl) ?_
  (refine aL_S rfl rfl v_ ?_)
  refine aL_nil ?_
  refine awp_seq ?_
  refine awp_seq ?_
  refine awp_region (by kernel_rfl) ?_
  iterate 3 (refine aL_S rfl rfl v_ ?_)
  refine aL_nil ?_
  refine awp_block ?_
  refine awp_loop_env (ι := Nat) (fun k => l.length - k) (fun k => k ≤ l.length ∧ (l.take k).any (fun x => !hasN rep x) = false) (fun k => [(0, .sl 1 (l.map vStr) false), (1, fW o), (7, vInt l.length), (8, vInt k)]) (fun k => σ) 0 ?_ ?_ ?_ ?_
  · exact ⟨Nat.zero_le _, rfl⟩
  · exact cv_
  · exact sub_
  rintro k ⟨hk, ha⟩
  simp only [envL_cons, envL_nil]
  refine awp_seq ?_
  refine awp_region (by kernel_rfl) ?_
  (refine aL_S rfl rfl v_ ?_)
  refine aL_nil ?_
  refine awp_seq ?_
  refine awp_cond v_ (fun hc2 => ?_) (fun hc2 => ?_)
  · replace hc2 := nm_ hc2
    refine awp_skip ?_
    refine awp_seq ?_
    refine awp_block ?_
    refine awp_seq ?_
    refine awp_region (by kernel_rfl) ?_
    iterate 2 (refine aL_S rfl rfl v_ ?_)
    refine aL_nil ?_
    refine awp_seq ?_
    obtain ⟨x, hx⟩ := get_some (l := l) (k := k) (by omega)
    have R := hx
    refine awp_region (by kernel_rfl) ?_
    iterate 5 (refine aL_S rfl rfl v_ ?_)
    refine aL_X rfl rfl (AOp_use rfl rfl (.inl v_) g_ va_ (waits1_c (s := x) hb hg hm) ?_); rintro _ _ ⟨rfl, rfl⟩
    refine aL_nil ?_
    refine awp_cond v_ (fun hc4 => ?_) (fun hc4 => ?_)
    · replace hc4 := nm_ hc4
      refine awp_seq ?_
      refine awp_region (by kernel_rfl) ?_
      iterate 2 (refine aL_S rfl rfl v_ ?_)
      refine aL_nil ?_
      refine awp_ret ?_
      refine aEnd_ret (σ' := σ) v_ sub_ ?_
      exact ⟨⟨(k : Int), rfl, by rw [decide_eq_true (by omega)]; exact (any_yes hx (by simpa using hc4)).symm⟩, rfl⟩
    · replace hc4 := nm_ hc4
      refine awp_skip ?_
      refine awp_region (by kernel_rfl) ?_
      iterate 2 (refine aL_S rfl rfl v_ ?_)
      refine aL_nil ?_
      refine aNext (ι := Nat) (i := k) (k + 1) ?_ ?_ ?_ ?_
      · omega
      · exact ⟨by omega, any_next hx (by simpa using hc4) ha⟩
      · exact cv_
      · exact sub_
  · replace hc2 := nm_ hc2
    refine awp_exit ?_
    refine aThen_exit ?_
    refine aThen_exit ?_
    refine aBlock_hit ?_
    refine awp_seq ?_
    refine awp_region (by kernel_rfl) ?_
    (refine aL_S rfl rfl v_ ?_)
    refine aL_nil ?_
    refine awp_ret ?_
    refine aEnd_ret (σ' := σ) v_ sub_ ?_
    exact ⟨⟨-1, rfl, (any_end (by omega) ha).symm⟩, rfl⟩
theorem containsW_c {g m o : Nat} {b : ByteArray} {nd rep l : List ByteArray} {ref : Bool} {all : List Itm} {σ : Store} (hb : σ.heap o = some (.cells [.ref g 0])) (hg : σ.heap g = some (lsO b nd m ref all)) (hm : σ.heap m = some (.map (kvR rep))) (hn : l.length ≤ 1000000) :
    ACalls Tryz.prog 86 [.sl 1 (l.map vStr) false, fW o] σ fun v σ' => v = vB (l.any fun x => !hasN rep x) ∧ σ = σ' := by
  refine ACalls_of Tryz.func86 rfl Tryz.ntmps86 (congrArg Array.toList Tryz.results86) (by simp only [List.length_cons, List.length_nil]; decide) ?_; simp only [envOf_cons, envOf_nil, Nat.reduceAdd]
  refine awp_seq ?_
  refine awp_region (by kernel_rfl) ?_
  (refine aL_S rfl rfl v_ ?_)
  refine aL_nil ?_
  refine awp_seq ?_
  refine awp_region (by kernel_rfl) ?_
  iterate 2 (refine aL_S rfl rfl v_ ?_)
  refine aL_X rfl rfl (AOp_use rfl rfl (.inr ⟨rfl, rfl, rfl⟩) g_ va_ (idxW_c hb hg hm hn) ?_); rintro _ _ ⟨⟨r, rfl, hr⟩, rfl⟩
  iterate 2 (refine aL_S rfl rfl v_ ?_)
  refine aL_nil ?_
  refine awp_ret ?_
  refine aEnd_ret (σ' := σ) v_ sub_ ?_
  exact ⟨by rw [← hr], rfl⟩
theorem state_c {g m : Nat} {b : ByteArray} {nd : List ByteArray} {s : Ls} {σ : Store} (hg : σ.heap g = some (lsO b nd m s.ref s.all)) (hm : σ.heap m = some (.map (kvR s.rep))) (hn : nd.length ≤ 1000000) :
    ACalls Tryz.prog 45 [.ref g 0] σ fun v σ' => v = vInt (stS nd s) ∧ σ = σ' := by
  refine ACalls_of Tryz.func45 rfl Tryz.ntmps45 (congrArg Array.toList Tryz.results45) (by simp only [List.length_cons, List.length_nil]; decide) ?_; simp only [envOf_cons, envOf_nil, Nat.reduceAdd]
  refine awp_seq ?_
  refine awp_region (by kernel_rfl) ?_
  refine aL_box rfl rfl rfl v_ rfl g_ fun o1 ho1 => ?_
  repeat (rw [none_set_iff] at ho1; obtain ⟨_, ho1⟩ := ho1)
  (refine aL_S rfl rfl v_ ?_)
  refine aL_nil ?_
  have hg1 := ne_of_heap hg ho1
  have hm1 := ne_of_heap hm ho1
  have hgk : (σ.set o1 (.cells [.ref g 0])).heap g = some (lsO b nd m s.ref s.all) := by rw [Store.set_ne _ _ hg1]; exact hg
  have hmk : (σ.set o1 (.cells [.ref g 0])).heap m = some (.map (kvR s.rep)) := by rw [Store.set_ne _ _ hm1]; exact hm
  refine awp_seq ?_
  refine awp_region (by kernel_rfl) ?_
  iterate 2 (refine aL_S rfl rfl v_ ?_)
  refine aL_nil ?_
  refine awp_seq ?_
  refine awp_block ?_
  refine awp_seq ?_
  have R := hgk
  refine awp_region (by kernel_rfl) ?_
  iterate 3 (refine aL_S rfl rfl v_ ?_)
  refine aL_GF rfl rfl v_ rfl vg_ ?_
  refine aL_GF rfl rfl v_ rfl vg_ ?_
  refine aL_GF rfl rfl v_ rfl vg_ ?_
  refine aL_GF rfl rfl v_ rfl vg_ ?_
  refine aL_GF rfl rfl v_ rfl vg_ ?_
  iterate 2 (refine aL_S rfl rfl v_ ?_)
  refine aL_nil ?_
  refine awp_cond v_ (fun hc2 => ?_) (fun hc2 => ?_)
  · replace hc2 := nm_ hc2
    simp at hc2
  · replace hc2 := nm_ hc2
    refine awp_seq ?_
    have R := hgk
    refine awp_region (by kernel_rfl) ?_
    iterate 5 (refine aL_S rfl rfl v_ ?_)
    refine aL_nil ?_
    refine awp_cond v_ (fun hc4 => ?_) (fun hc4 => ?_)
    · replace hc4 := nm_ hc4
      refine awp_seq ?_
      refine awp_region (by kernel_rfl) ?_
      (refine aL_S rfl rfl v_ ?_)
      refine aL_nil ?_
      refine awp_ret ?_
      refine aEnd_ret (σ' := σ) v_ sub_ ?_
      exact ⟨by rw [stS, hc4, if_pos rfl], rfl⟩
    · replace hc4 := nm_ hc4
      refine awp_seq ?_
      have R := hgk
      refine awp_region (by kernel_rfl) ?_
      iterate 5 (refine aL_S rfl rfl v_ ?_)
      refine aL_X rfl rfl (AOp_use rfl rfl (.inr ⟨rfl, rfl, rfl⟩) g_ va_ (containsW_c (Store.set_get ..) hgk hmk hn) ?_); rintro _ _ ⟨rfl, rfl⟩
      (refine aL_S rfl rfl v_ ?_)
      refine aL_nil ?_
      refine awp_cond v_ (fun hc6 => ?_) (fun hc6 => ?_)
      · replace hc6 := nm_ hc6
        refine awp_seq ?_
        refine awp_region (by kernel_rfl) ?_
        (refine aL_S rfl rfl v_ ?_)
        refine aL_nil ?_
        refine awp_ret ?_
        refine aEnd_ret (σ' := σ) v_ sub_ ?_
        exact ⟨by rw [stS, hc4, if_neg (by simp), if_pos hc6], rfl⟩
      · replace hc6 := nm_ hc6
        refine awp_skip ?_
        refine awp_seq ?_
        refine awp_region (by kernel_rfl) ?_
        (refine aL_S rfl rfl v_ ?_)
        refine aL_nil ?_
        refine awp_ret ?_
        refine aEnd_ret (σ' := σ) v_ sub_ ?_
        exact ⟨by rw [stS, hc4, if_neg (by simp), if_neg (by rw [hc6]; simp)], rfl⟩
theorem state_nil {σ : Store} : ACalls Tryz.prog 45 [.lit (.pointer none)] σ fun v σ' => v = vInt 0 ∧ σ = σ' := by
  refine ACalls_of Tryz.func45 rfl Tryz.ntmps45 (congrArg Array.toList Tryz.results45) (by simp only [List.length_cons, List.length_nil]; decide) ?_; simp only [envOf_cons, envOf_nil, Nat.reduceAdd]
  refine awp_seq ?_
  refine awp_region (by kernel_rfl) ?_
  refine aL_box rfl rfl rfl v_ rfl g_ fun o1 ho1 => ?_
  repeat (rw [none_set_iff] at ho1; obtain ⟨_, ho1⟩ := ho1)
  (refine aL_S rfl rfl v_ ?_)
  refine aL_nil ?_
  refine awp_seq ?_
  refine awp_region (by kernel_rfl) ?_
  iterate 2 (refine aL_S rfl rfl v_ ?_)
  refine aL_nil ?_
  refine awp_seq ?_
  refine awp_block ?_
  refine awp_seq ?_
  refine awp_region (by kernel_rfl) ?_
  iterate 3 (refine aL_S rfl rfl v_ ?_)
  first | refine aL_SN wn_ rfl ?_ | refine aL_GF rfl rfl v_ rfl vg_ ?_
  first | refine aL_SN wn_ rfl ?_ | refine aL_GF rfl rfl v_ rfl vg_ ?_
  first | refine aL_SN wn_ rfl ?_ | refine aL_GF rfl rfl v_ rfl vg_ ?_
  first | refine aL_SN wn_ rfl ?_ | refine aL_GF rfl rfl v_ rfl vg_ ?_
  first | refine aL_SN wn_ rfl ?_ | refine aL_GF rfl rfl v_ rfl vg_ ?_
  iterate 2 (refine aL_S rfl rfl v_ ?_)
  refine aL_nil ?_
  refine awp_cond v_ (fun hc2 => ?_) (fun hc2 => ?_)
  · replace hc2 := nm_ hc2
    refine awp_seq ?_
    refine awp_region (by kernel_rfl) ?_
    (refine aL_S rfl rfl v_ ?_)
    refine aL_nil ?_
    refine awp_ret ?_
    refine aEnd_ret (σ' := σ) v_ sub_ ?_
    exact ⟨rfl, rfl⟩
  · replace hc2 := nm_ hc2
    simp at hc2
def keyB (b : ByteArray) (x : Itm) : Bool := (splitS x.place).2.2 && decide ((splitS x.place).1 = b) && decide (0 < ((x.obj.sibs.filter live).length : Int))
def keysA (b : ByteArray) (l : List Itm) : List ByteArray := (l.filter (keyB b)).map fun x => (splitS x.place).2.1
def keysS (b : ByteArray) (nd : List ByteArray) (s : Ls) : List ByteArray := if stS nd s = 1 then keysA b s.all else []
theorem keysA_yes {b : ByteArray} {l : List Itm} {k : Nat} {x : Itm} (h : l[k]? = some x) (hx : keyB b x = true) : (keysA b (l.take (k + 1))).map vStr = (keysA b (l.take k)).map vStr ++ [vStr (splitS x.place).2.1] := by
  rw [take_snoc h, keysA, List.filter_append, List.map_append, List.map_append]; simp [keysA, hx]
theorem keysA_no {b : ByteArray} {l : List Itm} {k : Nat} {x : Itm} (h : l[k]? = some x) (hx : keyB b x = false) : (keysA b (l.take (k + 1))).map vStr = (keysA b (l.take k)).map vStr := by
  rw [take_snoc h, keysA, List.filter_append, List.map_append, List.map_append]; simp [keysA, hx]
theorem keysA_len (b : ByteArray) (l : List Itm) : (keysA b l).length ≤ l.length := by rw [keysA, List.length_map]; exact List.length_filter_le ..
theorem keys_c {g m : Nat} {b : ByteArray} {nd : List ByteArray} {s : Ls} {σ : Store} (hg : σ.heap g = some (lsO b nd m s.ref s.all)) (hm : σ.heap m = some (.map (kvR s.rep))) (hn : nd.length ≤ 1000000) (hl : ∀ x ∈ s.all, ItemSm x) (n1 : s.all.length ≤ 100000) :
    ACalls Tryz.prog 47 [.ref g 0] σ fun v σ' => v = .sl 1 ((keysS b nd s).map vStr) false ∧ σ = σ' := by
  refine ACalls_of Tryz.func47 rfl Tryz.ntmps47 (congrArg Array.toList Tryz.results47) (by simp only [List.length_cons, List.length_nil]; decide) ?_; simp only [envOf_cons, envOf_nil, Nat.reduceAdd]
  refine awp_seq ?_
  refine awp_region (by kernel_rfl) ?_
  (refine aL_S rfl rfl v_ ?_)
  refine aL_nil ?_
  refine awp_seq ?_
  refine awp_seq ?_
  refine awp_region (by kernel_rfl) ?_
  (refine aL_S rfl rfl v_ ?_)
  refine aL_X rfl rfl (AOp_use rfl rfl (.inr ⟨rfl, rfl, rfl⟩) g_ va_ (state_c hg hm hn) ?_); rintro _ _ ⟨rfl, rfl⟩
  (refine aL_S rfl rfl v_ ?_)
  refine aL_nil ?_
  refine awp_cond v_ (fun hc1 => ?_) (fun hc1 => ?_)
  · replace hc1 := nm_ hc1
    refine awp_seq ?_
    refine awp_region (by kernel_rfl) ?_
    (refine aL_S rfl rfl v_ ?_)
    refine aL_nil ?_
    refine awp_ret ?_
    rw [keysS, if_neg hc1]
    exact aEnd_retW (v := .sl 1 [] false) (v' := vNil) va_ (.nil _ _) sub_ ⟨rfl, rfl⟩
  · replace hc1 := nm_ hc1
    have hk1 : keysS b nd s = keysA b s.all := by rw [keysS, if_pos hc1]
    refine awp_skip ?_
    refine awp_seq ?_
    refine awp_region (by kernel_rfl) ?_
    refine aL_nilOwn 9 1 rfl rfl rfl (by rfl) fun k3 hk3 => ?_
    refine aL_nil ?_
    refine awp_seq ?_
    refine awp_seq ?_
    have R := hg
    refine awp_region (by kernel_rfl) ?_
    iterate 6 (refine aL_S rfl rfl v_ ?_)
    refine aL_nil ?_
    refine awp_block ?_
    refine awp_loop_env (ι := Nat × Nat) (fun ⟨tk, k⟩ => s.all.length - k) (fun ⟨tk, k⟩ => k ≤ s.all.length ∧ σ.tok tk = none) (fun ⟨tk, k⟩ => [(0, .ref g 0), (3, .own tk 1 ((keysA b (s.all.take k)).map vStr)), (15, .sl 3 (s.all.map sItem) false), (16, vInt s.all.length), (17, vInt k)]) (fun ⟨tk, k⟩ => (σ.newTok none tk (9, 1))) (k3, 0) ?_ ?_ ?_ ?_
    · exact ⟨Nat.zero_le _, hk3⟩
    · exact cv_
    · exact Store.Wk.refl _
    rintro ⟨tk, k⟩ ⟨hk, htk⟩
    simp only [envL_cons, envL_nil]
    refine awp_seq ?_
    refine awp_region (by kernel_rfl) ?_
    (refine aL_S rfl rfl v_ ?_)
    refine aL_nil ?_
    refine awp_seq ?_
    refine awp_cond v_ (fun hc5 => ?_) (fun hc5 => ?_)
    · replace hc5 := nm_ hc5
      refine awp_skip ?_
      refine awp_seq ?_
      refine awp_block ?_
      refine awp_seq ?_
      obtain ⟨x, hx⟩ := get_some (l := s.all) (k := k) (by omega)
      have sx := hl x (List.mem_of_getElem? hx)
      have hlen : (keysA b (s.all.take k)).length ≤ k := Nat.le_trans (keysA_len _ _) (by simp; omega)
      have spl := sx.place; have sns := sx.obj.ns
      have R := hx
      refine awp_region (by kernel_rfl) ?_
      iterate 2 (refine aL_S rfl rfl v_ ?_)
      refine aL_alloc rfl rfl rfl g_ gl_ fun o5 ho5 => ?_
      repeat (rw [none_set_iff] at ho5; obtain ⟨_, ho5⟩ := ho5)
      refine aL_store rfl rfl rfl v_ v_ h_ g_ rfl g_ c_ (by rfl) le_ v_ ?_
      refine aL_nil ?_
      have hg5 := ne_of_heap hg ho5
      refine awp_seq ?_
      refine awp_region (by kernel_rfl) ?_
      iterate 2 (refine aL_S rfl rfl v_ ?_)
      refine aL_X rfl rfl (AOp_use rfl rfl (.inr ⟨rfl, rfl, rfl⟩) g_ va_ (split_c (s := x.place) (by omega)) ?_); rintro _ _ ⟨rfl, rfl⟩
      iterate 7 (refine aL_S rfl rfl v_ ?_)
      refine aL_nil ?_
      refine awp_seq ?_
      have R := hg
      refine awp_region (by kernel_rfl) ?_
      iterate 2 (refine aL_S rfl rfl v_ ?_)
      refine aL_GT rfl rfl v_ rfl vg_ ?_
      refine aL_GT rfl rfl v_ rfl vg_ ?_
      refine aL_GT rfl rfl v_ rfl vg_ ?_
      refine aL_GT rfl rfl v_ rfl vg_ ?_
      refine aL_GT rfl rfl v_ rfl vg_ ?_
      refine aL_GT rfl rfl v_ rfl vg_ ?_
      iterate 2 (refine aL_S rfl rfl v_ ?_)
      refine aL_GT rfl rfl v_ rfl vg_ ?_
      refine aL_GT rfl rfl v_ rfl vg_ ?_
      refine aL_GT rfl rfl v_ rfl vg_ ?_
      refine aL_GTX rfl rfl v_ rfl (fun hb => AOp_useV (by rfl) (by rfl) (.inr ⟨by rfl, by rfl, by rfl⟩) g_ cg_ (live_c (by omega))) ?_
      refine aL_GT rfl rfl v_ rfl vg_ ?_
      refine aL_GT rfl rfl v_ rfl vg_ ?_
      (refine aL_S rfl rfl v_ ?_)
      refine aL_nil ?_
      refine awp_cond v_ (fun hc8 => ?_) (fun hc8 => ?_)
      · replace hc8 := nm_ hc8
        have hcov := keysA_yes (b := b) hx (by rw [keyB]; simpa using hc8)
        refine awp_region (by kernel_rfl) ?_
        iterate 2 (refine aL_S rfl rfl v_ ?_)
        refine aL_buildSlice rfl rfl rfl g_ g_ rfl rfl h_ c2_ (by decide) ?_
        refine aL_append rfl rfl rfl g_ g_ v_ h_ v_ c_ (by simp; omega) fun k48 hk48 => ?_
        (refine aL_S rfl rfl v_ ?_)
        refine aL_nil ?_
        refine awp_region (by kernel_rfl) ?_
        iterate 2 (refine aL_S rfl rfl v_ ?_)
        refine aL_nil ?_
        refine aNext (ι := Nat × Nat) (i := ⟨tk, k⟩) (k48, k + 1) ?_ ?_ ?_ ?_
        · show s.all.length - (k + 1) < s.all.length - k; omega
        · exact ⟨by show k + 1 ≤ s.all.length; omega, (newTok_none hk48).2⟩
        · have R := hcov; exact cv_
        · exact sub_
      · replace hc8 := nm_ hc8
        have hcov := keysA_no (b := b) hx (by rcases hc8 with (h | h) | h; simp [keyB, h]; simp [keyB, h]; rw [keyB, decide_eq_false (p := 0 < (((x.obj.sibs.filter live).length : Nat) : Int)) (by simp at h ⊢; first | exact h | omega), Bool.and_false])
        refine awp_skip ?_
        refine awp_region (by kernel_rfl) ?_
        iterate 2 (refine aL_S rfl rfl v_ ?_)
        refine aL_nil ?_
        refine aNext (ι := Nat × Nat) (i := ⟨tk, k⟩) (tk, k + 1) ?_ ?_ ?_ ?_
        · show s.all.length - (k + 1) < s.all.length - k; omega
        · exact ⟨by show k + 1 ≤ s.all.length; omega, htk⟩
        · have R := hcov; exact cv_
        · exact sub_
    · replace hc5 := nm_ hc5
      refine awp_exit ?_
      refine aThen_exit ?_
      refine aThen_exit ?_
      refine aBlock_hit ?_
      refine awp_seq ?_
      obtain rfl : k = s.all.length := by omega
      rw [List.take_length, ← hk1]
      refine awp_region (by kernel_rfl) ?_
      iterate 2 (refine aL_S rfl rfl v_ ?_)
      refine aL_nil ?_
      refine awp_ret ?_
      exact aEnd_retW (v := .sl 1 ((keysS b nd s).map vStr) false) (v' := .own tk 1 ((keysS b nd s).map vStr)) va_ (.own1 _ _ _) sub_ ⟨rfl, rfl⟩
theorem keys_nil {σ : Store} : ACalls Tryz.prog 47 [.lit (.pointer none)] σ fun v σ' => v = .sl 1 [] false ∧ σ = σ' := by
  refine ACalls_of Tryz.func47 rfl Tryz.ntmps47 (congrArg Array.toList Tryz.results47) (by simp only [List.length_cons, List.length_nil]; decide) ?_; simp only [envOf_cons, envOf_nil, Nat.reduceAdd]
  refine awp_seq ?_
  refine awp_region (by kernel_rfl) ?_
  (refine aL_S rfl rfl v_ ?_)
  refine aL_nil ?_
  refine awp_seq ?_
  refine awp_seq ?_
  refine awp_region (by kernel_rfl) ?_
  (refine aL_S rfl rfl v_ ?_)
  refine aL_X rfl rfl (AOp_use rfl rfl (.inr ⟨rfl, rfl, rfl⟩) g_ va_ (state_nil) ?_); rintro _ _ ⟨rfl, rfl⟩
  (refine aL_S rfl rfl v_ ?_)
  refine aL_nil ?_
  refine awp_cond v_ (fun hc1 => ?_) (fun hc1 => ?_)
  · replace hc1 := nm_ hc1
    refine awp_seq ?_
    refine awp_region (by kernel_rfl) ?_
    (refine aL_S rfl rfl v_ ?_)
    refine aL_nil ?_
    refine awp_ret ?_
    exact aEnd_retW (v := .sl 1 [] false) (v' := vNil) va_ (.nil _ _) sub_ ⟨rfl, rfl⟩
  · replace hc1 := nm_ hc1
    simp at hc1
theorem sub2_wk {σ : Store} {o m g : Nat} {A B C : AObj} (ho : σ.heap o = none) : ((σ.set m A).set g B).Wk (((σ.set o C).set m A).set g B) := Store.Sub.wk ⟨fun i x hx => by
  by_cases h1 : i = g
  · subst h1; rw [Store.set_get] at hx ⊢; exact hx
  · rw [Store.set_ne _ _ h1] at hx ⊢
    by_cases h2 : i = m
    · subst h2; rw [Store.set_get] at hx ⊢; exact hx
    · rw [Store.set_ne _ _ h2] at hx ⊢
      rw [Store.set_ne _ _ (fun hh => by rw [hh, ho] at hx; cases hx)]; exact hx, fun t n ht => ht⟩
theorem do_c {g m : Nat} {b : ByteArray} {nd : List ByteArray} {s : Ls} {a : Act'} {σ : Store} (hg : σ.heap g = some (lsO b nd m s.ref s.all)) (hm : σ.heap m = some (.map (kvR s.rep))) (hn : nd.length ≤ 1000000)
    (hl : ∀ x ∈ s.all, ItemSm x) (ho : ∀ x ∈ a.items, ItemSm x) (hM : ∀ x ∈ s.all, ∀ y ∈ a.items, ObjSm (mergeS x.obj y.obj).1) (n1 : s.all.length ≤ 100000) (n2 : a.items.length ≤ 100000) :
    ACalls Tryz.prog 43 [.ref g 0, sAct a] σ fun v σ' => v = .tup [] ∧ σ' = (σ.set m (.map (kvR (doSt nd a s).rep))).set g (lsO b nd m (doSt nd a s).ref (doSt nd a s).all) := by
  refine ACalls_of Tryz.func43 rfl Tryz.ntmps43 (congrArg Array.toList Tryz.results43) (by simp only [List.length_cons, List.length_nil]; decide) ?_; simp only [envOf_cons, envOf_nil, Nat.reduceAdd]
  refine awp_seq ?_
  refine awp_region (by kernel_rfl) ?_
  refine aL_box rfl rfl rfl v_ rfl g_ fun o3 ho3 => ?_
  repeat (rw [none_set_iff] at ho3; obtain ⟨_, ho3⟩ := ho3)
  refine aL_nil ?_
  have hg3 := ne_of_heap hg ho3
  have hm3 := ne_of_heap hm ho3
  have hgk : (σ.set o3 (.cells (sAct a).cells)).heap g = some (lsO b nd m s.ref s.all) := by rw [Store.set_ne _ _ hg3]; exact hg
  have hmk : (σ.set o3 (.cells (sAct a).cells)).heap m = some (.map (kvR s.rep)) := by rw [Store.set_ne _ _ hm3]; exact hm
  refine awp_seq ?_
  refine awp_region (by kernel_rfl) ?_
  iterate 3 (refine aL_S rfl rfl v_ ?_)
  refine aL_nil ?_
  refine awp_cond v_ (fun hc1 => ?_) (fun hc1 => ?_)
  · replace hc1 := nm_ hc1
    rw [show doSt nd a s = hasSt nd s a.node a.items from by rw [doSt, if_pos hc1]]
    refine awp_region (by kernel_rfl) ?_
    iterate 5 (refine aL_S rfl rfl v_ ?_)
    refine aL_X rfl rfl (AOp_use rfl rfl (.inr ⟨rfl, rfl, rfl⟩) g_ va_ (lHas_c (s := s) (items := a.items) hgk hmk hn hl ho hM n1 n2) ?_); rintro _ _ ⟨rfl, rfl⟩
    refine aL_nil ?_
    exact aEnd_nor (σ' := (σ.set m (.map (kvR (hasSt nd s a.node a.items).rep))).set g (lsO b nd m (hasSt nd s a.node a.items).ref (hasSt nd s a.node a.items).all)) va_ (sub2_wk ho3) ⟨rfl, rfl⟩
  · replace hc1 := nm_ hc1
    rw [show doSt nd a s = refSt nd s a.node from by rw [doSt, if_neg hc1]]
    refine awp_region (by kernel_rfl) ?_
    iterate 3 (refine aL_S rfl rfl v_ ?_)
    refine aL_X rfl rfl (AOp_use rfl rfl (.inr ⟨rfl, rfl, rfl⟩) g_ va_ (refused_c (s := s) hgk hmk hn) ?_); rintro _ _ ⟨rfl, rfl⟩
    refine aL_nil ?_
    exact aEnd_nor (σ' := (σ.set m (.map (kvR (refSt nd s a.node).rep))).set g (lsO b nd m (refSt nd s a.node).ref (refSt nd s a.node).all)) va_ (sub2_wk ho3) ⟨rfl, rfl⟩
end Go.Proofs.YtdgnelnipnjhjaaGreat
end

section
set_option linter.all false
set_option maxRecDepth 100000
namespace Go.Proofs.YtdgnelnipnjhjaaGreat
open Go.Ab
theorem clone0S_c {t : Bool} {σ : Store} : ACalls Tryz.prog 84 [.sl 1 [] t] σ fun v σ' => v = .sl 1 [] false ∧ σ = σ' := by
  refine ACalls_of Tryz.func84 rfl Tryz.ntmps84 (congrArg Array.toList Tryz.results84) (by simp only [List.length_cons, List.length_nil]; decide) ?_; simp only [envOf_cons, envOf_nil, Nat.reduceAdd]
  refine awp_seq ?_
  refine awp_region (by kernel_rfl) ?_
  (refine aL_S rfl rfl v_ ?_)
  refine aL_nil ?_
  refine awp_seq ?_
  refine awp_seq ?_
  refine awp_region (by kernel_rfl) ?_
  (refine aL_S rfl rfl v_ ?_)
  refine aL_X rfl rfl (AOp_eqNil0 rfl g_ va_ va_ fun b => ?_)
  refine aL_nil ?_
  refine awp_cond v_ (fun hc1 => ?_) (fun hc1 => ?_)
  · replace hc1 := nm_ hc1
    refine awp_seq ?_
    refine awp_region (by kernel_rfl) ?_
    (refine aL_S rfl rfl v_ ?_)
    refine aL_nil ?_
    refine awp_ret ?_
    exact aEnd_retW (v := .sl 1 [] false) (v' := vNil) va_ (.nil _ _) sub_ ⟨rfl, rfl⟩
  · replace hc1 := nm_ hc1
    refine awp_skip ?_
    refine awp_seq ?_
    refine awp_region (by kernel_rfl) ?_
    refine aL_buildSlice rfl rfl rfl g_ g_ rfl rfl h_ c2_ (by decide) ?_
    (refine aL_S rfl rfl v_ ?_)
    refine aL_X rfl rfl (AOp_append00 rfl g_ g_ va_ va_ ?_)
    (refine aL_S rfl rfl v_ ?_)
    refine aL_nil ?_
    refine awp_ret ?_
    refine aEnd_ret (σ' := σ) v_ sub_ ?_
    exact ⟨rfl, rfl⟩
theorem szStr (l : List ByteArray) : ∀ y ∈ l.map vStr, y.cells.length = 1 := lits_sz vStr (fun x => rfl) l
theorem clone1S_c {L : List ByteArray} {t : Bool} {σ : Store} (h0 : L ≠ []) (hl : L.length ≤ 1000000) : ACalls Tryz.prog 84 [.sl 1 (L.map vStr) t] σ fun v σ' => CBp σ σ' 1 (L.map vStr) v := by
  have hne : L.map vStr ≠ [] := by simpa using h0
  refine ACalls_of Tryz.func84 rfl Tryz.ntmps84 (congrArg Array.toList Tryz.results84) (by simp only [List.length_cons, List.length_nil]; decide) ?_; simp only [envOf_cons, envOf_nil, Nat.reduceAdd]
  refine awp_seq ?_
  refine awp_region (by kernel_rfl) ?_
  (refine aL_S rfl rfl v_ ?_)
  refine aL_nil ?_
  refine awp_seq ?_
  refine awp_seq ?_
  refine awp_region (by kernel_rfl) ?_
  (refine aL_S rfl rfl v_ ?_)
  refine aL_X rfl rfl (AOp_eqNil rfl g_ v_ (by exact hne) va_ ?_)
  refine aL_nil ?_
  refine awp_cond v_ (fun hc1 => ?_) (fun hc1 => ?_)
  · replace hc1 := nm_ hc1
    cases hc1
  · replace hc1 := nm_ hc1
    refine awp_skip ?_
    refine awp_seq ?_
    refine awp_region (by kernel_rfl) ?_
    refine aL_buildSlice rfl rfl rfl g_ g_ rfl rfl h_ c2_ (by decide) ?_
    (refine aL_S rfl rfl v_ ?_)
    refine aL_X rfl rfl (AOp_copyM rfl g_ g_ va_ v_ (by exact hne) (by simp; omega) fun o7 ho7 => ?_)
    (refine aL_S rfl rfl v_ ?_)
    refine aL_nil ?_
    refine awp_ret ?_
    refine aEnd_ret v_ (Store.Wk.refl _) ?_
    exact .inr ⟨o7, ho7, by rw [List.length_map], rfl⟩
theorem cloneS_c {L : List ByteArray} {t : Bool} {σ : Store} (hl : L.length ≤ 1000000) : ACalls Tryz.prog 84 [.sl 1 (L.map vStr) t] σ fun v σ' => v = .sl 1 (L.map vStr) false ∧ σ = σ' := by
  by_cases h : L = []
  · subst h; exact clone0S_c
  · exact ACalls.frozen (clone1S_c h hl) (szStr L)
theorem lNew_c {b : ByteArray} {nd : List ByteArray} {t : Bool} {σ : Store} (hn : nd.length ≤ 1000000) : ACalls Tryz.prog 42 [vStr b, .sl 1 (nd.map vStr) t] σ fun v σ' => ∃ m g, σ.heap m = none ∧ σ.heap g = none ∧ g ≠ m ∧ v = .ref g 0 ∧ σ' = (σ.set m (.map (kvR []))).set g (lsO b nd m false []) := by
  refine ACalls_of Tryz.func42 rfl Tryz.ntmps42 (congrArg Array.toList Tryz.results42) (by simp only [List.length_cons, List.length_nil]; decide) ?_; simp only [envOf_cons, envOf_nil, Nat.reduceAdd]
  refine awp_seq ?_
  refine awp_region (by kernel_rfl) ?_
  (refine aL_S rfl rfl v_ ?_)
  refine aL_nil ?_
  refine awp_seq ?_
  refine awp_region (by kernel_rfl) ?_
  iterate 2 (refine aL_S rfl rfl v_ ?_)
  refine aL_X rfl rfl (AOp_use rfl rfl (.inr ⟨rfl, rfl, rfl⟩) g_ va_ (cloneS_c hn) ?_); rintro _ _ ⟨rfl, rfl⟩
  refine aL_X rfl rfl (AOp_makeMap rfl fun o8 ho8 => ?_)
  repeat (rw [none_set_iff] at ho8; obtain ⟨_, ho8⟩ := ho8)
  (refine aL_S rfl rfl v_ ?_)
  refine aL_box rfl rfl rfl v_ rfl g_ fun o10 ho10 => ?_
  repeat (rw [none_set_iff] at ho10; obtain ⟨_, ho10⟩ := ho10)
  (refine aL_S rfl rfl v_ ?_)
  refine aL_nil ?_
  refine awp_ret ?_
  refine aEnd_ret (σ' := (σ.set o8 (.map (kvR []))).set o10 (lsO b nd o8 false [])) va_ (Store.wkNew ⟨.refl _, .refl _, .refl _, .refl _, .nil _ _, trivial⟩) ⟨o8, o10, ho8, ho10, by assumption, rfl, rfl⟩
/-! ### one that nobody began -/
abbrev zLs : List AVal := [.lit (.string ⟨#[]⟩), .lit (.slice none 0 0), .lit (.map none), vB false, .lit (.slice none 0 0)]
theorem first_z {g : Nat} {s : ByteArray} {σ : Store} (hg : σ.heap g = some (.cells zLs)) : ACalls Tryz.prog 126 [.ref g 0, vStr s] σ fun v σ' => v = vB false ∧ σ = σ' := by
  refine ACalls_of Tryz.func126 rfl Tryz.ntmps126 (congrArg Array.toList Tryz.results126) (by simp only [List.length_cons, List.length_nil]; decide) ?_; simp only [envOf_cons, envOf_nil, Nat.reduceAdd]
  refine awp_seq ?_
  have R := hg
  refine awp_region (by kernel_rfl) ?_
  (refine aL_S rfl rfl v_ ?_)
  refine aL_nil ?_
  refine awp_seq ?_
  refine awp_seq ?_
  have R := hg
  refine awp_region (by kernel_rfl) ?_
  iterate 3 (refine aL_S rfl rfl v_ ?_)
  first | refine aL_SN wn_ rfl ?_ | refine aL_GF rfl rfl v_ rfl vg_ ?_
  first | refine aL_SN wn_ rfl ?_ | refine aL_GF rfl rfl v_ rfl vg_ ?_
  first | refine aL_SN wn_ rfl ?_ | refine aL_GF rfl rfl v_ rfl vg_ ?_
  first | refine aL_SN wn_ rfl ?_ | refine aL_GF rfl rfl v_ rfl vg_ ?_
  first | refine aL_SN wn_ rfl ?_ | refine aL_GF rfl rfl v_ rfl vg_ ?_
  first | refine aL_SN wn_ rfl ?_ | refine aL_GFX rfl rfl v_ rfl (fun hb => AOp_useV (by rfl) (by rfl) (.inr ⟨by rfl, by rfl, by rfl⟩) g_ cg_ (ACalls.wkA (args := [.lit (.slice none 0 0), vStr s]) (containsStr_c (l := []) (x := s) (t := false) (by simp)) rfl (fun j hj hj' => by match j, hj with | 0, _ => exact .nil _ _ | 1, _ => exact .refl _))) ?_
  first | refine aL_SN wn_ rfl ?_ | refine aL_GF rfl rfl v_ rfl vg_ ?_
  iterate 2 (refine aL_S rfl rfl v_ ?_)
  first | refine aL_SN wn_ rfl ?_ | refine aL_GF rfl rfl v_ rfl vg_ ?_
  first | refine aL_SN wn_ rfl ?_ | refine aL_GF rfl rfl v_ rfl vg_ ?_
  first | refine aL_SN wn_ rfl ?_ | refine aL_GF rfl rfl v_ rfl vg_ ?_
  first | refine aL_SN wn_ rfl ?_ | refine aL_GF rfl rfl v_ rfl vg_ ?_
  first | refine aL_SN wn_ rfl ?_ | refine aL_GF rfl rfl v_ rfl vg_ ?_
  first | refine aL_SN wn_ rfl ?_ | refine aL_GF rfl rfl v_ rfl vg_ ?_
  first | refine aL_SN wn_ rfl ?_ | refine aL_GF rfl rfl v_ rfl vg_ ?_
  (refine aL_S rfl rfl v_ ?_)
  refine aL_nil ?_
  refine awp_cond v_ (fun hc1 => ?_) (fun hc1 => ?_)
  · replace hc1 := nm_ hc1
    refine awp_seq ?_
    have R := hg
    refine awp_region (by kernel_rfl) ?_
    (refine aL_S rfl rfl v_ ?_)
    refine aL_nil ?_
    refine awp_ret ?_
    refine aEnd_ret (σ' := σ) v_ sub_ ?_
    exact ⟨rfl, rfl⟩
  · replace hc1 := nm_ hc1
    simp at hc1
theorem has_z {g : Nat} {n : ByteArray} {it : AVal} {σ : Store} (hg : σ.heap g = some (.cells zLs)) : ACalls Tryz.prog 82 [.ref g 0, vStr n, it] σ fun v σ' => v = .tup [] ∧ σ = σ' := by
  refine ACalls_of Tryz.func82 rfl Tryz.ntmps82 (congrArg Array.toList Tryz.results82) (by simp only [List.length_cons, List.length_nil]; decide) ?_; simp only [envOf_cons, envOf_nil, Nat.reduceAdd]
  refine awp_seq ?_
  refine awp_seq ?_
  refine awp_region (by kernel_rfl) ?_
  iterate 2 (refine aL_S rfl rfl v_ ?_)
  refine aL_X rfl rfl (AOp_use rfl rfl (.inr ⟨rfl, rfl, rfl⟩) g_ va_ (first_z hg) ?_); rintro _ _ ⟨rfl, rfl⟩
  (refine aL_S rfl rfl v_ ?_)
  refine aL_nil ?_
  refine awp_cond v_ (fun hc0 => ?_) (fun hc0 => ?_)
  · replace hc0 := nm_ hc0
    refine awp_ret ?_
    refine aEnd_ret (σ' := σ) v_ sub_ ?_
    exact ⟨rfl, rfl⟩
  · replace hc0 := nm_ hc0
    cases hc0
theorem refused_z {g : Nat} {n : ByteArray} {σ : Store} (hg : σ.heap g = some (.cells zLs)) : ACalls Tryz.prog 83 [.ref g 0, vStr n] σ fun v σ' => v = .tup [] ∧ σ = σ' := by
  refine ACalls_of Tryz.func83 rfl Tryz.ntmps83 (congrArg Array.toList Tryz.results83) (by simp only [List.length_cons, List.length_nil]; decide) ?_; simp only [envOf_cons, envOf_nil, Nat.reduceAdd]
  refine awp_seq ?_
  refine awp_region (by kernel_rfl) ?_
  iterate 2 (refine aL_S rfl rfl v_ ?_)
  refine aL_X rfl rfl (AOp_use rfl rfl (.inr ⟨rfl, rfl, rfl⟩) g_ va_ (first_z hg) ?_); rintro _ _ ⟨rfl, rfl⟩
  refine aL_nil ?_
  refine awp_cond v_ (fun hc0 => ?_) (fun hc0 => ?_)
  · replace hc0 := nm_ hc0
    cases hc0
  · replace hc0 := nm_ hc0
    refine awp_skip ?_
    refine aEnd_nor (σ' := σ) v_ sub_ ?_
    exact ⟨rfl, rfl⟩
theorem state_z {g : Nat} {σ : Store} (hg : σ.heap g = some (.cells zLs)) : ACalls Tryz.prog 45 [.ref g 0] σ fun v σ' => v = vInt 0 ∧ σ = σ' := by
  refine ACalls_of Tryz.func45 rfl Tryz.ntmps45 (congrArg Array.toList Tryz.results45) (by simp only [List.length_cons, List.length_nil]; decide) ?_; simp only [envOf_cons, envOf_nil, Nat.reduceAdd]
  refine awp_seq ?_
  refine awp_region (by kernel_rfl) ?_
  refine aL_box rfl rfl rfl v_ rfl g_ fun o1 ho1 => ?_
  repeat (rw [none_set_iff] at ho1; obtain ⟨_, ho1⟩ := ho1)
  (refine aL_S rfl rfl v_ ?_)
  refine aL_nil ?_
  have hg1 := ne_of_heap hg ho1
  have hgk : (σ.set o1 (.cells [.ref g 0])).heap g = some (.cells zLs) := by rw [Store.set_ne _ _ hg1]; exact hg
  refine awp_seq ?_
  refine awp_region (by kernel_rfl) ?_
  iterate 2 (refine aL_S rfl rfl v_ ?_)
  refine aL_nil ?_
  refine awp_seq ?_
  refine awp_block ?_
  refine awp_seq ?_
  have R := hgk
  refine awp_region (by kernel_rfl) ?_
  iterate 3 (refine aL_S rfl rfl v_ ?_)
  refine aL_GF rfl rfl v_ rfl vg_ ?_
  refine aL_GF rfl rfl v_ rfl vg_ ?_
  refine aL_GF rfl rfl v_ rfl vg_ ?_
  refine aL_GF rfl rfl v_ rfl vg_ ?_
  refine aL_GF rfl rfl v_ rfl vg_ ?_
  iterate 2 (refine aL_S rfl rfl v_ ?_)
  refine aL_nil ?_
  refine awp_cond v_ (fun hc2 => ?_) (fun hc2 => ?_)
  · replace hc2 := nm_ hc2
    refine awp_seq ?_
    refine awp_region (by kernel_rfl) ?_
    (refine aL_S rfl rfl v_ ?_)
    refine aL_nil ?_
    refine awp_ret ?_
    refine aEnd_ret (σ' := σ) v_ sub_ ?_
    exact ⟨rfl, rfl⟩
  · replace hc2 := nm_ hc2
    simp at hc2
theorem keys_z {g : Nat} {σ : Store} (hg : σ.heap g = some (.cells zLs)) : ACalls Tryz.prog 47 [.ref g 0] σ fun v σ' => v = .sl 1 [] false ∧ σ = σ' := by
  refine ACalls_of Tryz.func47 rfl Tryz.ntmps47 (congrArg Array.toList Tryz.results47) (by simp only [List.length_cons, List.length_nil]; decide) ?_; simp only [envOf_cons, envOf_nil, Nat.reduceAdd]
  refine awp_seq ?_
  refine awp_region (by kernel_rfl) ?_
  (refine aL_S rfl rfl v_ ?_)
  refine aL_nil ?_
  refine awp_seq ?_
  refine awp_seq ?_
  refine awp_region (by kernel_rfl) ?_
  (refine aL_S rfl rfl v_ ?_)
  refine aL_X rfl rfl (AOp_use rfl rfl (.inr ⟨rfl, rfl, rfl⟩) g_ va_ (state_z hg) ?_); rintro _ _ ⟨rfl, rfl⟩
  (refine aL_S rfl rfl v_ ?_)
  refine aL_nil ?_
  refine awp_cond v_ (fun hc1 => ?_) (fun hc1 => ?_)
  · replace hc1 := nm_ hc1
    refine awp_seq ?_
    refine awp_region (by kernel_rfl) ?_
    (refine aL_S rfl rfl v_ ?_)
    refine aL_nil ?_
    refine awp_ret ?_
    exact aEnd_retW (v := .sl 1 [] false) (v' := vNil) va_ (.nil _ _) sub_ ⟨rfl, rfl⟩
  · replace hc1 := nm_ hc1
    simp at hc1
theorem do_z {g : Nat} {a : Act'} {σ : Store} (hg : σ.heap g = some (.cells zLs)) : ACalls Tryz.prog 43 [.ref g 0, sAct a] σ fun v σ' => v = .tup [] ∧ σ = σ' := by
  refine ACalls_of Tryz.func43 rfl Tryz.ntmps43 (congrArg Array.toList Tryz.results43) (by simp only [List.length_cons, List.length_nil]; decide) ?_; simp only [envOf_cons, envOf_nil, Nat.reduceAdd]
  refine awp_seq ?_
  refine awp_region (by kernel_rfl) ?_
  refine aL_box rfl rfl rfl v_ rfl g_ fun o3 ho3 => ?_
  repeat (rw [none_set_iff] at ho3; obtain ⟨_, ho3⟩ := ho3)
  refine aL_nil ?_
  have hg3 := ne_of_heap hg ho3
  have hgk : (σ.set o3 (.cells (sAct a).cells)).heap g = some (.cells zLs) := by rw [Store.set_ne _ _ hg3]; exact hg
  refine awp_seq ?_
  refine awp_region (by kernel_rfl) ?_
  iterate 3 (refine aL_S rfl rfl v_ ?_)
  refine aL_nil ?_
  refine awp_cond v_ (fun hc1 => ?_) (fun hc1 => ?_)
  · replace hc1 := nm_ hc1
    refine awp_region (by kernel_rfl) ?_
    iterate 5 (refine aL_S rfl rfl v_ ?_)
    refine aL_X rfl rfl (AOp_use rfl rfl (.inr ⟨rfl, rfl, rfl⟩) g_ va_ (has_z hgk) ?_); rintro _ _ ⟨rfl, rfl⟩
    refine aL_nil ?_
    refine aEnd_nor (σ' := σ) v_ sub_ ?_
    exact ⟨rfl, rfl⟩
  · replace hc1 := nm_ hc1
    refine awp_region (by kernel_rfl) ?_
    iterate 3 (refine aL_S rfl rfl v_ ?_)
    refine aL_X rfl rfl (AOp_use rfl rfl (.inr ⟨rfl, rfl, rfl⟩) g_ va_ (refused_z hgk) ?_); rintro _ _ ⟨rfl, rfl⟩
    refine aL_nil ?_
    refine aEnd_nor (σ' := σ) v_ sub_ ?_
    exact ⟨rfl, rfl⟩
theorem do_nil {a : Act'} {σ : Store} : ACalls Tryz.prog 43 [.lit (.pointer none), sAct a] σ fun v σ' => v = .tup [] ∧ σ = σ' := by
  refine ACalls_of Tryz.func43 rfl Tryz.ntmps43 (congrArg Array.toList Tryz.results43) (by simp only [List.length_cons, List.length_nil]; decide) ?_; simp only [envOf_cons, envOf_nil, Nat.reduceAdd]
  refine awp_seq ?_
  refine awp_region (by kernel_rfl) ?_
  refine aL_box rfl rfl rfl v_ rfl g_ fun o3 ho3 => ?_
  repeat (rw [none_set_iff] at ho3; obtain ⟨_, ho3⟩ := ho3)
  refine aL_nil ?_
  refine awp_seq ?_
  refine awp_region (by kernel_rfl) ?_
  iterate 3 (refine aL_S rfl rfl v_ ?_)
  refine aL_nil ?_
  refine awp_cond v_ (fun hc1 => ?_) (fun hc1 => ?_)
  · replace hc1 := nm_ hc1
    refine awp_region (by kernel_rfl) ?_
    iterate 5 (refine aL_S rfl rfl v_ ?_)
    refine aL_X rfl rfl (AOp_use rfl rfl (.inr ⟨rfl, rfl, rfl⟩) g_ va_ (lHas_nil) ?_); rintro _ _ ⟨rfl, rfl⟩
    refine aL_nil ?_
    refine aEnd_nor (σ' := σ) v_ sub_ ?_
    exact ⟨rfl, rfl⟩
  · replace hc1 := nm_ hc1
    refine awp_region (by kernel_rfl) ?_
    iterate 3 (refine aL_S rfl rfl v_ ?_)
    refine aL_X rfl rfl (AOp_use rfl rfl (.inr ⟨rfl, rfl, rfl⟩) g_ va_ (refused_nil) ?_); rintro _ _ ⟨rfl, rfl⟩
    refine aL_nil ?_
    refine aEnd_nor (σ' := σ) v_ sub_ ?_
    exact ⟨rfl, rfl⟩
/-! ### the document's lister -/
theorem rIn38_c {l : List ByteArray} {s : ByteArray} {t : Bool} {σ : Store} (hn : l.length ≤ 1000000) : ACalls Tryz.prog 49 [.sl 1 (l.map vStr) t, vStr s] σ fun v σ' => v = vB (hasN l s) ∧ σ = σ' := by
  refine ACalls_of Tryz.func49 rfl Tryz.ntmps49 (congrArg Array.toList Tryz.results49) (by simp only [List.length_cons, List.length_nil]; decide) ?_; simp only [envOf_cons, envOf_nil, Nat.reduceAdd]
  refine awp_seq ?_
  refine awp_region (by kernel_rfl) ?_
  (refine aL_S rfl rfl v_ ?_)
  refine aL_nil ?_
  refine awp_seq ?_
  refine awp_seq ?_
  refine awp_region (by kernel_rfl) ?_
  (refine aL_S rfl rfl v_ ?_)
  refine aL_nil ?_
  refine awp_block ?_
  refine awp_loop_env (ι := Nat) (fun k => l.length - k) (fun k => k ≤ l.length ∧ (l.take k).any (fun y => decide (y = s)) = false) (fun k => [(0, .sl 1 (l.map vStr) t), (1, vStr s), (5, vInt k)]) (fun k => σ) 0 ?_ ?_ ?_ ?_
  · exact ⟨Nat.zero_le _, rfl⟩
  · exact cv_
  · exact sub_
  rintro k ⟨hk, ha⟩
  simp only [envL_cons, envL_nil]
  refine awp_seq ?_
  refine awp_seq ?_
  refine awp_region (by kernel_rfl) ?_
  iterate 4 (refine aL_S rfl rfl v_ ?_)
  refine aL_nil ?_
  refine awp_cond v_ (fun hc2 => ?_) (fun hc2 => ?_)
  · replace hc2 := nm_ hc2
    refine awp_skip ?_
    refine awp_seq ?_
    refine awp_block ?_
    refine awp_seq ?_
    obtain ⟨y, hy⟩ := get_some (l := l) (k := k) (by omega)
    have R := hy
    refine awp_region (by kernel_rfl) ?_
    iterate 6 (refine aL_S rfl rfl v_ ?_)
    refine aL_nil ?_
    refine awp_cond v_ (fun hc4 => ?_) (fun hc4 => ?_)
    · replace hc4 := nm_ hc4
      refine awp_seq ?_
      refine awp_region (by kernel_rfl) ?_
      (refine aL_S rfl rfl v_ ?_)
      refine aL_nil ?_
      refine awp_ret ?_
      refine aEnd_ret (σ' := σ) v_ sub_ ?_
      exact ⟨by rw [hasN, any_yes hy (decide_eq_true hc4)], rfl⟩
    · replace hc4 := nm_ hc4
      refine awp_skip ?_
      refine awp_region (by kernel_rfl) ?_
      iterate 3 (refine aL_S rfl rfl v_ ?_)
      refine aL_nil ?_
      refine aNext (ι := Nat) (i := k) (k + 1) ?_ ?_ ?_ ?_
      · omega
      · exact ⟨by omega, any_next hy (decide_eq_false hc4) ha⟩
      · exact cv_
      · exact sub_
  · replace hc2 := nm_ hc2
    refine awp_exit ?_
    refine aThen_exit ?_
    refine aThen_exit ?_
    refine aBlock_hit ?_
    refine awp_seq ?_
    refine awp_region (by kernel_rfl) ?_
    (refine aL_S rfl rfl v_ ?_)
    refine aL_nil ?_
    refine awp_ret ?_
    refine aEnd_ret (σ' := σ) v_ sub_ ?_
    exact ⟨by rw [hasN, any_end (by omega) ha], rfl⟩
theorem rInO_c {l : List ByteArray} {k : Nat} {s : ByteArray} {σ : Store} (hn : l.length ≤ 1000000) : ACalls Tryz.prog 49 [.own k 1 (l.map vStr), vStr s] σ fun v σ' => v = vB (hasN l s) ∧ σ = σ' :=
  ACalls.wkA (args := [.own k 1 (l.map vStr), vStr s]) (rIn38_c (t := false) hn) rfl (fun j hj hj' => by match j, hj with | 0, _ => exact .own1 _ _ _ | 1, _ => exact .refl _)
abbrev pStr : TypeId × Nat := (9, 1)
@[reducible] def rlO (b : ByteArray) (nd : List ByteArray) (ky kn : Nat) (yes no : List ByteArray) (all : List Itm) : AObj := .cells [vStr b, .sl 1 (nd.map vStr) false, .own ky 1 (yes.map vStr), .own kn 1 (no.map vStr), .sl 3 (all.map sItem) false]
def freshR (nd yes no : List ByteArray) (s : ByteArray) : Bool := hasN nd s && !hasN yes s && !hasN no s
def rSt (nd yes no : List ByteArray) : Int := if 0 < no.length then 2 else if nd.any (fun x => !hasN yes x) then 0 else 1
set_option maxHeartbeats 1000000 in
theorem rAnswer_c {X ky kn : Nat} {b n : ByteArray} {nd yes no : List ByteArray} {all items : List Itm} {kind : Int} {σ : Store} (hX : σ.heap X = some (rlO b nd ky kn yes no all)) (ty : σ.tok ky = some pStr) (tn : σ.tok kn = some pStr) (hn : nd.length ≤ 1000000) (hy : yes.length ≤ 100000) (hno : no.length ≤ 100000)
    (hl : ∀ x ∈ all, ItemSm x) (ho : ∀ x ∈ items, ItemSm x) (hM : ∀ x ∈ all, ∀ y ∈ items, ObjSm (mergeS x.obj y.obj).1) (n1 : all.length ≤ 100000) (n2 : items.length ≤ 100000) :
    ACalls Tryz.prog 44 [.ref X 0, vInt kind, vStr n, .sl 3 (items.map sItem) false] σ fun v σ' => v = .tup [] ∧ ((freshR nd yes no n = false ∧ σ' = σ) ∨
      (freshR nd yes no n = true ∧ (kind ≠ 1 ∨ (mergeI all items).2.2 ≠ 0) ∧ ∃ k, σ.tok k = none ∧ σ' = (σ.newTok (some kn) k pStr).set X (rlO b nd ky k yes (no ++ [n]) all)) ∨
      (freshR nd yes no n = true ∧ kind = 1 ∧ (mergeI all items).2.2 = 0 ∧ ∃ k, σ.tok k = none ∧ σ' = (σ.newTok (some ky) k pStr).set X (rlO b nd k kn (yes ++ [n]) no (mergeI all items).1))) := by
  refine ACalls_of Tryz.func44 rfl Tryz.ntmps44 (congrArg Array.toList Tryz.results44) (by simp only [List.length_cons, List.length_nil]; decide) ?_; simp only [envOf_cons, envOf_nil, Nat.reduceAdd]
  refine awp_seq ?_
  refine awp_seq ?_
  have R := And.intro hX (And.intro ty tn)
  refine awp_region (by kernel_rfl) ?_
  iterate 5 (refine aL_S rfl rfl v_ ?_)
  refine aL_X rfl rfl (AOp_use rfl rfl (.inr ⟨rfl, rfl, rfl⟩) g_ va_ (rIn38_c hn) ?_); rintro _ _ ⟨rfl, rfl⟩
  iterate 2 (refine aL_S rfl rfl v_ ?_)
  refine aL_GF rfl rfl v_ rfl vg_ ?_
  refine aL_GF rfl rfl v_ rfl vg_ ?_
  refine aL_GF rfl rfl v_ rfl vg_ ?_
  refine aL_GF rfl rfl v_ rfl vg_ ?_
  refine aL_GF rfl rfl v_ rfl vg_ ?_
  refine aL_GFX rfl rfl v_ rfl (fun hb => AOp_useV (by rfl) (by rfl) (.inr ⟨by rfl, by rfl, by rfl⟩) g_ cg_ (rInO_c (by omega))) ?_
  iterate 2 (refine aL_S rfl rfl v_ ?_)
  refine aL_GF rfl rfl v_ rfl vg_ ?_
  refine aL_GF rfl rfl v_ rfl vg_ ?_
  refine aL_GF rfl rfl v_ rfl vg_ ?_
  refine aL_GF rfl rfl v_ rfl vg_ ?_
  refine aL_GF rfl rfl v_ rfl vg_ ?_
  refine aL_GFX rfl rfl v_ rfl (fun hb => AOp_useV (by rfl) (by rfl) (.inr ⟨by rfl, by rfl, by rfl⟩) g_ cg_ (rInO_c (by omega))) ?_
  (refine aL_S rfl rfl v_ ?_)
  refine aL_nil ?_
  refine awp_cond v_ (fun hc0 => ?_) (fun hc0 => ?_)
  · replace hc0 := nm_ hc0
    refine awp_ret ?_
    refine aEnd_ret v_ (Store.Wk.refl _) ?_
    exact ⟨rfl, .inl ⟨by rcases hc0 with (h | h) | h <;> simp [freshR, h], rfl⟩⟩
  · replace hc0 := nm_ hc0
    have hf : freshR nd yes no n = true := by simp [freshR, hc0]
    refine awp_skip ?_
    refine awp_seq ?_
    have R := And.intro hX (And.intro ty tn)
    refine awp_region (by kernel_rfl) ?_
    iterate 5 (refine aL_S rfl rfl v_ ?_)
    refine aL_X rfl rfl (AOp_use rfl rfl (.inr ⟨rfl, rfl, rfl⟩) g_ va_ (rMerge29_c hl ho hM n1 n2) ?_); rintro _ _ ⟨rfl, rfl⟩
    iterate 7 (refine aL_S rfl rfl v_ ?_)
    refine aL_nil ?_
    refine awp_seq ?_
    refine awp_seq ?_
    have R := And.intro hX (And.intro ty tn)
    refine awp_region (by kernel_rfl) ?_
    iterate 3 (refine aL_S rfl rfl v_ ?_)
    refine aL_GF rfl rfl v_ rfl vg_ ?_
    refine aL_GF rfl rfl v_ rfl vg_ ?_
    (refine aL_S rfl rfl v_ ?_)
    refine aL_nil ?_
    refine awp_cond v_ (fun hc2 => ?_) (fun hc2 => ?_)
    · replace hc2 := nm_ hc2
      refine awp_seq ?_
      have R := And.intro hX (And.intro ty tn)
      refine awp_region (by kernel_rfl) ?_
      iterate 6 (refine aL_S rfl rfl v_ ?_)
      refine aL_buildSlice rfl rfl rfl g_ g_ rfl rfl h_ c2_ (by decide) ?_
      refine aL_append rfl rfl rfl g_ g_ v_ h_ v_ c_ (by simp; omega) fun k57 hk57 => ?_
      iterate 2 (refine aL_S rfl rfl v_ ?_)
      refine aL_store rfl rfl rfl v_ v_ h_ g_ rfl g_ c_ (by rfl) le_ v_ ?_
      refine aL_nil ?_
      refine awp_ret ?_
      refine aEnd_ret (σ' := (σ.newTok (some kn) k57 pStr).set X (.cells [vStr b, .sl 1 (nd.map vStr) false, .own ky 1 (yes.map vStr), .own k57 1 (no.map vStr ++ [vStr n]), .sl 3 (all.map sItem) false])) v_ sub_ ?_
      exact ⟨rfl, .inr (.inl ⟨hf, hc2, k57, hk57, by rw [show rlO b nd ky k57 yes (no ++ [n]) all = .cells [vStr b, .sl 1 (nd.map vStr) false, .own ky 1 (yes.map vStr), .own k57 1 (no.map vStr ++ [vStr n]), .sl 3 (all.map sItem) false] from by rw [rlO, List.map_append]; rfl]⟩)⟩
    · replace hc2 := nm_ hc2
      refine awp_skip ?_
      refine awp_seq ?_
      have R := And.intro hX (And.intro ty tn)
      refine awp_region (by kernel_rfl) ?_
      iterate 4 (refine aL_S rfl rfl v_ ?_)
      refine aL_store rfl rfl rfl v_ v_ h_ g_ rfl g_ c_ (by rfl) le_ v_ ?_
      refine aL_nil ?_
      have R := And.intro hX (And.intro ty tn)
      refine awp_region (by kernel_rfl) ?_
      iterate 6 (refine aL_S rfl rfl v_ ?_)
      refine aL_buildSlice rfl rfl rfl g_ g_ rfl rfl h_ c2_ (by decide) ?_
      refine aL_append rfl rfl rfl g_ g_ v_ h_ v_ c_ (by simp; omega) fun k71 hk71 => ?_
      iterate 2 (refine aL_S rfl rfl v_ ?_)
      refine aL_store rfl rfl rfl v_ v_ h_ g_ rfl g_ c_ (by rfl) le_ v_ ?_
      refine aL_nil ?_
      refine aEnd_nor (σ' := (σ.newTok (some ky) k71 pStr).set X (.cells [vStr b, .sl 1 (nd.map vStr) false, .own k71 1 (yes.map vStr ++ [vStr n]), .own kn 1 (no.map vStr), .sl 3 ((mergeI all items).1.map sItem) false])) v_ sub_ ?_
      exact ⟨rfl, .inr (.inr ⟨hf, hc2.1, hc2.2, k71, hk71, by rw [show rlO b nd k71 kn (yes ++ [n]) no (mergeI all items).1 = .cells [vStr b, .sl 1 (nd.map vStr) false, .own k71 1 (yes.map vStr ++ [vStr n]), .own kn 1 (no.map vStr), .sl 3 ((mergeI all items).1.map sItem) false] from by rw [rlO, List.map_append]; rfl]⟩)⟩
theorem rState_c {X ky kn : Nat} {b : ByteArray} {nd yes no : List ByteArray} {all : List Itm} {σ : Store} (hX : σ.heap X = some (rlO b nd ky kn yes no all)) (hn : nd.length ≤ 1000000) (hy : yes.length ≤ 100000) :
    ACalls Tryz.prog 46 [.ref X 0] σ fun v σ' => v = vInt (rSt nd yes no) ∧ σ = σ' := by
  refine ACalls_of Tryz.func46 rfl Tryz.ntmps46 (congrArg Array.toList Tryz.results46) (by simp only [List.length_cons, List.length_nil]; decide) ?_; simp only [envOf_cons, envOf_nil, Nat.reduceAdd]
  refine awp_seq ?_
  have R := hX
  refine awp_region (by kernel_rfl) ?_
  (refine aL_S rfl rfl v_ ?_)
  refine aL_nil ?_
  refine awp_seq ?_
  refine awp_seq ?_
  have R := hX
  refine awp_region (by kernel_rfl) ?_
  iterate 6 (refine aL_S rfl rfl v_ ?_)
  refine aL_nil ?_
  refine awp_cond v_ (fun hc1 => ?_) (fun hc1 => ?_)
  · replace hc1 := nm_ hc1
    refine awp_seq ?_
    have R := hX
    refine awp_region (by kernel_rfl) ?_
    (refine aL_S rfl rfl v_ ?_)
    refine aL_nil ?_
    refine awp_ret ?_
    refine aEnd_ret (σ' := σ) v_ sub_ ?_
    exact ⟨by rw [rSt, if_pos (by omega)], rfl⟩
  · replace hc1 := nm_ hc1
    have h0 : ¬ 0 < no.length := by omega
    refine awp_skip ?_
    refine awp_seq ?_
    refine awp_seq ?_
    have R := hX
    refine awp_region (by kernel_rfl) ?_
    (refine aL_S rfl rfl v_ ?_)
    refine aL_nil ?_
    refine awp_block ?_
    refine awp_loop_env (ι := Nat) (fun k => nd.length - k) (fun k => k ≤ nd.length ∧ (nd.take k).any (fun x => !hasN yes x) = false) (fun k => [(0, .ref X 0), (3, vInt k)]) (fun k => σ) 0 ?_ ?_ ?_ ?_
    · exact ⟨Nat.zero_le _, rfl⟩
    · exact cv_
    · exact sub_
    rintro k ⟨hk, ha⟩
    simp only [envL_cons, envL_nil]
    refine awp_seq ?_
    refine awp_seq ?_
    have R := hX
    refine awp_region (by kernel_rfl) ?_
    iterate 7 (refine aL_S rfl rfl v_ ?_)
    refine aL_nil ?_
    refine awp_cond v_ (fun hc4 => ?_) (fun hc4 => ?_)
    · replace hc4 := nm_ hc4
      refine awp_skip ?_
      refine awp_seq ?_
      refine awp_block ?_
      refine awp_seq ?_
      obtain ⟨x, hx⟩ := get_some (l := nd) (k := k) (by omega)
      have R := And.intro hX hx
      refine awp_draw (.op 0 0 (.op 1 0 (.op 2 0 (.op 3 0 (.op 4 0 (.op 5 0 (.op 6 0 (.op 7 0 (.op 8 0 (.op 9 0 (.op 10 0 (.op 11 1 (.op 12 0 .nil))))))))))))) Tryz.mixed (by kernel_rfl) ?_
      iterate 11 (refine dR_S o_ (by rfl) (by rfl) v_ ?_)
      refine dR_X o_ (by rfl) (by rfl) (AOp_use (by rfl) (by rfl) (.inr ⟨by rfl, by rfl, by rfl⟩) g_ va_ (rInO_c (s := x) (by omega)) ?_); rintro _ _ ⟨rfl, rfl⟩; refine ⟨sub_, ?_⟩
      (refine dR_S o_ (by rfl) (by rfl) v_ ?_)
      refine dR_nil ?_
      refine awp_cond v_ (fun hc6 => ?_) (fun hc6 => ?_)
      · replace hc6 := nm_ hc6
        refine awp_seq ?_
        have R := hX
        refine awp_region (by kernel_rfl) ?_
        (refine aL_S rfl rfl v_ ?_)
        refine aL_nil ?_
        refine awp_ret ?_
        refine aEnd_ret (σ' := σ) v_ sub_ ?_
        exact ⟨by rw [rSt, if_neg h0, if_pos (any_yes hx (by rw [hc6]; rfl))], rfl⟩
      · replace hc6 := nm_ hc6
        refine awp_skip ?_
        have R := hX
        refine awp_region (by kernel_rfl) ?_
        iterate 3 (refine aL_S rfl rfl v_ ?_)
        refine aL_nil ?_
        refine aNext (ι := Nat) (i := k) (k + 1) ?_ ?_ ?_ ?_
        · omega
        · exact ⟨by omega, any_next hx (by rw [hc6]; rfl) ha⟩
        · exact cv_
        · exact sub_
    · replace hc4 := nm_ hc4
      refine awp_exit ?_
      refine aThen_exit ?_
      refine aThen_exit ?_
      refine aBlock_hit ?_
      refine awp_seq ?_
      have R := hX
      refine awp_region (by kernel_rfl) ?_
      (refine aL_S rfl rfl v_ ?_)
      refine aL_nil ?_
      refine awp_ret ?_
      refine aEnd_ret (σ' := σ) v_ sub_ ?_
      exact ⟨by rw [rSt, if_neg h0, any_end (by omega) ha, if_neg (by simp)], rfl⟩
def rKeysS (b : ByteArray) (nd yes no : List ByteArray) (all : List Itm) : List ByteArray := if rSt nd yes no = 1 then keysA b all else []
theorem rKeys_c {X ky kn : Nat} {b : ByteArray} {nd yes no : List ByteArray} {all : List Itm} {σ : Store} (hX : σ.heap X = some (rlO b nd ky kn yes no all)) (hn : nd.length ≤ 1000000) (hy : yes.length ≤ 100000) (hl : ∀ x ∈ all, ItemSm x) (n1 : all.length ≤ 100000) :
    ACalls Tryz.prog 48 [.ref X 0] σ fun v σ' => v = .sl 1 ((rKeysS b nd yes no all).map vStr) false ∧ σ = σ' := by
  refine ACalls_of Tryz.func48 rfl Tryz.ntmps48 (congrArg Array.toList Tryz.results48) (by simp only [List.length_cons, List.length_nil]; decide) ?_; simp only [envOf_cons, envOf_nil, Nat.reduceAdd]
  refine awp_seq ?_
  refine awp_region (by kernel_rfl) ?_
  (refine aL_S rfl rfl v_ ?_)
  refine aL_nil ?_
  refine awp_seq ?_
  refine awp_seq ?_
  refine awp_region (by kernel_rfl) ?_
  (refine aL_S rfl rfl v_ ?_)
  refine aL_X rfl rfl (AOp_use rfl rfl (.inr ⟨rfl, rfl, rfl⟩) g_ va_ (rState_c hX hn hy) ?_); rintro _ _ ⟨rfl, rfl⟩
  (refine aL_S rfl rfl v_ ?_)
  refine aL_nil ?_
  refine awp_cond v_ (fun hc1 => ?_) (fun hc1 => ?_)
  · replace hc1 := nm_ hc1
    refine awp_seq ?_
    refine awp_region (by kernel_rfl) ?_
    (refine aL_S rfl rfl v_ ?_)
    refine aL_nil ?_
    refine awp_ret ?_
    rw [rKeysS, if_neg hc1]
    exact aEnd_retW (v := .sl 1 [] false) (v' := vNil) va_ (.nil _ _) sub_ ⟨rfl, rfl⟩
  · replace hc1 := nm_ hc1
    have hk1 : rKeysS b nd yes no all = keysA b all := by rw [rKeysS, if_pos hc1]
    refine awp_skip ?_
    refine awp_seq ?_
    refine awp_region (by kernel_rfl) ?_
    refine aL_nilOwn 9 1 rfl rfl rfl (by rfl) fun k3 hk3 => ?_
    refine aL_nil ?_
    refine awp_seq ?_
    refine awp_seq ?_
    refine awp_region (by kernel_rfl) ?_
    (refine aL_S rfl rfl v_ ?_)
    refine aL_nil ?_
    refine awp_block ?_
    refine awp_loop_env (ι := Nat × Nat) (fun ⟨tk, k⟩ => all.length - k) (fun ⟨tk, k⟩ => k ≤ all.length ∧ σ.tok tk = none) (fun ⟨tk, k⟩ => [(0, .ref X 0), (3, .own tk 1 ((keysA b (all.take k)).map vStr)), (4, vInt k)]) (fun ⟨tk, k⟩ => (σ.newTok none tk (9, 1))) (k3, 0) ?_ ?_ ?_ ?_
    · exact ⟨Nat.zero_le _, hk3⟩
    · exact cv_
    · exact Store.Wk.refl _
    rintro ⟨tk, k⟩ ⟨hk, htk⟩
    simp only [envL_cons, envL_nil]
    refine awp_seq ?_
    refine awp_seq ?_
    have R := hX
    refine awp_region (by kernel_rfl) ?_
    iterate 7 (refine aL_S rfl rfl v_ ?_)
    refine aL_nil ?_
    refine awp_cond v_ (fun hc5 => ?_) (fun hc5 => ?_)
    · replace hc5 := nm_ hc5
      refine awp_skip ?_
      refine awp_seq ?_
      refine awp_block ?_
      refine awp_seq ?_
      obtain ⟨x, hx⟩ := get_some (l := all) (k := k) (by omega)
      have sx := hl x (List.mem_of_getElem? hx)
      have hlen : (keysA b (all.take k)).length ≤ k := Nat.le_trans (keysA_len _ _) (by simp; omega)
      have spl := sx.place; have sns := sx.obj.ns
      have R := And.intro hX hx
      refine awp_region (by kernel_rfl) ?_
      iterate 8 (refine aL_S rfl rfl v_ ?_)
      refine aL_X rfl rfl (AOp_use rfl rfl (.inr ⟨rfl, rfl, rfl⟩) g_ va_ (rSplit_c (s := x.place) (by omega)) ?_); rintro _ _ ⟨rfl, rfl⟩
      iterate 7 (refine aL_S rfl rfl v_ ?_)
      refine aL_nil ?_
      refine awp_seq ?_
      have R := And.intro hX hx
      refine awp_region (by kernel_rfl) ?_
      iterate 2 (refine aL_S rfl rfl v_ ?_)
      refine aL_GT rfl rfl v_ rfl vg_ ?_
      refine aL_GT rfl rfl v_ rfl vg_ ?_
      refine aL_GT rfl rfl v_ rfl vg_ ?_
      refine aL_GT rfl rfl v_ rfl vg_ ?_
      refine aL_GT rfl rfl v_ rfl vg_ ?_
      refine aL_GT rfl rfl v_ rfl vg_ ?_
      iterate 2 (refine aL_S rfl rfl v_ ?_)
      refine aL_GT rfl rfl v_ rfl vg_ ?_
      refine aL_GT rfl rfl v_ rfl vg_ ?_
      refine aL_GT rfl rfl v_ rfl vg_ ?_
      refine aL_GT rfl rfl v_ rfl vg_ ?_
      refine aL_GT rfl rfl v_ rfl vg_ ?_
      refine aL_GT rfl rfl v_ rfl vg_ ?_
      refine aL_GT rfl rfl v_ rfl vg_ ?_
      refine aL_GT rfl rfl v_ rfl vg_ ?_
      refine aL_GT rfl rfl v_ rfl vg_ ?_
      refine aL_GTX rfl rfl v_ rfl (fun hb => AOp_useV (by rfl) (by rfl) (.inr ⟨by rfl, by rfl, by rfl⟩) g_ cg_ (rLive_c (by omega))) ?_
      refine aL_GT rfl rfl v_ rfl vg_ ?_
      refine aL_GT rfl rfl v_ rfl vg_ ?_
      (refine aL_S rfl rfl v_ ?_)
      refine aL_nil ?_
      refine awp_cond v_ (fun hc8 => ?_) (fun hc8 => ?_)
      · replace hc8 := nm_ hc8
        have hcov := keysA_yes (b := b) hx (by rw [keyB]; simpa using hc8)
        refine awp_region (by kernel_rfl) ?_
        iterate 2 (refine aL_S rfl rfl v_ ?_)
        refine aL_buildSlice rfl rfl rfl g_ g_ rfl rfl h_ c2_ (by decide) ?_
        refine aL_append rfl rfl rfl g_ g_ v_ h_ v_ c_ (by simp; omega) fun k59 hk59 => ?_
        (refine aL_S rfl rfl v_ ?_)
        refine aL_nil ?_
        refine awp_region (by kernel_rfl) ?_
        iterate 3 (refine aL_S rfl rfl v_ ?_)
        refine aL_nil ?_
        refine aNext (ι := Nat × Nat) (i := ⟨tk, k⟩) (k59, k + 1) ?_ ?_ ?_ ?_
        · show all.length - (k + 1) < all.length - k; omega
        · exact ⟨by show k + 1 ≤ all.length; omega, (newTok_none hk59).2⟩
        · have R := hcov; exact cv_
        · exact sub_
      · replace hc8 := nm_ hc8
        have hcov := keysA_no (b := b) hx (by rcases hc8 with (h | h) | h; simp [keyB, h]; simp [keyB, h]; rw [keyB, decide_eq_false (p := 0 < (((x.obj.sibs.filter live).length : Nat) : Int)) (by simp at h ⊢; first | exact h | omega), Bool.and_false])
        refine awp_skip ?_
        refine awp_region (by kernel_rfl) ?_
        iterate 3 (refine aL_S rfl rfl v_ ?_)
        refine aL_nil ?_
        refine aNext (ι := Nat × Nat) (i := ⟨tk, k⟩) (tk, k + 1) ?_ ?_ ?_ ?_
        · show all.length - (k + 1) < all.length - k; omega
        · exact ⟨by show k + 1 ≤ all.length; omega, htk⟩
        · have R := hcov; exact cv_
        · exact sub_
    · replace hc5 := nm_ hc5
      refine awp_exit ?_
      refine aThen_exit ?_
      refine aThen_exit ?_
      refine aBlock_hit ?_
      refine awp_seq ?_
      obtain rfl : k = all.length := by omega
      rw [List.take_length, ← hk1]
      refine awp_region (by kernel_rfl) ?_
      iterate 2 (refine aL_S rfl rfl v_ ?_)
      refine aL_nil ?_
      refine awp_ret ?_
      exact aEnd_retW (v := .sl 1 ((rKeysS b nd yes no all).map vStr) false) (v' := .own tk 1 ((rKeysS b nd yes no all).map vStr)) va_ (.own1 _ _ _) sub_ ⟨rfl, rfl⟩
def fewAct (l : List Act') : Bool := decide (l.length ≤ 8) && l.all fun a => decide (a.node.size ≤ 100) && fewIt a.items
theorem few38_c {l : List Act'} {t : Bool} {σ : Store} : ACalls Tryz.prog 40 [.sl 3 (l.map sAct) t] σ fun v σ' => v = vB (fewAct l) ∧ σ = σ' := by
  refine ACalls_of Tryz.func40 rfl Tryz.ntmps40 (congrArg Array.toList Tryz.results40) (by simp only [List.length_cons, List.length_nil]; decide) ?_; simp only [envOf_cons, envOf_nil, Nat.reduceAdd]
  refine awp_seq ?_
  refine awp_region (by kernel_rfl) ?_
  (refine aL_S rfl rfl v_ ?_)
  refine aL_nil ?_
  refine awp_seq ?_
  refine awp_seq ?_
  refine awp_region (by kernel_rfl) ?_
  (refine aL_S rfl rfl v_ ?_)
  refine aL_nil ?_
  refine awp_block ?_
  refine awp_loop_env (ι := Nat) (fun k => l.length - k) (fun k => k ≤ l.length ∧ k ≤ 8 ∧ (l.take k).all (fun a => decide (a.node.size ≤ 100) && fewIt a.items) = true) (fun k => [(0, .sl 3 (l.map sAct) t), (3, vInt k)]) (fun k => σ) 0 ?_ ?_ ?_ ?_
  · exact ⟨Nat.zero_le _, by decide, rfl⟩
  · exact cv_
  · exact sub_
  rintro k ⟨hk, hk2, ha⟩
  simp only [envL_cons, envL_nil]
  refine awp_seq ?_
  refine awp_seq ?_
  refine awp_region (by kernel_rfl) ?_
  iterate 5 (refine aL_S rfl rfl v_ ?_)
  refine aL_GT rfl rfl v_ rfl vg_ ?_
  refine aL_GT rfl rfl v_ rfl vg_ ?_
  (refine aL_S rfl rfl v_ ?_)
  refine aL_nil ?_
  refine awp_cond v_ (fun hc2 => ?_) (fun hc2 => ?_)
  · replace hc2 := nm_ hc2
    refine awp_skip ?_
    refine awp_seq ?_
    refine awp_block ?_
    refine awp_seq ?_
    obtain ⟨x, hx⟩ := get_some (l := l) (k := k) (by omega)
    have R := hx
    refine awp_region (by kernel_rfl) ?_
    iterate 8 (refine aL_S rfl rfl v_ ?_)
    refine aL_GF rfl rfl v_ rfl vg_ ?_
    refine aL_GF rfl rfl v_ rfl vg_ ?_
    refine aL_GF rfl rfl v_ rfl vg_ ?_
    refine aL_GF rfl rfl v_ rfl vg_ ?_
    refine aL_GF rfl rfl v_ rfl vg_ ?_
    refine aL_GFX rfl rfl v_ rfl (fun hb => AOp_useV (by rfl) (by rfl) (.inr ⟨by rfl, by rfl, by rfl⟩) g_ cg_ (few29_c)) ?_
    refine aL_GF rfl rfl v_ rfl vg_ ?_
    (refine aL_S rfl rfl v_ ?_)
    refine aL_nil ?_
    refine awp_cond v_ (fun hc4 => ?_) (fun hc4 => ?_)
    · replace hc4 := nm_ hc4
      refine awp_seq ?_
      refine awp_region (by kernel_rfl) ?_
      (refine aL_S rfl rfl v_ ?_)
      refine aL_nil ?_
      refine awp_ret ?_
      refine aEnd_ret (σ' := σ) v_ sub_ ?_
      exact ⟨by rw [fewAct, few_no hx (by rcases hc4 with h | h; rw [decide_eq_false (by omega)]; rfl; rw [h, Bool.and_false])], rfl⟩
    · replace hc4 := nm_ hc4
      refine awp_skip ?_
      refine awp_region (by kernel_rfl) ?_
      iterate 3 (refine aL_S rfl rfl v_ ?_)
      refine aL_nil ?_
      refine aNext (ι := Nat) (i := k) (k + 1) ?_ ?_ ?_ ?_
      · omega
      · exact ⟨by omega, by omega, all_next hx (by rw [hc4.2, decide_eq_true (by omega)]; rfl) ha⟩
      · exact cv_
      · exact sub_
  · replace hc2 := nm_ hc2
    refine awp_exit ?_
    refine aThen_exit ?_
    refine aThen_exit ?_
    refine aBlock_hit ?_
    refine awp_seq ?_
    refine awp_region (by kernel_rfl) ?_
    iterate 4 (refine aL_S rfl rfl v_ ?_)
    refine aL_nil ?_
    refine awp_ret ?_
    refine aEnd_ret (σ' := σ) v_ sub_ ?_
    exact ⟨by rw [fewAct, ← few_yes ha hk (by omega)]; rfl, rfl⟩
end Go.Proofs.YtdgnelnipnjhjaaGreat
end

section
set_option linter.all false
set_option maxRecDepth 100000
namespace Go.Proofs.YtdgnelnipnjhjaaGreat
open Go.Ab
/-- a lister in a store -/
structure L1 (σ S : Store) (g m : Nat) (b : ByteArray) (nd : List ByteArray) (s : Ls) : Prop where
  hg : S.heap g = some (lsO b nd m s.ref s.all)
  hm : S.heap m = some (.map (kvR s.rep))
  ng : σ.heap g = none
  nm : σ.heap m = none
theorem L1.ne {σ S : Store} {g m : Nat} {b : ByteArray} {nd : List ByteArray} {s : Ls} (h : L1 σ S g m b nd s) : g ≠ m := fun hh => by have := h.hg; rw [hh, h.hm] at this; cases this
theorem L1.keep {σ S : Store} {g m o : Nat} {b : ByteArray} {nd : List ByteArray} {s : Ls} {x : AObj} (h : L1 σ S g m b nd s) (h1 : g ≠ o) (h2 : m ≠ o) : L1 σ (S.set o x) g m b nd s :=
  ⟨by rw [Store.set_ne _ _ h1]; exact h.hg, by rw [Store.set_ne _ _ h2]; exact h.hm, h.ng, h.nm⟩
theorem L1.fresh {σ S : Store} {g m o : Nat} {b : ByteArray} {nd : List ByteArray} {s : Ls} {x : AObj} (h : L1 σ S g m b nd s) (ho : S.heap o = none) : L1 σ (S.set o x) g m b nd s := h.keep (ne_of_heap h.hg ho) (ne_of_heap h.hm ho)
theorem L1.step {σ S : Store} {g m : Nat} {b : ByteArray} {nd : List ByteArray} {s s' : Ls} (h : L1 σ S g m b nd s) : L1 σ ((S.set m (.map (kvR s'.rep))).set g (lsO b nd m s'.ref s'.all)) g m b nd s' :=
  ⟨Store.set_get .., by rw [Store.set_ne _ _ (Ne.symm h.ne)]; exact Store.set_get .., h.ng, h.nm⟩
theorem L1.new {σ S : Store} {g m : Nat} {b : ByteArray} {nd : List ByteArray} (hs : SubX [] σ S) (hm : S.heap m = none) (hg : S.heap g = none) (hne : g ≠ m) : L1 σ ((S.set m (.map (kvR []))).set g (lsO b nd m false [])) g m b nd ⟨[], false, []⟩ :=
  ⟨Store.set_get .., by rw [Store.set_ne _ _ (Ne.symm hne)]; exact Store.set_get .., SubX.noObj hs hg (by simp), SubX.noObj hs hm (by simp)⟩
theorem L1.sub {σ S S0 : Store} {g m : Nat} {b : ByteArray} {nd : List ByteArray} {s : Ls} {x y : AObj} (h : L1 σ S g m b nd s) (hs : SubX [] σ S0) : SubX [] σ ((S0.set m x).set g y) := subx_new h.ng (subx_new h.nm hs)
def iP : Itm := ⟨⟨#[98, 47, 107]⟩, zA⟩
def iQ : Itm := ⟨⟨#[99, 47, 107]⟩, zA⟩
abbrev tB : ByteArray := ⟨#[98]⟩
abbrev tN1 : ByteArray := ⟨#[110, 49]⟩
abbrev tN2 : ByteArray := ⟨#[110, 50]⟩
theorem m_PQ : mergeI [] [iP, iQ] = ([iP, iQ], [iP, iQ], 0) := by
  have k1 : itemsOk [] = true := rfl
  have k2 : itemsOk [iP, iQ] = true := by decide +kernel
  rw [mergeI, k1, k2, if_pos (by rfl), mgG_nil]
theorem m_PQ0 : mergeI [iP, iQ] [] = ([iP, iQ], [], 0) := by
  have k1 : itemsOk [] = true := rfl
  have k2 : itemsOk [iP, iQ] = true := by decide +kernel
  rw [mergeI, k1, k2, if_pos (by rfl), mgG_nil2]
theorem has1 : hasSt [tN1, tN2] ⟨[], false, []⟩ tN1 [iP, iQ] = ⟨[tN1], false, [iP, iQ]⟩ := by
  rw [hasSt, show freshB [tN1, tN2] [] tN1 = true from by decide +kernel, if_pos rfl, m_PQ]; rfl
theorem has2 : hasSt [tN1, tN2] ⟨[tN1], false, [iP, iQ]⟩ tN2 [] = ⟨[tN1, tN2], false, [iP, iQ]⟩ := by
  rw [hasSt, show freshB [tN1, tN2] [tN1] tN2 = true from by decide +kernel, if_pos rfl, m_PQ0]; rfl
theorem ref1 : refSt [tN1] ⟨[], false, []⟩ tN1 = ⟨[tN1], true, []⟩ := by
  rw [refSt, show freshB [tN1] [] tN1 = true from by decide +kernel, if_pos rfl]; rfl
theorem st1 : stS [tN1, tN2] ⟨[tN1], false, [iP, iQ]⟩ = 0 := by decide +kernel
theorem st2 : stS [tN1, tN2] ⟨[tN1, tN2], false, [iP, iQ]⟩ = 1 := by decide +kernel
theorem st3 : stS [tN1] ⟨[tN1], true, []⟩ = 2 := by decide +kernel
theorem ky2 : keysS tB [tN1, tN2] ⟨[tN1, tN2], false, [iP, iQ]⟩ = [⟨#[107]⟩] := by decide +kernel
theorem ky3 : keysS tB [tN1] ⟨[tN1], true, []⟩ = [] := by decide +kernel
theorem smP : ∀ x ∈ [iP, iQ], ItemSm x := fun x hx => by
  rcases List.mem_cons.1 hx with rfl | hx
  · exact ⟨by decide, ok_A.sm (by decide)⟩
  · rw [List.mem_singleton.1 hx]; exact ⟨by decide, ok_A.sm (by decide)⟩
set_option maxHeartbeats 4000000 in
theorem awake38_c {σ : Store} : ACalls Tryz.prog 41 [] σ fun v σ' => v = vB true ∧ σ = σ' := by
  have sA := ok_A.sm (by decide)
  have d1 : decide (([⟨#[107]⟩] : List ByteArray) = [⟨#[107]⟩]) = true := decide_eq_true rfl
  refine ACalls_of Tryz.func41 rfl Tryz.ntmps41 (congrArg Array.toList Tryz.results41) (by simp only [List.length_cons, List.length_nil]; decide) ?_; simp only [envOf_cons, envOf_nil, Nat.reduceAdd]
  refine awp_seq ?_
  refine awp_region (by kernel_rfl) ?_
  (refine aL_S rfl rfl v_ ?_)
  refine aL_nil ?_
  refine awp_seq ?_
  refine awp_region (by kernel_rfl) ?_
  iterate 2 (refine aL_S rfl rfl v_ ?_)
  refine aL_X rfl rfl (AOp_use rfl rfl (.inr ⟨rfl, rfl, rfl⟩) g_ va_ (ACalls.wkA (args := [vNil, sSib xA]) (rNew_c (c := []) (t := false) (s := xA) (fun x hx => (List.not_mem_nil hx).elim) (by simp) (sA.sibs xA (.head _))) rfl (fun j hj hj' => by match j, hj with | 0, _ => exact .nil _ _ | 1, _ => exact .refl _)) ?_); rintro _ _ ⟨rfl, rfl⟩
  rw [new_A]
  iterate 3 (refine aL_S rfl rfl v_ ?_)
  refine aL_alloc rfl rfl rfl g_ gl_ fun o1 ho1 => ?_
  repeat (rw [none_set_iff] at ho1; obtain ⟨_, ho1⟩ := ho1)
  refine aL_store rfl rfl rfl v_ v_ h_ g_ rfl g_ c_ (by rfl) le_ v_ ?_
  (refine aL_S rfl rfl v_ ?_)
  refine aL_nil ?_
  skip
  refine awp_gen fun S0 hS => ?_
  have f1 : S0.heap o1 = some (.cells (sObj zA).cells) := by rw [hS]; exact Store.set_get ..
  have s0 : SubX [] σ S0 := by rw [hS]; exact subx_new ho1 (subx_new ho1 subx_refl)
  have n1 : σ.heap o1 = none := ho1
  clear hS
  refine awp_seq ?_
  refine awp_region (by kernel_rfl) ?_
  refine aL_buildSlice rfl rfl rfl g_ g_ rfl rfl h_ c2_ (by decide) ?_
  refine aL_X rfl rfl (AOp_use rfl rfl (.inr ⟨rfl, rfl, rfl⟩) g_ va_ (lNew_c (b := tB) (nd := [tN1, tN2]) (t := true) (by decide)) ?_); rintro _ τ1 ⟨m1, g1, hm1, hg1, hgm1, rfl, rfl⟩
  (refine aL_S rfl rfl v_ ?_)
  refine aL_nil ?_
  skip
  refine awp_gen fun S1 hS => ?_
  have f2 : S1.heap o1 = some (.cells (sObj zA).cells) := by rw [hS, Store.set_ne _ _ (ne_of_heap f1 hg1), Store.set_ne _ _ (ne_of_heap f1 hm1)]; exact f1
  have hL : L1 σ S1 g1 m1 tB [tN1, tN2] ⟨[], false, []⟩ := by rw [hS]; exact L1.new s0 hm1 hg1 hgm1
  have s1 : SubX [] σ S1 := by rw [hS]; exact hL.sub s0
  clear hS
  refine awp_seq ?_
  have R := f2
  refine awp_region (by kernel_rfl) ?_
  iterate 5 (refine aL_S rfl rfl v_ ?_)
  refine aL_buildSlice rfl rfl rfl g_ g_ rfl rfl h_ c2_ (by decide) ?_
  refine aL_X rfl rfl (AOp_use rfl rfl (.inr ⟨rfl, rfl, rfl⟩) g_ va_ (ACalls.wkA (args := [.ref g1 0, vStr tN1, .sl 3 ([iP, iQ].map sItem) true]) (lHas_c (n := tN1) (s := ⟨[], false, []⟩) (items := [iP, iQ]) hL.hg hL.hm (by decide) (fun x hx => (List.not_mem_nil hx).elim) smP (fun x hx => (List.not_mem_nil hx).elim) (by decide) (by decide)) rfl (fun j hj hj' => by match j, hj with | 0, _ => exact .refl _ | 1, _ => exact .refl _ | 2, _ => exact .sl1 _ _ _)) ?_); rintro _ τ2 ⟨rfl, rfl⟩
  refine aL_nil ?_
  skip
  refine awp_gen fun S2 hS => ?_
  replace s1 : SubX [] σ S2 := by rw [hS]; exact hL.sub s1
  replace hL : L1 σ S2 g1 m1 tB [tN1, tN2] ⟨[tN1], false, [iP, iQ]⟩ := by rw [hS, ← has1]; exact hL.step
  clear hS
  refine awp_seq ?_
  refine awp_region (by kernel_rfl) ?_
  (refine aL_S rfl rfl v_ ?_)
  refine aL_X rfl rfl (AOp_use rfl rfl (.inr ⟨rfl, rfl, rfl⟩) g_ va_ (state_c (s := ⟨[tN1], false, [iP, iQ]⟩) hL.hg hL.hm (by decide)) ?_); rintro _ _ ⟨rfl, rfl⟩
  rw [st1]
  (refine aL_S rfl rfl v_ ?_)
  refine aL_nil ?_
  refine awp_seq ?_
  refine awp_region (by kernel_rfl) ?_
  (refine aL_S rfl rfl v_ ?_)
  refine aL_X rfl rfl (AOp_use rfl rfl (.inr ⟨rfl, rfl, rfl⟩) g_ va_ (ACalls.wkA (args := [.ref g1 0, vStr tN2, vNil]) (lHas_c (n := tN2) (s := ⟨[tN1], false, [iP, iQ]⟩) (items := []) hL.hg hL.hm (by decide) smP (fun x hx => (List.not_mem_nil hx).elim) (fun x hx y hy => (List.not_mem_nil hy).elim) (by decide) (by decide)) rfl (fun j hj hj' => by match j, hj with | 0, _ => exact .refl _ | 1, _ => exact .refl _ | 2, _ => exact .nil _ _)) ?_); rintro _ τ3 ⟨rfl, rfl⟩
  refine aL_nil ?_
  skip
  refine awp_gen fun S3 hS => ?_
  replace s1 : SubX [] σ S3 := by rw [hS]; exact hL.sub s1
  replace hL : L1 σ S3 g1 m1 tB [tN1, tN2] ⟨[tN1, tN2], false, [iP, iQ]⟩ := by rw [hS, ← has2]; exact hL.step
  clear hS
  refine awp_seq ?_
  refine awp_region (by kernel_rfl) ?_
  refine aL_buildSlice rfl rfl rfl g_ g_ rfl rfl h_ c2_ (by decide) ?_
  refine aL_X rfl rfl (AOp_use rfl rfl (.inr ⟨rfl, rfl, rfl⟩) g_ va_ (lNew_c (b := tB) (nd := [tN1]) (t := true) (by decide)) ?_); rintro _ τ4 ⟨m2, g2, hm2, hg2, hgm2, rfl, rfl⟩
  (refine aL_S rfl rfl v_ ?_)
  refine aL_nil ?_
  skip
  refine awp_gen fun S4 hS => ?_
  have hL2 : L1 σ S4 g2 m2 tB [tN1] ⟨[], false, []⟩ := by rw [hS]; exact L1.new s1 hm2 hg2 hgm2
  have a1 := ne_of_heap hL.hg hg2; have a2 := ne_of_heap hL.hg hm2; have a3 := ne_of_heap hL.hm hg2; have a4 := ne_of_heap hL.hm hm2
  replace hL : L1 σ S4 g1 m1 tB [tN1, tN2] ⟨[tN1, tN2], false, [iP, iQ]⟩ := by rw [hS]; exact (hL.keep a2 a4).keep a1 a3
  replace s1 : SubX [] σ S4 := by rw [hS]; exact hL2.sub s1
  clear hS
  refine awp_seq ?_
  refine awp_region (by kernel_rfl) ?_
  (refine aL_S rfl rfl v_ ?_)
  refine aL_X rfl rfl (AOp_use rfl rfl (.inr ⟨rfl, rfl, rfl⟩) g_ va_ (refused_c (n := tN1) (s := ⟨[], false, []⟩) hL2.hg hL2.hm (by decide)) ?_); rintro _ τ5 ⟨rfl, rfl⟩
  refine aL_nil ?_
  skip
  refine awp_gen fun S5 hS => ?_
  replace hL : L1 σ S5 g1 m1 tB [tN1, tN2] ⟨[tN1, tN2], false, [iP, iQ]⟩ := by rw [hS]; exact (hL.keep a2 a4).keep a1 a3
  replace s1 : SubX [] σ S5 := by rw [hS]; exact hL2.sub s1
  replace hL2 : L1 σ S5 g2 m2 tB [tN1] ⟨[tN1], true, []⟩ := by rw [hS, ← ref1]; exact hL2.step
  clear hS
  refine awp_seq ?_
  refine awp_region (by kernel_rfl) ?_
  iterate 3 (refine aL_S rfl rfl v_ ?_)
  refine aL_SY (wantedA_yes rfl rfl v_ (by rfl)) rfl v_ ?_
  refine aL_XY (wantedA_yes rfl rfl v_ (by rfl)) rfl (AOp_use rfl rfl (.inr ⟨rfl, rfl, rfl⟩) g_ va_ (state_c (s := ⟨[tN1, tN2], false, [iP, iQ]⟩) hL.hg hL.hm (by decide)) ?_); rintro _ _ ⟨rfl, rfl⟩
  rw [st2]
  refine aL_SY (wantedA_yes rfl rfl v_ (by rfl)) rfl v_ ?_
  iterate 2 (refine aL_S rfl rfl v_ ?_)
  refine aL_SY (wantedA_yes rfl rfl v_ (by rfl)) rfl v_ ?_
  refine aL_XY (wantedA_yes rfl rfl v_ (by rfl)) rfl (AOp_use rfl rfl (.inr ⟨rfl, rfl, rfl⟩) g_ va_ (keys_c (s := ⟨[tN1, tN2], false, [iP, iQ]⟩) hL.hg hL.hm (by decide) smP (by decide)) ?_); rintro _ _ ⟨rfl, rfl⟩
  rw [ky2]
  refine aL_XY (wantedA_yes rfl rfl v_ (by rfl)) rfl (AOp_buildSlice' rfl g_ g_ rfl rfl h_ c2_ (by decide) ?_)
  refine aL_XY (wantedA_yes rfl rfl v_ (by rfl)) rfl (AOp_use rfl rfl (.inr ⟨rfl, rfl, rfl⟩) g_ va_ (sameTx_c (a := [⟨#[107]⟩]) (b := [⟨#[107]⟩]) (by decide) (by decide)) ?_); rintro _ _ ⟨rfl, rfl⟩
  rw [d1]
  iterate 2 (refine aL_S rfl rfl v_ ?_)
  refine aL_SY (wantedA_yes rfl rfl v_ (by rfl)) rfl v_ ?_
  refine aL_XY (wantedA_yes rfl rfl v_ (by rfl)) rfl (AOp_use rfl rfl (.inr ⟨rfl, rfl, rfl⟩) g_ va_ (state_c (s := ⟨[tN1], true, []⟩) hL2.hg hL2.hm (by decide)) ?_); rintro _ _ ⟨rfl, rfl⟩
  rw [st3]
  refine aL_SY (wantedA_yes rfl rfl v_ (by rfl)) rfl v_ ?_
  iterate 2 (refine aL_S rfl rfl v_ ?_)
  refine aL_SY (wantedA_yes rfl rfl v_ (by rfl)) rfl v_ ?_
  refine aL_XY (wantedA_yes rfl rfl v_ (by rfl)) rfl (AOp_use rfl rfl (.inr ⟨rfl, rfl, rfl⟩) g_ va_ (keys_c (s := ⟨[tN1], true, []⟩) hL2.hg hL2.hm (by decide) (fun x hx => (List.not_mem_nil hx).elim) (by decide)) ?_); rintro _ _ ⟨rfl, rfl⟩
  rw [ky3]
  refine aL_SY (wantedA_yes rfl rfl v_ (by rfl)) rfl v_ ?_
  refine aL_SY (wantedA_yes rfl rfl v_ (by rfl)) rfl v_ ?_
  iterate 2 (refine aL_S rfl rfl v_ ?_)
  refine aL_nil ?_
  refine awp_ret ?_
  exact aEnd_ret va_ (subx_start s1) ⟨rfl, rfl⟩
end Go.Proofs.YtdgnelnipnjhjaaGreat
end

section
set_option linter.all false
namespace Go.Ab
open Go.RowKit (Below)
theorem awp_ownCell {P : Program} {n : Nat} {c : Code} {Q : Exit → Env → Store → Prop} {e : Env} {σ : Store} (o i : Nat) {cs : List AVal} (el : TypeId) (sz : Nat) (ho : σ.heap o = some (.cells cs)) (hc : cs[i]? = some (.lit (.slice none 0 0)))
    (hk : ∀ t', σ.tok t' = none → awp P n c Q e ((σ.newTok none t' (el, sz)).set o (.cells (cs.set i (.own t' sz []))))) : awp P n c Q e σ := by
  intro κ a hs
  obtain ⟨t', ht', htok'⟩ := hs.inv.freshTok
  have key : ∃ κ1 : K, κ.Le κ1 ∧ κ1.w = κ.w ∧ κ1.τ t' = some (.slice none 0 0) ∧ Inv κ1 (σ.newTok none t' (el, sz)) := by
    have hle : κ.Le { κ with τ := fun j => if j = t' then some (.slice none 0 0) else κ.τ j } :=
      ⟨rfl, Below.refl _ _, fun _ _ h => h, fun _ _ h => h, fun t v hv => by
        show (if t = t' then _ else _) = _
        rw [if_neg (fun hh => by rw [hh, ht'] at hv; cases hv)]; exact hv, fun _ => Nat.le_refl _, fun _ _ _ _ h => h, Nat.le_refl _⟩
    exact ⟨_, hle, rfl, by simp, hs.inv.tokStep hle rfl rfl (fun _ _ => rfl) (fun _ _ _ => rfl) ⟨0, [], OwnsRow.nil _ _ _ _, by simp [tokBlock]⟩ (by simp [tokBlock])⟩
  obtain ⟨κ1, hle, hw, hτ, hI⟩ := key
  obtain ⟨b, hb, hbase, hIb, ct, el', hh, hn, hv⟩ := hI.heap o (.cells cs) ho
  have hil := (List.getElem?_eq_some_iff.1 hc).1
  have hci := (List.getElem?_eq_some_iff.1 hc).2
  have hI2 : Inv κ1 ((σ.newTok none t' (el, sz)).set o (.cells (cs.set i (.own t' sz [])))) := hI.step (κ' := κ1) (.refl _) rfl rfl hI.frO b hbase hIb (fun _ _ _ => rfl) o (.cells (cs.set i (.own t' sz []))) (fun _ _ => rfl) hb ⟨ct, el', hh, by rw [List.length_set]; exact hn, fun j hj => by
      have hj' : j < cs.length := by rwa [List.length_set] at hj
      by_cases hji : i = j
      · subst hji
        rw [List.getElem_set_self]
        have h1 := hv i hj'
        rw [hci] at h1
        rw [h1.litInv]
        exact .own t' sz [] _ (.slNil _ _) hτ
      · rw [List.getElem_set_ne hji]
        exact hv j hj'⟩
    (fun o' x hx hne hh => hne (hI.inj o' o x _ b hx ho hh hb))
    (fun t sz v ht hv hh => hI.tokobj t sz v b o _ ht hv hh ho hb)
  have h2 := hk t' htok' κ1 a ⟨hs.defers, hs.size, fun k => (hs.env k).mono hle, hI2⟩
  rw [hw] at h2
  exact wp_mono h2 fun _ _ _ ho => ho.up hle
end Go.Ab
end

section
set_option linter.all false
set_option maxRecDepth 100000
namespace Go.Proofs.YtdgnelnipnjhjaaGreat
open Go.Ab
set_option maxHeartbeats 1000000 in
theorem listerNobody_c {a : Act'} {σ : Store} : ACalls Tryz.prog 9 [sAct a] σ fun v σ' => v = vB true ∧ σ = σ' := by
  refine ACalls_of Tryz.func9 rfl Tryz.ntmps9 (congrArg Array.toList Tryz.results9) (by simp only [List.length_cons, List.length_nil]; decide) ?_; simp only [envOf_cons, envOf_nil, Nat.reduceAdd]
  refine awp_seq ?_
  refine awp_region (by kernel_rfl) ?_
  refine aL_box rfl rfl rfl v_ rfl g_ fun o1 ho1 => ?_
  repeat (rw [none_set_iff] at ho1; obtain ⟨_, ho1⟩ := ho1)
  (refine aL_S rfl rfl v_ ?_)
  refine aL_nil ?_
  refine awp_seq ?_
  refine awp_seq ?_
  refine awp_region (by kernel_rfl) ?_
  (refine aL_S rfl rfl v_ ?_)
  refine aL_buildSlice rfl rfl rfl g_ g_ rfl rfl h_ c2_ (by decide) ?_
  refine aL_X rfl rfl (AOp_use rfl rfl (.inr ⟨rfl, rfl, rfl⟩) g_ va_ (few38_c (l := [a])) ?_); rintro _ _ ⟨rfl, rfl⟩
  (refine aL_S rfl rfl v_ ?_)
  refine aL_nil ?_
  refine awp_cond v_ (fun hc1 => ?_) (fun hc1 => ?_)
  · replace hc1 := nm_ hc1
    refine awp_seq ?_
    refine awp_region (by kernel_rfl) ?_
    refine aL_X rfl rfl (AOp_use rfl rfl (.inr ⟨rfl, rfl, rfl⟩) g_ va_ (awake38_c) ?_); rintro _ _ ⟨rfl, rfl⟩
    (refine aL_S rfl rfl v_ ?_)
    refine aL_nil ?_
    refine awp_ret ?_
    refine aEnd_ret (σ' := σ) v_ sub_ ?_
    exact ⟨rfl, rfl⟩
  · replace hc1 := nm_ hc1
    refine awp_skip ?_
    refine awp_seq ?_
    refine awp_region (by kernel_rfl) ?_
    (refine aL_S rfl rfl v_ ?_)
    refine aL_box rfl rfl rfl v_ rfl g_ fun o11 ho11 => ?_
    repeat (rw [none_set_iff] at ho11; obtain ⟨_, ho11⟩ := ho11)
    refine aL_buildSlice rfl rfl rfl g_ g_ rfl rfl h_ c2_ (by decide) ?_
    (refine aL_S rfl rfl v_ ?_)
    refine aL_nil ?_
    refine awp_seq ?_
    refine awp_seq ?_
    refine awp_region (by kernel_rfl) ?_
    (refine aL_S rfl rfl v_ ?_)
    refine aL_nil ?_
    refine awp_block ?_
    refine awp_loop_env (ι := Nat) (fun k => 2 - k) (fun k => k ≤ 2) (fun k => [(1, .ref o1 0), (3, .sl 1 [.lit (.pointer none), .ref o11 0] true), (4, vInt k)]) (fun k => ((σ.set o1 (.cells (sAct a).cells)).set o11 (.cells zLs))) 0 ?_ ?_ ?_ ?_
    · exact Nat.zero_le _
    · exact cv_
    · exact sub_
    rintro k hk
    simp only [envL_cons, envL_nil]
    refine awp_seq ?_
    refine awp_seq ?_
    refine awp_region (by kernel_rfl) ?_
    iterate 4 (refine aL_S rfl rfl v_ ?_)
    refine aL_nil ?_
    refine awp_cond v_ (fun hc5 => ?_) (fun hc5 => ?_)
    · replace hc5 := nm_ hc5
      refine awp_skip ?_
      refine awp_seq ?_
      refine awp_block ?_
      refine awp_seq ?_
      rcases (show k = 0 ∨ k = 1 by omega) with rfl | rfl
      · have hgz : ((σ.set o1 (.cells (sAct a).cells)).set o11 (.cells zLs)).heap o11 = some (.cells zLs) := Store.set_get ..
        refine awp_draw (.op 0 0 (.op 1 0 (.op 2 0 (.op 3 0 (.op 4 0 (.op 5 2 .nil)))))) Tryz.mixed (by kernel_rfl) ?_
        iterate 5 (refine dR_S o_ (by rfl) (by rfl) v_ ?_)
        refine dR_T o_ (by rfl) (by rfl) (AOp_use (by rfl) (by rfl) (.inr ⟨by rfl, by rfl, by rfl⟩) g_ va_ (by first | exact do_nil | exact do_z hgz) ?_); rintro _ _ ⟨rfl, rfl⟩
        refine dR_nil ?_
        refine awp_seq ?_
        refine awp_region (by kernel_rfl) ?_
        iterate 4 (refine aL_S rfl rfl v_ ?_)
        refine aL_X rfl rfl (AOp_use rfl rfl (.inr ⟨rfl, rfl, rfl⟩) g_ va_ (by first | exact state_nil | exact state_z hgz) ?_); rintro _ _ ⟨rfl, rfl⟩
        iterate 2 (refine aL_S rfl rfl v_ ?_)
        refine aL_GF rfl rfl v_ rfl vg_ ?_
        refine aL_GF rfl rfl v_ rfl vg_ ?_
        refine aL_GF rfl rfl v_ rfl vg_ ?_
        refine aL_GF rfl rfl v_ rfl vg_ ?_
        refine aL_GFX rfl rfl v_ rfl (fun hb => AOp_useV (by rfl) (by rfl) (.inr ⟨by rfl, by rfl, by rfl⟩) g_ cg_ (by first | exact keys_nil | exact keys_z hgz)) ?_
        refine aL_GF rfl rfl v_ rfl vg_ ?_
        refine aL_GF rfl rfl v_ rfl vg_ ?_
        (refine aL_S rfl rfl v_ ?_)
        refine aL_nil ?_
        refine awp_cond v_ (fun hc8 => ?_) (fun hc8 => ?_)
        · replace hc8 := nm_ hc8
          simp at hc8
        · replace hc8 := nm_ hc8
          refine awp_skip ?_
          refine awp_region (by kernel_rfl) ?_
          iterate 3 (refine aL_S rfl rfl v_ ?_)
          refine aL_nil ?_
          refine aNext (ι := Nat) (i := 0) 1 ?_ ?_ ?_ ?_
          · decide
          · decide
          · exact cv_
          · exact sub_
      · have hgz : ((σ.set o1 (.cells (sAct a).cells)).set o11 (.cells zLs)).heap o11 = some (.cells zLs) := Store.set_get ..
        refine awp_draw (.op 0 0 (.op 1 0 (.op 2 0 (.op 3 0 (.op 4 0 (.op 5 2 .nil)))))) Tryz.mixed (by kernel_rfl) ?_
        iterate 5 (refine dR_S o_ (by rfl) (by rfl) v_ ?_)
        refine dR_T o_ (by rfl) (by rfl) (AOp_use (by rfl) (by rfl) (.inr ⟨by rfl, by rfl, by rfl⟩) g_ va_ (by first | exact do_nil | exact do_z hgz) ?_); rintro _ _ ⟨rfl, rfl⟩
        refine dR_nil ?_
        refine awp_seq ?_
        refine awp_region (by kernel_rfl) ?_
        iterate 4 (refine aL_S rfl rfl v_ ?_)
        refine aL_X rfl rfl (AOp_use rfl rfl (.inr ⟨rfl, rfl, rfl⟩) g_ va_ (by first | exact state_nil | exact state_z hgz) ?_); rintro _ _ ⟨rfl, rfl⟩
        iterate 2 (refine aL_S rfl rfl v_ ?_)
        refine aL_GF rfl rfl v_ rfl vg_ ?_
        refine aL_GF rfl rfl v_ rfl vg_ ?_
        refine aL_GF rfl rfl v_ rfl vg_ ?_
        refine aL_GF rfl rfl v_ rfl vg_ ?_
        refine aL_GFX rfl rfl v_ rfl (fun hb => AOp_useV (by rfl) (by rfl) (.inr ⟨by rfl, by rfl, by rfl⟩) g_ cg_ (by first | exact keys_nil | exact keys_z hgz)) ?_
        refine aL_GF rfl rfl v_ rfl vg_ ?_
        refine aL_GF rfl rfl v_ rfl vg_ ?_
        (refine aL_S rfl rfl v_ ?_)
        refine aL_nil ?_
        refine awp_cond v_ (fun hc8 => ?_) (fun hc8 => ?_)
        · replace hc8 := nm_ hc8
          simp at hc8
        · replace hc8 := nm_ hc8
          refine awp_skip ?_
          refine awp_region (by kernel_rfl) ?_
          iterate 3 (refine aL_S rfl rfl v_ ?_)
          refine aL_nil ?_
          refine aNext (ι := Nat) (i := 1) 2 ?_ ?_ ?_ ?_
          · decide
          · decide
          · exact cv_
          · exact sub_
    · replace hc5 := nm_ hc5
      refine awp_exit ?_
      refine aThen_exit ?_
      refine aThen_exit ?_
      refine aBlock_hit ?_
      refine awp_seq ?_
      refine awp_region (by kernel_rfl) ?_
      refine aL_X rfl rfl (AOp_use rfl rfl (.inr ⟨rfl, rfl, rfl⟩) g_ va_ (awake38_c) ?_); rintro _ _ ⟨rfl, rfl⟩
      (refine aL_S rfl rfl v_ ?_)
      refine aL_nil ?_
      refine awp_ret ?_
      refine aEnd_ret (σ' := σ) v_ sub_ ?_
      exact ⟨rfl, rfl⟩
/-! ### sizes -/
theorem mergeS_len (a b : Obj') : (mergeS a b).1.ctx.length ≤ a.ctx.length + b.ctx.length ∧ (mergeS a b).1.sibs.length ≤ a.sibs.length + b.sibs.length := by
  unfold mergeS
  split
  · rename_i hk
    rw [Bool.and_eq_true] at hk
    split
    · rename_i hj
      have ga := objOk_iff.1 hk.1; have gb := objOk_iff.1 hk.2
      have hjj : (joinS a.ctx b.ctx).1 = joinAll a.ctx b.ctx := by
        have ca : ctxOk a.ctx = true := ctxOk_iff.2 ⟨ga.1.ctx, ga.2⟩
        have cb : ctxOk b.ctx = true := ctxOk_iff.2 ⟨gb.1.ctx, gb.2⟩
        cases h : ctxOk (joinAll a.ctx b.ctx) with
        | true => simp [joinS, ca, cb, h]
        | false => simp [joinS, ca, cb, h] at hj
      refine ⟨?_, mergeL_len a b⟩
      show (joinS a.ctx b.ctx).1.length ≤ _
      rw [hjj]; exact joinAll_len a.ctx b.ctx
    · exact ⟨Nat.zero_le _, Nat.zero_le _⟩
  · exact ⟨Nat.zero_le _, Nat.zero_le _⟩
theorem mgG_all {Q : Itm → Prop} : ∀ (k : Nat) (l os : List Itm), l.length + os.length ≤ k → (∀ x ∈ l, Q x) → (∀ x ∈ os, Q x) → (∀ x ∈ l, ∀ y ∈ os, Q ⟨x.place, (mergeS x.obj y.obj).1⟩) → ∀ z ∈ (mgG l os).1, Q z
  | k, [], os, _, _, h2, _ => by rw [mgG_nil]; exact h2
  | k, a :: l, [], _, h1, _, _ => by rw [mgG_nil2]; exact h1
  | 0, a :: l, b :: os, hk, _, _, _ => by simp at hk
  | k + 1, a :: l, b :: os, hk, h1, h2, h3 => by
    have i1 := mgG_all k l (b :: os) (by simp at hk ⊢; omega) (fun x hx => h1 x (.tail _ hx)) h2 fun x hx y hy => h3 x (.tail _ hx) y hy
    have i2 := mgG_all k (a :: l) os (by simp at hk ⊢; omega) h1 (fun x hx => h2 x (.tail _ hx)) fun x hx y hy => h3 x hx y (.tail _ hy)
    have i3 := mgG_all k l os (by simp at hk ⊢; omega) (fun x hx => h1 x (.tail _ hx)) (fun x hx => h2 x (.tail _ hx)) fun x hx y hy => h3 x (.tail _ hx) y (.tail _ hy)
    have cons : ∀ {x : Itm} {m : List Itm}, Q x → (∀ y ∈ m, Q y) → ∀ y ∈ x :: m, Q y := fun hx hm y hy => by
      rcases List.mem_cons.1 hy with rfl | hy
      · exact hx
      · exact hm y hy
    rw [mgG]
    split
    · split
      · exact cons (h1 a (.head _)) i1
      · exact fun x hx => (List.not_mem_nil hx).elim
    · split
      · split
        · exact cons (h2 b (.head _)) i2
        · exact fun x hx => (List.not_mem_nil hx).elim
      · split
        · exact fun x hx => (List.not_mem_nil hx).elim
        · split
          · exact cons (h3 a (.head _) b (.head _)) i3
          · exact fun x hx => (List.not_mem_nil hx).elim
structure SzL (k : Nat) (l : List Itm) : Prop where
  it : ∀ x ∈ l, x.place.size ≤ 100 ∧ ObjSm x.obj ∧ x.obj.ctx.length ≤ 12 * k ∧ x.obj.sibs.length ≤ 12 * k
  len : l.length ≤ 8 * k
theorem SzL.nil : SzL 0 [] := ⟨fun x hx => (List.not_mem_nil hx).elim, Nat.zero_le _⟩
theorem SzL.up {k : Nat} {l : List Itm} (h : SzL k l) : SzL (k + 1) l := ⟨fun x hx => by obtain ⟨h1, h2, h3, h4⟩ := h.it x hx; exact ⟨h1, h2, by omega, by omega⟩, by have := h.len; omega⟩
theorem SzL.sm {k : Nat} {l : List Itm} (h : SzL k l) : ∀ x ∈ l, ItemSm x := fun x hx => ⟨by have := (h.it x hx).1; omega, (h.it x hx).2.1⟩
theorem SzL.hM {k : Nat} {l os : List Itm} (h : SzL k l) (ho : fewIt os = true) (hk : k ≤ 8) : ∀ x ∈ l, ∀ y ∈ os, ObjSm (mergeS x.obj y.obj).1 := fun x hx y hy => by
  obtain ⟨_, _, h3, h4⟩ := h.it x hx
  have f := (fewIt_sm ho).2.2 y hy
  exact mergeS_sm (by have := f.1.1; omega) (by have := f.2.1; omega)
theorem fewIt_place {l : List Itm} (h : fewIt l = true) : ∀ x ∈ l, x.place.size ≤ 100 := fun x hx => by
  simp only [fewIt, Bool.and_eq_true, decide_eq_true_eq, List.all_eq_true] at h
  exact (h.2 x hx).1
theorem SzL.merge {k : Nat} {l os : List Itm} (h : SzL k l) (ho : fewIt os = true) (hk : k ≤ 8) : SzL (k + 1) (mergeI l os).1 := by
  have hM := h.hM ho hk
  obtain ⟨n8, so, fo⟩ := fewIt_sm ho
  have hl := (mergeI_sm (fun x hx => (h.it x hx).2.1) (fun x hx => (so x hx).obj) hM).2.2.1
  refine ⟨?_, by have := h.len; omega⟩
  unfold mergeI
  split
  · refine mgG_all (Q := fun x => x.place.size ≤ 100 ∧ ObjSm x.obj ∧ x.obj.ctx.length ≤ 12 * (k + 1) ∧ x.obj.sibs.length ≤ 12 * (k + 1)) _ l os (Nat.le_refl _) (fun x hx => (h.up).it x hx) (fun x hx => ⟨fewIt_place ho x hx, (so x hx).obj, by have := (fo x hx).1.1; omega, by have := (fo x hx).2.1; omega⟩) fun x hx y hy => ?_
    obtain ⟨h1, _, h3, h4⟩ := h.it x hx
    have f := fo y hy
    obtain ⟨m1, m2⟩ := mergeS_len x.obj y.obj
    exact ⟨h1, hM x hx y hy, by have := f.1.1; show (mergeS x.obj y.obj).1.ctx.length ≤ _; omega, by have := f.2.1; show (mergeS x.obj y.obj).1.sibs.length ≤ _; omega⟩
  · exact fun x hx => (List.not_mem_nil hx).elim
/-! ### both listers -/
theorem do_no {nd : List ByteArray} {a : Act'} {s : Ls} (h : freshB nd s.rep a.node = false) : doSt nd a s = s := by unfold doSt hasSt refSt; rw [h]; simp
theorem do_ref {nd : List ByteArray} {a : Act'} {s : Ls} (h : freshB nd s.rep a.node = true) (h2 : a.kind ≠ 1 ∨ (mergeI s.all a.items).2.2 ≠ 0) : doSt nd a s = ⟨s.rep ++ [a.node], true, s.all⟩ := by
  unfold doSt hasSt refSt
  rw [h, if_pos rfl, if_pos rfl]
  split
  · rename_i hk
    rw [if_neg (by rcases h2 with h2 | h2; exact absurd hk h2; exact h2)]
  · rfl
theorem do_yes {nd : List ByteArray} {a : Act'} {s : Ls} (h : freshB nd s.rep a.node = true) (h1 : a.kind = 1) (h2 : (mergeI s.all a.items).2.2 = 0) : doSt nd a s = ⟨s.rep ++ [a.node], s.ref, (mergeI s.all a.items).1⟩ := by
  unfold doSt hasSt
  rw [h, if_pos h1, if_pos rfl, if_pos h2]
theorem SzL.do {nd : List ByteArray} {a : Act'} {s : Ls} {k : Nat} (h : SzL k s.all) (ho : fewIt a.items = true) (hk : k ≤ 8) : SzL (k + 1) (doSt nd a s).all := by
  cases hf : freshB nd s.rep a.node with
  | false => rw [do_no hf]; exact h.up
  | true =>
    by_cases h1 : a.kind = 1
    · by_cases h2 : (mergeI s.all a.items).2.2 = 0
      · rw [do_yes hf h1 h2]; exact h.merge ho hk
      · rw [do_ref hf (.inr h2)]; exact h.up
    · rw [do_ref hf (.inl h1)]; exact h.up
structure Rl (s : Ls) (yes no : List ByteArray) : Prop where
  mem : ∀ x, hasN s.rep x = (hasN yes x || hasN no x)
  ref : s.ref = decide (0 < no.length)
theorem Rl.fresh {s : Ls} {yes no : List ByteArray} (h : Rl s yes no) (nd : List ByteArray) (n : ByteArray) : freshB nd s.rep n = freshR nd yes no n := by
  rw [freshB, freshR, h.mem]; cases hasN nd n <;> cases hasN yes n <;> cases hasN no n <;> rfl
theorem Rl.st {s : Ls} {yes no : List ByteArray} (h : Rl s yes no) (nd : List ByteArray) : rSt nd yes no = stS nd s := by
  unfold rSt stS
  rw [h.ref]
  by_cases h0 : 0 < no.length
  · simp [h0]
  · obtain rfl : no = [] := List.eq_nil_of_length_eq_zero (by omega)
    have e : ∀ x, hasN s.rep x = hasN yes x := fun x => by rw [h.mem]; simp [hasN]
    simp [e]
theorem hasN_app (l : List ByteArray) (n x : ByteArray) : hasN (l ++ [n]) x = (hasN l x || decide (n = x)) := by simp [hasN]
structure R1 (σ S : Store) (X ky kn : Nat) (b : ByteArray) (nd yes no : List ByteArray) (all : List Itm) : Prop where
  hX : S.heap X = some (rlO b nd ky kn yes no all)
  ty : S.tok ky = some pStr
  tn : S.tok kn = some pStr
  ne : ky ≠ kn
  nX : σ.heap X = none
  ny : σ.tok ky = none
  nn : σ.tok kn = none
theorem R1.keep {σ S : Store} {X ky kn o : Nat} {b : ByteArray} {nd yes no : List ByteArray} {all : List Itm} {x : AObj} (h : R1 σ S X ky kn b nd yes no all) (ho : X ≠ o) : R1 σ (S.set o x) X ky kn b nd yes no all := ⟨by rw [Store.set_ne _ _ ho]; exact h.hX, h.ty, h.tn, h.ne, h.nX, h.ny, h.nn⟩
theorem own_other' {S : Store} {t k j : Nat} {p q : TypeId × Nat} (h1 : j ≠ t) (h2 : j ≠ k) (hj : S.tok j = some q) : (S.newTok (some t) k p).tok j = some q := by
  simp only [Store.newTok]; rw [if_neg h2, if_neg (by simpa using h1)]; exact hj
theorem L1.X {σ S : Store} {g m X ky kn : Nat} {b b' : ByteArray} {nd nd' yes no : List ByteArray} {s : Ls} {all : List Itm} (h : L1 σ S g m b nd s) (hX : S.heap X = some (rlO b' nd' ky kn yes no all)) : g ≠ X ∧ m ≠ X := by
  refine ⟨fun hh => ?_, fun hh => ?_⟩
  · have := h.hg; rw [hh, hX] at this; simp at this
  · have := h.hm; rw [hh, hX] at this; cases this
theorem ans_step {σ S S' : Store} {g m X ky kn : Nat} {b : ByteArray} {nd yes no : List ByteArray} {s : Ls} {a : Act'} (hL : L1 σ S g m b nd (doSt nd a s)) (hR : R1 σ S X ky kn b nd yes no s.all) (hrel : Rl s yes no) (hs : SubX [] σ S)
    (h : (freshR nd yes no a.node = false ∧ S' = S) ∨
      (freshR nd yes no a.node = true ∧ (a.kind ≠ 1 ∨ (mergeI s.all a.items).2.2 ≠ 0) ∧ ∃ k, S.tok k = none ∧ S' = (S.newTok (some kn) k pStr).set X (rlO b nd ky k yes (no ++ [a.node]) s.all)) ∨
      (freshR nd yes no a.node = true ∧ a.kind = 1 ∧ (mergeI s.all a.items).2.2 = 0 ∧ ∃ k, S.tok k = none ∧ S' = (S.newTok (some ky) k pStr).set X (rlO b nd k kn (yes ++ [a.node]) no (mergeI s.all a.items).1))) :
    ∃ ky' kn' yes' no', L1 σ S' g m b nd (doSt nd a s) ∧ R1 σ S' X ky' kn' b nd yes' no' (doSt nd a s).all ∧ Rl (doSt nd a s) yes' no' ∧ SubX [] σ S' ∧ yes'.length ≤ yes.length + 1 ∧ no'.length ≤ no.length + 1 := by
  have hgX := hL.X hR.hX
  rcases h with ⟨hf, rfl⟩ | ⟨hf, h2, k, hk, rfl⟩ | ⟨hf, h1, h2, k, hk, rfl⟩
  · rw [← hrel.fresh] at hf
    rw [do_no hf] at hL ⊢
    exact ⟨ky, kn, yes, no, hL, hR, hrel, hs, by omega, by omega⟩
  · rw [← hrel.fresh] at hf
    have d1 : ky ≠ k := fun hh => by have := hR.ty; rw [hh, hk] at this; cases this
    refine ⟨ky, k, yes, no ++ [a.node], ⟨by rw [Store.set_ne _ _ hgX.1]; exact hL.hg, by rw [Store.set_ne _ _ hgX.2]; exact hL.hm, hL.ng, hL.nm⟩, ?_, ?_, subx_new hR.nX (SubX.newTok hs (fun j hj => by cases hj; exact hR.nn) hk), by omega, by simp⟩
    · rw [do_ref hf h2]
      exact ⟨Store.set_get .., own_other' hR.ne d1 hR.ty, Store.newTok_get .., d1, hR.nX, hR.ny, SubX.noTok hs hk⟩
    · rw [do_ref hf h2]
      refine ⟨fun x => ?_, by simp⟩
      show hasN (s.rep ++ [a.node]) x = _
      rw [hasN_app, hasN_app, hrel.mem, Bool.or_assoc]
  · rw [← hrel.fresh] at hf
    have d1 : kn ≠ k := fun hh => by have := hR.tn; rw [hh, hk] at this; cases this
    refine ⟨k, kn, yes ++ [a.node], no, ⟨by rw [Store.set_ne _ _ hgX.1]; exact hL.hg, by rw [Store.set_ne _ _ hgX.2]; exact hL.hm, hL.ng, hL.nm⟩, ?_, ?_, subx_new hR.nX (SubX.newTok hs (fun j hj => by cases hj; exact hR.ny) hk), by simp, by omega⟩
    · rw [do_yes hf h1 h2]
      exact ⟨Store.set_get .., Store.newTok_get .., own_other' (Ne.symm hR.ne) d1 hR.tn, Ne.symm d1, hR.nX, SubX.noTok hs hk, hR.nn⟩
    · rw [do_yes hf h1 h2]
      refine ⟨fun x => ?_, hrel.ref⟩
      show hasN (s.rep ++ [a.node]) x = _
      rw [hasN_app, hasN_app, hrel.mem]
      cases hasN yes x <;> cases hasN no x <;> simp
theorem fewAct_it {l : List Act'} (h : fewAct l = true) : l.length ≤ 8 ∧ ∀ a ∈ l, fewIt a.items = true := by
  simp only [fewAct, Bool.and_eq_true, decide_eq_true_eq, List.all_eq_true] at h
  exact ⟨h.1, fun a ha => (h.2 a ha).2⟩
theorem fewTx_len {l : List ByteArray} (h : fewTx l = true) : l.length ≤ 20 := by
  simp only [fewTx, Bool.and_eq_true, decide_eq_true_eq] at h
  exact h.1
set_option maxHeartbeats 4000000 in
theorem listerPlays_c {b : ByteArray} {nd : List ByteArray} {l : List Act'} {σ : Store} : ACalls Tryz.prog 7 [vStr b, .sl 1 (nd.map vStr) false, .sl 3 (l.map sAct) false] σ fun v σ' => v = vB true ∧ σ = σ' := by
  refine ACalls_of Tryz.func7 rfl Tryz.ntmps7 (congrArg Array.toList Tryz.results7) (by simp only [List.length_cons, List.length_nil]; decide) ?_; simp only [envOf_cons, envOf_nil, Nat.reduceAdd]
  refine awp_seq ?_
  refine awp_region (by kernel_rfl) ?_
  (refine aL_S rfl rfl v_ ?_)
  refine aL_nil ?_
  refine awp_seq ?_
  refine awp_seq ?_
  refine awp_region (by kernel_rfl) ?_
  iterate 4 (refine aL_S rfl rfl v_ ?_)
  refine aL_GF rfl rfl v_ rfl vg_ ?_
  refine aL_GFX rfl rfl v_ rfl (fun hb => AOp_useV (by rfl) (by rfl) (.inr ⟨by rfl, by rfl, by rfl⟩) g_ cg_ (fewTx_c)) ?_
  refine aL_GF rfl rfl v_ rfl vg_ ?_
  iterate 2 (refine aL_S rfl rfl v_ ?_)
  refine aL_GF rfl rfl v_ rfl vg_ ?_
  refine aL_GFX rfl rfl v_ rfl (fun hb => AOp_useV (by rfl) (by rfl) (.inr ⟨by rfl, by rfl, by rfl⟩) g_ cg_ (few38_c)) ?_
  refine aL_GF rfl rfl v_ rfl vg_ ?_
  (refine aL_S rfl rfl v_ ?_)
  refine aL_nil ?_
  refine awp_cond v_ (fun hc1 => ?_) (fun hc1 => ?_)
  · replace hc1 := nm_ hc1
    refine awp_seq ?_
    refine awp_region (by kernel_rfl) ?_
    refine aL_X rfl rfl (AOp_use rfl rfl (.inr ⟨rfl, rfl, rfl⟩) g_ va_ (awake38_c) ?_); rintro _ _ ⟨rfl, rfl⟩
    (refine aL_S rfl rfl v_ ?_)
    refine aL_nil ?_
    refine awp_ret ?_
    refine aEnd_ret (σ' := σ) v_ sub_ ?_
    exact ⟨rfl, rfl⟩
  · replace hc1 := nm_ hc1
    have hnd := fewTx_len hc1.1.2
    obtain ⟨hl8, hit⟩ := fewAct_it hc1.2
    refine awp_skip ?_
    refine awp_seq ?_
    refine awp_region (by kernel_rfl) ?_
    iterate 2 (refine aL_S rfl rfl v_ ?_)
    refine aL_X rfl rfl (AOp_use rfl rfl (.inr ⟨rfl, rfl, rfl⟩) g_ va_ (lNew_c (b := b) (nd := nd) (by omega)) ?_); rintro _ τ0 ⟨m, g, hm, hg, hgm, rfl, rfl⟩
    iterate 3 (refine aL_S rfl rfl v_ ?_)
    refine aL_box rfl rfl rfl v_ rfl g_ fun o30 ho30 => ?_
    repeat (rw [none_set_iff] at ho30; obtain ⟨_, ho30⟩ := ho30)
    iterate 2 (refine aL_S rfl rfl v_ ?_)
    refine aL_nil ?_
    skip
    have hL0 : L1 σ ((σ.set m (.map (kvR []))).set g (lsO b nd m false [])) g m b nd ⟨[], false, []⟩ := L1.new subx_refl hm hg hgm
    have sb0 : SubX [] σ ((σ.set m (.map (kvR []))).set g (lsO b nd m false [])) := hL0.sub subx_refl
    have nX : σ.heap o30 = none := ho30
    refine awp_ownCell o30 2 (9) 1 (Store.set_get ..) rfl fun ky hky => ?_
    refine awp_ownCell o30 3 (9) 1 (Store.set_get ..) rfl fun kn hkn => ?_
    refine awp_wkCells o30 [vStr b, .sl 1 (nd.map vStr) false, .own ky 1 [], .own kn 1 [], .sl 3 [] false] (Store.set_get ..) ⟨.refl _, .refl _, .refl _, .refl _, .nil _ _, trivial⟩ ?_
    have hkk := newTok_none hkn
    refine awp_gen fun S0 hS => ?_
    have hL : L1 σ S0 g m b nd ⟨[], false, []⟩ := by
      have h1 : g ≠ o30 := Ne.symm (by assumption)
      have h2 : m ≠ o30 := Ne.symm (by assumption)
      rw [hS]
      refine ⟨?_, ?_, hL0.ng, hL0.nm⟩
      · rw [Store.set_ne _ _ h1, Store.set_ne _ _ h1]; exact ((hL0.keep (x := _) h1 h2).keep (x := _) h1 h2).hg
      · rw [Store.set_ne _ _ h2, Store.set_ne _ _ h2]; exact ((hL0.keep (x := _) h1 h2).keep (x := _) h1 h2).hm
    have hR : R1 σ S0 o30 ky kn b nd [] [] [] := by
      rw [hS]
      refine ⟨Store.set_get .., ?_, ?_, Ne.symm hkk.1, nX, hky, hkk.2⟩
      · simp only [Store.set_tok, Store.newTok]; rw [if_neg (Ne.symm hkk.1)]; simp
      · simp only [Store.set_tok, Store.newTok]; simp
    have hs : SubX [] σ S0 := by
      rw [hS]
      exact subx_new nX (subx_new nX (subx_newTok hkk.2 (subx_new nX (subx_newTok hky (subx_new nX sb0)))))
    clear hS
    refine awp_seq ?_
    refine awp_seq ?_
    refine awp_region (by kernel_rfl) ?_
    (refine aL_S rfl rfl v_ ?_)
    refine aL_nil ?_
    refine awp_block ?_
    refine awp_loop_env (ι := Store × Nat × Nat × Nat × Ls × List ByteArray × List ByteArray) (fun ⟨S, ky, kn, i, s, yes, no⟩ => l.length - i) (fun ⟨S, ky, kn, i, s, yes, no⟩ => i ≤ l.length ∧ L1 σ S g m b nd s ∧ R1 σ S o30 ky kn b nd yes no s.all ∧ Rl s yes no ∧ SzL i s.all ∧ SubX [] σ S ∧ yes.length ≤ i ∧ no.length ≤ i) (fun ⟨S, ky, kn, i, s, yes, no⟩ => [(2, .sl 3 (l.map sAct) false), (7, .ref g 0), (8, .ref o30 0), (9, vInt i)]) (fun ⟨S, ky, kn, i, s, yes, no⟩ => S) (S0, ky, kn, 0, ⟨[], false, []⟩, [], []) ?_ ?_ ?_ ?_
    · exact ⟨Nat.zero_le _, hL, hR, ⟨fun x => rfl, rfl⟩, SzL.nil, hs, Nat.le_refl _, Nat.le_refl _⟩
    · exact cv_
    · exact Store.Wk.refl _
    rintro ⟨S, ky, kn, i, s, yes, no⟩ ⟨hi, hL, hR, hrel, hz, hs, hy, hno⟩
    simp only [envL_cons, envL_nil]
    refine awp_seq ?_
    refine awp_seq ?_
    refine awp_region (by kernel_rfl) ?_
    iterate 4 (refine aL_S rfl rfl v_ ?_)
    refine aL_nil ?_
    refine awp_cond v_ (fun hc5 => ?_) (fun hc5 => ?_)
    · replace hc5 := nm_ hc5
      refine awp_skip ?_
      refine awp_seq ?_
      refine awp_block ?_
      refine awp_seq ?_
      obtain ⟨x, hx⟩ := get_some (l := l) (k := i) (by omega)
      have hxf := hit x (List.mem_of_getElem? hx)
      obtain ⟨x8, xs, _⟩ := fewIt_sm hxf
      have hlen := hz.len
      have hM := hz.hM hxf (by omega)
      have R := hx
      refine awp_region (by kernel_rfl) ?_
      iterate 5 (refine aL_S rfl rfl v_ ?_)
      refine aL_X rfl rfl (AOp_use rfl rfl (.inr ⟨rfl, rfl, rfl⟩) g_ va_ (do_c (s := s) (a := x) hL.hg hL.hm (by omega) hz.sm xs hM (by omega) (by omega)) ?_); rintro _ τ1 ⟨rfl, rfl⟩
      refine aL_nil ?_
      skip
      refine awp_gen fun S1 hS => ?_
      have hgX := hL.X hR.hX
      have hL1 : L1 σ S1 g m b nd (doSt nd x s) := by rw [hS]; exact hL.step
      have hR1 : R1 σ S1 o30 ky kn b nd yes no s.all := by rw [hS]; exact (hR.keep (Ne.symm hgX.2)).keep (Ne.symm hgX.1)
      have hs1 : SubX [] σ S1 := by rw [hS]; exact hL.sub hs
      clear hS
      refine awp_seq ?_
      have R := hx
      refine awp_draw (.op 0 0 (.op 1 0 (.op 2 0 (.op 3 0 (.op 4 0 (.op 5 0 (.op 6 0 (.op 7 0 (.op 8 0 (.op 9 0 (.op 10 0 (.op 11 0 (.op 12 0 (.op 13 0 (.op 14 0 (.op 15 0 (.op 16 2 .nil))))))))))))))))) Tryz.mixed (by kernel_rfl) ?_
      iterate 16 (refine dR_S o_ (by rfl) (by rfl) v_ ?_)
      refine dR_T o_ (by rfl) (by rfl) (AOp_use (by rfl) (by rfl) (.inr ⟨by rfl, by rfl, by rfl⟩) g_ va_ (rAnswer_c (n := x.node) (kind := x.kind) (items := x.items) hR1.hX hR1.ty hR1.tn (by omega) (by omega) (by omega) hz.sm xs hM (by omega) (by omega)) ?_); rintro _ τ2 ⟨rfl, hans⟩
      refine dR_nil ?_
      refine awp_seq ?_
      obtain ⟨ky2, kn2, yes2, no2, hL2, hR2, hrel2, hs2, hy2, hn2⟩ := ans_step hL1 hR1 hrel hs1 hans
      have hz2 : SzL (i + 1) (doSt nd x s).all := hz.do hxf (by omega)
      have hlen2 := hz2.len
      have e1 := hrel2.st nd
      have e2 : rKeysS b nd yes2 no2 (doSt nd x s).all = keysS b nd (doSt nd x s) := by rw [rKeysS, keysS, e1]
      have e3 : (keysS b nd (doSt nd x s)).length ≤ 100 := by
        rw [keysS]; split
        · have := keysA_len b (doSt nd x s).all; omega
        · exact Nat.zero_le _
      refine awp_region (by kernel_rfl) ?_
      (refine aL_S rfl rfl v_ ?_)
      refine aL_X rfl rfl (AOp_use rfl rfl (.inr ⟨rfl, rfl, rfl⟩) g_ va_ (state_c (s := doSt nd x s) hL2.hg hL2.hm (by omega)) ?_); rintro _ _ ⟨rfl, rfl⟩
      (refine aL_S rfl rfl v_ ?_)
      refine aL_X rfl rfl (AOp_use rfl rfl (.inr ⟨rfl, rfl, rfl⟩) g_ va_ (rState_c hR2.hX (by omega) (by omega)) ?_); rintro _ _ ⟨rfl, rfl⟩
      rw [e1]
      iterate 2 (refine aL_S rfl rfl v_ ?_)
      refine aL_GF rfl rfl v_ rfl vg_ ?_
      refine aL_GFX rfl rfl v_ rfl (fun hb => AOp_useV (by rfl) (by rfl) (.inr ⟨by rfl, by rfl, by rfl⟩) g_ cg_ (keys_c (s := doSt nd x s) hL2.hg hL2.hm (by omega) hz2.sm (by omega))) ?_
      refine aL_GF rfl rfl v_ rfl vg_ ?_
      refine aL_GFX rfl rfl v_ rfl (fun hb => AOp_useV (by rfl) (by rfl) (.inr ⟨by rfl, by rfl, by rfl⟩) g_ cg_ (rKeys_c hR2.hX (by omega) (by omega) hz2.sm (by omega))) ?_
      rw [e2]
      refine aL_GFX rfl rfl v_ rfl (fun hb => AOp_useV (by rfl) (by rfl) (.inr ⟨by rfl, by rfl, by rfl⟩) g_ cg_ (sameTx_c (a := keysS b nd (doSt nd x s)) (b := keysS b nd (doSt nd x s)) (by omega) (by omega))) ?_
      refine aL_GF rfl rfl v_ rfl vg_ ?_
      (refine aL_S rfl rfl v_ ?_)
      refine aL_nil ?_
      refine awp_cond v_ (fun hc9 => ?_) (fun hc9 => ?_)
      · replace hc9 := nm_ hc9
        simp at hc9
      · replace hc9 := nm_ hc9
        refine awp_skip ?_
        refine awp_region (by kernel_rfl) ?_
        iterate 3 (refine aL_S rfl rfl v_ ?_)
        refine aL_nil ?_
        refine aNext (ι := Store × Nat × Nat × Nat × Ls × List ByteArray × List ByteArray) (i := ⟨S, ky, kn, i, s, yes, no⟩) (τ2, ky2, kn2, i + 1, doSt nd x s, yes2, no2) ?_ ?_ ?_ ?_
        · show l.length - (i + 1) < l.length - i; omega
        · exact ⟨by show i + 1 ≤ l.length; omega, hL2, hR2, hrel2, hz2, hs2, by show yes2.length ≤ i + 1; omega, by show no2.length ≤ i + 1; omega⟩
        · exact cv_
        · exact Store.Wk.refl _
    · replace hc5 := nm_ hc5
      refine awp_exit ?_
      refine aThen_exit ?_
      refine aThen_exit ?_
      refine aBlock_hit ?_
      refine awp_seq ?_
      have e1 := hrel.st nd
      refine awp_region (by kernel_rfl) ?_
      (refine aL_S rfl rfl v_ ?_)
      refine aL_X rfl rfl (AOp_use rfl rfl (.inr ⟨rfl, rfl, rfl⟩) g_ va_ (state_c (s := s) hL.hg hL.hm (by omega)) ?_); rintro _ _ ⟨rfl, rfl⟩
      (refine aL_S rfl rfl v_ ?_)
      refine aL_X rfl rfl (AOp_use rfl rfl (.inr ⟨rfl, rfl, rfl⟩) g_ va_ (rState_c hR.hX (by omega) (by omega)) ?_); rintro _ _ ⟨rfl, rfl⟩
      rw [e1]
      iterate 2 (refine aL_S rfl rfl v_ ?_)
      refine aL_GTX rfl rfl v_ rfl (fun hb => AOp_useV (by rfl) (by rfl) (.inr ⟨by rfl, by rfl, by rfl⟩) g_ cg_ (awake38_c)) ?_
      iterate 2 (refine aL_S rfl rfl v_ ?_)
      refine aL_nil ?_
      refine awp_ret ?_
      exact aEnd_ret va_ (subx_start hs) ⟨by simp, rfl⟩
end Go.Proofs.YtdgnelnipnjhjaaGreat
end

section
set_option linter.all false
set_option maxRecDepth 100000
namespace Go.Proofs.YtdgnelnipnjhjaaGreat
open Go.Ab
abbrev shAct : Sh := .pair (.int .i64) (.pair .str (.pair (.sl true shItm) .unit))
theorem rd_act {c : List AVal} (h : shAct.ok c) : ∃ x : Act', .agg c = sAct x := by
  obtain ⟨_, _, rfl, ⟨k, rfl, _⟩, _, _, rfl, ⟨s, rfl, _⟩, _, _, rfl, hi, rfl⟩ := h
  obtain ⟨is, rfl⟩ := rd_sl sItem (fun c hc => rd_itm hc) hi
  exact ⟨⟨k, s, is⟩, rfl⟩
theorem rv_act {a : AVal} (h : Sh.okv shAct true a) : ∃ x : Act', a = sAct x := by
  obtain ⟨c, hc, e⟩ := h
  obtain ⟨x, hx⟩ := rd_act hc
  simp only [if_true] at e
  exact ⟨x, by rw [e, hx]⟩
theorem rv_acts {a : AVal} (h : Sh.okv (.sl true shAct) false a) : ∃ l : List Act', a = .sl 3 (l.map sAct) false := by
  obtain ⟨c, hc, e⟩ := h
  obtain ⟨l, rfl⟩ := rd_sl sAct (fun c hc => rd_act hc) hc
  simp only [Bool.false_eq_true, if_false, List.cons.injEq, and_true] at e
  exact ⟨l, e.symm⟩
theorem rv_texts {a : AVal} (h : Sh.okv (.sl false .str) false a) : ∃ l : List ByteArray, a = .sl 1 (l.map vStr) false := by
  obtain ⟨c, hc, e⟩ := h
  obtain ⟨l, rfl⟩ := rd_texts hc
  simp only [Bool.false_eq_true, if_false, List.cons.injEq, and_true] at e
  exact ⟨l, e.symm⟩
end Go.Proofs.YtdgnelnipnjhjaaGreat
end
