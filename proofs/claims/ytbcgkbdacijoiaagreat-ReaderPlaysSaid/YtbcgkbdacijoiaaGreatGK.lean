/-
  A read that goes on: the document's reader; A read that goes on: the document's stale nodes; A read that goes on: the document's answers; A read that goes on: the program's and the document's say the same, plainly; A read that goes on: an answer told to both, plainly; which are stale; sizes; A read that goes on: few entries, few answers; what must come, whatever the arguments are; A nil slice in an object's cell is nobody's: it may be taken for one's own; ReaderNobody, ReaderPlays; Properties, entries and answers of a read, as they come in. Own work (an AI agent).
-/
import Derived.Test.YtbcgkbdacijoiaaGreatGI
import Derived.Test.YtbcgkbdacijoiaaGreatGJ
import Derived.Test.YtbcgkbdacijoiaaGreatGG
import Derived.Test.YtbcgkbdacijoiaaGreatGH

section
set_option linter.all false
set_option maxRecDepth 100000
namespace Go.Proofs.YtbcgkbdacijoiaaGreat
open Go.Ab
theorem rIn36_c {l : List ByteArray} {s : ByteArray} {t : Bool} {σ : Store} (hn : l.length ≤ 1000000) : ACalls Tryz.prog 71 [.sl 1 (l.map vStr) t, vStr s] σ fun v σ' => v = vB (hasQ l s) ∧ σ = σ' := by
  refine ACalls_of Tryz.func71 rfl Tryz.ntmps71 (congrArg Array.toList Tryz.results71) (by simp only [List.length_cons, List.length_nil]; decide) ?_; simp only [envOf_cons, envOf_nil, Nat.reduceAdd]
  refine awp_seq ?_
  refine awp_region (by kernel_rfl) ?_
  (refine aL_S rfl rfl v_ ?_)
  refine aL_nil ?_
  refine awp_seq ?_
  refine awp_seq ?_
  refine awp_region (by kernel_rfl) ?_
  (refine aL_S rfl rfl v_ ?_)
  refine aL_nil ?_
  refine awp_block ?_
  refine awp_loop_env (ι := Nat) (fun k => l.length - k) (fun k => k ≤ l.length ∧ (l.take k).any (fun y => decide (y = s)) = false) (fun k => [(0, .sl 1 (l.map vStr) t), (1, vStr s), (5, vInt k)]) (fun k => σ) 0 ?_ ?_ ?_ ?_
  · exact ⟨Nat.zero_le _, rfl⟩
  · exact cv_
  · exact sub_
  rintro k ⟨hk, ha⟩
  simp only [envL_cons, envL_nil]
  refine awp_seq ?_
  refine awp_seq ?_
  refine awp_region (by kernel_rfl) ?_
  iterate 4 (refine aL_S rfl rfl v_ ?_)
  refine aL_nil ?_
  refine awp_cond v_ (fun hc2 => ?_) (fun hc2 => ?_)
  · replace hc2 := nm_ hc2
    refine awp_skip ?_
    refine awp_seq ?_
    refine awp_block ?_
    refine awp_seq ?_
    obtain ⟨y, hy⟩ := get_some (l := l) (k := k) (by omega)
    have R := hy
    refine awp_region (by kernel_rfl) ?_
    iterate 6 (refine aL_S rfl rfl v_ ?_)
    refine aL_nil ?_
    refine awp_cond v_ (fun hc4 => ?_) (fun hc4 => ?_)
    · replace hc4 := nm_ hc4
      refine awp_seq ?_
      refine awp_region (by kernel_rfl) ?_
      (refine aL_S rfl rfl v_ ?_)
      refine aL_nil ?_
      refine awp_ret ?_
      refine aEnd_ret (σ' := σ) v_ sub_ ?_
      exact ⟨by rw [hasQ, any_yes hy (decide_eq_true hc4)], rfl⟩
    · replace hc4 := nm_ hc4
      refine awp_skip ?_
      refine awp_region (by kernel_rfl) ?_
      iterate 3 (refine aL_S rfl rfl v_ ?_)
      refine aL_nil ?_
      refine aNext (ι := Nat) (i := k) (k + 1) ?_ ?_ ?_ ?_
      · omega
      · exact ⟨by omega, any_next hy (decide_eq_false hc4) ha⟩
      · exact cv_
      · exact sub_
  · replace hc2 := nm_ hc2
    refine awp_exit ?_
    refine aThen_exit ?_
    refine aThen_exit ?_
    refine aBlock_hit ?_
    refine awp_seq ?_
    refine awp_region (by kernel_rfl) ?_
    (refine aL_S rfl rfl v_ ?_)
    refine aL_nil ?_
    refine awp_ret ?_
    refine aEnd_ret (σ' := σ) v_ sub_ ?_
    exact ⟨by rw [hasQ, any_end (by omega) ha], rfl⟩
theorem rInO36_c {l : List ByteArray} {k : Nat} {s : ByteArray} {σ : Store} (hn : l.length ≤ 1000000) : ACalls Tryz.prog 71 [.own k 1 (l.map vStr), vStr s] σ fun v σ' => v = vB (hasQ l s) ∧ σ = σ' :=
  ACalls.wkA (args := [.own k 1 (l.map vStr), vStr s]) (rIn36_c (t := false) hn) rfl (fun j hj hj' => by match j, hj with | 0, _ => exact .own1 _ _ _ | 1, _ => exact .refl _)
structure Rr where
  yes : List ByteArray
  gone : List ByteArray
  no : List ByteArray
  objs : List Obj'
  all : Obj'
  dec : Int
@[reducible] def rrC (p : Prp) (l : List Ch) (ky kg kn ko : Nat) (r : Rr) : List AVal := [vInt p.n, vInt p.r, vInt p.w, vInt p.pr, vInt p.pw, vB p.sev, vB p.mis, vB p.bas, .sl 2 (l.map sCh) false, .own ky 1 (r.yes.map vStr), .own kg 1 (r.gone.map vStr), .own kn 1 (r.no.map vStr), .own ko 2 (r.objs.map sObj), .sl 3 (r.all.ctx.map sSeen) false, .sl 5 (r.all.sibs.map sSib) false, vInt r.dec]
structure RrSm (r : Rr) : Prop where
  ny : r.yes.length ≤ 1000
  ng : r.gone.length ≤ 1000
  nn : r.no.length ≤ 1000
  no : r.objs.length ≤ 1000
def freeR (l : List Ch) (r : Rr) (n : ByteArray) : Bool := decide (0 < cntS l (hasQ [n])) && !hasQ r.yes n && !hasQ r.gone n && !hasQ r.no n
set_option maxHeartbeats 1000000 in
theorem free_c {X ky kg kn ko : Nat} {p : Prp} {l : List Ch} {r : Rr} {n : ByteArray} {σ : Store} (hX : σ.heap X = some (.cells (rrC p l ky kg kn ko r))) (hn : l.length ≤ 10000) (hr : RrSm r) :
    ACalls Tryz.prog 62 [.ref X 0, vStr n] σ fun v σ' => v = vB (freeR l r n) ∧ σ = σ' := by
  have h1 := hr.ny; have h2 := hr.ng; have h3 := hr.nn
  refine ACalls_of Tryz.func62 rfl Tryz.ntmps62 (congrArg Array.toList Tryz.results62) (by simp only [List.length_cons, List.length_nil]; decide) ?_; simp only [envOf_cons, envOf_nil, Nat.reduceAdd]
  refine awp_seq ?_
  have R := hX
  refine awp_region (by kernel_rfl) ?_
  (refine aL_S rfl rfl v_ ?_)
  refine aL_nil ?_
  refine awp_seq ?_
  have R := hX
  refine awp_region (by kernel_rfl) ?_
  iterate 5 (refine aL_S rfl rfl v_ ?_)
  refine aL_buildSlice rfl rfl rfl g_ g_ rfl rfl h_ c2_ (by decide) ?_
  refine aL_X rfl rfl (AOp_use rfl rfl (.inr ⟨rfl, rfl, rfl⟩) g_ va_ (rCount_c (ns := [n]) (u := true) (by omega) (by simp)) ?_); rintro _ _ ⟨rfl, rfl⟩
  iterate 5 (refine aL_S rfl rfl v_ ?_)
  refine aL_nil ?_
  refine awp_seq ?_
  have R := hX
  refine awp_region (by kernel_rfl) ?_
  iterate 3 (refine aL_S rfl rfl v_ ?_)
  refine aL_GT rfl rfl v_ rfl vg_ ?_
  refine aL_GT rfl rfl v_ rfl vg_ ?_
  refine aL_GT rfl rfl v_ rfl vg_ ?_
  refine aL_GT rfl rfl v_ rfl vg_ ?_
  refine aL_GT rfl rfl v_ rfl vg_ ?_
  refine aL_GTX rfl rfl v_ rfl (fun hb => AOp_useV (by rfl) (by rfl) (.inr ⟨by rfl, by rfl, by rfl⟩) g_ cg_ (rInO36_c (by omega))) ?_
  refine aL_GT rfl rfl v_ rfl vg_ ?_
  iterate 2 (refine aL_S rfl rfl v_ ?_)
  refine aL_GT rfl rfl v_ rfl vg_ ?_
  refine aL_GT rfl rfl v_ rfl vg_ ?_
  refine aL_GT rfl rfl v_ rfl vg_ ?_
  refine aL_GT rfl rfl v_ rfl vg_ ?_
  refine aL_GT rfl rfl v_ rfl vg_ ?_
  refine aL_GTX rfl rfl v_ rfl (fun hb => AOp_useV (by rfl) (by rfl) (.inr ⟨by rfl, by rfl, by rfl⟩) g_ cg_ (rInO36_c (by omega))) ?_
  refine aL_GT rfl rfl v_ rfl vg_ ?_
  iterate 2 (refine aL_S rfl rfl v_ ?_)
  refine aL_GT rfl rfl v_ rfl vg_ ?_
  refine aL_GT rfl rfl v_ rfl vg_ ?_
  refine aL_GT rfl rfl v_ rfl vg_ ?_
  refine aL_GT rfl rfl v_ rfl vg_ ?_
  refine aL_GT rfl rfl v_ rfl vg_ ?_
  refine aL_GTX rfl rfl v_ rfl (fun hb => AOp_useV (by rfl) (by rfl) (.inr ⟨by rfl, by rfl, by rfl⟩) g_ cg_ (rInO36_c (by omega))) ?_
  refine aL_GT rfl rfl v_ rfl vg_ ?_
  iterate 2 (refine aL_S rfl rfl v_ ?_)
  refine aL_nil ?_
  refine awp_ret ?_
  refine aEnd_ret (σ' := σ) v_ sub_ ?_
  exact ⟨by simp [freeR], rfl⟩
def decQ (p : Prp) (l : List Ch) (r : Rr) : Int := if r.dec = 0 then readQ p l r.yes r.gone r.no else r.dec
set_option maxHeartbeats 1000000 in
theorem rDecide_c {X ky kg kn ko : Nat} {p : Prp} {l : List Ch} {r : Rr} {σ : Store} (hX : σ.heap X = some (.cells (rrC p l ky kg kn ko r))) (hn : l.length ≤ 10000) (hr : RrSm r) :
    ACalls Tryz.prog 61 [.ref X 0] σ fun v σ' => v = .tup [] ∧ σ' = σ.set X (.cells (rrC p l ky kg kn ko { r with dec := decQ p l r })) := by
  have h1 := hr.ny; have h2 := hr.ng; have h3 := hr.nn
  refine ACalls_of Tryz.func61 rfl Tryz.ntmps61 (congrArg Array.toList Tryz.results61) (by simp only [List.length_cons, List.length_nil]; decide) ?_; simp only [envOf_cons, envOf_nil, Nat.reduceAdd]
  refine awp_seq ?_
  have R := hX
  refine awp_region (by kernel_rfl) ?_
  iterate 5 (refine aL_S rfl rfl v_ ?_)
  refine aL_nil ?_
  refine awp_cond v_ (fun hc0 => ?_) (fun hc0 => ?_)
  · replace hc0 := nm_ hc0
    rw [show decQ p l r = readQ p l r.yes r.gone r.no from by rw [decQ, if_pos hc0]]
    have R := hX
    refine awp_draw (.op 0 0 (.op 1 0 (.op 2 0 (.op 3 0 (.op 4 0 (.op 5 0 (.op 6 0 (.op 7 0 (.op 8 0 (.op 9 0 (.op 10 0 (.op 11 0 (.op 12 0 (.op 13 0 (.op 14 0 (.op 15 0 (.op 16 0 (.op 17 0 (.op 18 0 (.op 19 0 (.op 20 0 (.op 21 1 (.op 22 0 (.op 23 0 (.op 24 2 .nil))))))))))))))))))))))))) Tryz.mixed (by kernel_rfl) ?_
    iterate 21 (refine dR_S o_ (by rfl) (by rfl) v_ ?_)
    refine dR_X o_ (by rfl) (by rfl) (AOp_use (by rfl) (by rfl) (.inr ⟨by rfl, by rfl, by rfl⟩) g_ va_ (ACalls.wkA (args := [.agg (cPrp p), .sl 2 (l.map sCh) false, .own ky 1 (r.yes.map vStr), .own kg 1 (r.gone.map vStr), .own kn 1 (r.no.map vStr)]) (rRead_c (p := p) (l := l) (f := r.yes) (m := r.gone) (n := r.no) (t := false) (tf := false) (tm := false) (tn := false) (by omega) (by omega) (by omega) (by omega)) rfl (fun j hj hj' => by match j, hj with | 0, _ => exact .refl _ | 1, _ => exact .refl _ | 2, _ => exact .own1 _ _ _ | 3, _ => exact .own1 _ _ _ | 4, _ => exact .own1 _ _ _)) ?_); rintro _ _ ⟨rfl, rfl⟩; refine ⟨sub_, ?_⟩
    iterate 2 (refine dR_S o_ (by rfl) (by rfl) v_ ?_)
    refine dR_store o_ (by rfl) (by rfl) (by rfl) v_ v_ h_ g_ rfl g_ c_ (by rfl) le_ v_ ?_
    refine dR_nil ?_
    refine aEnd_nor (σ' := σ.set X (.cells (rrC p l ky kg kn ko { r with dec := readQ p l r.yes r.gone r.no }))) v_ sub_ ?_
    exact ⟨rfl, rfl⟩
  · replace hc0 := nm_ hc0
    rw [show decQ p l r = r.dec from by rw [decQ, if_neg hc0], Store.set_self hX]
    refine awp_skip ?_
    refine aEnd_nor v_ (Store.Wk.refl _) ?_
    exact ⟨rfl, rfl⟩
theorem rTold_c {X ky kg kn ko : Nat} {p : Prp} {l : List Ch} {r : Rr} {σ : Store} (hX : σ.heap X = some (.cells (rrC p l ky kg kn ko r))) (hw : ObjSm r.all) : ACalls Tryz.prog 22 [.ref X 0] σ fun v σ' => v = .sl 5 ((if r.dec = 1 then answerS r.all p.sev else []).map sSib) false ∧ σ = σ' := by
  refine ACalls_of Tryz.func22 rfl Tryz.ntmps22 (congrArg Array.toList Tryz.results22) (by simp only [List.length_cons, List.length_nil]; decide) ?_; simp only [envOf_cons, envOf_nil, Nat.reduceAdd]
  refine awp_seq ?_
  have R := hX
  refine awp_region (by kernel_rfl) ?_
  (refine aL_S rfl rfl v_ ?_)
  refine aL_nil ?_
  refine awp_seq ?_
  refine awp_seq ?_
  have R := hX
  refine awp_region (by kernel_rfl) ?_
  iterate 5 (refine aL_S rfl rfl v_ ?_)
  refine aL_nil ?_
  refine awp_cond v_ (fun hc1 => ?_) (fun hc1 => ?_)
  · replace hc1 := nm_ hc1
    refine awp_seq ?_
    have R := hX
    refine awp_region (by kernel_rfl) ?_
    (refine aL_S rfl rfl v_ ?_)
    refine aL_nil ?_
    refine awp_ret ?_
    rw [if_neg hc1]
    exact aEnd_retW (v := .sl 5 [] false) (v' := vNil) va_ (.nil _ _) sub_ ⟨rfl, rfl⟩
  · replace hc1 := nm_ hc1
    refine awp_skip ?_
    refine awp_seq ?_
    have R := hX
    refine awp_draw (.op 0 0 (.op 1 0 (.op 2 0 (.op 3 0 (.op 4 0 (.op 5 0 (.op 6 0 (.op 7 0 (.op 8 0 (.op 9 1 (.op 10 0 .nil))))))))))) Tryz.mixed (by kernel_rfl) ?_
    iterate 9 (refine dR_S o_ (by rfl) (by rfl) v_ ?_)
    refine dR_X o_ (by rfl) (by rfl) (AOp_use (by rfl) (by rfl) (.inr ⟨by rfl, by rfl, by rfl⟩) g_ va_ (rAnswerO_c (o := r.all) (sev := p.sev) hw) ?_); rintro _ _ ⟨rfl, rfl⟩; refine ⟨sub_, ?_⟩
    (refine dR_S o_ (by rfl) (by rfl) v_ ?_)
    refine dR_nil ?_
    refine awp_ret ?_
    refine aEnd_ret (σ' := σ) v_ sub_ ?_
    exact ⟨by rw [if_pos hc1], rfl⟩
theorem rOpen36_c {X ky kg kn ko : Nat} {p : Prp} {l : List Ch} {r : Rr} {σ : Store} (hX : σ.heap X = some (.cells (rrC p l ky kg kn ko r))) (hn : l.length ≤ 10000) (hr : RrSm r) : ACalls Tryz.prog 27 [.ref X 0] σ fun v σ' => v = vB (l.any fun x => freeR l r x.node) ∧ σ = σ' := by
  refine ACalls_of Tryz.func27 rfl Tryz.ntmps27 (congrArg Array.toList Tryz.results27) (by simp only [List.length_cons, List.length_nil]; decide) ?_; simp only [envOf_cons, envOf_nil, Nat.reduceAdd]
  refine awp_seq ?_
  refine awp_region (by kernel_rfl) ?_
  (refine aL_S rfl rfl v_ ?_)
  refine aL_nil ?_
  refine awp_seq ?_
  refine awp_seq ?_
  refine awp_region (by kernel_rfl) ?_
  (refine aL_S rfl rfl v_ ?_)
  refine aL_nil ?_
  refine awp_block ?_
  refine awp_loop_env (ι := Nat) (fun k => l.length - k) (fun k => k ≤ l.length ∧ (l.take k).any (fun x => freeR l r x.node) = false) (fun k => [(0, .ref X 0), (3, vInt k)]) (fun k => σ) 0 ?_ ?_ ?_ ?_
  · exact ⟨Nat.zero_le _, rfl⟩
  · exact cv_
  · exact sub_
  rintro k ⟨hk, ha⟩
  simp only [envL_cons, envL_nil]
  refine awp_seq ?_
  refine awp_seq ?_
  have R := hX
  refine awp_region (by kernel_rfl) ?_
  iterate 7 (refine aL_S rfl rfl v_ ?_)
  refine aL_nil ?_
  refine awp_cond v_ (fun hc2 => ?_) (fun hc2 => ?_)
  · replace hc2 := nm_ hc2
    refine awp_skip ?_
    refine awp_seq ?_
    refine awp_block ?_
    refine awp_seq ?_
    obtain ⟨x, hx⟩ := get_some (l := l) (k := k) (by omega)
    have R := And.intro hX hx
    refine awp_region (by kernel_rfl) ?_
    iterate 9 (refine aL_S rfl rfl v_ ?_)
    refine aL_X rfl rfl (AOp_use rfl rfl (.inr ⟨rfl, rfl, rfl⟩) g_ va_ (free_c (n := x.node) hX hn hr) ?_); rintro _ _ ⟨rfl, rfl⟩
    refine aL_nil ?_
    refine awp_cond v_ (fun hc4 => ?_) (fun hc4 => ?_)
    · replace hc4 := nm_ hc4
      refine awp_seq ?_
      refine awp_region (by kernel_rfl) ?_
      (refine aL_S rfl rfl v_ ?_)
      refine aL_nil ?_
      refine awp_ret ?_
      refine aEnd_ret (σ' := σ) v_ sub_ ?_
      exact ⟨by rw [any_yes hx hc4], rfl⟩
    · replace hc4 := nm_ hc4
      refine awp_skip ?_
      refine awp_region (by kernel_rfl) ?_
      iterate 3 (refine aL_S rfl rfl v_ ?_)
      refine aL_nil ?_
      refine aNext (ι := Nat) (i := k) (k + 1) ?_ ?_ ?_ ?_
      · omega
      · exact ⟨by omega, any_next hx hc4 ha⟩
      · exact cv_
      · exact sub_
  · replace hc2 := nm_ hc2
    refine awp_exit ?_
    refine aThen_exit ?_
    refine aThen_exit ?_
    refine aBlock_hit ?_
    refine awp_seq ?_
    refine awp_region (by kernel_rfl) ?_
    (refine aL_S rfl rfl v_ ?_)
    refine aL_nil ?_
    refine awp_ret ?_
    refine aEnd_ret (σ' := σ) v_ sub_ ?_
    exact ⟨by rw [any_end (by omega) ha], rfl⟩
end Go.Proofs.YtbcgkbdacijoiaaGreat
end

section
set_option linter.all false
set_option maxRecDepth 100000
namespace Go.Proofs.YtbcgkbdacijoiaaGreat
open Go.Ab
def offB (all : Obj') (s : ByteArray) (q : ByteArray × Obj') : Bool := decide (q.1 = s) && !decide (q.2 = all)
def badR (r : Rr) (s : ByteArray) : Bool := (decide (0 < r.yes.length) && hasQ r.gone s) || (r.yes.zip r.objs).any (offB r.all s)
def stStepR (r : Rr) (out : List ByteArray) (x : Ch) : List ByteArray := if badR r x.node && !hasQ out x.node then out ++ [x.node] else out
set_option maxHeartbeats 4000000 in
theorem rStale_c {X ky kg kn ko : Nat} {p : Prp} {l : List Ch} {r : Rr} {σ : Store} (hX : σ.heap X = some (.cells (rrC p l ky kg kn ko r))) (hn : l.length ≤ 10000) (hr : RrSm r) (hw : ObjSm r.all) (ho : ∀ o ∈ r.objs, ObjSm o) (hl : r.objs.length = r.yes.length) :
    ACalls Tryz.prog 25 [.ref X 0] σ fun v σ' => v = .sl 1 ((l.foldl (stStepR r) []).map vStr) false ∧ σ = σ' := by
  have h1 := hr.ny; have h2 := hr.ng; have h3 := hr.nn
  refine ACalls_of Tryz.func25 rfl Tryz.ntmps25 (congrArg Array.toList Tryz.results25) (by simp only [List.length_cons, List.length_nil]; decide) ?_; simp only [envOf_cons, envOf_nil, Nat.reduceAdd]
  refine awp_seq ?_
  refine awp_region (by kernel_rfl) ?_
  (refine aL_S rfl rfl v_ ?_)
  refine aL_nil ?_
  refine awp_seq ?_
  refine awp_region (by kernel_rfl) ?_
  refine aL_nilOwn 9 1 rfl rfl rfl (by rfl) fun k3 hk3 => ?_
  refine aL_nil ?_
  refine awp_seq ?_
  refine awp_seq ?_
  refine awp_region (by kernel_rfl) ?_
  (refine aL_S rfl rfl v_ ?_)
  refine aL_nil ?_
  refine awp_block ?_
  refine awp_loop_env (ι := Nat × Nat × List ByteArray) (fun ⟨tk, i, out⟩ => l.length - i) (fun ⟨tk, i, out⟩ => i ≤ l.length ∧ σ.tok tk = none ∧ out = (l.take i).foldl (stStepR r) [] ∧ out.length ≤ i) (fun ⟨tk, i, out⟩ => [(0, .ref X 0), (3, .own tk 1 (out.map vStr)), (4, vInt i)]) (fun ⟨tk, i, out⟩ => (σ.newTok none tk pS1)) (k3, 0, []) ?_ ?_ ?_ ?_
  · exact ⟨Nat.zero_le _, hk3, rfl, Nat.le_refl _⟩
  · exact cv_
  · exact Store.Wk.refl _
  rintro ⟨tk, i, out⟩ ⟨hi, htk, hout, hlen⟩
  simp only [envL_cons, envL_nil]
  refine awp_seq ?_
  refine awp_seq ?_
  have R := hX
  refine awp_region (by kernel_rfl) ?_
  iterate 7 (refine aL_S rfl rfl v_ ?_)
  refine aL_nil ?_
  refine awp_cond v_ (fun hc3 => ?_) (fun hc3 => ?_)
  · replace hc3 := nm_ hc3
    refine awp_skip ?_
    refine awp_seq ?_
    refine awp_block ?_
    refine awp_seq ?_
    obtain ⟨x, hx⟩ := get_some (l := l) (k := i) (by omega)
    have R := And.intro hX hx
    refine awp_region (by kernel_rfl) ?_
    iterate 9 (refine aL_S rfl rfl v_ ?_)
    refine aL_nil ?_
    refine awp_seq ?_
    have R := hX
    refine awp_region (by kernel_rfl) ?_
    iterate 7 (refine aL_S rfl rfl v_ ?_)
    refine aL_GT rfl rfl v_ rfl vg_ ?_
    refine aL_GT rfl rfl v_ rfl vg_ ?_
    refine aL_GT rfl rfl v_ rfl vg_ ?_
    refine aL_GT rfl rfl v_ rfl vg_ ?_
    refine aL_GT rfl rfl v_ rfl vg_ ?_
    refine aL_GTX rfl rfl v_ rfl (fun hb => AOp_useV (by rfl) (by rfl) (.inr ⟨by rfl, by rfl, by rfl⟩) g_ cg_ (rInO36_c (by omega))) ?_
    iterate 2 (refine aL_S rfl rfl v_ ?_)
    refine aL_nil ?_
    refine awp_seq ?_
    refine awp_seq ?_
    have ini : decide (0 < (r.yes.length : Int)) = decide (0 < r.yes.length) := by by_cases h : 0 < r.yes.length <;> simp [h]
    refine awp_region (by kernel_rfl) ?_
    (refine aL_S rfl rfl v_ ?_)
    refine aL_nil ?_
    refine awp_block ?_
    refine awp_loop_env (ι := Nat × Bool) (fun ⟨k, b⟩ => r.yes.length - k) (fun ⟨k, b⟩ => k ≤ r.yes.length ∧ b = ((decide (0 < r.yes.length) && hasQ r.gone x.node) || ((r.yes.zip r.objs).take k).any (offB r.all x.node))) (fun ⟨k, b⟩ => [(0, .ref X 0), (3, .own tk 1 (out.map vStr)), (4, vInt i), (5, vStr x.node), (6, vB b), (7, vInt k)]) (fun ⟨k, b⟩ => (σ.newTok none tk pS1)) (0, decide (0 < r.yes.length) && hasQ r.gone x.node) ?_ ?_ ?_ ?_
    · exact ⟨Nat.zero_le _, by simp⟩
    · have R := ini; exact cv_
    · exact Store.Wk.refl _
    rintro ⟨k, b⟩ ⟨hk, hb⟩
    simp only [envL_cons, envL_nil]
    refine awp_seq ?_
    refine awp_seq ?_
    have R := hX
    refine awp_region (by kernel_rfl) ?_
    iterate 8 (refine aL_S rfl rfl v_ ?_)
    refine aL_GT rfl rfl v_ rfl vg_ ?_
    refine aL_GT rfl rfl v_ rfl vg_ ?_
    refine aL_GT rfl rfl v_ rfl vg_ ?_
    refine aL_GT rfl rfl v_ rfl vg_ ?_
    refine aL_GT rfl rfl v_ rfl vg_ ?_
    refine aL_GT rfl rfl v_ rfl vg_ ?_
    refine aL_GT rfl rfl v_ rfl vg_ ?_
    (refine aL_S rfl rfl v_ ?_)
    refine aL_nil ?_
    refine awp_cond v_ (fun hc8 => ?_) (fun hc8 => ?_)
    · replace hc8 := nm_ hc8
      refine awp_skip ?_
      refine awp_seq ?_
      refine awp_block ?_
      obtain ⟨y, hy⟩ := get_some (l := r.yes) (k := k) (by omega)
      obtain ⟨o, ho2⟩ := get_some (l := r.objs) (k := k) (by omega)
      have hyo : (r.yes.zip r.objs)[k]? = some (y, o) := by rw [List.getElem?_zip_eq_some]; exact ⟨hy, ho2⟩
      have R := And.intro hX (And.intro hy ho2)
      refine awp_draw (.op 0 0 (.op 1 0 (.op 2 0 (.op 3 0 (.op 4 0 (.op 5 0 (.op 6 0 (.op 7 0 (.op 8 0 (.op 9 0 (.op 10 0 (.op 11 0 (.op 12 0 (.op 13 0 (.op 14 0 (.op 15 0 (.op 16 0 (.op 17 0 (.op 18 0 (.op 19 0 (.op 20 0 (.op 21 0 (.op 22 0 (.op 23 1 (.op 24 0 (.op 25 0 (.op 26 0 (.op 27 0 .nil)))))))))))))))))))))))))))) Tryz.mixed (by kernel_rfl) ?_
      iterate 2 (refine dR_S o_ (by rfl) (by rfl) v_ ?_)
      refine dR_GF o_ (by rfl) (by rfl) v_ (by rfl) vg_ ?_
      refine dR_GF o_ (by rfl) (by rfl) v_ (by rfl) vg_ ?_
      refine dR_GF o_ (by rfl) (by rfl) v_ (by rfl) vg_ ?_
      refine dR_GF o_ (by rfl) (by rfl) v_ (by rfl) vg_ ?_
      refine dR_GF o_ (by rfl) (by rfl) v_ (by rfl) vg_ ?_
      refine dR_GF o_ (by rfl) (by rfl) v_ (by rfl) vg_ ?_
      refine dR_GF o_ (by rfl) (by rfl) v_ (by rfl) vg_ ?_
      refine dR_GF o_ (by rfl) (by rfl) v_ (by rfl) vg_ ?_
      refine dR_GF o_ (by rfl) (by rfl) v_ (by rfl) vg_ ?_
      refine dR_GF o_ (by rfl) (by rfl) v_ (by rfl) vg_ ?_
      refine dR_GGT o_ (by rfl) (by rfl) v_ (by rfl) vg_ ?_
      refine dR_GGT o_ (by rfl) (by rfl) v_ (by rfl) vg_ ?_
      refine dR_GGT o_ (by rfl) (by rfl) v_ (by rfl) vg_ ?_
      refine dR_GGT o_ (by rfl) (by rfl) v_ (by rfl) vg_ ?_
      refine dR_GGT o_ (by rfl) (by rfl) v_ (by rfl) vg_ ?_
      refine dR_GGT o_ (by rfl) (by rfl) v_ (by rfl) vg_ ?_
      refine dR_GGT o_ (by rfl) (by rfl) v_ (by rfl) vg_ ?_
      refine dR_GGT o_ (by rfl) (by rfl) v_ (by rfl) vg_ ?_
      refine dR_GGT o_ (by rfl) (by rfl) v_ (by rfl) vg_ ?_
      refine dR_GGT o_ (by rfl) (by rfl) v_ (by rfl) vg_ ?_
      refine dR_GGT o_ (by rfl) (by rfl) v_ (by rfl) vg_ ?_
      refine dR_GGTX o_ (by rfl) (by rfl) v_ (by rfl) sub_ (fun hb => AOp_useV (by rfl) (by rfl) (.inr ⟨by rfl, by rfl, by rfl⟩) g_ cg_ (same07_f (ho o (List.mem_of_getElem? ho2)) hw)) ?_
      refine dR_GGT o_ (by rfl) (by rfl) v_ (by rfl) vg_ ?_
      refine dR_GF o_ (by rfl) (by rfl) v_ (by rfl) vg_ ?_
      iterate 2 (refine dR_S o_ (by rfl) (by rfl) v_ ?_)
      refine dR_nil ?_
      refine awp_region (by kernel_rfl) ?_
      iterate 3 (refine aL_S rfl rfl v_ ?_)
      refine aL_nil ?_
      refine aNext (ι := Nat × Bool) (i := ⟨k, b⟩) (k + 1, b || (decide (y = x.node) && !decide (o = r.all))) ?_ ?_ ?_ ?_
      · show r.yes.length - (k + 1) < r.yes.length - k; omega
      · exact ⟨by show k + 1 ≤ r.yes.length; omega, by show (b || _) = _; rw [take_snoc hyo, List.any_append, hb, Bool.or_assoc]; simp [offB]⟩
      · exact cv_
      · exact sub_
    · replace hc8 := nm_ hc8
      refine awp_exit ?_
      refine aThen_exit ?_
      refine aThen_exit ?_
      refine aBlock_hit ?_
      refine awp_seq ?_
      obtain rfl : k = r.yes.length := by omega
      replace hb : badR r x.node = b := by rw [hb, badR, List.take_of_length_le (by rw [List.length_zip]; omega)]
      refine awp_region (by kernel_rfl) ?_
      iterate 2 (refine aL_S rfl rfl v_ ?_)
      refine aL_GT rfl rfl v_ rfl vg_ ?_
      refine aL_GT rfl rfl v_ rfl vg_ ?_
      refine aL_GTX rfl rfl v_ rfl (fun hb => AOp_useV (by rfl) (by rfl) (.inr ⟨by rfl, by rfl, by rfl⟩) g_ cg_ (rInO36_c (l := out) (by omega))) ?_
      refine aL_GT rfl rfl v_ rfl vg_ ?_
      (refine aL_S rfl rfl v_ ?_)
      refine aL_nil ?_
      refine awp_cond v_ (fun hc11 => ?_) (fun hc11 => ?_)
      · replace hc11 := nm_ hc11
        refine awp_region (by kernel_rfl) ?_
        iterate 2 (refine aL_S rfl rfl v_ ?_)
        refine aL_buildSlice rfl rfl rfl g_ g_ rfl rfl h_ c2_ (by decide) ?_
        refine aL_append rfl rfl rfl g_ g_ v_ h_ v_ c_ (by simp; omega) fun k94 hk94 => ?_
        (refine aL_S rfl rfl v_ ?_)
        refine aL_nil ?_
        refine awp_region (by kernel_rfl) ?_
        iterate 3 (refine aL_S rfl rfl v_ ?_)
        refine aL_nil ?_
        refine aNext (ι := Nat × Nat × List ByteArray) (i := ⟨tk, i, out⟩) (k94, i + 1, out ++ [x.node]) ?_ ?_ ?_ ?_
        · show l.length - (i + 1) < l.length - i; omega
        · exact ⟨by show i + 1 ≤ l.length; omega, (newTok_none hk94).2, by rw [take_snoc hx, List.foldl_append, ← hout]; show _ = stStepR r out x; rw [stStepR, if_pos (by rw [hb, hc11.1, hc11.2]; rfl)], by simp; omega⟩
        · exact cv_
        · exact sub_
      · replace hc11 := nm_ hc11
        refine awp_skip ?_
        refine awp_region (by kernel_rfl) ?_
        iterate 3 (refine aL_S rfl rfl v_ ?_)
        refine aL_nil ?_
        refine aNext (ι := Nat × Nat × List ByteArray) (i := ⟨tk, i, out⟩) (tk, i + 1, out) ?_ ?_ ?_ ?_
        · show l.length - (i + 1) < l.length - i; omega
        · exact ⟨by show i + 1 ≤ l.length; omega, htk, by rw [take_snoc hx, List.foldl_append, ← hout]; show _ = stStepR r out x; rw [stStepR, if_neg (by rw [hb]; rcases hc11 with h | h <;> simp [h])], by show out.length ≤ i + 1; omega⟩
        · exact cv_
        · exact sub_
  · replace hc3 := nm_ hc3
    refine awp_exit ?_
    refine aThen_exit ?_
    refine aThen_exit ?_
    refine aBlock_hit ?_
    refine awp_seq ?_
    obtain rfl : i = l.length := by omega
    rw [List.take_length] at hout
    rw [← hout]
    refine awp_region (by kernel_rfl) ?_
    iterate 2 (refine aL_S rfl rfl v_ ?_)
    refine aL_nil ?_
    refine awp_ret ?_
    exact aEnd_retW (v := .sl 1 (out.map vStr) false) (v' := .own tk 1 (out.map vStr)) va_ (.own1 _ _ _) sub_ ⟨rfl, rfl⟩
end Go.Proofs.YtbcgkbdacijoiaaGreat
end

section
set_option linter.all false
set_option maxRecDepth 100000
namespace Go.Proofs.YtbcgkbdacijoiaaGreat
open Go.Ab
abbrev pO2 : TypeId × Nat := (37, 2)
/-- four rows of one's own -/
structure T4 (σ S : Store) (ky kg kn ko : Nat) : Prop where
  ty : S.tok ky = some pS1
  tg : S.tok kg = some pS1
  tn : S.tok kn = some pS1
  to : S.tok ko = some pO2
  yg : ky ≠ kg
  yn : ky ≠ kn
  yo : ky ≠ ko
  gn : kg ≠ kn
  go : kg ≠ ko
  no : kn ≠ ko
  sy : σ.tok ky = none
  sg : σ.tok kg = none
  sn : σ.tok kn = none
  so : σ.tok ko = none
theorem own_oth {S : Store} {t k j : Nat} {p q : TypeId × Nat} (h1 : j ≠ t) (h2 : j ≠ k) (hj : S.tok j = some q) : (S.newTok (some t) k p).tok j = some q := by
  simp only [Store.newTok]; rw [if_neg h2, if_neg (by simpa using h1)]; exact hj
theorem tok_ne {S : Store} {j k : Nat} {q : TypeId × Nat} (h : S.tok j = some q) (hk : S.tok k = none) : j ≠ k := fun hh => by rw [hh, hk] at h; cases h
theorem T4.set {σ S : Store} {ky kg kn ko i : Nat} {x : AObj} (h : T4 σ S ky kg kn ko) : T4 σ (S.set i x) ky kg kn ko := ⟨h.ty, h.tg, h.tn, h.to, h.yg, h.yn, h.yo, h.gn, h.go, h.no, h.sy, h.sg, h.sn, h.so⟩
theorem T4.y {σ S : Store} {ky kg kn ko k : Nat} (h : T4 σ S ky kg kn ko) (hk : S.tok k = none) (hs : σ.tok k = none) : T4 σ (S.newTok (some ky) k pS1) k kg kn ko :=
  ⟨Store.newTok_get .., own_oth (Ne.symm h.yg) (tok_ne h.tg hk) h.tg, own_oth (Ne.symm h.yn) (tok_ne h.tn hk) h.tn, own_oth (Ne.symm h.yo) (tok_ne h.to hk) h.to, Ne.symm (tok_ne h.tg hk), Ne.symm (tok_ne h.tn hk), Ne.symm (tok_ne h.to hk), h.gn, h.go, h.no, hs, h.sg, h.sn, h.so⟩
theorem T4.g {σ S : Store} {ky kg kn ko k : Nat} (h : T4 σ S ky kg kn ko) (hk : S.tok k = none) (hs : σ.tok k = none) : T4 σ (S.newTok (some kg) k pS1) ky k kn ko :=
  ⟨own_oth h.yg (tok_ne h.ty hk) h.ty, Store.newTok_get .., own_oth (Ne.symm h.gn) (tok_ne h.tn hk) h.tn, own_oth (Ne.symm h.go) (tok_ne h.to hk) h.to, tok_ne h.ty hk, h.yn, h.yo, Ne.symm (tok_ne h.tn hk), Ne.symm (tok_ne h.to hk), h.no, h.sy, hs, h.sn, h.so⟩
theorem T4.n {σ S : Store} {ky kg kn ko k : Nat} (h : T4 σ S ky kg kn ko) (hk : S.tok k = none) (hs : σ.tok k = none) : T4 σ (S.newTok (some kn) k pS1) ky kg k ko :=
  ⟨own_oth h.yn (tok_ne h.ty hk) h.ty, own_oth h.gn (tok_ne h.tg hk) h.tg, Store.newTok_get .., own_oth (Ne.symm h.no) (tok_ne h.to hk) h.to, h.yg, tok_ne h.ty hk, h.yo, tok_ne h.tg hk, h.go, Ne.symm (tok_ne h.to hk), h.sy, h.sg, hs, h.so⟩
theorem T4.o {σ S : Store} {ky kg kn ko k : Nat} (h : T4 σ S ky kg kn ko) (hk : S.tok k = none) (hs : σ.tok k = none) : T4 σ (S.newTok (some ko) k pO2) ky kg kn k :=
  ⟨own_oth h.yo (tok_ne h.ty hk) h.ty, own_oth h.go (tok_ne h.tg hk) h.tg, own_oth h.no (tok_ne h.tn hk) h.tn, Store.newTok_get .., h.yg, h.yn, tok_ne h.ty hk, h.gn, tok_ne h.tg hk, tok_ne h.tn hk, h.sy, h.sg, h.sn, hs⟩
def ansR0 (r : Rr) (k : Int) (n : ByteArray) (o : Obj') : Rr :=
  if k = 1 ∧ (mergeS r.all o).2 = 0 then { r with yes := r.yes ++ [n], objs := r.objs ++ [o], all := (mergeS r.all o).1 }
  else if k = 2 then { r with gone := r.gone ++ [n] } else { r with no := r.no ++ [n] }
def ansR (p : Prp) (l : List Ch) (r : Rr) (k : Int) (n : ByteArray) (o : Obj') : Rr := if freeR l r n then { ansR0 r k n o with dec := decQ p l (ansR0 r k n o) } else r
theorem ansR0_sm {r : Rr} {k : Int} {n : ByteArray} {o : Obj'} (h1 : r.yes.length ≤ 900) (h2 : r.gone.length ≤ 900) (h3 : r.no.length ≤ 900) (h4 : r.objs.length ≤ 900) : RrSm (ansR0 r k n o) := by
  unfold ansR0
  split
  · exact ⟨by simp; omega, by show r.gone.length ≤ _; omega, by show r.no.length ≤ _; omega, by simp; omega⟩
  · split
    · exact ⟨by show r.yes.length ≤ _; omega, by simp; omega, by show r.no.length ≤ _; omega, by show r.objs.length ≤ _; omega⟩
    · exact ⟨by show r.yes.length ≤ _; omega, by show r.gone.length ≤ _; omega, by simp; omega, by show r.objs.length ≤ _; omega⟩
set_option maxHeartbeats 8000000 in
theorem rAns_c {σb S : Store} {X ky kg kn ko : Nat} {p : Prp} {l : List Ch} {r : Rr} {k : Int} {n : ByteArray} {o : Obj'} (hX : S.heap X = some (.cells (rrC p l ky kg kn ko r))) (hT : T4 σb S ky kg kn ko) (hsb : SubX [] σb S) (nX : σb.heap X = none) (hn : l.length ≤ 10000)
    (h1 : r.yes.length ≤ 900) (h2 : r.gone.length ≤ 900) (h3 : r.no.length ≤ 900) (h4 : r.objs.length ≤ 900) (hw : ObjSm r.all) (ho : ObjSm o) :
    ACalls Tryz.prog 17 [.ref X 0, vInt k, vStr n, sObj o] S fun v S' => v = .tup [] ∧ ∃ a b c d, S'.heap X = some (.cells (rrC p l a b c d (ansR p l r k n o))) ∧ T4 σb S' a b c d ∧ SubX [] σb S' ∧ ∀ i y, i ≠ X → S.heap i = some y → S'.heap i = some y := by
  refine ACalls_of Tryz.func17 rfl Tryz.ntmps17 (congrArg Array.toList Tryz.results17) (by simp only [List.length_cons, List.length_nil]; decide) ?_; simp only [envOf_cons, envOf_nil, Nat.reduceAdd]
  refine awp_seq ?_
  refine awp_region (by kernel_rfl) ?_
  refine aL_box rfl rfl rfl v_ rfl g_ fun o7 ho7 => ?_
  repeat (rw [none_set_iff] at ho7; obtain ⟨_, ho7⟩ := ho7)
  refine aL_nil ?_
  skip
  have x7 := ne_of_heap hX ho7
  have b7 : σb.heap o7 = none := SubX.noObj hsb ho7 (by simp)
  refine awp_gen fun S0 hS => ?_
  have fX : S0.heap X = some (.cells (rrC p l ky kg kn ko r)) := by rw [hS, Store.set_ne _ _ x7]; exact hX
  have f7 : S0.heap o7 = some (.cells (sObj o).cells) := by rw [hS]; exact Store.set_get ..
  have hT0 : T4 σb S0 ky kg kn ko := by rw [hS]; exact hT.set
  have hs0 : SubX [] σb S0 := by rw [hS]; exact subx_new b7 hsb
  have kp0 : ∀ i y, i ≠ X → S.heap i = some y → S0.heap i = some y := fun i y _ hy => by rw [hS, Store.set_ne _ _ (ne_of_heap hy ho7)]; exact hy
  clear hS
  refine awp_seq ?_
  refine awp_seq ?_
  refine awp_region (by kernel_rfl) ?_
  iterate 2 (refine aL_S rfl rfl v_ ?_)
  refine aL_X rfl rfl (AOp_use rfl rfl (.inr ⟨rfl, rfl, rfl⟩) g_ va_ (free_c fX hn ⟨by omega, by omega, by omega, by omega⟩) ?_); rintro _ _ ⟨rfl, rfl⟩
  (refine aL_S rfl rfl v_ ?_)
  refine aL_nil ?_
  refine awp_cond v_ (fun hc1 => ?_) (fun hc1 => ?_)
  · replace hc1 := nm_ hc1
    refine awp_ret ?_
    exact aEnd_ret va_ (Store.Wk.refl _) ⟨rfl, ky, kg, kn, ko, by rw [ansR, if_neg (by simpa using hc1)]; exact fX, hT0, hs0, kp0⟩
  · replace hc1 := nm_ hc1
    have hfree : freeR l r n = true := by simpa using hc1
    refine awp_skip ?_
    refine awp_seq_mid (ι := Store × Nat) (fun ⟨S1, p8⟩ => S1.heap X = some (.cells (rrC p l ky kg kn ko r)) ∧ S1.heap o7 = some (.cells (sObj o).cells) ∧ S1.heap p8 = some (.cells (sObj (mergeS r.all o).1).cells) ∧ T4 σb S1 ky kg kn ko ∧ SubX [] σb S1 ∧ ∀ i y, i ≠ X → S.heap i = some y → S1.heap i = some y) (fun ⟨S1, p8⟩ => [(0, .ref X 0), (1, vInt k), (2, vStr n), (7, .ref o7 0), (8, .ref p8 0), (9, vInt (mergeS r.all o).2)]) (fun ⟨S1, p8⟩ => S1) ?_ ?_
    · have R := And.intro fX f7
      refine awp_draw (.op 0 0 (.op 1 0 (.op 2 0 (.op 3 0 (.op 4 0 (.alt 5 1 (.op 6 0 (.op 7 0 (.op 8 0 (.op 9 1 (.op 10 2 (.op 11 0 .nil)))))) (.op 9 1 (.op 5 1 (.op 6 0 (.op 7 0 (.op 8 0 (.op 10 2 (.op 11 0 .nil))))))))))))) Tryz.mixed (by kernel_rfl) ?_
      iterate 5 (refine dR_S o_ (by rfl) (by rfl) v_ ?_)
      refine dR_alt ?_ ?_
      · refine dR_X o_ (by rfl) (by rfl) (AOp_use (by rfl) (by rfl) (.inr ⟨by rfl, by rfl, by rfl⟩) g_ va_ (rMerge_c hw ho) ?_); rintro _ _ ⟨rfl, rfl⟩; refine ⟨sub_, ?_⟩
        iterate 3 (refine dR_S o_ (by rfl) (by rfl) v_ ?_)
        refine dR_alloc o_ (by rfl) (by rfl) (by rfl) g_ gl_ sub_ fun o8 ho8 => ?_
        repeat (rw [none_set_iff] at ho8; obtain ⟨_, ho8⟩ := ho8)
        refine dR_store o_ (by rfl) (by rfl) (by rfl) v_ v_ h_ g_ rfl g_ c_ (by rfl) le_ v_ ?_
        (refine dR_S o_ (by rfl) (by rfl) v_ ?_)
        refine dR_nil ?_
        skip
        refine q_gen fun S1 hS => ?_
        have x8 := ne_of_heap fX ho8; have y8 := ne_of_heap f7 ho8
        have b8 : σb.heap o8 = none := SubX.noObj hs0 ho8 (by simp)
        have hj : S1.heap X = some (.cells (rrC p l ky kg kn ko r)) ∧ S1.heap o7 = some (.cells (sObj o).cells) ∧ S1.heap o8 = some (.cells (sObj (mergeS r.all o).1).cells) ∧ T4 σb S1 ky kg kn ko ∧ SubX [] σb S1 ∧ ∀ i y, i ≠ X → S.heap i = some y → S1.heap i = some y := by
          rw [hS]
          exact ⟨by rw [Store.set_ne _ _ x8, Store.set_ne _ _ x8]; exact fX, by rw [Store.set_ne _ _ y8, Store.set_ne _ _ y8]; exact f7, Store.set_get .., hT0.set.set, subx_new b8 (subx_new b8 hs0), fun i y hi hy => by
            have := kp0 i y hi hy
            rw [Store.set_ne _ _ (ne_of_heap this ho8), Store.set_ne _ _ (ne_of_heap this ho8)]; exact this⟩
        clear hS
        refine ⟨(S1, o8), ?_, ?_, ?_⟩
        · exact hj
        · exact cv_
        · exact Store.Wk.refl _
      refine dR_alloc o_ (by rfl) (by rfl) (by rfl) g_ gl_ sub_ fun o8 ho8 => ?_
      repeat (rw [none_set_iff] at ho8; obtain ⟨_, ho8⟩ := ho8)
      refine dR_X o_ (by rfl) (by rfl) (AOp_use (by rfl) (by rfl) (.inr ⟨by rfl, by rfl, by rfl⟩) g_ va_ (rMerge_c hw ho) ?_); rintro _ _ ⟨rfl, rfl⟩; refine ⟨sub_, ?_⟩
      iterate 3 (refine dR_S o_ (by rfl) (by rfl) v_ ?_)
      refine dR_store o_ (by rfl) (by rfl) (by rfl) v_ v_ h_ g_ rfl g_ c_ (by rfl) le_ v_ ?_
      (refine dR_S o_ (by rfl) (by rfl) v_ ?_)
      refine dR_nil ?_
      skip
      refine q_gen fun S1 hS => ?_
      have x8 := ne_of_heap fX ho8; have y8 := ne_of_heap f7 ho8
      have b8 : σb.heap o8 = none := SubX.noObj hs0 ho8 (by simp)
      have hj : S1.heap X = some (.cells (rrC p l ky kg kn ko r)) ∧ S1.heap o7 = some (.cells (sObj o).cells) ∧ S1.heap o8 = some (.cells (sObj (mergeS r.all o).1).cells) ∧ T4 σb S1 ky kg kn ko ∧ SubX [] σb S1 ∧ ∀ i y, i ≠ X → S.heap i = some y → S1.heap i = some y := by
        rw [hS]
        exact ⟨by rw [Store.set_ne _ _ x8, Store.set_ne _ _ x8]; exact fX, by rw [Store.set_ne _ _ y8, Store.set_ne _ _ y8]; exact f7, Store.set_get .., hT0.set.set, subx_new b8 (subx_new b8 hs0), fun i y hi hy => by
          have := kp0 i y hi hy
          rw [Store.set_ne _ _ (ne_of_heap this ho8), Store.set_ne _ _ (ne_of_heap this ho8)]; exact this⟩
      clear hS
      refine ⟨(S1, o8), ?_, ?_, ?_⟩
      · exact hj
      · exact cv_
      · exact Store.Wk.refl _
    · rintro ⟨S1, p8⟩ ⟨fX, f7, f8, hT1, hs1, kp1⟩
      simp only [envL_cons, envL_nil]
      refine awp_seq ?_
      refine awp_block ?_
      refine awp_seq ?_
      refine awp_region (by kernel_rfl) ?_
      iterate 3 (refine aL_S rfl rfl v_ ?_)
      refine aL_GT rfl rfl v_ rfl vg_ ?_
      refine aL_GT rfl rfl v_ rfl vg_ ?_
      iterate 2 (refine aL_S rfl rfl v_ ?_)
      refine aL_nil ?_
      refine awp_cond v_ (fun hc4 => ?_) (fun hc4 => ?_)
      · replace hc4 := nm_ hc4
        refine awp_seq ?_
        have R := And.intro fX f8
        refine awp_region (by kernel_rfl) ?_
        iterate 4 (refine aL_S rfl rfl v_ ?_)
        refine aL_store rfl rfl rfl v_ v_ h_ g_ rfl g_ c_ (by rfl) le_ v_ ?_
        refine aL_nil ?_
        skip
        refine awp_gen fun S2 hS => ?_
        have gX : S2.heap X = some (.cells (rrC p l ky kg kn ko { r with all := (mergeS r.all o).1 })) := by rw [hS]; exact Store.set_get ..
        have g7 : S2.heap o7 = some (.cells (sObj o).cells) := by rw [hS, Store.set_ne _ _ (Ne.symm x7)]; exact f7
        have hT2 : T4 σb S2 ky kg kn ko := by rw [hS]; exact hT1.set
        have hs2 : SubX [] σb S2 := by rw [hS]; exact subx_new nX hs1
        have kp2 : ∀ i y, i ≠ X → S.heap i = some y → S2.heap i = some y := fun i y hi hy => by rw [hS, Store.set_ne _ _ hi]; exact kp1 i y hi hy
        have ty2 := hT2.ty
        clear hS
        refine awp_seq ?_
        have R := And.intro gX ty2
        refine awp_region (by kernel_rfl) ?_
        iterate 6 (refine aL_S rfl rfl v_ ?_)
        refine aL_buildSlice rfl rfl rfl g_ g_ rfl rfl h_ c2_ (by decide) ?_
        refine aL_append rfl rfl rfl g_ g_ v_ h_ v_ c_ (by simp; omega) fun k51 hk51 => ?_
        iterate 2 (refine aL_S rfl rfl v_ ?_)
        refine aL_store rfl rfl rfl v_ v_ h_ g_ rfl g_ c_ (by rfl) le_ v_ ?_
        refine aL_nil ?_
        skip
        have s51 : σb.tok k51 = none := SubX.noTok hs2 hk51
        refine awp_gen fun S3 hS => ?_
        have gX3 : S3.heap X = some (.cells (rrC p l k51 kg kn ko { r with all := (mergeS r.all o).1, yes := r.yes ++ [n] })) := by rw [hS, Store.set_get, rrC]; simp
        have g73 : S3.heap o7 = some (.cells (sObj o).cells) := by rw [hS, Store.set_ne _ _ (Ne.symm x7)]; exact g7
        have hT3 : T4 σb S3 k51 kg kn ko := by rw [hS]; exact (hT2.y hk51 s51).set
        have hs3 : SubX [] σb S3 := by rw [hS]; exact subx_new nX (SubX.newTok hs2 (fun j hj => by cases hj; exact hT2.sy) hk51)
        have kp3 : ∀ i y, i ≠ X → S.heap i = some y → S3.heap i = some y := fun i y hi hy => by rw [hS, Store.set_ne _ _ hi]; exact kp2 i y hi hy
        have to3 := hT3.to
        clear hS
        obtain ⟨Sb, bh, b0, b1, b2⟩ := bare_of S3
        have fbX := (bh X).trans gX3; have fb7 := (bh o7).trans g73
        have R := And.intro fbX (And.intro fb7 (And.intro gX3 to3))
        refine awp_draw0 (.op 0 0 (.op 1 0 (.op 2 0 (.op 3 0 (.op 4 0 (.op 5 0 (.op 6 1 (.op 7 1 (.op 8 0 (.op 9 0 (.op 10 2 .nil))))))))))) Tryz.mixed Sb b0 (by kernel_rfl) ?_
        iterate 6 (refine dR_S o_ (by rfl) (by rfl) v_ ?_)
        refine dR_X o_ (by rfl) (by rfl) (AOp_buildSlice' (by rfl) g_ g_ (by rfl) (by rfl) h_ c2_ (by decide) ⟨b0, ?_⟩)
        refine dR_X o_ (by rfl) (by rfl) (AOp_append' (by rfl) g_ g_ v_ h_ v_ c_ (by simp; omega) fun k61 hk61 => ⟨b1 _ _ _, ?_⟩)
        iterate 2 (refine dR_S o_ (by rfl) (by rfl) v_ ?_)
        refine dR_store o_ (by rfl) (by rfl) (by rfl) v_ v_ h_ g_ rfl g_ c_ (by rfl) le_ v_ ?_
        refine dR_nil ?_
        skip
        have s61 : σb.tok k61 = none := SubX.noTok hs3 hk61
        refine q_gen fun S9 hS => ?_
        have h9 : ∃ a b c d, S9.heap X = some (.cells (rrC p l a b c d (ansR0 r k n o))) ∧ T4 σb S9 a b c d ∧ SubX [] σb S9 ∧ ∀ i y, i ≠ X → S.heap i = some y → S9.heap i = some y := by
          rw [hS]
          refine ⟨k51, kg, kn, k61, ?_, (hT3.o hk61 s61).set, subx_new nX (SubX.newTok hs3 (fun j hj => by cases hj; exact hT3.so) hk61), fun i y hi hy => by rw [Store.set_ne _ _ hi]; exact kp3 i y hi hy⟩
          rw [Store.set_get, ansR0, if_pos hc4, rrC]; simp
        obtain ⟨ka, kb, kc, kd, fY, hT9, hs9, kp9⟩ := h9
        clear hS
        refine awp_region (by kernel_rfl) ?_
        (refine aL_S rfl rfl v_ ?_)
        refine aL_X rfl rfl (AOp_use rfl rfl (.inr ⟨rfl, rfl, rfl⟩) g_ va_ (rDecide_c fY hn (ansR0_sm h1 h2 h3 h4)) ?_); rintro _ τ9 ⟨rfl, rfl⟩
        refine aL_nil ?_
        exact aEnd_nor va_ (Store.Wk.refl _) ⟨rfl, ka, kb, kc, kd, by rw [ansR, if_pos hfree]; exact Store.set_get .., hT9.set, subx_new nX hs9, fun i y hi hy => by rw [Store.set_ne _ _ hi]; exact kp9 i y hi hy⟩
      · replace hc4 := nm_ hc4
        refine awp_seq ?_
        refine awp_region (by kernel_rfl) ?_
        iterate 3 (refine aL_S rfl rfl v_ ?_)
        refine aL_nil ?_
        refine awp_cond v_ (fun hc8 => ?_) (fun hc8 => ?_)
        · replace hc8 := nm_ hc8
          have tg1 := hT1.tg
          have R := And.intro fX tg1
          refine awp_region (by kernel_rfl) ?_
          iterate 6 (refine aL_S rfl rfl v_ ?_)
          refine aL_buildSlice rfl rfl rfl g_ g_ rfl rfl h_ c2_ (by decide) ?_
          refine aL_append rfl rfl rfl g_ g_ v_ h_ v_ c_ (by simp; omega) fun k74 hk74 => ?_
          iterate 2 (refine aL_S rfl rfl v_ ?_)
          refine aL_store rfl rfl rfl v_ v_ h_ g_ rfl g_ c_ (by rfl) le_ v_ ?_
          refine aL_nil ?_
          skip
          have s74 : σb.tok k74 = none := SubX.noTok hs1 hk74
          refine q_gen fun S9 hS => ?_
          have h9 : ∃ a b c d, S9.heap X = some (.cells (rrC p l a b c d (ansR0 r k n o))) ∧ T4 σb S9 a b c d ∧ SubX [] σb S9 ∧ ∀ i y, i ≠ X → S.heap i = some y → S9.heap i = some y := by
            rw [hS]
            refine ⟨ky, k74, kn, ko, ?_, (hT1.g hk74 s74).set, subx_new nX (SubX.newTok hs1 (fun j hj => by cases hj; exact hT1.sg) hk74), fun i y hi hy => by rw [Store.set_ne _ _ hi]; exact kp1 i y hi hy⟩
            rw [Store.set_get, ansR0, if_neg (by intro h; have := h.1; omega), if_pos hc8, rrC]; simp
          obtain ⟨ka, kb, kc, kd, fY, hT9, hs9, kp9⟩ := h9
          clear hS
          refine awp_region (by kernel_rfl) ?_
          (refine aL_S rfl rfl v_ ?_)
          refine aL_X rfl rfl (AOp_use rfl rfl (.inr ⟨rfl, rfl, rfl⟩) g_ va_ (rDecide_c fY hn (ansR0_sm h1 h2 h3 h4)) ?_); rintro _ τ9 ⟨rfl, rfl⟩
          refine aL_nil ?_
          exact aEnd_nor va_ (Store.Wk.refl _) ⟨rfl, ka, kb, kc, kd, by rw [ansR, if_pos hfree]; exact Store.set_get .., hT9.set, subx_new nX hs9, fun i y hi hy => by rw [Store.set_ne _ _ hi]; exact kp9 i y hi hy⟩
        · replace hc8 := nm_ hc8
          have tn1 := hT1.tn
          have R := And.intro fX tn1
          refine awp_region (by kernel_rfl) ?_
          iterate 6 (refine aL_S rfl rfl v_ ?_)
          refine aL_buildSlice rfl rfl rfl g_ g_ rfl rfl h_ c2_ (by decide) ?_
          refine aL_append rfl rfl rfl g_ g_ v_ h_ v_ c_ (by simp; omega) fun k30 hk30 => ?_
          iterate 2 (refine aL_S rfl rfl v_ ?_)
          refine aL_store rfl rfl rfl v_ v_ h_ g_ rfl g_ c_ (by rfl) le_ v_ ?_
          refine aL_nil ?_
          skip
          have s30 : σb.tok k30 = none := SubX.noTok hs1 hk30
          refine q_gen fun S9 hS => ?_
          have h9 : ∃ a b c d, S9.heap X = some (.cells (rrC p l a b c d (ansR0 r k n o))) ∧ T4 σb S9 a b c d ∧ SubX [] σb S9 ∧ ∀ i y, i ≠ X → S.heap i = some y → S9.heap i = some y := by
            rw [hS]
            refine ⟨ky, kg, k30, ko, ?_, (hT1.n hk30 s30).set, subx_new nX (SubX.newTok hs1 (fun j hj => by cases hj; exact hT1.sn) hk30), fun i y hi hy => by rw [Store.set_ne _ _ hi]; exact kp1 i y hi hy⟩
            rw [Store.set_get, ansR0, if_neg (by rintro ⟨q1, q2⟩; rcases hc4 with h | h; exact h q1; exact h q2), if_neg hc8, rrC]; simp
          obtain ⟨ka, kb, kc, kd, fY, hT9, hs9, kp9⟩ := h9
          clear hS
          refine awp_region (by kernel_rfl) ?_
          (refine aL_S rfl rfl v_ ?_)
          refine aL_X rfl rfl (AOp_use rfl rfl (.inr ⟨rfl, rfl, rfl⟩) g_ va_ (rDecide_c fY hn (ansR0_sm h1 h2 h3 h4)) ?_); rintro _ τ9 ⟨rfl, rfl⟩
          refine aL_nil ?_
          exact aEnd_nor va_ (Store.Wk.refl _) ⟨rfl, ka, kb, kc, kd, by rw [ansR, if_pos hfree]; exact Store.set_get .., hT9.set, subx_new nX hs9, fun i y hi hy => by rw [Store.set_ne _ _ hi]; exact kp9 i y hi hy⟩
end Go.Proofs.YtbcgkbdacijoiaaGreat
end

section
set_option linter.all false
set_option maxRecDepth 100000
namespace Go.Proofs.YtbcgkbdacijoiaaGreat
open Go.Ab
structure RelR (l : List Ch) (s : Rs) (r : Rr) : Prop where
  k1 : ∀ n, kindP s.rp n = 1 ↔ hasQ r.yes n = true
  k2 : ∀ n, kindP s.rp n = 2 ↔ hasQ r.gone n = true
  k3 : ∀ n, kindP s.rp n = 3 ↔ hasQ r.no n = true
  kr : ∀ q ∈ s.rp, q.kind = 1 ∨ q.kind = 2 ∨ q.kind = 3
  w : s.w = r.all
  st : s.st = r.dec
  len : r.objs.length = r.yes.length
  ob : ∀ q ∈ r.yes.zip r.objs, objP s.rp q.1 = q.2
  inl : ∀ y ∈ r.yes, ∃ x ∈ l, x.node = y
theorem kind_vals {rp : List Rp} (h : ∀ q ∈ rp, q.kind = 1 ∨ q.kind = 2 ∨ q.kind = 3) (n : ByteArray) : kindP rp n = 0 ∨ kindP rp n = 1 ∨ kindP rp n = 2 ∨ kindP rp n = 3 := by
  unfold kindP
  cases hf : findP rp n with
  | none => exact .inl rfl
  | some q => exact .inr (h q (List.mem_of_find?_eq_some hf))
theorem kind_zero {l : List Ch} {s : Rs} {r : Rr} (h : RelR l s r) (n : ByteArray) : decide (kindP s.rp n = 0) = (!hasQ r.yes n && !hasQ r.gone n && !hasQ r.no n) := by
  have a := h.k1 n; have b := h.k2 n; have c := h.k3 n
  rcases kind_vals h.kr n with e | e | e | e <;> rw [e] at a b c ⊢ <;> simp at a b c ⊢
  · simp [a, b, c]
  · simp [a]
  · simp [b]
  · simp [c]
theorem has_names {l : List Ch} {rp : List Rp} {k : Int} {x : Ch} (hx : x ∈ l) : hasQ (namesR l rp k) x.node = decide (kindP rp x.node = k) := by
  rw [Bool.eq_iff_iff, hasQ_iff, decide_eq_true_eq]
  simp only [namesR, List.mem_map, List.mem_filter, decide_eq_true_eq]
  constructor
  · rintro ⟨y, ⟨_, hy⟩, e⟩; rw [← e]; exact hy
  · intro h; exact ⟨x, ⟨hx, h⟩, rfl⟩
theorem readQ_congr {p : Prp} {l : List Ch} {f m n f' m' n' : List ByteArray} (h1 : ∀ x ∈ l, hasQ f x.node = hasQ f' x.node) (h2 : ∀ x ∈ l, hasQ m x.node = hasQ m' x.node) (h3 : ∀ x ∈ l, hasQ n x.node = hasQ n' x.node) : readQ p l f m n = readQ p l f' m' n' := by
  have w : ∀ x ∈ l, whoS p f m x.node = whoS p f' m' x.node := fun x hx => by unfold whoS; rw [h1 x hx, h2 x hx]
  have v : ∀ x ∈ l, (fun s => whoS p f m s || !anyQ [f, m, n] s) x.node = (fun s => whoS p f' m' s || !anyQ [f', m', n'] s) x.node := fun x hx => by
    show (whoS p f m x.node || !anyQ [f, m, n] x.node) = (whoS p f' m' x.node || !anyQ [f', m', n'] x.node)
    rw [w x hx]
    simp [anyQ, h1 x hx, h2 x hx, h3 x hx]
  have en : ∀ {a b : ByteArray → Bool} (c d : Int), (∀ x ∈ l, a x.node = b x.node) → enS l a c d = enS l b c d := fun c d hab => by unfold enS; rw [cntS_congr hab, clmS_congr hab]
  have e1 := en (a := whoS p f m) (b := whoS p f' m') p.r p.pr w
  have e2 := en (a := fun s => whoS p f m s || !anyQ [f, m, n] s) (b := fun s => whoS p f' m' s || !anyQ [f', m', n'] s) p.r p.pr v
  unfold readQ
  rw [e2, e1, cntS_congr h1, cntS_congr h2]
theorem RelR.read {p : Prp} {l : List Ch} {s : Rs} {r : Rr} (h : RelR l s r) : readQ p l (namesR l s.rp 1) (namesR l s.rp 2) (namesR l s.rp 3) = readQ p l r.yes r.gone r.no := by
  refine readQ_congr (fun x hx => ?_) (fun x hx => ?_) (fun x hx => ?_) <;> rw [has_names hx, Bool.eq_iff_iff, decide_eq_true_eq]
  · exact h.k1 _
  · exact h.k2 _
  · exact h.k3 _
theorem RelR.dec {p : Prp} {l : List Ch} {s : Rs} {r : Rr} (h : RelR l s r) : decS p l s.rp s.st = decQ p l r := by rw [decS, decQ, h.read, h.st]
theorem cnt_any (l : List Ch) (n : ByteArray) : decide (0 < cntS l (hasQ [n])) = l.any fun x => decide (x.node = n) := by
  rw [Bool.eq_iff_iff, decide_eq_true_eq, List.any_eq_true]
  unfold cntS
  rw [List.length_pos_iff_exists_mem]
  constructor
  · rintro ⟨x, hx⟩
    obtain ⟨h1, h2⟩ := List.mem_filter.1 hx
    exact ⟨x, h1, by simpa [hasQ, eq_comm] using h2⟩
  · rintro ⟨x, h1, h2⟩
    exact ⟨x, List.mem_filter.2 ⟨h1, by simpa [hasQ, eq_comm] using h2⟩⟩
theorem RelR.free {l : List Ch} {s : Rs} {r : Rr} (h : RelR l s r) (n : ByteArray) : freshP l s n = freeR l r n := by
  rw [freshP, freeR, kind_zero h, cnt_any]
  cases l.any (fun x => decide (x.node = n)) <;> cases hasQ r.yes n <;> cases hasQ r.gone n <;> cases hasQ r.no n <;> rfl
theorem RelR.open_ {l : List Ch} {s : Rs} {r : Rr} (h : RelR l s r) : (l.any fun x => decide (kindP s.rp x.node = 0)) = l.any fun x => freeR l r x.node := by
  rw [Bool.eq_iff_iff, List.any_eq_true, List.any_eq_true]
  have e : ∀ x ∈ l, freeR l r x.node = decide (kindP s.rp x.node = 0) := fun x hx => by
    rw [← h.free, freshP, List.any_eq_true.2 ⟨x, hx, by simp⟩, Bool.and_true]
  exact ⟨fun ⟨x, hx, hk⟩ => ⟨x, hx, by rw [e x hx]; exact hk⟩, fun ⟨x, hx, hk⟩ => ⟨x, hx, by rw [← e x hx]; exact hk⟩⟩
end Go.Proofs.YtbcgkbdacijoiaaGreat
end

section
set_option linter.all false
set_option maxRecDepth 100000
namespace Go.Proofs.YtbcgkbdacijoiaaGreat
open Go.Ab
theorem find_app {rp : List Rp} {q : Rp} (m : ByteArray) (h : findP rp q.name = none) : findP (rp ++ [q]) m = if q.name = m then some q else findP rp m := by
  unfold findP at h ⊢
  rw [List.find?_append]
  by_cases e : q.name = m
  · subst e; rw [h]; simp
  · rw [if_neg e]; simp [e]
theorem kind_app {rp : List Rp} {q : Rp} (m : ByteArray) (h : findP rp q.name = none) : kindP (rp ++ [q]) m = if q.name = m then q.kind else kindP rp m := by
  unfold kindP; rw [find_app m h]; split <;> rename_i e <;> by_cases hm : q.name = m <;> simp_all
theorem obj_app {rp : List Rp} {q : Rp} (m : ByteArray) (h : findP rp q.name = none) : objP (rp ++ [q]) m = if q.name = m then q.obj else objP rp m := by
  unfold objP; rw [find_app m h]; split <;> rename_i e <;> by_cases hm : q.name = m <;> simp_all
theorem hasQ_app_iff (l : List ByteArray) (n m : ByteArray) : hasQ (l ++ [n]) m = true ↔ hasQ l m = true ∨ n = m := by simp [hasQ]
theorem RelR.fresh_parts {l : List Ch} {s : Rs} {r : Rr} {n : ByteArray} (h : RelR l s r) (hf : freshP l s n = true) : findP s.rp n = none ∧ kindP s.rp n = 0 ∧ (∃ x ∈ l, x.node = n) ∧ hasQ r.yes n = false ∧ hasQ r.gone n = false ∧ hasQ r.no n = false := by
  rw [freshP, Bool.and_eq_true, decide_eq_true_eq, List.any_eq_true] at hf
  obtain ⟨h0, x, hx, hn⟩ := hf
  have hz := kind_zero h n
  rw [decide_eq_true h0] at hz
  refine ⟨find_of (fun q hq => by rcases h.kr q hq with e | e | e <;> omega) h0, h0, ⟨x, hx, by simpa using hn⟩, ?_, ?_, ?_⟩ <;> · revert hz; cases hasQ r.yes n <;> cases hasQ r.gone n <;> cases hasQ r.no n <;> simp
theorem RelR.addYes {l : List Ch} {s : Rs} {r : Rr} {n : ByteArray} {o w : Obj'} (h : RelR l s r) (hf : freshP l s n = true) : RelR l ⟨s.rp ++ [⟨n, 1, o⟩], w, s.st⟩ { r with yes := r.yes ++ [n], objs := r.objs ++ [o], all := w } := by
  obtain ⟨hn, h0, hl, hy, hg, hx⟩ := h.fresh_parts hf
  refine ⟨fun m => ?_, fun m => ?_, fun m => ?_, fun q hq => ?_, rfl, h.st, by simp [h.len], fun q hq => ?_, fun y hyy => ?_⟩
  · show kindP (s.rp ++ [⟨n, 1, o⟩]) m = 1 ↔ hasQ (r.yes ++ [n]) m = true
    rw [kind_app m hn, hasQ_app_iff, ← h.k1 m]
    by_cases e : n = m <;> simp [e]
  · show kindP (s.rp ++ [⟨n, 1, o⟩]) m = 2 ↔ hasQ r.gone m = true
    rw [kind_app m hn, ← h.k2 m]
    by_cases e : n = m
    · subst e; simp [h0]
    · simp [e]
  · show kindP (s.rp ++ [⟨n, 1, o⟩]) m = 3 ↔ hasQ r.no m = true
    rw [kind_app m hn, ← h.k3 m]
    by_cases e : n = m
    · subst e; simp [h0]
    · simp [e]
  · rcases List.mem_append.1 hq with hq | hq
    · exact h.kr q hq
    · rw [List.mem_singleton.1 hq]; exact .inl rfl
  · have hz : (r.yes ++ [n]).zip (r.objs ++ [o]) = r.yes.zip r.objs ++ [(n, o)] := by rw [List.zip_append h.len.symm]; rfl
    have hq' : q ∈ r.yes.zip r.objs ++ [(n, o)] := by rw [← hz]; exact hq
    show objP (s.rp ++ [⟨n, 1, o⟩]) q.1 = q.2
    rw [obj_app q.1 hn]
    rcases List.mem_append.1 hq' with hq | hq
    · have : q.1 ∈ r.yes := (List.of_mem_zip (a := q.1) (b := q.2) hq).1
      rw [if_neg (fun e => by have e' : n = q.1 := e; rw [e'] at hy; rw [hasQ_iff.2 this] at hy; cases hy)]
      exact h.ob q hq
    · rw [List.mem_singleton.1 hq, if_pos rfl]
  · rcases List.mem_append.1 hyy with hq | hq
    · exact h.inl y hq
    · rw [List.mem_singleton.1 hq]; exact hl
theorem RelR.addGone {l : List Ch} {s : Rs} {r : Rr} {n : ByteArray} (h : RelR l s r) (hf : freshP l s n = true) : RelR l ⟨s.rp ++ [⟨n, 2, o00⟩], s.w, s.st⟩ { r with gone := r.gone ++ [n] } := by
  obtain ⟨hn, h0, hl, hy, hg, hx⟩ := h.fresh_parts hf
  refine ⟨fun m => ?_, fun m => ?_, fun m => ?_, fun q hq => ?_, h.w, h.st, h.len, fun q hq => ?_, h.inl⟩
  · show kindP (s.rp ++ [⟨n, 2, o00⟩]) m = 1 ↔ hasQ r.yes m = true
    rw [kind_app m hn, ← h.k1 m]
    by_cases e : n = m
    · subst e; simp [h0]
    · simp [e]
  · show kindP (s.rp ++ [⟨n, 2, o00⟩]) m = 2 ↔ hasQ (r.gone ++ [n]) m = true
    rw [kind_app m hn, hasQ_app_iff, ← h.k2 m]
    by_cases e : n = m <;> simp [e]
  · show kindP (s.rp ++ [⟨n, 2, o00⟩]) m = 3 ↔ hasQ r.no m = true
    rw [kind_app m hn, ← h.k3 m]
    by_cases e : n = m
    · subst e; simp [h0]
    · simp [e]
  · rcases List.mem_append.1 hq with hq | hq
    · exact h.kr q hq
    · rw [List.mem_singleton.1 hq]; exact .inr (.inl rfl)
  · show objP (s.rp ++ [⟨n, 2, o00⟩]) q.1 = q.2
    have : q.1 ∈ r.yes := (List.of_mem_zip (a := q.1) (b := q.2) hq).1
    rw [obj_app q.1 hn, if_neg (fun e => by have e' : n = q.1 := e; rw [e'] at hy; rw [hasQ_iff.2 this] at hy; cases hy)]
    exact h.ob q hq
theorem RelR.addNo {l : List Ch} {s : Rs} {r : Rr} {n : ByteArray} (h : RelR l s r) (hf : freshP l s n = true) : RelR l ⟨s.rp ++ [⟨n, 3, o00⟩], s.w, s.st⟩ { r with no := r.no ++ [n] } := by
  obtain ⟨hn, h0, hl, hy, hg, hx⟩ := h.fresh_parts hf
  refine ⟨fun m => ?_, fun m => ?_, fun m => ?_, fun q hq => ?_, h.w, h.st, h.len, fun q hq => ?_, h.inl⟩
  · show kindP (s.rp ++ [⟨n, 3, o00⟩]) m = 1 ↔ hasQ r.yes m = true
    rw [kind_app m hn, ← h.k1 m]
    by_cases e : n = m
    · subst e; simp [h0]
    · simp [e]
  · show kindP (s.rp ++ [⟨n, 3, o00⟩]) m = 2 ↔ hasQ r.gone m = true
    rw [kind_app m hn, ← h.k2 m]
    by_cases e : n = m
    · subst e; simp [h0]
    · simp [e]
  · show kindP (s.rp ++ [⟨n, 3, o00⟩]) m = 3 ↔ hasQ (r.no ++ [n]) m = true
    rw [kind_app m hn, hasQ_app_iff, ← h.k3 m]
    by_cases e : n = m <;> simp [e]
  · rcases List.mem_append.1 hq with hq | hq
    · exact h.kr q hq
    · rw [List.mem_singleton.1 hq]; exact .inr (.inr rfl)
  · show objP (s.rp ++ [⟨n, 3, o00⟩]) q.1 = q.2
    have : q.1 ∈ r.yes := (List.of_mem_zip (a := q.1) (b := q.2) hq).1
    rw [obj_app q.1 hn, if_neg (fun e => by have e' : n = q.1 := e; rw [e'] at hy; rw [hasQ_iff.2 this] at hy; cases hy)]
    exact h.ob q hq
theorem RelR.setDec {l : List Ch} {s : Rs} {r : Rr} (h : RelR l s r) (d : Int) : RelR l { s with st := d } { r with dec := d } := ⟨h.k1, h.k2, h.k3, h.kr, h.w, rfl, h.len, h.ob, h.inl⟩
/-- an answer keeps both alike -/
theorem RelR.step {p : Prp} {l : List Ch} {s : Rs} {r : Rr} (h : RelR l s r) (a : Ac) : RelR l (doR p l s a) (ansR p l r a.kind a.node a.obj) := by
  have hfr := h.free a.node
  cases hf : freshP l s a.node with
  | false =>
    have e1 : doR p l s a = s := by unfold doR ansS; simp [hf]
    have e2 : ansR p l r a.kind a.node a.obj = r := by unfold ansR; rw [← hfr, hf]; rfl
    rw [e1, e2]; exact h
  | true =>
    have e2 : ansR p l r a.kind a.node a.obj = { ansR0 r a.kind a.node a.obj with dec := decQ p l (ansR0 r a.kind a.node a.obj) } := by unfold ansR; rw [← hfr, hf]; rfl
    have key : ∀ K O W, RelR l ⟨s.rp ++ [⟨a.node, K, O⟩], W, s.st⟩ (ansR0 r a.kind a.node a.obj) → RelR l ⟨s.rp ++ [⟨a.node, K, O⟩], W, decS p l (s.rp ++ [⟨a.node, K, O⟩]) s.st⟩ { ansR0 r a.kind a.node a.obj with dec := decQ p l (ansR0 r a.kind a.node a.obj) } := fun K O W hh => by
      rw [show decS p l (s.rp ++ [⟨a.node, K, O⟩]) s.st = decQ p l (ansR0 r a.kind a.node a.obj) from hh.dec]
      exact hh.setDec _
    rw [e2]
    by_cases h1 : a.kind = 1
    · have e1 : doR p l s a = ⟨s.rp ++ [⟨a.node, ansK s.w 1 a.obj, ansO s.w 1 a.obj⟩], ansW s.w 1 a.obj, decS p l (s.rp ++ [⟨a.node, ansK s.w 1 a.obj, ansO s.w 1 a.obj⟩]) s.st⟩ := by rw [doR, if_pos h1, ansS, if_pos hf]
      rw [e1]
      refine key _ _ _ ?_
      by_cases h2 : (mergeS s.w a.obj).2 = 0
      · rw [ansK, ansO, ansW, if_pos rfl, if_pos h2, if_pos rfl, if_pos h2, if_pos rfl, if_pos h2, ansR0, if_pos ⟨h1, by rw [← h.w]; exact h2⟩, ← h.w]
        exact h.addYes hf
      · rw [ansK, ansO, ansW, if_pos rfl, if_neg h2, if_pos rfl, if_neg h2, if_pos rfl, if_neg h2, ansR0, if_neg (fun hh => h2 (by rw [h.w]; exact hh.2)), if_neg (by omega)]
        exact h.addNo hf
    · by_cases h2 : a.kind = 2
      · have e1 : doR p l s a = ⟨s.rp ++ [⟨a.node, 2, o00⟩], s.w, decS p l (s.rp ++ [⟨a.node, 2, o00⟩]) s.st⟩ := by rw [doR, if_neg h1, if_pos h2, ansS, if_pos hf]; rfl
        rw [e1]
        refine key _ _ _ ?_
        rw [ansR0, if_neg (fun hh => h1 hh.1), if_pos h2]
        exact h.addGone hf
      · have e1 : doR p l s a = ⟨s.rp ++ [⟨a.node, 3, o00⟩], s.w, decS p l (s.rp ++ [⟨a.node, 3, o00⟩]) s.st⟩ := by rw [doR, if_neg h1, if_neg h2, ansS, if_pos hf]; rfl
        rw [e1]
        refine key _ _ _ ?_
        rw [ansR0, if_neg (fun hh => h1 hh.1), if_neg h2]
        exact h.addNo hf
def s00 : Rs := ⟨[], o00, 0⟩
def r00 : Rr := ⟨[], [], [], [], o00, 0⟩
theorem RelR.zero (l : List Ch) : RelR l s00 r00 := ⟨fun n => by simp [s00, r00, kindP, findP, hasQ], fun n => by simp [s00, r00, kindP, findP, hasQ], fun n => by simp [s00, r00, kindP, findP, hasQ], fun q hq => (List.not_mem_nil hq).elim, rfl, rfl, rfl, fun q hq => (List.not_mem_nil hq).elim, fun y hy => (List.not_mem_nil hy).elim⟩
theorem RelR.begin_ (p : Prp) (l : List Ch) : RelR l ⟨[], o00, decS p l [] 0⟩ { r00 with dec := decQ p l r00 } := by
  have h := RelR.zero l
  have e := h.dec (p := p)
  rw [show decS p l [] 0 = decQ p l r00 from e]
  exact h.setDec _
/-! ### stale -/
theorem foldl_congr' {α β : Type} {f g : β → α → β} : ∀ {l : List α} (b : β), (∀ x ∈ l, ∀ b, f b x = g b x) → l.foldl f b = l.foldl g b
  | [], _, _ => rfl
  | a :: l, b, h => by rw [List.foldl_cons, List.foldl_cons, h a (.head _)]; exact foldl_congr' _ fun x hx => h x (.tail _ hx)
theorem foldl_keep {α β : Type} {f : β → α → β} : ∀ {l : List α} (b : β), (∀ x ∈ l, f b x = b) → l.foldl f b = b
  | [], _, _ => rfl
  | a :: l, b, h => by rw [List.foldl_cons, h a (.head _)]; exact foldl_keep b fun x hx => h x (.tail _ hx)
theorem RelR.bad {l : List Ch} {s : Rs} {r : Rr} (h : RelR l s r) (hy : 0 < r.yes.length) (n : ByteArray) : badP s.rp s.w n = badR r n := by
  have k1 := h.k1 n; have k2 := h.k2 n
  rw [badP, badR, decide_eq_true hy, Bool.true_and, show decide (kindP s.rp n = 2) = hasQ r.gone n from by rw [Bool.eq_iff_iff, decide_eq_true_eq]; exact k2]
  congr 1
  rw [Bool.eq_iff_iff, List.any_eq_true, Bool.and_eq_true, decide_eq_true_eq]
  simp only [offB, Bool.and_eq_true, decide_eq_true_eq, Bool.not_eq_true', decide_eq_false_iff_not]
  constructor
  · rintro ⟨ha, hb⟩
    have hm := hasQ_iff.1 (k1.1 ha)
    obtain ⟨i, hi, e⟩ := List.getElem_of_mem hm
    have hi2 : i < r.objs.length := by rw [h.len]; exact hi
    have hz : (n, r.objs[i]) ∈ r.yes.zip r.objs := by
      rw [List.mem_iff_getElem?]
      exact ⟨i, by rw [List.getElem?_zip_eq_some]; exact ⟨by rw [List.getElem?_eq_getElem hi, e], List.getElem?_eq_getElem hi2⟩⟩
    refine ⟨_, hz, rfl, fun e2 => hb ?_⟩
    rw [h.ob _ hz, h.w]; exact e2
  · rintro ⟨q, hq, e1, e2⟩
    subst e1
    have hm : q.1 ∈ r.yes := (List.of_mem_zip (a := q.1) (b := q.2) hq).1
    exact ⟨k1.2 (hasQ_iff.2 hm), by rw [h.ob _ hq, h.w]; exact e2⟩
theorem RelR.stale {l : List Ch} {s : Rs} {r : Rr} (h : RelR l s r) : staleS l s.rp s.w = l.foldl (stStepR r) [] := by
  rw [staleS]
  by_cases hy : 0 < r.yes.length
  · obtain ⟨y, hyy⟩ := List.length_pos_iff_exists_mem.1 hy
    obtain ⟨x, hx, e⟩ := h.inl y hyy
    have hn : (namesR l s.rp 1).length ≠ 0 := by
      have : x.node ∈ namesR l s.rp 1 := by
        simp only [namesR, List.mem_map, List.mem_filter, decide_eq_true_eq]
        exact ⟨x, ⟨hx, (h.k1 _).2 (hasQ_iff.2 (by rw [e]; exact hyy))⟩, rfl⟩
      have := List.length_pos_of_mem this
      omega
    rw [if_neg hn]
    exact foldl_congr' _ fun x _ b => by rw [stStep, stStepR, h.bad hy]
  · have hy0 : r.yes = [] := List.eq_nil_of_length_eq_zero (by omega)
    have hn : (namesR l s.rp 1).length = 0 := by
      rw [List.length_eq_zero_iff, List.eq_nil_iff_forall_not_mem]
      intro m hm
      simp only [namesR, List.mem_map, List.mem_filter, decide_eq_true_eq] at hm
      obtain ⟨x, ⟨_, hk⟩, _⟩ := hm
      have := (h.k1 _).1 hk
      rw [hy0] at this; simp [hasQ] at this
    rw [if_pos hn]
    refine (foldl_keep _ fun x _ => ?_).symm
    rw [stStepR, badR, hy0]; simp
/-! ### sizes, and the whole -/
structure SzR (k : Nat) (s : Rs) : Prop where
  ok : objOk s.w = true
  nc : s.w.ctx.length ≤ 12 * k
  ns : s.w.sibs.length ≤ 12 * k
  ob : ∀ q ∈ s.rp, ObjSm q.obj
theorem ok00 : objOk o00 = true := by decide +kernel
theorem SzR.zero (d : Int) : SzR 0 ⟨[], o00, d⟩ := ⟨ok00, Nat.le_refl _, Nat.le_refl _, fun q hq => (List.not_mem_nil hq).elim⟩
theorem SzR.sm {k : Nat} {s : Rs} (h : SzR k s) (hk : k ≤ 20) : ObjSm s.w := sm_of h.ok (by have := h.nc; omega) (by have := h.ns; omega)
theorem SzR.up {k : Nat} {s : Rs} (h : SzR k s) : SzR (k + 1) s := ⟨h.ok, by have := h.nc; omega, by have := h.ns; omega, h.ob⟩
theorem mergeS_ok0 {a b : Obj'} (h : (mergeS a b).2 = 0) : objOk (mergeS a b).1 = true ∧ (mergeS a b).1 = mergeO a b := by
  unfold mergeS at h ⊢
  split
  · rename_i hk
    rw [if_pos hk] at h
    rw [Bool.and_eq_true] at hk
    split
    · rename_i hj
      have ga := objOk_iff.1 hk.1; have gb := objOk_iff.1 hk.2
      have hjj : ctxOk (joinAll a.ctx b.ctx) = true ∧ (joinS a.ctx b.ctx).1 = joinAll a.ctx b.ctx := by
        have ca : ctxOk a.ctx = true := ctxOk_iff.2 ⟨ga.1.ctx, ga.2⟩
        have cb : ctxOk b.ctx = true := ctxOk_iff.2 ⟨gb.1.ctx, gb.2⟩
        cases h : ctxOk (joinAll a.ctx b.ctx) with
        | true => exact ⟨rfl, by simp [joinS, ca, cb, h]⟩
        | false => simp [joinS, ca, cb, h] at hj
      refine ⟨?_, by rw [hjj.2]; rfl⟩
      rw [hjj.2]
      exact objOk_iff.2 ⟨merge_good ga.1 gb.1, (ctxOk_iff.1 hjj.1).2⟩
    · rename_i hj; rw [if_neg hj] at h; exact absurd h hj
  · rename_i hk; rw [if_neg hk] at h; exact absurd h (by decide)
theorem SzR.add {p : Prp} {l : List Ch} {k : Nat} {s : Rs} {n : ByteArray} {K : Int} {o : Obj'} (h : SzR k s) (hm : objOk o = true → True) (hc : o.ctx.length ≤ 12) (hs : o.sibs.length ≤ 12) (ho : ObjSm o) : SzR (k + 1) (ansS p l s n K o) := by
  unfold ansS
  split
  · by_cases h1 : K = 1
    · by_cases h2 : (mergeS s.w o).2 = 0
      · obtain ⟨m1, m2⟩ := mergeS_ok0 h2
        have e1 : ansW s.w K o = (mergeS s.w o).1 := by rw [ansW, if_pos h1, if_pos h2]
        have e2 : ansO s.w K o = o := by rw [ansO, if_pos h1, if_pos h2]
        have l1 := joinAll_len s.w.ctx o.ctx; have l2 := mergeL_len s.w o
        have := h.nc; have := h.ns
        rw [e1, e2]
        refine ⟨m1, ?_, ?_, fun q hq => ?_⟩
        · show (mergeS s.w o).1.ctx.length ≤ _
          rw [m2]; show (joinAll s.w.ctx o.ctx).length ≤ _; omega
        · show (mergeS s.w o).1.sibs.length ≤ _
          rw [m2]; show (mergeL s.w o).length ≤ _; omega
        · rcases List.mem_append.1 hq with hq | hq
          · exact h.ob q hq
          · rw [List.mem_singleton.1 hq]; exact ho
      · have e1 : ansW s.w K o = s.w := by rw [ansW, if_pos h1, if_neg h2]
        have e2 : ansO s.w K o = ⟨[], []⟩ := by rw [ansO, if_pos h1, if_neg h2]
        rw [e1, e2]
        refine ⟨h.up.ok, h.up.nc, h.up.ns, fun q hq => ?_⟩
        rcases List.mem_append.1 hq with hq | hq
        · exact h.ob q hq
        · rw [List.mem_singleton.1 hq]; exact o00_sm
    · have e1 : ansW s.w K o = s.w := by rw [ansW, if_neg h1]
      have e2 : ansO s.w K o = o := by rw [ansO, if_neg h1]
      rw [e1, e2]
      refine ⟨h.up.ok, h.up.nc, h.up.ns, fun q hq => ?_⟩
      rcases List.mem_append.1 hq with hq | hq
      · exact h.ob q hq
      · rw [List.mem_singleton.1 hq]; exact ho
  · exact h.up
theorem SzR.do {p : Prp} {l : List Ch} {k : Nat} {s : Rs} {a : Ac} (h : SzR k s) (ho : FewO a.obj) : SzR (k + 1) (doR p l s a) := by
  unfold doR
  split
  · exact h.add (fun _ => trivial) (by have := ho.1.1; omega) (by have := ho.2.1; omega) ho.sm
  · split
    · exact h.add (fun _ => trivial) (Nat.zero_le _) (Nat.zero_le _) o00_sm
    · exact h.add (fun _ => trivial) (Nat.zero_le _) (Nat.zero_le _) o00_sm
theorem SzR.whole {k : Nat} {s : Rs} (h : SzR k s) : (mergeS s.w ⟨[], []⟩).1 = s.w := by
  have g := objOk_iff.1 h.ok
  show (mergeS s.w o00).1 = s.w
  rw [(mergeS_ok h.ok ok00 (by have := g.2; show room s.w.ctx + 0 ≤ _; omega)).1]
  show mergeO s.w o00 = s.w
  rw [merge_comm g.1 (objOk_iff.1 ok00).1]
  exact zero_merge g.1
theorem SzR.objs {k : Nat} {s : Rs} (h : SzR k s) (n : ByteArray) : ObjSm (objP s.rp n) := by
  unfold objP
  cases hf : findP s.rp n with
  | none => exact o00_sm
  | some q => exact h.ob q (List.mem_of_find?_eq_some hf)
theorem RelR.objs {k : Nat} {l : List Ch} {s : Rs} {r : Rr} (h : RelR l s r) (hz : SzR k s) : ∀ o ∈ r.objs, ObjSm o := fun o ho => by
  obtain ⟨i, hi, e⟩ := List.getElem_of_mem ho
  have hi2 : i < r.yes.length := by rw [← h.len]; exact hi
  have hzz : (r.yes[i], o) ∈ r.yes.zip r.objs := by
    rw [List.mem_iff_getElem?]
    exact ⟨i, by rw [List.getElem?_zip_eq_some]; exact ⟨List.getElem?_eq_getElem hi2, by rw [List.getElem?_eq_getElem hi, e]⟩⟩
  have := h.ob _ hzz
  rw [show o = objP s.rp r.yes[i] from this.symm]; exact hz.objs _
theorem ansR_len {p : Prp} {l : List Ch} {r : Rr} {k : Int} {n : ByteArray} {o : Obj'} {i : Nat} (h : r.yes.length ≤ i ∧ r.gone.length ≤ i ∧ r.no.length ≤ i ∧ r.objs.length ≤ i) : (ansR p l r k n o).yes.length ≤ i + 1 ∧ (ansR p l r k n o).gone.length ≤ i + 1 ∧ (ansR p l r k n o).no.length ≤ i + 1 ∧ (ansR p l r k n o).objs.length ≤ i + 1 := by
  obtain ⟨h1, h2, h3, h4⟩ := h
  unfold ansR ansR0
  split
  · split
    · exact ⟨by simp; omega, by show r.gone.length ≤ _; omega, by show r.no.length ≤ _; omega, by simp; omega⟩
    · split
      · exact ⟨by show r.yes.length ≤ _; omega, by simp; omega, by show r.no.length ≤ _; omega, by show r.objs.length ≤ _; omega⟩
      · exact ⟨by show r.yes.length ≤ _; omega, by show r.gone.length ≤ _; omega, by simp; omega, by show r.objs.length ≤ _; omega⟩
  · exact ⟨by omega, by omega, by omega, by omega⟩
theorem staleS_len (l : List Ch) (rp : List Rp) (w : Obj') : (staleS l rp w).length ≤ l.length := by
  unfold staleS
  split
  · exact Nat.zero_le _
  · have : ∀ (m : List Ch) (out : List ByteArray), (m.foldl (stStep rp w) out).length ≤ out.length + m.length := by
      intro m
      induction m with
      | nil => intro out; exact Nat.le_refl _
      | cons x m ih =>
        intro out
        rw [List.foldl_cons]
        have h1 := ih (stStep rp w out x)
        have h2 : (stStep rp w out x).length ≤ out.length + 1 := by unfold stStep; split <;> simp
        rw [List.length_cons]; omega
    have := this l []
    simpa using this
end Go.Proofs.YtbcgkbdacijoiaaGreat
end

section
set_option linter.all false
set_option maxRecDepth 100000
namespace Go.Proofs.YtbcgkbdacijoiaaGreat
open Go.Ab
def fewCh (l : List Ch) : Bool := decide (l.length ≤ 20) && l.all fun x => decide (x.node.size ≤ 100)
theorem few34_c {l : List Ch} {t : Bool} {σ : Store} : ACalls Tryz.prog 10 [.sl 2 (l.map sCh) t, vNil] σ fun v σ' => v = vB (fewCh l) ∧ σ = σ' := by
  refine ACalls_of Tryz.func10 rfl Tryz.ntmps10 (congrArg Array.toList Tryz.results10) (by simp only [List.length_cons, List.length_nil]; decide) ?_; simp only [envOf_cons, envOf_nil, Nat.reduceAdd]
  refine awp_seq ?_
  refine awp_region (by kernel_rfl) ?_
  (refine aL_S rfl rfl v_ ?_)
  refine aL_nil ?_
  refine awp_seq ?_
  refine awp_seq ?_
  refine awp_region (by kernel_rfl) ?_
  (refine aL_S rfl rfl v_ ?_)
  refine aL_nil ?_
  refine awp_block ?_
  refine awp_loop_env (ι := Nat) (fun k => l.length - k) (fun k => k ≤ l.length ∧ k ≤ 20 ∧ (l.take k).all (fun x => decide (x.node.size ≤ 100)) = true) (fun k => [(0, .sl 2 (l.map sCh) t), (1, vNil), (5, vInt k)]) (fun k => σ) 0 ?_ ?_ ?_ ?_
  · exact ⟨Nat.zero_le _, by decide, rfl⟩
  · exact cv_
  · exact sub_
  rintro k ⟨hk, hk2, ha⟩
  simp only [envL_cons, envL_nil]
  refine awp_seq ?_
  refine awp_seq ?_
  refine awp_region (by kernel_rfl) ?_
  iterate 5 (refine aL_S rfl rfl v_ ?_)
  refine aL_GT rfl rfl v_ rfl vg_ ?_
  refine aL_GT rfl rfl v_ rfl vg_ ?_
  (refine aL_S rfl rfl v_ ?_)
  refine aL_nil ?_
  refine awp_cond v_ (fun hc2 => ?_) (fun hc2 => ?_)
  · replace hc2 := nm_ hc2
    refine awp_skip ?_
    refine awp_seq ?_
    refine awp_block ?_
    refine awp_seq ?_
    obtain ⟨x, hx⟩ := get_some (l := l) (k := k) (by omega)
    have R := hx
    refine awp_region (by kernel_rfl) ?_
    iterate 7 (refine aL_S rfl rfl v_ ?_)
    refine aL_nil ?_
    refine awp_cond v_ (fun hc4 => ?_) (fun hc4 => ?_)
    · replace hc4 := nm_ hc4
      refine awp_seq ?_
      refine awp_region (by kernel_rfl) ?_
      (refine aL_S rfl rfl v_ ?_)
      refine aL_nil ?_
      refine awp_ret ?_
      refine aEnd_ret (σ' := σ) v_ sub_ ?_
      exact ⟨by rw [fewCh, few_no hx (decide_eq_false (by omega))], rfl⟩
    · replace hc4 := nm_ hc4
      refine awp_skip ?_
      refine awp_region (by kernel_rfl) ?_
      iterate 3 (refine aL_S rfl rfl v_ ?_)
      refine aL_nil ?_
      refine aNext (ι := Nat) (i := k) (k + 1) ?_ ?_ ?_ ?_
      · omega
      · exact ⟨by omega, by omega, all_next hx (decide_eq_true (by omega)) ha⟩
      · exact cv_
      · exact sub_
  · replace hc2 := nm_ hc2
    refine awp_exit ?_
    refine aThen_exit ?_
    refine aThen_exit ?_
    refine aBlock_hit ?_
    refine awp_seq ?_
    refine awp_seq ?_
    refine awp_region (by kernel_rfl) ?_
    (refine aL_S rfl rfl v_ ?_)
    refine aL_nil ?_
    refine awp_block ?_
    refine awp_loop_env (ι := Nat) (fun j => 0 - j) (fun j => j = 0) (fun j => [(0, .sl 2 (l.map sCh) t), (1, vNil), (6, vInt j)]) (fun j => σ) 0 ?_ ?_ ?_ ?_
    · rfl
    · exact cv_
    · exact sub_
    rintro j hj
    simp only [envL_cons, envL_nil]
    refine awp_seq ?_
    refine awp_seq ?_
    refine awp_region (by kernel_rfl) ?_
    iterate 5 (refine aL_S rfl rfl v_ ?_)
    refine aL_GT rfl rfl v_ rfl vg_ ?_
    refine aL_GT rfl rfl v_ rfl vg_ ?_
    (refine aL_S rfl rfl v_ ?_)
    refine aL_nil ?_
    refine awp_cond v_ (fun hc7 => ?_) (fun hc7 => ?_)
    · replace hc7 := nm_ hc7
      subst hj; simp at hc7
    · replace hc7 := nm_ hc7
      refine awp_exit ?_
      refine aThen_exit ?_
      refine aThen_exit ?_
      refine aBlock_hit ?_
      refine awp_seq ?_
      refine awp_region (by kernel_rfl) ?_
      iterate 4 (refine aL_S rfl rfl v_ ?_)
      refine aL_GT rfl rfl v_ rfl vg_ ?_
      refine aL_GT rfl rfl v_ rfl vg_ ?_
      refine aL_GT rfl rfl v_ rfl vg_ ?_
      iterate 2 (refine aL_S rfl rfl v_ ?_)
      refine aL_nil ?_
      refine awp_ret ?_
      refine aEnd_ret (σ' := σ) v_ sub_ ?_
      exact ⟨by rw [fewCh, ← few_yes (n := 20) ha hk (by omega)]; simp, rfl⟩
def fewAc (l : List Ac) : Bool := decide (l.length ≤ 12) && l.all fun a => decide (a.node.size ≤ 100) && fewOb a.obj
theorem few36_c {l : List Ac} {t : Bool} {σ : Store} : ACalls Tryz.prog 11 [.sl 4 (l.map sAc) t] σ fun v σ' => v = vB (fewAc l) ∧ σ = σ' := by
  refine ACalls_of Tryz.func11 rfl Tryz.ntmps11 (congrArg Array.toList Tryz.results11) (by simp only [List.length_cons, List.length_nil]; decide) ?_; simp only [envOf_cons, envOf_nil, Nat.reduceAdd]
  refine awp_seq ?_
  refine awp_region (by kernel_rfl) ?_
  (refine aL_S rfl rfl v_ ?_)
  refine aL_nil ?_
  refine awp_seq ?_
  refine awp_seq ?_
  refine awp_region (by kernel_rfl) ?_
  (refine aL_S rfl rfl v_ ?_)
  refine aL_nil ?_
  refine awp_block ?_
  refine awp_loop_env (ι := Nat) (fun k => l.length - k) (fun k => k ≤ l.length ∧ k ≤ 12 ∧ (l.take k).all (fun a => decide (a.node.size ≤ 100) && fewOb a.obj) = true) (fun k => [(0, .sl 4 (l.map sAc) t), (3, vInt k)]) (fun k => σ) 0 ?_ ?_ ?_ ?_
  · exact ⟨Nat.zero_le _, by decide, rfl⟩
  · exact cv_
  · exact sub_
  rintro k ⟨hk, hk2, ha⟩
  simp only [envL_cons, envL_nil]
  refine awp_seq ?_
  refine awp_seq ?_
  refine awp_region (by kernel_rfl) ?_
  iterate 5 (refine aL_S rfl rfl v_ ?_)
  refine aL_GT rfl rfl v_ rfl vg_ ?_
  refine aL_GT rfl rfl v_ rfl vg_ ?_
  (refine aL_S rfl rfl v_ ?_)
  refine aL_nil ?_
  refine awp_cond v_ (fun hc2 => ?_) (fun hc2 => ?_)
  · replace hc2 := nm_ hc2
    refine awp_skip ?_
    refine awp_seq ?_
    refine awp_block ?_
    refine awp_seq ?_
    obtain ⟨x, hx⟩ := get_some (l := l) (k := k) (by omega)
    have R := hx
    refine awp_region (by kernel_rfl) ?_
    iterate 8 (refine aL_S rfl rfl v_ ?_)
    refine aL_GF rfl rfl v_ rfl vg_ ?_
    refine aL_GF rfl rfl v_ rfl vg_ ?_
    refine aL_GF rfl rfl v_ rfl vg_ ?_
    refine aL_GF rfl rfl v_ rfl vg_ ?_
    refine aL_GF rfl rfl v_ rfl vg_ ?_
    refine aL_GFX rfl rfl v_ rfl (fun hb => AOp_useV (by rfl) (by rfl) (.inr ⟨by rfl, by rfl, by rfl⟩) g_ cg_ (few07_f)) ?_
    refine aL_GF rfl rfl v_ rfl vg_ ?_
    (refine aL_S rfl rfl v_ ?_)
    refine aL_nil ?_
    refine awp_cond v_ (fun hc4 => ?_) (fun hc4 => ?_)
    · replace hc4 := nm_ hc4
      refine awp_seq ?_
      refine awp_region (by kernel_rfl) ?_
      (refine aL_S rfl rfl v_ ?_)
      refine aL_nil ?_
      refine awp_ret ?_
      refine aEnd_ret (σ' := σ) v_ sub_ ?_
      exact ⟨by rw [fewAc, few_no hx (by rcases hc4 with h | h; rw [decide_eq_false (by omega)]; rfl; rw [h, Bool.and_false])], rfl⟩
    · replace hc4 := nm_ hc4
      refine awp_skip ?_
      refine awp_region (by kernel_rfl) ?_
      iterate 3 (refine aL_S rfl rfl v_ ?_)
      refine aL_nil ?_
      refine aNext (ι := Nat) (i := k) (k + 1) ?_ ?_ ?_ ?_
      · omega
      · exact ⟨by omega, by omega, all_next hx (by rw [hc4.2, decide_eq_true (by omega)]; rfl) ha⟩
      · exact cv_
      · exact sub_
  · replace hc2 := nm_ hc2
    refine awp_exit ?_
    refine aThen_exit ?_
    refine aThen_exit ?_
    refine aBlock_hit ?_
    refine awp_seq ?_
    refine awp_region (by kernel_rfl) ?_
    iterate 4 (refine aL_S rfl rfl v_ ?_)
    refine aL_nil ?_
    refine awp_ret ?_
    refine aEnd_ret (σ' := σ) v_ sub_ ?_
    exact ⟨by rw [fewAc, ← few_yes ha hk (by omega)]; rfl, rfl⟩
theorem rBegin_c {X ky kg kn ko : Nat} {p : Prp} {l : List Ch} {r : Rr} {σ : Store} (hX : σ.heap X = some (.cells (rrC p l ky kg kn ko r))) (hn : l.length ≤ 10000) (hr : RrSm r) :
    ACalls Tryz.prog 14 [.ref X 0] σ fun v σ' => v = .tup [] ∧ σ' = σ.set X (.cells (rrC p l ky kg kn ko { r with dec := decQ p l r })) := by
  refine ACalls_of Tryz.func14 rfl Tryz.ntmps14 (congrArg Array.toList Tryz.results14) (by simp only [List.length_cons, List.length_nil]; decide) ?_; simp only [envOf_cons, envOf_nil, Nat.reduceAdd]
  refine awp_region (by kernel_rfl) ?_
  (refine aL_S rfl rfl v_ ?_)
  refine aL_X rfl rfl (AOp_use rfl rfl (.inr ⟨rfl, rfl, rfl⟩) g_ va_ (rDecide_c hX hn hr) ?_); rintro _ τ1 ⟨rfl, rfl⟩
  refine aL_nil ?_
  exact aEnd_nor va_ (Store.Wk.refl _) ⟨rfl, rfl⟩
/-- a reader in a store -/
structure Q1 (σ S : Store) (g m : Nat) (p : Prp) (l : List Ch) (s : Rs) : Prop where
  hg : S.heap g = some (.cells (rdC p l m s.w s.st))
  hm : S.heap m = some (.map (kvP s.rp))
  ng : σ.heap g = none
  nm : σ.heap m = none
theorem Q1.ne {σ S : Store} {g m : Nat} {p : Prp} {l : List Ch} {s : Rs} (h : Q1 σ S g m p l s) : g ≠ m := fun hh => by have := h.hg; rw [hh, h.hm] at this; cases this
theorem Q1.keep {σ S : Store} {g m o : Nat} {p : Prp} {l : List Ch} {s : Rs} {x : AObj} (h : Q1 σ S g m p l s) (h1 : g ≠ o) (h2 : m ≠ o) : Q1 σ (S.set o x) g m p l s :=
  ⟨by rw [Store.set_ne _ _ h1]; exact h.hg, by rw [Store.set_ne _ _ h2]; exact h.hm, h.ng, h.nm⟩
theorem Q1.fresh {σ S : Store} {g m o : Nat} {p : Prp} {l : List Ch} {s : Rs} {x : AObj} (h : Q1 σ S g m p l s) (ho : S.heap o = none) : Q1 σ (S.set o x) g m p l s := h.keep (ne_of_heap h.hg ho) (ne_of_heap h.hm ho)
theorem Q1.step {σ S : Store} {g m : Nat} {p : Prp} {l : List Ch} {s s' : Rs} (h : Q1 σ S g m p l s) : Q1 σ ((S.set m (.map (kvP s'.rp))).set g (.cells (rdC p l m s'.w s'.st))) g m p l s' :=
  ⟨Store.set_get .., by rw [Store.set_ne _ _ (Ne.symm h.ne)]; exact Store.set_get .., h.ng, h.nm⟩
theorem Q1.new {σ S : Store} {g m : Nat} {p : Prp} {l : List Ch} {st : Int} (hs : SubX [] σ S) (hm : S.heap m = none) (hg : S.heap g = none) (hne : g ≠ m) : Q1 σ ((S.set m (.map (kvP []))).set g (.cells (rdC p l m o00 st))) g m p l ⟨[], o00, st⟩ :=
  ⟨Store.set_get .., by rw [Store.set_ne _ _ (Ne.symm hne)]; exact Store.set_get .., SubX.noObj hs hg (by simp), SubX.noObj hs hm (by simp)⟩
theorem Q1.sub {σ S S0 : Store} {g m : Nat} {p : Prp} {l : List Ch} {s : Rs} {x y : AObj} (h : Q1 σ S g m p l s) (hs : SubX [] σ S0) : SubX [] σ ((S0.set m x).set g y) := subx_new h.ng (subx_new h.nm hs)
abbrev nA : ByteArray := ⟨#[97]⟩
abbrev nB : ByteArray := ⟨#[98]⟩
abbrev nC : ByteArray := ⟨#[99]⟩
def p36 : Prp := ⟨3, 2, 0, 0, 0, true, true, false⟩
abbrev l36 : List Ch := [⟨nA, false⟩, ⟨nB, false⟩, ⟨nC, false⟩]
def e0 : Rs := ⟨[], o00, 0⟩
def e1 : Rs := ⟨[⟨nA, 1, zA⟩], zA, 0⟩
def e2 : Rs := ⟨[⟨nA, 1, zA⟩, ⟨nB, 2, o00⟩], zA, 1⟩
def e3 : Rs := ⟨[⟨nA, 1, zA⟩, ⟨nB, 2, o00⟩, ⟨nC, 3, o00⟩], zA, 1⟩
theorem ok_0 : OkO 1 o00 := ⟨by decide +kernel, by decide, by decide, by decide⟩
theorem merge_0A : mergeS o00 zA = (zA, 0) := merge_is ok_0 ok_A (by decide) ok_A.good.ctx (fun s n => by simp [hasS, o00]) (by decide +kernel)
theorem d00 : decS p36 l36 [] 0 = 0 := by decide +kernel
theorem e01 : ansS p36 l36 e0 nA 1 zA = e1 := by
  have k1 : ansK o00 1 zA = 1 := by rw [ansK, if_pos rfl, merge_0A]; rfl
  have k2 : ansO o00 1 zA = zA := by rw [ansO, if_pos rfl, merge_0A]; rfl
  have k3 : ansW o00 1 zA = zA := by rw [ansW, if_pos rfl, merge_0A]; rfl
  rw [ansS, show freshP l36 e0 nA = true from by decide +kernel, if_pos rfl, show e0.w = o00 from rfl, k1, k2, k3]
  show Rs.mk [⟨nA, 1, zA⟩] zA (decS p36 l36 [⟨nA, 1, zA⟩] 0) = _
  rw [show decS p36 l36 [⟨nA, 1, zA⟩] 0 = 0 from by decide +kernel]; rfl
theorem e12 : ansS p36 l36 e1 nB 2 o00 = e2 := by
  rw [ansS, show freshP l36 e1 nB = true from by decide +kernel, if_pos rfl]
  show Rs.mk [⟨nA, 1, zA⟩, ⟨nB, 2, o00⟩] zA (decS p36 l36 [⟨nA, 1, zA⟩, ⟨nB, 2, o00⟩] 0) = _
  rw [show decS p36 l36 [⟨nA, 1, zA⟩, ⟨nB, 2, o00⟩] 0 = 1 from by decide +kernel]; rfl
theorem e23 : ansS p36 l36 e2 nC 3 o00 = e3 := by
  rw [ansS, show freshP l36 e2 nC = true from by decide +kernel, if_pos rfl]
  show Rs.mk [⟨nA, 1, zA⟩, ⟨nB, 2, o00⟩, ⟨nC, 3, o00⟩] zA (decS p36 l36 [⟨nA, 1, zA⟩, ⟨nB, 2, o00⟩, ⟨nC, 3, o00⟩] 1) = _
  rfl
theorem tl36 : answerS zA true = [xA] := by decide +kernel
theorem wh36 : (mergeS zA ⟨[], []⟩).1 = zA := SzR.whole (k := 1) (s := e1) ⟨ok_A.ok, by decide, by decide, fun q hq => by rw [List.mem_singleton.1 hq]; exact ok_A.sm (by decide)⟩
theorem st36 : staleS l36 e3.rp zA = [nB] := by decide +kernel
theorem op36 : (l36.any fun x => decide (kindP e3.rp x.node = 0)) = false := by decide +kernel
theorem ob36 (s : ByteArray) : ObjSm (objP e3.rp s) := by
  unfold objP
  cases hf : findP e3.rp s with
  | none => exact o00_sm
  | some q =>
    have hq := List.mem_of_find?_eq_some hf
    simp only [e3, List.mem_cons, List.not_mem_nil, or_false] at hq
    rcases hq with rfl | rfl | rfl
    · exact ok_A.sm (by decide)
    · exact o00_sm
    · exact o00_sm
set_option maxHeartbeats 4000000 in
theorem awake36_c {σ : Store} : ACalls Tryz.prog 12 [] σ fun v σ' => v = vB true ∧ σ = σ' := by
  have sA := ok_A.sm (by decide)
  have d1 : decide (zA = zA) = true := decide_eq_true rfl
  have d2 : decide (([nB] : List ByteArray) = [nB]) = true := decide_eq_true rfl
  refine ACalls_of Tryz.func12 rfl Tryz.ntmps12 (congrArg Array.toList Tryz.results12) (by simp only [List.length_cons, List.length_nil]; decide) ?_; simp only [envOf_cons, envOf_nil, Nat.reduceAdd]
  refine awp_seq ?_
  refine awp_region (by kernel_rfl) ?_
  (refine aL_S rfl rfl v_ ?_)
  refine aL_nil ?_
  refine awp_seq ?_
  refine awp_region (by kernel_rfl) ?_
  iterate 3 (refine aL_S rfl rfl v_ ?_)
  refine aL_buildSlice rfl rfl rfl g_ g_ rfl rfl h_ c2_ (by decide) ?_
  (refine aL_S rfl rfl v_ ?_)
  refine aL_nil ?_
  refine awp_seq ?_
  refine awp_region (by kernel_rfl) ?_
  iterate 2 (refine aL_S rfl rfl v_ ?_)
  refine aL_X rfl rfl (AOp_use rfl rfl (.inr ⟨rfl, rfl, rfl⟩) g_ va_ (ACalls.wkA (args := [vNil, sSib xA]) (rNew_c (c := []) (t := false) (s := xA) (fun x hx => (List.not_mem_nil hx).elim) (by simp) (sA.sibs xA (.head _))) rfl (fun j hj hj' => by match j, hj with | 0, _ => exact .nil _ _ | 1, _ => exact .refl _)) ?_); rintro _ _ ⟨rfl, rfl⟩
  rw [new_A]
  iterate 3 (refine aL_S rfl rfl v_ ?_)
  refine aL_alloc rfl rfl rfl g_ gl_ fun o2 ho2 => ?_
  repeat (rw [none_set_iff] at ho2; obtain ⟨_, ho2⟩ := ho2)
  refine aL_store rfl rfl rfl v_ v_ h_ g_ rfl g_ c_ (by rfl) le_ v_ ?_
  (refine aL_S rfl rfl v_ ?_)
  refine aL_nil ?_
  skip
  refine awp_gen fun S0 hS => ?_
  have f2 : S0.heap o2 = some (.cells (sObj zA).cells) := by rw [hS]; exact Store.set_get ..
  have s0 : SubX [] σ S0 := by rw [hS]; exact subx_new ho2 (subx_new ho2 subx_refl)
  clear hS
  refine awp_seq ?_
  refine awp_region (by kernel_rfl) ?_
  iterate 2 (refine aL_S rfl rfl v_ ?_)
  refine aL_X rfl rfl (AOp_use rfl rfl (.inr ⟨rfl, rfl, rfl⟩) g_ va_ (rNew36_c (p := p36) (l := l36) (t := true) (by decide)) ?_); rintro _ τ1 ⟨m1, g1, hm1, hg1, hgm1, rfl, rfl⟩
  (refine aL_S rfl rfl v_ ?_)
  refine aL_nil ?_
  skip
  refine awp_gen fun S1 hS => ?_
  replace f2 : S1.heap o2 = some (.cells (sObj zA).cells) := by rw [hS, Store.set_ne _ _ (ne_of_heap f2 hg1), Store.set_ne _ _ (ne_of_heap f2 hm1)]; exact f2
  have hL : Q1 σ S1 g1 m1 p36 l36 e0 := by rw [hS, d00]; exact Q1.new s0 hm1 hg1 hgm1
  have s1 : SubX [] σ S1 := by rw [hS]; exact hL.sub s0
  clear hS
  refine awp_seq ?_
  have R := f2
  refine awp_region (by kernel_rfl) ?_
  iterate 2 (refine aL_S rfl rfl v_ ?_)
  refine aL_X rfl rfl (AOp_use rfl rfl (.inr ⟨rfl, rfl, rfl⟩) g_ va_ (found_c (s := e0) (n := nA) (o := zA) hL.hg hL.hm (by decide) o00_sm sA (fun r hr => (List.not_mem_nil hr).elim)) ?_); rintro _ τ2 ⟨rfl, rfl⟩
  refine aL_nil ?_
  skip
  refine awp_gen fun S2 hS => ?_
  replace f2 : S2.heap o2 = some (.cells (sObj zA).cells) := by rw [hS, Store.set_ne _ _ (fun hh => by have := hL.hg; rw [← hh, f2] at this; simp only [Option.some.injEq, AObj.cells.injEq] at this; exact absurd (congrArg List.length this) (by simp [rdC, AVal.cells])), Store.set_ne _ _ (fun hh => by have := hL.hm; rw [← hh, f2] at this; cases this)]; exact f2
  replace s1 : SubX [] σ S2 := by rw [hS]; exact hL.sub s1
  replace hL : Q1 σ S2 g1 m1 p36 l36 e1 := by rw [hS, e01]; exact hL.step
  clear hS
  refine awp_seq ?_
  refine awp_region (by kernel_rfl) ?_
  (refine aL_S rfl rfl v_ ?_)
  refine aL_X rfl rfl (AOp_use rfl rfl (.inr ⟨rfl, rfl, rfl⟩) g_ va_ (state36_c hL.hg) ?_); rintro _ _ ⟨rfl, rfl⟩
  (refine aL_S rfl rfl v_ ?_)
  refine aL_nil ?_
  refine awp_seq ?_
  refine awp_region (by kernel_rfl) ?_
  (refine aL_S rfl rfl v_ ?_)
  refine aL_X rfl rfl (AOp_use rfl rfl (.inr ⟨rfl, rfl, rfl⟩) g_ va_ (missing_c (s := e1) (n := nB) hL.hg hL.hm (by decide) sA (fun r hr => by rw [List.mem_singleton.1 hr]; decide)) ?_); rintro _ τ3 ⟨rfl, rfl⟩
  refine aL_nil ?_
  skip
  refine awp_gen fun S3 hS => ?_
  replace f2 : S3.heap o2 = some (.cells (sObj zA).cells) := by rw [hS, Store.set_ne _ _ (fun hh => by have := hL.hg; rw [← hh, f2] at this; simp only [Option.some.injEq, AObj.cells.injEq] at this; exact absurd (congrArg List.length this) (by simp [rdC, AVal.cells])), Store.set_ne _ _ (fun hh => by have := hL.hm; rw [← hh, f2] at this; cases this)]; exact f2
  replace s1 : SubX [] σ S3 := by rw [hS]; exact hL.sub s1
  replace hL : Q1 σ S3 g1 m1 p36 l36 e2 := by rw [hS, e12]; exact hL.step
  clear hS
  refine awp_seq ?_
  refine awp_region (by kernel_rfl) ?_
  (refine aL_S rfl rfl v_ ?_)
  refine aL_X rfl rfl (AOp_use rfl rfl (.inr ⟨rfl, rfl, rfl⟩) g_ va_ (refused36_c (s := e2) (n := nC) hL.hg hL.hm (by decide) sA (fun r hr => by simp only [e2, List.mem_cons, List.not_mem_nil, or_false] at hr; rcases hr with rfl | rfl <;> decide)) ?_); rintro _ τ4 ⟨rfl, rfl⟩
  refine aL_nil ?_
  skip
  refine awp_gen fun S4 hS => ?_
  replace f2 : S4.heap o2 = some (.cells (sObj zA).cells) := by rw [hS, Store.set_ne _ _ (fun hh => by have := hL.hg; rw [← hh, f2] at this; simp only [Option.some.injEq, AObj.cells.injEq] at this; exact absurd (congrArg List.length this) (by simp [rdC, AVal.cells])), Store.set_ne _ _ (fun hh => by have := hL.hm; rw [← hh, f2] at this; cases this)]; exact f2
  replace s1 : SubX [] σ S4 := by rw [hS]; exact hL.sub s1
  replace hL : Q1 σ S4 g1 m1 p36 l36 e3 := by rw [hS, e23]; exact hL.step
  have hg4 : S4.heap g1 = some (.cells (rdC p36 l36 m1 zA 1)) := hL.hg
  clear hS
  refine awp_seq ?_
  have R := f2
  refine awp_draw (.op 0 0 (.op 1 0 (.op 2 0 (.op 3 0 (.op 4 1 (.op 5 0 (.op 6 0 (.op 7 0 (.op 8 0 (.op 9 1 (.op 10 0 (.op 11 0 (.op 12 0 (.op 13 0 (.op 14 0 (.op 16 0 (.op 15 1 (.op 17 1 (.op 18 0 (.op 19 0 (.op 20 0 (.alt 21 1 (.op 22 1 (.op 23 1 (.op 24 0 (.op 25 0 (.op 26 0 (.op 27 1 (.op 28 0 (.op 29 0 (.op 30 0 .nil))))))))) (.op 22 1 (.op 21 1 (.op 23 1 (.op 24 0 (.op 25 0 (.op 26 0 (.op 27 1 (.op 28 0 (.op 29 0 (.op 30 0 .nil)))))))))))))))))))))))))))))))) Tryz.mixed (by kernel_rfl) ?_
  iterate 3 (refine dR_S o_ (by rfl) (by rfl) v_ ?_)
  refine dR_SY o_ (by rfl) (wantedA_yes (by rfl) (by rfl) v_ (by rfl)) v_ ?_
  refine dR_X o_ (by rfl) (wantedA_yes (by rfl) (by rfl) v_ (by rfl)) (AOp_use (by rfl) (by rfl) (.inr ⟨by rfl, by rfl, by rfl⟩) g_ va_ (state36_c hg4) ?_); rintro _ _ ⟨rfl, rfl⟩; refine ⟨sub_, ?_⟩
  refine dR_SY o_ (by rfl) (wantedA_yes (by rfl) (by rfl) v_ (by rfl)) v_ ?_
  iterate 2 (refine dR_S o_ (by rfl) (by rfl) v_ ?_)
  refine dR_SY o_ (by rfl) (wantedA_yes (by rfl) (by rfl) v_ (by rfl)) v_ ?_
  refine dR_X o_ (by rfl) (wantedA_yes (by rfl) (by rfl) v_ (by rfl)) (AOp_use (by rfl) (by rfl) (.inr ⟨by rfl, by rfl, by rfl⟩) g_ va_ (told_c hg4 sA) ?_); rintro _ _ ⟨rfl, rfl⟩; refine ⟨sub_, ?_⟩
  rw [if_pos rfl, show p36.sev = true from rfl, tl36]
  refine dR_SY o_ (by rfl) (wantedA_yes (by rfl) (by rfl) v_ (by rfl)) v_ ?_
  refine dR_SY o_ (by rfl) (wantedA_yes (by rfl) (by rfl) v_ (by rfl)) v_ ?_
  iterate 2 (refine dR_S o_ (by rfl) (by rfl) v_ ?_)
  refine dR_SY o_ (by rfl) (wantedA_yes (by rfl) (by rfl) v_ (by rfl)) v_ ?_
  refine dR_SY o_ (by rfl) (wantedA_yes (by rfl) (by rfl) v_ (by rfl)) v_ ?_
  refine dR_X o_ (by rfl) (wantedA_yes (by rfl) (by rfl) v_ (by rfl)) (AOp_use (by rfl) (by rfl) (.inr ⟨by rfl, by rfl, by rfl⟩) g_ va_ (whole_c hg4 sA) ?_); rintro _ _ ⟨rfl, rfl⟩; refine ⟨sub_, ?_⟩
  rw [wh36]
  refine dR_X o_ (by rfl) (wantedA_yes (by rfl) (by rfl) v_ (by rfl)) (AOp_use (by rfl) (by rfl) (.inr ⟨by rfl, by rfl, by rfl⟩) g_ va_ (same07_f sA sA) ?_); rintro _ _ ⟨rfl, rfl⟩; refine ⟨sub_, ?_⟩
  rw [d1]
  iterate 2 (refine dR_S o_ (by rfl) (by rfl) v_ ?_)
  refine dR_SY o_ (by rfl) (wantedA_yes (by rfl) (by rfl) v_ (by rfl)) v_ ?_
  refine dR_alt ?_ ?_
  · refine dR_X o_ (by rfl) (wantedA_yes (by rfl) (by rfl) v_ (by rfl)) (AOp_use (by rfl) (by rfl) (.inr ⟨by rfl, by rfl, by rfl⟩) g_ va_ (stale_c hg4 hL.hm (by decide) sA ob36) ?_); rintro _ _ ⟨rfl, rfl⟩; refine ⟨sub_, ?_⟩
    rw [st36]
    refine dR_X o_ (by rfl) (wantedA_yes (by rfl) (by rfl) v_ (by rfl)) (AOp_buildSlice' (by rfl) g_ g_ (by rfl) (by rfl) h_ c2_ (by decide) ⟨sub_, ?_⟩)
    refine dR_X o_ (by rfl) (wantedA_yes (by rfl) (by rfl) v_ (by rfl)) (AOp_use (by rfl) (by rfl) (.inr ⟨by rfl, by rfl, by rfl⟩) g_ va_ (sameTx_c (a := [nB]) (b := [nB]) (by decide) (by decide)) ?_); rintro _ _ ⟨rfl, rfl⟩; refine ⟨sub_, ?_⟩
    rw [d2]
    iterate 2 (refine dR_S o_ (by rfl) (by rfl) v_ ?_)
    refine dR_SY o_ (by rfl) (wantedA_yes (by rfl) (by rfl) v_ (by rfl)) v_ ?_
    refine dR_X o_ (by rfl) (wantedA_yes (by rfl) (by rfl) v_ (by rfl)) (AOp_use (by rfl) (by rfl) (.inr ⟨by rfl, by rfl, by rfl⟩) g_ va_ (open36_c hg4 hL.hm (by decide)) ?_); rintro _ _ ⟨rfl, rfl⟩; refine ⟨sub_, ?_⟩
    rw [op36]
    refine dR_SY o_ (by rfl) (wantedA_yes (by rfl) (by rfl) v_ (by rfl)) v_ ?_
    iterate 2 (refine dR_S o_ (by rfl) (by rfl) v_ ?_)
    refine dR_nil ?_
    refine awp_ret ?_
    exact aEnd_ret va_ (subx_start s1) ⟨rfl, rfl⟩
  refine dR_X o_ (by rfl) (wantedA_yes (by rfl) (by rfl) v_ (by rfl)) (AOp_buildSlice' (by rfl) g_ g_ (by rfl) (by rfl) h_ c2_ (by decide) ⟨sub_, ?_⟩)
  refine dR_X o_ (by rfl) (wantedA_yes (by rfl) (by rfl) v_ (by rfl)) (AOp_use (by rfl) (by rfl) (.inr ⟨by rfl, by rfl, by rfl⟩) g_ va_ (stale_c hg4 hL.hm (by decide) sA ob36) ?_); rintro _ _ ⟨rfl, rfl⟩; refine ⟨sub_, ?_⟩
  rw [st36]
  refine dR_X o_ (by rfl) (wantedA_yes (by rfl) (by rfl) v_ (by rfl)) (AOp_use (by rfl) (by rfl) (.inr ⟨by rfl, by rfl, by rfl⟩) g_ va_ (sameTx_c (a := [nB]) (b := [nB]) (by decide) (by decide)) ?_); rintro _ _ ⟨rfl, rfl⟩; refine ⟨sub_, ?_⟩
  rw [d2]
  iterate 2 (refine dR_S o_ (by rfl) (by rfl) v_ ?_)
  refine dR_SY o_ (by rfl) (wantedA_yes (by rfl) (by rfl) v_ (by rfl)) v_ ?_
  refine dR_X o_ (by rfl) (wantedA_yes (by rfl) (by rfl) v_ (by rfl)) (AOp_use (by rfl) (by rfl) (.inr ⟨by rfl, by rfl, by rfl⟩) g_ va_ (open36_c hg4 hL.hm (by decide)) ?_); rintro _ _ ⟨rfl, rfl⟩; refine ⟨sub_, ?_⟩
  rw [op36]
  refine dR_SY o_ (by rfl) (wantedA_yes (by rfl) (by rfl) v_ (by rfl)) v_ ?_
  iterate 2 (refine dR_S o_ (by rfl) (by rfl) v_ ?_)
  refine dR_nil ?_
  refine awp_ret ?_
  exact aEnd_ret va_ (subx_start s1) ⟨rfl, rfl⟩
end Go.Proofs.YtbcgkbdacijoiaaGreat
end

section
set_option linter.all false
namespace Go.Ab
open Go.RowKit (Below)
theorem awp_ownCell {P : Program} {n : Nat} {c : Code} {Q : Exit → Env → Store → Prop} {e : Env} {σ : Store} (o i : Nat) {cs : List AVal} (el : TypeId) (sz : Nat) (ho : σ.heap o = some (.cells cs)) (hc : cs[i]? = some (.lit (.slice none 0 0)))
    (hk : ∀ t', σ.tok t' = none → awp P n c Q e ((σ.newTok none t' (el, sz)).set o (.cells (cs.set i (.own t' sz []))))) : awp P n c Q e σ := by
  intro κ a hs
  obtain ⟨t', ht', htok'⟩ := hs.inv.freshTok
  have key : ∃ κ1 : K, κ.Le κ1 ∧ κ1.w = κ.w ∧ κ1.τ t' = some (.slice none 0 0) ∧ Inv κ1 (σ.newTok none t' (el, sz)) := by
    have hle : κ.Le { κ with τ := fun j => if j = t' then some (.slice none 0 0) else κ.τ j } :=
      ⟨rfl, Below.refl _ _, fun _ _ h => h, fun _ _ h => h, fun t v hv => by
        show (if t = t' then _ else _) = _
        rw [if_neg (fun hh => by rw [hh, ht'] at hv; cases hv)]; exact hv, fun _ => Nat.le_refl _, fun _ _ _ _ h => h, Nat.le_refl _⟩
    exact ⟨_, hle, rfl, by simp, hs.inv.tokStep hle rfl rfl (fun _ _ => rfl) (fun _ _ _ => rfl) ⟨0, [], OwnsRow.nil _ _ _ _, by simp [tokBlock]⟩ (by simp [tokBlock])⟩
  obtain ⟨κ1, hle, hw, hτ, hI⟩ := key
  obtain ⟨b, hb, hbase, hIb, ct, el', hh, hn, hv⟩ := hI.heap o (.cells cs) ho
  have hil := (List.getElem?_eq_some_iff.1 hc).1
  have hci := (List.getElem?_eq_some_iff.1 hc).2
  have hI2 : Inv κ1 ((σ.newTok none t' (el, sz)).set o (.cells (cs.set i (.own t' sz [])))) := hI.step (κ' := κ1) (.refl _) rfl rfl hI.frO b hbase hIb (fun _ _ _ => rfl) o (.cells (cs.set i (.own t' sz []))) (fun _ _ => rfl) hb ⟨ct, el', hh, by rw [List.length_set]; exact hn, fun j hj => by
      have hj' : j < cs.length := by rwa [List.length_set] at hj
      by_cases hji : i = j
      · subst hji
        rw [List.getElem_set_self]
        have h1 := hv i hj'
        rw [hci] at h1
        rw [h1.litInv]
        exact .own t' sz [] _ (.slNil _ _) hτ
      · rw [List.getElem_set_ne hji]
        exact hv j hj'⟩
    (fun o' x hx hne hh => hne (hI.inj o' o x _ b hx ho hh hb))
    (fun t sz v ht hv hh => hI.tokobj t sz v b o _ ht hv hh ho hb)
  have h2 := hk t' htok' κ1 a ⟨hs.defers, hs.size, fun k => (hs.env k).mono hle, hI2⟩
  rw [hw] at h2
  exact wp_mono h2 fun _ _ _ ho => ho.up hle
end Go.Ab
end

section
set_option linter.all false
set_option maxRecDepth 100000
namespace Go.Proofs.YtbcgkbdacijoiaaGreat
open Go.Ab
theorem m00 : mergeS o00 o00 = (o00, 0) := merge_is ok_0 ok_0 (by decide) ok_0.good.ctx (fun s n => by simp [hasS, o00]) (by decide +kernel)
theorem vE_wk : Wk (.agg [vNil, vNil]) (sObj o00) := .agg _ _ rfl (fun n hn hn' => by match n, hn with | 0, _ => exact .nil _ _ | 1, _ => exact .nil _ _)
set_option maxHeartbeats 2000000 in
theorem readerNobody_c {a : Ac} {σ : Store} : ACalls Tryz.prog 4 [sAc a] σ fun v σ' => v = vB true ∧ σ = σ' := by
  have d0 : decide (o00 = o00) = true := decide_eq_true rfl
  refine ACalls_of Tryz.func4 rfl Tryz.ntmps4 (congrArg Array.toList Tryz.results4) (by simp only [List.length_cons, List.length_nil]; decide) ?_; simp only [envOf_cons, envOf_nil, Nat.reduceAdd]
  refine awp_seq ?_
  refine awp_region (by kernel_rfl) ?_
  refine aL_box rfl rfl rfl v_ rfl g_ fun o1 ho1 => ?_
  repeat (rw [none_set_iff] at ho1; obtain ⟨_, ho1⟩ := ho1)
  (refine aL_S rfl rfl v_ ?_)
  refine aL_nil ?_
  refine awp_seq ?_
  refine awp_seq ?_
  refine awp_region (by kernel_rfl) ?_
  (refine aL_S rfl rfl v_ ?_)
  refine aL_buildSlice rfl rfl rfl g_ g_ rfl rfl h_ c2_ (by decide) ?_
  refine aL_X rfl rfl (AOp_use rfl rfl (.inr ⟨rfl, rfl, rfl⟩) g_ va_ (few36_c (l := [a])) ?_); rintro _ _ ⟨rfl, rfl⟩
  (refine aL_S rfl rfl v_ ?_)
  refine aL_nil ?_
  refine awp_cond v_ (fun hc1 => ?_) (fun hc1 => ?_)
  · replace hc1 := nm_ hc1
    refine awp_seq ?_
    refine awp_region (by kernel_rfl) ?_
    refine aL_X rfl rfl (AOp_use rfl rfl (.inr ⟨rfl, rfl, rfl⟩) g_ va_ (awake36_c) ?_); rintro _ _ ⟨rfl, rfl⟩
    (refine aL_S rfl rfl v_ ?_)
    refine aL_nil ?_
    refine awp_ret ?_
    refine aEnd_ret (σ' := σ) v_ sub_ ?_
    exact ⟨rfl, rfl⟩
  · replace hc1 := nm_ hc1
    refine awp_skip ?_
    refine awp_seq ?_
    refine awp_region (by kernel_rfl) ?_
    (refine aL_S rfl rfl v_ ?_)
    refine aL_box rfl rfl rfl v_ rfl g_ fun o11 ho11 => ?_
    repeat (rw [none_set_iff] at ho11; obtain ⟨_, ho11⟩ := ho11)
    refine aL_buildSlice rfl rfl rfl g_ g_ rfl rfl h_ c2_ (by decide) ?_
    (refine aL_S rfl rfl v_ ?_)
    refine aL_nil ?_
    refine awp_seq ?_
    refine awp_seq ?_
    refine awp_region (by kernel_rfl) ?_
    (refine aL_S rfl rfl v_ ?_)
    refine aL_nil ?_
    refine awp_block ?_
    refine awp_loop_env (ι := Nat) (fun k => 2 - k) (fun k => k ≤ 2) (fun k => [(1, .ref o1 0), (3, .sl 1 [.lit (.pointer none), .ref o11 0] true), (4, vInt k)]) (fun k => ((σ.set o1 (.cells (sAc a).cells)).set o11 (.cells zRd))) 0 ?_ ?_ ?_ ?_
    · exact Nat.zero_le _
    · exact cv_
    · exact Store.Wk.refl _
    rintro k hk
    simp only [envL_cons, envL_nil]
    refine awp_seq ?_
    refine awp_seq ?_
    refine awp_region (by kernel_rfl) ?_
    iterate 4 (refine aL_S rfl rfl v_ ?_)
    refine aL_nil ?_
    refine awp_cond v_ (fun hc5 => ?_) (fun hc5 => ?_)
    · replace hc5 := nm_ hc5
      refine awp_skip ?_
      refine awp_seq ?_
      refine awp_block ?_
      refine awp_seq ?_
      rcases (show k = 0 ∨ k = 1 by omega) with rfl | rfl
      · have hgz : ((σ.set o1 (.cells (sAc a).cells)).set o11 (.cells zRd)).heap o11 = some (.cells zRd) := Store.set_get ..
        refine awp_draw (.op 0 0 (.op 1 0 (.op 2 0 (.op 3 0 (.op 4 0 (.op 5 2 .nil)))))) Tryz.mixed (by kernel_rfl) ?_
        iterate 5 (refine dR_S o_ (by rfl) (by rfl) v_ ?_)
        refine dR_T o_ (by rfl) (by rfl) (AOp_use (by rfl) (by rfl) (.inr ⟨by rfl, by rfl, by rfl⟩) g_ va_ (by first | exact doN_c (g := 0) trivial | exact doZ_c hgz) ?_); rintro _ _ ⟨rfl, rfl⟩
        refine dR_nil ?_
        refine awp_seq ?_
        refine awp_region (by kernel_rfl) ?_
        iterate 4 (refine aL_S rfl rfl v_ ?_)
        refine aL_X rfl rfl (AOp_use rfl rfl (.inr ⟨rfl, rfl, rfl⟩) g_ va_ (by first | exact stateN_c | exact stateZ_c hgz) ?_); rintro _ _ ⟨rfl, rfl⟩
        iterate 2 (refine aL_S rfl rfl v_ ?_)
        refine aL_GF rfl rfl v_ rfl vg_ ?_
        refine aL_GF rfl rfl v_ rfl vg_ ?_
        refine aL_GF rfl rfl v_ rfl vg_ ?_
        refine aL_GF rfl rfl v_ rfl vg_ ?_
        refine aL_GFX rfl rfl v_ rfl (fun hb => AOp_useV (by rfl) (by rfl) (.inr ⟨by rfl, by rfl, by rfl⟩) g_ cg_ (by first | exact toldN_c | exact toldZ_c hgz)) ?_
        refine aL_GF rfl rfl v_ rfl vg_ ?_
        refine aL_GF rfl rfl v_ rfl vg_ ?_
        iterate 2 (refine aL_S rfl rfl v_ ?_)
        refine aL_GF rfl rfl v_ rfl vg_ ?_
        refine aL_GF rfl rfl v_ rfl vg_ ?_
        refine aL_GF rfl rfl v_ rfl vg_ ?_
        refine aL_GF rfl rfl v_ rfl vg_ ?_
        refine aL_GFX rfl rfl v_ rfl (fun hb => AOp_useV (by rfl) (by rfl) (.inr ⟨by rfl, by rfl, by rfl⟩) g_ cg_ (by first | exact staleN_c | exact staleZ_c hgz)) ?_
        refine aL_GF rfl rfl v_ rfl vg_ ?_
        refine aL_GF rfl rfl v_ rfl vg_ ?_
        iterate 2 (refine aL_S rfl rfl v_ ?_)
        refine aL_GF rfl rfl v_ rfl vg_ ?_
        refine aL_GF rfl rfl v_ rfl vg_ ?_
        refine aL_GF rfl rfl v_ rfl vg_ ?_
        refine aL_GF rfl rfl v_ rfl vg_ ?_
        refine aL_GFX rfl rfl v_ rfl (fun hb => AOp_useV (by rfl) (by rfl) (.inr ⟨by rfl, by rfl, by rfl⟩) g_ cg_ (by first | exact openN_c | exact openZ_c hgz)) ?_
        iterate 2 (refine aL_S rfl rfl v_ ?_)
        refine aL_GF rfl rfl v_ rfl vg_ ?_
        refine aL_GF rfl rfl v_ rfl vg_ ?_
        refine aL_GF rfl rfl v_ rfl vg_ ?_
        refine aL_GF rfl rfl v_ rfl vg_ ?_
        refine aL_GFX rfl rfl v_ rfl (fun hb => AOp_useV (by rfl) (by rfl) (.inr ⟨by rfl, by rfl, by rfl⟩) g_ cg_ (by first | exact wholeN_c | exact wholeZ_c hgz)) ?_
        try rw [m00]
        refine aL_GF rfl rfl v_ rfl vg_ ?_
        refine aL_GFX rfl rfl v_ rfl (fun hb => AOp_useV (by rfl) (by rfl) (.inr ⟨by rfl, by rfl, by rfl⟩) g_ cg_ (by first | exact ACalls.wkA (args := [.agg [vNil, vNil], .agg [vNil, vNil]]) (same07_f o00_sm o00_sm) rfl (fun j hj hj' => by match j, hj with | 0, _ => exact vE_wk | 1, _ => exact vE_wk) | exact ACalls.wkA (args := [sObj o00, .agg [vNil, vNil]]) (same07_f o00_sm o00_sm) rfl (fun j hj hj' => by match j, hj with | 0, _ => exact .refl _ | 1, _ => exact vE_wk))) ?_
        rw [d0]
        refine aL_GF rfl rfl v_ rfl vg_ ?_
        (refine aL_S rfl rfl v_ ?_)
        refine aL_nil ?_
        refine awp_cond v_ (fun hc8 => ?_) (fun hc8 => ?_)
        · replace hc8 := nm_ hc8
          simp at hc8
        · replace hc8 := nm_ hc8
          refine awp_skip ?_
          refine awp_region (by kernel_rfl) ?_
          iterate 3 (refine aL_S rfl rfl v_ ?_)
          refine aL_nil ?_
          refine aNext (ι := Nat) (i := 0) 1 ?_ ?_ ?_ ?_
          · decide
          · decide
          · exact cv_
          · exact sub_
      · have hgz : ((σ.set o1 (.cells (sAc a).cells)).set o11 (.cells zRd)).heap o11 = some (.cells zRd) := Store.set_get ..
        refine awp_draw (.op 0 0 (.op 1 0 (.op 2 0 (.op 3 0 (.op 4 0 (.op 5 2 .nil)))))) Tryz.mixed (by kernel_rfl) ?_
        iterate 5 (refine dR_S o_ (by rfl) (by rfl) v_ ?_)
        refine dR_T o_ (by rfl) (by rfl) (AOp_use (by rfl) (by rfl) (.inr ⟨by rfl, by rfl, by rfl⟩) g_ va_ (by first | exact doN_c (g := 0) trivial | exact doZ_c hgz) ?_); rintro _ _ ⟨rfl, rfl⟩
        refine dR_nil ?_
        refine awp_seq ?_
        refine awp_region (by kernel_rfl) ?_
        iterate 4 (refine aL_S rfl rfl v_ ?_)
        refine aL_X rfl rfl (AOp_use rfl rfl (.inr ⟨rfl, rfl, rfl⟩) g_ va_ (by first | exact stateN_c | exact stateZ_c hgz) ?_); rintro _ _ ⟨rfl, rfl⟩
        iterate 2 (refine aL_S rfl rfl v_ ?_)
        refine aL_GF rfl rfl v_ rfl vg_ ?_
        refine aL_GF rfl rfl v_ rfl vg_ ?_
        refine aL_GF rfl rfl v_ rfl vg_ ?_
        refine aL_GF rfl rfl v_ rfl vg_ ?_
        refine aL_GFX rfl rfl v_ rfl (fun hb => AOp_useV (by rfl) (by rfl) (.inr ⟨by rfl, by rfl, by rfl⟩) g_ cg_ (by first | exact toldN_c | exact toldZ_c hgz)) ?_
        refine aL_GF rfl rfl v_ rfl vg_ ?_
        refine aL_GF rfl rfl v_ rfl vg_ ?_
        iterate 2 (refine aL_S rfl rfl v_ ?_)
        refine aL_GF rfl rfl v_ rfl vg_ ?_
        refine aL_GF rfl rfl v_ rfl vg_ ?_
        refine aL_GF rfl rfl v_ rfl vg_ ?_
        refine aL_GF rfl rfl v_ rfl vg_ ?_
        refine aL_GFX rfl rfl v_ rfl (fun hb => AOp_useV (by rfl) (by rfl) (.inr ⟨by rfl, by rfl, by rfl⟩) g_ cg_ (by first | exact staleN_c | exact staleZ_c hgz)) ?_
        refine aL_GF rfl rfl v_ rfl vg_ ?_
        refine aL_GF rfl rfl v_ rfl vg_ ?_
        iterate 2 (refine aL_S rfl rfl v_ ?_)
        refine aL_GF rfl rfl v_ rfl vg_ ?_
        refine aL_GF rfl rfl v_ rfl vg_ ?_
        refine aL_GF rfl rfl v_ rfl vg_ ?_
        refine aL_GF rfl rfl v_ rfl vg_ ?_
        refine aL_GFX rfl rfl v_ rfl (fun hb => AOp_useV (by rfl) (by rfl) (.inr ⟨by rfl, by rfl, by rfl⟩) g_ cg_ (by first | exact openN_c | exact openZ_c hgz)) ?_
        iterate 2 (refine aL_S rfl rfl v_ ?_)
        refine aL_GF rfl rfl v_ rfl vg_ ?_
        refine aL_GF rfl rfl v_ rfl vg_ ?_
        refine aL_GF rfl rfl v_ rfl vg_ ?_
        refine aL_GF rfl rfl v_ rfl vg_ ?_
        refine aL_GFX rfl rfl v_ rfl (fun hb => AOp_useV (by rfl) (by rfl) (.inr ⟨by rfl, by rfl, by rfl⟩) g_ cg_ (by first | exact wholeN_c | exact wholeZ_c hgz)) ?_
        try rw [m00]
        refine aL_GF rfl rfl v_ rfl vg_ ?_
        refine aL_GFX rfl rfl v_ rfl (fun hb => AOp_useV (by rfl) (by rfl) (.inr ⟨by rfl, by rfl, by rfl⟩) g_ cg_ (by first | exact ACalls.wkA (args := [.agg [vNil, vNil], .agg [vNil, vNil]]) (same07_f o00_sm o00_sm) rfl (fun j hj hj' => by match j, hj with | 0, _ => exact vE_wk | 1, _ => exact vE_wk) | exact ACalls.wkA (args := [sObj o00, .agg [vNil, vNil]]) (same07_f o00_sm o00_sm) rfl (fun j hj hj' => by match j, hj with | 0, _ => exact .refl _ | 1, _ => exact vE_wk))) ?_
        rw [d0]
        refine aL_GF rfl rfl v_ rfl vg_ ?_
        (refine aL_S rfl rfl v_ ?_)
        refine aL_nil ?_
        refine awp_cond v_ (fun hc8 => ?_) (fun hc8 => ?_)
        · replace hc8 := nm_ hc8
          simp at hc8
        · replace hc8 := nm_ hc8
          refine awp_skip ?_
          refine awp_region (by kernel_rfl) ?_
          iterate 3 (refine aL_S rfl rfl v_ ?_)
          refine aL_nil ?_
          refine aNext (ι := Nat) (i := 1) 2 ?_ ?_ ?_ ?_
          · decide
          · decide
          · exact cv_
          · exact sub_
    · replace hc5 := nm_ hc5
      refine awp_exit ?_
      refine aThen_exit ?_
      refine aThen_exit ?_
      refine aBlock_hit ?_
      refine awp_seq ?_
      refine awp_region (by kernel_rfl) ?_
      refine aL_X rfl rfl (AOp_use rfl rfl (.inr ⟨rfl, rfl, rfl⟩) g_ va_ (awake36_c) ?_); rintro _ _ ⟨rfl, rfl⟩
      (refine aL_S rfl rfl v_ ?_)
      refine aL_nil ?_
      refine awp_ret ?_
      refine aEnd_ret (σ' := σ) v_ sub_ ?_
      exact ⟨rfl, rfl⟩
theorem fewAc_it {l : List Ac} (h : fewAc l = true) : l.length ≤ 12 ∧ ∀ a ∈ l, FewO a.obj := by
  simp only [fewAc, Bool.and_eq_true, decide_eq_true_eq, List.all_eq_true] at h
  exact ⟨h.1, fun a ha => fewOb_iff.1 (h.2 a ha).2⟩
theorem fewCh_len {l : List Ch} (h : fewCh l = true) : l.length ≤ 20 := by
  simp only [fewCh, Bool.and_eq_true, decide_eq_true_eq] at h
  exact h.1
theorem Q1.X {σ S : Store} {g m X : Nat} {p : Prp} {l : List Ch} {s : Rs} {cs : List AVal} (h : Q1 σ S g m p l s) (hX : S.heap X = some (.cells cs)) (hl : cs.length = 16) : g ≠ X ∧ m ≠ X := by
  refine ⟨fun hh => ?_, fun hh => ?_⟩
  · have := h.hg; rw [hh, hX] at this; simp only [Option.some.injEq, AObj.cells.injEq] at this; rw [this] at hl; simp [rdC] at hl
  · have := h.hm; rw [hh, hX] at this; cases this
theorem Q1.of {σ S S' : Store} {g m X : Nat} {p : Prp} {l : List Ch} {s : Rs} (h : Q1 σ S g m p l s) (h1 : g ≠ X) (h2 : m ≠ X) (kp : ∀ i y, i ≠ X → S.heap i = some y → S'.heap i = some y) : Q1 σ S' g m p l s := ⟨kp _ _ h1 h.hg, kp _ _ h2 h.hm, h.ng, h.nm⟩
abbrev nilX (p : Prp) (l : List Ch) : List AVal := [vInt p.n, vInt p.r, vInt p.w, vInt p.pr, vInt p.pw, vB p.sev, vB p.mis, vB p.bas, .sl 2 (l.map sCh) false, vNil, vNil, vNil, vNil, vNil, vNil, vInt 0]
theorem tokN {S : Store} {k j : Nat} {q : TypeId × Nat} (h : j ≠ k) : (S.newTok none k q).tok j = S.tok j := by simp only [Store.newTok]; rw [if_neg h]; simp
theorem T4.zero {σ S : Store} {ky kg kn ko : Nat} (hy : σ.tok ky = none) (hg : σ.tok kg = none) (hn : σ.tok kn = none) (ho : σ.tok ko = none) (ty : S.tok ky = some pS1) (tg : S.tok kg = some pS1) (tn : S.tok kn = some pS1) (to : S.tok ko = some pO2) (d1 : ky ≠ kg) (d2 : ky ≠ kn) (d3 : ky ≠ ko) (d4 : kg ≠ kn) (d5 : kg ≠ ko) (d6 : kn ≠ ko) : T4 σ S ky kg kn ko := ⟨ty, tg, tn, to, d1, d2, d3, d4, d5, d6, hy, hg, hn, ho⟩
set_option maxHeartbeats 4000000 in
theorem readerPlays_c {p : Prp} {nd : List Ch} {l : List Ac} {σ : Store} : ACalls Tryz.prog 3 [.agg (cPrp p), .sl 2 (nd.map sCh) false, .sl 4 (l.map sAc) false] σ fun v σ' => v = vB true ∧ σ = σ' := by
  refine ACalls_of Tryz.func3 rfl Tryz.ntmps3 (congrArg Array.toList Tryz.results3) (by simp only [List.length_cons, List.length_nil]; decide) ?_; simp only [envOf_cons, envOf_nil, Nat.reduceAdd]
  refine awp_seq ?_
  refine awp_region (by kernel_rfl) ?_
  refine aL_box rfl rfl rfl v_ rfl g_ fun o3 ho3 => ?_
  repeat (rw [none_set_iff] at ho3; obtain ⟨_, ho3⟩ := ho3)
  (refine aL_S rfl rfl v_ ?_)
  refine aL_nil ?_
  refine awp_seq ?_
  refine awp_seq ?_
  refine awp_region (by kernel_rfl) ?_
  (refine aL_S rfl rfl v_ ?_)
  refine aL_X rfl rfl (AOp_use rfl rfl (.inr ⟨rfl, rfl, rfl⟩) g_ va_ (few34_c) ?_); rintro _ _ ⟨rfl, rfl⟩
  iterate 2 (refine aL_S rfl rfl v_ ?_)
  refine aL_GF rfl rfl v_ rfl vg_ ?_
  refine aL_GFX rfl rfl v_ rfl (fun hb => AOp_useV (by rfl) (by rfl) (.inr ⟨by rfl, by rfl, by rfl⟩) g_ cg_ (few36_c)) ?_
  refine aL_GF rfl rfl v_ rfl vg_ ?_
  (refine aL_S rfl rfl v_ ?_)
  refine aL_nil ?_
  refine awp_cond v_ (fun hc1 => ?_) (fun hc1 => ?_)
  · replace hc1 := nm_ hc1
    refine awp_seq ?_
    refine awp_region (by kernel_rfl) ?_
    refine aL_X rfl rfl (AOp_use rfl rfl (.inr ⟨rfl, rfl, rfl⟩) g_ va_ (awake36_c) ?_); rintro _ _ ⟨rfl, rfl⟩
    (refine aL_S rfl rfl v_ ?_)
    refine aL_nil ?_
    refine awp_ret ?_
    refine aEnd_ret (σ' := σ) v_ sub_ ?_
    exact ⟨rfl, rfl⟩
  · replace hc1 := nm_ hc1
    have hnd := fewCh_len hc1.1
    obtain ⟨hl12, hit⟩ := fewAc_it hc1.2
    refine awp_skip ?_
    refine awp_seq_mid (ι := Store × Nat × Nat × Nat) (fun ⟨S3, m3, g3, X3⟩ => S3.heap g3 = some (.cells (rdC p nd m3 o00 (decS p nd [] 0))) ∧ S3.heap m3 = some (.map (kvP [])) ∧ S3.heap X3 = some (.cells (nilX p nd)) ∧ SubX [] σ S3 ∧ σ.heap g3 = none ∧ σ.heap m3 = none ∧ σ.heap X3 = none) (fun ⟨S3, m3, g3, X3⟩ => [(2, .sl 4 (l.map sAc) false), (7, .ref g3 0), (8, .ref X3 0)]) (fun ⟨S3, m3, g3, X3⟩ => S3) ?_ ?_
    · refine awp_draw (.op 0 0 (.op 1 0 (.op 3 0 (.op 4 0 (.op 5 0 (.alt 2 1 (.op 7 0 (.op 6 1 (.op 8 0 .nil))) (.op 6 1 (.op 2 1 (.op 7 0 (.op 8 0 .nil)))))))))) Tryz.mixed (by kernel_rfl) ?_
      iterate 5 (refine dR_S o_ (by rfl) (by rfl) v_ ?_)
      refine dR_alt ?_ ?_
      · refine dR_X o_ (by rfl) (by rfl) (AOp_use (by rfl) (by rfl) (.inr ⟨by rfl, by rfl, by rfl⟩) g_ va_ (rNew36_c (p := p) (l := nd) (t := false) (by omega)) ?_); rintro _ _ ⟨m, g, hm, hg, hgm, rfl, rfl⟩
        have hm0 : (σ.set o3 (.cells (cPrp p))).heap m = none := by first | exact hm | exact (none_set_iff.1 hm).2
        have hg0 : (σ.set o3 (.cells (cPrp p))).heap g = none := by first | exact hg | exact (none_set_iff.1 hg).2
        try have ho25b : (σ.set o3 (.cells (cPrp p))).heap o25 = none := none_set_iff.2 ⟨by assumption, ho25⟩
        refine ⟨sub_, ?_⟩
        (refine dR_S o_ (by rfl) (by rfl) v_ ?_)
        refine dR_box o_ (by rfl) (by rfl) (by rfl) v_ rfl g_ sub_ fun o25 ho25 => ?_
        repeat (rw [none_set_iff] at ho25; obtain ⟨_, ho25⟩ := ho25)
        (refine dR_S o_ (by rfl) (by rfl) v_ ?_)
        refine dR_nil ?_
        skip
        refine q_gen fun Sj hSj => ?_
        have s0 : SubX [] σ (σ.set o3 (.cells (cPrp p))) := subx_new ho3 subx_refl
        have b1 := SubX.noObj s0 hm0 (by simp)
        have b2 := SubX.noObj s0 hg0 (by simp)
        have hj : Sj.heap g = some (.cells (rdC p nd m o00 (decS p nd [] 0))) ∧ Sj.heap m = some (.map (kvP [])) ∧ Sj.heap o25 = some (.cells (nilX p nd)) ∧ SubX [] σ Sj ∧ σ.heap g = none ∧ σ.heap m = none ∧ σ.heap o25 = none := by
          first
          | exact ⟨by rw [hSj, Store.set_ne _ _ (Ne.symm (by assumption))]; exact Store.set_get .., by rw [hSj, Store.set_ne _ _ (Ne.symm (by assumption)), Store.set_ne _ _ (Ne.symm hgm)]; exact Store.set_get .., by rw [hSj]; exact Store.set_get .., by rw [hSj]; exact subx_new ho25 (subx_new b2 (subx_new b1 s0)), b2, b1, ho25⟩
          | exact ⟨by rw [hSj]; exact Store.set_get .., by rw [hSj, Store.set_ne _ _ (Ne.symm hgm)]; exact Store.set_get .., by rw [hSj, Store.set_ne _ _ (Ne.symm (none_set_iff.1 hg).1), Store.set_ne _ _ (Ne.symm (none_set_iff.1 hm).1)]; exact Store.set_get .., by rw [hSj]; exact subx_new b2 (subx_new b1 (subx_new ho25 s0)), b2, b1, ho25⟩
        clear hSj
        refine ⟨(Sj, m, g, o25), ?_, ?_, ?_⟩
        · exact hj
        · exact cv_
        · exact Store.Wk.refl _
      refine dR_box o_ (by rfl) (by rfl) (by rfl) v_ rfl g_ sub_ fun o25 ho25 => ?_
      repeat (rw [none_set_iff] at ho25; obtain ⟨_, ho25⟩ := ho25)
      refine dR_X o_ (by rfl) (by rfl) (AOp_use (by rfl) (by rfl) (.inr ⟨by rfl, by rfl, by rfl⟩) g_ va_ (rNew36_c (p := p) (l := nd) (t := false) (by omega)) ?_); rintro _ _ ⟨m, g, hm, hg, hgm, rfl, rfl⟩
      have hm0 : (σ.set o3 (.cells (cPrp p))).heap m = none := by first | exact hm | exact (none_set_iff.1 hm).2
      have hg0 : (σ.set o3 (.cells (cPrp p))).heap g = none := by first | exact hg | exact (none_set_iff.1 hg).2
      try have ho25b : (σ.set o3 (.cells (cPrp p))).heap o25 = none := none_set_iff.2 ⟨by assumption, ho25⟩
      refine ⟨sub_, ?_⟩
      iterate 2 (refine dR_S o_ (by rfl) (by rfl) v_ ?_)
      refine dR_nil ?_
      skip
      refine q_gen fun Sj hSj => ?_
      have s0 : SubX [] σ (σ.set o3 (.cells (cPrp p))) := subx_new ho3 subx_refl
      have b1 := SubX.noObj s0 hm0 (by simp)
      have b2 := SubX.noObj s0 hg0 (by simp)
      have hj : Sj.heap g = some (.cells (rdC p nd m o00 (decS p nd [] 0))) ∧ Sj.heap m = some (.map (kvP [])) ∧ Sj.heap o25 = some (.cells (nilX p nd)) ∧ SubX [] σ Sj ∧ σ.heap g = none ∧ σ.heap m = none ∧ σ.heap o25 = none := by
        first
        | exact ⟨by rw [hSj, Store.set_ne _ _ (Ne.symm (by assumption))]; exact Store.set_get .., by rw [hSj, Store.set_ne _ _ (Ne.symm (by assumption)), Store.set_ne _ _ (Ne.symm hgm)]; exact Store.set_get .., by rw [hSj]; exact Store.set_get .., by rw [hSj]; exact subx_new ho25 (subx_new b2 (subx_new b1 s0)), b2, b1, ho25⟩
        | exact ⟨by rw [hSj]; exact Store.set_get .., by rw [hSj, Store.set_ne _ _ (Ne.symm hgm)]; exact Store.set_get .., by rw [hSj, Store.set_ne _ _ (Ne.symm (none_set_iff.1 hg).1), Store.set_ne _ _ (Ne.symm (none_set_iff.1 hm).1)]; exact Store.set_get .., by rw [hSj]; exact subx_new b2 (subx_new b1 (subx_new ho25 s0)), b2, b1, ho25⟩
      clear hSj
      refine ⟨(Sj, m, g, o25), ?_, ?_, ?_⟩
      · exact hj
      · exact cv_
      · exact Store.Wk.refl _
    · rintro ⟨S3, m3, g3, X3⟩ ⟨fg, fm, fX, s3, ng, nm, nX⟩
      simp only [envL_cons, envL_nil]
      refine awp_seq ?_
      have hnx := Q1.X (σ := σ) (s := ⟨[], o00, decS p nd [] 0⟩) ⟨fg, fm, ng, nm⟩ fX rfl
      refine awp_ownCell X3 9 (9) 1 fX rfl fun ky hky => ?_
      refine awp_ownCell X3 10 (9) 1 (Store.set_get ..) rfl fun kg hkg => ?_
      refine awp_ownCell X3 11 (9) 1 (Store.set_get ..) rfl fun kn hkn => ?_
      refine awp_ownCell X3 12 (37) 2 (Store.set_get ..) rfl fun ko hko => ?_
      refine awp_wkCells X3 (rrC p nd ky kg kn ko r00) (Store.set_get ..) ⟨.refl _, .refl _, .refl _, .refl _, .refl _, .refl _, .refl _, .refl _, .refl _, .refl _, .refl _, .refl _, .refl _, .nil _ _, .nil _ _, .refl _, trivial⟩ ?_
      simp only [Store.set_tok] at hkg hkn hko
      have hk1 := newTok_none hkg; have hk2 := newTok_none hkn; have hk3 := newTok_none hko
      simp only [Store.set_tok] at hk1 hk2 hk3
      have hk4 := newTok_none hk2.2; have hk5 := newTok_none hk3.2
      simp only [Store.set_tok] at hk4 hk5
      have hk6 := newTok_none hk5.2
      refine awp_gen fun S4 hS => ?_
      have hX4 : S4.heap X3 = some (.cells (rrC p nd ky kg kn ko r00)) := by rw [hS]; exact Store.set_get ..
      have hQ : Q1 σ S4 g3 m3 p nd ⟨[], o00, decS p nd [] 0⟩ := by
        refine ⟨?_, ?_, ng, nm⟩
        · rw [hS]; simp (disch := first | exact hnx.1 | exact hnx.2) only [Store.set_ne, Store.newTok_heap]; exact fg
        · rw [hS]; simp (disch := first | exact hnx.1 | exact hnx.2) only [Store.set_ne, Store.newTok_heap]; exact fm
      have q1 := SubX.noTok s3 hky; have q2 := SubX.noTok s3 hk1.2; have q3 := SubX.noTok s3 hk4.2; have q4 := SubX.noTok s3 hk6.2
      have hT : T4 σ S4 ky kg kn ko := by
        have n1 := hk1.1; have n2 := hk2.1; have n3 := hk3.1; have n4 := hk4.1; have n5 := hk5.1; have n6 := hk6.1
        have m1 := Ne.symm n1; have m2 := Ne.symm n2; have m3 := Ne.symm n3; have m4 := Ne.symm n4; have m5 := Ne.symm n5; have m6 := Ne.symm n6
        refine T4.zero q1 q2 q3 q4 ?_ ?_ ?_ ?_ m1 m4 m6 m2 m5 m3 <;> rw [hS] <;> simp (disch := assumption) only [Store.set_tok, tokN, Store.newTok_get]
      have s4 : SubX [] σ S4 := by
        rw [hS]
        exact subx_new nX (subx_new nX (subx_newTok q4 (subx_new nX (subx_newTok q3 (subx_new nX (subx_newTok q2 (subx_new nX (subx_newTok q1 s3))))))))
      have rel0 : RelR nd ⟨[], o00, decS p nd [] 0⟩ { r00 with dec := decQ p nd r00 } := RelR.begin_ p nd
      have hd0 : decS p nd [] 0 = decQ p nd r00 := rel0.st
      clear hS
      refine awp_region (by kernel_rfl) ?_
      (refine aL_S rfl rfl v_ ?_)
      refine aL_X rfl rfl (AOp_use rfl rfl (.inr ⟨rfl, rfl, rfl⟩) g_ va_ (rBegin_c hX4 (by omega) ⟨by decide, by decide, by decide, by decide⟩) ?_); rintro _ τ4 ⟨rfl, rfl⟩
      refine aL_nil ?_
      skip
      refine awp_gen fun S5 hS => ?_
      have hX5 : S5.heap X3 = some (.cells (rrC p nd ky kg kn ko { r00 with dec := decQ p nd r00 })) := by rw [hS]; exact Store.set_get ..
      replace hQ : Q1 σ S5 g3 m3 p nd ⟨[], o00, decS p nd [] 0⟩ := by rw [hS]; exact hQ.keep hnx.1 hnx.2
      replace hT : T4 σ S5 ky kg kn ko := by rw [hS]; exact hT.set
      replace s4 : SubX [] σ S5 := by rw [hS]; exact subx_new nX s4
      clear hS
      refine awp_seq ?_
      refine awp_seq ?_
      have R := hX5
      refine awp_draw (.op 0 0 (.op 2 0 (.op 3 0 (.op 4 0 (.op 5 0 (.op 1 1 (.op 6 0 .nil))))))) Tryz.mixed (by kernel_rfl) ?_
      iterate 5 (refine dR_S o_ (by rfl) (by rfl) v_ ?_)
      refine dR_X o_ (by rfl) (by rfl) (AOp_use (by rfl) (by rfl) (.inr ⟨by rfl, by rfl, by rfl⟩) g_ va_ (state36_c hQ.hg) ?_); rintro _ _ ⟨rfl, rfl⟩; refine ⟨sub_, ?_⟩
      rw [hd0]
      (refine dR_S o_ (by rfl) (by rfl) v_ ?_)
      refine dR_nil ?_
      refine awp_cond v_ (fun hc5 => ?_) (fun hc5 => ?_)
      · replace hc5 := nm_ hc5
        simp at hc5
      · replace hc5 := nm_ hc5
        refine awp_skip ?_
        refine awp_seq ?_
        refine awp_seq ?_
        refine awp_region (by kernel_rfl) ?_
        (refine aL_S rfl rfl v_ ?_)
        refine aL_nil ?_
        refine awp_block ?_
        refine awp_loop_env (ι := Store × Nat × Nat × Nat × Nat × Nat × Rs × Rr) (fun ⟨S, ky, kg, kn, ko, i, s, r⟩ => l.length - i) (fun ⟨S, ky, kg, kn, ko, i, s, r⟩ => i ≤ l.length ∧ Q1 σ S g3 m3 p nd s ∧ S.heap X3 = some (.cells (rrC p nd ky kg kn ko r)) ∧ T4 σ S ky kg kn ko ∧ RelR nd s r ∧ SzR i s ∧ SubX [] σ S ∧ r.yes.length ≤ i ∧ r.gone.length ≤ i ∧ r.no.length ≤ i ∧ r.objs.length ≤ i) (fun ⟨S, ky, kg, kn, ko, i, s, r⟩ => [(2, .sl 4 (l.map sAc) false), (7, .ref g3 0), (8, .ref X3 0), (9, vInt i)]) (fun ⟨S, ky, kg, kn, ko, i, s, r⟩ => S) (S5, ky, kg, kn, ko, 0, ⟨[], o00, decS p nd [] 0⟩, { r00 with dec := decQ p nd r00 }) ?_ ?_ ?_ ?_
        · exact ⟨Nat.zero_le _, hQ, hX5, hT, rel0, SzR.zero _, s4, Nat.le_refl _, Nat.le_refl _, Nat.le_refl _, Nat.le_refl _⟩
        · exact cv_
        · exact Store.Wk.refl _
        rintro ⟨S, ky, kg, kn, ko, i, s, r⟩ ⟨hi, hQ, hX, hT, hrel, hz, hs, l1, l2, l3, l4⟩
        simp only [envL_cons, envL_nil]
        refine awp_seq ?_
        refine awp_seq ?_
        refine awp_region (by kernel_rfl) ?_
        iterate 4 (refine aL_S rfl rfl v_ ?_)
        refine aL_nil ?_
        refine awp_cond v_ (fun hc8 => ?_) (fun hc8 => ?_)
        · replace hc8 := nm_ hc8
          refine awp_skip ?_
          refine awp_seq ?_
          refine awp_block ?_
          refine awp_seq ?_
          obtain ⟨x, hx⟩ := get_some (l := l) (k := i) (by omega)
          have hxf := hit x (List.mem_of_getElem? hx)
          have hw := hz.sm (by omega)
          have hkr : ∀ q ∈ s.rp, q.kind ≠ 0 := fun q hq => by rcases hrel.kr q hq with e | e | e <;> omega
          have hra : ObjSm r.all := by rw [← hrel.w]; exact hw
          have R := hx
          refine awp_region (by kernel_rfl) ?_
          iterate 5 (refine aL_S rfl rfl v_ ?_)
          refine aL_X rfl rfl (AOp_use rfl rfl (.inr ⟨rfl, rfl, rfl⟩) g_ va_ (do36_c (s := s) (a := x) hQ.hg hQ.hm (by omega) hw hxf.sm hkr) ?_); rintro _ τ1 ⟨rfl, rfl⟩
          refine aL_nil ?_
          skip
          refine awp_gen fun S1 hS => ?_
          have hgX := hQ.X hX rfl
          have hQ1 : Q1 σ S1 g3 m3 p nd (doR p nd s x) := by rw [hS]; exact hQ.step
          have hX1 : S1.heap X3 = some (.cells (rrC p nd ky kg kn ko r)) := by rw [hS, Store.set_ne _ _ (Ne.symm hgX.1), Store.set_ne _ _ (Ne.symm hgX.2)]; exact hX
          have hT1 : T4 σ S1 ky kg kn ko := by rw [hS]; exact hT.set.set
          have hs1 : SubX [] σ S1 := by rw [hS]; exact hQ.sub hs
          clear hS
          refine awp_seq ?_
          have R := hx
          refine awp_draw (.op 0 0 (.op 1 0 (.op 2 0 (.op 3 0 (.op 4 0 (.op 5 0 (.op 6 0 (.op 7 0 (.op 8 0 (.op 9 0 (.op 10 0 (.op 11 0 (.op 12 0 (.op 13 0 (.op 14 0 (.op 15 0 (.op 16 2 .nil))))))))))))))))) Tryz.mixed (by kernel_rfl) ?_
          iterate 16 (refine dR_S o_ (by rfl) (by rfl) v_ ?_)
          refine dR_T o_ (by rfl) (by rfl) (AOp_use (by rfl) (by rfl) (.inr ⟨by rfl, by rfl, by rfl⟩) g_ va_ (rAns_c (σb := σ) (k := x.kind) (n := x.node) (o := x.obj) hX1 hT1 hs1 nX (by omega) (by omega) (by omega) (by omega) (by omega) hra hxf.sm) ?_); rintro _ τ2 ⟨rfl, ky2, kg2, kn2, ko2, hX2, hT2, hs2, hkp⟩
          refine dR_nil ?_
          refine awp_seq ?_
          have hQ2 : Q1 σ τ2 g3 m3 p nd (doR p nd s x) := hQ1.of hgX.1 hgX.2 hkp
          have hrel2 := hrel.step (p := p) x
          have hz2 : SzR (i + 1) (doR p nd s x) := hz.do hxf
          obtain ⟨l1', l2', l3', l4'⟩ := ansR_len (p := p) (l := nd) (r := r) (k := x.kind) (n := x.node) (o := x.obj) (i := i) ⟨l1, l2, l3, l4⟩
          obtain ⟨s2, es2⟩ : ∃ s2, doR p nd s x = s2 := ⟨_, rfl⟩
          obtain ⟨r2, er2⟩ : ∃ r2, ansR p nd r x.kind x.node x.obj = r2 := ⟨_, rfl⟩
          rw [es2] at hQ2 hrel2 hz2
          rw [er2] at hX2 hrel2 l1' l2' l3' l4'
          have hw2 := hz2.sm (by omega)
          have hra2 : ObjSm r2.all := by rw [← hrel2.w]; exact hw2
          have hr2 : RrSm r2 := ⟨by omega, by omega, by omega, by omega⟩
          have hwh : (mergeS s2.w ⟨[], []⟩).1 = r2.all := by rw [hz2.whole, hrel2.w]
          have dd : decide (r2.all = r2.all) = true := decide_eq_true rfl
          have e1 : (if s2.st = 1 then answerS s2.w p.sev else []) = (if r2.dec = 1 then answerS r2.all p.sev else []) := by rw [hrel2.st, hrel2.w]
          have e2 : sibsEq (if r2.dec = 1 then answerS r2.all p.sev else []) (if r2.dec = 1 then answerS r2.all p.sev else []) = true := sibsEq_iff.2 rfl
          have e3 : (if r2.dec = 1 then answerS r2.all p.sev else []).length ≤ 1000 := by
            split
            · have h1 := hra2.ns
              unfold answerS
              split
              · exact Nat.le_trans (List.length_filter_le ..) h1
              · split
                · exact Nat.zero_le _
                · exact Nat.le_trans (List.length_filter_le ..) (by simp)
            · exact Nat.zero_le _
          have e4 : (staleS nd s2.rp s2.w) = nd.foldl (stStepR r2) [] := hrel2.stale
          have e5 : (nd.foldl (stStepR r2) []).length ≤ 1000 := by rw [← e4]; have := staleS_len nd s2.rp s2.w; omega
          have e6 : decide (nd.foldl (stStepR r2) [] = nd.foldl (stStepR r2) []) = true := decide_eq_true rfl
          have e7 := hrel2.open_
          have R := hX2
          refine awp_draw (.op 0 0 (.op 2 0 (.op 3 0 (.op 4 0 (.op 5 0 (.op 1 1 (.op 6 0 (.op 7 0 (.op 8 0 (.op 10 0 (.op 11 0 (.op 12 0 (.op 13 0 (.op 9 1 (.op 14 1 (.op 15 0 (.op 16 0 (.op 17 0 (.op 18 0 (.op 20 0 (.op 19 1 (.op 21 1 (.op 22 1 (.op 23 0 (.op 24 0 (.op 25 0 (.op 26 0 (.op 28 0 (.op 27 1 (.op 29 1 (.op 30 1 (.op 31 0 (.op 32 0 (.op 33 0 (.op 34 0 (.op 36 0 (.op 35 1 (.op 37 1 (.op 38 0 (.op 39 0 .nil)))))))))))))))))))))))))))))))))))))))) Tryz.mixed (by kernel_rfl) ?_
          iterate 5 (refine dR_S o_ (by rfl) (by rfl) v_ ?_)
          refine dR_X o_ (by rfl) (by rfl) (AOp_use (by rfl) (by rfl) (.inr ⟨by rfl, by rfl, by rfl⟩) g_ va_ (state36_c hQ2.hg) ?_); rintro _ _ ⟨rfl, rfl⟩; refine ⟨sub_, ?_⟩
          rw [hrel2.st]
          iterate 2 (refine dR_S o_ (by rfl) (by rfl) v_ ?_)
          refine dR_GF o_ (by rfl) (by rfl) v_ (by rfl) vg_ ?_
          refine dR_GF o_ (by rfl) (by rfl) v_ (by rfl) vg_ ?_
          refine dR_GF o_ (by rfl) (by rfl) v_ (by rfl) vg_ ?_
          refine dR_GF o_ (by rfl) (by rfl) v_ (by rfl) vg_ ?_
          refine dR_GF o_ (by rfl) (by rfl) v_ (by rfl) vg_ ?_
          refine dR_GFX o_ (by rfl) (by rfl) v_ (by rfl) sub_ (fun hb => AOp_useV (by rfl) (by rfl) (.inr ⟨by rfl, by rfl, by rfl⟩) g_ cg_ (whole_c hQ2.hg hw2)) ?_
          rw [hwh]
          refine dR_GFX o_ (by rfl) (by rfl) v_ (by rfl) sub_ (fun hb => AOp_useV (by rfl) (by rfl) (.inr ⟨by rfl, by rfl, by rfl⟩) g_ cg_ (same07_f hra2 hra2)) ?_
          rw [dd]
          refine dR_GF o_ (by rfl) (by rfl) v_ (by rfl) vg_ ?_
          iterate 2 (refine dR_S o_ (by rfl) (by rfl) v_ ?_)
          refine dR_GF o_ (by rfl) (by rfl) v_ (by rfl) vg_ ?_
          refine dR_GF o_ (by rfl) (by rfl) v_ (by rfl) vg_ ?_
          refine dR_GFX o_ (by rfl) (by rfl) v_ (by rfl) sub_ (fun hb => AOp_useV (by rfl) (by rfl) (.inr ⟨by rfl, by rfl, by rfl⟩) g_ cg_ (told_c hQ2.hg hw2)) ?_
          rw [e1]
          refine dR_GFX o_ (by rfl) (by rfl) v_ (by rfl) sub_ (fun hb => AOp_useV (by rfl) (by rfl) (.inr ⟨by rfl, by rfl, by rfl⟩) g_ cg_ (rTold_c hX2 hra2)) ?_
          refine dR_GFX o_ (by rfl) (by rfl) v_ (by rfl) sub_ (fun hb => AOp_useV (by rfl) (by rfl) (.inr ⟨by rfl, by rfl, by rfl⟩) g_ cg_ (sameSibs_f (by omega) (by omega))) ?_
          rw [e2]
          refine dR_GF o_ (by rfl) (by rfl) v_ (by rfl) vg_ ?_
          iterate 2 (refine dR_S o_ (by rfl) (by rfl) v_ ?_)
          refine dR_GF o_ (by rfl) (by rfl) v_ (by rfl) vg_ ?_
          refine dR_GF o_ (by rfl) (by rfl) v_ (by rfl) vg_ ?_
          refine dR_GFX o_ (by rfl) (by rfl) v_ (by rfl) sub_ (fun hb => AOp_useV (by rfl) (by rfl) (.inr ⟨by rfl, by rfl, by rfl⟩) g_ cg_ (stale_c hQ2.hg hQ2.hm (by omega) hw2 (fun n => hz2.objs n))) ?_
          rw [e4]
          refine dR_GFX o_ (by rfl) (by rfl) v_ (by rfl) sub_ (fun hb => AOp_useV (by rfl) (by rfl) (.inr ⟨by rfl, by rfl, by rfl⟩) g_ cg_ (rStale_c hX2 (by omega) hr2 hra2 (hrel2.objs hz2) hrel2.len)) ?_
          refine dR_GFX o_ (by rfl) (by rfl) v_ (by rfl) sub_ (fun hb => AOp_useV (by rfl) (by rfl) (.inr ⟨by rfl, by rfl, by rfl⟩) g_ cg_ (sameTx_c (a := nd.foldl (stStepR r2) []) (b := nd.foldl (stStepR r2) []) (by omega) (by omega))) ?_
          rw [e6]
          refine dR_GF o_ (by rfl) (by rfl) v_ (by rfl) vg_ ?_
          iterate 2 (refine dR_S o_ (by rfl) (by rfl) v_ ?_)
          refine dR_GF o_ (by rfl) (by rfl) v_ (by rfl) vg_ ?_
          refine dR_GF o_ (by rfl) (by rfl) v_ (by rfl) vg_ ?_
          refine dR_GFX o_ (by rfl) (by rfl) v_ (by rfl) sub_ (fun hb => AOp_useV (by rfl) (by rfl) (.inr ⟨by rfl, by rfl, by rfl⟩) g_ cg_ (open36_c hQ2.hg hQ2.hm (by omega))) ?_
          rw [e7]
          refine dR_GFX o_ (by rfl) (by rfl) v_ (by rfl) sub_ (fun hb => AOp_useV (by rfl) (by rfl) (.inr ⟨by rfl, by rfl, by rfl⟩) g_ cg_ (rOpen36_c hX2 (by omega) hr2)) ?_
          refine dR_GF o_ (by rfl) (by rfl) v_ (by rfl) vg_ ?_
          (refine dR_S o_ (by rfl) (by rfl) v_ ?_)
          refine dR_nil ?_
          refine awp_cond v_ (fun hc12 => ?_) (fun hc12 => ?_)
          · replace hc12 := nm_ hc12
            simp at hc12
          · replace hc12 := nm_ hc12
            refine awp_skip ?_
            refine awp_region (by kernel_rfl) ?_
            iterate 3 (refine aL_S rfl rfl v_ ?_)
            refine aL_nil ?_
            refine aNext (ι := Store × Nat × Nat × Nat × Nat × Nat × Rs × Rr) (i := ⟨S, ky, kg, kn, ko, i, s, r⟩) (τ2, ky2, kg2, kn2, ko2, i + 1, s2, r2) ?_ ?_ ?_ ?_
            · show l.length - (i + 1) < l.length - i; omega
            · exact ⟨by show i + 1 ≤ l.length; omega, hQ2, hX2, hT2, hrel2, hz2, hs2, by show r2.yes.length ≤ i + 1; omega, by show r2.gone.length ≤ i + 1; omega, by show r2.no.length ≤ i + 1; omega, by show r2.objs.length ≤ i + 1; omega⟩
            · exact cv_
            · exact Store.Wk.refl _
        · replace hc8 := nm_ hc8
          refine awp_exit ?_
          refine aThen_exit ?_
          refine aThen_exit ?_
          refine aBlock_hit ?_
          refine awp_seq ?_
          refine awp_region (by kernel_rfl) ?_
          refine aL_X rfl rfl (AOp_use rfl rfl (.inr ⟨rfl, rfl, rfl⟩) g_ va_ (awake36_c) ?_); rintro _ _ ⟨rfl, rfl⟩
          (refine aL_S rfl rfl v_ ?_)
          refine aL_nil ?_
          refine awp_ret ?_
          exact aEnd_ret va_ (subx_start hs) ⟨rfl, rfl⟩
end Go.Proofs.YtbcgkbdacijoiaaGreat
end

section
set_option linter.all false
set_option maxRecDepth 100000
namespace Go.Proofs.YtbcgkbdacijoiaaGreat
open Go.Ab
abbrev shPrp : Sh := .pair (.int .i64) (.pair (.int .i64) (.pair (.int .i64) (.pair (.int .i64) (.pair (.int .i64) (.pair (.bool) (.pair (.bool) (.pair (.bool) (.unit))))))))
abbrev shCh : Sh := .pair .str (.pair .bool .unit)
abbrev shAc : Sh := .pair (.int .i64) (.pair .str (.pair shObj .unit))
theorem rv_prp {a : AVal} (h : Sh.okv shPrp true a) : ∃ p : Prp, a = .agg (cPrp p) := by
  obtain ⟨c, hc, e⟩ := h
  obtain ⟨_, _, rfl, ⟨n, rfl, _⟩, _, _, rfl, ⟨r, rfl, _⟩, _, _, rfl, ⟨w, rfl, _⟩, _, _, rfl, ⟨pr, rfl, _⟩, _, _, rfl, ⟨pw, rfl, _⟩, _, _, rfl, ⟨b1, rfl⟩, _, _, rfl, ⟨b2, rfl⟩, _, _, rfl, ⟨b3, rfl⟩, rfl⟩ := hc
  simp only [if_true] at e
  exact ⟨⟨n, r, w, pr, pw, b1, b2, b3⟩, by rw [e]; rfl⟩
theorem rd_ch {c : List AVal} (h : shCh.ok c) : ∃ x : Ch, .agg c = sCh x := by
  obtain ⟨_, _, rfl, ⟨s, rfl, _⟩, _, _, rfl, ⟨g, rfl⟩, rfl⟩ := h
  exact ⟨⟨s, g⟩, rfl⟩
theorem rd_ac {c : List AVal} (h : shAc.ok c) : ∃ x : Ac, .agg c = sAc x := by
  obtain ⟨_, _, rfl, ⟨k, rfl, _⟩, _, _, rfl, ⟨s, rfl, _⟩, _, _, rfl, ⟨_, _, rfl, h1, _, _, rfl, h2, rfl⟩, rfl⟩ := h
  obtain ⟨l, rfl⟩ := rd_ctx h1
  obtain ⟨m, rfl⟩ := rd_sl sSib (fun c hc => rd_sib hc) h2
  exact ⟨⟨k, s, ⟨l, m⟩⟩, rfl⟩
theorem rv_chs {a : AVal} (h : Sh.okv (.sl true shCh) false a) : ∃ l : List Ch, a = .sl 2 (l.map sCh) false := by
  obtain ⟨c, hc, e⟩ := h
  obtain ⟨l, rfl⟩ := rd_sl sCh (fun c hc => rd_ch hc) hc
  simp only [Bool.false_eq_true, if_false, List.cons.injEq, and_true] at e
  exact ⟨l, e.symm⟩
theorem rv_ac {a : AVal} (h : Sh.okv shAc true a) : ∃ x : Ac, a = sAc x := by
  obtain ⟨c, hc, e⟩ := h
  obtain ⟨x, hx⟩ := rd_ac hc
  simp only [if_true] at e
  exact ⟨x, by rw [e, hx]⟩
theorem rv_acs {a : AVal} (h : Sh.okv (.sl true shAc) false a) : ∃ l : List Ac, a = .sl 4 (l.map sAc) false := by
  obtain ⟨c, hc, e⟩ := h
  obtain ⟨l, rfl⟩ := rd_sl sAc (fun c hc => rd_ac hc) hc
  simp only [Bool.false_eq_true, if_false, List.cons.injEq, and_true] at e
  exact ⟨l, e.symm⟩
end Go.Proofs.YtbcgkbdacijoiaaGreat
end
