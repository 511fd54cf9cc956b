/-
  A read that goes on: what the program's reader does; A read that goes on: Open, Whole, what an answer does; A read that goes on: an answer; A read that goes on: answers of each kind; one that nobody began; A read that goes on: which nodes are stale; A read that begins; A read that nobody began. Own work (an AI agent).
-/
import Derived.Test.YtbcgkbdacijoiaaGreatGI
import Derived.Test.YtbcgkbdacijoiaaGreatGH
import Derived.Test.YtbcgkbdacijoiaaGreatGG

section
set_option linter.all false
set_option maxRecDepth 100000
namespace Go.Proofs.YtbcgkbdacijoiaaGreat
open Go.Ab
structure Rp where
  name : ByteArray
  kind : Int
  obj : Obj'
def kvP (R : List Rp) : List (Value × AVal) := R.map fun r => (.string r.name, .agg [vInt r.kind, .sl 3 (r.obj.ctx.map sSeen) false, .sl 5 (r.obj.sibs.map sSib) false])
theorem kvP_keys (R : List Rp) : ∀ x ∈ kvP R, Go.MapKept.IsKey .string x.1 := by
  intro x hx
  obtain ⟨p, _, rfl⟩ := List.mem_map.1 hx
  trivial
def findP (R : List Rp) (s : ByteArray) : Option Rp := R.find? fun r => decide (r.name = s)
def kindP (R : List Rp) (s : ByteArray) : Int := match findP R s with
  | some r => r.kind
  | none => 0
def objP (R : List Rp) (s : ByteArray) : Obj' := match findP R s with
  | some r => r.obj
  | none => ⟨[], []⟩
theorem kvPut_P {r : Rp} : ∀ {R : List Rp}, findP R r.name = none → kvPut (.string r.name) (.agg [vInt r.kind, .sl 3 (r.obj.ctx.map sSeen) false, .sl 5 (r.obj.sibs.map sSib) false]) (kvP R) = kvP (R ++ [r])
  | [], _ => rfl
  | p :: R, h => by
    have hp : p.name ≠ r.name := by
      intro he
      rw [findP, List.find?_cons] at h
      simp [he] at h
    have h2 : findP R r.name = none := by
      unfold findP at h ⊢
      rw [List.find?_cons] at h
      simp only [hp, decide_false] at h
      exact h
    have ih := kvPut_P (r := r) (R := R) h2
    unfold kvP at ih ⊢
    have h1 : keyEq (.string p.name) (.string r.name) = false := by simp [keyEq, hp]
    simp only [List.map_cons, kvPut, h1, Bool.false_eq_true, if_false, List.cons_append]
    rw [ih]
theorem afind_P (s : ByteArray) : ∀ R, afindNow .string (.string s) (kvP R) = some ((findP R s).map fun r => .agg [vInt r.kind, .sl 3 (r.obj.ctx.map sSeen) false, .sl 5 (r.obj.sibs.map sSib) false])
  | [] => rfl
  | p :: R => by
    have ih := afind_P s R
    unfold kvP findP at ih ⊢
    rw [List.map_cons, afindNow, List.find?_cons]
    simp only [Instr.sameNow]
    by_cases h : p.name = s
    · have h' : (s == s) = true := (Go.MapKept.bytes_beq s s).2 rfl
      rw [h, h']
      simp
    · have h' : (s == p.name) = false := by
        cases hh : (s == p.name) with
        | false => rfl
        | true => exact absurd (((Go.MapKept.bytes_beq _ _).1 hh).symm) h
      rw [h']
      simp only [h, decide_false]
      exact ih
theorem look_P {σ : Store} {o : Nat} {R : List Rp} (h : σ.heap o = some (.map (kvP R))) (s : ByteArray) : ∃ a b, alookup Tryz.prog σ 52 (.map o) (.lit (.string s)) false = some (.agg [vInt (kindP R s), a, b]) ∧ Wk a (.sl 3 ((objP R s).ctx.map sSeen) false) ∧ Wk b (.sl 5 ((objP R s).sibs.map sSib) false) ∧ a.one = true ∧ b.one = true := by
  have h1 : amapOf σ (.map o) = some (kvP R) := by simp [amapOf, h]
  unfold alookup
  simp only [go_sem, h1, plainKey, afind_P, if_true]
  unfold kindP objP
  cases findP R s with
  | none => exact ⟨.lit (.slice none 0 0), .lit (.slice none 0 0), rfl, .nil _ _, .nil _ _, rfl, rfl⟩
  | some r => exact ⟨_, _, rfl, .refl _, .refl _, rfl, rfl⟩
@[reducible] def rdC (p : Prp) (l : List Ch) (m : Nat) (w : Obj') (st : Int) : List AVal := [vInt p.n, vInt p.r, vInt p.w, vInt p.pr, vInt p.pw, vB p.sev, vB p.mis, vB p.bas, .sl 2 (l.map sCh) false, .map m, .sl 3 (w.ctx.map sSeen) false, .sl 5 (w.sibs.map sSib) false, vInt st]
def namesR (l : List Ch) (rp : List Rp) (k : Int) : List ByteArray := (l.filter fun x => decide (kindP rp x.node = k)).map Ch.node
theorem namesR_yes {l : List Ch} {rp : List Rp} {k : Int} {i : Nat} {x : Ch} (h : l[i]? = some x) (hx : kindP rp x.node = k) : (namesR (l.take (i + 1)) rp k).map vStr = (namesR (l.take i) rp k).map vStr ++ [vStr x.node] := by
  rw [take_snoc h, namesR, List.filter_append, List.map_append, List.map_append]; simp [namesR, hx]
theorem namesR_no {l : List Ch} {rp : List Rp} {k : Int} {i : Nat} {x : Ch} (h : l[i]? = some x) (hx : ¬ kindP rp x.node = k) : (namesR (l.take (i + 1)) rp k).map vStr = (namesR (l.take i) rp k).map vStr := by
  rw [take_snoc h, namesR, List.filter_append, List.map_append, List.map_append]; simp [namesR, hx]
theorem namesR_len (l : List Ch) (rp : List Rp) (k : Int) : (namesR l rp k).length ≤ l.length := by rw [namesR, List.length_map]; exact List.length_filter_le ..
theorem names_c {g m : Nat} {p : Prp} {l : List Ch} {w : Obj'} {st : Int} {rp : List Rp} {k : Int} {σ : Store} (hg : σ.heap g = some (.cells (rdC p l m w st))) (hm : σ.heap m = some (.map (kvP rp))) (hn : l.length ≤ 1000000) :
    ACalls Tryz.prog 68 [.ref g 0, vInt k] σ fun v σ' => v = .sl 1 ((namesR l rp k).map vStr) false ∧ σ = σ' := by
  refine ACalls_of Tryz.func68 rfl Tryz.ntmps68 (congrArg Array.toList Tryz.results68) (by simp only [List.length_cons, List.length_nil]; decide) ?_; simp only [envOf_cons, envOf_nil, Nat.reduceAdd]
  refine awp_seq ?_
  refine awp_region (by kernel_rfl) ?_
  (refine aL_S rfl rfl v_ ?_)
  refine aL_nil ?_
  refine awp_seq ?_
  refine awp_region (by kernel_rfl) ?_
  refine aL_nilOwn 9 1 rfl rfl rfl (by rfl) fun k5 hk5 => ?_
  refine aL_nil ?_
  refine awp_seq ?_
  refine awp_seq ?_
  have R := hg
  refine awp_region (by kernel_rfl) ?_
  iterate 6 (refine aL_S rfl rfl v_ ?_)
  refine aL_nil ?_
  refine awp_block ?_
  refine awp_loop_env (ι := Nat × Nat) (fun ⟨tk, i⟩ => l.length - i) (fun ⟨tk, i⟩ => i ≤ l.length ∧ σ.tok tk = none) (fun ⟨tk, i⟩ => [(0, .ref g 0), (1, vInt k), (5, .own tk 1 ((namesR (l.take i) rp k).map vStr)), (11, .sl 2 (l.map sCh) false), (12, vInt l.length), (13, vInt i)]) (fun ⟨tk, i⟩ => (σ.newTok none tk (9, 1))) (k5, 0) ?_ ?_ ?_ ?_
  · exact ⟨Nat.zero_le _, hk5⟩
  · exact cv_
  · exact Store.Wk.refl _
  rintro ⟨tk, i⟩ ⟨hi, htk⟩
  simp only [envL_cons, envL_nil]
  refine awp_seq ?_
  refine awp_region (by kernel_rfl) ?_
  (refine aL_S rfl rfl v_ ?_)
  refine aL_nil ?_
  refine awp_seq ?_
  refine awp_cond v_ (fun hc3 => ?_) (fun hc3 => ?_)
  · replace hc3 := nm_ hc3
    refine awp_skip ?_
    refine awp_seq ?_
    refine awp_block ?_
    refine awp_seq ?_
    obtain ⟨x, hx⟩ := get_some (l := l) (k := i) (by omega)
    have hlen : (namesR (l.take i) rp k).length ≤ i := Nat.le_trans (namesR_len _ _ _) (by simp; omega)
    have R := hx
    refine awp_region (by kernel_rfl) ?_
    iterate 2 (refine aL_S rfl rfl v_ ?_)
    refine aL_alloc rfl rfl rfl g_ gl_ fun o7 ho7 => ?_
    repeat (rw [none_set_iff] at ho7; obtain ⟨_, ho7⟩ := ho7)
    refine aL_store rfl rfl rfl v_ v_ h_ g_ rfl g_ c_ (by rfl) le_ v_ ?_
    refine aL_nil ?_
    skip
    have n7 := ne_of_heap hg ho7
    have q7 := ne_of_heap hm ho7
    obtain ⟨a, b, hlk, _, _, _, _⟩ := look_P (σ := (((σ.newTok none tk (9, 1)).set o7 (.cells [.lit (.string ⟨#[]⟩), .lit (.bool false)])).set o7 (.cells [vStr x.node, vB x.prim]))) (o := m) (R := rp) (by rw [Store.set_ne _ _ q7, Store.set_ne _ _ q7]; exact hm) x.node
    refine awp_seq ?_
    have R := And.intro hg hlk
    refine awp_draw (.op 0 0 (.op 1 0 (.op 2 0 (.op 3 0 (.op 4 0 (.op 5 0 (.op 6 0 (.op 7 0 (.op 8 0 (.op 9 0 .nil)))))))))) Tryz.mixed (by kernel_rfl) ?_
    iterate 10 (refine dR_S o_ (by rfl) (by rfl) v_ ?_)
    refine dR_nil ?_
    refine awp_cond v_ (fun hc5 => ?_) (fun hc5 => ?_)
    · replace hc5 := nm_ hc5
      have hcov := namesR_yes (rp := rp) hx hc5
      refine awp_region (by kernel_rfl) ?_
      iterate 3 (refine aL_S rfl rfl v_ ?_)
      refine aL_buildSlice rfl rfl rfl g_ g_ rfl rfl h_ c2_ (by decide) ?_
      refine aL_append rfl rfl rfl g_ g_ v_ h_ v_ c_ (by simp; omega) fun k31 hk31 => ?_
      (refine aL_S rfl rfl v_ ?_)
      refine aL_nil ?_
      refine awp_region (by kernel_rfl) ?_
      iterate 2 (refine aL_S rfl rfl v_ ?_)
      refine aL_nil ?_
      refine aNext (ι := Nat × Nat) (i := ⟨tk, i⟩) (k31, i + 1) ?_ ?_ ?_ ?_
      · show l.length - (i + 1) < l.length - i; omega
      · exact ⟨by show i + 1 ≤ l.length; omega, (newTok_none hk31).2⟩
      · have R := hcov; exact cv_
      · exact sub_
    · replace hc5 := nm_ hc5
      have hcov := namesR_no (rp := rp) hx hc5
      refine awp_skip ?_
      refine awp_region (by kernel_rfl) ?_
      iterate 2 (refine aL_S rfl rfl v_ ?_)
      refine aL_nil ?_
      refine aNext (ι := Nat × Nat) (i := ⟨tk, i⟩) (tk, i + 1) ?_ ?_ ?_ ?_
      · show l.length - (i + 1) < l.length - i; omega
      · exact ⟨by show i + 1 ≤ l.length; omega, htk⟩
      · have R := hcov; exact cv_
      · exact sub_
  · replace hc3 := nm_ hc3
    refine awp_exit ?_
    refine aThen_exit ?_
    refine aThen_exit ?_
    refine aBlock_hit ?_
    refine awp_seq ?_
    obtain rfl : i = l.length := by omega
    rw [List.take_length]
    refine awp_region (by kernel_rfl) ?_
    iterate 2 (refine aL_S rfl rfl v_ ?_)
    refine aL_nil ?_
    refine awp_ret ?_
    exact aEnd_retW (v := .sl 1 ((namesR l rp k).map vStr) false) (v' := .own tk 1 ((namesR l rp k).map vStr)) va_ (.own1 _ _ _) sub_ ⟨rfl, rfl⟩
def decS (p : Prp) (l : List Ch) (rp : List Rp) (st : Int) : Int := if st = 0 then readQ p l (namesR l rp 1) (namesR l rp 2) (namesR l rp 3) else st
set_option maxHeartbeats 2000000 in
theorem decide_c {g m : Nat} {p : Prp} {l : List Ch} {w : Obj'} {st : Int} {rp : List Rp} {σ : Store} (hg : σ.heap g = some (.cells (rdC p l m w st))) (hm : σ.heap m = some (.map (kvP rp))) (hn : l.length ≤ 1000000) :
    ACalls Tryz.prog 60 [.ref g 0] σ fun v σ' => v = .tup [] ∧ σ' = σ.set g (.cells (rdC p l m w (decS p l rp st))) := by
  have n1 := namesR_len l rp 1; have n2 := namesR_len l rp 2; have n3 := namesR_len l rp 3
  refine ACalls_of Tryz.func60 rfl Tryz.ntmps60 (congrArg Array.toList Tryz.results60) (by simp only [List.length_cons, List.length_nil]; decide) ?_; simp only [envOf_cons, envOf_nil, Nat.reduceAdd]
  refine awp_seq ?_
  have R := hg
  refine awp_region (by kernel_rfl) ?_
  iterate 5 (refine aL_S rfl rfl v_ ?_)
  refine aL_nil ?_
  refine awp_cond v_ (fun hc0 => ?_) (fun hc0 => ?_)
  · replace hc0 := nm_ hc0
    rw [show decS p l rp st = readQ p l (namesR l rp 1) (namesR l rp 2) (namesR l rp 3) from by rw [decS, if_pos hc0]]
    have R := hg
    refine awp_draw (.op 0 0 (.op 1 0 (.op 2 0 (.op 3 0 (.op 4 0 (.op 5 0 (.op 6 0 (.op 7 0 (.op 8 0 (.op 9 0 (.op 11 0 (.op 13 0 (.op 10 1 (.op 12 1 (.op 14 1 (.op 15 1 (.op 16 0 (.op 17 0 (.op 18 2 .nil))))))))))))))))))) Tryz.mixed (by kernel_rfl) ?_
    iterate 12 (refine dR_S o_ (by rfl) (by rfl) v_ ?_)
    refine dR_X o_ (by rfl) (by rfl) (AOp_use (by rfl) (by rfl) (.inr ⟨by rfl, by rfl, by rfl⟩) g_ va_ (names_c hg hm hn) ?_); rintro _ _ ⟨rfl, rfl⟩; refine ⟨sub_, ?_⟩
    refine dR_X o_ (by rfl) (by rfl) (AOp_use (by rfl) (by rfl) (.inr ⟨by rfl, by rfl, by rfl⟩) g_ va_ (names_c hg hm hn) ?_); rintro _ _ ⟨rfl, rfl⟩; refine ⟨sub_, ?_⟩
    refine dR_X o_ (by rfl) (by rfl) (AOp_use (by rfl) (by rfl) (.inr ⟨by rfl, by rfl, by rfl⟩) g_ va_ (names_c hg hm hn) ?_); rintro _ _ ⟨rfl, rfl⟩; refine ⟨sub_, ?_⟩
    refine dR_X o_ (by rfl) (by rfl) (AOp_use (by rfl) (by rfl) (.inr ⟨by rfl, by rfl, by rfl⟩) g_ va_ (qRead_c (p := p) hn (by omega) (by omega) (by omega)) ?_); rintro _ _ ⟨rfl, rfl⟩; refine ⟨sub_, ?_⟩
    iterate 2 (refine dR_S o_ (by rfl) (by rfl) v_ ?_)
    refine dR_store o_ (by rfl) (by rfl) (by rfl) v_ v_ h_ g_ rfl g_ c_ (by rfl) le_ v_ ?_
    refine dR_nil ?_
    refine aEnd_nor (σ' := σ.set g (.cells (rdC p l m w (readQ p l (namesR l rp 1) (namesR l rp 2) (namesR l rp 3))))) v_ sub_ ?_
    exact ⟨rfl, rfl⟩
  · replace hc0 := nm_ hc0
    rw [show decS p l rp st = st from by rw [decS, if_neg hc0], Store.set_self hg]
    refine awp_skip ?_
    refine aEnd_nor v_ (Store.Wk.refl _) ?_
    exact ⟨rfl, rfl⟩
theorem state36_c {g m : Nat} {p : Prp} {l : List Ch} {w : Obj'} {st : Int} {σ : Store} (hg : σ.heap g = some (.cells (rdC p l m w st))) : ACalls Tryz.prog 15 [.ref g 0] σ fun v σ' => v = vInt st ∧ σ = σ' := by
  refine ACalls_of Tryz.func15 rfl Tryz.ntmps15 (congrArg Array.toList Tryz.results15) (by simp only [List.length_cons, List.length_nil]; decide) ?_; simp only [envOf_cons, envOf_nil, Nat.reduceAdd]
  refine awp_seq ?_
  have R := hg
  refine awp_region (by kernel_rfl) ?_
  (refine aL_S rfl rfl v_ ?_)
  refine aL_nil ?_
  refine awp_seq ?_
  refine awp_seq ?_
  have R := hg
  refine awp_region (by kernel_rfl) ?_
  iterate 2 (refine aL_S rfl rfl v_ ?_)
  refine aL_nil ?_
  refine awp_cond v_ (fun hc1 => ?_) (fun hc1 => ?_)
  · replace hc1 := nm_ hc1
    cases hc1
  · replace hc1 := nm_ hc1
    refine awp_skip ?_
    refine awp_seq ?_
    have R := hg
    refine awp_region (by kernel_rfl) ?_
    iterate 5 (refine aL_S rfl rfl v_ ?_)
    refine aL_nil ?_
    refine awp_ret ?_
    refine aEnd_ret (σ' := σ) v_ sub_ ?_
    exact ⟨rfl, rfl⟩
theorem told_c {g m : Nat} {p : Prp} {l : List Ch} {w : Obj'} {st : Int} {σ : Store} (hg : σ.heap g = some (.cells (rdC p l m w st))) (hw : ObjSm w) : ACalls Tryz.prog 21 [.ref g 0] σ fun v σ' => v = .sl 5 ((if st = 1 then answerS w p.sev else []).map sSib) false ∧ σ = σ' := by
  refine ACalls_of Tryz.func21 rfl Tryz.ntmps21 (congrArg Array.toList Tryz.results21) (by simp only [List.length_cons, List.length_nil]; decide) ?_; simp only [envOf_cons, envOf_nil, Nat.reduceAdd]
  refine awp_seq ?_
  have R := hg
  refine awp_region (by kernel_rfl) ?_
  (refine aL_S rfl rfl v_ ?_)
  refine aL_nil ?_
  refine awp_seq ?_
  refine awp_seq ?_
  have R := hg
  refine awp_region (by kernel_rfl) ?_
  (refine aL_S rfl rfl v_ ?_)
  refine aL_X rfl rfl (AOp_use rfl rfl (.inr ⟨rfl, rfl, rfl⟩) g_ va_ (state36_c hg) ?_); rintro _ _ ⟨rfl, rfl⟩
  (refine aL_S rfl rfl v_ ?_)
  refine aL_nil ?_
  refine awp_cond v_ (fun hc1 => ?_) (fun hc1 => ?_)
  · replace hc1 := nm_ hc1
    refine awp_seq ?_
    have R := hg
    refine awp_region (by kernel_rfl) ?_
    (refine aL_S rfl rfl v_ ?_)
    refine aL_nil ?_
    refine awp_ret ?_
    rw [if_neg hc1]
    exact aEnd_retW (v := .sl 5 [] false) (v' := vNil) va_ (.nil _ _) sub_ ⟨rfl, rfl⟩
  · replace hc1 := nm_ hc1
    refine awp_skip ?_
    refine awp_seq ?_
    have R := hg
    refine awp_draw (.op 0 0 (.op 1 0 (.op 2 0 (.op 3 0 (.op 4 0 (.op 5 0 (.op 6 0 (.op 7 0 (.op 8 0 (.op 9 1 (.op 10 0 .nil))))))))))) Tryz.mixed (by kernel_rfl) ?_
    iterate 9 (refine dR_S o_ (by rfl) (by rfl) v_ ?_)
    refine dR_X o_ (by rfl) (by rfl) (AOp_use (by rfl) (by rfl) (.inr ⟨by rfl, by rfl, by rfl⟩) g_ va_ (answer_c (o := w) (sev := p.sev) hw) ?_); rintro _ _ ⟨rfl, rfl⟩; refine ⟨sub_, ?_⟩
    (refine dR_S o_ (by rfl) (by rfl) v_ ?_)
    refine dR_nil ?_
    refine awp_ret ?_
    refine aEnd_ret (σ' := σ) v_ sub_ ?_
    exact ⟨by rw [if_pos hc1], rfl⟩
theorem open1_c {g m o : Nat} {p : Prp} {l : List Ch} {w : Obj'} {st : Int} {rp : List Rp} {x : Ch} {σ : Store} (ho : σ.heap o = some (.cells [.ref g 0])) (hg : σ.heap g = some (.cells (rdC p l m w st))) (hm : σ.heap m = some (.map (kvP rp))) :
    ACalls Tryz.prog 73 [sCh x, .ref o 0] σ fun v σ' => v = vB (decide (kindP rp x.node = 0)) ∧ σ = σ' := by
  refine ACalls_of Tryz.func73 rfl Tryz.ntmps73 (congrArg Array.toList Tryz.results73) (by simp only [List.length_cons, List.length_nil]; decide) ?_; simp only [envOf_cons, envOf_nil, Nat.reduceAdd]
  refine awp_seq ?_
  refine awp_region (by kernel_rfl) ?_
  refine aL_box rfl rfl rfl v_ rfl g_ fun o2 ho2 => ?_
  repeat (rw [none_set_iff] at ho2; obtain ⟨_, ho2⟩ := ho2)
  (refine aL_S rfl rfl v_ ?_)
  refine aL_nil ?_
  skip
  have n1 := ne_of_heap ho ho2; have n2 := ne_of_heap hg ho2; have n3 := ne_of_heap hm ho2
  obtain ⟨a, b, hlk, _, _, _, _⟩ := look_P (σ := σ.set o2 (.cells [vStr x.node, vB x.prim])) (o := m) (R := rp) (by rw [Store.set_ne _ _ n3]; exact hm) x.node
  have hok : (σ.set o2 (.cells (sCh x).cells)).heap o = some (.cells [.ref g 0]) := by rw [Store.set_ne _ _ n1]; exact ho
  have hgk : (σ.set o2 (.cells (sCh x).cells)).heap g = some (.cells (rdC p l m w st)) := by rw [Store.set_ne _ _ n2]; exact hg
  refine awp_seq ?_
  have R := And.intro ho (And.intro hg hlk)
  refine awp_draw (.op 0 0 (.op 1 0 (.op 2 0 (.op 3 0 (.op 4 0 (.op 5 0 (.op 6 0 (.op 7 0 (.op 8 0 (.op 9 0 .nil)))))))))) Tryz.mixed (by kernel_rfl) ?_
  iterate 10 (refine dR_S o_ (by rfl) (by rfl) v_ ?_)
  refine dR_nil ?_
  refine awp_ret ?_
  refine aEnd_ret (σ' := σ) v_ sub_ ?_
  exact ⟨rfl, rfl⟩
end Go.Proofs.YtbcgkbdacijoiaaGreat
end

section
set_option linter.all false
set_option maxRecDepth 100000
namespace Go.Proofs.YtbcgkbdacijoiaaGreat
open Go.Ab
theorem idxCh_c {F : Nat} {caps : List AVal} {f : Ch → Bool} {l : List Ch} {t : Bool} {σ : Store} (hF : isGo Tryz.prog F = true) (hc : ∀ x : Ch, ACalls Tryz.prog F (sCh x :: caps) σ fun v σ' => v = vB (f x) ∧ σ = σ') (hn : l.length ≤ 1000000) :
    ACalls Tryz.prog 141 [.sl 2 (l.map sCh) t, fnV F caps] σ fun v σ' => (∃ r, v = vInt r ∧ decide (0 ≤ r) = l.any f) ∧ σ = σ' := by
  refine ACalls_of Tryz.func141 rfl Tryz.ntmps141 (congrArg Array.toList Tryz.results141) (by simp only [List.length_cons, List.length_nil]; decide) ?_; simp only [envOf_cons, envOf_nil, Nat.reduceAdd]
  refine awp_seq ?_
  refine awp_region (by kernel_rfl) ?_
  (refine aL_S rfl rfl v_ ?_)
  refine aL_nil ?_
  refine awp_seq ?_
  refine awp_seq ?_
  refine awp_region (by kernel_rfl) ?_
  iterate 3 (refine aL_S rfl rfl v_ ?_)
  refine aL_nil ?_
  refine awp_block ?_
  refine awp_loop_env (ι := Nat) (fun k => l.length - k) (fun k => k ≤ l.length ∧ (l.take k).any f = false) (fun k => [(0, .sl 2 (l.map sCh) t), (1, fnV F caps), (7, vInt l.length), (8, vInt k)]) (fun k => σ) 0 ?_ ?_ ?_ ?_
  · exact ⟨Nat.zero_le _, rfl⟩
  · exact cv_
  · exact sub_
  rintro k ⟨hk, ha⟩
  simp only [envL_cons, envL_nil]
  refine awp_seq ?_
  refine awp_region (by kernel_rfl) ?_
  (refine aL_S rfl rfl v_ ?_)
  refine aL_nil ?_
  refine awp_seq ?_
  refine awp_cond v_ (fun hc2 => ?_) (fun hc2 => ?_)
  · replace hc2 := nm_ hc2
    refine awp_skip ?_
    refine awp_seq ?_
    refine awp_block ?_
    refine awp_seq ?_
    refine awp_region (by kernel_rfl) ?_
    iterate 2 (refine aL_S rfl rfl v_ ?_)
    refine aL_nil ?_
    refine awp_seq ?_
    obtain ⟨x, hx⟩ := get_some (l := l) (k := k) (by omega)
    have R := hx
    refine awp_region (by kernel_rfl) ?_
    iterate 5 (refine aL_S rfl rfl v_ ?_)
    refine aL_X rfl rfl (AOp_use rfl rfl (.inl v_) g_ va_ (hc x) ?_); rintro _ _ ⟨rfl, rfl⟩
    refine aL_nil ?_
    refine awp_cond v_ (fun hc4 => ?_) (fun hc4 => ?_)
    · replace hc4 := nm_ hc4
      refine awp_seq ?_
      refine awp_region (by kernel_rfl) ?_
      iterate 2 (refine aL_S rfl rfl v_ ?_)
      refine aL_nil ?_
      refine awp_ret ?_
      refine aEnd_ret (σ' := σ) v_ sub_ ?_
      exact ⟨⟨(k : Int), rfl, by rw [decide_eq_true (by omega)]; exact (any_yes hx hc4).symm⟩, rfl⟩
    · replace hc4 := nm_ hc4
      refine awp_skip ?_
      refine awp_region (by kernel_rfl) ?_
      iterate 2 (refine aL_S rfl rfl v_ ?_)
      refine aL_nil ?_
      refine aNext (ι := Nat) (i := k) (k + 1) ?_ ?_ ?_ ?_
      · omega
      · exact ⟨by omega, any_next hx hc4 ha⟩
      · exact cv_
      · exact sub_
  · replace hc2 := nm_ hc2
    refine awp_exit ?_
    refine aThen_exit ?_
    refine aThen_exit ?_
    refine aBlock_hit ?_
    refine awp_seq ?_
    refine awp_region (by kernel_rfl) ?_
    (refine aL_S rfl rfl v_ ?_)
    refine aL_nil ?_
    refine awp_ret ?_
    refine aEnd_ret (σ' := σ) v_ sub_ ?_
    exact ⟨⟨-1, rfl, (any_end (by omega) ha).symm⟩, rfl⟩
theorem contCh_c {F : Nat} {caps : List AVal} {f : Ch → Bool} {l : List Ch} {t : Bool} {σ : Store} (hF : isGo Tryz.prog F = true) (hc : ∀ x : Ch, ACalls Tryz.prog F (sCh x :: caps) σ fun v σ' => v = vB (f x) ∧ σ = σ') (hn : l.length ≤ 1000000) :
    ACalls Tryz.prog 72 [.sl 2 (l.map sCh) t, fnV F caps] σ fun v σ' => v = vB (l.any f) ∧ σ = σ' := by
  refine ACalls_of Tryz.func72 rfl Tryz.ntmps72 (congrArg Array.toList Tryz.results72) (by simp only [List.length_cons, List.length_nil]; decide) ?_; simp only [envOf_cons, envOf_nil, Nat.reduceAdd]
  refine awp_seq ?_
  refine awp_region (by kernel_rfl) ?_
  (refine aL_S rfl rfl v_ ?_)
  refine aL_nil ?_
  refine awp_seq ?_
  refine awp_region (by kernel_rfl) ?_
  iterate 2 (refine aL_S rfl rfl v_ ?_)
  refine aL_X rfl rfl (AOp_use rfl rfl (.inr ⟨rfl, rfl, rfl⟩) g_ va_ (idxCh_c hF hc hn) ?_); rintro _ _ ⟨⟨r, rfl, hr⟩, rfl⟩
  iterate 2 (refine aL_S rfl rfl v_ ?_)
  refine aL_nil ?_
  refine awp_ret ?_
  refine aEnd_ret (σ' := σ) v_ sub_ ?_
  exact ⟨by rw [← hr], rfl⟩
theorem open36_c {g m : Nat} {p : Prp} {l : List Ch} {w : Obj'} {st : Int} {rp : List Rp} {σ : Store} (hg : σ.heap g = some (.cells (rdC p l m w st))) (hm : σ.heap m = some (.map (kvP rp))) (hn : l.length ≤ 1000000) :
    ACalls Tryz.prog 26 [.ref g 0] σ fun v σ' => v = vB (l.any fun x => decide (kindP rp x.node = 0)) ∧ σ = σ' := by
  refine ACalls_of Tryz.func26 rfl Tryz.ntmps26 (congrArg Array.toList Tryz.results26) (by simp only [List.length_cons, List.length_nil]; decide) ?_; simp only [envOf_cons, envOf_nil, Nat.reduceAdd]
  refine awp_seq ?_
  refine awp_region (by kernel_rfl) ?_
  refine aL_box rfl rfl rfl v_ rfl g_ fun o1 ho1 => ?_
  repeat (rw [none_set_iff] at ho1; obtain ⟨_, ho1⟩ := ho1)
  (refine aL_S rfl rfl v_ ?_)
  refine aL_nil ?_
  skip
  have n1 := ne_of_heap hg ho1; have n2 := ne_of_heap hm ho1
  have hgk : (σ.set o1 (.cells [.ref g 0])).heap g = some (.cells (rdC p l m w st)) := by rw [Store.set_ne _ _ n1]; exact hg
  have hmk : (σ.set o1 (.cells [.ref g 0])).heap m = some (.map (kvP rp)) := by rw [Store.set_ne _ _ n2]; exact hm
  refine awp_seq ?_
  have R := hg
  refine awp_region (by kernel_rfl) ?_
  iterate 3 (refine aL_S rfl rfl v_ ?_)
  refine aL_SY (wantedA_yes rfl rfl v_ (by rfl)) rfl v_ ?_
  refine aL_SY (wantedA_yes rfl rfl v_ (by rfl)) rfl v_ ?_
  refine aL_SY (wantedA_yes rfl rfl v_ (by rfl)) rfl v_ ?_
  refine aL_SY (wantedA_yes rfl rfl v_ (by rfl)) rfl v_ ?_
  refine aL_SY (wantedA_yes rfl rfl v_ (by rfl)) rfl v_ ?_
  refine aL_XY (wantedA_yes rfl rfl v_ (by rfl)) rfl (AOp_use rfl rfl (.inr ⟨rfl, rfl, rfl⟩) g_ va_ (contCh_c (f := fun x => decide (kindP rp x.node = 0)) (by kernel_rfl) (fun x => open1_c (Store.set_get ..) hgk hmk) hn) ?_); rintro _ _ ⟨rfl, rfl⟩
  iterate 2 (refine aL_S rfl rfl v_ ?_)
  refine aL_nil ?_
  refine awp_ret ?_
  refine aEnd_ret (σ' := σ) v_ sub_ ?_
  exact ⟨rfl, rfl⟩
theorem ans1_c {o : Nat} {s : ByteArray} {x : Ch} {σ : Store} (ho : σ.heap o = some (.cells [vStr s])) : ACalls Tryz.prog 195 [sCh x, .ref o 0] σ fun v σ' => v = vB (decide (x.node = s)) ∧ σ = σ' := by
  refine ACalls_of Tryz.func195 rfl Tryz.ntmps195 (congrArg Array.toList Tryz.results195) (by simp only [List.length_cons, List.length_nil]; decide) ?_; simp only [envOf_cons, envOf_nil, Nat.reduceAdd]
  refine awp_seq ?_
  refine awp_region (by kernel_rfl) ?_
  refine aL_box rfl rfl rfl v_ rfl g_ fun o2 ho2 => ?_
  repeat (rw [none_set_iff] at ho2; obtain ⟨_, ho2⟩ := ho2)
  (refine aL_S rfl rfl v_ ?_)
  refine aL_nil ?_
  have n1 := ne_of_heap ho ho2
  refine awp_seq ?_
  have R := ho
  refine awp_region (by kernel_rfl) ?_
  iterate 5 (refine aL_S rfl rfl v_ ?_)
  refine aL_nil ?_
  refine awp_ret ?_
  refine aEnd_ret (σ' := σ) v_ sub_ ?_
  exact ⟨rfl, rfl⟩
theorem whole_c {g m : Nat} {p : Prp} {l : List Ch} {w : Obj'} {st : Int} {σ : Store} (hg : σ.heap g = some (.cells (rdC p l m w st))) (hw : ObjSm w) : ACalls Tryz.prog 19 [.ref g 0] σ fun v σ' => v = sObj (mergeS w ⟨[], []⟩).1 ∧ σ = σ' := by
  have h0 : ObjSm ⟨[], []⟩ := ⟨(fun y hy => (List.not_mem_nil hy).elim), (fun y hy => (List.not_mem_nil hy).elim), by show 0 ≤ _; decide, by show 0 ≤ _; decide⟩
  refine ACalls_of Tryz.func19 rfl Tryz.ntmps19 (congrArg Array.toList Tryz.results19) (by simp only [List.length_cons, List.length_nil]; decide) ?_; simp only [envOf_cons, envOf_nil, Nat.reduceAdd]
  refine awp_seq ?_
  refine awp_region (by kernel_rfl) ?_
  refine aL_alloc rfl rfl rfl g_ gl_ fun o2 ho2 => ?_
  repeat (rw [none_set_iff] at ho2; obtain ⟨_, ho2⟩ := ho2)
  refine aL_nil ?_
  have n2 := ne_of_heap hg ho2
  refine awp_seq ?_
  refine awp_seq ?_
  refine awp_region (by kernel_rfl) ?_
  iterate 2 (refine aL_S rfl rfl v_ ?_)
  refine aL_nil ?_
  refine awp_cond v_ (fun hc1 => ?_) (fun hc1 => ?_)
  · replace hc1 := nm_ hc1
    cases hc1
  · replace hc1 := nm_ hc1
    refine awp_skip ?_
    refine awp_seq ?_
    have R := hg
    refine awp_region (by kernel_rfl) ?_
    iterate 5 (refine aL_S rfl rfl v_ ?_)
    refine aL_X rfl rfl (AOp_use rfl rfl (.inr ⟨rfl, rfl, rfl⟩) g_ va_ (ACalls.wkA (args := [sObj w, .agg [vNil, vNil]]) (merge_c hw h0) rfl (fun j hj hj' => by match j, hj with | 0, _ => exact .refl _ | 1, _ => exact .agg _ _ rfl (fun n hn hn' => by match n, hn with | 0, _ => exact .nil _ _ | 1, _ => exact .nil _ _))) ?_); rintro _ _ ⟨rfl, rfl⟩
    iterate 3 (refine aL_S rfl rfl v_ ?_)
    refine aL_alloc rfl rfl rfl g_ gl_ fun o3 ho3 => ?_
    repeat (rw [none_set_iff] at ho3; obtain ⟨_, ho3⟩ := ho3)
    refine aL_store rfl rfl rfl v_ v_ h_ g_ rfl g_ c_ (by rfl) le_ v_ ?_
    (refine aL_S rfl rfl v_ ?_)
    refine aL_nil ?_
    refine awp_seq ?_
    refine awp_region (by kernel_rfl) ?_
    (refine aL_S rfl rfl v_ ?_)
    refine aL_store rfl rfl rfl v_ v_ h_ g_ rfl g_ c_ (by rfl) le_ v_ ?_
    refine aL_nil ?_
    refine awp_ret ?_
    refine aEnd_ret (σ' := σ) v_ sub_ ?_
    exact ⟨rfl, rfl⟩
end Go.Proofs.YtbcgkbdacijoiaaGreat
end

section
set_option linter.all false
set_option maxRecDepth 100000
namespace Go.Proofs.YtbcgkbdacijoiaaGreat
open Go.Ab
/-- what is kept of an answer: its kind, its object, the whole -/
def ansK (w : Obj') (k : Int) (o : Obj') : Int := if k = 1 then (if (mergeS w o).2 = 0 then 1 else 3) else k
def ansO (w : Obj') (k : Int) (o : Obj') : Obj' := if k = 1 then (if (mergeS w o).2 = 0 then o else ⟨[], []⟩) else o
def ansW (w : Obj') (k : Int) (o : Obj') : Obj' := if k = 1 then (if (mergeS w o).2 = 0 then (mergeS w o).1 else w) else w
structure Rs where
  rp : List Rp
  w : Obj'
  st : Int
def freshP (l : List Ch) (s : Rs) (n : ByteArray) : Bool := decide (kindP s.rp n = 0) && l.any fun x => decide (x.node = n)
def ansS (p : Prp) (l : List Ch) (s : Rs) (n : ByteArray) (k : Int) (o : Obj') : Rs := if freshP l s n then ⟨s.rp ++ [⟨n, ansK s.w k o, ansO s.w k o⟩], ansW s.w k o, decS p l (s.rp ++ [⟨n, ansK s.w k o, ansO s.w k o⟩]) s.st⟩ else s
theorem find_of {rp : List Rp} {n : ByteArray} (hk : ∀ r ∈ rp, r.kind ≠ 0) (h : kindP rp n = 0) : findP rp n = none := by
  unfold kindP at h
  cases hf : findP rp n with
  | none => rfl
  | some r => rw [hf] at h; exact absurd h (hk r (List.mem_of_find?_eq_some hf))
theorem subg_wk {σ S : Store} {m g : Nat} (h : SubX [g] σ S) (A B : AObj) : ((σ.set m A).set g B).Wk ((S.set m A).set g B) := Store.Sub.wk ⟨fun i x hx => by
  by_cases h1 : i = g
  · subst h1; rw [Store.set_get] at hx ⊢; exact hx
  · rw [Store.set_ne _ _ h1] at hx ⊢
    by_cases h2 : i = m
    · subst h2; rw [Store.set_get] at hx ⊢; exact hx
    · rw [Store.set_ne _ _ h2] at hx ⊢
      exact h.1 i x (by simpa using h1) hx, fun t n ht => h.2 t n ht⟩
@[reducible] def rpC (k : Int) (o : Obj') : List AVal := [vInt k, .sl 3 (o.ctx.map sSeen) false, .sl 5 (o.sibs.map sSib) false]
set_option maxHeartbeats 4000000 in
theorem ans_c {g m : Nat} {p : Prp} {l : List Ch} {s : Rs} {n : ByteArray} {k : Int} {o : Obj'} {σ : Store} (hg : σ.heap g = some (.cells (rdC p l m s.w s.st))) (hm : σ.heap m = some (.map (kvP s.rp))) (hn : l.length ≤ 1000000) (hw : ObjSm s.w) (ho : ObjSm o) (hk : ∀ r ∈ s.rp, r.kind ≠ 0) :
    ACalls Tryz.prog 118 [.ref g 0, vStr n, .agg (rpC k o)] σ fun v σ' => v = .tup [] ∧ σ' = (σ.set m (.map (kvP (ansS p l s n k o).rp))).set g (.cells (rdC p l m (ansS p l s n k o).w (ansS p l s n k o).st)) := by
  have hgm : g ≠ m := fun hh => by rw [hh, hm] at hg; cases hg
  refine ACalls_of Tryz.func118 rfl Tryz.ntmps118 (congrArg Array.toList Tryz.results118) (by simp only [List.length_cons, List.length_nil]; decide) ?_; simp only [envOf_cons, envOf_nil, Nat.reduceAdd]
  refine awp_seq ?_
  refine awp_region (by kernel_rfl) ?_
  refine aL_box rfl rfl rfl v_ rfl g_ fun o4 ho4 => ?_
  repeat (rw [none_set_iff] at ho4; obtain ⟨_, ho4⟩ := ho4)
  refine aL_box rfl rfl rfl v_ rfl g_ fun o5 ho5 => ?_
  repeat (rw [none_set_iff] at ho5; obtain ⟨_, ho5⟩ := ho5)
  refine aL_nil ?_
  skip
  have n45 : o4 ≠ o5 := by first | assumption | exact Ne.symm (by assumption)
  have g4 := ne_of_heap hg ho4; have g5 := ne_of_heap hg ho5; have m4 := ne_of_heap hm ho4; have m5 := ne_of_heap hm ho5
  refine awp_gen fun S0 hS => ?_
  have fg : S0.heap g = some (.cells (rdC p l m s.w s.st)) := by rw [hS, Store.set_ne _ _ g5, Store.set_ne _ _ g4]; exact hg
  have fm : S0.heap m = some (.map (kvP s.rp)) := by rw [hS, Store.set_ne _ _ m5, Store.set_ne _ _ m4]; exact hm
  have f4 : S0.heap o4 = some (.cells [vStr n]) := by rw [hS, Store.set_ne _ _ n45]; exact Store.set_get ..
  have f5 : S0.heap o5 = some (.cells (rpC k o)) := by rw [hS]; exact Store.set_get ..
  have hs0 : SubX [] σ S0 := by rw [hS]; exact subx_new ho5 (subx_new ho4 subx_refl)
  obtain ⟨a, b, hlk, _, _, _, _⟩ := look_P fm n
  clear hS
  refine awp_seq ?_
  refine awp_seq ?_
  have R := And.intro fg (And.intro fm (And.intro f4 hlk))
  refine awp_draw (.op 0 0 (.op 1 0 (.op 2 0 (.op 3 0 (.op 4 0 (.op 5 0 (.op 6 0 (.op 7 0 (.op 8 0 (.op 9 0 (.op 10 0 (.op 11 0 (.op 12 0 (.op 13 0 (.op 14 0 (.op 15 0 (.op 16 0 (.op 17 0 (.op 18 0 .nil))))))))))))))))))) Tryz.mixed (by kernel_rfl) ?_
  iterate 3 (refine dR_S o_ (by rfl) (by rfl) v_ ?_)
  refine dR_GF o_ (by rfl) (by rfl) v_ (by rfl) vg_ ?_
  refine dR_GF o_ (by rfl) (by rfl) v_ (by rfl) vg_ ?_
  refine dR_GF o_ (by rfl) (by rfl) v_ (by rfl) vg_ ?_
  refine dR_GF o_ (by rfl) (by rfl) v_ (by rfl) vg_ ?_
  refine dR_GF o_ (by rfl) (by rfl) v_ (by rfl) vg_ ?_
  iterate 2 (refine dR_S o_ (by rfl) (by rfl) v_ ?_)
  refine dR_GF o_ (by rfl) (by rfl) v_ (by rfl) vg_ ?_
  refine dR_GF o_ (by rfl) (by rfl) v_ (by rfl) vg_ ?_
  refine dR_GF o_ (by rfl) (by rfl) v_ (by rfl) vg_ ?_
  refine dR_GF o_ (by rfl) (by rfl) v_ (by rfl) vg_ ?_
  refine dR_GF o_ (by rfl) (by rfl) v_ (by rfl) vg_ ?_
  refine dR_GF o_ (by rfl) (by rfl) v_ (by rfl) vg_ ?_
  refine dR_GF o_ (by rfl) (by rfl) v_ (by rfl) vg_ ?_
  refine dR_GF o_ (by rfl) (by rfl) v_ (by rfl) vg_ ?_
  (refine dR_S o_ (by rfl) (by rfl) v_ ?_)
  refine dR_nil ?_
  refine awp_cond v_ (fun hc1 => ?_) (fun hc1 => ?_)
  · replace hc1 := nm_ hc1
    refine awp_ret ?_
    rw [show ansS p l s n k o = s from by rw [ansS, freshP, decide_eq_false (by simpa using hc1), Bool.false_and, if_neg (by simp)], Store.set_self hm, Store.set_self hg]
    exact aEnd_ret va_ (subx_start hs0) ⟨rfl, rfl⟩
  · replace hc1 := nm_ hc1
    refine awp_skip ?_
    refine awp_seq ?_
    refine awp_seq ?_
    have R := fg
    refine awp_region (by kernel_rfl) ?_
    iterate 5 (refine aL_S rfl rfl v_ ?_)
    refine aL_X rfl rfl (AOp_use rfl rfl (.inr ⟨rfl, rfl, rfl⟩) g_ va_ (contCh_c (f := fun x => decide (x.node = n)) (by kernel_rfl) (fun x => ans1_c f4) hn) ?_); rintro _ _ ⟨rfl, rfl⟩
    (refine aL_S rfl rfl v_ ?_)
    refine aL_nil ?_
    refine awp_cond v_ (fun hc2 => ?_) (fun hc2 => ?_)
    · replace hc2 := nm_ hc2
      refine awp_ret ?_
      rw [show ansS p l s n k o = s from by rw [ansS, freshP, hc2, Bool.and_false, if_neg (by simp)], Store.set_self hm, Store.set_self hg]
      exact aEnd_ret va_ (subx_start hs0) ⟨rfl, rfl⟩
    · replace hc2 := nm_ hc2
      have hfr : freshP l s n = true := by rw [freshP, hc2, decide_eq_true hc1]; rfl
      have hfn := find_of hk hc1
      refine awp_skip ?_
      refine awp_seq_mid (ι := Store × Obj' × Int × Obj') (fun ⟨S, w2, k2, o2⟩ => SubX [g] σ S ∧ S.heap g = some (.cells (rdC p l m w2 s.st)) ∧ S.heap m = some (.map (kvP s.rp)) ∧ S.heap o4 = some (.cells [vStr n]) ∧ S.heap o5 = some (.cells (rpC k2 o2)) ∧ k2 = ansK s.w k o ∧ o2 = ansO s.w k o ∧ w2 = ansW s.w k o) (fun ⟨S, w2, k2, o2⟩ => [(0, .ref g 0), (4, .ref o4 0), (5, .ref o5 0)]) (fun ⟨S, w2, k2, o2⟩ => S) ?_ ?_
      · refine awp_seq ?_
        have R := f5
        refine awp_region (by kernel_rfl) ?_
        iterate 3 (refine aL_S rfl rfl v_ ?_)
        refine aL_nil ?_
        refine awp_cond v_ (fun hc3 => ?_) (fun hc3 => ?_)
        · replace hc3 := nm_ hc3
          refine awp_seq_mid (ι := Store × Nat) (fun ⟨S1, p6⟩ => SubX [] σ S1 ∧ S1.heap g = some (.cells (rdC p l m s.w s.st)) ∧ S1.heap m = some (.map (kvP s.rp)) ∧ S1.heap o4 = some (.cells [vStr n]) ∧ S1.heap o5 = some (.cells (rpC k o)) ∧ S1.heap p6 = some (.cells (sObj (mergeS s.w o).1).cells)) (fun ⟨S1, p6⟩ => [(0, .ref g 0), (4, .ref o4 0), (5, .ref o5 0), (6, .ref p6 0), (7, vInt (mergeS s.w o).2)]) (fun ⟨S1, p6⟩ => S1) ?_ ?_
          · have R := And.intro fg f5
            refine awp_draw (.op 0 0 (.op 1 0 (.op 2 0 (.op 3 0 (.op 4 0 (.op 5 0 (.alt 6 1 (.op 7 0 (.op 8 0 (.op 9 0 (.op 10 1 (.op 11 2 (.op 12 0 .nil)))))) (.op 10 1 (.op 6 1 (.op 7 0 (.op 8 0 (.op 9 0 (.op 11 2 (.op 12 0 .nil)))))))))))))) Tryz.mixed (by kernel_rfl) ?_
            iterate 6 (refine dR_S o_ (by rfl) (by rfl) v_ ?_)
            refine dR_alt ?_ ?_
            · refine dR_X o_ (by rfl) (by rfl) (AOp_use (by rfl) (by rfl) (.inr ⟨by rfl, by rfl, by rfl⟩) g_ va_ (merge_c hw ho) ?_); rintro _ _ ⟨rfl, rfl⟩; refine ⟨sub_, ?_⟩
              iterate 3 (refine dR_S o_ (by rfl) (by rfl) v_ ?_)
              refine dR_alloc o_ (by rfl) (by rfl) (by rfl) g_ gl_ sub_ fun o6 ho6 => ?_
              repeat (rw [none_set_iff] at ho6; obtain ⟨_, ho6⟩ := ho6)
              refine dR_store o_ (by rfl) (by rfl) (by rfl) v_ v_ h_ g_ rfl g_ c_ (by rfl) le_ v_ ?_
              (refine dR_S o_ (by rfl) (by rfl) v_ ?_)
              refine dR_nil ?_
              skip
              refine q_gen fun S1 hS => ?_
              have gg := ne_of_heap fg ho6; have gm := ne_of_heap fm ho6; have g4' := ne_of_heap f4 ho6; have g5' := ne_of_heap f5 ho6
              have n6 : σ.heap o6 = none := SubX.noObj hs0 ho6 (by simp)
              have hj : SubX [] σ S1 ∧ S1.heap g = some (.cells (rdC p l m s.w s.st)) ∧ S1.heap m = some (.map (kvP s.rp)) ∧ S1.heap o4 = some (.cells [vStr n]) ∧ S1.heap o5 = some (.cells (rpC k o)) ∧ S1.heap o6 = some (.cells (sObj (mergeS s.w o).1).cells) := by
                rw [hS]
                exact ⟨subx_new n6 (subx_new n6 hs0), by rw [Store.set_ne _ _ gg, Store.set_ne _ _ gg]; exact fg, by rw [Store.set_ne _ _ gm, Store.set_ne _ _ gm]; exact fm, by rw [Store.set_ne _ _ g4', Store.set_ne _ _ g4']; exact f4, by rw [Store.set_ne _ _ g5', Store.set_ne _ _ g5']; exact f5, Store.set_get ..⟩
              clear hS
              refine ⟨(S1, o6), ?_, ?_, ?_⟩
              · exact hj
              · exact cv_
              · exact Store.Wk.refl _
            refine dR_alloc o_ (by rfl) (by rfl) (by rfl) g_ gl_ sub_ fun o6 ho6 => ?_
            repeat (rw [none_set_iff] at ho6; obtain ⟨_, ho6⟩ := ho6)
            refine dR_X o_ (by rfl) (by rfl) (AOp_use (by rfl) (by rfl) (.inr ⟨by rfl, by rfl, by rfl⟩) g_ va_ (merge_c hw ho) ?_); rintro _ _ ⟨rfl, rfl⟩; refine ⟨sub_, ?_⟩
            iterate 3 (refine dR_S o_ (by rfl) (by rfl) v_ ?_)
            refine dR_store o_ (by rfl) (by rfl) (by rfl) v_ v_ h_ g_ rfl g_ c_ (by rfl) le_ v_ ?_
            (refine dR_S o_ (by rfl) (by rfl) v_ ?_)
            refine dR_nil ?_
            skip
            refine q_gen fun S1 hS => ?_
            have gg := ne_of_heap fg ho6; have gm := ne_of_heap fm ho6; have g4' := ne_of_heap f4 ho6; have g5' := ne_of_heap f5 ho6
            have n6 : σ.heap o6 = none := SubX.noObj hs0 ho6 (by simp)
            have hj : SubX [] σ S1 ∧ S1.heap g = some (.cells (rdC p l m s.w s.st)) ∧ S1.heap m = some (.map (kvP s.rp)) ∧ S1.heap o4 = some (.cells [vStr n]) ∧ S1.heap o5 = some (.cells (rpC k o)) ∧ S1.heap o6 = some (.cells (sObj (mergeS s.w o).1).cells) := by
              rw [hS]
              exact ⟨subx_new n6 (subx_new n6 hs0), by rw [Store.set_ne _ _ gg, Store.set_ne _ _ gg]; exact fg, by rw [Store.set_ne _ _ gm, Store.set_ne _ _ gm]; exact fm, by rw [Store.set_ne _ _ g4', Store.set_ne _ _ g4']; exact f4, by rw [Store.set_ne _ _ g5', Store.set_ne _ _ g5']; exact f5, Store.set_get ..⟩
            clear hS
            refine ⟨(S1, o6), ?_, ?_, ?_⟩
            · exact hj
            · exact cv_
            · exact Store.Wk.refl _
          · rintro ⟨S1, p6⟩ ⟨hs1, fg, fm, f4, f5, f6⟩
            simp only [envL_cons, envL_nil]
            refine awp_seq ?_
            refine awp_region (by kernel_rfl) ?_
            iterate 2 (refine aL_S rfl rfl v_ ?_)
            refine aL_nil ?_
            refine awp_cond v_ (fun hc5 => ?_) (fun hc5 => ?_)
            · replace hc5 := nm_ hc5
              have R := And.intro fg f6
              refine awp_region (by kernel_rfl) ?_
              iterate 4 (refine aL_S rfl rfl v_ ?_)
              refine aL_store rfl rfl rfl v_ v_ h_ g_ rfl g_ c_ (by rfl) le_ v_ ?_
              refine aL_nil ?_
              skip
              refine q_gen fun S2 hS => ?_
              have hj : SubX [g] σ S2 ∧ S2.heap g = some (.cells (rdC p l m (mergeS s.w o).1 s.st)) ∧ S2.heap m = some (.map (kvP s.rp)) ∧ S2.heap o4 = some (.cells [vStr n]) ∧ S2.heap o5 = some (.cells (rpC k o)) := by
                rw [hS]
                exact ⟨subx_in (.head _) ⟨fun i x _ hx => hs1.1 i x (by simp) hx, hs1.2⟩, Store.set_get .., by rw [Store.set_ne _ _ (Ne.symm hgm)]; exact fm, by rw [Store.set_ne _ _ (Ne.symm g4)]; exact f4, by rw [Store.set_ne _ _ (Ne.symm g5)]; exact f5⟩
              clear hS
              refine ⟨(S2, (mergeS s.w o).1, k, o), ?_, ?_, ?_⟩
              · exact ⟨hj.1, hj.2.1, hj.2.2.1, hj.2.2.2.1, hj.2.2.2.2, by rw [ansK, if_pos hc3, if_pos hc5]; exact hc3, by rw [ansO, if_pos hc3, if_pos hc5], by rw [ansW, if_pos hc3, if_pos hc5]⟩
              · exact cv_
              · exact Store.Wk.refl _
            · replace hc5 := nm_ hc5
              have R := f5
              refine awp_region (by kernel_rfl) ?_
              (refine aL_S rfl rfl v_ ?_)
              refine aL_store rfl rfl rfl v_ v_ h_ g_ rfl g_ c_ (by rfl) le_ v_ ?_
              refine aL_nil ?_
              skip
              refine q_gen fun S3 hS => ?_
              have h5 : S3.heap o5 = some (.cells [vInt 3, vNil, vNil]) := by rw [hS]; exact Store.set_get ..
              have hj : SubX [g] σ (S3.set o5 (.cells (rpC 3 ⟨[], []⟩))) ∧ (S3.set o5 (.cells (rpC 3 ⟨[], []⟩))).heap g = some (.cells (rdC p l m s.w s.st)) ∧ (S3.set o5 (.cells (rpC 3 ⟨[], []⟩))).heap m = some (.map (kvP s.rp)) ∧ (S3.set o5 (.cells (rpC 3 ⟨[], []⟩))).heap o4 = some (.cells [vStr n]) ∧ (S3.set o5 (.cells (rpC 3 ⟨[], []⟩))).heap o5 = some (.cells (rpC 3 ⟨[], []⟩)) := by
                rw [hS]
                refine ⟨⟨fun i x _ hx => ?_, hs1.2⟩, ?_, ?_, ?_, Store.set_get ..⟩
                · rw [Store.set_ne _ _ (fun hh => by rw [hh, ho5] at hx; cases hx), Store.set_ne _ _ (fun hh => by rw [hh, ho5] at hx; cases hx)]; exact hs1.1 i x (by simp) hx
                · rw [Store.set_ne _ _ g5, Store.set_ne _ _ g5]; exact fg
                · rw [Store.set_ne _ _ m5, Store.set_ne _ _ m5]; exact fm
                · rw [Store.set_ne _ _ n45, Store.set_ne _ _ n45]; exact f4
              have hwk := Store.wkCells (cs' := rpC 3 ⟨[], []⟩) h5 ⟨.refl _, .nil _ _, .nil _ _, trivial⟩
              clear hS
              refine ⟨(S3.set o5 (.cells (rpC 3 ⟨[], []⟩)), s.w, 3, ⟨[], []⟩), ?_, ?_, ?_⟩
              · exact ⟨hj.1, hj.2.1, hj.2.2.1, hj.2.2.2.1, hj.2.2.2.2, by rw [ansK, if_pos hc3, if_neg hc5], by rw [ansO, if_pos hc3, if_neg hc5], by rw [ansW, if_pos hc3, if_neg hc5]⟩
              · exact cv_
              · exact hwk
        · replace hc3 := nm_ hc3
          refine awp_skip ?_
          refine ⟨(S0, s.w, k, o), ?_, ?_, ?_⟩
          · exact ⟨⟨fun i x _ hx => hs0.1 i x (by simp) hx, hs0.2⟩, fg, fm, f4, f5, by rw [ansK, if_neg hc3], by rw [ansO, if_neg hc3], by rw [ansW, if_neg hc3]⟩
          · exact cv_
          · exact Store.Wk.refl _
      · rintro ⟨S, w2, k2, o2⟩ ⟨hs, fg, fm, f4, f5, hk2, ho2, hw2⟩
        simp only [envL_cons, envL_nil]
        refine awp_seq ?_
        have R := And.intro fg (And.intro fm (And.intro f4 f5))
        refine awp_draw (.op 0 0 (.op 1 0 (.op 2 0 (.op 3 0 (.op 4 0 (.op 5 0 (.op 6 2 .nil))))))) Tryz.mixed (by kernel_rfl) ?_
        iterate 6 (refine dR_S o_ (by rfl) (by rfl) v_ ?_)
        refine dR_T0 o_ (by rfl) (by rfl) (AOp_mapUpdate (by rfl) g_ g_ v_ h_ v_ key_ (by exact kvP_keys s.rp) v_ ?_)
        refine dR_nil ?_
        skip
        refine awp_gen fun S4 hS => ?_
        have hput : kvPut (.string n) (.agg [vInt k2, .sl 3 (o2.ctx.map sSeen) false, .sl 5 (o2.sibs.map sSib) false]) (kvP s.rp) = kvP (s.rp ++ [⟨n, k2, o2⟩]) := kvPut_P (r := ⟨n, k2, o2⟩) hfn
        rw [hput] at hS
        have gg : S4.heap g = some (.cells (rdC p l m w2 s.st)) := by rw [hS, Store.set_ne _ _ hgm]; exact fg
        have gmm : S4.heap m = some (.map (kvP (s.rp ++ [⟨n, k2, o2⟩]))) := by rw [hS]; exact Store.set_get ..
        refine awp_region (by kernel_rfl) ?_
        (refine aL_S rfl rfl v_ ?_)
        refine aL_X rfl rfl (AOp_use rfl rfl (.inr ⟨rfl, rfl, rfl⟩) g_ va_ (decide_c gg gmm hn) ?_); rintro _ τ9 ⟨rfl, rfl⟩
        refine aL_nil ?_
        rw [show ansS p l s n k o = ⟨s.rp ++ [⟨n, k2, o2⟩], w2, decS p l (s.rp ++ [⟨n, k2, o2⟩]) s.st⟩ from by rw [ansS, if_pos hfr, ← hk2, ← ho2, ← hw2]]
        exact aEnd_nor va_ (by rw [hS]; exact subg_wk hs _ _) ⟨rfl, rfl⟩
end Go.Proofs.YtbcgkbdacijoiaaGreat
end

section
set_option linter.all false
set_option maxRecDepth 100000
namespace Go.Proofs.YtbcgkbdacijoiaaGreat
open Go.Ab
def o00 : Obj' := ⟨[], []⟩
theorem o00_sm : ObjSm o00 := ⟨(fun y hy => (List.not_mem_nil hy).elim), (fun y hy => (List.not_mem_nil hy).elim), by show 0 ≤ _; decide, by show 0 ≤ _; decide⟩
theorem found_c {g m : Nat} {p : Prp} {l : List Ch} {s : Rs} {n : ByteArray} {o : Obj'} {σ : Store} (hg : σ.heap g = some (.cells (rdC p l m s.w s.st))) (hm : σ.heap m = some (.map (kvP s.rp))) (hn : l.length ≤ 1000000) (hw : ObjSm s.w) (ho : ObjSm o) (hk : ∀ r ∈ s.rp, r.kind ≠ 0) :
    ACalls Tryz.prog 56 [.ref g 0, vStr n, sObj o] σ fun v σ' => v = .tup [] ∧ σ' = (σ.set m (.map (kvP (ansS p l s n 1 o).rp))).set g (.cells (rdC p l m (ansS p l s n 1 o).w (ansS p l s n 1 o).st)) := by
  refine ACalls_of Tryz.func56 rfl Tryz.ntmps56 (congrArg Array.toList Tryz.results56) (by simp only [List.length_cons, List.length_nil]; decide) ?_; simp only [envOf_cons, envOf_nil, Nat.reduceAdd]
  refine awp_seq ?_
  refine awp_region (by kernel_rfl) ?_
  refine aL_box rfl rfl rfl v_ rfl g_ fun o5 ho5 => ?_
  repeat (rw [none_set_iff] at ho5; obtain ⟨_, ho5⟩ := ho5)
  refine aL_nil ?_
  skip
  have n1 := ne_of_heap hg ho5; have n2 := ne_of_heap hm ho5
  have hgk : (σ.set o5 (.cells (sObj o).cells)).heap g = some (.cells (rdC p l m s.w s.st)) := by rw [Store.set_ne _ _ n1]; exact hg
  have hmk : (σ.set o5 (.cells (sObj o).cells)).heap m = some (.map (kvP s.rp)) := by rw [Store.set_ne _ _ n2]; exact hm
  refine awp_region (by kernel_rfl) ?_
  iterate 4 (refine aL_S rfl rfl v_ ?_)
  refine aL_X rfl rfl (AOp_use rfl rfl (.inr ⟨rfl, rfl, rfl⟩) g_ va_ (ans_c (s := s) (n := n) (k := 1) (o := o) hgk hmk hn hw ho hk) ?_); rintro _ τ1 ⟨rfl, rfl⟩
  refine aL_nil ?_
  exact aEnd_nor va_ (subg_wk (subx_new ho5 subx_refl) _ _) ⟨rfl, rfl⟩
theorem missing_c {g m : Nat} {p : Prp} {l : List Ch} {s : Rs} {n : ByteArray} {σ : Store} (hg : σ.heap g = some (.cells (rdC p l m s.w s.st))) (hm : σ.heap m = some (.map (kvP s.rp))) (hn : l.length ≤ 1000000) (hw : ObjSm s.w) (hk : ∀ r ∈ s.rp, r.kind ≠ 0) :
    ACalls Tryz.prog 57 [.ref g 0, vStr n] σ fun v σ' => v = .tup [] ∧ σ' = (σ.set m (.map (kvP (ansS p l s n 2 o00).rp))).set g (.cells (rdC p l m (ansS p l s n 2 o00).w (ansS p l s n 2 o00).st)) := by
  refine ACalls_of Tryz.func57 rfl Tryz.ntmps57 (congrArg Array.toList Tryz.results57) (by simp only [List.length_cons, List.length_nil]; decide) ?_; simp only [envOf_cons, envOf_nil, Nat.reduceAdd]
  refine awp_region (by kernel_rfl) ?_
  iterate 3 (refine aL_S rfl rfl v_ ?_)
  refine aL_X rfl rfl (AOp_use rfl rfl (.inr ⟨rfl, rfl, rfl⟩) g_ va_ (ACalls.wkA (args := [.ref g 0, vStr n, .agg [vInt 2, vNil, vNil]]) (ans_c (s := s) (n := n) (k := 2) (o := o00) hg hm hn hw o00_sm hk) rfl (fun j hj hj' => by match j, hj with | 0, _ => exact .refl _ | 1, _ => exact .refl _ | 2, _ => exact .agg _ _ rfl (fun i hi hi' => by match i, hi with | 0, _ => exact .refl _ | 1, _ => exact .nil _ _ | 2, _ => exact .nil _ _))) ?_); rintro _ τ1 ⟨rfl, rfl⟩
  refine aL_nil ?_
  exact aEnd_nor va_ (Store.Wk.refl _) ⟨rfl, rfl⟩
theorem refused36_c {g m : Nat} {p : Prp} {l : List Ch} {s : Rs} {n : ByteArray} {σ : Store} (hg : σ.heap g = some (.cells (rdC p l m s.w s.st))) (hm : σ.heap m = some (.map (kvP s.rp))) (hn : l.length ≤ 1000000) (hw : ObjSm s.w) (hk : ∀ r ∈ s.rp, r.kind ≠ 0) :
    ACalls Tryz.prog 58 [.ref g 0, vStr n] σ fun v σ' => v = .tup [] ∧ σ' = (σ.set m (.map (kvP (ansS p l s n 3 o00).rp))).set g (.cells (rdC p l m (ansS p l s n 3 o00).w (ansS p l s n 3 o00).st)) := by
  refine ACalls_of Tryz.func58 rfl Tryz.ntmps58 (congrArg Array.toList Tryz.results58) (by simp only [List.length_cons, List.length_nil]; decide) ?_; simp only [envOf_cons, envOf_nil, Nat.reduceAdd]
  refine awp_region (by kernel_rfl) ?_
  iterate 3 (refine aL_S rfl rfl v_ ?_)
  refine aL_X rfl rfl (AOp_use rfl rfl (.inr ⟨rfl, rfl, rfl⟩) g_ va_ (ACalls.wkA (args := [.ref g 0, vStr n, .agg [vInt 3, vNil, vNil]]) (ans_c (s := s) (n := n) (k := 3) (o := o00) hg hm hn hw o00_sm hk) rfl (fun j hj hj' => by match j, hj with | 0, _ => exact .refl _ | 1, _ => exact .refl _ | 2, _ => exact .agg _ _ rfl (fun i hi hi' => by match i, hi with | 0, _ => exact .refl _ | 1, _ => exact .nil _ _ | 2, _ => exact .nil _ _))) ?_); rintro _ τ1 ⟨rfl, rfl⟩
  refine aL_nil ?_
  exact aEnd_nor va_ (Store.Wk.refl _) ⟨rfl, rfl⟩
structure Ac where
  kind : Int
  node : ByteArray
  obj : Obj'
@[reducible] def sAc (a : Ac) : AVal := .agg [vInt a.kind, vStr a.node, .sl 3 (a.obj.ctx.map sSeen) false, .sl 5 (a.obj.sibs.map sSib) false]
def doR (p : Prp) (l : List Ch) (s : Rs) (a : Ac) : Rs := if a.kind = 1 then ansS p l s a.node 1 a.obj else if a.kind = 2 then ansS p l s a.node 2 o00 else ansS p l s a.node 3 o00
theorem do36_c {g m : Nat} {p : Prp} {l : List Ch} {s : Rs} {a : Ac} {σ : Store} (hg : σ.heap g = some (.cells (rdC p l m s.w s.st))) (hm : σ.heap m = some (.map (kvP s.rp))) (hn : l.length ≤ 1000000) (hw : ObjSm s.w) (ho : ObjSm a.obj) (hk : ∀ r ∈ s.rp, r.kind ≠ 0) :
    ACalls Tryz.prog 16 [.ref g 0, sAc a] σ fun v σ' => v = .tup [] ∧ σ' = (σ.set m (.map (kvP (doR p l s a).rp))).set g (.cells (rdC p l m (doR p l s a).w (doR p l s a).st)) := by
  refine ACalls_of Tryz.func16 rfl Tryz.ntmps16 (congrArg Array.toList Tryz.results16) (by simp only [List.length_cons, List.length_nil]; decide) ?_; simp only [envOf_cons, envOf_nil, Nat.reduceAdd]
  refine awp_seq ?_
  refine awp_region (by kernel_rfl) ?_
  refine aL_box rfl rfl rfl v_ rfl g_ fun o3 ho3 => ?_
  repeat (rw [none_set_iff] at ho3; obtain ⟨_, ho3⟩ := ho3)
  refine aL_nil ?_
  skip
  have n1 := ne_of_heap hg ho3; have n2 := ne_of_heap hm ho3
  have hgk : (σ.set o3 (.cells (sAc a).cells)).heap g = some (.cells (rdC p l m s.w s.st)) := by rw [Store.set_ne _ _ n1]; exact hg
  have hmk : (σ.set o3 (.cells (sAc a).cells)).heap m = some (.map (kvP s.rp)) := by rw [Store.set_ne _ _ n2]; exact hm
  refine awp_seq ?_
  refine awp_region (by kernel_rfl) ?_
  iterate 2 (refine aL_S rfl rfl v_ ?_)
  refine aL_nil ?_
  refine awp_block ?_
  refine awp_seq ?_
  refine awp_region (by kernel_rfl) ?_
  iterate 2 (refine aL_S rfl rfl v_ ?_)
  refine aL_nil ?_
  refine awp_cond v_ (fun hc3 => ?_) (fun hc3 => ?_)
  · replace hc3 := nm_ hc3
    refine awp_region (by kernel_rfl) ?_
    iterate 5 (refine aL_S rfl rfl v_ ?_)
    refine aL_X rfl rfl (AOp_use rfl rfl (.inr ⟨rfl, rfl, rfl⟩) g_ va_ (found_c (s := s) (n := a.node) (o := a.obj) hgk hmk hn hw ho hk) ?_); rintro _ τ1 ⟨rfl, rfl⟩
    refine aL_nil ?_
    rw [show doR p l s a = ansS p l s a.node 1 a.obj from by rw [doR, if_pos hc3]]
    exact aEnd_nor va_ (subg_wk (subx_new ho3 subx_refl) _ _) ⟨rfl, rfl⟩
  · replace hc3 := nm_ hc3
    refine awp_seq ?_
    refine awp_region (by kernel_rfl) ?_
    iterate 2 (refine aL_S rfl rfl v_ ?_)
    refine aL_nil ?_
    refine awp_cond v_ (fun hc5 => ?_) (fun hc5 => ?_)
    · replace hc5 := nm_ hc5
      refine awp_region (by kernel_rfl) ?_
      iterate 3 (refine aL_S rfl rfl v_ ?_)
      refine aL_X rfl rfl (AOp_use rfl rfl (.inr ⟨rfl, rfl, rfl⟩) g_ va_ (missing_c (s := s) (n := a.node) hgk hmk hn hw hk) ?_); rintro _ τ2 ⟨rfl, rfl⟩
      refine aL_nil ?_
      rw [show doR p l s a = ansS p l s a.node 2 o00 from by rw [doR, if_neg hc3, if_pos hc5]]
      exact aEnd_nor va_ (subg_wk (subx_new ho3 subx_refl) _ _) ⟨rfl, rfl⟩
    · replace hc5 := nm_ hc5
      refine awp_region (by kernel_rfl) ?_
      iterate 3 (refine aL_S rfl rfl v_ ?_)
      refine aL_X rfl rfl (AOp_use rfl rfl (.inr ⟨rfl, rfl, rfl⟩) g_ va_ (refused36_c (s := s) (n := a.node) hgk hmk hn hw hk) ?_); rintro _ τ3 ⟨rfl, rfl⟩
      refine aL_nil ?_
      rw [show doR p l s a = ansS p l s a.node 3 o00 from by rw [doR, if_neg hc3, if_neg hc5]]
      exact aEnd_nor va_ (subg_wk (subx_new ho3 subx_refl) _ _) ⟨rfl, rfl⟩
end Go.Proofs.YtbcgkbdacijoiaaGreat
end

section
set_option linter.all false
set_option maxRecDepth 100000
namespace Go.Proofs.YtbcgkbdacijoiaaGreat
open Go.Ab
theorem own_wk {σ S : Store} {tk k : Nat} {p : TypeId × Nat} (hs : SubX [] σ S) (htk : σ.tok tk = none) : (σ.newTok none k p).Wk (S.newTok (some tk) k p) := Store.Sub.wk ⟨fun i x hx => hs.1 i x (by simp) hx, fun t n ht => by
  simp only [Store.newTok] at ht ⊢
  by_cases h1 : t = k
  · rw [if_pos h1] at ht ⊢; exact ht
  · rw [if_neg h1] at ht ⊢
    simp only [reduceCtorEq, if_false] at ht
    rw [if_neg (fun hh => by cases hh; rw [htk] at ht; cases ht)]
    exact hs.2 t n ht⟩
abbrev pS1 : TypeId × Nat := (9, 1)
def badP (rp : List Rp) (w : Obj') (s : ByteArray) : Bool := decide (kindP rp s = 2) || (decide (kindP rp s = 1) && !decide (objP rp s = w))
def stStep (rp : List Rp) (w : Obj') (out : List ByteArray) (x : Ch) : List ByteArray := if badP rp w x.node && !hasQ out x.node then out ++ [x.node] else out
def staleS (l : List Ch) (rp : List Rp) (w : Obj') : List ByteArray := if (namesR l rp 1).length = 0 then [] else l.foldl (stStep rp w) []
set_option maxHeartbeats 4000000 in
theorem stale_c {g m : Nat} {p : Prp} {l : List Ch} {w : Obj'} {st : Int} {rp : List Rp} {σ : Store} (hg : σ.heap g = some (.cells (rdC p l m w st))) (hm : σ.heap m = some (.map (kvP rp))) (hn : l.length ≤ 100000) (hw : ObjSm w) (ho : ∀ s, ObjSm (objP rp s)) :
    ACalls Tryz.prog 24 [.ref g 0] σ fun v σ' => v = .sl 1 ((staleS l rp w).map vStr) false ∧ σ = σ' := by
  have nl := namesR_len l rp 1
  refine ACalls_of Tryz.func24 rfl Tryz.ntmps24 (congrArg Array.toList Tryz.results24) (by simp only [List.length_cons, List.length_nil]; decide) ?_; simp only [envOf_cons, envOf_nil, Nat.reduceAdd]
  refine awp_seq ?_
  refine awp_region (by kernel_rfl) ?_
  (refine aL_S rfl rfl v_ ?_)
  refine aL_nil ?_
  refine awp_seq ?_
  refine awp_seq ?_
  refine awp_region (by kernel_rfl) ?_
  iterate 3 (refine aL_S rfl rfl v_ ?_)
  refine aL_GF rfl rfl v_ rfl vg_ ?_
  refine aL_GFX rfl rfl v_ rfl (fun hb => AOp_useV (by rfl) (by rfl) (.inr ⟨by rfl, by rfl, by rfl⟩) g_ cg_ (names_c hg hm (by omega))) ?_
  refine aL_GF rfl rfl v_ rfl vg_ ?_
  refine aL_GF rfl rfl v_ rfl vg_ ?_
  (refine aL_S rfl rfl v_ ?_)
  refine aL_nil ?_
  refine awp_cond v_ (fun hc1 => ?_) (fun hc1 => ?_)
  · replace hc1 := nm_ hc1
    refine awp_seq ?_
    refine awp_region (by kernel_rfl) ?_
    (refine aL_S rfl rfl v_ ?_)
    refine aL_nil ?_
    refine awp_ret ?_
    rw [staleS, if_pos (by omega)]
    exact aEnd_retW (v := .sl 1 [] false) (v' := vNil) va_ (.nil _ _) sub_ ⟨rfl, rfl⟩
  · replace hc1 := nm_ hc1
    have h0 : ¬ (namesR l rp 1).length = 0 := by omega
    refine awp_skip ?_
    refine awp_seq ?_
    refine awp_region (by kernel_rfl) ?_
    refine aL_nilOwn 9 1 rfl rfl rfl (by rfl) fun k3 hk3 => ?_
    refine aL_nil ?_
    refine awp_seq ?_
    refine awp_seq ?_
    have R := hg
    refine awp_region (by kernel_rfl) ?_
    iterate 6 (refine aL_S rfl rfl v_ ?_)
    refine aL_nil ?_
    refine awp_block ?_
    refine awp_loop_env (ι := Nat × Nat × List ByteArray) (fun ⟨tk, i, out⟩ => l.length - i) (fun ⟨tk, i, out⟩ => i ≤ l.length ∧ σ.tok tk = none ∧ out = (l.take i).foldl (stStep rp w) [] ∧ out.length ≤ i) (fun ⟨tk, i, out⟩ => [(0, .ref g 0), (3, .own tk 1 (out.map vStr)), (19, .sl 2 (l.map sCh) false), (20, vInt l.length), (21, vInt i)]) (fun ⟨tk, i, out⟩ => (σ.newTok none tk pS1)) (k3, 0, []) ?_ ?_ ?_ ?_
    · exact ⟨Nat.zero_le _, hk3, rfl, Nat.le_refl _⟩
    · exact cv_
    · exact Store.Wk.refl _
    rintro ⟨tk, i, out⟩ ⟨hi, htk, hout, hlen⟩
    simp only [envL_cons, envL_nil]
    refine awp_seq ?_
    refine awp_region (by kernel_rfl) ?_
    (refine aL_S rfl rfl v_ ?_)
    refine aL_nil ?_
    refine awp_seq ?_
    refine awp_cond v_ (fun hc5 => ?_) (fun hc5 => ?_)
    · replace hc5 := nm_ hc5
      refine awp_skip ?_
      refine awp_seq ?_
      refine awp_block ?_
      refine awp_seq ?_
      obtain ⟨x, hx⟩ := get_some (l := l) (k := i) (by omega)
      have R := hx
      refine awp_region (by kernel_rfl) ?_
      iterate 2 (refine aL_S rfl rfl v_ ?_)
      refine aL_alloc rfl rfl rfl g_ gl_ fun o5 ho5 => ?_
      repeat (rw [none_set_iff] at ho5; obtain ⟨_, ho5⟩ := ho5)
      refine aL_store rfl rfl rfl v_ v_ h_ g_ rfl g_ c_ (by rfl) le_ v_ ?_
      refine aL_nil ?_
      skip
      have g5 := ne_of_heap hg ho5; have m5 := ne_of_heap hm ho5
      refine awp_gen fun S0 hS => ?_
      have fg : S0.heap g = some (.cells (rdC p l m w st)) := by rw [hS, Store.set_ne _ _ g5, Store.set_ne _ _ g5]; exact hg
      have fm : S0.heap m = some (.map (kvP rp)) := by rw [hS, Store.set_ne _ _ m5, Store.set_ne _ _ m5]; exact hm
      have f5 : S0.heap o5 = some (.cells [vStr x.node, vB x.prim]) := by rw [hS]; exact Store.set_get ..
      have hsa : SubX [] (σ.newTok none tk pS1) S0 := by rw [hS]; exact subx_new ho5 (subx_new ho5 subx_refl)
      have hsb : SubX [] σ S0 := by rw [hS]; exact subx_new ho5 (subx_new ho5 (subx_newTok htk subx_refl))
      have td : S0.tok tk = some pS1 := by rw [hS]; exact Store.newTok_get ..
      obtain ⟨a, b, hlk, wa, wb, oa, ob⟩ := look_P fm x.node
      clear hS
      refine awp_seq ?_
      have R := And.intro fg (And.intro f5 hlk)
      refine awp_draw (.op 0 0 (.op 1 0 (.op 2 0 (.op 3 0 (.op 4 0 (.op 5 0 (.op 6 0 (.op 7 1 (.op 8 2 .nil))))))))) Tryz.mixed (by kernel_rfl) ?_
      iterate 7 (refine dR_S o_ (by rfl) (by rfl) v_ ?_)
      refine dR_alloc o_ (by rfl) (by rfl) (by rfl) g_ gl_ sub_ fun o6 ho6 => ?_
      repeat (rw [none_set_iff] at ho6; obtain ⟨_, ho6⟩ := ho6)
      refine dR_store o_ (by rfl) (by rfl) (by rfl) v_ v_ h_ g_ rfl g_ (fun c hc => by simp only [List.mem_cons, List.not_mem_nil, or_false] at hc; rcases hc with rfl | rfl | rfl; rfl; exact oa; exact ob) (by rfl) le_ v_ ?_
      refine dR_nil ?_
      skip
      have g6 := ne_of_heap fg ho6; have m6 := ne_of_heap fm ho6; have n56 := ne_of_heap f5 ho6
      have x6 : σ.heap o6 = none := SubX.noObj hsb ho6 (by simp)
      refine awp_wkCells o6 (rpC (kindP rp x.node) (objP rp x.node)) (Store.set_get ..) ⟨.refl _, wa, wb, trivial⟩ ?_
      refine awp_gen fun S1 hS => ?_
      replace fg : S1.heap g = some (.cells (rdC p l m w st)) := by rw [hS, Store.set_ne _ _ g6, Store.set_ne _ _ g6, Store.set_ne _ _ g6]; exact fg
      replace f5 : S1.heap o5 = some (.cells [vStr x.node, vB x.prim]) := by rw [hS, Store.set_ne _ _ n56, Store.set_ne _ _ n56, Store.set_ne _ _ n56]; exact f5
      have f6 : S1.heap o6 = some (.cells (rpC (kindP rp x.node) (objP rp x.node))) := by rw [hS]; exact Store.set_get ..
      replace td : S1.tok tk = some pS1 := by rw [hS]; exact td
      have hs2 : SubX [] (σ.newTok none tk pS1) S1 := by rw [hS]; exact subx_new x6 (subx_new x6 (subx_new x6 hsa))
      have hs : SubX [] σ S1 := by rw [hS]; exact subx_new x6 (subx_new x6 (subx_new x6 hsb))
      clear hS
      refine awp_seq ?_
      have R := And.intro fg f6
      refine awp_draw (.op 0 0 (.op 1 0 (.op 2 0 (.op 3 0 (.op 4 0 (.op 5 0 (.op 6 0 (.op 7 0 (.op 8 0 (.op 9 0 (.op 10 0 (.op 11 0 (.op 12 0 (.op 13 0 (.op 14 1 (.op 15 0 (.op 16 0 (.op 17 0 (.op 18 0 .nil))))))))))))))))))) Tryz.mixed (by kernel_rfl) ?_
      iterate 4 (refine dR_S o_ (by rfl) (by rfl) v_ ?_)
      refine dR_GF o_ (by rfl) (by rfl) v_ (by rfl) vg_ ?_
      refine dR_GF o_ (by rfl) (by rfl) v_ (by rfl) vg_ ?_
      refine dR_GF o_ (by rfl) (by rfl) v_ (by rfl) vg_ ?_
      refine dR_GF o_ (by rfl) (by rfl) v_ (by rfl) vg_ ?_
      refine dR_GGT o_ (by rfl) (by rfl) v_ (by rfl) vg_ ?_
      refine dR_GGT o_ (by rfl) (by rfl) v_ (by rfl) vg_ ?_
      refine dR_GGT o_ (by rfl) (by rfl) v_ (by rfl) vg_ ?_
      refine dR_GGT o_ (by rfl) (by rfl) v_ (by rfl) vg_ ?_
      refine dR_GGT o_ (by rfl) (by rfl) v_ (by rfl) vg_ ?_
      refine dR_GGT o_ (by rfl) (by rfl) v_ (by rfl) vg_ ?_
      refine dR_GGTX o_ (by rfl) (by rfl) v_ (by rfl) sub_ (fun hb => AOp_useV (by rfl) (by rfl) (.inr ⟨by rfl, by rfl, by rfl⟩) g_ cg_ (oSame_c (ho x.node) hw)) ?_
      refine dR_GGT o_ (by rfl) (by rfl) v_ (by rfl) vg_ ?_
      refine dR_GF o_ (by rfl) (by rfl) v_ (by rfl) vg_ ?_
      iterate 2 (refine dR_S o_ (by rfl) (by rfl) v_ ?_)
      refine dR_nil ?_
      refine awp_seq ?_
      have R := f5
      refine awp_region (by kernel_rfl) ?_
      iterate 2 (refine aL_S rfl rfl v_ ?_)
      refine aL_GT rfl rfl v_ rfl vg_ ?_
      refine aL_GT rfl rfl v_ rfl vg_ ?_
      refine aL_GT rfl rfl v_ rfl vg_ ?_
      refine aL_GTX rfl rfl v_ rfl (fun hb => AOp_useV (by rfl) (by rfl) (.inr ⟨by rfl, by rfl, by rfl⟩) g_ cg_ (ACalls.wkA (args := [.own tk 1 (out.map vStr), vStr x.node]) (containsStr_c (l := out) (x := x.node) (t := false) (by omega)) rfl (fun j hj hj' => by match j, hj with | 0, _ => exact .own1 _ _ _ | 1, _ => exact .refl _))) ?_
      refine aL_GT rfl rfl v_ rfl vg_ ?_
      (refine aL_S rfl rfl v_ ?_)
      refine aL_nil ?_
      refine awp_cond v_ (fun hc9 => ?_) (fun hc9 => ?_)
      · replace hc9 := nm_ hc9
        have R := And.intro f5 td
        refine awp_region (by kernel_rfl) ?_
        iterate 3 (refine aL_S rfl rfl v_ ?_)
        refine aL_buildSlice rfl rfl rfl g_ g_ rfl rfl h_ c2_ (by decide) ?_
        refine aL_append rfl rfl rfl g_ g_ v_ h_ v_ c_ (by simp; omega) fun k62 hk62 => ?_
        (refine aL_S rfl rfl v_ ?_)
        refine aL_nil ?_
        refine awp_region (by kernel_rfl) ?_
        iterate 2 (refine aL_S rfl rfl v_ ?_)
        refine aL_nil ?_
        refine aNext (ι := Nat × Nat × List ByteArray) (i := ⟨tk, i, out⟩) (k62, i + 1, out ++ [x.node]) ?_ ?_ ?_ ?_
        · show l.length - (i + 1) < l.length - i; omega
        · exact ⟨by show i + 1 ≤ l.length; omega, SubX.noTok hs hk62, by rw [take_snoc hx, List.foldl_append, ← hout]; show _ = stStep rp w out x; rw [stStep, if_pos (by rw [badP, hasQ, hc9.2]; rcases hc9.1 with h | h; simp [h]; simp [h.1, h.2])], by simp; omega⟩
        · exact cv_
        · exact own_wk hs htk
      · replace hc9 := nm_ hc9
        refine awp_skip ?_
        refine awp_region (by kernel_rfl) ?_
        iterate 2 (refine aL_S rfl rfl v_ ?_)
        refine aL_nil ?_
        refine aNext (ι := Nat × Nat × List ByteArray) (i := ⟨tk, i, out⟩) (tk, i + 1, out) ?_ ?_ ?_ ?_
        · show l.length - (i + 1) < l.length - i; omega
        · exact ⟨by show i + 1 ≤ l.length; omega, htk, by rw [take_snoc hx, List.foldl_append, ← hout]; show _ = stStep rp w out x; rw [stStep, if_neg (by rw [badP]; rcases hc9 with ⟨h1, h2⟩ | h; rcases h2 with h2 | h2 <;> simp [h1, h2]; rw [hasQ, h]; simp)], by show out.length ≤ i + 1; omega⟩
        · exact cv_
        · exact subx_start hs2
    · replace hc5 := nm_ hc5
      refine awp_exit ?_
      refine aThen_exit ?_
      refine aThen_exit ?_
      refine aBlock_hit ?_
      refine awp_seq ?_
      obtain rfl : i = l.length := by omega
      rw [List.take_length] at hout
      refine awp_region (by kernel_rfl) ?_
      iterate 2 (refine aL_S rfl rfl v_ ?_)
      refine aL_nil ?_
      refine awp_ret ?_
      rw [staleS, if_neg h0, ← hout]
      exact aEnd_retW (v := .sl 1 (out.map vStr) false) (v' := .own tk 1 (out.map vStr)) va_ (.own1 _ _ _) sub_ ⟨rfl, rfl⟩
end Go.Proofs.YtbcgkbdacijoiaaGreat
end

section
set_option linter.all false
set_option maxRecDepth 100000
namespace Go.Proofs.YtbcgkbdacijoiaaGreat
open Go.Ab
theorem szCh (l : List Ch) : ∀ y ∈ l.map sCh, y.cells.length = 2 := lits_sz sCh (fun x => rfl) l
theorem clone0H_c {t : Bool} {σ : Store} : ACalls Tryz.prog 59 [.sl 2 [] t] σ fun v σ' => v = .sl 2 [] false ∧ σ = σ' := by
  refine ACalls_of Tryz.func59 rfl Tryz.ntmps59 (congrArg Array.toList Tryz.results59) (by simp only [List.length_cons, List.length_nil]; decide) ?_; simp only [envOf_cons, envOf_nil, Nat.reduceAdd]
  refine awp_seq ?_
  refine awp_region (by kernel_rfl) ?_
  (refine aL_S rfl rfl v_ ?_)
  refine aL_nil ?_
  refine awp_seq ?_
  refine awp_seq ?_
  refine awp_region (by kernel_rfl) ?_
  (refine aL_S rfl rfl v_ ?_)
  refine aL_X rfl rfl (AOp_eqNil0 rfl g_ va_ va_ fun b => ?_)
  refine aL_nil ?_
  refine awp_cond v_ (fun hc1 => ?_) (fun hc1 => ?_)
  · replace hc1 := nm_ hc1
    refine awp_seq ?_
    refine awp_region (by kernel_rfl) ?_
    (refine aL_S rfl rfl v_ ?_)
    refine aL_nil ?_
    refine awp_ret ?_
    exact aEnd_retW (v := .sl 2 [] false) (v' := vNil) va_ (.nil _ _) sub_ ⟨rfl, rfl⟩
  · replace hc1 := nm_ hc1
    refine awp_skip ?_
    refine awp_seq ?_
    refine awp_region (by kernel_rfl) ?_
    refine aL_buildSlice rfl rfl rfl g_ g_ rfl rfl h_ c2_ (by decide) ?_
    (refine aL_S rfl rfl v_ ?_)
    refine aL_X rfl rfl (AOp_append00 rfl g_ g_ va_ va_ ?_)
    (refine aL_S rfl rfl v_ ?_)
    refine aL_nil ?_
    refine awp_ret ?_
    refine aEnd_ret (σ' := σ) v_ sub_ ?_
    exact ⟨rfl, rfl⟩
theorem clone1H_c {L : List Ch} {t : Bool} {σ : Store} (h0 : L ≠ []) (hl : L.length ≤ 1000000) : ACalls Tryz.prog 59 [.sl 2 (L.map sCh) t] σ fun v σ' => CBp σ σ' 2 (L.map sCh) v := by
  have hne : L.map sCh ≠ [] := by simpa using h0
  refine ACalls_of Tryz.func59 rfl Tryz.ntmps59 (congrArg Array.toList Tryz.results59) (by simp only [List.length_cons, List.length_nil]; decide) ?_; simp only [envOf_cons, envOf_nil, Nat.reduceAdd]
  refine awp_seq ?_
  refine awp_region (by kernel_rfl) ?_
  (refine aL_S rfl rfl v_ ?_)
  refine aL_nil ?_
  refine awp_seq ?_
  refine awp_seq ?_
  refine awp_region (by kernel_rfl) ?_
  (refine aL_S rfl rfl v_ ?_)
  refine aL_X rfl rfl (AOp_eqNil rfl g_ v_ (by exact hne) va_ ?_)
  refine aL_nil ?_
  refine awp_cond v_ (fun hc1 => ?_) (fun hc1 => ?_)
  · replace hc1 := nm_ hc1
    cases hc1
  · replace hc1 := nm_ hc1
    refine awp_skip ?_
    refine awp_seq ?_
    refine awp_region (by kernel_rfl) ?_
    refine aL_buildSlice rfl rfl rfl g_ g_ rfl rfl h_ c2_ (by decide) ?_
    (refine aL_S rfl rfl v_ ?_)
    refine aL_X rfl rfl (AOp_copyM rfl g_ g_ va_ v_ (by exact hne) (by simp; omega) fun o7 ho7 => ?_)
    (refine aL_S rfl rfl v_ ?_)
    refine aL_nil ?_
    refine awp_ret ?_
    refine aEnd_ret v_ (Store.Wk.refl _) ?_
    exact .inr ⟨o7, ho7, by rw [List.length_map], rfl⟩
theorem cloneH_c {L : List Ch} {t : Bool} {σ : Store} (hl : L.length ≤ 1000000) : ACalls Tryz.prog 59 [.sl 2 (L.map sCh) t] σ fun v σ' => v = .sl 2 (L.map sCh) false ∧ σ = σ' := by
  by_cases h : L = []
  · subst h; exact clone0H_c
  · exact ACalls.frozen (clone1H_c h hl) (szCh L)
set_option maxHeartbeats 2000000 in
theorem rNew36_c {p : Prp} {l : List Ch} {t : Bool} {σ : Store} (hn : l.length ≤ 1000000) : ACalls Tryz.prog 13 [.agg (cPrp p), .sl 2 (l.map sCh) t] σ fun v σ' => ∃ m g, σ.heap m = none ∧ σ.heap g = none ∧ g ≠ m ∧ v = .ref g 0 ∧ σ' = (σ.set m (.map (kvP []))).set g (.cells (rdC p l m o00 (decS p l [] 0))) := by
  refine ACalls_of Tryz.func13 rfl Tryz.ntmps13 (congrArg Array.toList Tryz.results13) (by simp only [List.length_cons, List.length_nil]; decide) ?_; simp only [envOf_cons, envOf_nil, Nat.reduceAdd]
  refine awp_seq ?_
  refine awp_region (by kernel_rfl) ?_
  refine aL_box rfl rfl rfl v_ rfl g_ fun o2 ho2 => ?_
  repeat (rw [none_set_iff] at ho2; obtain ⟨_, ho2⟩ := ho2)
  (refine aL_S rfl rfl v_ ?_)
  refine aL_nil ?_
  refine awp_seq_mid (ι := Nat × Nat) (fun ⟨m, g⟩ => σ.heap m = none ∧ σ.heap g = none ∧ g ≠ m ∧ g ≠ o2) (fun ⟨m, g⟩ => [(5, .ref g 0)]) (fun ⟨m, g⟩ => (((σ.set o2 (.cells (cPrp p))).set m (.map (kvP []))).set g (.cells (rdC p l m o00 0)))) ?_ ?_
  · refine awp_draw (.op 0 0 (.op 1 0 (.alt 2 1 (.op 3 1 (.op 4 0 (.op 5 1 (.op 6 0 .nil)))) (.op 3 1 (.op 2 1 (.op 4 0 (.op 5 1 (.op 6 0 .nil)))))))) Tryz.mixed (by kernel_rfl) ?_
    iterate 2 (refine dR_S o_ (by rfl) (by rfl) v_ ?_)
    refine dR_alt ?_ ?_
    · refine dR_X o_ (by rfl) (by rfl) (AOp_use (by rfl) (by rfl) (.inr ⟨by rfl, by rfl, by rfl⟩) g_ va_ (cloneH_c hn) ?_); rintro _ _ ⟨rfl, rfl⟩; refine ⟨sub_, ?_⟩
      refine dR_X o_ (by rfl) (by rfl) (AOp_makeMap (by rfl) fun o9 ho9 => ⟨sub_setR sub_ ho9, ?_⟩)
      repeat (rw [none_set_iff] at ho9; obtain ⟨_, ho9⟩ := ho9)
      (refine dR_S o_ (by rfl) (by rfl) v_ ?_)
      refine dR_box o_ (by rfl) (by rfl) (by rfl) v_ rfl g_ sub_ fun o11 ho11 => ?_
      repeat (rw [none_set_iff] at ho11; obtain ⟨_, ho11⟩ := ho11)
      (refine dR_S o_ (by rfl) (by rfl) v_ ?_)
      refine dR_nil ?_
      refine ⟨(o9, o11), ?_, ?_, ?_⟩
      · exact ⟨ho9, ho11, by assumption, by assumption⟩
      · exact cv_
      · exact Store.wkNew ⟨.refl _, .refl _, .refl _, .refl _, .refl _, .refl _, .refl _, .refl _, .refl _, .refl _, .nil _ _, .nil _ _, .refl _, trivial⟩
    refine dR_X o_ (by rfl) (by rfl) (AOp_makeMap (by rfl) fun o9 ho9 => ⟨sub_setR sub_ ho9, ?_⟩)
    repeat (rw [none_set_iff] at ho9; obtain ⟨_, ho9⟩ := ho9)
    refine dR_X o_ (by rfl) (by rfl) (AOp_use (by rfl) (by rfl) (.inr ⟨by rfl, by rfl, by rfl⟩) g_ va_ (cloneH_c hn) ?_); rintro _ _ ⟨rfl, rfl⟩; refine ⟨sub_, ?_⟩
    (refine dR_S o_ (by rfl) (by rfl) v_ ?_)
    refine dR_box o_ (by rfl) (by rfl) (by rfl) v_ rfl g_ sub_ fun o11 ho11 => ?_
    repeat (rw [none_set_iff] at ho11; obtain ⟨_, ho11⟩ := ho11)
    (refine dR_S o_ (by rfl) (by rfl) v_ ?_)
    refine dR_nil ?_
    refine ⟨(o9, o11), ?_, ?_, ?_⟩
    · exact ⟨ho9, ho11, by assumption, by assumption⟩
    · exact cv_
    · exact Store.wkNew ⟨.refl _, .refl _, .refl _, .refl _, .refl _, .refl _, .refl _, .refl _, .refl _, .refl _, .nil _ _, .nil _ _, .refl _, trivial⟩
  · rintro ⟨m, g⟩ ⟨hm, hg, hgm, hg2⟩
    simp only [envL_cons, envL_nil]
    refine awp_seq ?_
    have fg : (((σ.set o2 (.cells (cPrp p))).set m (.map (kvP []))).set g (.cells (rdC p l m o00 0))).heap g = some (.cells (rdC p l m o00 0)) := Store.set_get ..
    have fm : (((σ.set o2 (.cells (cPrp p))).set m (.map (kvP []))).set g (.cells (rdC p l m o00 0))).heap m = some (.map (kvP [])) := by rw [Store.set_ne _ _ (Ne.symm hgm)]; exact Store.set_get ..
    refine awp_region (by kernel_rfl) ?_
    (refine aL_S rfl rfl v_ ?_)
    refine aL_X rfl rfl (AOp_use rfl rfl (.inr ⟨rfl, rfl, rfl⟩) g_ va_ (decide_c fg fm hn) ?_); rintro _ τ1 ⟨rfl, rfl⟩
    refine aL_nil ?_
    refine awp_seq ?_
    refine awp_region (by kernel_rfl) ?_
    iterate 2 (refine aL_S rfl rfl v_ ?_)
    refine aL_nil ?_
    refine awp_ret ?_
    exact aEnd_ret va_ (by rw [Store.set_set]; exact subg_wk (subx_new ho2 subx_refl) _ _) ⟨m, g, hm, hg, hgm, rfl, rfl⟩
end Go.Proofs.YtbcgkbdacijoiaaGreat
end

section
set_option linter.all false
set_option maxRecDepth 100000
namespace Go.Proofs.YtbcgkbdacijoiaaGreat
open Go.Ab
abbrev vNp : AVal := .lit (.pointer none)
theorem ansN_c {n : ByteArray} {k : Int} {a b : AVal} {σ : Store} (ha : a.one = true) (hb : b.one = true) (hsa : a.solid = true) (hsb : b.solid = true) : ACalls Tryz.prog 118 [vNp, vStr n, .agg [vInt k, a, b]] σ fun v σ' => v = .tup [] ∧ σ = σ' := by
  refine ACalls_of Tryz.func118 rfl Tryz.ntmps118 (congrArg Array.toList Tryz.results118) (by simp only [List.length_cons, List.length_nil]; decide) ?_; simp only [envOf_cons, envOf_nil, Nat.reduceAdd]
  refine awp_seq ?_
  refine awp_region (by kernel_rfl) ?_
  refine aL_box rfl rfl rfl v_ rfl g_ fun o4 ho4 => ?_
  repeat (rw [none_set_iff] at ho4; obtain ⟨_, ho4⟩ := ho4)
  refine aL_box rfl rfl rfl v_ rfl g_ fun o5 ho5 => ?_
  repeat (rw [none_set_iff] at ho5; obtain ⟨_, ho5⟩ := ho5)
  refine aL_nil ?_
  refine awp_seq ?_
  refine awp_seq ?_
  refine awp_draw (.op 0 0 (.op 1 0 (.op 2 0 (.op 3 0 (.op 4 0 (.op 5 0 (.op 6 0 (.op 7 0 (.op 8 0 (.op 9 0 (.op 10 0 (.op 11 0 (.op 12 0 (.op 13 0 (.op 14 0 (.op 15 0 (.op 16 0 (.op 17 0 (.op 18 0 .nil))))))))))))))))))) Tryz.mixed (by kernel_rfl) ?_
  iterate 3 (refine dR_S o_ (by rfl) (by rfl) v_ ?_)
  first | refine dR_SN o_ (by rfl) wn_ ?_ | refine dR_GF o_ (by rfl) (by rfl) v_ (by rfl) vg_ ?_
  first | refine dR_SN o_ (by rfl) wn_ ?_ | refine dR_GF o_ (by rfl) (by rfl) v_ (by rfl) vg_ ?_
  first | refine dR_SN o_ (by rfl) wn_ ?_ | refine dR_GF o_ (by rfl) (by rfl) v_ (by rfl) vg_ ?_
  first | refine dR_SN o_ (by rfl) wn_ ?_ | refine dR_GF o_ (by rfl) (by rfl) v_ (by rfl) vg_ ?_
  first | refine dR_SN o_ (by rfl) wn_ ?_ | refine dR_GF o_ (by rfl) (by rfl) v_ (by rfl) vg_ ?_
  iterate 2 (refine dR_S o_ (by rfl) (by rfl) v_ ?_)
  first | refine dR_SN o_ (by rfl) wn_ ?_ | refine dR_GF o_ (by rfl) (by rfl) v_ (by rfl) vg_ ?_
  first | refine dR_SN o_ (by rfl) wn_ ?_ | refine dR_GF o_ (by rfl) (by rfl) v_ (by rfl) vg_ ?_
  first | refine dR_SN o_ (by rfl) wn_ ?_ | refine dR_GF o_ (by rfl) (by rfl) v_ (by rfl) vg_ ?_
  first | refine dR_SN o_ (by rfl) wn_ ?_ | refine dR_GF o_ (by rfl) (by rfl) v_ (by rfl) vg_ ?_
  first | refine dR_SN o_ (by rfl) wn_ ?_ | refine dR_GF o_ (by rfl) (by rfl) v_ (by rfl) vg_ ?_
  first | refine dR_SN o_ (by rfl) wn_ ?_ | refine dR_GF o_ (by rfl) (by rfl) v_ (by rfl) vg_ ?_
  first | refine dR_SN o_ (by rfl) wn_ ?_ | refine dR_GF o_ (by rfl) (by rfl) v_ (by rfl) vg_ ?_
  first | refine dR_SN o_ (by rfl) wn_ ?_ | refine dR_GF o_ (by rfl) (by rfl) v_ (by rfl) vg_ ?_
  (refine dR_S o_ (by rfl) (by rfl) v_ ?_)
  refine dR_nil ?_
  refine awp_cond v_ (fun hc1 => ?_) (fun hc1 => ?_)
  · replace hc1 := nm_ hc1
    refine awp_ret ?_
    refine aEnd_ret (σ' := σ) v_ sub_ ?_
    exact ⟨rfl, rfl⟩
  · replace hc1 := nm_ hc1
    simp at hc1
theorem stateN_c {σ : Store} : ACalls Tryz.prog 15 [vNp] σ fun v σ' => v = vInt 0 ∧ σ = σ' := by
  refine ACalls_of Tryz.func15 rfl Tryz.ntmps15 (congrArg Array.toList Tryz.results15) (by simp only [List.length_cons, List.length_nil]; decide) ?_; simp only [envOf_cons, envOf_nil, Nat.reduceAdd]
  refine awp_seq ?_
  refine awp_region (by kernel_rfl) ?_
  (refine aL_S rfl rfl v_ ?_)
  refine aL_nil ?_
  refine awp_seq ?_
  refine awp_seq ?_
  refine awp_region (by kernel_rfl) ?_
  iterate 2 (refine aL_S rfl rfl v_ ?_)
  refine aL_nil ?_
  refine awp_cond v_ (fun hc1 => ?_) (fun hc1 => ?_)
  · replace hc1 := nm_ hc1
    refine awp_seq ?_
    refine awp_region (by kernel_rfl) ?_
    (refine aL_S rfl rfl v_ ?_)
    refine aL_nil ?_
    refine awp_ret ?_
    refine aEnd_ret (σ' := σ) v_ sub_ ?_
    exact ⟨rfl, rfl⟩
  · replace hc1 := nm_ hc1
    cases hc1
theorem toldN_c {σ : Store} : ACalls Tryz.prog 21 [vNp] σ fun v σ' => v = .sl 5 [] false ∧ σ = σ' := by
  refine ACalls_of Tryz.func21 rfl Tryz.ntmps21 (congrArg Array.toList Tryz.results21) (by simp only [List.length_cons, List.length_nil]; decide) ?_; simp only [envOf_cons, envOf_nil, Nat.reduceAdd]
  refine awp_seq ?_
  refine awp_region (by kernel_rfl) ?_
  (refine aL_S rfl rfl v_ ?_)
  refine aL_nil ?_
  refine awp_seq ?_
  refine awp_seq ?_
  refine awp_region (by kernel_rfl) ?_
  (refine aL_S rfl rfl v_ ?_)
  refine aL_X rfl rfl (AOp_use rfl rfl (.inr ⟨rfl, rfl, rfl⟩) g_ va_ (stateN_c) ?_); rintro _ _ ⟨rfl, rfl⟩
  (refine aL_S rfl rfl v_ ?_)
  refine aL_nil ?_
  refine awp_cond v_ (fun hc1 => ?_) (fun hc1 => ?_)
  · replace hc1 := nm_ hc1
    refine awp_seq ?_
    refine awp_region (by kernel_rfl) ?_
    (refine aL_S rfl rfl v_ ?_)
    refine aL_nil ?_
    refine awp_ret ?_
    exact aEnd_retW (v := .sl 5 [] false) (v' := vNil) va_ (.nil _ _) sub_ ⟨rfl, rfl⟩
  · replace hc1 := nm_ hc1
    simp at hc1
theorem staleN_c {σ : Store} : ACalls Tryz.prog 24 [vNp] σ fun v σ' => v = .sl 1 [] false ∧ σ = σ' := by
  refine ACalls_of Tryz.func24 rfl Tryz.ntmps24 (congrArg Array.toList Tryz.results24) (by simp only [List.length_cons, List.length_nil]; decide) ?_; simp only [envOf_cons, envOf_nil, Nat.reduceAdd]
  refine awp_seq ?_
  refine awp_region (by kernel_rfl) ?_
  (refine aL_S rfl rfl v_ ?_)
  refine aL_nil ?_
  refine awp_seq ?_
  refine awp_seq ?_
  refine awp_region (by kernel_rfl) ?_
  iterate 3 (refine aL_S rfl rfl v_ ?_)
  first | refine aL_SN wn_ rfl ?_ | refine aL_GF rfl rfl v_ rfl vg_ ?_
  first | refine aL_SN wn_ rfl ?_ | refine aL_GFX rfl rfl v_ rfl (fun hb => AOp_useV (by rfl) (by rfl) (.inr ⟨by rfl, by rfl, by rfl⟩) g_ cg_ (namesZ_c)) ?_
  first | refine aL_SN wn_ rfl ?_ | refine aL_GF rfl rfl v_ rfl vg_ ?_
  first | refine aL_SN wn_ rfl ?_ | refine aL_GF rfl rfl v_ rfl vg_ ?_
  (refine aL_S rfl rfl v_ ?_)
  refine aL_nil ?_
  refine awp_cond v_ (fun hc1 => ?_) (fun hc1 => ?_)
  · replace hc1 := nm_ hc1
    refine awp_seq ?_
    refine awp_region (by kernel_rfl) ?_
    (refine aL_S rfl rfl v_ ?_)
    refine aL_nil ?_
    refine awp_ret ?_
    exact aEnd_retW (v := .sl 1 [] false) (v' := vNil) va_ (.nil _ _) sub_ ⟨rfl, rfl⟩
  · replace hc1 := nm_ hc1
    simp at hc1
theorem openN_c {σ : Store} : ACalls Tryz.prog 26 [vNp] σ fun v σ' => v = vB false ∧ σ = σ' := by
  refine ACalls_of Tryz.func26 rfl Tryz.ntmps26 (congrArg Array.toList Tryz.results26) (by simp only [List.length_cons, List.length_nil]; decide) ?_; simp only [envOf_cons, envOf_nil, Nat.reduceAdd]
  refine awp_seq ?_
  refine awp_region (by kernel_rfl) ?_
  refine aL_box rfl rfl rfl v_ rfl g_ fun o1 ho1 => ?_
  repeat (rw [none_set_iff] at ho1; obtain ⟨_, ho1⟩ := ho1)
  (refine aL_S rfl rfl v_ ?_)
  refine aL_nil ?_
  refine awp_seq ?_
  refine awp_region (by kernel_rfl) ?_
  iterate 3 (refine aL_S rfl rfl v_ ?_)
  first | refine aL_SN wn_ rfl ?_ | refine aL_GT rfl rfl v_ rfl vg_ ?_
  first | refine aL_SN wn_ rfl ?_ | refine aL_GT rfl rfl v_ rfl vg_ ?_
  first | refine aL_SN wn_ rfl ?_ | refine aL_GT rfl rfl v_ rfl vg_ ?_
  first | refine aL_SN wn_ rfl ?_ | refine aL_GT rfl rfl v_ rfl vg_ ?_
  first | refine aL_SN wn_ rfl ?_ | refine aL_GT rfl rfl v_ rfl vg_ ?_
  first | refine aL_SN wn_ rfl ?_ | refine aL_GTX rfl rfl v_ rfl (fun hb => AOp_useV (by rfl) (by rfl) (.inr ⟨by rfl, by rfl, by rfl⟩) g_ cg_ (contHZ_c)) ?_
  iterate 2 (refine aL_S rfl rfl v_ ?_)
  refine aL_nil ?_
  refine awp_ret ?_
  refine aEnd_ret (σ' := σ) v_ sub_ ?_
  exact ⟨rfl, rfl⟩
theorem wholeN_c {σ : Store} : ACalls Tryz.prog 19 [vNp] σ fun v σ' => v = .agg [vNil, vNil] ∧ σ = σ' := by
  refine ACalls_of Tryz.func19 rfl Tryz.ntmps19 (congrArg Array.toList Tryz.results19) (by simp only [List.length_cons, List.length_nil]; decide) ?_; simp only [envOf_cons, envOf_nil, Nat.reduceAdd]
  refine awp_seq ?_
  refine awp_region (by kernel_rfl) ?_
  refine aL_alloc rfl rfl rfl g_ gl_ fun o2 ho2 => ?_
  repeat (rw [none_set_iff] at ho2; obtain ⟨_, ho2⟩ := ho2)
  refine aL_nil ?_
  refine awp_seq ?_
  refine awp_seq ?_
  refine awp_region (by kernel_rfl) ?_
  iterate 2 (refine aL_S rfl rfl v_ ?_)
  refine aL_nil ?_
  refine awp_cond v_ (fun hc1 => ?_) (fun hc1 => ?_)
  · replace hc1 := nm_ hc1
    refine awp_seq ?_
    refine awp_region (by kernel_rfl) ?_
    (refine aL_S rfl rfl v_ ?_)
    refine aL_store rfl rfl rfl v_ v_ h_ g_ rfl g_ c_ (by rfl) le_ v_ ?_
    refine aL_nil ?_
    refine awp_ret ?_
    refine aEnd_ret (σ' := σ) v_ sub_ ?_
    exact ⟨rfl, rfl⟩
  · replace hc1 := nm_ hc1
    cases hc1
/-! ### the zero reader -/
abbrev zRd : List AVal := [vInt 0, vInt 0, vInt 0, vInt 0, vInt 0, vB false, vB false, vB false, vNil, .lit (.map none), vNil, vNil, vInt 0]
theorem ansZ_c {g : Nat} {n : ByteArray} {k : Int} {a b : AVal} {σ : Store} (hg : σ.heap g = some (.cells zRd)) (ha : a.one = true) (hb : b.one = true) (hsa : a.solid = true) (hsb : b.solid = true) : ACalls Tryz.prog 118 [.ref g 0, vStr n, .agg [vInt k, a, b]] σ fun v σ' => v = .tup [] ∧ σ = σ' := by
  refine ACalls_of Tryz.func118 rfl Tryz.ntmps118 (congrArg Array.toList Tryz.results118) (by simp only [List.length_cons, List.length_nil]; decide) ?_; simp only [envOf_cons, envOf_nil, Nat.reduceAdd]
  refine awp_seq ?_
  refine awp_region (by kernel_rfl) ?_
  refine aL_box rfl rfl rfl v_ rfl g_ fun o4 ho4 => ?_
  repeat (rw [none_set_iff] at ho4; obtain ⟨_, ho4⟩ := ho4)
  refine aL_box rfl rfl rfl v_ rfl g_ fun o5 ho5 => ?_
  repeat (rw [none_set_iff] at ho5; obtain ⟨_, ho5⟩ := ho5)
  refine aL_nil ?_
  have g4 := ne_of_heap hg ho4
  have g5 := ne_of_heap hg ho5
  refine awp_seq ?_
  refine awp_seq ?_
  have R := hg
  refine awp_draw (.op 0 0 (.op 1 0 (.op 2 0 (.op 3 0 (.op 4 0 (.op 5 0 (.op 6 0 (.op 7 0 (.op 8 0 (.op 9 0 (.op 10 0 (.op 11 0 (.op 12 0 (.op 13 0 (.op 14 0 (.op 15 0 (.op 16 0 (.op 17 0 (.op 18 0 .nil))))))))))))))))))) Tryz.mixed (by kernel_rfl) ?_
  iterate 3 (refine dR_S o_ (by rfl) (by rfl) v_ ?_)
  refine dR_GF o_ (by rfl) (by rfl) v_ (by rfl) vg_ ?_
  refine dR_GF o_ (by rfl) (by rfl) v_ (by rfl) vg_ ?_
  refine dR_GF o_ (by rfl) (by rfl) v_ (by rfl) vg_ ?_
  refine dR_GF o_ (by rfl) (by rfl) v_ (by rfl) vg_ ?_
  refine dR_GF o_ (by rfl) (by rfl) v_ (by rfl) vg_ ?_
  iterate 2 (refine dR_S o_ (by rfl) (by rfl) v_ ?_)
  refine dR_GF o_ (by rfl) (by rfl) v_ (by rfl) vg_ ?_
  refine dR_GF o_ (by rfl) (by rfl) v_ (by rfl) vg_ ?_
  refine dR_GF o_ (by rfl) (by rfl) v_ (by rfl) vg_ ?_
  refine dR_GF o_ (by rfl) (by rfl) v_ (by rfl) vg_ ?_
  refine dR_GF o_ (by rfl) (by rfl) v_ (by rfl) vg_ ?_
  refine dR_GF o_ (by rfl) (by rfl) v_ (by rfl) vg_ ?_
  refine dR_GF o_ (by rfl) (by rfl) v_ (by rfl) vg_ ?_
  refine dR_GF o_ (by rfl) (by rfl) v_ (by rfl) vg_ ?_
  (refine dR_S o_ (by rfl) (by rfl) v_ ?_)
  refine dR_nil ?_
  refine awp_cond v_ (fun hc1 => ?_) (fun hc1 => ?_)
  · replace hc1 := nm_ hc1
    refine awp_ret ?_
    refine aEnd_ret (σ' := σ) v_ sub_ ?_
    exact ⟨rfl, rfl⟩
  · replace hc1 := nm_ hc1
    simp at hc1
theorem stateZ_c {g : Nat} {σ : Store} (hg : σ.heap g = some (.cells zRd)) : ACalls Tryz.prog 15 [.ref g 0] σ fun v σ' => v = vInt 0 ∧ σ = σ' := by
  refine ACalls_of Tryz.func15 rfl Tryz.ntmps15 (congrArg Array.toList Tryz.results15) (by simp only [List.length_cons, List.length_nil]; decide) ?_; simp only [envOf_cons, envOf_nil, Nat.reduceAdd]
  refine awp_seq ?_
  have R := hg
  refine awp_region (by kernel_rfl) ?_
  (refine aL_S rfl rfl v_ ?_)
  refine aL_nil ?_
  refine awp_seq ?_
  refine awp_seq ?_
  have R := hg
  refine awp_region (by kernel_rfl) ?_
  iterate 2 (refine aL_S rfl rfl v_ ?_)
  refine aL_nil ?_
  refine awp_cond v_ (fun hc1 => ?_) (fun hc1 => ?_)
  · replace hc1 := nm_ hc1
    cases hc1
  · replace hc1 := nm_ hc1
    refine awp_skip ?_
    refine awp_seq ?_
    have R := hg
    refine awp_region (by kernel_rfl) ?_
    iterate 5 (refine aL_S rfl rfl v_ ?_)
    refine aL_nil ?_
    refine awp_ret ?_
    refine aEnd_ret (σ' := σ) v_ sub_ ?_
    exact ⟨rfl, rfl⟩
theorem toldZ_c {g : Nat} {σ : Store} (hg : σ.heap g = some (.cells zRd)) : ACalls Tryz.prog 21 [.ref g 0] σ fun v σ' => v = .sl 5 [] false ∧ σ = σ' := by
  refine ACalls_of Tryz.func21 rfl Tryz.ntmps21 (congrArg Array.toList Tryz.results21) (by simp only [List.length_cons, List.length_nil]; decide) ?_; simp only [envOf_cons, envOf_nil, Nat.reduceAdd]
  refine awp_seq ?_
  refine awp_region (by kernel_rfl) ?_
  (refine aL_S rfl rfl v_ ?_)
  refine aL_nil ?_
  refine awp_seq ?_
  refine awp_seq ?_
  refine awp_region (by kernel_rfl) ?_
  (refine aL_S rfl rfl v_ ?_)
  refine aL_X rfl rfl (AOp_use rfl rfl (.inr ⟨rfl, rfl, rfl⟩) g_ va_ (stateZ_c hg) ?_); rintro _ _ ⟨rfl, rfl⟩
  (refine aL_S rfl rfl v_ ?_)
  refine aL_nil ?_
  refine awp_cond v_ (fun hc1 => ?_) (fun hc1 => ?_)
  · replace hc1 := nm_ hc1
    refine awp_seq ?_
    refine awp_region (by kernel_rfl) ?_
    (refine aL_S rfl rfl v_ ?_)
    refine aL_nil ?_
    refine awp_ret ?_
    exact aEnd_retW (v := .sl 5 [] false) (v' := vNil) va_ (.nil _ _) sub_ ⟨rfl, rfl⟩
  · replace hc1 := nm_ hc1
    simp at hc1
theorem wholeZ_c {g : Nat} {σ : Store} (hg : σ.heap g = some (.cells zRd)) : ACalls Tryz.prog 19 [.ref g 0] σ fun v σ' => v = sObj (mergeS o00 o00).1 ∧ σ = σ' := by
  refine ACalls_of Tryz.func19 rfl Tryz.ntmps19 (congrArg Array.toList Tryz.results19) (by simp only [List.length_cons, List.length_nil]; decide) ?_; simp only [envOf_cons, envOf_nil, Nat.reduceAdd]
  refine awp_seq ?_
  refine awp_region (by kernel_rfl) ?_
  refine aL_alloc rfl rfl rfl g_ gl_ fun o2 ho2 => ?_
  repeat (rw [none_set_iff] at ho2; obtain ⟨_, ho2⟩ := ho2)
  refine aL_nil ?_
  have n2 := ne_of_heap hg ho2
  refine awp_seq ?_
  refine awp_seq ?_
  refine awp_region (by kernel_rfl) ?_
  iterate 2 (refine aL_S rfl rfl v_ ?_)
  refine aL_nil ?_
  refine awp_cond v_ (fun hc1 => ?_) (fun hc1 => ?_)
  · replace hc1 := nm_ hc1
    cases hc1
  · replace hc1 := nm_ hc1
    refine awp_skip ?_
    refine awp_seq ?_
    have R := hg
    refine awp_region (by kernel_rfl) ?_
    iterate 5 (refine aL_S rfl rfl v_ ?_)
    refine aL_X rfl rfl (AOp_use rfl rfl (.inr ⟨rfl, rfl, rfl⟩) g_ va_ (ACalls.wkA (args := [.agg [vNil, vNil], .agg [vNil, vNil]]) (merge_c o00_sm o00_sm) rfl (fun j hj hj' => by match j, hj with | 0, _ => exact .agg _ _ rfl (fun n hn hn' => by match n, hn with | 0, _ => exact .nil _ _ | 1, _ => exact .nil _ _) | 1, _ => exact .agg _ _ rfl (fun n hn hn' => by match n, hn with | 0, _ => exact .nil _ _ | 1, _ => exact .nil _ _))) ?_); rintro _ _ ⟨rfl, rfl⟩
    iterate 3 (refine aL_S rfl rfl v_ ?_)
    refine aL_alloc rfl rfl rfl g_ gl_ fun o3 ho3 => ?_
    repeat (rw [none_set_iff] at ho3; obtain ⟨_, ho3⟩ := ho3)
    refine aL_store rfl rfl rfl v_ v_ h_ g_ rfl g_ c_ (by rfl) le_ v_ ?_
    (refine aL_S rfl rfl v_ ?_)
    refine aL_nil ?_
    refine awp_seq ?_
    refine awp_region (by kernel_rfl) ?_
    (refine aL_S rfl rfl v_ ?_)
    refine aL_store rfl rfl rfl v_ v_ h_ g_ rfl g_ c_ (by rfl) le_ v_ ?_
    refine aL_nil ?_
    refine awp_ret ?_
    refine aEnd_ret (σ' := σ) v_ sub_ ?_
    exact ⟨rfl, rfl⟩
theorem namesZ_c {g : Nat} {k : Int} {σ : Store} (hg : σ.heap g = some (.cells zRd)) : ACalls Tryz.prog 68 [.ref g 0, vInt k] σ fun v σ' => v = .sl 1 [] false ∧ σ = σ' := by
  refine ACalls_of Tryz.func68 rfl Tryz.ntmps68 (congrArg Array.toList Tryz.results68) (by simp only [List.length_cons, List.length_nil]; decide) ?_; simp only [envOf_cons, envOf_nil, Nat.reduceAdd]
  refine awp_seq ?_
  refine awp_region (by kernel_rfl) ?_
  (refine aL_S rfl rfl v_ ?_)
  refine aL_nil ?_
  refine awp_seq ?_
  refine awp_region (by kernel_rfl) ?_
  (refine aL_S rfl rfl v_ ?_)
  refine aL_nil ?_
  refine awp_seq ?_
  refine awp_seq ?_
  have R := hg
  refine awp_region (by kernel_rfl) ?_
  iterate 6 (refine aL_S rfl rfl v_ ?_)
  refine aL_nil ?_
  refine awp_block ?_
  refine awp_loop_env (ι := Nat) (fun i => 0 - i) (fun i => i = 0) (fun i => [(5, vNil), (12, vInt 0), (13, vInt i)]) (fun i => σ) 0 ?_ ?_ ?_ ?_
  · rfl
  · exact cv_
  · exact sub_
  rintro i hi
  simp only [envL_cons, envL_nil]
  refine awp_seq ?_
  refine awp_region (by kernel_rfl) ?_
  (refine aL_S rfl rfl v_ ?_)
  refine aL_nil ?_
  refine awp_seq ?_
  refine awp_cond v_ (fun hc3 => ?_) (fun hc3 => ?_)
  · replace hc3 := nm_ hc3
    subst hi; exact absurd hc3 (by decide)
  · replace hc3 := nm_ hc3
    refine awp_exit ?_
    refine aThen_exit ?_
    refine aThen_exit ?_
    refine aBlock_hit ?_
    refine awp_seq ?_
    refine awp_region (by kernel_rfl) ?_
    iterate 2 (refine aL_S rfl rfl v_ ?_)
    refine aL_nil ?_
    refine awp_ret ?_
    exact aEnd_retW (v := .sl 1 [] false) (v' := vNil) va_ (.nil _ _) sub_ ⟨rfl, rfl⟩
theorem staleZ_c {g : Nat} {σ : Store} (hg : σ.heap g = some (.cells zRd)) : ACalls Tryz.prog 24 [.ref g 0] σ fun v σ' => v = .sl 1 [] false ∧ σ = σ' := by
  refine ACalls_of Tryz.func24 rfl Tryz.ntmps24 (congrArg Array.toList Tryz.results24) (by simp only [List.length_cons, List.length_nil]; decide) ?_; simp only [envOf_cons, envOf_nil, Nat.reduceAdd]
  refine awp_seq ?_
  refine awp_region (by kernel_rfl) ?_
  (refine aL_S rfl rfl v_ ?_)
  refine aL_nil ?_
  refine awp_seq ?_
  refine awp_seq ?_
  refine awp_region (by kernel_rfl) ?_
  iterate 3 (refine aL_S rfl rfl v_ ?_)
  refine aL_GF rfl rfl v_ rfl vg_ ?_
  refine aL_GFX rfl rfl v_ rfl (fun hb => AOp_useV (by rfl) (by rfl) (.inr ⟨by rfl, by rfl, by rfl⟩) g_ cg_ (namesZ_c hg)) ?_
  refine aL_GF rfl rfl v_ rfl vg_ ?_
  refine aL_GF rfl rfl v_ rfl vg_ ?_
  (refine aL_S rfl rfl v_ ?_)
  refine aL_nil ?_
  refine awp_cond v_ (fun hc1 => ?_) (fun hc1 => ?_)
  · replace hc1 := nm_ hc1
    refine awp_seq ?_
    refine awp_region (by kernel_rfl) ?_
    (refine aL_S rfl rfl v_ ?_)
    refine aL_nil ?_
    refine awp_ret ?_
    exact aEnd_retW (v := .sl 1 [] false) (v' := vNil) va_ (.nil _ _) sub_ ⟨rfl, rfl⟩
  · replace hc1 := nm_ hc1
    simp at hc1
theorem idxHZ_c {F : Nat} {caps : List AVal} {σ : Store} (hF : isGo Tryz.prog F = true) : ACalls Tryz.prog 141 [vNil, fnV F caps] σ fun v σ' => v = vInt (-1) ∧ σ = σ' := by
  refine ACalls_of Tryz.func141 rfl Tryz.ntmps141 (congrArg Array.toList Tryz.results141) (by simp only [List.length_cons, List.length_nil]; decide) ?_; simp only [envOf_cons, envOf_nil, Nat.reduceAdd]
  refine awp_seq ?_
  refine awp_region (by kernel_rfl) ?_
  (refine aL_S rfl rfl v_ ?_)
  refine aL_nil ?_
  refine awp_seq ?_
  refine awp_seq ?_
  refine awp_region (by kernel_rfl) ?_
  iterate 3 (refine aL_S rfl rfl v_ ?_)
  refine aL_nil ?_
  refine awp_block ?_
  refine awp_loop_env (ι := Nat) (fun i => 0 - i) (fun i => i = 0) (fun i => [(7, vInt 0), (8, vInt i)]) (fun i => σ) 0 ?_ ?_ ?_ ?_
  · rfl
  · exact cv_
  · exact sub_
  rintro i hi
  simp only [envL_cons, envL_nil]
  refine awp_seq ?_
  refine awp_region (by kernel_rfl) ?_
  (refine aL_S rfl rfl v_ ?_)
  refine aL_nil ?_
  refine awp_seq ?_
  refine awp_cond v_ (fun hc2 => ?_) (fun hc2 => ?_)
  · replace hc2 := nm_ hc2
    subst hi; exact absurd hc2 (by decide)
  · replace hc2 := nm_ hc2
    refine awp_exit ?_
    refine aThen_exit ?_
    refine aThen_exit ?_
    refine aBlock_hit ?_
    refine awp_seq ?_
    refine awp_region (by kernel_rfl) ?_
    (refine aL_S rfl rfl v_ ?_)
    refine aL_nil ?_
    refine awp_ret ?_
    refine aEnd_ret (σ' := σ) v_ sub_ ?_
    exact ⟨rfl, rfl⟩
theorem contHZ_c {F : Nat} {caps : List AVal} {σ : Store} (hF : isGo Tryz.prog F = true) : ACalls Tryz.prog 72 [vNil, fnV F caps] σ fun v σ' => v = vB false ∧ σ = σ' := by
  refine ACalls_of Tryz.func72 rfl Tryz.ntmps72 (congrArg Array.toList Tryz.results72) (by simp only [List.length_cons, List.length_nil]; decide) ?_; simp only [envOf_cons, envOf_nil, Nat.reduceAdd]
  refine awp_seq ?_
  refine awp_region (by kernel_rfl) ?_
  (refine aL_S rfl rfl v_ ?_)
  refine aL_nil ?_
  refine awp_seq ?_
  refine awp_region (by kernel_rfl) ?_
  iterate 2 (refine aL_S rfl rfl v_ ?_)
  refine aL_X rfl rfl (AOp_use rfl rfl (.inr ⟨rfl, rfl, rfl⟩) g_ va_ (idxHZ_c hF) ?_); rintro _ _ ⟨rfl, rfl⟩
  iterate 2 (refine aL_S rfl rfl v_ ?_)
  refine aL_nil ?_
  refine awp_ret ?_
  refine aEnd_ret (σ' := σ) v_ sub_ ?_
  exact ⟨rfl, rfl⟩
theorem openZ_c {g : Nat} {σ : Store} (hg : σ.heap g = some (.cells zRd)) : ACalls Tryz.prog 26 [.ref g 0] σ fun v σ' => v = vB false ∧ σ = σ' := by
  refine ACalls_of Tryz.func26 rfl Tryz.ntmps26 (congrArg Array.toList Tryz.results26) (by simp only [List.length_cons, List.length_nil]; decide) ?_; simp only [envOf_cons, envOf_nil, Nat.reduceAdd]
  refine awp_seq ?_
  refine awp_region (by kernel_rfl) ?_
  refine aL_box rfl rfl rfl v_ rfl g_ fun o1 ho1 => ?_
  repeat (rw [none_set_iff] at ho1; obtain ⟨_, ho1⟩ := ho1)
  (refine aL_S rfl rfl v_ ?_)
  refine aL_nil ?_
  have n1 := ne_of_heap hg ho1
  refine awp_seq ?_
  have R := hg
  refine awp_region (by kernel_rfl) ?_
  iterate 3 (refine aL_S rfl rfl v_ ?_)
  refine aL_SY (wantedA_yes rfl rfl v_ (by rfl)) rfl v_ ?_
  refine aL_SY (wantedA_yes rfl rfl v_ (by rfl)) rfl v_ ?_
  refine aL_SY (wantedA_yes rfl rfl v_ (by rfl)) rfl v_ ?_
  refine aL_SY (wantedA_yes rfl rfl v_ (by rfl)) rfl v_ ?_
  refine aL_SY (wantedA_yes rfl rfl v_ (by rfl)) rfl v_ ?_
  refine aL_XY (wantedA_yes rfl rfl v_ (by rfl)) rfl (AOp_use rfl rfl (.inr ⟨rfl, rfl, rfl⟩) g_ va_ (contHZ_c (by kernel_rfl)) ?_); rintro _ _ ⟨rfl, rfl⟩
  iterate 2 (refine aL_S rfl rfl v_ ?_)
  refine aL_nil ?_
  refine awp_ret ?_
  refine aEnd_ret (σ' := σ) v_ sub_ ?_
  exact ⟨rfl, rfl⟩
/-! ### answers to nobody -/
theorem missingN_c {g : Nat} {n : ByteArray} {σ : Store} (hg : True) : ACalls Tryz.prog 57 [vNp, vStr n] σ fun v σ' => v = .tup [] ∧ σ = σ' := by
  refine ACalls_of Tryz.func57 rfl Tryz.ntmps57 (congrArg Array.toList Tryz.results57) (by simp only [List.length_cons, List.length_nil]; decide) ?_; simp only [envOf_cons, envOf_nil, Nat.reduceAdd]
  refine awp_region (by kernel_rfl) ?_
  iterate 3 (refine aL_S rfl rfl v_ ?_)
  refine aL_X rfl rfl (AOp_use rfl rfl (.inr ⟨rfl, rfl, rfl⟩) g_ va_ (by first | exact ansZ_c hg rfl rfl rfl rfl | exact ansN_c rfl rfl rfl rfl) ?_); rintro _ _ ⟨rfl, rfl⟩
  refine aL_nil ?_
  refine aEnd_nor (σ' := σ) v_ sub_ ?_
  exact ⟨rfl, rfl⟩
theorem refusedN_c {g : Nat} {n : ByteArray} {σ : Store} (hg : True) : ACalls Tryz.prog 58 [vNp, vStr n] σ fun v σ' => v = .tup [] ∧ σ = σ' := by
  refine ACalls_of Tryz.func58 rfl Tryz.ntmps58 (congrArg Array.toList Tryz.results58) (by simp only [List.length_cons, List.length_nil]; decide) ?_; simp only [envOf_cons, envOf_nil, Nat.reduceAdd]
  refine awp_region (by kernel_rfl) ?_
  iterate 3 (refine aL_S rfl rfl v_ ?_)
  refine aL_X rfl rfl (AOp_use rfl rfl (.inr ⟨rfl, rfl, rfl⟩) g_ va_ (by first | exact ansZ_c hg rfl rfl rfl rfl | exact ansN_c rfl rfl rfl rfl) ?_); rintro _ _ ⟨rfl, rfl⟩
  refine aL_nil ?_
  refine aEnd_nor (σ' := σ) v_ sub_ ?_
  exact ⟨rfl, rfl⟩
theorem foundN_c {g : Nat} {n : ByteArray} {o : Obj'} {σ : Store} (hg : True) : ACalls Tryz.prog 56 [vNp, vStr n, sObj o] σ fun v σ' => v = .tup [] ∧ σ = σ' := by
  refine ACalls_of Tryz.func56 rfl Tryz.ntmps56 (congrArg Array.toList Tryz.results56) (by simp only [List.length_cons, List.length_nil]; decide) ?_; simp only [envOf_cons, envOf_nil, Nat.reduceAdd]
  refine awp_seq ?_
  refine awp_region (by kernel_rfl) ?_
  refine aL_box rfl rfl rfl v_ rfl g_ fun o5 ho5 => ?_
  repeat (rw [none_set_iff] at ho5; obtain ⟨_, ho5⟩ := ho5)
  refine aL_nil ?_
  try have hgk : (σ.set o5 (.cells (sObj o).cells)).heap g = some (.cells zRd) := by rw [Store.set_ne _ _ (ne_of_heap hg ho5)]; exact hg
  refine awp_region (by kernel_rfl) ?_
  iterate 4 (refine aL_S rfl rfl v_ ?_)
  refine aL_X rfl rfl (AOp_use rfl rfl (.inr ⟨rfl, rfl, rfl⟩) g_ va_ (by first | exact ansZ_c hgk rfl rfl rfl rfl | exact ansN_c rfl rfl rfl rfl) ?_); rintro _ _ ⟨rfl, rfl⟩
  refine aL_nil ?_
  refine aEnd_nor (σ' := σ) v_ sub_ ?_
  exact ⟨rfl, rfl⟩
theorem doN_c {g : Nat} {a : Ac} {σ : Store} (hg : True) : ACalls Tryz.prog 16 [vNp, sAc a] σ fun v σ' => v = .tup [] ∧ σ = σ' := by
  refine ACalls_of Tryz.func16 rfl Tryz.ntmps16 (congrArg Array.toList Tryz.results16) (by simp only [List.length_cons, List.length_nil]; decide) ?_; simp only [envOf_cons, envOf_nil, Nat.reduceAdd]
  refine awp_seq ?_
  refine awp_region (by kernel_rfl) ?_
  refine aL_box rfl rfl rfl v_ rfl g_ fun o3 ho3 => ?_
  repeat (rw [none_set_iff] at ho3; obtain ⟨_, ho3⟩ := ho3)
  refine aL_nil ?_
  try have hgk : (σ.set o3 (.cells (sAc a).cells)).heap g = some (.cells zRd) := by rw [Store.set_ne _ _ (ne_of_heap hg ho3)]; exact hg
  refine awp_seq ?_
  refine awp_region (by kernel_rfl) ?_
  iterate 2 (refine aL_S rfl rfl v_ ?_)
  refine aL_nil ?_
  refine awp_block ?_
  refine awp_seq ?_
  refine awp_region (by kernel_rfl) ?_
  iterate 2 (refine aL_S rfl rfl v_ ?_)
  refine aL_nil ?_
  refine awp_cond v_ (fun hc3 => ?_) (fun hc3 => ?_)
  · replace hc3 := nm_ hc3
    refine awp_region (by kernel_rfl) ?_
    iterate 5 (refine aL_S rfl rfl v_ ?_)
    refine aL_X rfl rfl (AOp_use rfl rfl (.inr ⟨rfl, rfl, rfl⟩) g_ va_ (by first | exact foundZ_c hgk | exact foundN_c (g := 0) trivial) ?_); rintro _ _ ⟨rfl, rfl⟩
    refine aL_nil ?_
    refine aEnd_nor (σ' := σ) v_ sub_ ?_
    exact ⟨rfl, rfl⟩
  · replace hc3 := nm_ hc3
    refine awp_seq ?_
    refine awp_region (by kernel_rfl) ?_
    iterate 2 (refine aL_S rfl rfl v_ ?_)
    refine aL_nil ?_
    refine awp_cond v_ (fun hc5 => ?_) (fun hc5 => ?_)
    · replace hc5 := nm_ hc5
      refine awp_region (by kernel_rfl) ?_
      iterate 3 (refine aL_S rfl rfl v_ ?_)
      refine aL_X rfl rfl (AOp_use rfl rfl (.inr ⟨rfl, rfl, rfl⟩) g_ va_ (by first | exact missingZ_c hgk | exact missingN_c (g := 0) trivial) ?_); rintro _ _ ⟨rfl, rfl⟩
      refine aL_nil ?_
      refine aEnd_nor (σ' := σ) v_ sub_ ?_
      exact ⟨rfl, rfl⟩
    · replace hc5 := nm_ hc5
      refine awp_region (by kernel_rfl) ?_
      iterate 3 (refine aL_S rfl rfl v_ ?_)
      refine aL_X rfl rfl (AOp_use rfl rfl (.inr ⟨rfl, rfl, rfl⟩) g_ va_ (by first | exact refusedZ_c hgk | exact refusedN_c (g := 0) trivial) ?_); rintro _ _ ⟨rfl, rfl⟩
      refine aL_nil ?_
      refine aEnd_nor (σ' := σ) v_ sub_ ?_
      exact ⟨rfl, rfl⟩
theorem missingZ_c {g : Nat} {n : ByteArray} {σ : Store} (hg : σ.heap g = some (.cells zRd)) : ACalls Tryz.prog 57 [(.ref g 0), vStr n] σ fun v σ' => v = .tup [] ∧ σ = σ' := by
  refine ACalls_of Tryz.func57 rfl Tryz.ntmps57 (congrArg Array.toList Tryz.results57) (by simp only [List.length_cons, List.length_nil]; decide) ?_; simp only [envOf_cons, envOf_nil, Nat.reduceAdd]
  refine awp_region (by kernel_rfl) ?_
  iterate 3 (refine aL_S rfl rfl v_ ?_)
  refine aL_X rfl rfl (AOp_use rfl rfl (.inr ⟨rfl, rfl, rfl⟩) g_ va_ (by first | exact ansZ_c hg rfl rfl rfl rfl | exact ansN_c rfl rfl rfl rfl) ?_); rintro _ _ ⟨rfl, rfl⟩
  refine aL_nil ?_
  refine aEnd_nor (σ' := σ) v_ sub_ ?_
  exact ⟨rfl, rfl⟩
theorem refusedZ_c {g : Nat} {n : ByteArray} {σ : Store} (hg : σ.heap g = some (.cells zRd)) : ACalls Tryz.prog 58 [(.ref g 0), vStr n] σ fun v σ' => v = .tup [] ∧ σ = σ' := by
  refine ACalls_of Tryz.func58 rfl Tryz.ntmps58 (congrArg Array.toList Tryz.results58) (by simp only [List.length_cons, List.length_nil]; decide) ?_; simp only [envOf_cons, envOf_nil, Nat.reduceAdd]
  refine awp_region (by kernel_rfl) ?_
  iterate 3 (refine aL_S rfl rfl v_ ?_)
  refine aL_X rfl rfl (AOp_use rfl rfl (.inr ⟨rfl, rfl, rfl⟩) g_ va_ (by first | exact ansZ_c hg rfl rfl rfl rfl | exact ansN_c rfl rfl rfl rfl) ?_); rintro _ _ ⟨rfl, rfl⟩
  refine aL_nil ?_
  refine aEnd_nor (σ' := σ) v_ sub_ ?_
  exact ⟨rfl, rfl⟩
theorem foundZ_c {g : Nat} {n : ByteArray} {o : Obj'} {σ : Store} (hg : σ.heap g = some (.cells zRd)) : ACalls Tryz.prog 56 [(.ref g 0), vStr n, sObj o] σ fun v σ' => v = .tup [] ∧ σ = σ' := by
  refine ACalls_of Tryz.func56 rfl Tryz.ntmps56 (congrArg Array.toList Tryz.results56) (by simp only [List.length_cons, List.length_nil]; decide) ?_; simp only [envOf_cons, envOf_nil, Nat.reduceAdd]
  refine awp_seq ?_
  refine awp_region (by kernel_rfl) ?_
  refine aL_box rfl rfl rfl v_ rfl g_ fun o5 ho5 => ?_
  repeat (rw [none_set_iff] at ho5; obtain ⟨_, ho5⟩ := ho5)
  refine aL_nil ?_
  try have hgk : (σ.set o5 (.cells (sObj o).cells)).heap g = some (.cells zRd) := by rw [Store.set_ne _ _ (ne_of_heap hg ho5)]; exact hg
  refine awp_region (by kernel_rfl) ?_
  iterate 4 (refine aL_S rfl rfl v_ ?_)
  refine aL_X rfl rfl (AOp_use rfl rfl (.inr ⟨rfl, rfl, rfl⟩) g_ va_ (by first | exact ansZ_c hgk rfl rfl rfl rfl | exact ansN_c rfl rfl rfl rfl) ?_); rintro _ _ ⟨rfl, rfl⟩
  refine aL_nil ?_
  refine aEnd_nor (σ' := σ) v_ sub_ ?_
  exact ⟨rfl, rfl⟩
theorem doZ_c {g : Nat} {a : Ac} {σ : Store} (hg : σ.heap g = some (.cells zRd)) : ACalls Tryz.prog 16 [(.ref g 0), sAc a] σ fun v σ' => v = .tup [] ∧ σ = σ' := by
  refine ACalls_of Tryz.func16 rfl Tryz.ntmps16 (congrArg Array.toList Tryz.results16) (by simp only [List.length_cons, List.length_nil]; decide) ?_; simp only [envOf_cons, envOf_nil, Nat.reduceAdd]
  refine awp_seq ?_
  refine awp_region (by kernel_rfl) ?_
  refine aL_box rfl rfl rfl v_ rfl g_ fun o3 ho3 => ?_
  repeat (rw [none_set_iff] at ho3; obtain ⟨_, ho3⟩ := ho3)
  refine aL_nil ?_
  try have hgk : (σ.set o3 (.cells (sAc a).cells)).heap g = some (.cells zRd) := by rw [Store.set_ne _ _ (ne_of_heap hg ho3)]; exact hg
  refine awp_seq ?_
  refine awp_region (by kernel_rfl) ?_
  iterate 2 (refine aL_S rfl rfl v_ ?_)
  refine aL_nil ?_
  refine awp_block ?_
  refine awp_seq ?_
  refine awp_region (by kernel_rfl) ?_
  iterate 2 (refine aL_S rfl rfl v_ ?_)
  refine aL_nil ?_
  refine awp_cond v_ (fun hc3 => ?_) (fun hc3 => ?_)
  · replace hc3 := nm_ hc3
    refine awp_region (by kernel_rfl) ?_
    iterate 5 (refine aL_S rfl rfl v_ ?_)
    refine aL_X rfl rfl (AOp_use rfl rfl (.inr ⟨rfl, rfl, rfl⟩) g_ va_ (by first | exact foundZ_c hgk | exact foundN_c (g := 0) trivial) ?_); rintro _ _ ⟨rfl, rfl⟩
    refine aL_nil ?_
    refine aEnd_nor (σ' := σ) v_ sub_ ?_
    exact ⟨rfl, rfl⟩
  · replace hc3 := nm_ hc3
    refine awp_seq ?_
    refine awp_region (by kernel_rfl) ?_
    iterate 2 (refine aL_S rfl rfl v_ ?_)
    refine aL_nil ?_
    refine awp_cond v_ (fun hc5 => ?_) (fun hc5 => ?_)
    · replace hc5 := nm_ hc5
      refine awp_region (by kernel_rfl) ?_
      iterate 3 (refine aL_S rfl rfl v_ ?_)
      refine aL_X rfl rfl (AOp_use rfl rfl (.inr ⟨rfl, rfl, rfl⟩) g_ va_ (by first | exact missingZ_c hgk | exact missingN_c (g := 0) trivial) ?_); rintro _ _ ⟨rfl, rfl⟩
      refine aL_nil ?_
      refine aEnd_nor (σ' := σ) v_ sub_ ?_
      exact ⟨rfl, rfl⟩
    · replace hc5 := nm_ hc5
      refine awp_region (by kernel_rfl) ?_
      iterate 3 (refine aL_S rfl rfl v_ ?_)
      refine aL_X rfl rfl (AOp_use rfl rfl (.inr ⟨rfl, rfl, rfl⟩) g_ va_ (by first | exact refusedZ_c hgk | exact refusedN_c (g := 0) trivial) ?_); rintro _ _ ⟨rfl, rfl⟩
      refine aL_nil ?_
      refine aEnd_nor (σ' := σ) v_ sub_ ?_
      exact ⟨rfl, rfl⟩
end Go.Proofs.YtbcgkbdacijoiaaGreat
end
