/-
  What is picked and reaped of a copy, by the reference; ReplicaIs and ReplicaPicks. Own work (an AI agent).
-/
import Derived.Test.YtcaflcpcbcneiaaGreatGO

section
set_option linter.all false
set_option maxRecDepth 100000
namespace Go.Proofs.YtcaflcpcbcneiaaGreat
open Go.Ab
theorem jh_ {α : Type} {enc : α → AVal} {p : α → Bool} {l : List α} {i : Nat} {x : α} (hx : l[i]? = some x) (h : p x = true) : ((l.take (i + 1)).filter p).map enc = ((l.take i).filter p).map enc ++ [enc x] := by
 rw [ax_ hx, List.filter_append, List.map_append]; simp [h]
theorem lt_ {α : Type} {enc : α → AVal} {p : α → Bool} {l : List α} {i : Nat} {x : α} (hx : l[i]? = some x) (h : p x = false) : ((l.take (i + 1)).filter p).map enc = ((l.take i).filter p).map enc := by
 rw [ax_ hx, List.filter_append, List.map_append]; simp [h]
theorem jg_ {α : Type} (p : α → Bool) (l : List α) (i : Nat) : ((l.take i).filter p).length ≤ l.length := Nat.le_trans (List.length_filter_le ..) (List.length_take_le' ..)
theorem rC_ {t : Int} {l : List Sib} (h : (l.filter fun s => !oldS t s).length < l.length) : ∃ x ∈ l, oldS t x = true := by
  have h1 := fS_ (p := oldS t) l
  cases h2 : l.filter (oldS t) with
  | nil => rw [h2] at h1; simp only [List.length_nil] at h1; omega
  | cons x r => have : x ∈ l.filter (oldS t) := by rw [h2]; exact .head _
                exact ⟨x, (List.mem_filter.1 this).1, (List.mem_filter.1 this).2⟩
theorem pO_ {t : Int} {l : List Sib} (h : ¬ (l.filter fun s => !oldS t s).length < l.length) : l.any (oldS t) = false := by
 have h1 := fS_ (p := oldS t) l
 refine List.any_eq_false.2 fun x hx hh => ?_
 have : x ∈ l.filter (oldS t) := List.mem_filter.2 ⟨hx, hh⟩
 have := List.length_pos_of_mem this
 omega
theorem qi_ {σ : Store} {tk tr : Nat} {p : TypeId × Nat} (hne : tr ≠ tk) (h : σ.tok tr = none) : (σ.newTok none tk p).tok tr = none := by simp [Store.newTok, hne, h]
theorem k7_ {P : Program} {n k : Nat} {c : Code} {Q : Exit → Env → Store → Prop} {e : Env} {σ : Store} {p : TypeId × Nat} (hk : σ.tok k = none) (h : awp P n c Q e σ) : awp P n c Q e (σ.newTok none k p) :=
 h.wk (fun _ => .refl _) (Store.Sub.wk ⟨fun _ _ h => h, fun t m ht => by
  have hne : t ≠ k := fun hh => by rw [hh, hk] at ht; cases ht
  simp [Store.newTok, hne, ht]⟩)
theorem n1_ {b : Bk} {s : ByteArray} {σ : Store} (hb : BkSm b) : ai_ Tryz.prog 19 [sBk b, vStr s] σ fun v σ' => v = .sl 3 ((bukS b s).map aD_) false ∧ σ = σ' := by
 have ni := hb.ni
 refine en_ Tryz.func19 Tryz.ntmps19 Tryz.results19 ?_
 refine rr_ ?_
 refine bx_ fun o2 ho2 => ?_
 repeat (first | (rw [ac_] at ho2; obtain ⟨_, ho2⟩ := ho2) | simp only [Store.newTok_heap] at ho2)
 refine s_ ?_
 refine aa_ ?_
 refine rr_ ?_
 refine a8_ 55 3 rfl rfl rfl (by rfl) fun k5 hk5 => ?_
 refine aa_ ?_
 refine ab_ ?_
 refine rr_ ?_
 refine s_ ?_
 refine aa_ ?_
 refine ag_ ?_
 refine ah_ (ι := Nat × Nat) (fun ⟨tk, i⟩ => b.items.length - i) (fun ⟨tk, i⟩ => i ≤ b.items.length ∧ σ.tok tk = none) (fun ⟨tk, i⟩ => [(1, vStr s),(2, .ref o2 0), (5, .own tk 3 (((b.items.take i).filter (fun x : Itm => buk s x.place)).map aD_)), (6, vInt i)]) (fun ⟨tk, i⟩ => ((σ.set o2 (.cells (sBk b).cells)).newTok none tk (55, 3))) (k5, 0) ?_ ?_ ?_ ?_
 ·exact ⟨Nat.zero_le _, hk5⟩
 ·exact cv_
 ·exact Store.Wk.refl _
 rintro ⟨tk, i⟩ ⟨hi, htk⟩
 simp only [ak_, am_]
 refine ab_ ?_
 refine rr_ ?_
 iterate 5 refine s_ ?_
 refine aa_ ?_
 refine cd_ (fun hc3 => ?_) (fun hc3 => ?_)
 ·refine ae_ ?_
  refine ab_ ?_
  refine ag_ ?_
  refine ab_ ?_
  obtain ⟨x, hx⟩ := aq_ (l := b.items) (k := i) (by omega)
  have sx := (hb.items x (List.mem_of_getElem? hx)).place
  have hlen := jg_ (fun x : Itm => buk s x.place) b.items i
  have R := hx
  refine r_ ?_
  iterate 6 refine s_ ?_
  refine x_ g_ va_ (mY_ (by omega)) ?_; rintro _ _ ⟨rfl, rfl⟩
  iterate 7 refine s_ ?_
  refine aa_ ?_
  refine rr_ ?_
  iterate 2 refine s_ ?_
  refine gt_ ?_
  refine gt_ ?_
  refine gt_ ?_
  refine s_ ?_
  refine aa_ ?_
  refine cd_ (fun hc6 => ?_) (fun hc6 => ?_)
  ·have hcv := jh_ (enc := aD_) (p := (fun x : Itm => buk s x.place)) hx (by simpa [buk] using hc6)
   have R := hx
   refine r_ ?_
   iterate 6 refine s_ ?_
   refine ao_ rfl rfl rfl g_ g_ rfl rfl h_ c2_ (by decide) ?_
   refine aM_ rfl rfl rfl g_ g_ v_ h_ v_ c_ (by simp; omega) fun k41 hk41 => ?_
   refine s_ ?_
   refine aa_ ?_
   refine r_ ?_
   iterate 3 refine s_ ?_
   refine aa_ ?_
   refine aC_ (ι := Nat × Nat) (i := ⟨tk, i⟩) (k41, i + 1) ?_ ?_ ?_ ?_
   ·show b.items.length - (i + 1) < b.items.length - i; omega
   ·exact ⟨by show i + 1 ≤ b.items.length; omega, (aE_ hk41).2⟩
   ·have R := hcv; exact cv_
   ·exact sub_
  ·have hcv := lt_ (enc := aD_) (p := (fun x : Itm => buk s x.place)) hx (by unfold buk; rw [Bool.and_eq_false_iff, decide_eq_false_iff_not]; exact hc6)
   refine ae_ ?_
   refine r_ ?_
   iterate 3 refine s_ ?_
   refine aa_ ?_
   refine aC_ (ι := Nat × Nat) (i := ⟨tk, i⟩) (tk, i + 1) ?_ ?_ ?_ ?_
   ·show b.items.length - (i + 1) < b.items.length - i; omega
   ·exact ⟨by show i + 1 ≤ b.items.length; omega, htk⟩
   ·have R := hcv; exact cv_
   ·exact sub_
 ·refine an_ ?_
  refine ad_ ?_
  refine ad_ ?_
  refine aj_ ?_
  refine ab_ ?_
  obtain rfl : i = b.items.length := by omega
  rw [List.take_length]
  refine r_ ?_
  iterate 2 refine s_ ?_
  refine aa_ ?_
  refine af_ ?_
  exact aw_ (v := .sl 3 ((bukS b s).map aD_) false) (v' := .own tk 3 ((bukS b s).map aD_)) va_ (.own1 _ _ _) sub_ ⟨rfl, rfl⟩
theorem rH_ {b : Bk} {t : ByteArray} {k n : Int} {σ : Store} (hb : BkSm b)(ht : t.size ≤ 1000000) : ai_ Tryz.prog 21 [sBk b, vStr t, vInt k, vInt n] σ fun v σ' => v = .sl 3 ((prtS b t k n).map aD_) false ∧ σ = σ' := by
 have ni := hb.ni
 refine en_ Tryz.func21 Tryz.ntmps21 Tryz.results21 ?_
 refine rr_ ?_
 refine bx_ fun o4 ho4 => ?_
 repeat (first | (rw [ac_] at ho4; obtain ⟨_, ho4⟩ := ho4) | simp only [Store.newTok_heap] at ho4)
 refine s_ ?_
 refine aa_ ?_
 refine rr_ ?_
 refine a8_ 55 3 rfl rfl rfl (by rfl) fun k9 hk9 => ?_
 refine aa_ ?_
 refine ab_ ?_
 refine rr_ ?_
 refine s_ ?_
 refine aa_ ?_
 refine ag_ ?_
 refine ah_ (ι := Nat × Nat) (fun ⟨tk, i⟩ => b.items.length - i) (fun ⟨tk, i⟩ => i ≤ b.items.length ∧ σ.tok tk = none) (fun ⟨tk, i⟩ => [(1, vStr t), (2, vInt k), (3, vInt n),(4, .ref o4 0), (9, .own tk 3 (((b.items.take i).filter (fun x : Itm => decide (fx_ t x.place n = k))).map aD_)), (10, vInt i)]) (fun ⟨tk, i⟩ => ((σ.set o4 (.cells (sBk b).cells)).newTok none tk (55, 3))) (k9, 0) ?_ ?_ ?_ ?_
 ·exact ⟨Nat.zero_le _, hk9⟩
 ·exact cv_
 ·exact Store.Wk.refl _
 rintro ⟨tk, i⟩ ⟨hi, htk⟩
 simp only [ak_, am_]
 refine ab_ ?_
 refine rr_ ?_
 iterate 5 refine s_ ?_
 refine aa_ ?_
 refine cd_ (fun hc3 => ?_) (fun hc3 => ?_)
 ·refine ae_ ?_
  refine ab_ ?_
  refine ag_ ?_
  refine ab_ ?_
  obtain ⟨x, hx⟩ := aq_ (l := b.items) (k := i) (by omega)
  have sx := (hb.items x (List.mem_of_getElem? hx)).place
  have hlen := jg_ (fun x : Itm => decide (fx_ t x.place n = k)) b.items i
  have R := hx
  refine r_ ?_
  iterate 8 refine s_ ?_
  refine x_ g_ va_ (tN_ ht sx) ?_; rintro _ _ ⟨rfl, rfl⟩
  iterate 2 refine s_ ?_
  refine aa_ ?_
  refine cd_ (fun hc5 => ?_) (fun hc5 => ?_)
  ·have hcv := jh_ (enc := aD_) (p := (fun x : Itm => decide (fx_ t x.place n = k))) hx (decide_eq_true hc5)
   have R := hx
   refine r_ ?_
   iterate 6 refine s_ ?_
   refine ao_ rfl rfl rfl g_ g_ rfl rfl h_ c2_ (by decide) ?_
   refine aM_ rfl rfl rfl g_ g_ v_ h_ v_ c_ (by simp; omega) fun k36 hk36 => ?_
   refine s_ ?_
   refine aa_ ?_
   refine r_ ?_
   iterate 3 refine s_ ?_
   refine aa_ ?_
   refine aC_ (ι := Nat × Nat) (i := ⟨tk, i⟩) (k36, i + 1) ?_ ?_ ?_ ?_
   ·show b.items.length - (i + 1) < b.items.length - i; omega
   ·exact ⟨by show i + 1 ≤ b.items.length; omega, (aE_ hk36).2⟩
   ·have R := hcv; exact cv_
   ·exact sub_
  ·have hcv := lt_ (enc := aD_) (p := (fun x : Itm => decide (fx_ t x.place n = k))) hx (decide_eq_false hc5)
   refine ae_ ?_
   refine r_ ?_
   iterate 3 refine s_ ?_
   refine aa_ ?_
   refine aC_ (ι := Nat × Nat) (i := ⟨tk, i⟩) (tk, i + 1) ?_ ?_ ?_ ?_
   ·show b.items.length - (i + 1) < b.items.length - i; omega
   ·exact ⟨by show i + 1 ≤ b.items.length; omega, htk⟩
   ·have R := hcv; exact cv_
   ·exact sub_
 ·refine an_ ?_
  refine ad_ ?_
  refine ad_ ?_
  refine aj_ ?_
  refine ab_ ?_
  obtain rfl : i = b.items.length := by omega
  rw [List.take_length]
  refine r_ ?_
  iterate 2 refine s_ ?_
  refine aa_ ?_
  refine af_ ?_
  exact aw_ (v := .sl 3 ((prtS b t k n).map aD_) false) (v' := .own tk 3 ((prtS b t k n).map aD_)) va_ (.own1 _ _ _) sub_ ⟨rfl, rfl⟩
set_option maxHeartbeats 2000000 in
theorem rI_ {b : Bk} {t : Int} {σ : Store} (hb : BkSm b) : ai_ Tryz.prog 16 [sBk b, vInt t] σ fun v σ' => v = .sl 1 (vBs (bU_ b t)) false ∧ σ = σ' := by
 have ni := hb.ni
 refine en_ Tryz.func16 Tryz.ntmps16 Tryz.results16 ?_
 refine rr_ ?_
 refine bx_ fun o2 ho2 => ?_
 repeat (first | (rw [ac_] at ho2; obtain ⟨_, ho2⟩ := ho2) | simp only [Store.newTok_heap] at ho2)
 refine s_ ?_
 refine aa_ ?_
 refine ab_ ?_
 refine rr_ ?_
 refine s_ ?_
 refine x_ g_ va_ (gA_ hb) ?_; rintro _ _ ⟨rfl, rfl⟩
 refine s_ ?_
 refine aa_ ?_
 refine cd_ (fun hc1 => ?_) (fun hc1 => ?_)
 ·refine rr_ ?_
  refine s_ ?_
  refine aa_ ?_
  refine af_ ?_
  rw [show bU_ b t = [] from by rw [bU_, show bkOk b = false by simpa using hc1]; rfl]
  exact aw_ (v := .sl 1 [] false) (v' := .lit (.slice none 0 0)) va_ (.nil _ _) sub_ ⟨rfl, rfl⟩
 ·have hB : bkOk b = true := by simpa using hc1
  have hR : bU_ b t = cj_ t b.items := by rw [bU_, if_pos hB]
  refine ae_ ?_
  refine rr_ ?_
  refine a8_ 9 1 rfl rfl rfl (by rfl) fun k5 hk5 => ?_
  refine aa_ ?_
  refine ab_ ?_
  refine rr_ ?_
  refine s_ ?_
  refine aa_ ?_
  refine ag_ ?_
  refine ah_ (ι := Nat × Nat) (fun ⟨tk, k⟩ => b.items.length - k) (fun ⟨tk, k⟩ => k ≤ b.items.length ∧ σ.tok tk = none) (fun ⟨tk, k⟩ => [(1, vInt t), (2, .ref o2 0), (5, .own tk 1 (vBs (cj_ t (b.items.take k)))), (6, vInt k)]) (fun ⟨tk, k⟩ => ((σ.set o2 (.cells (sBk b).cells)).newTok none tk (9, 1))) (k5, 0) ?_ ?_ ?_ ?_
  ·exact ⟨Nat.zero_le _, hk5⟩
  ·exact cv_
  ·exact Store.Wk.refl _
  rintro ⟨tk, k⟩ ⟨hk, htk⟩
  simp only [ak_, am_]
  refine ab_ ?_
  refine rr_ ?_
  iterate 5 refine s_ ?_
  refine aa_ ?_
  refine cd_ (fun hc5 => ?_) (fun hc5 => ?_)
  ·refine ae_ ?_
   refine ab_ ?_
   refine ag_ ?_
   refine ab_ ?_
   obtain ⟨x, hx⟩ := aq_ (l := b.items) (k := k) (by omega)
   have sx := hb.items x (List.mem_of_getElem? hx)
   have hsl := sx.obj.ns
   have hlen := kI_ t b.items k (by omega)
   have R := hx
   refine r_ ?_
   iterate 6 refine s_ ?_
   refine lc_ fun o7 ho7 => ?_
   repeat (first | (rw [ac_] at ho7; obtain ⟨_, ho7⟩ := ho7) | simp only [Store.newTok_heap] at ho7)
   refine st_ ?_
   refine aa_ ?_
   refine rr_ ?_
   refine a8_ 60 5 rfl rfl rfl (by rfl) fun k8 hk8 => ?_
   refine aa_ ?_
   have h8 : k8 ≠ tk ∧ σ.tok k8 = none := aE_ hk8
   refine ab_ ?_
   refine rr_ ?_
   refine s_ ?_
   refine aa_ ?_
   refine ag_ ?_
   refine ah_ (ι := Nat × Nat) (fun ⟨tr, j⟩ => x.obj.sibs.length - j) (fun ⟨tr, j⟩ => j ≤ x.obj.sibs.length ∧ tr ≠ tk ∧ σ.tok tr = none) (fun ⟨tr, j⟩ => [(1, vInt t), (2, .ref o2 0), (5, .own tk 1 (vBs (cj_ t (b.items.take k)))), (6, vInt k), (7, .ref o7 0), (8, .own tr 5 (((x.obj.sibs.take j).filter fun s => !oldS t s).map sSib)), (9, vInt j)]) (fun ⟨tr, j⟩ => ((((σ.set o2 (.cells (sBk b).cells)).set o7 (.cells (sObj x.obj).cells)).newTok none tk (9, 1)).newTok none tr (60, 5))) (k8, 0) ?_ ?_ ?_ ?_
   ·exact ⟨Nat.zero_le _, h8⟩
   ·exact cv_
   ·exact sub_
   rintro ⟨tr, j⟩ ⟨hj, hne, htr⟩
   simp only [ak_, am_]
   refine ab_ ?_
   refine rr_ ?_
   iterate 5 refine s_ ?_
   refine aa_ ?_
   refine cd_ (fun hc10 => ?_) (fun hc10 => ?_)
   ·refine ae_ ?_
    refine ab_ ?_
    refine ag_ ?_
    refine ab_ ?_
    obtain ⟨y, hy⟩ := aq_ (l := x.obj.sibs) (k := j) (by omega)
    have hlw := jg_ (fun s => !oldS t s) x.obj.sibs j
    have R := hy
    refine r_ ?_
    iterate 8 refine s_ ?_
    refine gf_ ?_
    refine gf_ ?_
    refine gf_ ?_
    refine gf_ ?_
    refine gf_ ?_
    refine gf_ ?_
    refine gf_ ?_
    refine gf_ ?_
    refine s_ ?_
    refine aa_ ?_
    refine cd_ (fun hc12 => ?_) (fun hc12 => ?_)
    ·have hcw := jh_ (enc := sSib) (p := fun s => !oldS t s) hy (by rcases hc12 with h | h; simp [oldS, h]; simp [oldS, Int.not_lt.2 h])
     have R := hy
     refine r_ ?_
     iterate 6 refine s_ ?_
     refine ao_ rfl rfl rfl g_ g_ rfl rfl h_ c2_ (by decide) ?_
     refine aM_ rfl rfl rfl g_ g_ v_ h_ v_ c_ (by simp; omega) fun k59 hk59 => ?_
     have t59 : k59 ≠ tk ∧ σ.tok k59 = none := aE_ (aE_ hk59).2
     rw [Store.newTok_step (show Store.tok (Store.newTok ((σ.set o2 (.cells (sBk b).cells)).set o7 (.cells (sObj x.obj).cells)) none tk (9, 1)) tr = none from qi_ hne htr)]
     refine s_ ?_
     refine aa_ ?_
     refine r_ ?_
     iterate 3 refine s_ ?_
     refine aa_ ?_
     refine aC_ (ι := Nat × Nat) (i := ⟨tr, j⟩) (k59, j + 1) ?_ ?_ ?_ ?_
     ·show x.obj.sibs.length - (j + 1) < x.obj.sibs.length - j; omega
     ·exact ⟨by show j + 1 ≤ x.obj.sibs.length; omega, t59⟩
     ·have R := hcw; exact cv_
     ·exact sub_
    ·have hcw := lt_ (enc := sSib) (p := fun s => !oldS t s) hy (by obtain ⟨h1, h2⟩ := hc12; simp [oldS, h1, h2])
     refine ae_ ?_
     refine r_ ?_
     iterate 3 refine s_ ?_
     refine aa_ ?_
     refine aC_ (ι := Nat × Nat) (i := ⟨tr, j⟩) (tr, j + 1) ?_ ?_ ?_ ?_
     ·show x.obj.sibs.length - (j + 1) < x.obj.sibs.length - j; omega
     ·exact ⟨by show j + 1 ≤ x.obj.sibs.length; omega, hne, htr⟩
     ·have R := hcw; exact cv_
     ·exact sub_
   ·refine an_ ?_
    refine ad_ ?_
    refine ad_ ?_
    refine aj_ ?_
    refine ab_ ?_
    obtain rfl : j = x.obj.sibs.length := by omega
    rw [List.take_length]
    have hfc := fS_ (p := oldS t) x.obj.sibs
    refine k7_ (show Store.tok (Store.newTok ((σ.set o2 (.cells (sBk b).cells)).set o7 (.cells (sObj x.obj).cells)) none tk (9, 1)) tr = none from qi_ hne htr) ?_
    refine r_ ?_
    iterate 6 refine s_ ?_
    refine aa_ ?_
    refine cd_ (fun hc14 => ?_) (fun hc14 => ?_)
    ·have hcv := kJ_ hx (show hasO t x = true by rw [hasO]; rw [List.any_eq_true]; exact rC_ (by omega))
     refine ab_ ?_
     have R := hx
     refine ap_ (.op 0 0 (.op 1 0 (.op 2 0 (.op 3 0 (.op 4 0 (.op 5 0 (.op 6 0 (.op 7 0 (.op 8 0 (.op 9 0 (.op 10 1 (.op 11 0 (.op 12 0 (.op 13 0 (.op 14 0 (.op 15 0 .nil)))))))))))))))) Tryz.mixed kr_ ?_
     iterate 10 refine ds_ ?_
     refine dx_ o_ g_ va_ ((ai_.wkA (args := [vStr x.place, .agg [.sl 3 (x.obj.ctx.map az_) false, .own tr 5 ((x.obj.sibs.filter fun s => !oldS t s).map sSib)]]) (h4_ (o := rpO t x.obj) sx.place (rF_ sx.obj)) rfl (fun i hi hi' => by match i, hi with | 0, _ => exact .refl _ | 1, _ => exact .agg _ _ rfl (fun j hj hj' => by match j, hj with | 0, _ => exact .refl _ | 1, _ => exact .own1 _ _ _)))) ?_; rintro _ _ ⟨rfl, rfl⟩; refine ⟨sub_, ?_⟩
     iterate 5 refine ds_ ?_
     refine aB_ ?_
     refine r_ ?_
     iterate 2 refine s_ ?_
     refine ao_ rfl rfl rfl g_ g_ rfl rfl h_ c2_ (by decide) ?_
     refine aM_ rfl rfl rfl g_ g_ v_ h_ v_ c_ (by simp [fE_]; omega) fun k83 hk83 => ?_
     have t83 : σ.tok k83 = none := (aE_ hk83).2
     refine s_ ?_
     refine aa_ ?_
     refine r_ ?_
     iterate 3 refine s_ ?_
     refine aa_ ?_
     refine aC_ (ι := Nat × Nat) (i := ⟨tk, k⟩) (k83, k + 1) ?_ ?_ ?_ ?_
     ·show b.items.length - (k + 1) < b.items.length - k; omega
     ·exact ⟨by show k + 1 ≤ b.items.length; omega, t83⟩
     ·have R := hcv; exact cv_
     ·exact sub_
    ·have hcv := m1_ hx (by rw [hasO]; exact pO_ (t := t) (by omega))
     refine ae_ ?_
     refine r_ ?_
     iterate 3 refine s_ ?_
     refine aa_ ?_
     refine aC_ (ι := Nat × Nat) (i := ⟨tk, k⟩) (tk, k + 1) ?_ ?_ ?_ ?_
     ·show b.items.length - (k + 1) < b.items.length - k; omega
     ·exact ⟨by show k + 1 ≤ b.items.length; omega, htk⟩
     ·have R := hcv; exact cv_
     ·exact sub_
  ·refine an_ ?_
   refine ad_ ?_
   refine ad_ ?_
   refine aj_ ?_
   refine ab_ ?_
   obtain rfl : k = b.items.length := by omega
   rw [List.take_length]
   refine r_ ?_
   iterate 2 refine s_ ?_
   refine aa_ ?_
   refine af_ ?_
   rw [hR]
   exact aw_ (v := .sl 1 (vBs (cj_ t b.items)) false) (v' := .own tk 1 (vBs (cj_ t b.items))) va_ (.own1 _ _ _) sub_ ⟨rfl, rfl⟩
theorem n9_ {a : List (List UInt8)} {t1 t2 : Bool} {σ : Store} (hl : a.length ≤ 1000000) : ai_ Tryz.prog 14 [.sl 1 (vBs a) t1, .sl 1 (vBs a) t2] σ fun v σ' => v = vB true ∧ σ = σ' := by
 have hva := fE_ a
 refine en_ Tryz.func14 Tryz.ntmps14 Tryz.results14 ?_
 refine rr_ ?_
 refine s_ ?_
 refine aa_ ?_
 refine ab_ ?_
 refine ab_ ?_
 have R := hva
 refine r_ ?_
 iterate 5 refine s_ ?_
 refine aa_ ?_
 refine cd_ (fun hc1 => ?_) (fun hc1 => ?_)
 ·simp at hc1
 ·refine ae_ ?_
  refine ab_ ?_
  refine rr_ ?_
  refine s_ ?_
  refine aa_ ?_
  refine ag_ ?_
  refine ah_ (ι := Nat) (fun k => a.length - k) (fun k => k ≤ a.length) (fun k => [(0, .sl 1 (vBs a) t1), (1, .sl 1 (vBs a) t2), (5, vInt k)]) (fun k => σ) 0 ?_ ?_ ?_ ?_
  ·exact Nat.zero_le _
  ·exact cv_
  ·exact sub_
  rintro k hk
  simp only [ak_, am_]
  refine ab_ ?_
  refine ab_ ?_
  have R := hva
  refine r_ ?_
  iterate 5 refine s_ ?_
  refine gt_ ?_
  refine gt_ ?_
  refine gt_ ?_
  refine gt_ ?_
  refine s_ ?_
  refine aa_ ?_
  refine cd_ (fun hc4 => ?_) (fun hc4 => ?_)
  ·refine ae_ ?_
   refine ab_ ?_
   refine ag_ ?_
   refine ab_ ?_
   obtain ⟨x, hx⟩ := aq_ (l := a) (k := k) (by omega)
   have hv : (vBs a)[k]? = some (vStr (B x)) := by simp [vBs, hx]
   have R := hv
   refine ap_ (.op 0 0 (.op 1 0 (.op 2 0 (.op 3 0 (.op 4 0 (.op 5 0 (.op 6 0 (.op 7 0 (.op 8 0 .nil))))))))) Tryz.mixed kr_ ?_
   iterate 9 refine ds_ ?_
   refine aB_ ?_
   refine cd_ (fun hc6 => ?_) (fun hc6 => ?_)
   ·simp at hc6
   ·refine ae_ ?_
    refine r_ ?_
    iterate 3 refine s_ ?_
    refine aa_ ?_
    refine aC_ (ι := Nat) (i := k) (k + 1) ?_ ?_ ?_ ?_
    ·omega
    ·exact (by omega)
    ·exact cv_
    ·exact sub_
  ·refine an_ ?_
   refine ad_ ?_
   refine ad_ ?_
   refine aj_ ?_
   refine rr_ ?_
   refine s_ ?_
   refine aa_ ?_
   refine af_ ?_
   refine er_ σ ?_
   exact ⟨rfl, rfl⟩
theorem na_ {a b : List Itm} {ta tb : Bool} {σ : Store} (hA : ∀ x ∈ a, ObjSm x.obj) (hB : ∀ x ∈ b, ObjSm x.obj) (hla : a.length ≤ 1000000) (hlb : b.length ≤ 1000000) : ai_ Tryz.prog 17 [.sl 3 (a.map aD_) ta, .sl 3 (b.map aD_) tb] σ fun v σ' => v = vB (decide (a = b)) ∧ σ = σ' := by
 refine en_ Tryz.func17 Tryz.ntmps17 Tryz.results17 ?_
 refine rr_ ?_
 refine s_ ?_
 refine aa_ ?_
 refine rr_ ?_
 iterate 4 refine s_ ?_
 refine x_ g_ va_ (rR_ hA hB hla hlb) ?_; rintro _ _ ⟨rfl, rfl⟩
 refine s_ ?_
 refine aa_ ?_
 refine af_ ?_
 refine er_ σ ?_
 exact ⟨rfl, rfl⟩
theorem lM_ {b : Bk} {o : Obj'} {x : Mnt} {σ : Store} : ai_ Tryz.prog 3 [sBk b, sObj o, sMnt x] σ fun v σ' => v = vB true ∧ σ = σ' := by
 refine en_ Tryz.func3 Tryz.ntmps3 Tryz.results3 ?_
 refine rr_ ?_
 refine bx_ fun o3 ho3 => ?_
 repeat (rw [ac_] at ho3; obtain ⟨_, ho3⟩ := ho3)
 refine bx_ fun o4 ho4 => ?_
 repeat (rw [ac_] at ho4; obtain ⟨_, ho4⟩ := ho4)
 refine bx_ fun o5 ho5 => ?_
 repeat (rw [ac_] at ho5; obtain ⟨_, ho5⟩ := ho5)
 refine s_ ?_
 refine aa_ ?_
 refine ab_ ?_
 refine rr_ ?_
 refine s_ ?_
 refine x_ g_ va_ (jf_) ?_; rintro _ _ ⟨rfl, rfl⟩
 iterate 2 refine s_ ?_
 refine gf_ ?_
 refine bt_ rfl rfl v_ rfl (fun hb => av_ (by rfl) (by rfl) (.inr ⟨by rfl, by rfl, by rfl⟩) g_ cg_ (lr_)) ?_
 refine gf_ ?_
 iterate 2 refine s_ ?_
 refine gf_ ?_
 refine gf_ ?_
 refine gf_ ?_
 refine gf_ ?_
 refine s_ ?_
 refine aa_ ?_
 refine cd_ (fun hc1 => ?_) (fun hc1 => ?_)
 ·refine rr_ ?_
  refine x_ g_ va_ (cu_) ?_; rintro _ _ ⟨rfl, rfl⟩
  refine s_ ?_
  refine aa_ ?_
  refine af_ ?_
  refine er_ σ ?_
  exact ⟨rfl, rfl⟩
 ·have hF : dn_ b = true := hc1.1.1
  have hO := cy_.1 hc1.1.2
  have hP : x.place.size ≤ 1000000 := by omega
  refine ae_ ?_
  refine rr_ ?_
  iterate 6 refine s_ ?_
  refine x_ g_ va_ (eU_ hF hP hO) ?_; rintro _ _ ⟨rfl, rfl⟩
  iterate 5 refine s_ ?_
  refine aa_ ?_
  refine rr_ ?_
  iterate 6 refine s_ ?_
  refine x_ g_ va_ (pT_ hF hP hO) ?_; rintro _ _ ⟨rfl, rfl⟩
  iterate 5 refine s_ ?_
  refine aa_ ?_
  refine rr_ ?_
  iterate 4 refine s_ ?_
  refine x_ g_ va_ (hl_ hF hP hO) ?_; rintro _ _ ⟨rfl, rfl⟩
  iterate 5 refine s_ ?_
  refine aa_ ?_
  refine rr_ ?_
  iterate 4 refine s_ ?_
  refine x_ g_ va_ (rG_ hF hP hO) ?_; rintro _ _ ⟨rfl, rfl⟩
  iterate 5 refine s_ ?_
  refine aa_ ?_
  refine rr_ ?_
  iterate 4 refine s_ ?_
  refine gt_ ?_
  refine gt_ ?_
  refine gt_ ?_
  iterate 2 refine s_ ?_
  refine gt_ ?_
  refine gt_ ?_
  refine gt_ ?_
  iterate 2 refine s_ ?_
  refine gt_ ?_
  refine gt_ ?_
  refine gt_ ?_
  iterate 2 refine s_ ?_
  refine cE_ rfl rfl v_ rfl (fun hb => av_ (by rfl) (by rfl) (.inr ⟨by rfl, by rfl, by rfl⟩) g_ cg_ (cu_)) ?_
  iterate 2 refine s_ ?_
  refine aa_ ?_
  refine af_ ?_
  refine er_ σ ?_
  exact ⟨by simp, rfl⟩
set_option maxHeartbeats 2000000 in
theorem it_ {b : Bk} {s : ByteArray} {n0 n1 n2 : Int} {σ : Store} : ai_ Tryz.prog 4 [sBk b, vStr s, .agg [vInt n0, vInt n1, vInt n2]] σ fun v σ' => v = vB true ∧ σ = σ' := by
 refine en_ Tryz.func4 Tryz.ntmps4 Tryz.results4 ?_
 refine rr_ ?_
 refine bx_ fun o3 ho3 => ?_
 repeat (rw [ac_] at ho3; obtain ⟨_, ho3⟩ := ho3)
 refine bx_ fun o5 ho5 => ?_
 repeat (rw [ac_] at ho5; obtain ⟨_, ho5⟩ := ho5)
 refine s_ ?_
 refine aa_ ?_
 refine ab_ ?_
 refine rr_ ?_
 refine s_ ?_
 refine x_ g_ va_ (jf_) ?_; rintro _ _ ⟨rfl, rfl⟩
 iterate 2 refine s_ ?_
 refine gf_ ?_
 refine gf_ ?_
 refine gf_ ?_
 refine s_ ?_
 refine aa_ ?_
 refine cd_ (fun hc1 => ?_) (fun hc1 => ?_)
 ·refine rr_ ?_
  refine x_ g_ va_ (cu_) ?_; rintro _ _ ⟨rfl, rfl⟩
  refine s_ ?_
  refine aa_ ?_
  refine af_ ?_
  refine er_ σ ?_
  exact ⟨rfl, rfl⟩
 ·have hF : dn_ b = true := hc1.1
  have hP : s.size ≤ 1000000 := by omega
  have hB : BkSm b := (cx_ hF).sm (by omega)
  have hl8 := ee_ hF
  have hrl := kH_ b n0
  have h1 : ∀ x ∈ bukS b s, ObjSm x.obj := fun x hx => (hB.items x (List.mem_filter.1 hx).1).obj
  have h2 : ∀ x ∈ prtS b s n1 n2, ObjSm x.obj := fun x hx => (hB.items x (List.mem_filter.1 hx).1).obj
  have l1 : (bukS b s).length ≤ b.items.length := List.length_filter_le ..
  have l2 : (prtS b s n1 n2).length ≤ b.items.length := List.length_filter_le ..
  refine ae_ ?_
  refine ab_ ?_
  refine ap_ (.op 0 0 (.op 1 0 (.op 2 0 (.op 4 0 (.op 5 0 (.op 6 0 (.op 3 1 (.op 7 1 (.op 8 1 (.op 9 0 (.op 10 0 (.op 11 0 (.op 13 0 (.op 14 0 (.op 12 1 (.op 15 1 (.op 16 1 (.op 17 0 (.op 18 0 (.op 19 0 (.op 20 0 (.op 21 0 (.op 22 0 (.op 23 0 (.op 24 0 (.op 26 0 (.op 27 0 (.op 28 0 (.op 29 0 (.op 30 0 (.op 31 0 (.op 25 1 (.op 32 1 (.op 33 1 (.op 34 0 (.op 35 0 (.op 36 1 (.op 37 0 (.op 38 0 .nil))))))))))))))))))))))))))))))))))))))) Tryz.mixed kr_ ?_
  iterate 6 refine ds_ ?_
  refine dx_ o_ g_ va_ (ga_ hB) ?_; rintro _ _ ⟨rfl, rfl⟩; refine ⟨sub_, ?_⟩
  refine dx_ o_ g_ va_ (rI_ hB) ?_; rintro _ _ ⟨rfl, rfl⟩; refine ⟨sub_, ?_⟩
  refine dx_ o_ g_ va_ (n9_ (by omega)) ?_; rintro _ _ ⟨rfl, rfl⟩; refine ⟨sub_, ?_⟩
  refine ds_ ?_
  refine dgt_ ?_
  refine dgt_ ?_
  refine dgt_ ?_
  refine dgt_ ?_
  refine fi_ o_ (by rfl) (by rfl) v_ (by rfl) sub_ (fun hb => av_ (by rfl) (by rfl) (.inr ⟨by rfl, by rfl, by rfl⟩) g_ cg_ (i1_ hB)) ?_
  refine fi_ o_ (by rfl) (by rfl) v_ (by rfl) sub_ (fun hb => av_ (by rfl) (by rfl) (.inr ⟨by rfl, by rfl, by rfl⟩) g_ cg_ (n1_ hB)) ?_
  refine fi_ o_ (by rfl) (by rfl) v_ (by rfl) sub_ (fun hb => av_ (by rfl) (by rfl) (.inr ⟨by rfl, by rfl, by rfl⟩) g_ cg_ (na_ h1 h1 (by omega) (by omega))) ?_
  iterate 2 refine ds_ ?_
  refine dgt_ ?_
  refine dgt_ ?_
  refine dgt_ ?_
  refine dgt_ ?_
  refine dgt_ ?_
  refine dgt_ ?_
  refine dgt_ ?_
  refine dgt_ ?_
  refine dgt_ ?_
  refine dgt_ ?_
  refine dgt_ ?_
  refine dgt_ ?_
  refine fi_ o_ (by rfl) (by rfl) v_ (by rfl) sub_ (fun hb => av_ (by rfl) (by rfl) (.inr ⟨by rfl, by rfl, by rfl⟩) g_ cg_ (m7_ hB hP)) ?_
  refine fi_ o_ (by rfl) (by rfl) v_ (by rfl) sub_ (fun hb => av_ (by rfl) (by rfl) (.inr ⟨by rfl, by rfl, by rfl⟩) g_ cg_ (rH_ hB hP)) ?_
  refine fi_ o_ (by rfl) (by rfl) v_ (by rfl) sub_ (fun hb => av_ (by rfl) (by rfl) (.inr ⟨by rfl, by rfl, by rfl⟩) g_ cg_ (na_ h2 h2 (by omega) (by omega))) ?_
  iterate 2 refine ds_ ?_
  refine fi_ o_ (by rfl) (by rfl) v_ (by rfl) sub_ (fun hb => av_ (by rfl) (by rfl) (.inr ⟨by rfl, by rfl, by rfl⟩) g_ cg_ (cu_)) ?_
  iterate 2 refine ds_ ?_
  refine aB_ ?_
  refine af_ ?_
  refine er_ σ ?_
  exact ⟨by simp, rfl⟩
end Go.Proofs.YtcaflcpcbcneiaaGreat
end
