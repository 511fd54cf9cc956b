/-
  Objects of bytes; The document's books: with, without, minted; its frames; The document's frames; Apply and Replay of books, both sides. Own work (an AI agent).
-/
import Derived.Test.YtcaflcpcbcneiaaGreatGG
import Derived.Test.YtcaflcpcbcneiaaGreatGH
import Derived.Test.YtcaflcpcbcneiaaGreatGI
import Derived.Test.YtcaflcpcbcneiaaGreatGJ

section
set_option linter.all false
set_option maxRecDepth 100000
namespace Go.Proofs.YtcaflcpcbcneiaaGreat
open Go.Ab
def obj0 : Obj' := ⟨[], []⟩
def ofOk (s : List UInt8) : Bool := (bf_ (s, true)).2.2 && decide ((bf_ (s, true)).2.1 = []) && be_ (bf_ (s, true)).1 && decide (objB (bf_ (s, true)).1 = s)
def ofW (s : List UInt8) : Obj' × Int := if ofOk s then ((bf_ (s, true)).1, 0) else (obj0, 3)
theorem v2_ {s : List UInt8} {σ : Store} (hsm : ObjSm (bf_ (s, true)).1) : ai_ Tryz.prog 64 [vStr (B s)] σ fun v σ' => v = .tup [sObj (ofW s).1, vInt (ofW s).2] ∧ σ = σ' := by
 have hdef : ofOk s = ((bf_ (s, true)).2.2 && decide ((bf_ (s, true)).2.1 = []) && be_ (bf_ (s, true)).1 && decide (objB (bf_ (s, true)).1 = s)) := rfl
 obtain ⟨o, ho⟩ : ∃ o, (bf_ (s, true)).1 = o := ⟨_, rfl⟩
 obtain ⟨y, hy⟩ : ∃ y, (bf_ (s, true)).2 = y := ⟨_, rfl⟩
 rw [ho] at hsm
 rw [ho, hy] at hdef
 have hof : ofW s = if ofOk s then (o, 0) else (obj0, 3) := by rw [ofW, ho]
 refine en_ Tryz.func64 Tryz.ntmps64 Tryz.results64 ?_
 refine rr_ ?_
 refine lc_ fun o2 ho2 => ?_
 repeat (rw [ac_] at ho2; obtain ⟨_, ho2⟩ := ho2)
 refine s_ ?_
 refine aa_ ?_
 refine rr_ ?_
 iterate 2 refine s_ ?_
 refine bx_ fun o8 ho8 => ?_
 repeat (rw [ac_] at ho8; obtain ⟨_, ho8⟩ := ho8)
 refine s_ ?_
 refine aa_ ?_
 have hr : (σ.set o2 (.cells [.lit (.slice none 0 0), .lit (.slice none 0 0)])).heap o8 = none := by rw [Store.set_ne _ _ ‹_›]; assumption
 have hw : ((σ.set o2 (.cells [.lit (.slice none 0 0), .lit (.slice none 0 0)])).set o8 (.cells [vStr (B s), .lit (.bool false)])).heap o8 = some (rfO (s, true)) := Store.set_get ..
 refine rr_ ?_
 refine s_ ?_
 refine x_ g_ va_ (tY_ (x := (s, true)) hw) ?_; rintro _ τ ⟨rfl, g1, g2⟩
 rw [ho]
 rw [hy] at g1
 have n2 : o2 ≠ o8 := Ne.symm (fun hh => by rw [hh, Store.set_get] at hr; cases hr)
 have t2 := keep g2 (i := o2) (x := .cells (.lit (.slice none 0 0) :: [.lit (.slice none 0 0)])) (by rw [Store.set_ne _ _ n2]; exact Store.set_get ..) (by simpa using n2)
 refine lc_ fun o5 ho5 => ?_
 repeat (rw [ac_] at ho5; obtain ⟨_, ho5⟩ := ho5)
 refine st_ ?_
 refine aa_ ?_
 skip
 have n25 := aF_ t2 ho5
 have hrs : σ.heap o8 = none := by rwa [Store.set_ne _ _ (Ne.symm n2)] at hr
 have st : SubX [] σ τ := ⟨fun i x _ hx => by
  have h1 : i ≠ o8 := fun hh => by rw [hh, hrs] at hx; cases hx
  have h2 : i ≠ o2 := fun hh => by rw [hh, ho2] at hx; cases hx
  exact g2.1 i x (by simpa using h1) (by rw [Store.set_ne _ _ h1, Store.set_ne _ _ h2]; exact hx), fun t n ht => g2.2 t n ht⟩
 have n5σ : σ.heap o5 = none := SubX.noObj st ho5 (by simp)
 have g1' : ((τ.set o5 (.cells [.lit (.slice none 0 0), .lit (.slice none 0 0)])).set o5 (.cells (sObj o).cells)).heap o8 = some (rfO y) := by
  have n5 := aF_ g1 ho5
  rw [Store.set_set, Store.set_ne _ _ n5]; exact g1
 refine ab_ ?_
 refine rr_ ?_
 refine s_ ?_
 refine x_ g_ va_ (m5_ g1') ?_; rintro _ _ ⟨rfl, rfl⟩
 iterate 2 refine s_ ?_
 refine gf_ ?_
 refine bt_ rfl rfl v_ rfl (fun hb => av_ (by rfl) (by rfl) (.inr ⟨by rfl, by rfl, by rfl⟩) g_ cg_ (dF_ hsm)) ?_
 refine gf_ ?_
 iterate 2 refine s_ ?_
 refine gf_ ?_
 refine bt_ rfl rfl v_ rfl (fun hb => av_ (by rfl) (by rfl) (.inr ⟨by rfl, by rfl, by rfl⟩) g_ cg_ (sI_ hsm)) ?_
 refine gf_ ?_
 refine gf_ ?_
 refine s_ ?_
 refine aa_ ?_
 refine cd_ (fun hc3 => ?_) (fun hc3 => ?_)
 ·skip
  have hfl : ofOk s = false := by
   skip
   rw [hdef]
   rcases hc3 with ((h | h) | h) | h
   ·simp [h]
   ·simp [h]
   ·simp [h]
   ·rw [db_] at h; simp [h]
  refine ab_ ?_
  have R := t2
  refine r_ ?_
  refine s_ ?_
  refine st_ ?_
  refine s_ ?_
  refine aa_ ?_
  refine af_ ?_
  rw [hof, hfl]
  exact aw_ (v := .tup [sObj obj0, vInt 3]) (v' := .tup [.agg [vNil, vNil], vInt 3]) va_ (.tup _ _ rfl (fun i hi hi' => by match i, hi with | 0, _ => exact .agg _ _ rfl (fun j hj hj' => by match j, hj with | 0, _ => exact .nil _ _ | 1, _ => exact .nil _ _) | 1, _ => exact .refl _)) (bd_ (ar_ ho2 (ar_ n5σ (ar_ n5σ st)))) ⟨rfl, rfl⟩
 ·skip
  have htr : ofOk s = true := by
   rw [db_] at hc3
   rw [hdef]; simp [hc3.1.1.1, hc3.1.1.2, hc3.1.2, hc3.2]
  refine ae_ ?_
  refine ab_ ?_
  have R := t2
  refine r_ ?_
  refine s_ ?_
  refine st_ ?_
  refine s_ ?_
  refine aa_ ?_
  refine af_ ?_
  rw [hof, htr]
  exact au_ (σ' := σ) va_ (bd_ (ar_ ho2 (ar_ n5σ (ar_ n5σ st)))) ⟨rfl, rfl⟩
def outK (s : ByteArray) (l : List Itm) : List Itm := l.filter fun x => !decide (x.place = s)
theorem mN_ (s : ByteArray) (l : List Itm) : (outK s l).length ≤ l.length := List.length_filter_le ..
theorem rn_ {s : ByteArray} {l : List Itm} {i : Nat} {x : Itm} (hx : l[i]? = some x) (h : x.place ≠ s) : (outK s (l.take (i + 1))).map aD_ = (outK s (l.take i)).map aD_ ++ [aD_ x] := by
 rw [ax_ hx, outK, List.filter_append, List.map_append]; simp [h, outK]
theorem tH_ {s : ByteArray} {l : List Itm} {i : Nat} {x : Itm} (hx : l[i]? = some x) (h : x.place = s) : (outK s (l.take (i + 1))).map aD_ = (outK s (l.take i)).map aD_ := by
 rw [ax_ hx, outK, List.filter_append, List.map_append]; simp [h, outK]
theorem kY_ {L : List Itm} {s : ByteArray} {t : Bool} {σ : Store} (hl : L.length ≤ 1000000) : ai_ Tryz.prog 66 [.sl 3 (L.map aD_) t, vStr s] σ fun v σ' => v = .sl 3 ((outK s L).map aD_) false ∧ σ = σ' := by
 have hol := fun i => mN_ s (L.take i)
 have htl := fun i => List.length_take_le i L
 refine en_ Tryz.func66 Tryz.ntmps66 Tryz.results66 ?_
 refine rr_ ?_
 refine s_ ?_
 refine aa_ ?_
 refine rr_ ?_
 refine a8_ 55 3 rfl rfl rfl (by rfl) fun k5 hk5 => ?_
 refine aa_ ?_
 refine ab_ ?_
 refine rr_ ?_
 refine s_ ?_
 refine aa_ ?_
 refine ag_ ?_
 refine ah_ (ι := Nat × Nat) (fun ⟨tk, i⟩ => L.length - i) (fun ⟨tk, i⟩ => i ≤ L.length ∧ σ.tok tk = none) (fun ⟨tk, i⟩ => [(0, .sl 3 (L.map aD_) t), (1, vStr s), (5, .own tk 3 ((outK s (L.take i)).map aD_)), (6, vInt i)]) (fun ⟨tk, i⟩ => (σ.newTok none tk (55, 3))) (k5, 0) ?_ ?_ ?_ ?_
 ·exact ⟨Nat.zero_le _, hk5⟩
 ·exact cv_
 ·exact Store.Wk.refl _
 rintro ⟨tk, i⟩ ⟨hi, htk⟩
 simp only [ak_, am_]
 refine ab_ ?_
 refine rr_ ?_
 iterate 4 refine s_ ?_
 refine aa_ ?_
 refine cd_ (fun hc3 => ?_) (fun hc3 => ?_)
 ·refine ae_ ?_
  refine ab_ ?_
  refine ag_ ?_
  refine ab_ ?_
  obtain ⟨x, hx⟩ := aq_ (l := L) (k := i) (by omega)
  have h1 := hol i
  have h2 := htl i
  have R := hx
  refine r_ ?_
  iterate 7 refine s_ ?_
  refine aa_ ?_
  refine cd_ (fun hc5 => ?_) (fun hc5 => ?_)
  ·have hcv := rn_ hx hc5
   have R := hx
   refine r_ ?_
   iterate 5 refine s_ ?_
   refine ao_ rfl rfl rfl g_ g_ rfl rfl h_ c2_ (by decide) ?_
   refine aM_ rfl rfl rfl g_ g_ v_ h_ v_ c_ (by simp; omega) fun k26 hk26 => ?_
   refine s_ ?_
   refine aa_ ?_
   refine r_ ?_
   iterate 3 refine s_ ?_
   refine aa_ ?_
   refine aC_ (ι := Nat × Nat) (i := ⟨tk, i⟩) (k26, i + 1) ?_ ?_ ?_ ?_
   ·show L.length - (i + 1) < L.length - i; omega
   ·exact ⟨by show i + 1 ≤ L.length; omega, (aE_ hk26).2⟩
   ·have R := hcv; exact cv_
   ·exact sub_
  ·have hcv := tH_ hx (by simpa using hc5)
   refine ae_ ?_
   refine r_ ?_
   iterate 3 refine s_ ?_
   refine aa_ ?_
   refine aC_ (ι := Nat × Nat) (i := ⟨tk, i⟩) (tk, i + 1) ?_ ?_ ?_ ?_
   ·show L.length - (i + 1) < L.length - i; omega
   ·exact ⟨by show i + 1 ≤ L.length; omega, htk⟩
   ·have R := hcv; exact cv_
   ·exact sub_
 ·refine an_ ?_
  refine ad_ ?_
  refine ad_ ?_
  refine aj_ ?_
  refine ab_ ?_
  obtain rfl : i = L.length := by omega
  rw [List.take_length]
  refine r_ ?_
  iterate 2 refine s_ ?_
  refine aa_ ?_
  refine af_ ?_
  exact aw_ (v := .sl 3 ((outK s L).map aD_) false) (v' := .own tk 3 ((outK s L).map aD_)) va_ (.own1 _ _ _) sub_ ⟨rfl, rfl⟩
theorem rd_ {x : Itm} {l : List Itm} {k : Nat} (h : cn_ Itm.place l) (hk : lowK Itm.place x.place (outK x.place l) = k) : insK Itm.place x l = (outK x.place l).take k ++ x :: (outK x.place l).drop k := by
 have e : (l.filter fun y => decide (y.place ≠ x.place)) = outK x.place l := by unfold outK; congr 1; funext y; simp
 rw [lz_ h, e, hk]
theorem mD_ {α : Type} {key : α → ByteArray} {l : List α} {s : ByteArray} {k : Nat} {x : α} (hk : k ≤ l.length) (h1 : LoK key l s k) (hx : k < l.length → l[k]? = some x) (h : l.length ≤ k ∨ sLt (key x) s = false) : lowK key s l = k := lC_ h1 hk fun y hy => by
 have hlt := (List.getElem?_eq_some_iff.1 hy).1
 rcases h with h | h
 ·omega
 ·rw [hx hlt] at hy; obtain rfl := Option.some.inj hy; exact h
theorem mA_ {α : Type} {key : α → ByteArray} {l : List α} {s : ByteArray} {k : Nat} {x : α} (h1 : LoK key l s k) (hx : l[k]? = some x) (h : sLt (key x) s = true) : LoK key l s (k + 1) := fun m y hm hy => by
 rcases Nat.lt_or_eq_of_le (Nat.le_of_lt_succ hm) with hh | hh
 ·exact h1 m y hh hy
 ·rw [hh, hx] at hy; obtain rfl := Option.some.inj hy; exact h
set_option maxHeartbeats 1000000 in
theorem pG_ {L : List Itm} {x : Itm} {t : Bool} {σ : Store} (hr : cn_ Itm.place L) (hl : L.length ≤ 1000000) : ai_ Tryz.prog 65 [.sl 3 (L.map aD_) t, aD_ x] σ fun v σ' => v = .sl 3 ((insK Itm.place x L).map aD_) false ∧ σ = σ' := by
 obtain ⟨R0, hR0⟩ : ∃ R, outK x.place L = R := ⟨_, rfl⟩
 have hRl := mN_ x.place L
 rw [hR0] at hRl
 refine en_ Tryz.func65 Tryz.ntmps65 Tryz.results65 ?_
 refine rr_ ?_
 refine bx_ fun o3 ho3 => ?_
 repeat (rw [ac_] at ho3; obtain ⟨_, ho3⟩ := ho3)
 refine s_ ?_
 refine aa_ ?_
 refine rr_ ?_
 iterate 3 refine s_ ?_
 refine x_ g_ va_ (kY_ hl) ?_; rintro _ _ ⟨rfl, rfl⟩
 rw [hR0]
 refine s_ ?_
 refine aa_ ?_
 refine rr_ ?_
 refine s_ ?_
 refine aa_ ?_
 refine ab_ ?_
 refine ag_ ?_
 refine ah_ (ι := Nat) (fun i => R0.length - i) (fun i => i ≤ R0.length ∧ LoK Itm.place R0 x.place i) (fun i => [(3, .ref o3 0), (5, .sl 3 (R0.map aD_) false), (6, vInt i)]) (fun i => (σ.set o3 (.cells (aD_ x).cells))) 0 ?_ ?_ ?_ ?_
 ·exact ⟨Nat.zero_le _, fun m y hm => by omega⟩
 ·exact cv_
 ·exact Store.Wk.refl _
 rintro i ⟨hi, hlo⟩
 simp only [ak_, am_]
 refine ab_ ?_
 refine ab_ ?_
 obtain ⟨y, hy⟩ := eO_ R0 i
 have R := hy
 refine ap_ (.op 0 0 (.op 1 0 (.op 2 0 (.op 3 0 (.op 4 0 (.op 5 0 (.op 6 0 (.op 7 0 (.op 8 0 (.op 9 0 (.op 10 0 (.op 11 0 (.op 12 0 (.op 13 0 .nil)))))))))))))) Tryz.mixed kr_ ?_
 iterate 5 refine ds_ ?_
 refine dgt_ ?_
 refine dgt_ ?_
 refine dgt_ ?_
 refine dgt_ ?_
 refine dgt_ ?_
 refine dgt_ ?_
 refine dgt_ ?_
 refine dgt_ ?_
 refine ds_ ?_
 refine aB_ ?_
 refine cd_ (fun hc3 => ?_) (fun hc3 => ?_)
 ·refine ae_ ?_
  refine ag_ ?_
  refine r_ ?_
  iterate 3 refine s_ ?_
  refine aa_ ?_
  refine aC_ (ι := Nat) (i := i) (i + 1) ?_ ?_ ?_ ?_
  ·omega
  ·exact ⟨by omega, mA_ hlo (hy (by omega)) hc3.2⟩
  ·exact cv_
  ·exact sub_
 ·refine an_ ?_
  refine ad_ ?_
  refine ad_ ?_
  refine aj_ ?_
  refine rr_ ?_
  refine a8_ 55 3 rfl rfl rfl (by rfl) fun k7 hk7 => ?_
  refine aa_ ?_
  refine rr_ ?_
  iterate 4 refine s_ ?_
  refine aM_ rfl rfl rfl g_ g_ v_ h_ v_ (fun y hy => sF_ R0 y (List.mem_of_mem_take hy)) (by simp; omega) fun k32 hk32 => ?_
  have t32 : σ.tok k32 = none := (aE_ hk32).2
  rw [Store.newTok_step (show Store.tok (σ.set o3 _) k7 = none from hk7)]
  refine s_ ?_
  refine aa_ ?_
  refine rr_ ?_
  iterate 2 refine s_ ?_
  refine ao_ rfl rfl rfl g_ g_ rfl rfl h_ c2_ (by decide) ?_
  refine aM_ rfl rfl rfl g_ g_ v_ h_ v_ c_ (by simp; omega) fun k36 hk36 => ?_
  have t36 : σ.tok k36 = none := (aE_ hk36).2
  rw [Store.newTok_step (show Store.tok (σ.set o3 _) k32 = none from t32)]
  refine s_ ?_
  refine aa_ ?_
  refine rr_ ?_
  iterate 4 refine s_ ?_
  refine aM_ rfl rfl rfl g_ g_ v_ h_ v_ (fun y hy => sF_ R0 y (List.mem_of_mem_take (List.mem_of_mem_drop hy))) (by simp; omega) fun k41 hk41 => ?_
  have t41 : σ.tok k41 = none := (aE_ hk41).2
  rw [Store.newTok_step (show Store.tok (σ.set o3 _) k36 = none from t36)]
  refine s_ ?_
  refine aa_ ?_
  refine rr_ ?_
  iterate 2 refine s_ ?_
  refine aa_ ?_
  refine af_ ?_
  rw [rd_ (k := i) hr (by rw [hR0]; exact mD_ hi hlo hy (by simpa using hc3)), hR0]
  refine aw_ (v := .sl 3 ((R0.take i ++ x :: R0.drop i).map aD_) false) (v' := .own k41 3 (List.take i (R0.map aD_) ++ [aD_ x] ++ List.drop i (List.take R0.length (R0.map aD_)))) va_ ?_ sub_ ⟨rfl, rfl⟩
  rw [show (R0.take i ++ x :: R0.drop i).map aD_ = List.take i (R0.map aD_) ++ [aD_ x] ++ List.drop i (List.take R0.length (R0.map aD_)) from by rw [show List.take R0.length (R0.map aD_) = R0.map aD_ from List.take_of_length_le (by simp)]; simp]
  exact .own1 _ _ _
theorem mn_ {α : Type} {key : α → ByteArray} {l : List α} {s : ByteArray} (h : cn_ key l) : (l.find? fun y => decide (key y = s)) = if atK key l s then l[lowK key s l]? else none := by
 by_cases ha : atK key l s = true
 ·rw [if_pos ha]
  have hlt := hr_ ha
  have ha' : (l[lowK key s l]?).any (fun y => decide (key y = s)) = true := ha
  rw [List.getElem?_eq_getElem hlt] at ha' ⊢
  exact eI_ (List.getElem?_eq_getElem hlt) ha' fun m y hm hy => decide_eq_false (fn_ (lD_ hm hy))
 ·rw [if_neg ha]
  refine List.find?_eq_none.2 fun y hy => ?_
  obtain ⟨m, hm, e⟩ := List.mem_iff_getElem.1 hy
  have hm' : l[m]? = some y := by rw [List.getElem?_eq_getElem hm, e]
  intro hh
  have hk : key y = s := by simpa using hh
  rcases Nat.lt_trichotomy m (lowK key s l) with h1 | h1 | h1
  ·exact fn_ (lD_ h1 hm') hk
  ·exact ha (by unfold atK; rw [← h1, hm']; simpa using hk)
  ·have hz := List.getElem?_eq_getElem (show lowK key s l < l.length by omega)
   have h2 := pj_ (key := key) hz
   have h3 := ib_ h h1 hz hm'
   rw [hk, h2] at h3; cases h3
theorem kq_ {l : List Mnt} {s : ByteArray} (h : cn_ Mnt.place l) : (atK Mnt.place l s = false → dz_ l s = 1) ∧ ∀ y, atK Mnt.place l s = true → l[lowK Mnt.place s l]? = some y → dz_ l s = y.n + 1 := by
 refine ⟨fun ha => ?_, fun y ha hy => ?_⟩
 ·unfold dz_; rw [mn_ h, ha]; rfl
 ·unfold dz_; rw [mn_ h, ha, hy]; rfl
set_option maxHeartbeats 1000000 in
theorem pE_ {L : List Mnt} {x : Mnt} {t : Bool} {σ : Store} (hr : cn_ Mnt.place L) (hx1 : 1 ≤ x.n) (hl : L.length ≤ 1000000) : ai_ Tryz.prog 69 [.sl 2 (L.map sMnt) t, sMnt x] σ fun v σ' => v = .sl 2 ((insK Mnt.place ⟨x.place, max x.n (dz_ L x.place - 1)⟩ L).map sMnt) false ∧ σ = σ' := by
 refine en_ Tryz.func69 Tryz.ntmps69 Tryz.results69 ?_
 refine rr_ ?_
 refine bx_ fun o3 ho3 => ?_
 repeat (rw [ac_] at ho3; obtain ⟨_, ho3⟩ := ho3)
 refine s_ ?_
 refine aa_ ?_
 refine rr_ ?_
 refine s_ ?_
 refine aa_ ?_
 refine ab_ ?_
 refine ag_ ?_
 refine ah_ (ι := Nat) (fun i => L.length - i) (fun i => i ≤ L.length ∧ LoK Mnt.place L x.place i) (fun i => [(0, .sl 2 (L.map sMnt) t), (3, .ref o3 0), (5, vInt i)]) (fun i => (σ.set o3 (.cells (sMnt x).cells))) 0 ?_ ?_ ?_ ?_
 ·exact ⟨Nat.zero_le _, fun m y hm => by omega⟩
 ·exact cv_
 ·exact Store.Wk.refl _
 rintro i ⟨hi, hlo⟩
 simp only [ak_, am_]
 refine ab_ ?_
 refine ab_ ?_
 obtain ⟨y, hy⟩ := eO_ L i
 have R := hy
 refine ap_ (.op 0 0 (.op 1 0 (.op 2 0 (.op 3 0 (.op 4 0 (.op 5 0 (.op 6 0 (.op 7 0 (.op 8 0 (.op 9 0 (.op 10 0 (.op 11 0 (.op 12 0 (.op 13 0 .nil)))))))))))))) Tryz.mixed kr_ ?_
 iterate 5 refine ds_ ?_
 refine dgt_ ?_
 refine dgt_ ?_
 refine dgt_ ?_
 refine dgt_ ?_
 refine dgt_ ?_
 refine dgt_ ?_
 refine dgt_ ?_
 refine dgt_ ?_
 refine ds_ ?_
 refine aB_ ?_
 refine cd_ (fun hc2 => ?_) (fun hc2 => ?_)
 ·refine ae_ ?_
  refine ag_ ?_
  refine r_ ?_
  iterate 3 refine s_ ?_
  refine aa_ ?_
  refine aC_ (ι := Nat) (i := i) (i + 1) ?_ ?_ ?_ ?_
  ·omega
  ·exact ⟨by omega, mA_ hlo (hy (by omega)) hc2.2⟩
  ·exact cv_
  ·exact sub_
 ·refine an_ ?_
  refine ad_ ?_
  refine ad_ ?_
  refine aj_ ?_
  refine ab_ ?_
  have hk : lowK Mnt.place x.place L = i := mD_ hi hlo hy (by simpa using hc2)
  refine r_ ?_
  refine a8_ 31 2 rfl rfl rfl (by rfl) fun k6 hk6 => ?_
  refine aa_ ?_
  refine rr_ ?_
  iterate 4 refine s_ ?_
  refine aM_ rfl rfl rfl g_ g_ v_ h_ v_ (fun y hy => pt_ L y (List.mem_of_mem_take hy)) (by simp; omega) fun k27 hk27 => ?_
  have t27 : σ.tok k27 = none := (aE_ hk27).2
  rw [Store.newTok_step (show Store.tok (σ.set o3 _) k6 = none from hk6)]
  refine s_ ?_
  refine aa_ ?_
  refine ab_ ?_
  refine ab_ ?_
  have R := hy
  refine ap_ (.op 0 0 (.op 1 0 (.op 2 0 (.op 3 0 (.op 4 0 (.op 5 0 (.op 6 0 (.op 7 0 (.op 8 0 (.op 9 0 (.op 10 0 (.op 11 0 (.op 12 0 (.op 13 0 .nil)))))))))))))) Tryz.mixed kr_ ?_
  iterate 5 refine ds_ ?_
  refine dgt_ ?_
  refine dgt_ ?_
  refine dgt_ ?_
  refine dgt_ ?_
  refine dgt_ ?_
  refine dgt_ ?_
  refine dgt_ ?_
  refine dgt_ ?_
  refine ds_ ?_
  refine aB_ ?_
  refine cd_ (fun hc6 => ?_) (fun hc6 => ?_)
  ·refine ab_ ?_
   have R := hy
   refine ap_ (.op 0 0 (.op 1 0 (.op 2 0 (.op 3 0 (.op 4 0 (.op 5 0 (.op 6 0 (.op 7 0 (.op 8 0 (.op 9 0 (.op 10 0 (.op 11 0 (.op 12 1 (.op 13 2 (.op 14 0 .nil))))))))))))))) Tryz.mixed kr_ ?_
   iterate 12 refine ds_ ?_
   refine dR_X o_ (by rfl) (by rfl) (aS_ (by rfl) g_ g_ (by rfl) (by rfl) h_ c2_ (by decide) ⟨sub_, ?_⟩)
   refine dR_T o_ (by rfl) (by rfl) (bl_ (by rfl) g_ g_ (.inl ⟨_, va_, h_, rfl⟩) (.inl ⟨⟨_, g_⟩, .inl v_, c_⟩) (by simp; omega) fun k55 hk55 => ?_)
   refine ds_ ?_
   refine aB_ ?_
   have t55 : σ.tok k55 = none := (aE_ hk55).2
   rw [Store.newTok_step (show Store.tok (σ.set o3 _) k27 = none from t27)]
   refine rr_ ?_
   iterate 5 refine s_ ?_
   refine aM_ rfl rfl rfl g_ g_ v_ h_ v_ (fun y hy => pt_ L y (List.mem_of_mem_take (List.mem_of_mem_drop hy))) (by simp; omega) fun k61 hk61 => ?_
   have t61 : σ.tok k61 = none := (aE_ hk61).2
   rw [Store.newTok_step (show Store.tok (σ.set o3 _) k55 = none from t55)]
   refine s_ ?_
   refine aa_ ?_
   refine rr_ ?_
   iterate 2 refine s_ ?_
   refine aa_ ?_
   refine af_ ?_
   have hyi := hy (by omega)
   have hat : atK Mnt.place L x.place = true := by unfold atK; rw [hk, hyi]; simpa using hc6.2
   rw [jm_ (x := ⟨x.place, max x.n (dz_ L x.place - 1)⟩) hr hat, hk, (kq_ hr).2 y hat (by rw [hk]; exact hyi), show max x.n (y.n + 1 - 1) = max y.n x.n by omega, List.set_eq_take_append_cons_drop, if_pos (by omega)]
   refine aw_ (v := .sl 2 ((L.take i ++ ⟨x.place, max y.n x.n⟩ :: L.drop (i + 1)).map sMnt) false) (v' := .own k61 2 (List.take i (L.map sMnt) ++ [.agg [vStr x.place, vInt (max y.n x.n)]] ++ List.drop (i + 1) (List.take L.length (L.map sMnt)))) va_ ?_ sub_ ⟨rfl, rfl⟩
   rw [show (L.take i ++ ⟨x.place, max y.n x.n⟩ :: L.drop (i + 1)).map sMnt = List.take i (L.map sMnt) ++ [.agg [vStr x.place, vInt (max y.n x.n)]] ++ List.drop (i + 1) (List.take L.length (L.map sMnt)) from by rw [show List.take L.length (L.map sMnt) = L.map sMnt from List.take_of_length_le (by simp)]; simp]
   exact .own1 _ _ _
  ·refine ae_ ?_
   refine rr_ ?_
   iterate 2 refine s_ ?_
   refine ao_ rfl rfl rfl g_ g_ rfl rfl h_ c2_ (by decide) ?_
   refine aM_ rfl rfl rfl g_ g_ v_ h_ v_ c_ (by simp; omega) fun k66 hk66 => ?_
   have t66 : σ.tok k66 = none := (aE_ hk66).2
   rw [Store.newTok_step (show Store.tok (σ.set o3 _) k27 = none from t27)]
   refine s_ ?_
   refine aa_ ?_
   refine rr_ ?_
   iterate 4 refine s_ ?_
   refine aM_ rfl rfl rfl g_ g_ v_ h_ v_ (fun y hy => pt_ L y (List.mem_of_mem_take (List.mem_of_mem_drop hy))) (by simp; omega) fun k71 hk71 => ?_
   have t71 : σ.tok k71 = none := (aE_ hk71).2
   rw [Store.newTok_step (show Store.tok (σ.set o3 _) k66 = none from t66)]
   refine s_ ?_
   refine aa_ ?_
   refine rr_ ?_
   iterate 2 refine s_ ?_
   refine aa_ ?_
   refine af_ ?_
   have hat : atK Mnt.place L x.place = false := by
    rw [← j0_ hk hy, Bool.and_eq_false_iff, decide_eq_false_iff_not, decide_eq_false_iff_not, hw_]
    rcases hc6 with h | h
    ·exact .inl (by omega)
    ·exact .inr (by simpa using h)
   rw [lA_ (x := ⟨x.place, max x.n (dz_ L x.place - 1)⟩) hr hat, hk, (kq_ hr).1 hat, show max x.n (1 - 1) = x.n by omega]
   refine aw_ (v := .sl 2 ((L.take i ++ ⟨x.place, x.n⟩ :: L.drop i).map sMnt) false) (v' := .own k71 2 (List.take i (L.map sMnt) ++ [sMnt x] ++ List.drop i (List.take L.length (L.map sMnt)))) va_ ?_ sub_ ⟨rfl, rfl⟩
   rw [show (L.take i ++ ⟨x.place, x.n⟩ :: L.drop i).map sMnt = List.take i (L.map sMnt) ++ [sMnt x] ++ List.drop i (List.take L.length (L.map sMnt)) from by rw [show List.take L.length (L.map sMnt) = L.map sMnt from List.take_of_length_le (by simp)]; simp]
   exact .own1 _ _ _
def bk0 : Bk := ⟨[], []⟩
def apS (b : Bk) (r : List UInt8) : Bk × Int := if bkOk b then if (apl b r).2 then ((apl b r).1, 0) else (bk0, 3) else (bk0, 1)
theorem kZ_ {n : Int} : Wk (.tup [.agg [vNil, vNil], vInt n]) (.tup [sBk bk0, vInt n]) := .tup _ _ rfl (fun i hi hi' => by match i, hi with | 0, _ => exact .agg _ _ rfl (fun j hj hj' => by match j, hj with | 0, _ => exact .nil _ _ | 1, _ => exact .nil _ _) | 1, _ => exact .refl _)
theorem l3_ {b : Bk} {r : List UInt8} {σ : Store} (hs : BkSm b) (ho : ObjSm (bf_ (hdX r)).1) : ai_ Tryz.prog 37 [sBk b, vStr (B r)] σ fun v σ' => v = .tup [sBk (apS b r).1, vInt (apS b r).2] ∧ σ = σ' := by
 refine en_ Tryz.func37 Tryz.ntmps37 Tryz.results37 ?_
 refine rr_ ?_
 refine bx_ fun o2 ho2 => ?_
 repeat (rw [ac_] at ho2; obtain ⟨_, ho2⟩ := ho2)
 refine lc_ fun o4 ho4 => ?_
 repeat (rw [ac_] at ho4; obtain ⟨_, ho4⟩ := ho4)
 refine s_ ?_
 refine aa_ ?_
 refine ab_ ?_
 refine rr_ ?_
 refine s_ ?_
 refine x_ g_ va_ (hs_ hs) ?_; rintro _ _ ⟨rfl, rfl⟩
 refine s_ ?_
 refine aa_ ?_
 refine cd_ (fun hc1 => ?_) (fun hc1 => ?_)
 ·have hb : bkOk b = false := by cases h : bkOk b with | false => rfl | true => rw [h] at hc1; simp at hc1
  refine rr_ ?_
  refine s_ ?_
  refine st_ ?_
  refine s_ ?_
  refine aa_ ?_
  refine af_ ?_
  rw [show apS b r = (bk0, 1) from by rw [apS, hb]; rfl]
  exact aw_ (v := .tup [sBk bk0, vInt 1]) (v' := .tup [.agg [vNil, vNil], vInt 1]) va_ kZ_ sub_ ⟨rfl, rfl⟩
 ·have hb : bkOk b = true := by cases h : bkOk b with | true => rfl | false => rw [h] at hc1; simp at hc1
  refine ae_ ?_
  refine rr_ ?_
  iterate 2 refine s_ ?_
  refine x_ g_ va_ (s3_ hb hs ho) ?_; rintro _ _ ⟨rfl, rfl⟩
  iterate 3 refine s_ ?_
  refine lc_ fun o6 ho6 => ?_
  repeat (rw [ac_] at ho6; obtain ⟨_, ho6⟩ := ho6)
  refine st_ ?_
  refine s_ ?_
  refine aa_ ?_
  refine ab_ ?_
  refine rr_ ?_
  iterate 2 refine s_ ?_
  refine aa_ ?_
  refine cd_ (fun hc4 => ?_) (fun hc4 => ?_)
  ·refine rr_ ?_
   refine s_ ?_
   refine st_ ?_
   refine s_ ?_
   refine aa_ ?_
   refine af_ ?_
   rw [show apS b r = (bk0, 3) from by rw [apS, hb, show (apl b r).2 = false by simpa using hc4]; rfl]
   exact aw_ (v := .tup [sBk bk0, vInt 3]) (v' := .tup [.agg [vNil, vNil], vInt 3]) va_ kZ_ sub_ ⟨rfl, rfl⟩
  ·refine ae_ ?_
   refine rr_ ?_
   refine s_ ?_
   refine st_ ?_
   refine s_ ?_
   refine aa_ ?_
   refine af_ ?_
   refine er_ σ ?_
   exact ⟨by rw [apS, hb, show (apl b r).2 = true by simpa using hc4]; rfl, rfl⟩
theorem uD_ {b : Bk} {r : List UInt8} (hp : aH_ (hdP r) = true) (hk : hdK r = 1) : apl b r = (⟨insK Itm.place ⟨hdP r, (bf_ ((hdX r).1, true)).1⟩ b.items, b.mints⟩, ofOk (hdX r).1) := by
 have hx := q8_ hp
 obtain ⟨_, k, h1, h2⟩ := g7_ hp
 have e : bf_ (hdX r) = bf_ ((hdX r).1, true) := congrArg bf_ hx
 have hk1 : k = 1 := UInt8.toNat_inj.1 (by have : (k.toNat : Int) = 1 := h1 ▸ hk; simpa using (by omega : k.toNat = 1))
 unfold apl
 rw [if_pos hp, if_pos hk, e]
 have hput : decide (putR (hdP r) (bf_ ((hdX r).1, true)).1 = r) = decide (objB (bf_ ((hdX r).1, true)).1 = (hdX r).1) := by
  rw [decide_eq_decide]
  conv => lhs; rhs; rw [h2, hk1]
  unfold putR
  simp
 rw [hput]; rfl
theorem uE_ {b : Bk} {r : List UInt8} (hp : aH_ (hdP r) = true) (hk : hdK r = 2) : apl b r = (⟨outK (hdP r) b.items, b.mints⟩, decide ((hdX r).1 = [])) := by
 have hx := (g7_ hp).1
 unfold apl
 rw [if_pos hp, if_neg (by omega), if_pos hk, fr_, hx]; rfl
theorem uF_ {b : Bk} {r : List UInt8} (hp : aH_ (hdP r) = true) (hk : hdK r = 3) : apl b r = (⟨b.items, insK Mnt.place ⟨hdP r, max (aL_ (hdX r) 8).1 (dz_ b.mints (hdP r) - 1)⟩ b.mints⟩, fr_ (aL_ (hdX r) 8).2 && cw_ (aL_ (hdX r) 8).1) := by
 unfold apl
 rw [if_pos hp, if_neg (by omega), if_neg (by omega), if_pos hk]
theorem sp_ {b : Bk} {r : List UInt8} (h : aH_ (hdP r) = false ∨ (hdK r ≠ 1 ∧ hdK r ≠ 2 ∧ hdK r ≠ 3)) : apl b r = (b, false) := by
 unfold apl
 split
 ·rename_i hp
  rcases h with h | ⟨h1, h2, h3⟩
  ·rw [h] at hp; cases hp
  ·rw [if_neg h1, if_neg h2, if_neg h3]
 ·rfl
set_option maxHeartbeats 2000000 in
theorem dj_ {b : Bk} {r : List UInt8} {σ : Store} (hs : BkSm b) (hr : r.length ≤ 1000000000000) (ho : ObjSm (bf_ (hdX r)).1) : ai_ Tryz.prog 24 [sBk b, vStr (B r)] σ fun v σ' => v = .tup [sBk (apS b r).1, vInt (apS b r).2] ∧ σ = σ' := by
 obtain ⟨y1, hy1⟩ : ∃ y, aL_ (r, true) 1 = y := ⟨_, rfl⟩
 obtain ⟨y2, hy2⟩ : ∃ y, as_ y1.2 = y := ⟨_, rfl⟩
 have hK : hdK r = y1.1 := by rw [hdK, hy1]
 have hP : hdP r = B y2.1 := by rw [hdP, hy1, hy2]
 have hX : hdX r = y2.2 := by rw [hdX, hy1, hy2]
 have hpl : (B y2.1).size ≤ 1048576 := by
  rw [a3_, ← hy2]
  exact Nat.le_trans cP_ (dG_ _ _)
 have ni := hs.ni; have nm := hs.nm
 refine en_ Tryz.func24 Tryz.ntmps24 Tryz.results24 ?_
 refine rr_ ?_
 refine bx_ fun o2 ho2 => ?_
 repeat (rw [ac_] at ho2; obtain ⟨_, ho2⟩ := ho2)
 refine lc_ fun o4 ho4 => ?_
 repeat (rw [ac_] at ho4; obtain ⟨_, ho4⟩ := ho4)
 refine s_ ?_
 refine aa_ ?_
 refine ab_ ?_
 refine rr_ ?_
 refine s_ ?_
 refine x_ g_ va_ (gA_ hs) ?_; rintro _ _ ⟨rfl, rfl⟩
 refine s_ ?_
 refine aa_ ?_
 refine cd_ (fun hc1 => ?_) (fun hc1 => ?_)
 ·refine rr_ ?_
  refine s_ ?_
  refine st_ ?_
  refine s_ ?_
  refine aa_ ?_
  refine af_ ?_
  rw [show apS b r = (bk0, 1) from by rw [apS, show bkOk b = false by simpa using hc1]; rfl]
  exact aw_ (v := .tup [sBk bk0, vInt 1]) (v' := .tup [.agg [vNil, vNil], vInt 1]) va_ kZ_ sub_ ⟨rfl, rfl⟩
 ·have hb : bkOk b = true := by simpa using hc1
  obtain ⟨⟨ri, _⟩, rm, cm⟩ := bY_.1 hb
  have hap0 : apS b r = if (apl b r).2 then ((apl b r).1, 0) else (bk0, 3) := by rw [apS, hb]; rfl
  refine ae_ ?_
  refine rr_ ?_
  iterate 2 refine s_ ?_
  refine bx_ fun o18 ho18 => ?_
  repeat (rw [ac_] at ho18; obtain ⟨_, ho18⟩ := ho18)
  refine s_ ?_
  refine aa_ ?_
  refine rr_ ?_
  refine s_ ?_
  refine x_ g_ va_ (m4_ (x := (r, true)) (Store.set_get ..)) ?_; rintro _ _ ⟨rfl, rfl⟩
  rw [hy1]
  refine s_ ?_
  refine aa_ ?_
  refine rr_ ?_
  refine s_ ?_
  refine x_ g_ va_ (hk_ (x := y1.2) (Store.set_get ..)) ?_; rintro _ _ ⟨rfl, rfl⟩
  rw [hy2]
  refine s_ ?_
  refine aa_ ?_
  refine ab_ ?_
  refine rr_ ?_
  iterate 5 refine s_ ?_
  refine gf_ ?_
  refine bt_ rfl rfl v_ rfl (fun hb => av_ (by rfl) (by rfl) (.inr ⟨by rfl, by rfl, by rfl⟩) g_ cg_ (cO_ (by omega))) ?_
  refine gf_ ?_
  refine s_ ?_
  refine aa_ ?_
  refine cd_ (fun hc6 => ?_) (fun hc6 => ?_)
  ·refine rr_ ?_
   refine s_ ?_
   refine st_ ?_
   refine s_ ?_
   refine aa_ ?_
   refine af_ ?_
   have hno : aH_ (hdP r) = false := by
    cases hp : aH_ (hdP r) with
    |false => rfl
    |true =>
     have h1 := (g7_ hp).1
     rw [hX] at h1
     rw [hP] at hp
     rcases hc6 with h | h
     ·rw [h1] at h; simp at h
     ·rw [hp] at h; simp at h
   rw [show apS b r = (bk0, 3) from by rw [hap0, sp_ (.inl hno)]; rfl]
   exact aw_ (v := .tup [sBk bk0, vInt 3]) (v' := .tup [.agg [vNil, vNil], vInt 3]) va_ kZ_ sub_ ⟨rfl, rfl⟩
  ·have hf : y2.2.2 = true := by simpa using hc6.1
   have hp : aH_ (hdP r) = true := by rw [hP]; simpa using hc6.2
   obtain ⟨l, hl⟩ : ∃ l, y2.2 = (l, true) := ⟨y2.2.1, by rw [← hf]⟩
   have hX1 : (hdX r).1 = l := by rw [hX, hl]
   rw [hX, hl] at ho
   have hl1 : y2.2.1 = l := by rw [hl]
   refine ae_ ?_
   refine ab_ ?_
   refine rr_ ?_
   refine s_ ?_
   refine aa_ ?_
   refine ag_ ?_
   refine rr_ ?_
   iterate 2 refine s_ ?_
   refine aa_ ?_
   refine cd_ (fun hc9 => ?_) (fun hc9 => ?_)
   ·refine ab_ ?_
    have R := hl1
    refine r_ ?_
    iterate 4 refine s_ ?_
    refine x_ g_ va_ (v2_ (s := l) ho) ?_; rintro _ _ ⟨rfl, rfl⟩
    iterate 3 refine s_ ?_
    refine lc_ fun o9 ho9 => ?_
    repeat (rw [ac_] at ho9; obtain ⟨_, ho9⟩ := ho9)
    refine st_ ?_
    refine s_ ?_
    refine aa_ ?_
    refine ab_ ?_
    refine rr_ ?_
    iterate 2 refine s_ ?_
    refine aa_ ?_
    refine cd_ (fun hc11 => ?_) (fun hc11 => ?_)
    ·skip
     have hno : ofOk l = false := by
      cases h : ofOk l with
      |false => rfl
      |true => exact absurd (show (ofW l).2 = 0 by unfold ofW; rw [h]; rfl) hc11
     refine rr_ ?_
     refine s_ ?_
     refine st_ ?_
     refine s_ ?_
     refine aa_ ?_
     refine af_ ?_
     rw [show apS b r = (bk0, 3) from by rw [hap0, uD_ hp (by rw [hK]; exact hc9), hX1, hno]; rfl]
     exact aw_ (v := .tup [sBk bk0, vInt 3]) (v' := .tup [.agg [vNil, vNil], vInt 3]) va_ kZ_ sub_ ⟨rfl, rfl⟩
    ·skip
     have hyes : ofW l = ((bf_ (l, true)).1, 0) := by
      unfold ofW at hc11 ⊢
      split
      ·rfl
      ·rename_i h; rw [if_neg h] at hc11; exact absurd hc11 (by decide)
     have hok : ofOk l = true := by
      cases h : ofOk l with
      |true => rfl
      |false => unfold ofW at hyes; rw [h] at hyes; simp at hyes
     have hw1 : (ofW l).1 = (bf_ (l, true)).1 := by rw [hyes]
     refine ae_ ?_
     refine ab_ ?_
     have R := hw1
     refine ap_ (.op 0 0 (.op 1 0 (.op 2 0 (.op 3 0 (.op 4 0 (.op 6 0 (.op 7 0 (.op 5 1 (.op 8 0 (.op 9 2 (.op 10 0 .nil))))))))))) Tryz.mixed kr_ ?_
     iterate 7 refine ds_ ?_
     refine dx_ o_ g_ va_ (pG_ (x := ⟨B y2.1, (bf_ (l, true)).1⟩) ri (by omega)) ?_; rintro _ _ ⟨rfl, rfl⟩; refine ⟨sub_, ?_⟩
     refine ds_ ?_
     refine dst_ ?_
     refine ds_ ?_
     refine aB_ ?_
     refine af_ ?_
     refine er_ σ ?_
     exact ⟨by rw [hap0, uD_ hp (by rw [hK]; exact hc9), hX1, hok, hP]; rfl, rfl⟩
   ·refine rr_ ?_
    iterate 2 refine s_ ?_
    refine aa_ ?_
    refine cd_ (fun hc14 => ?_) (fun hc14 => ?_)
    ·refine ab_ ?_
     refine ab_ ?_
     have R := hl1
     refine r_ ?_
     iterate 5 refine s_ ?_
     refine aa_ ?_
     refine cd_ (fun hc15 => ?_) (fun hc15 => ?_)
     ·refine rr_ ?_
      refine s_ ?_
      refine st_ ?_
      refine s_ ?_
      refine aa_ ?_
      refine af_ ?_
      have hno : decide ((hdX r).1 = []) = false := by
       rw [hX1]
       refine decide_eq_false fun h => ?_
       rw [h] at hc15
       exact hc15 rfl
      rw [show apS b r = (bk0, 3) from by rw [hap0, uE_ hp (by rw [hK]; exact hc14), hno]; rfl]
      exact aw_ (v := .tup [sBk bk0, vInt 3]) (v' := .tup [.agg [vNil, vNil], vInt 3]) va_ kZ_ sub_ ⟨rfl, rfl⟩
     ·refine ae_ ?_
      refine ab_ ?_
      refine ap_ (.op 0 0 (.op 1 0 (.op 2 0 (.op 4 0 (.op 5 0 (.op 3 1 (.op 6 0 (.op 7 2 (.op 8 0 .nil))))))))) Tryz.mixed kr_ ?_
      iterate 5 refine ds_ ?_
      refine dx_ o_ g_ va_ (kY_ (by omega)) ?_; rintro _ _ ⟨rfl, rfl⟩; refine ⟨sub_, ?_⟩
      refine ds_ ?_
      refine dst_ ?_
      refine ds_ ?_
      refine aB_ ?_
      refine af_ ?_
      refine er_ σ ?_
      have hyes : decide ((hdX r).1 = []) = true := by
       rw [hX1]
       exact decide_eq_true ((db_ (b := [])).1 hc15)
      exact ⟨by rw [hap0, uE_ hp (by rw [hK]; exact hc14), hyes, hP]; rfl, rfl⟩
    ·refine rr_ ?_
     iterate 2 refine s_ ?_
     refine aa_ ?_
     refine cd_ (fun hc18 => ?_) (fun hc18 => ?_)
     ·refine rr_ ?_
      refine s_ ?_
      refine x_ g_ va_ (gE_ (x := y2.2) (Store.set_get ..)) ?_; rintro _ _ ⟨rfl, rfl⟩
      refine s_ ?_
      refine aa_ ?_
      refine ab_ ?_
      refine rr_ ?_
      refine s_ ?_
      refine x_ g_ va_ (m5_ (x := (aL_ y2.2 8).2) (Store.set_get ..)) ?_; rintro _ _ ⟨rfl, rfl⟩
      iterate 2 refine s_ ?_
      refine gf_ ?_
      refine gf_ ?_
      iterate 2 refine s_ ?_
      refine gf_ ?_
      refine gf_ ?_
      refine s_ ?_
      refine aa_ ?_
      refine cd_ (fun hc20 => ?_) (fun hc20 => ?_)
      ·refine rr_ ?_
       refine s_ ?_
       refine st_ ?_
       refine s_ ?_
       refine aa_ ?_
       refine af_ ?_
       have hno : (fr_ (aL_ (hdX r) 8).2 && cw_ (aL_ (hdX r) 8).1) = false := by
        rw [hX, Bool.and_eq_false_iff]
        rcases hc20 with (h | h) | h
        ·exact .inl (by rw [fr_]; rcases h with h | h <;> simp [h])
        ·exact .inr (by rw [cw_, decide_eq_false (by omega)]; rfl)
        ·exact .inr (by rw [cw_, decide_eq_false (p := (aL_ y2.2 8).1 ≤ 9007199254740992) (by omega), Bool.and_false])
       rw [show apS b r = (bk0, 3) from by rw [hap0, uF_ hp (by rw [hK]; exact hc18), hno]; rfl]
       exact aw_ (v := .tup [sBk bk0, vInt 3]) (v' := .tup [.agg [vNil, vNil], vInt 3]) va_ kZ_ sub_ ⟨rfl, rfl⟩
      ·refine ae_ ?_
       refine ab_ ?_
       refine ap_ (.op 0 0 (.op 1 0 (.op 2 0 (.op 3 0 (.op 4 0 (.op 5 0 (.op 6 0 (.op 7 1 (.op 8 0 (.op 9 2 (.op 10 0 .nil))))))))))) Tryz.mixed kr_ ?_
       iterate 7 refine ds_ ?_
       refine dx_ o_ g_ va_ (pE_ (x := ⟨B y2.1, (aL_ y2.2 8).1⟩) rm (by show 1 ≤ (aL_ y2.2 8).1; omega) (by omega)) ?_; rintro _ _ ⟨rfl, rfl⟩; refine ⟨sub_, ?_⟩
       refine ds_ ?_
       refine dst_ ?_
       refine ds_ ?_
       refine aB_ ?_
       refine af_ ?_
       refine er_ σ ?_
       have hyes : (fr_ (aL_ (hdX r) 8).2 && cw_ (aL_ (hdX r) 8).1) = true := by
        rw [hX, Bool.and_eq_true, dU_]
        exact ⟨by rw [fr_]; simp [hc20.1.1.1, hc20.1.1.2], by omega, by omega⟩
       exact ⟨by rw [hap0, uF_ hp (by rw [hK]; exact hc18), hyes, hP, hX]; rfl, rfl⟩
     ·refine ae_ ?_
      refine rr_ ?_
      refine s_ ?_
      refine st_ ?_
      refine s_ ?_
      refine aa_ ?_
      refine af_ ?_
      rw [show apS b r = (bk0, 3) from by rw [hap0, sp_ (.inr (by rw [hK]; exact ⟨hc9, hc14, hc18⟩))]; rfl]
      exact aw_ (v := .tup [sBk bk0, vInt 3]) (v' := .tup [.agg [vNil, vNil], vInt 3]) va_ kZ_ sub_ ⟨rfl, rfl⟩
end Go.Proofs.YtcaflcpcbcneiaaGreat
end
