/-
  Objects of bytes; The document's books: with, without, minted; its frames; The document's frames; Apply and Replay of books, both sides. Own work (an AI agent).
-/
import Derived.Test.YtbcgkbdacijoiaaGreatGG
import Derived.Test.YtbcgkbdacijoiaaGreatGH
import Derived.Test.YtbcgkbdacijoiaaGreatGI
import Derived.Test.YtbcgkbdacijoiaaGreatGJ

section
set_option linter.all false
set_option maxRecDepth 100000
namespace Go.Proofs.YtbcgkbdacijoiaaGreat
open Go.Ab

def obj0 : Obj' := ⟨[], []⟩
def ofOk (s : List UInt8) : Bool := (rdObj (s, true)).2.2 && decide ((rdObj (s, true)).2.1 = []) && objOk (rdObj (s, true)).1 && decide (objB (rdObj (s, true)).1 = s)
def ofW (s : List UInt8) : Obj' × Int := if ofOk s then ((rdObj (s, true)).1, 0) else (obj0, 3)
theorem rwOf_g {s : List UInt8} {σ : Store} (hsm : ObjSm (rdObj (s, true)).1) : ACalls Tryz.prog 95 [vStr (B s)] σ fun v σ' => v = .tup [sObj (ofW s).1, vInt (ofW s).2] ∧ σ = σ' := by
  have hdef : ofOk s = ((rdObj (s, true)).2.2 && decide ((rdObj (s, true)).2.1 = []) && objOk (rdObj (s, true)).1 && decide (objB (rdObj (s, true)).1 = s)) := rfl
  obtain ⟨o, ho⟩ : ∃ o, (rdObj (s, true)).1 = o := ⟨_, rfl⟩
  obtain ⟨y, hy⟩ : ∃ y, (rdObj (s, true)).2 = y := ⟨_, rfl⟩
  rw [ho] at hsm
  rw [ho, hy] at hdef
  have hof : ofW s = if ofOk s then (o, 0) else (obj0, 3) := by rw [ofW, ho]
  refine ACalls_of Tryz.func95 rfl Tryz.ntmps95 (congrArg Array.toList Tryz.results95) (by simp only [List.length_cons, List.length_nil]; decide) ?_; simp only [envOf_cons, envOf_nil, Nat.reduceAdd]
  refine awp_seq ?_
  refine awp_region (by kernel_rfl) ?_
  refine aL_alloc rfl rfl rfl g_ gl_ fun o2 ho2 => ?_
  repeat (rw [none_set_iff] at ho2; obtain ⟨_, ho2⟩ := ho2)
  (refine aL_S rfl rfl v_ ?_)
  refine aL_nil ?_
  refine awp_seq ?_
  refine awp_region (by kernel_rfl) ?_
  iterate 2 (refine aL_S rfl rfl v_ ?_)
  refine aL_box rfl rfl rfl v_ rfl g_ fun o8 ho8 => ?_
  repeat (rw [none_set_iff] at ho8; obtain ⟨_, ho8⟩ := ho8)
  (refine aL_S rfl rfl v_ ?_)
  refine aL_nil ?_
  have hr : (σ.set o2 (.cells [.lit (.slice none 0 0), .lit (.slice none 0 0)])).heap o8 = none := by rw [Store.set_ne _ _ ‹_›]; assumption
  have hw : ((σ.set o2 (.cells [.lit (.slice none 0 0), .lit (.slice none 0 0)])).set o8 (.cells [vStr (B s), .lit (.bool false)])).heap o8 = some (rfO (s, true)) := Store.set_get ..
  refine awp_seq ?_
  refine awp_region (by kernel_rfl) ?_
  (refine aL_S rfl rfl v_ ?_)
  refine aL_X rfl rfl (AOp_use rfl rfl (.inr ⟨rfl, rfl, rfl⟩) g_ va_ (rfObj_c (x := (s, true)) hw) ?_); rintro _ τ ⟨rfl, g1, g2⟩
  rw [ho]
  rw [hy] at g1
  have n2 : o2 ≠ o8 := Ne.symm (fun hh => by rw [hh, Store.set_get] at hr; cases hr)
  have t2 := keep g2 (i := o2) (x := .cells (.lit (.slice none 0 0) :: [.lit (.slice none 0 0)])) (by rw [Store.set_ne _ _ n2]; exact Store.set_get ..) (by simpa using n2)
  refine aL_alloc rfl rfl rfl g_ gl_ fun o5 ho5 => ?_
  repeat (rw [none_set_iff] at ho5; obtain ⟨_, ho5⟩ := ho5)
  refine aL_store rfl rfl rfl v_ v_ h_ g_ rfl g_ c_ (by rfl) le_ v_ ?_
  refine aL_nil ?_
  skip
  have n25 := ne_of_heap t2 ho5
  have hrs : σ.heap o8 = none := by rwa [Store.set_ne _ _ (Ne.symm n2)] at hr
  have st : SubX [] σ τ := ⟨fun i x _ hx => by
    have h1 : i ≠ o8 := fun hh => by rw [hh, hrs] at hx; cases hx
    have h2 : i ≠ o2 := fun hh => by rw [hh, ho2] at hx; cases hx
    exact g2.1 i x (by simpa using h1) (by rw [Store.set_ne _ _ h1, Store.set_ne _ _ h2]; exact hx), fun t n ht => g2.2 t n ht⟩
  have n5σ : σ.heap o5 = none := SubX.noObj st ho5 (by simp)
  have g1' : ((τ.set o5 (.cells [.lit (.slice none 0 0), .lit (.slice none 0 0)])).set o5 (.cells (sObj o).cells)).heap o8 = some (rfO y) := by
    have n5 := ne_of_heap g1 ho5
    rw [Store.set_set, Store.set_ne _ _ n5]; exact g1
  refine awp_seq ?_
  refine awp_seq ?_
  refine awp_region (by kernel_rfl) ?_
  (refine aL_S rfl rfl v_ ?_)
  refine aL_X rfl rfl (AOp_use rfl rfl (.inr ⟨rfl, rfl, rfl⟩) g_ va_ (rfDone_c g1') ?_); rintro _ _ ⟨rfl, rfl⟩
  iterate 2 (refine aL_S rfl rfl v_ ?_)
  refine aL_GF rfl rfl v_ rfl vg_ ?_
  refine aL_GFX rfl rfl v_ rfl (fun hb => AOp_useV (by rfl) (by rfl) (.inr ⟨by rfl, by rfl, by rfl⟩) g_ cg_ (rMay07_c hsm)) ?_
  refine aL_GF rfl rfl v_ rfl vg_ ?_
  iterate 2 (refine aL_S rfl rfl v_ ?_)
  refine aL_GF rfl rfl v_ rfl vg_ ?_
  refine aL_GFX rfl rfl v_ rfl (fun hb => AOp_useV (by rfl) (by rfl) (.inr ⟨by rfl, by rfl, by rfl⟩) g_ cg_ (rRaw_c hsm)) ?_
  refine aL_GF rfl rfl v_ rfl vg_ ?_
  refine aL_GF rfl rfl v_ rfl vg_ ?_
  (refine aL_S rfl rfl v_ ?_)
  refine aL_nil ?_
  refine awp_cond v_ (fun hc3 => ?_) (fun hc3 => ?_)
  · replace hc3 := nm_ hc3
    skip
    have hfl : ofOk s = false := by
      skip
      rw [hdef]
      rcases hc3 with ((h | h) | h) | h
      · simp [h]
      · simp [h]
      · simp [h]
      · rw [B_eq_iff] at h; simp [h]
    refine awp_seq ?_
    have R := t2
    refine awp_region (by kernel_rfl) ?_
    (refine aL_S rfl rfl v_ ?_)
    refine aL_store rfl rfl rfl v_ v_ h_ g_ rfl g_ c_ (by rfl) le_ v_ ?_
    (refine aL_S rfl rfl v_ ?_)
    refine aL_nil ?_
    refine awp_ret ?_
    rw [hof, hfl]
    exact aEnd_retW (v := .tup [sObj obj0, vInt 3]) (v' := .tup [.agg [vNil, vNil], vInt 3]) va_ (.tup _ _ rfl (fun i hi hi' => by match i, hi with | 0, _ => exact .agg _ _ rfl (fun j hj hj' => by match j, hj with | 0, _ => exact .nil _ _ | 1, _ => exact .nil _ _) | 1, _ => exact .refl _)) (subx_start (subx_new ho2 (subx_new n5σ (subx_new n5σ st)))) ⟨rfl, rfl⟩
  · replace hc3 := nm_ hc3
    skip
    have htr : ofOk s = true := by
      rw [B_eq_iff] at hc3
      rw [hdef]; simp [hc3.1.1.1, hc3.1.1.2, hc3.1.2, hc3.2]
    refine awp_skip ?_
    refine awp_seq ?_
    have R := t2
    refine awp_region (by kernel_rfl) ?_
    (refine aL_S rfl rfl v_ ?_)
    refine aL_store rfl rfl rfl v_ v_ h_ g_ rfl g_ c_ (by rfl) le_ v_ ?_
    (refine aL_S rfl rfl v_ ?_)
    refine aL_nil ?_
    refine awp_ret ?_
    rw [hof, htr]
    exact aEnd_ret (σ' := σ) va_ (subx_start (subx_new ho2 (subx_new n5σ (subx_new n5σ st)))) ⟨rfl, rfl⟩
end Go.Proofs.YtbcgkbdacijoiaaGreat
end

section
set_option linter.all false
set_option maxRecDepth 100000
namespace Go.Proofs.YtbcgkbdacijoiaaGreat
open Go.Ab
def outK (s : ByteArray) (l : List Itm) : List Itm := l.filter fun x => !decide (x.place = s)
theorem outK_len (s : ByteArray) (l : List Itm) : (outK s l).length ≤ l.length := List.length_filter_le ..
theorem outK_yes {s : ByteArray} {l : List Itm} {i : Nat} {x : Itm} (hx : l[i]? = some x) (h : x.place ≠ s) : (outK s (l.take (i + 1))).map sItem = (outK s (l.take i)).map sItem ++ [sItem x] := by
  rw [take_snoc hx, outK, List.filter_append, List.map_append]; simp [h, outK]
theorem outK_no {s : ByteArray} {l : List Itm} {i : Nat} {x : Itm} (hx : l[i]? = some x) (h : x.place = s) : (outK s (l.take (i + 1))).map sItem = (outK s (l.take i)).map sItem := by
  rw [take_snoc hx, outK, List.filter_append, List.map_append]; simp [h, outK]
theorem without_c {L : List Itm} {s : ByteArray} {t : Bool} {σ : Store} (hl : L.length ≤ 1000000) : ACalls Tryz.prog 97 [.sl 3 (L.map sItem) t, vStr s] σ fun v σ' => v = .sl 3 ((outK s L).map sItem) false ∧ σ = σ' := by
  have hol := fun i => outK_len s (L.take i)
  have htl := fun i => List.length_take_le i L
  refine ACalls_of Tryz.func97 rfl Tryz.ntmps97 (congrArg Array.toList Tryz.results97) (by simp only [List.length_cons, List.length_nil]; decide) ?_; simp only [envOf_cons, envOf_nil, Nat.reduceAdd]
  refine awp_seq ?_
  refine awp_region (by kernel_rfl) ?_
  (refine aL_S rfl rfl v_ ?_)
  refine aL_nil ?_
  refine awp_seq ?_
  refine awp_region (by kernel_rfl) ?_
  refine aL_nilOwn 89 3 rfl rfl rfl (by rfl) fun k5 hk5 => ?_
  refine aL_nil ?_
  refine awp_seq ?_
  refine awp_seq ?_
  refine awp_region (by kernel_rfl) ?_
  (refine aL_S rfl rfl v_ ?_)
  refine aL_nil ?_
  refine awp_block ?_
  refine awp_loop_env (ι := Nat × Nat) (fun ⟨tk, i⟩ => L.length - i) (fun ⟨tk, i⟩ => i ≤ L.length ∧ σ.tok tk = none) (fun ⟨tk, i⟩ => [(0, .sl 3 (L.map sItem) t), (1, vStr s), (5, .own tk 3 ((outK s (L.take i)).map sItem)), (6, vInt i)]) (fun ⟨tk, i⟩ => (σ.newTok none tk (89, 3))) (k5, 0) ?_ ?_ ?_ ?_
  · exact ⟨Nat.zero_le _, hk5⟩
  · exact cv_
  · exact Store.Wk.refl _
  rintro ⟨tk, i⟩ ⟨hi, htk⟩
  simp only [envL_cons, envL_nil]
  refine awp_seq ?_
  refine awp_seq ?_
  refine awp_region (by kernel_rfl) ?_
  iterate 4 (refine aL_S rfl rfl v_ ?_)
  refine aL_nil ?_
  refine awp_cond v_ (fun hc3 => ?_) (fun hc3 => ?_)
  · replace hc3 := nm_ hc3
    refine awp_skip ?_
    refine awp_seq ?_
    refine awp_block ?_
    refine awp_seq ?_
    obtain ⟨x, hx⟩ := get_some (l := L) (k := i) (by omega)
    have h1 := hol i
    have h2 := htl i
    have R := hx
    refine awp_region (by kernel_rfl) ?_
    iterate 7 (refine aL_S rfl rfl v_ ?_)
    refine aL_nil ?_
    refine awp_cond v_ (fun hc5 => ?_) (fun hc5 => ?_)
    · replace hc5 := nm_ hc5
      have hcv := outK_yes hx hc5
      have R := hx
      refine awp_region (by kernel_rfl) ?_
      iterate 5 (refine aL_S rfl rfl v_ ?_)
      refine aL_buildSlice rfl rfl rfl g_ g_ rfl rfl h_ c2_ (by decide) ?_
      refine aL_append rfl rfl rfl g_ g_ v_ h_ v_ c_ (by simp; omega) fun k26 hk26 => ?_
      (refine aL_S rfl rfl v_ ?_)
      refine aL_nil ?_
      refine awp_region (by kernel_rfl) ?_
      iterate 3 (refine aL_S rfl rfl v_ ?_)
      refine aL_nil ?_
      refine aNext (ι := Nat × Nat) (i := ⟨tk, i⟩) (k26, i + 1) ?_ ?_ ?_ ?_
      · show L.length - (i + 1) < L.length - i; omega
      · exact ⟨by show i + 1 ≤ L.length; omega, (newTok_none hk26).2⟩
      · have R := hcv; exact cv_
      · exact sub_
    · replace hc5 := nm_ hc5
      have hcv := outK_no hx (by simpa using hc5)
      refine awp_skip ?_
      refine awp_region (by kernel_rfl) ?_
      iterate 3 (refine aL_S rfl rfl v_ ?_)
      refine aL_nil ?_
      refine aNext (ι := Nat × Nat) (i := ⟨tk, i⟩) (tk, i + 1) ?_ ?_ ?_ ?_
      · show L.length - (i + 1) < L.length - i; omega
      · exact ⟨by show i + 1 ≤ L.length; omega, htk⟩
      · have R := hcv; exact cv_
      · exact sub_
  · replace hc3 := nm_ hc3
    refine awp_exit ?_
    refine aThen_exit ?_
    refine aThen_exit ?_
    refine aBlock_hit ?_
    refine awp_seq ?_
    obtain rfl : i = L.length := by omega
    rw [List.take_length]
    refine awp_region (by kernel_rfl) ?_
    iterate 2 (refine aL_S rfl rfl v_ ?_)
    refine aL_nil ?_
    refine awp_ret ?_
    exact aEnd_retW (v := .sl 3 ((outK s L).map sItem) false) (v' := .own tk 3 ((outK s L).map sItem)) va_ (.own1 _ _ _) sub_ ⟨rfl, rfl⟩
theorem insK_out {x : Itm} {l : List Itm} {k : Nat} (h : RiseK Itm.place l) (hk : lowK Itm.place x.place (outK x.place l) = k) : insK Itm.place x l = (outK x.place l).take k ++ x :: (outK x.place l).drop k := by
  have e : (l.filter fun y => decide (y.place ≠ x.place)) = outK x.place l := by unfold outK; congr 1; funext y; simp
  rw [insK_filter h, e, hk]
theorem lowK_end {α : Type} {key : α → ByteArray} {l : List α} {s : ByteArray} {k : Nat} {x : α} (hk : k ≤ l.length) (h1 : LoK key l s k) (hx : k < l.length → l[k]? = some x) (h : l.length ≤ k ∨ sLt (key x) s = false) : lowK key s l = k := lowK_eq h1 hk fun y hy => by
  have hlt := (List.getElem?_eq_some_iff.1 hy).1
  rcases h with h | h
  · omega
  · rw [hx hlt] at hy; obtain rfl := Option.some.inj hy; exact h
theorem loK_step {α : Type} {key : α → ByteArray} {l : List α} {s : ByteArray} {k : Nat} {x : α} (h1 : LoK key l s k) (hx : l[k]? = some x) (h : sLt (key x) s = true) : LoK key l s (k + 1) := fun m y hm hy => by
  rcases Nat.lt_or_eq_of_le (Nat.le_of_lt_succ hm) with hh | hh
  · exact h1 m y hh hy
  · rw [hh, hx] at hy; obtain rfl := Option.some.inj hy; exact h
set_option maxHeartbeats 1000000 in
theorem rWith27_c {L : List Itm} {x : Itm} {t : Bool} {σ : Store} (hr : RiseK Itm.place L) (hl : L.length ≤ 1000000) : ACalls Tryz.prog 96 [.sl 3 (L.map sItem) t, sItem x] σ fun v σ' => v = .sl 3 ((insK Itm.place x L).map sItem) false ∧ σ = σ' := by
  obtain ⟨R0, hR0⟩ : ∃ R, outK x.place L = R := ⟨_, rfl⟩
  have hRl := outK_len x.place L
  rw [hR0] at hRl
  refine ACalls_of Tryz.func96 rfl Tryz.ntmps96 (congrArg Array.toList Tryz.results96) (by simp only [List.length_cons, List.length_nil]; decide) ?_; simp only [envOf_cons, envOf_nil, Nat.reduceAdd]
  refine awp_seq ?_
  refine awp_region (by kernel_rfl) ?_
  refine aL_box rfl rfl rfl v_ rfl g_ fun o3 ho3 => ?_
  repeat (rw [none_set_iff] at ho3; obtain ⟨_, ho3⟩ := ho3)
  (refine aL_S rfl rfl v_ ?_)
  refine aL_nil ?_
  refine awp_seq ?_
  refine awp_region (by kernel_rfl) ?_
  iterate 3 (refine aL_S rfl rfl v_ ?_)
  refine aL_X rfl rfl (AOp_use rfl rfl (.inr ⟨rfl, rfl, rfl⟩) g_ va_ (without_c hl) ?_); rintro _ _ ⟨rfl, rfl⟩
  rw [hR0]
  (refine aL_S rfl rfl v_ ?_)
  refine aL_nil ?_
  refine awp_seq ?_
  refine awp_region (by kernel_rfl) ?_
  (refine aL_S rfl rfl v_ ?_)
  refine aL_nil ?_
  refine awp_seq ?_
  refine awp_block ?_
  refine awp_loop_env (ι := Nat) (fun i => R0.length - i) (fun i => i ≤ R0.length ∧ LoK Itm.place R0 x.place i) (fun i => [(3, .ref o3 0), (5, .sl 3 (R0.map sItem) false), (6, vInt i)]) (fun i => (σ.set o3 (.cells (sItem x).cells))) 0 ?_ ?_ ?_ ?_
  · exact ⟨Nat.zero_le _, fun m y hm => by omega⟩
  · exact cv_
  · exact Store.Wk.refl _
  rintro i ⟨hi, hlo⟩
  simp only [envL_cons, envL_nil]
  refine awp_seq ?_
  refine awp_seq ?_
  obtain ⟨y, hy⟩ := get_if R0 i
  have R := hy
  refine awp_draw (.op 0 0 (.op 1 0 (.op 2 0 (.op 3 0 (.op 4 0 (.op 5 0 (.op 6 0 (.op 7 0 (.op 8 0 (.op 9 0 (.op 10 0 (.op 11 0 (.op 12 0 (.op 13 0 .nil)))))))))))))) Tryz.mixed (by kernel_rfl) ?_
  iterate 5 (refine dR_S o_ (by rfl) (by rfl) v_ ?_)
  refine dR_GT o_ (by rfl) (by rfl) v_ (by rfl) vg_ ?_
  refine dR_GT o_ (by rfl) (by rfl) v_ (by rfl) vg_ ?_
  refine dR_GT o_ (by rfl) (by rfl) v_ (by rfl) vg_ ?_
  refine dR_GT o_ (by rfl) (by rfl) v_ (by rfl) vg_ ?_
  refine dR_GT o_ (by rfl) (by rfl) v_ (by rfl) vg_ ?_
  refine dR_GT o_ (by rfl) (by rfl) v_ (by rfl) vg_ ?_
  refine dR_GT o_ (by rfl) (by rfl) v_ (by rfl) vg_ ?_
  refine dR_GT o_ (by rfl) (by rfl) v_ (by rfl) vg_ ?_
  (refine dR_S o_ (by rfl) (by rfl) v_ ?_)
  refine dR_nil ?_
  refine awp_cond v_ (fun hc3 => ?_) (fun hc3 => ?_)
  · replace hc3 := nm_ hc3
    refine awp_skip ?_
    refine awp_block ?_
    refine awp_region (by kernel_rfl) ?_
    iterate 3 (refine aL_S rfl rfl v_ ?_)
    refine aL_nil ?_
    refine aNext (ι := Nat) (i := i) (i + 1) ?_ ?_ ?_ ?_
    · omega
    · exact ⟨by omega, loK_step hlo (hy (by omega)) hc3.2⟩
    · exact cv_
    · exact sub_
  · replace hc3 := nm_ hc3
    refine awp_exit ?_
    refine aThen_exit ?_
    refine aThen_exit ?_
    refine aBlock_hit ?_
    refine awp_seq ?_
    refine awp_region (by kernel_rfl) ?_
    refine aL_nilOwn 89 3 rfl rfl rfl (by rfl) fun k7 hk7 => ?_
    refine aL_nil ?_
    refine awp_seq ?_
    refine awp_region (by kernel_rfl) ?_
    iterate 4 (refine aL_S rfl rfl v_ ?_)
    refine aL_append rfl rfl rfl g_ g_ v_ h_ v_ (fun y hy => oneItm R0 y (List.mem_of_mem_take hy)) (by simp; omega) fun k32 hk32 => ?_
    have t32 : σ.tok k32 = none := (newTok_none hk32).2
    rw [Store.newTok_step (show Store.tok (σ.set o3 _) k7 = none from hk7)]
    (refine aL_S rfl rfl v_ ?_)
    refine aL_nil ?_
    refine awp_seq ?_
    refine awp_region (by kernel_rfl) ?_
    iterate 2 (refine aL_S rfl rfl v_ ?_)
    refine aL_buildSlice rfl rfl rfl g_ g_ rfl rfl h_ c2_ (by decide) ?_
    refine aL_append rfl rfl rfl g_ g_ v_ h_ v_ c_ (by simp; omega) fun k36 hk36 => ?_
    have t36 : σ.tok k36 = none := (newTok_none hk36).2
    rw [Store.newTok_step (show Store.tok (σ.set o3 _) k32 = none from t32)]
    (refine aL_S rfl rfl v_ ?_)
    refine aL_nil ?_
    refine awp_seq ?_
    refine awp_region (by kernel_rfl) ?_
    iterate 4 (refine aL_S rfl rfl v_ ?_)
    refine aL_append rfl rfl rfl g_ g_ v_ h_ v_ (fun y hy => oneItm R0 y (List.mem_of_mem_take (List.mem_of_mem_drop hy))) (by simp; omega) fun k41 hk41 => ?_
    have t41 : σ.tok k41 = none := (newTok_none hk41).2
    rw [Store.newTok_step (show Store.tok (σ.set o3 _) k36 = none from t36)]
    (refine aL_S rfl rfl v_ ?_)
    refine aL_nil ?_
    refine awp_seq ?_
    refine awp_region (by kernel_rfl) ?_
    iterate 2 (refine aL_S rfl rfl v_ ?_)
    refine aL_nil ?_
    refine awp_ret ?_
    rw [insK_out (k := i) hr (by rw [hR0]; exact lowK_end hi hlo hy (by simpa using hc3)), hR0]
    refine aEnd_retW (v := .sl 3 ((R0.take i ++ x :: R0.drop i).map sItem) false) (v' := .own k41 3 (List.take i (R0.map sItem) ++ [sItem x] ++ List.drop i (List.take R0.length (R0.map sItem)))) va_ ?_ sub_ ⟨rfl, rfl⟩
    rw [show (R0.take i ++ x :: R0.drop i).map sItem = List.take i (R0.map sItem) ++ [sItem x] ++ List.drop i (List.take R0.length (R0.map sItem)) from by rw [show List.take R0.length (R0.map sItem) = R0.map sItem from List.take_of_length_le (by simp)]; simp]
    exact .own1 _ _ _
theorem find_atK {α : Type} {key : α → ByteArray} {l : List α} {s : ByteArray} (h : RiseK key l) : (l.find? fun y => decide (key y = s)) = if atK key l s then l[lowK key s l]? else none := by
  by_cases ha : atK key l s = true
  · rw [if_pos ha]
    have hlt := atK_lt ha
    have ha' : (l[lowK key s l]?).any (fun y => decide (key y = s)) = true := ha
    rw [List.getElem?_eq_getElem hlt] at ha' ⊢
    exact find_at (List.getElem?_eq_getElem hlt) ha' fun m y hm hy => decide_eq_false (sLt_ne (lowK_lt hm hy))
  · rw [if_neg ha]
    refine List.find?_eq_none.2 fun y hy => ?_
    obtain ⟨m, hm, e⟩ := List.mem_iff_getElem.1 hy
    have hm' : l[m]? = some y := by rw [List.getElem?_eq_getElem hm, e]
    intro hh
    have hk : key y = s := by simpa using hh
    rcases Nat.lt_trichotomy m (lowK key s l) with h1 | h1 | h1
    · exact sLt_ne (lowK_lt h1 hm') hk
    · exact ha (by unfold atK; rw [← h1, hm']; simpa using hk)
    · have hz := List.getElem?_eq_getElem (show lowK key s l < l.length by omega)
      have h2 := lowK_at (key := key) hz
      have h3 := riseK_get h h1 hz hm'
      rw [hk, h2] at h3; cases h3
/-- what is minted there: the greater one -/
theorem nextS_atK {l : List Mnt} {s : ByteArray} (h : RiseK Mnt.place l) : (atK Mnt.place l s = false → nextS l s = 1) ∧ ∀ y, atK Mnt.place l s = true → l[lowK Mnt.place s l]? = some y → nextS l s = y.n + 1 := by
  refine ⟨fun ha => ?_, fun y ha hy => ?_⟩
  · unfold nextS; rw [find_atK h, ha]; rfl
  · unfold nextS; rw [find_atK h, ha, hy]; rfl
set_option maxHeartbeats 1000000 in
theorem rMinted_c {L : List Mnt} {x : Mnt} {t : Bool} {σ : Store} (hr : RiseK Mnt.place L) (hx1 : 1 ≤ x.n) (hl : L.length ≤ 1000000) : ACalls Tryz.prog 100 [.sl 2 (L.map sMnt) t, sMnt x] σ fun v σ' => v = .sl 2 ((insK Mnt.place ⟨x.place, max x.n (nextS L x.place - 1)⟩ L).map sMnt) false ∧ σ = σ' := by
  refine ACalls_of Tryz.func100 rfl Tryz.ntmps100 (congrArg Array.toList Tryz.results100) (by simp only [List.length_cons, List.length_nil]; decide) ?_; simp only [envOf_cons, envOf_nil, Nat.reduceAdd]
  refine awp_seq ?_
  refine awp_region (by kernel_rfl) ?_
  refine aL_box rfl rfl rfl v_ rfl g_ fun o3 ho3 => ?_
  repeat (rw [none_set_iff] at ho3; obtain ⟨_, ho3⟩ := ho3)
  (refine aL_S rfl rfl v_ ?_)
  refine aL_nil ?_
  refine awp_seq ?_
  refine awp_region (by kernel_rfl) ?_
  (refine aL_S rfl rfl v_ ?_)
  refine aL_nil ?_
  refine awp_seq ?_
  refine awp_block ?_
  refine awp_loop_env (ι := Nat) (fun i => L.length - i) (fun i => i ≤ L.length ∧ LoK Mnt.place L x.place i) (fun i => [(0, .sl 2 (L.map sMnt) t), (3, .ref o3 0), (5, vInt i)]) (fun i => (σ.set o3 (.cells (sMnt x).cells))) 0 ?_ ?_ ?_ ?_
  · exact ⟨Nat.zero_le _, fun m y hm => by omega⟩
  · exact cv_
  · exact Store.Wk.refl _
  rintro i ⟨hi, hlo⟩
  simp only [envL_cons, envL_nil]
  refine awp_seq ?_
  refine awp_seq ?_
  obtain ⟨y, hy⟩ := get_if L i
  have R := hy
  refine awp_draw (.op 0 0 (.op 1 0 (.op 2 0 (.op 3 0 (.op 4 0 (.op 5 0 (.op 6 0 (.op 7 0 (.op 8 0 (.op 9 0 (.op 10 0 (.op 11 0 (.op 12 0 (.op 13 0 .nil)))))))))))))) Tryz.mixed (by kernel_rfl) ?_
  iterate 5 (refine dR_S o_ (by rfl) (by rfl) v_ ?_)
  refine dR_GT o_ (by rfl) (by rfl) v_ (by rfl) vg_ ?_
  refine dR_GT o_ (by rfl) (by rfl) v_ (by rfl) vg_ ?_
  refine dR_GT o_ (by rfl) (by rfl) v_ (by rfl) vg_ ?_
  refine dR_GT o_ (by rfl) (by rfl) v_ (by rfl) vg_ ?_
  refine dR_GT o_ (by rfl) (by rfl) v_ (by rfl) vg_ ?_
  refine dR_GT o_ (by rfl) (by rfl) v_ (by rfl) vg_ ?_
  refine dR_GT o_ (by rfl) (by rfl) v_ (by rfl) vg_ ?_
  refine dR_GT o_ (by rfl) (by rfl) v_ (by rfl) vg_ ?_
  (refine dR_S o_ (by rfl) (by rfl) v_ ?_)
  refine dR_nil ?_
  refine awp_cond v_ (fun hc2 => ?_) (fun hc2 => ?_)
  · replace hc2 := nm_ hc2
    refine awp_skip ?_
    refine awp_block ?_
    refine awp_region (by kernel_rfl) ?_
    iterate 3 (refine aL_S rfl rfl v_ ?_)
    refine aL_nil ?_
    refine aNext (ι := Nat) (i := i) (i + 1) ?_ ?_ ?_ ?_
    · omega
    · exact ⟨by omega, loK_step hlo (hy (by omega)) hc2.2⟩
    · exact cv_
    · exact sub_
  · replace hc2 := nm_ hc2
    refine awp_exit ?_
    refine aThen_exit ?_
    refine aThen_exit ?_
    refine aBlock_hit ?_
    refine awp_seq ?_
    have hk : lowK Mnt.place x.place L = i := lowK_end hi hlo hy (by simpa using hc2)
    refine awp_region (by kernel_rfl) ?_
    refine aL_nilOwn 135 2 rfl rfl rfl (by rfl) fun k6 hk6 => ?_
    refine aL_nil ?_
    refine awp_seq ?_
    refine awp_region (by kernel_rfl) ?_
    iterate 4 (refine aL_S rfl rfl v_ ?_)
    refine aL_append rfl rfl rfl g_ g_ v_ h_ v_ (fun y hy => oneMnt L y (List.mem_of_mem_take hy)) (by simp; omega) fun k27 hk27 => ?_
    have t27 : σ.tok k27 = none := (newTok_none hk27).2
    rw [Store.newTok_step (show Store.tok (σ.set o3 _) k6 = none from hk6)]
    (refine aL_S rfl rfl v_ ?_)
    refine aL_nil ?_
    refine awp_seq ?_
    refine awp_seq ?_
    have R := hy
    refine awp_draw (.op 0 0 (.op 1 0 (.op 2 0 (.op 3 0 (.op 4 0 (.op 5 0 (.op 6 0 (.op 7 0 (.op 8 0 (.op 9 0 (.op 10 0 (.op 11 0 (.op 12 0 (.op 13 0 .nil)))))))))))))) Tryz.mixed (by kernel_rfl) ?_
    iterate 5 (refine dR_S o_ (by rfl) (by rfl) v_ ?_)
    refine dR_GT o_ (by rfl) (by rfl) v_ (by rfl) vg_ ?_
    refine dR_GT o_ (by rfl) (by rfl) v_ (by rfl) vg_ ?_
    refine dR_GT o_ (by rfl) (by rfl) v_ (by rfl) vg_ ?_
    refine dR_GT o_ (by rfl) (by rfl) v_ (by rfl) vg_ ?_
    refine dR_GT o_ (by rfl) (by rfl) v_ (by rfl) vg_ ?_
    refine dR_GT o_ (by rfl) (by rfl) v_ (by rfl) vg_ ?_
    refine dR_GT o_ (by rfl) (by rfl) v_ (by rfl) vg_ ?_
    refine dR_GT o_ (by rfl) (by rfl) v_ (by rfl) vg_ ?_
    (refine dR_S o_ (by rfl) (by rfl) v_ ?_)
    refine dR_nil ?_
    refine awp_cond v_ (fun hc6 => ?_) (fun hc6 => ?_)
    · replace hc6 := nm_ hc6
      refine awp_seq ?_
      have R := hy
      refine awp_draw (.op 0 0 (.op 1 0 (.op 2 0 (.op 3 0 (.op 4 0 (.op 5 0 (.op 6 0 (.op 7 0 (.op 8 0 (.op 9 0 (.op 10 0 (.op 11 0 (.op 12 1 (.op 13 2 (.op 14 0 .nil))))))))))))))) Tryz.mixed (by kernel_rfl) ?_
      iterate 12 (refine dR_S o_ (by rfl) (by rfl) v_ ?_)
      refine dR_X o_ (by rfl) (by rfl) (AOp_buildSlice' (by rfl) g_ g_ (by rfl) (by rfl) h_ c2_ (by decide) ⟨sub_, ?_⟩)
      refine dR_T o_ (by rfl) (by rfl) (AOp_appendS (by rfl) g_ g_ (.inl ⟨_, va_, h_, rfl⟩) (.inl ⟨⟨_, g_⟩, .inl v_, c_⟩) (by simp; omega) fun k55 hk55 => ?_)
      (refine dR_S o_ (by rfl) (by rfl) v_ ?_)
      refine dR_nil ?_
      have t55 : σ.tok k55 = none := (newTok_none hk55).2
      rw [Store.newTok_step (show Store.tok (σ.set o3 _) k27 = none from t27)]
      refine awp_seq ?_
      refine awp_region (by kernel_rfl) ?_
      iterate 5 (refine aL_S rfl rfl v_ ?_)
      refine aL_append rfl rfl rfl g_ g_ v_ h_ v_ (fun y hy => oneMnt L y (List.mem_of_mem_take (List.mem_of_mem_drop hy))) (by simp; omega) fun k61 hk61 => ?_
      have t61 : σ.tok k61 = none := (newTok_none hk61).2
      rw [Store.newTok_step (show Store.tok (σ.set o3 _) k55 = none from t55)]
      (refine aL_S rfl rfl v_ ?_)
      refine aL_nil ?_
      refine awp_seq ?_
      refine awp_region (by kernel_rfl) ?_
      iterate 2 (refine aL_S rfl rfl v_ ?_)
      refine aL_nil ?_
      refine awp_ret ?_
      have hyi := hy (by omega)
      have hat : atK Mnt.place L x.place = true := by unfold atK; rw [hk, hyi]; simpa using hc6.2
      rw [insK_yes (x := ⟨x.place, max x.n (nextS L x.place - 1)⟩) hr hat, hk, (nextS_atK hr).2 y hat (by rw [hk]; exact hyi), show max x.n (y.n + 1 - 1) = max y.n x.n by omega, List.set_eq_take_append_cons_drop, if_pos (by omega)]
      refine aEnd_retW (v := .sl 2 ((L.take i ++ ⟨x.place, max y.n x.n⟩ :: L.drop (i + 1)).map sMnt) false) (v' := .own k61 2 (List.take i (L.map sMnt) ++ [.agg [vStr x.place, vInt (max y.n x.n)]] ++ List.drop (i + 1) (List.take L.length (L.map sMnt)))) va_ ?_ sub_ ⟨rfl, rfl⟩
      rw [show (L.take i ++ ⟨x.place, max y.n x.n⟩ :: L.drop (i + 1)).map sMnt = List.take i (L.map sMnt) ++ [.agg [vStr x.place, vInt (max y.n x.n)]] ++ List.drop (i + 1) (List.take L.length (L.map sMnt)) from by rw [show List.take L.length (L.map sMnt) = L.map sMnt from List.take_of_length_le (by simp)]; simp]
      exact .own1 _ _ _
    · replace hc6 := nm_ hc6
      refine awp_skip ?_
      refine awp_seq ?_
      refine awp_region (by kernel_rfl) ?_
      iterate 2 (refine aL_S rfl rfl v_ ?_)
      refine aL_buildSlice rfl rfl rfl g_ g_ rfl rfl h_ c2_ (by decide) ?_
      refine aL_append rfl rfl rfl g_ g_ v_ h_ v_ c_ (by simp; omega) fun k66 hk66 => ?_
      have t66 : σ.tok k66 = none := (newTok_none hk66).2
      rw [Store.newTok_step (show Store.tok (σ.set o3 _) k27 = none from t27)]
      (refine aL_S rfl rfl v_ ?_)
      refine aL_nil ?_
      refine awp_seq ?_
      refine awp_region (by kernel_rfl) ?_
      iterate 4 (refine aL_S rfl rfl v_ ?_)
      refine aL_append rfl rfl rfl g_ g_ v_ h_ v_ (fun y hy => oneMnt L y (List.mem_of_mem_take (List.mem_of_mem_drop hy))) (by simp; omega) fun k71 hk71 => ?_
      have t71 : σ.tok k71 = none := (newTok_none hk71).2
      rw [Store.newTok_step (show Store.tok (σ.set o3 _) k66 = none from t66)]
      (refine aL_S rfl rfl v_ ?_)
      refine aL_nil ?_
      refine awp_seq ?_
      refine awp_region (by kernel_rfl) ?_
      iterate 2 (refine aL_S rfl rfl v_ ?_)
      refine aL_nil ?_
      refine awp_ret ?_
      have hat : atK Mnt.place L x.place = false := by
        rw [← atK_of hk hy, Bool.and_eq_false_iff, decide_eq_false_iff_not, decide_eq_false_iff_not, cmpS_zero]
        rcases hc6 with h | h
        · exact .inl (by omega)
        · exact .inr (by simpa using h)
      rw [insK_no (x := ⟨x.place, max x.n (nextS L x.place - 1)⟩) hr hat, hk, (nextS_atK hr).1 hat, show max x.n (1 - 1) = x.n by omega]
      refine aEnd_retW (v := .sl 2 ((L.take i ++ ⟨x.place, x.n⟩ :: L.drop i).map sMnt) false) (v' := .own k71 2 (List.take i (L.map sMnt) ++ [sMnt x] ++ List.drop i (List.take L.length (L.map sMnt)))) va_ ?_ sub_ ⟨rfl, rfl⟩
      rw [show (L.take i ++ ⟨x.place, x.n⟩ :: L.drop i).map sMnt = List.take i (L.map sMnt) ++ [sMnt x] ++ List.drop i (List.take L.length (L.map sMnt)) from by rw [show List.take L.length (L.map sMnt) = L.map sMnt from List.take_of_length_le (by simp)]; simp]
      exact .own1 _ _ _
end Go.Proofs.YtbcgkbdacijoiaaGreat
end

section
set_option linter.all false
set_option maxRecDepth 100000
namespace Go.Proofs.YtbcgkbdacijoiaaGreat
open Go.Ab
theorem rPut26_c {body : List UInt8} {σ : Store} (hs : body.length ≤ 100000000) : ACalls Tryz.prog 44 [vStr (B body)] σ fun v σ' => v = vStr (B (putF body)) ∧ σ = σ' := by
  have hB := B_size body
  have hl4 : (beI 4 (body.length : Int)).length = 4 := beI_length ..
  have hl5 : (beI 4 (sumF body : Int)).length = 4 := beI_length ..
  have hl6 : (beI 4 (body.length : Int) ++ beI 4 (sumF body : Int)).length = 8 := by rw [List.length_append]; omega
  have hsum : crcS (beI 4 (body.length : Int) ++ body) = sumF body := rfl
  refine ACalls_of Tryz.func44 rfl Tryz.ntmps44 (congrArg Array.toList Tryz.results44) (by simp only [List.length_cons, List.length_nil]; decide) ?_; simp only [envOf_cons, envOf_nil, Nat.reduceAdd]
  refine awp_seq ?_
  have R := hB
  refine awp_region (by kernel_rfl) ?_
  (refine aL_S rfl rfl v_ ?_)
  refine aL_nil ?_
  refine awp_seq ?_
  have R := hB
  refine awp_region (by kernel_rfl) ?_
  iterate 2 (refine aL_S rfl rfl v_ ?_)
  refine aL_X rfl rfl (AOp_use rfl rfl (.inr ⟨rfl, rfl, rfl⟩) g_ va_ (rCount_c) ?_); rintro _ _ ⟨rfl, rfl⟩
  (refine aL_S rfl rfl v_ ?_)
  refine aL_nil ?_
  refine awp_seq ?_
  have R := hB
  refine awp_region (by kernel_rfl) ?_
  iterate 4 (refine aL_S rfl rfl v_ ?_)
  refine aL_X rfl rfl (AOp_use rfl rfl (.inr ⟨rfl, rfl, rfl⟩) g_ va_ (rcSum_c (s := beI 4 (body.length : Int) ++ body) (by rw [List.length_append]; omega)) ?_); rintro _ _ ⟨rfl, rfl⟩
  rw [hsum]
  refine aL_X rfl rfl (AOp_use rfl rfl (.inr ⟨rfl, rfl, rfl⟩) g_ va_ (rCount_c) ?_); rintro _ _ ⟨rfl, rfl⟩
  iterate 4 (refine aL_S rfl rfl v_ ?_)
  refine aL_nil ?_
  refine awp_ret ?_
  refine aEnd_ret (σ' := σ) v_ sub_ ?_
  exact ⟨by rw [putF, List.append_assoc], rfl⟩
theorem rAll26_c {l : List (List UInt8)} {t : Bool} {σ : Store} (hl : l.length ≤ 1000000) (hT : (allF l).length ≤ 100000000) : ACalls Tryz.prog 45 [.sl 1 (vBs l) t] σ fun v σ' => v = vStr (B (allF l)) ∧ σ = σ' := by
  refine ACalls_of Tryz.func45 rfl Tryz.ntmps45 (congrArg Array.toList Tryz.results45) (by simp only [List.length_cons, List.length_nil]; decide) ?_; simp only [envOf_cons, envOf_nil, Nat.reduceAdd]
  refine awp_seq ?_
  refine awp_region (by kernel_rfl) ?_
  (refine aL_S rfl rfl v_ ?_)
  refine aL_nil ?_
  refine awp_seq ?_
  refine awp_region (by kernel_rfl) ?_
  (refine aL_S rfl rfl v_ ?_)
  refine aL_nil ?_
  refine awp_seq ?_
  refine awp_seq ?_
  refine awp_region (by kernel_rfl) ?_
  (refine aL_S rfl rfl v_ ?_)
  refine aL_nil ?_
  refine awp_block ?_
  refine awp_loop_env (ι := Nat) (fun i => l.length - i) (fun i => i ≤ l.length) (fun i => [(0, .sl 1 (vBs l) t), (3, vStr (B (allF (l.take i)))), (4, vInt i)]) (fun i => σ) 0 ?_ ?_ ?_ ?_
  · exact Nat.zero_le _
  · exact cv_
  · exact sub_
  rintro i hi
  simp only [envL_cons, envL_nil]
  refine awp_seq ?_
  refine awp_seq ?_
  refine awp_region (by kernel_rfl) ?_
  iterate 4 (refine aL_S rfl rfl v_ ?_)
  refine aL_nil ?_
  refine awp_cond v_ (fun hc3 => ?_) (fun hc3 => ?_)
  · replace hc3 := nm_ hc3
    refine awp_skip ?_
    refine awp_seq ?_
    refine awp_block ?_
    obtain ⟨b, hb⟩ := get_some (l := l) (k := i) (by omega)
    have h1 := allF_take hb
    have h2 := allF_le l (i + 1)
    have hbl : b.length ≤ 100000000 := by rw [h1, List.length_append, putF_len] at h2; omega
    have h3 := h1 ▸ h2
    have h4 := putF_len b
    rw [List.length_append] at h3
    have hcv : B (allF (l.take (i + 1))) = B (allF (l.take i) ++ putF b) := by rw [h1]
    have R := hb
    refine awp_region (by kernel_rfl) ?_
    iterate 5 (refine aL_S rfl rfl v_ ?_)
    refine aL_X rfl rfl (AOp_use rfl rfl (.inr ⟨rfl, rfl, rfl⟩) g_ va_ (rPut26_c hbl) ?_); rintro _ _ ⟨rfl, rfl⟩
    iterate 2 (refine aL_S rfl rfl v_ ?_)
    refine aL_nil ?_
    refine awp_region (by kernel_rfl) ?_
    iterate 3 (refine aL_S rfl rfl v_ ?_)
    refine aL_nil ?_
    refine aNext (ι := Nat) (i := i) (i + 1) ?_ ?_ ?_ ?_
    · omega
    · omega
    · have R := hcv; exact cv_
    · exact sub_
  · replace hc3 := nm_ hc3
    refine awp_exit ?_
    refine aThen_exit ?_
    refine aThen_exit ?_
    refine aBlock_hit ?_
    refine awp_seq ?_
    obtain rfl : i = l.length := by omega
    rw [List.take_length]
    refine awp_region (by kernel_rfl) ?_
    iterate 2 (refine aL_S rfl rfl v_ ?_)
    refine aL_nil ?_
    refine awp_ret ?_
    refine aEnd_ret (σ' := σ) v_ sub_ ?_
    exact ⟨rfl, rfl⟩
set_option maxHeartbeats 2000000 in
theorem rScan26_c {s : List UInt8} {σ : Store} (hs : s.length ≤ 100000000) : ACalls Tryz.prog 102 [vStr (B s)] σ fun v σ' => v = .tup [.sl 1 (vBs (scanF s)) false, vInt (allF (scanF s)).length] ∧ σ = σ' := by
  have hB := B_size s
  refine ACalls_of Tryz.func102 rfl Tryz.ntmps102 (congrArg Array.toList Tryz.results102) (by simp only [List.length_cons, List.length_nil]; decide) ?_; simp only [envOf_cons, envOf_nil, Nat.reduceAdd]
  refine awp_seq ?_
  refine awp_region (by kernel_rfl) ?_
  iterate 2 (refine aL_S rfl rfl v_ ?_)
  refine aL_nil ?_
  refine awp_seq ?_
  refine awp_region (by kernel_rfl) ?_
  refine aL_nilOwn 9 1 rfl rfl rfl (by rfl) fun k4 hk4 => ?_
  refine aL_nil ?_
  refine awp_seq ?_
  refine awp_region (by kernel_rfl) ?_
  (refine aL_S rfl rfl v_ ?_)
  refine aL_nil ?_
  refine awp_block ?_
  refine awp_loop_env (ι := Nat × List (List UInt8) × List UInt8) (fun ⟨tk, done, rest⟩ => rest.length) (fun ⟨tk, done, rest⟩ => σ.tok tk = none ∧ s = allF done ++ rest ∧ scanF s = done ++ scanF rest) (fun ⟨tk, done, rest⟩ => [(0, vStr (B s)), (4, .own tk 1 (vBs done)), (5, vInt (allF done).length)]) (fun ⟨tk, done, rest⟩ => (σ.newTok none tk (9, 1))) (k4, [], s) ?_ ?_ ?_ ?_
  · exact ⟨hk4, rfl, rfl⟩
  · exact cv_
  · exact Store.Wk.refl _
  rintro ⟨tk, done, rest⟩ ⟨htk, hsp, hsc⟩
  simp only [envL_cons, envL_nil]
  refine awp_block ?_
  refine awp_seq ?_
  have hle : (allF done).length + rest.length = s.length := by rw [hsp, List.length_append]
  have hx : (B s).extract (allF done).length s.length = B rest := by rw [extract_B, Lb_B, List.take_length, hsp, List.drop_left]
  have hle8 : (rdF rest).1 ≤ 1048576 := rdCnt_le (rest, true) 1048576
  obtain ⟨y1, hy1⟩ : ∃ y, rdCnt (rest, true) 1048576 = y := ⟨_, rfl⟩
  obtain ⟨y2, hy2⟩ : ∃ y, rdCnt y1.2 4294967295 = y := ⟨_, rfl⟩
  have hF : rdF rest = (y1.1, y2.1, y2.2) := by rw [rdF, hy1, hy2]
  have hB2 := B_size y2.2.1
  have R := And.intro hx hB
  refine awp_region (by kernel_rfl) ?_
  iterate 4 (refine aL_S rfl rfl v_ ?_)
  refine aL_box rfl rfl rfl v_ rfl g_ fun o14 ho14 => ?_
  repeat (rw [none_set_iff] at ho14; obtain ⟨_, ho14⟩ := ho14)
  (refine aL_S rfl rfl v_ ?_)
  refine aL_nil ?_
  refine awp_seq ?_
  refine awp_region (by kernel_rfl) ?_
  (refine aL_S rfl rfl v_ ?_)
  refine aL_X rfl rfl (AOp_use rfl rfl (.inr ⟨rfl, rfl, rfl⟩) g_ va_ (rfCount_c (m := 1048576) (x := (rest, true)) (Store.set_get ..)) ?_); rintro _ _ ⟨rfl, rfl⟩
  rw [hy1]
  (refine aL_S rfl rfl v_ ?_)
  refine aL_nil ?_
  refine awp_seq ?_
  refine awp_region (by kernel_rfl) ?_
  (refine aL_S rfl rfl v_ ?_)
  refine aL_X rfl rfl (AOp_use rfl rfl (.inr ⟨rfl, rfl, rfl⟩) g_ va_ (rfCount_c (m := 4294967295) (x := y1.2) (Store.set_get ..)) ?_); rintro _ _ ⟨rfl, rfl⟩
  rw [hy2]
  (refine aL_S rfl rfl v_ ?_)
  refine aL_nil ?_
  refine awp_seq ?_
  refine awp_seq ?_
  have R := hB2
  refine awp_region (by kernel_rfl) ?_
  iterate 5 (refine aL_S rfl rfl v_ ?_)
  refine aL_GF rfl rfl v_ rfl vg_ ?_
  refine aL_GF rfl rfl v_ rfl vg_ ?_
  refine aL_GF rfl rfl v_ rfl vg_ ?_
  refine aL_GF rfl rfl v_ rfl vg_ ?_
  refine aL_GF rfl rfl v_ rfl vg_ ?_
  refine aL_GF rfl rfl v_ rfl vg_ ?_
  refine aL_GF rfl rfl v_ rfl vg_ ?_
  (refine aL_S rfl rfl v_ ?_)
  refine aL_nil ?_
  refine awp_cond v_ (fun hc6 => ?_) (fun hc6 => ?_)
  · replace hc6 := nm_ hc6
    refine awp_seq ?_
    refine awp_region (by kernel_rfl) ?_
    iterate 4 (refine aL_S rfl rfl v_ ?_)
    refine aL_nil ?_
    refine awp_ret ?_
    have hn : fstF rest = none := by
      rw [fstF, hF]
      refine if_neg fun ⟨q1, q2, q3⟩ => ?_
      dsimp only at q1 q2
      rcases hc6 with h | h
      · rw [q1] at h; simp at h
      · omega
    rw [show scanF s = done from by rw [hsc, scanF_none hn, List.append_nil]]
    exact aEnd_retW (v := .tup [.sl 1 (vBs done) false, vInt (allF done).length]) (v' := .tup [.own tk 1 (vBs done), vInt (allF done).length]) va_ (.tup _ _ rfl (fun j hj hj' => by match j, hj with | 0, _ => exact .own1 _ _ _ | 1, _ => exact .refl _)) sub_ ⟨rfl, rfl⟩
  · replace hc6 := nm_ hc6
    have hok : y2.2.2 = true := hc6.1
    obtain ⟨bd, hbd⟩ : ∃ bd, y2.2.1.take y1.1 = bd := ⟨_, rfl⟩
    have hbl : bd.length = y1.1 := by rw [← hbd, List.length_take]; omega
    have hx2 : (B y2.2.1).extract 0 y1.1 = B bd := by rw [extract_B, Lb_B, List.drop_zero, hbd]
    have hl4 : (beI 4 (y1.1 : Int)).length = 4 := beI_length ..
    rw [hF] at hle8
    dsimp only at hle8
    have hsum : crcS (beI 4 (y1.1 : Int) ++ bd) = sumF bd := by rw [← hbl]; rfl
    refine awp_skip ?_
    refine awp_seq ?_
    have R := And.intro hB2 hx2
    refine awp_region (by kernel_rfl) ?_
    iterate 7 (refine aL_S rfl rfl v_ ?_)
    refine aL_nil ?_
    refine awp_seq ?_
    refine awp_seq ?_
    have R := hx2
    refine awp_region (by kernel_rfl) ?_
    (refine aL_S rfl rfl v_ ?_)
    refine aL_X rfl rfl (AOp_use rfl rfl (.inr ⟨rfl, rfl, rfl⟩) g_ va_ (rCount_c) ?_); rintro _ _ ⟨rfl, rfl⟩
    iterate 2 (refine aL_S rfl rfl v_ ?_)
    refine aL_X rfl rfl (AOp_use rfl rfl (.inr ⟨rfl, rfl, rfl⟩) g_ va_ (rcSum_c (s := beI 4 (y1.1 : Int) ++ bd) (by rw [List.length_append]; omega)) ?_); rintro _ _ ⟨rfl, rfl⟩
    rw [hsum]
    iterate 2 (refine aL_S rfl rfl v_ ?_)
    refine aL_nil ?_
    refine awp_cond v_ (fun hc9 => ?_) (fun hc9 => ?_)
    · replace hc9 := nm_ hc9
      refine awp_seq ?_
      refine awp_region (by kernel_rfl) ?_
      iterate 4 (refine aL_S rfl rfl v_ ?_)
      refine aL_nil ?_
      refine awp_ret ?_
      have hn : fstF rest = none := by
        rw [fstF, hF]
        refine if_neg fun ⟨q1, q2, q3⟩ => ?_
        dsimp only at q1 q2 q3
        rw [hbd] at q3
        exact hc9 (by omega)
      rw [show scanF s = done from by rw [hsc, scanF_none hn, List.append_nil]]
      exact aEnd_retW (v := .tup [.sl 1 (vBs done) false, vInt (allF done).length]) (v' := .tup [.own tk 1 (vBs done), vInt (allF done).length]) va_ (.tup _ _ rfl (fun j hj hj' => by match j, hj with | 0, _ => exact .own1 _ _ _ | 1, _ => exact .refl _)) sub_ ⟨rfl, rfl⟩
    · replace hc9 := nm_ hc9
      have hfst : fstF rest = some bd := by
        rw [fstF, hF]
        refine (if_pos ⟨hok, by dsimp only; omega, by dsimp only; rw [hbd]; omega⟩).trans ?_
        dsimp only; rw [hbd]
      obtain ⟨u, hu, hul⟩ := fstF_some hfst
      have hpt : rest = putF bd ++ rest.drop (8 + bd.length) := by rw [show rest.drop (8 + bd.length) = u from by rw [hu, drop_put]]; exact hu
      have hrl : rest.length = 8 + bd.length + u.length := by rw [hu, List.length_append, putF_len]
      have hcv : vBs (done ++ [bd]) = vBs done ++ [vStr (B bd)] := by simp [vBs]
      have hcv2 : (((allF (done ++ [bd])).length : Nat) : Int) = (allF done).length + 8 + (y1.1 : Int) := by rw [allF_snoc, List.length_append, putF_len]; omega
      have hdn := allF_ge done
      refine awp_skip ?_
      refine awp_seq ?_
      refine awp_region (by kernel_rfl) ?_
      iterate 2 (refine aL_S rfl rfl v_ ?_)
      refine aL_buildSlice rfl rfl rfl g_ g_ rfl rfl h_ c2_ (by decide) ?_
      refine aL_append rfl rfl rfl g_ g_ v_ h_ v_ c_ (by simp; omega) fun k52 hk52 => ?_
      (refine aL_S rfl rfl v_ ?_)
      refine aL_nil ?_
      refine awp_region (by kernel_rfl) ?_
      iterate 5 (refine aL_S rfl rfl v_ ?_)
      refine aL_nil ?_
      refine aNext (ι := Nat × List (List UInt8) × List UInt8) (i := ⟨tk, done, rest⟩) (k52, done ++ [bd], rest.drop (8 + bd.length)) ?_ ?_ ?_ ?_
      · show (rest.drop (8 + bd.length)).length < rest.length; rw [List.length_drop]; omega
      · exact ⟨(newTok_none hk52).2, by rw [allF_snoc, List.append_assoc, ← hpt]; exact hsp, by rw [hsc, scanF_some hfst]; simp⟩
      · have R := And.intro hcv hcv2; exact cv_
      · exact sub_
end Go.Proofs.YtbcgkbdacijoiaaGreat
end

section
set_option linter.all false
set_option maxRecDepth 100000
namespace Go.Proofs.YtbcgkbdacijoiaaGreat
open Go.Ab
def bk0 : Bk := ⟨[], []⟩
def apS (b : Bk) (r : List UInt8) : Bk × Int := if bkOk b then if (apl b r).2 then ((apl b r).1, 0) else (bk0, 3) else (bk0, 1)
theorem wkBk0 {n : Int} : Wk (.tup [.agg [vNil, vNil], vInt n]) (.tup [sBk bk0, vInt n]) := .tup _ _ rfl (fun i hi hi' => by match i, hi with | 0, _ => exact .agg _ _ rfl (fun j hj hj' => by match j, hj with | 0, _ => exact .nil _ _ | 1, _ => exact .nil _ _) | 1, _ => exact .refl _)
theorem aApply_c {b : Bk} {r : List UInt8} {σ : Store} (hs : BkSm b) (ho : ObjSm (rdObj (hdX r)).1) : ACalls Tryz.prog 37 [sBk b, vStr (B r)] σ fun v σ' => v = .tup [sBk (apS b r).1, vInt (apS b r).2] ∧ σ = σ' := by
  refine ACalls_of Tryz.func37 rfl Tryz.ntmps37 (congrArg Array.toList Tryz.results37) (by simp only [List.length_cons, List.length_nil]; decide) ?_; simp only [envOf_cons, envOf_nil, Nat.reduceAdd]
  refine awp_seq ?_
  refine awp_region (by kernel_rfl) ?_
  refine aL_box rfl rfl rfl v_ rfl g_ fun o2 ho2 => ?_
  repeat (rw [none_set_iff] at ho2; obtain ⟨_, ho2⟩ := ho2)
  refine aL_alloc rfl rfl rfl g_ gl_ fun o4 ho4 => ?_
  repeat (rw [none_set_iff] at ho4; obtain ⟨_, ho4⟩ := ho4)
  (refine aL_S rfl rfl v_ ?_)
  refine aL_nil ?_
  refine awp_seq ?_
  refine awp_seq ?_
  refine awp_region (by kernel_rfl) ?_
  (refine aL_S rfl rfl v_ ?_)
  refine aL_X rfl rfl (AOp_use rfl rfl (.inr ⟨rfl, rfl, rfl⟩) g_ va_ (bkCheck_c hs) ?_); rintro _ _ ⟨rfl, rfl⟩
  (refine aL_S rfl rfl v_ ?_)
  refine aL_nil ?_
  refine awp_cond v_ (fun hc1 => ?_) (fun hc1 => ?_)
  · replace hc1 := nm_ hc1
    have hb : bkOk b = false := by cases h : bkOk b with | false => rfl | true => rw [h] at hc1; simp at hc1
    refine awp_seq ?_
    refine awp_region (by kernel_rfl) ?_
    (refine aL_S rfl rfl v_ ?_)
    refine aL_store rfl rfl rfl v_ v_ h_ g_ rfl g_ c_ (by rfl) le_ v_ ?_
    (refine aL_S rfl rfl v_ ?_)
    refine aL_nil ?_
    refine awp_ret ?_
    rw [show apS b r = (bk0, 1) from by rw [apS, hb]; rfl]
    exact aEnd_retW (v := .tup [sBk bk0, vInt 1]) (v' := .tup [.agg [vNil, vNil], vInt 1]) va_ wkBk0 sub_ ⟨rfl, rfl⟩
  · replace hc1 := nm_ hc1
    have hb : bkOk b = true := by cases h : bkOk b with | true => rfl | false => rw [h] at hc1; simp at hc1
    refine awp_skip ?_
    refine awp_seq ?_
    refine awp_region (by kernel_rfl) ?_
    iterate 2 (refine aL_S rfl rfl v_ ?_)
    refine aL_X rfl rfl (AOp_use rfl rfl (.inr ⟨rfl, rfl, rfl⟩) g_ va_ (apply_c hb hs ho) ?_); rintro _ _ ⟨rfl, rfl⟩
    iterate 3 (refine aL_S rfl rfl v_ ?_)
    refine aL_alloc rfl rfl rfl g_ gl_ fun o6 ho6 => ?_
    repeat (rw [none_set_iff] at ho6; obtain ⟨_, ho6⟩ := ho6)
    refine aL_store rfl rfl rfl v_ v_ h_ g_ rfl g_ c_ (by rfl) le_ v_ ?_
    (refine aL_S rfl rfl v_ ?_)
    refine aL_nil ?_
    refine awp_seq ?_
    refine awp_seq ?_
    refine awp_region (by kernel_rfl) ?_
    iterate 2 (refine aL_S rfl rfl v_ ?_)
    refine aL_nil ?_
    refine awp_cond v_ (fun hc4 => ?_) (fun hc4 => ?_)
    · replace hc4 := nm_ hc4
      refine awp_seq ?_
      refine awp_region (by kernel_rfl) ?_
      (refine aL_S rfl rfl v_ ?_)
      refine aL_store rfl rfl rfl v_ v_ h_ g_ rfl g_ c_ (by rfl) le_ v_ ?_
      (refine aL_S rfl rfl v_ ?_)
      refine aL_nil ?_
      refine awp_ret ?_
      rw [show apS b r = (bk0, 3) from by rw [apS, hb, show (apl b r).2 = false by simpa using hc4]; rfl]
      exact aEnd_retW (v := .tup [sBk bk0, vInt 3]) (v' := .tup [.agg [vNil, vNil], vInt 3]) va_ wkBk0 sub_ ⟨rfl, rfl⟩
    · replace hc4 := nm_ hc4
      refine awp_skip ?_
      refine awp_seq ?_
      refine awp_region (by kernel_rfl) ?_
      (refine aL_S rfl rfl v_ ?_)
      refine aL_store rfl rfl rfl v_ v_ h_ g_ rfl g_ c_ (by rfl) le_ v_ ?_
      (refine aL_S rfl rfl v_ ?_)
      refine aL_nil ?_
      refine awp_ret ?_
      refine aEnd_ret (σ' := σ) v_ sub_ ?_
      exact ⟨by rw [apS, hb, show (apl b r).2 = true by simpa using hc4]; rfl, rfl⟩
theorem apl_1 {b : Bk} {r : List UInt8} (hp : placeOk (hdP r) = true) (hk : hdK r = 1) : apl b r = (⟨insK Itm.place ⟨hdP r, (rdObj ((hdX r).1, true)).1⟩ b.items, b.mints⟩, ofOk (hdX r).1) := by
  have hx := hd_fault hp
  obtain ⟨_, k, h1, h2⟩ := hd_split hp
  have e : rdObj (hdX r) = rdObj ((hdX r).1, true) := congrArg rdObj hx
  have hk1 : k = 1 := UInt8.toNat_inj.1 (by have : (k.toNat : Int) = 1 := h1 ▸ hk; simpa using (by omega : k.toNat = 1))
  unfold apl
  rw [if_pos hp, if_pos hk, e]
  have hput : decide (putR (hdP r) (rdObj ((hdX r).1, true)).1 = r) = decide (objB (rdObj ((hdX r).1, true)).1 = (hdX r).1) := by
    rw [decide_eq_decide]
    conv => lhs; rhs; rw [h2, hk1]
    unfold putR
    simp
  rw [hput]; rfl
theorem apl_2 {b : Bk} {r : List UInt8} (hp : placeOk (hdP r) = true) (hk : hdK r = 2) : apl b r = (⟨outK (hdP r) b.items, b.mints⟩, decide ((hdX r).1 = [])) := by
  have hx := (hd_split hp).1
  unfold apl
  rw [if_pos hp, if_neg (by omega), if_pos hk, doneR, hx]; rfl
theorem apl_3 {b : Bk} {r : List UInt8} (hp : placeOk (hdP r) = true) (hk : hdK r = 3) : apl b r = (⟨b.items, insK Mnt.place ⟨hdP r, max (rdNum (hdX r) 8).1 (nextS b.mints (hdP r) - 1)⟩ b.mints⟩, doneR (rdNum (hdX r) 8).2 && cntOk (rdNum (hdX r) 8).1) := by
  unfold apl
  rw [if_pos hp, if_neg (by omega), if_neg (by omega), if_pos hk]
theorem apl_no {b : Bk} {r : List UInt8} (h : placeOk (hdP r) = false ∨ (hdK r ≠ 1 ∧ hdK r ≠ 2 ∧ hdK r ≠ 3)) : apl b r = (b, false) := by
  unfold apl
  split
  · rename_i hp
    rcases h with h | ⟨h1, h2, h3⟩
    · rw [h] at hp; cases hp
    · rw [if_neg h1, if_neg h2, if_neg h3]
  · rfl
set_option maxHeartbeats 2000000 in
theorem rApply27_c {b : Bk} {r : List UInt8} {σ : Store} (hs : BkSm b) (hr : r.length ≤ 1000000000) (ho : ObjSm (rdObj (hdX r)).1) : ACalls Tryz.prog 38 [sBk b, vStr (B r)] σ fun v σ' => v = .tup [sBk (apS b r).1, vInt (apS b r).2] ∧ σ = σ' := by
  obtain ⟨y1, hy1⟩ : ∃ y, rdNum (r, true) 1 = y := ⟨_, rfl⟩
  obtain ⟨y2, hy2⟩ : ∃ y, rdText y1.2 = y := ⟨_, rfl⟩
  have hK : hdK r = y1.1 := by rw [hdK, hy1]
  have hP : hdP r = B y2.1 := by rw [hdP, hy1, hy2]
  have hX : hdX r = y2.2 := by rw [hdX, hy1, hy2]
  have hpl : (B y2.1).size ≤ 1048576 := by
    rw [B_size, ← hy2]
    exact Nat.le_trans rdTake_len (rdCnt_le _ _)
  have ni := hs.ni; have nm := hs.nm
  refine ACalls_of Tryz.func38 rfl Tryz.ntmps38 (congrArg Array.toList Tryz.results38) (by simp only [List.length_cons, List.length_nil]; decide) ?_; simp only [envOf_cons, envOf_nil, Nat.reduceAdd]
  refine awp_seq ?_
  refine awp_region (by kernel_rfl) ?_
  refine aL_box rfl rfl rfl v_ rfl g_ fun o2 ho2 => ?_
  repeat (rw [none_set_iff] at ho2; obtain ⟨_, ho2⟩ := ho2)
  refine aL_alloc rfl rfl rfl g_ gl_ fun o4 ho4 => ?_
  repeat (rw [none_set_iff] at ho4; obtain ⟨_, ho4⟩ := ho4)
  (refine aL_S rfl rfl v_ ?_)
  refine aL_nil ?_
  refine awp_seq ?_
  refine awp_seq ?_
  refine awp_region (by kernel_rfl) ?_
  (refine aL_S rfl rfl v_ ?_)
  refine aL_X rfl rfl (AOp_use rfl rfl (.inr ⟨rfl, rfl, rfl⟩) g_ va_ (rMayB_c hs) ?_); rintro _ _ ⟨rfl, rfl⟩
  (refine aL_S rfl rfl v_ ?_)
  refine aL_nil ?_
  refine awp_cond v_ (fun hc1 => ?_) (fun hc1 => ?_)
  · replace hc1 := nm_ hc1
    refine awp_seq ?_
    refine awp_region (by kernel_rfl) ?_
    (refine aL_S rfl rfl v_ ?_)
    refine aL_store rfl rfl rfl v_ v_ h_ g_ rfl g_ c_ (by rfl) le_ v_ ?_
    (refine aL_S rfl rfl v_ ?_)
    refine aL_nil ?_
    refine awp_ret ?_
    rw [show apS b r = (bk0, 1) from by rw [apS, show bkOk b = false by simpa using hc1]; rfl]
    exact aEnd_retW (v := .tup [sBk bk0, vInt 1]) (v' := .tup [.agg [vNil, vNil], vInt 1]) va_ wkBk0 sub_ ⟨rfl, rfl⟩
  · replace hc1 := nm_ hc1
    have hb : bkOk b = true := by simpa using hc1
    obtain ⟨⟨ri, _⟩, rm, cm⟩ := bkOk_iff.1 hb
    have hap0 : apS b r = if (apl b r).2 then ((apl b r).1, 0) else (bk0, 3) := by rw [apS, hb]; rfl
    refine awp_skip ?_
    refine awp_seq ?_
    refine awp_region (by kernel_rfl) ?_
    iterate 2 (refine aL_S rfl rfl v_ ?_)
    refine aL_box rfl rfl rfl v_ rfl g_ fun o18 ho18 => ?_
    repeat (rw [none_set_iff] at ho18; obtain ⟨_, ho18⟩ := ho18)
    (refine aL_S rfl rfl v_ ?_)
    refine aL_nil ?_
    refine awp_seq ?_
    refine awp_region (by kernel_rfl) ?_
    (refine aL_S rfl rfl v_ ?_)
    refine aL_X rfl rfl (AOp_use rfl rfl (.inr ⟨rfl, rfl, rfl⟩) g_ va_ (rfByte_c (x := (r, true)) (Store.set_get ..)) ?_); rintro _ _ ⟨rfl, rfl⟩
    rw [hy1]
    (refine aL_S rfl rfl v_ ?_)
    refine aL_nil ?_
    refine awp_seq ?_
    refine awp_region (by kernel_rfl) ?_
    (refine aL_S rfl rfl v_ ?_)
    refine aL_X rfl rfl (AOp_use rfl rfl (.inr ⟨rfl, rfl, rfl⟩) g_ va_ (rfText_c (x := y1.2) (Store.set_get ..)) ?_); rintro _ _ ⟨rfl, rfl⟩
    rw [hy2]
    (refine aL_S rfl rfl v_ ?_)
    refine aL_nil ?_
    refine awp_seq ?_
    refine awp_seq ?_
    refine awp_region (by kernel_rfl) ?_
    iterate 5 (refine aL_S rfl rfl v_ ?_)
    refine aL_GF rfl rfl v_ rfl vg_ ?_
    refine aL_GFX rfl rfl v_ rfl (fun hb => AOp_useV (by rfl) (by rfl) (.inr ⟨by rfl, by rfl, by rfl⟩) g_ cg_ (rIsPlace_c (by omega))) ?_
    refine aL_GF rfl rfl v_ rfl vg_ ?_
    (refine aL_S rfl rfl v_ ?_)
    refine aL_nil ?_
    refine awp_cond v_ (fun hc6 => ?_) (fun hc6 => ?_)
    · replace hc6 := nm_ hc6
      refine awp_seq ?_
      refine awp_region (by kernel_rfl) ?_
      (refine aL_S rfl rfl v_ ?_)
      refine aL_store rfl rfl rfl v_ v_ h_ g_ rfl g_ c_ (by rfl) le_ v_ ?_
      (refine aL_S rfl rfl v_ ?_)
      refine aL_nil ?_
      refine awp_ret ?_
      have hno : placeOk (hdP r) = false := by
        cases hp : placeOk (hdP r) with
        | false => rfl
        | true =>
          have h1 := (hd_split hp).1
          rw [hX] at h1
          rw [hP] at hp
          rcases hc6 with h | h
          · rw [h1] at h; simp at h
          · rw [hp] at h; simp at h
      rw [show apS b r = (bk0, 3) from by rw [hap0, apl_no (.inl hno)]; rfl]
      exact aEnd_retW (v := .tup [sBk bk0, vInt 3]) (v' := .tup [.agg [vNil, vNil], vInt 3]) va_ wkBk0 sub_ ⟨rfl, rfl⟩
    · replace hc6 := nm_ hc6
      have hf : y2.2.2 = true := by simpa using hc6.1
      have hp : placeOk (hdP r) = true := by rw [hP]; simpa using hc6.2
      obtain ⟨l, hl⟩ : ∃ l, y2.2 = (l, true) := ⟨y2.2.1, by rw [← hf]⟩
      have hX1 : (hdX r).1 = l := by rw [hX, hl]
      rw [hX, hl] at ho
      have hl1 : y2.2.1 = l := by rw [hl]
      refine awp_skip ?_
      refine awp_seq ?_
      refine awp_seq ?_
      refine awp_region (by kernel_rfl) ?_
      (refine aL_S rfl rfl v_ ?_)
      refine aL_nil ?_
      refine awp_block ?_
      refine awp_seq ?_
      refine awp_region (by kernel_rfl) ?_
      iterate 2 (refine aL_S rfl rfl v_ ?_)
      refine aL_nil ?_
      refine awp_cond v_ (fun hc9 => ?_) (fun hc9 => ?_)
      · replace hc9 := nm_ hc9
        refine awp_seq ?_
        have R := hl1
        refine awp_region (by kernel_rfl) ?_
        iterate 4 (refine aL_S rfl rfl v_ ?_)
        refine aL_X rfl rfl (AOp_use rfl rfl (.inr ⟨rfl, rfl, rfl⟩) g_ va_ (rwOf_g (s := l) ho) ?_); rintro _ _ ⟨rfl, rfl⟩
        iterate 3 (refine aL_S rfl rfl v_ ?_)
        refine aL_alloc rfl rfl rfl g_ gl_ fun o9 ho9 => ?_
        repeat (rw [none_set_iff] at ho9; obtain ⟨_, ho9⟩ := ho9)
        refine aL_store rfl rfl rfl v_ v_ h_ g_ rfl g_ c_ (by rfl) le_ v_ ?_
        (refine aL_S rfl rfl v_ ?_)
        refine aL_nil ?_
        refine awp_seq ?_
        refine awp_seq ?_
        refine awp_region (by kernel_rfl) ?_
        iterate 2 (refine aL_S rfl rfl v_ ?_)
        refine aL_nil ?_
        refine awp_cond v_ (fun hc11 => ?_) (fun hc11 => ?_)
        · replace hc11 := nm_ hc11
          skip
          have hno : ofOk l = false := by
            cases h : ofOk l with
            | false => rfl
            | true => exact absurd (show (ofW l).2 = 0 by unfold ofW; rw [h]; rfl) hc11
          refine awp_seq ?_
          refine awp_region (by kernel_rfl) ?_
          (refine aL_S rfl rfl v_ ?_)
          refine aL_store rfl rfl rfl v_ v_ h_ g_ rfl g_ c_ (by rfl) le_ v_ ?_
          (refine aL_S rfl rfl v_ ?_)
          refine aL_nil ?_
          refine awp_ret ?_
          rw [show apS b r = (bk0, 3) from by rw [hap0, apl_1 hp (by rw [hK]; exact hc9), hX1, hno]; rfl]
          exact aEnd_retW (v := .tup [sBk bk0, vInt 3]) (v' := .tup [.agg [vNil, vNil], vInt 3]) va_ wkBk0 sub_ ⟨rfl, rfl⟩
        · replace hc11 := nm_ hc11
          skip
          have hyes : ofW l = ((rdObj (l, true)).1, 0) := by
            unfold ofW at hc11 ⊢
            split
            · rfl
            · rename_i h; rw [if_neg h] at hc11; exact absurd hc11 (by decide)
          have hok : ofOk l = true := by
            cases h : ofOk l with
            | true => rfl
            | false => unfold ofW at hyes; rw [h] at hyes; simp at hyes
          have hw1 : (ofW l).1 = (rdObj (l, true)).1 := by rw [hyes]
          refine awp_skip ?_
          refine awp_seq ?_
          have R := hw1
          refine awp_draw (.op 0 0 (.op 1 0 (.op 2 0 (.op 3 0 (.op 4 0 (.op 6 0 (.op 7 0 (.op 5 1 (.op 8 0 (.op 9 2 (.op 10 0 .nil))))))))))) Tryz.mixed (by kernel_rfl) ?_
          iterate 7 (refine dR_S o_ (by rfl) (by rfl) v_ ?_)
          refine dR_X o_ (by rfl) (by rfl) (AOp_use (by rfl) (by rfl) (.inr ⟨by rfl, by rfl, by rfl⟩) g_ va_ (rWith27_c (x := ⟨B y2.1, (rdObj (l, true)).1⟩) ri (by omega)) ?_); rintro _ _ ⟨rfl, rfl⟩; refine ⟨sub_, ?_⟩
          (refine dR_S o_ (by rfl) (by rfl) v_ ?_)
          refine dR_store o_ (by rfl) (by rfl) (by rfl) v_ v_ h_ g_ rfl g_ c_ (by rfl) le_ v_ ?_
          (refine dR_S o_ (by rfl) (by rfl) v_ ?_)
          refine dR_nil ?_
          refine awp_ret ?_
          refine aEnd_ret (σ' := σ) v_ sub_ ?_
          exact ⟨by rw [hap0, apl_1 hp (by rw [hK]; exact hc9), hX1, hok, hP]; rfl, rfl⟩
      · replace hc9 := nm_ hc9
        refine awp_seq ?_
        refine awp_region (by kernel_rfl) ?_
        iterate 2 (refine aL_S rfl rfl v_ ?_)
        refine aL_nil ?_
        refine awp_cond v_ (fun hc14 => ?_) (fun hc14 => ?_)
        · replace hc14 := nm_ hc14
          refine awp_seq ?_
          refine awp_seq ?_
          have R := hl1
          refine awp_region (by kernel_rfl) ?_
          iterate 5 (refine aL_S rfl rfl v_ ?_)
          refine aL_nil ?_
          refine awp_cond v_ (fun hc15 => ?_) (fun hc15 => ?_)
          · replace hc15 := nm_ hc15
            refine awp_seq ?_
            refine awp_region (by kernel_rfl) ?_
            (refine aL_S rfl rfl v_ ?_)
            refine aL_store rfl rfl rfl v_ v_ h_ g_ rfl g_ c_ (by rfl) le_ v_ ?_
            (refine aL_S rfl rfl v_ ?_)
            refine aL_nil ?_
            refine awp_ret ?_
            have hno : decide ((hdX r).1 = []) = false := by
              rw [hX1]
              refine decide_eq_false fun h => ?_
              rw [h] at hc15
              exact hc15 rfl
            rw [show apS b r = (bk0, 3) from by rw [hap0, apl_2 hp (by rw [hK]; exact hc14), hno]; rfl]
            exact aEnd_retW (v := .tup [sBk bk0, vInt 3]) (v' := .tup [.agg [vNil, vNil], vInt 3]) va_ wkBk0 sub_ ⟨rfl, rfl⟩
          · replace hc15 := nm_ hc15
            refine awp_skip ?_
            refine awp_seq ?_
            refine awp_draw (.op 0 0 (.op 1 0 (.op 2 0 (.op 4 0 (.op 5 0 (.op 3 1 (.op 6 0 (.op 7 2 (.op 8 0 .nil))))))))) Tryz.mixed (by kernel_rfl) ?_
            iterate 5 (refine dR_S o_ (by rfl) (by rfl) v_ ?_)
            refine dR_X o_ (by rfl) (by rfl) (AOp_use (by rfl) (by rfl) (.inr ⟨by rfl, by rfl, by rfl⟩) g_ va_ (without_c (by omega)) ?_); rintro _ _ ⟨rfl, rfl⟩; refine ⟨sub_, ?_⟩
            (refine dR_S o_ (by rfl) (by rfl) v_ ?_)
            refine dR_store o_ (by rfl) (by rfl) (by rfl) v_ v_ h_ g_ rfl g_ c_ (by rfl) le_ v_ ?_
            (refine dR_S o_ (by rfl) (by rfl) v_ ?_)
            refine dR_nil ?_
            refine awp_ret ?_
            refine aEnd_ret (σ' := σ) v_ sub_ ?_
            have hyes : decide ((hdX r).1 = []) = true := by
              rw [hX1]
              exact decide_eq_true ((B_eq_iff (b := [])).1 hc15)
            exact ⟨by rw [hap0, apl_2 hp (by rw [hK]; exact hc14), hyes, hP]; rfl, rfl⟩
        · replace hc14 := nm_ hc14
          refine awp_seq ?_
          refine awp_region (by kernel_rfl) ?_
          iterate 2 (refine aL_S rfl rfl v_ ?_)
          refine aL_nil ?_
          refine awp_cond v_ (fun hc18 => ?_) (fun hc18 => ?_)
          · replace hc18 := nm_ hc18
            refine awp_seq ?_
            refine awp_region (by kernel_rfl) ?_
            (refine aL_S rfl rfl v_ ?_)
            refine aL_X rfl rfl (AOp_use rfl rfl (.inr ⟨rfl, rfl, rfl⟩) g_ va_ (rfInt_c (x := y2.2) (Store.set_get ..)) ?_); rintro _ _ ⟨rfl, rfl⟩
            (refine aL_S rfl rfl v_ ?_)
            refine aL_nil ?_
            refine awp_seq ?_
            refine awp_seq ?_
            refine awp_region (by kernel_rfl) ?_
            (refine aL_S rfl rfl v_ ?_)
            refine aL_X rfl rfl (AOp_use rfl rfl (.inr ⟨rfl, rfl, rfl⟩) g_ va_ (rfDone_c (x := (rdNum y2.2 8).2) (Store.set_get ..)) ?_); rintro _ _ ⟨rfl, rfl⟩
            iterate 2 (refine aL_S rfl rfl v_ ?_)
            refine aL_GF rfl rfl v_ rfl vg_ ?_
            refine aL_GF rfl rfl v_ rfl vg_ ?_
            iterate 2 (refine aL_S rfl rfl v_ ?_)
            refine aL_GF rfl rfl v_ rfl vg_ ?_
            refine aL_GF rfl rfl v_ rfl vg_ ?_
            (refine aL_S rfl rfl v_ ?_)
            refine aL_nil ?_
            refine awp_cond v_ (fun hc20 => ?_) (fun hc20 => ?_)
            · replace hc20 := nm_ hc20
              refine awp_seq ?_
              refine awp_region (by kernel_rfl) ?_
              (refine aL_S rfl rfl v_ ?_)
              refine aL_store rfl rfl rfl v_ v_ h_ g_ rfl g_ c_ (by rfl) le_ v_ ?_
              (refine aL_S rfl rfl v_ ?_)
              refine aL_nil ?_
              refine awp_ret ?_
              have hno : (doneR (rdNum (hdX r) 8).2 && cntOk (rdNum (hdX r) 8).1) = false := by
                rw [hX, Bool.and_eq_false_iff]
                rcases hc20 with (h | h) | h
                · exact .inl (by rw [doneR]; rcases h with h | h <;> simp [h])
                · exact .inr (by rw [cntOk, decide_eq_false (by omega)]; rfl)
                · exact .inr (by rw [cntOk, decide_eq_false (p := (rdNum y2.2 8).1 ≤ 9007199254740992) (by omega), Bool.and_false])
              rw [show apS b r = (bk0, 3) from by rw [hap0, apl_3 hp (by rw [hK]; exact hc18), hno]; rfl]
              exact aEnd_retW (v := .tup [sBk bk0, vInt 3]) (v' := .tup [.agg [vNil, vNil], vInt 3]) va_ wkBk0 sub_ ⟨rfl, rfl⟩
            · replace hc20 := nm_ hc20
              refine awp_skip ?_
              refine awp_seq ?_
              refine awp_draw (.op 0 0 (.op 1 0 (.op 2 0 (.op 3 0 (.op 4 0 (.op 5 0 (.op 6 0 (.op 7 1 (.op 8 0 (.op 9 2 (.op 10 0 .nil))))))))))) Tryz.mixed (by kernel_rfl) ?_
              iterate 7 (refine dR_S o_ (by rfl) (by rfl) v_ ?_)
              refine dR_X o_ (by rfl) (by rfl) (AOp_use (by rfl) (by rfl) (.inr ⟨by rfl, by rfl, by rfl⟩) g_ va_ (rMinted_c (x := ⟨B y2.1, (rdNum y2.2 8).1⟩) rm (by show 1 ≤ (rdNum y2.2 8).1; omega) (by omega)) ?_); rintro _ _ ⟨rfl, rfl⟩; refine ⟨sub_, ?_⟩
              (refine dR_S o_ (by rfl) (by rfl) v_ ?_)
              refine dR_store o_ (by rfl) (by rfl) (by rfl) v_ v_ h_ g_ rfl g_ c_ (by rfl) le_ v_ ?_
              (refine dR_S o_ (by rfl) (by rfl) v_ ?_)
              refine dR_nil ?_
              refine awp_ret ?_
              refine aEnd_ret (σ' := σ) v_ sub_ ?_
              have hyes : (doneR (rdNum (hdX r) 8).2 && cntOk (rdNum (hdX r) 8).1) = true := by
                rw [hX, Bool.and_eq_true, cntOk_iff]
                exact ⟨by rw [doneR]; simp [hc20.1.1.1, hc20.1.1.2], by omega, by omega⟩
              exact ⟨by rw [hap0, apl_3 hp (by rw [hK]; exact hc18), hyes, hP, hX]; rfl, rfl⟩
          · replace hc18 := nm_ hc18
            refine awp_skip ?_
            refine awp_seq ?_
            refine awp_region (by kernel_rfl) ?_
            (refine aL_S rfl rfl v_ ?_)
            refine aL_store rfl rfl rfl v_ v_ h_ g_ rfl g_ c_ (by rfl) le_ v_ ?_
            (refine aL_S rfl rfl v_ ?_)
            refine aL_nil ?_
            refine awp_ret ?_
            rw [show apS b r = (bk0, 3) from by rw [hap0, apl_no (.inr (by rw [hK]; exact ⟨hc9, hc14, hc18⟩))]; rfl]
            exact aEnd_retW (v := .tup [sBk bk0, vInt 3]) (v' := .tup [.agg [vNil, vNil], vInt 3]) va_ wkBk0 sub_ ⟨rfl, rfl⟩
end Go.Proofs.YtbcgkbdacijoiaaGreat
end
