/-
  Objects of bytes; The document's books: with, without, minted; its frames; The document's frames; Apply and Replay of books, both sides. Own work (an AI agent).
-/
import Derived.Test.YtbcgkbdacijoiaaGreatGG
import Derived.Test.YtbcgkbdacijoiaaGreatGH
import Derived.Test.YtbcgkbdacijoiaaGreatGI
import Derived.Test.YtbcgkbdacijoiaaGreatGJ

section
set_option linter.all false
set_option maxRecDepth 100000
namespace Go.Proofs.YtbcgkbdacijoiaaGreat
open Go.Ab

end Go.Proofs.YtbcgkbdacijoiaaGreat
end

section
set_option linter.all false
set_option maxRecDepth 100000
namespace Go.Proofs.YtbcgkbdacijoiaaGreat
open Go.Ab
end Go.Proofs.YtbcgkbdacijoiaaGreat
end

section
set_option linter.all false
set_option maxRecDepth 100000
namespace Go.Proofs.YtbcgkbdacijoiaaGreat
open Go.Ab
theorem rPut26_c {body : List UInt8} {σ : Store} (hs : body.length ≤ 100000000) : ACalls Tryz.prog 44 [vStr (B body)] σ fun v σ' => v = vStr (B (putF body)) ∧ σ = σ' := by
  have hB := B_size body
  have hl4 : (beI 4 (body.length : Int)).length = 4 := beI_length ..
  have hl5 : (beI 4 (sumF body : Int)).length = 4 := beI_length ..
  have hl6 : (beI 4 (body.length : Int) ++ beI 4 (sumF body : Int)).length = 8 := by rw [List.length_append]; omega
  have hsum : crcS (beI 4 (body.length : Int) ++ body) = sumF body := rfl
  refine ACalls_of Tryz.func44 rfl Tryz.ntmps44 (congrArg Array.toList Tryz.results44) (by simp only [List.length_cons, List.length_nil]; decide) ?_; simp only [envOf_cons, envOf_nil, Nat.reduceAdd]
  refine awp_seq ?_
  have R := hB
  refine awp_region (by kernel_rfl) ?_
  (refine aL_S rfl rfl v_ ?_)
  refine aL_nil ?_
  refine awp_seq ?_
  have R := hB
  refine awp_region (by kernel_rfl) ?_
  iterate 2 (refine aL_S rfl rfl v_ ?_)
  refine aL_X rfl rfl (AOp_use rfl rfl (.inr ⟨rfl, rfl, rfl⟩) g_ va_ (rCount_c) ?_); rintro _ _ ⟨rfl, rfl⟩
  (refine aL_S rfl rfl v_ ?_)
  refine aL_nil ?_
  refine awp_seq ?_
  have R := hB
  refine awp_region (by kernel_rfl) ?_
  iterate 4 (refine aL_S rfl rfl v_ ?_)
  refine aL_X rfl rfl (AOp_use rfl rfl (.inr ⟨rfl, rfl, rfl⟩) g_ va_ (rcSum_c (s := beI 4 (body.length : Int) ++ body) (by rw [List.length_append]; omega)) ?_); rintro _ _ ⟨rfl, rfl⟩
  rw [hsum]
  refine aL_X rfl rfl (AOp_use rfl rfl (.inr ⟨rfl, rfl, rfl⟩) g_ va_ (rCount_c) ?_); rintro _ _ ⟨rfl, rfl⟩
  iterate 4 (refine aL_S rfl rfl v_ ?_)
  refine aL_nil ?_
  refine awp_ret ?_
  refine aEnd_ret (σ' := σ) v_ sub_ ?_
  exact ⟨by rw [putF, List.append_assoc], rfl⟩
theorem rAll26_c {l : List (List UInt8)} {t : Bool} {σ : Store} (hl : l.length ≤ 1000000) (hT : (allF l).length ≤ 100000000) : ACalls Tryz.prog 45 [.sl 1 (vBs l) t] σ fun v σ' => v = vStr (B (allF l)) ∧ σ = σ' := by
  refine ACalls_of Tryz.func45 rfl Tryz.ntmps45 (congrArg Array.toList Tryz.results45) (by simp only [List.length_cons, List.length_nil]; decide) ?_; simp only [envOf_cons, envOf_nil, Nat.reduceAdd]
  refine awp_seq ?_
  refine awp_region (by kernel_rfl) ?_
  (refine aL_S rfl rfl v_ ?_)
  refine aL_nil ?_
  refine awp_seq ?_
  refine awp_region (by kernel_rfl) ?_
  (refine aL_S rfl rfl v_ ?_)
  refine aL_nil ?_
  refine awp_seq ?_
  refine awp_seq ?_
  refine awp_region (by kernel_rfl) ?_
  (refine aL_S rfl rfl v_ ?_)
  refine aL_nil ?_
  refine awp_block ?_
  refine awp_loop_env (ι := Nat) (fun i => l.length - i) (fun i => i ≤ l.length) (fun i => [(0, .sl 1 (vBs l) t), (3, vStr (B (allF (l.take i)))), (4, vInt i)]) (fun i => σ) 0 ?_ ?_ ?_ ?_
  · exact Nat.zero_le _
  · exact cv_
  · exact sub_
  rintro i hi
  simp only [envL_cons, envL_nil]
  refine awp_seq ?_
  refine awp_seq ?_
  refine awp_region (by kernel_rfl) ?_
  iterate 4 (refine aL_S rfl rfl v_ ?_)
  refine aL_nil ?_
  refine awp_cond v_ (fun hc3 => ?_) (fun hc3 => ?_)
  · replace hc3 := nm_ hc3
    refine awp_skip ?_
    refine awp_seq ?_
    refine awp_block ?_
    obtain ⟨b, hb⟩ := get_some (l := l) (k := i) (by omega)
    have h1 := allF_take hb
    have h2 := allF_le l (i + 1)
    have hbl : b.length ≤ 100000000 := by rw [h1, List.length_append, putF_len] at h2; omega
    have h3 := h1 ▸ h2
    have h4 := putF_len b
    rw [List.length_append] at h3
    have hcv : B (allF (l.take (i + 1))) = B (allF (l.take i) ++ putF b) := by rw [h1]
    have R := hb
    refine awp_region (by kernel_rfl) ?_
    iterate 5 (refine aL_S rfl rfl v_ ?_)
    refine aL_X rfl rfl (AOp_use rfl rfl (.inr ⟨rfl, rfl, rfl⟩) g_ va_ (rPut26_c hbl) ?_); rintro _ _ ⟨rfl, rfl⟩
    iterate 2 (refine aL_S rfl rfl v_ ?_)
    refine aL_nil ?_
    refine awp_region (by kernel_rfl) ?_
    iterate 3 (refine aL_S rfl rfl v_ ?_)
    refine aL_nil ?_
    refine aNext (ι := Nat) (i := i) (i + 1) ?_ ?_ ?_ ?_
    · omega
    · omega
    · have R := hcv; exact cv_
    · exact sub_
  · replace hc3 := nm_ hc3
    refine awp_exit ?_
    refine aThen_exit ?_
    refine aThen_exit ?_
    refine aBlock_hit ?_
    refine awp_seq ?_
    obtain rfl : i = l.length := by omega
    rw [List.take_length]
    refine awp_region (by kernel_rfl) ?_
    iterate 2 (refine aL_S rfl rfl v_ ?_)
    refine aL_nil ?_
    refine awp_ret ?_
    refine aEnd_ret (σ' := σ) v_ sub_ ?_
    exact ⟨rfl, rfl⟩
end Go.Proofs.YtbcgkbdacijoiaaGreat
end

section
set_option linter.all false
set_option maxRecDepth 100000
namespace Go.Proofs.YtbcgkbdacijoiaaGreat
open Go.Ab
def bk0 : Bk := ⟨[], []⟩
def apS (b : Bk) (r : List UInt8) : Bk × Int := if bkOk b then if (apl b r).2 then ((apl b r).1, 0) else (bk0, 3) else (bk0, 1)
theorem wkBk0 {n : Int} : Wk (.tup [.agg [vNil, vNil], vInt n]) (.tup [sBk bk0, vInt n]) := .tup _ _ rfl (fun i hi hi' => by match i, hi with | 0, _ => exact .agg _ _ rfl (fun j hj hj' => by match j, hj with | 0, _ => exact .nil _ _ | 1, _ => exact .nil _ _) | 1, _ => exact .refl _)
theorem aApply_c {b : Bk} {r : List UInt8} {σ : Store} (hs : BkSm b) (ho : ObjSm (rdObj (hdX r)).1) : ACalls Tryz.prog 37 [sBk b, vStr (B r)] σ fun v σ' => v = .tup [sBk (apS b r).1, vInt (apS b r).2] ∧ σ = σ' := by
  refine ACalls_of Tryz.func37 rfl Tryz.ntmps37 (congrArg Array.toList Tryz.results37) (by simp only [List.length_cons, List.length_nil]; decide) ?_; simp only [envOf_cons, envOf_nil, Nat.reduceAdd]
  refine awp_seq ?_
  refine awp_region (by kernel_rfl) ?_
  refine aL_box rfl rfl rfl v_ rfl g_ fun o2 ho2 => ?_
  repeat (rw [none_set_iff] at ho2; obtain ⟨_, ho2⟩ := ho2)
  refine aL_alloc rfl rfl rfl g_ gl_ fun o4 ho4 => ?_
  repeat (rw [none_set_iff] at ho4; obtain ⟨_, ho4⟩ := ho4)
  (refine aL_S rfl rfl v_ ?_)
  refine aL_nil ?_
  refine awp_seq ?_
  refine awp_seq ?_
  refine awp_region (by kernel_rfl) ?_
  (refine aL_S rfl rfl v_ ?_)
  refine aL_X rfl rfl (AOp_use rfl rfl (.inr ⟨rfl, rfl, rfl⟩) g_ va_ (bkCheck_c hs) ?_); rintro _ _ ⟨rfl, rfl⟩
  (refine aL_S rfl rfl v_ ?_)
  refine aL_nil ?_
  refine awp_cond v_ (fun hc1 => ?_) (fun hc1 => ?_)
  · replace hc1 := nm_ hc1
    have hb : bkOk b = false := by cases h : bkOk b with | false => rfl | true => rw [h] at hc1; simp at hc1
    refine awp_seq ?_
    refine awp_region (by kernel_rfl) ?_
    (refine aL_S rfl rfl v_ ?_)
    refine aL_store rfl rfl rfl v_ v_ h_ g_ rfl g_ c_ (by rfl) le_ v_ ?_
    (refine aL_S rfl rfl v_ ?_)
    refine aL_nil ?_
    refine awp_ret ?_
    rw [show apS b r = (bk0, 1) from by rw [apS, hb]; rfl]
    exact aEnd_retW (v := .tup [sBk bk0, vInt 1]) (v' := .tup [.agg [vNil, vNil], vInt 1]) va_ wkBk0 sub_ ⟨rfl, rfl⟩
  · replace hc1 := nm_ hc1
    have hb : bkOk b = true := by cases h : bkOk b with | true => rfl | false => rw [h] at hc1; simp at hc1
    refine awp_skip ?_
    refine awp_seq ?_
    refine awp_region (by kernel_rfl) ?_
    iterate 2 (refine aL_S rfl rfl v_ ?_)
    refine aL_X rfl rfl (AOp_use rfl rfl (.inr ⟨rfl, rfl, rfl⟩) g_ va_ (apply_c hb hs ho) ?_); rintro _ _ ⟨rfl, rfl⟩
    iterate 3 (refine aL_S rfl rfl v_ ?_)
    refine aL_alloc rfl rfl rfl g_ gl_ fun o6 ho6 => ?_
    repeat (rw [none_set_iff] at ho6; obtain ⟨_, ho6⟩ := ho6)
    refine aL_store rfl rfl rfl v_ v_ h_ g_ rfl g_ c_ (by rfl) le_ v_ ?_
    (refine aL_S rfl rfl v_ ?_)
    refine aL_nil ?_
    refine awp_seq ?_
    refine awp_seq ?_
    refine awp_region (by kernel_rfl) ?_
    iterate 2 (refine aL_S rfl rfl v_ ?_)
    refine aL_nil ?_
    refine awp_cond v_ (fun hc4 => ?_) (fun hc4 => ?_)
    · replace hc4 := nm_ hc4
      refine awp_seq ?_
      refine awp_region (by kernel_rfl) ?_
      (refine aL_S rfl rfl v_ ?_)
      refine aL_store rfl rfl rfl v_ v_ h_ g_ rfl g_ c_ (by rfl) le_ v_ ?_
      (refine aL_S rfl rfl v_ ?_)
      refine aL_nil ?_
      refine awp_ret ?_
      rw [show apS b r = (bk0, 3) from by rw [apS, hb, show (apl b r).2 = false by simpa using hc4]; rfl]
      exact aEnd_retW (v := .tup [sBk bk0, vInt 3]) (v' := .tup [.agg [vNil, vNil], vInt 3]) va_ wkBk0 sub_ ⟨rfl, rfl⟩
    · replace hc4 := nm_ hc4
      refine awp_skip ?_
      refine awp_seq ?_
      refine awp_region (by kernel_rfl) ?_
      (refine aL_S rfl rfl v_ ?_)
      refine aL_store rfl rfl rfl v_ v_ h_ g_ rfl g_ c_ (by rfl) le_ v_ ?_
      (refine aL_S rfl rfl v_ ?_)
      refine aL_nil ?_
      refine awp_ret ?_
      refine aEnd_ret (σ' := σ) v_ sub_ ?_
      exact ⟨by rw [apS, hb, show (apl b r).2 = true by simpa using hc4]; rfl, rfl⟩
theorem apl_no {b : Bk} {r : List UInt8} (h : placeOk (hdP r) = false ∨ (hdK r ≠ 1 ∧ hdK r ≠ 2 ∧ hdK r ≠ 3)) : apl b r = (b, false) := by
  unfold apl
  split
  · rename_i hp
    rcases h with h | ⟨h1, h2, h3⟩
    · rw [h] at hp; cases hp
    · rw [if_neg h1, if_neg h2, if_neg h3]
  · rfl
end Go.Proofs.YtbcgkbdacijoiaaGreat
end
