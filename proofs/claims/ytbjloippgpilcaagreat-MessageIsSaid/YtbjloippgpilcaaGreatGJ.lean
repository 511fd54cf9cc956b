/-
  What the reference writes as bytes. Own work (an AI agent).
-/
import Derived.Test.YtbjloippgpilcaaGreatGI

section
set_option linter.all false
set_option maxRecDepth 100000
namespace Go.Proofs.YtbjloippgpilcaaGreat
open Go.Ab

theorem rByte_c {n : Int} {σ : Store} : ACalls Tryz.prog 30 [vInt n] σ fun v σ' => v = vStr (B [byteI n]) ∧ σ = σ' := by
  have h1 := bAnd_255 n
  have h2 : (n % 256) % 256 = n % 256 := by omega
  refine ACalls_of Tryz.func30 rfl Tryz.ntmps30 (congrArg Array.toList Tryz.results30) (by simp only [List.length_cons, List.length_nil]; decide) ?_; simp only [envOf_cons, envOf_nil, Nat.reduceAdd]
  refine awp_seq ?_
  have R := And.intro h1 (And.intro wrap_u8 h2)
  refine awp_region (by kernel_rfl) ?_
  (refine aL_S rfl rfl v_ ?_)
  refine aL_nil ?_
  refine awp_seq ?_
  have R := And.intro h1 (And.intro wrap_u8 h2)
  refine awp_region (by kernel_rfl) ?_
  iterate 3 (refine aL_S rfl rfl v_ ?_)
  refine aL_buildSlice rfl rfl rfl g_ g_ rfl rfl h_ c2_ (by decide) ?_
  iterate 2 (refine aL_S rfl rfl v_ ?_)
  refine aL_nil ?_
  refine awp_ret ?_
  refine aEnd_ret (σ' := σ) v_ sub_ ?_
  exact ⟨by rw [← strOf_byte], rfl⟩
theorem rInt_c {n : Int} {σ : Store} : ACalls Tryz.prog 32 [vInt n] σ fun v σ' => v = vStr (B (beI 8 n)) ∧ σ = σ' := by
  have h00 : (56 : Int) - 8 * ((0 : Nat) : Int) = 56 := by omega
  refine ACalls_of Tryz.func32 rfl Tryz.ntmps32 (congrArg Array.toList Tryz.results32) (by simp only [List.length_cons, List.length_nil]; decide) ?_; simp only [envOf_cons, envOf_nil, Nat.reduceAdd]
  refine awp_seq ?_
  refine awp_region (by kernel_rfl) ?_
  (refine aL_S rfl rfl v_ ?_)
  refine aL_nil ?_
  refine awp_seq ?_
  refine awp_region (by kernel_rfl) ?_
  (refine aL_S rfl rfl v_ ?_)
  refine aL_nil ?_
  refine awp_seq ?_
  refine awp_seq ?_
  refine awp_region (by kernel_rfl) ?_
  (refine aL_S rfl rfl v_ ?_)
  refine aL_nil ?_
  refine awp_block ?_
  refine awp_loop_env (ι := Nat) (fun j => 8 - j) (fun j => j ≤ 8) (fun j => [(0, vInt n), (3, vStr (B ((beI 8 n).take j))), (4, vInt (56 - 8 * (j : Int)))]) (fun j => σ) 0 ?_ ?_ ?_ ?_
  · exact Nat.zero_le _
  · have R := h00; exact cv_
  · exact sub_
  rintro j hj
  simp only [envL_cons, envL_nil]
  refine awp_seq ?_
  refine awp_seq ?_
  refine awp_region (by kernel_rfl) ?_
  iterate 2 (refine aL_S rfl rfl v_ ?_)
  refine aL_nil ?_
  refine awp_cond v_ (fun hc3 => ?_) (fun hc3 => ?_)
  · replace hc3 := nm_ hc3
    refine awp_skip ?_
    refine awp_seq ?_
    refine awp_block ?_
    have hbj := take_beI n 8 j (by omega)
    have hcv : (56 : Int) - 8 * (j : Int) - 8 = 56 - 8 * ((j + 1 : Nat) : Int) := by omega
    have hsh : ((56 : Int) - 8 * (j : Int)).toNat = 8 * (7 - j) := by omega
    have hst : (beI 8 n).take j ++ [byteI (n / 256 ^ (7 - j))] = (beI 8 n).take (j + 1) := (take_snoc hbj).symm
    have hlt : ((beI 8 n).take j).length ≤ 8 := by rw [List.length_take]; omega
    have hl1 : ([byteI (n / 256 ^ (7 - j))] : List UInt8).length = 1 := rfl
    have R := And.intro hsh (And.intro fdiv_pow (And.intro bAnd_255 byteI_mod))
    refine awp_region (by kernel_rfl) ?_
    iterate 5 (refine aL_S rfl rfl v_ ?_)
    refine aL_X rfl rfl (AOp_use rfl rfl (.inr ⟨rfl, rfl, rfl⟩) g_ va_ (rByte_c) ?_); rintro _ _ ⟨rfl, rfl⟩
    iterate 2 (refine aL_S rfl rfl v_ ?_)
    refine aL_nil ?_
    refine awp_region (by kernel_rfl) ?_
    iterate 3 (refine aL_S rfl rfl v_ ?_)
    refine aL_nil ?_
    refine aNext (ι := Nat) (i := j) (j + 1) ?_ ?_ ?_ ?_
    · omega
    · omega
    · have R := And.intro hcv hst; exact cv_
    · exact sub_
  · replace hc3 := nm_ hc3
    refine awp_exit ?_
    refine aThen_exit ?_
    refine aThen_exit ?_
    refine aBlock_hit ?_
    refine awp_seq ?_
    refine awp_region (by kernel_rfl) ?_
    iterate 2 (refine aL_S rfl rfl v_ ?_)
    refine aL_nil ?_
    refine awp_ret ?_
    refine aEnd_ret (σ' := σ) v_ sub_ ?_
    exact ⟨by rw [List.take_of_length_le (by rw [beI_length]; omega)], rfl⟩
theorem rCount_c {n : Int} {σ : Store} : ACalls Tryz.prog 35 [vInt n] σ fun v σ' => v = vStr (B (beI 4 n)) ∧ σ = σ' := by
  refine ACalls_of Tryz.func35 rfl Tryz.ntmps35 (congrArg Array.toList Tryz.results35) (by simp only [List.length_cons, List.length_nil]; decide) ?_; simp only [envOf_cons, envOf_nil, Nat.reduceAdd]
  refine awp_seq ?_
  refine awp_region (by kernel_rfl) ?_
  (refine aL_S rfl rfl v_ ?_)
  refine aL_nil ?_
  refine awp_seq ?_
  have R := And.intro B_size beI_length
  refine awp_region (by kernel_rfl) ?_
  (refine aL_S rfl rfl v_ ?_)
  refine aL_X rfl rfl (AOp_use rfl rfl (.inr ⟨rfl, rfl, rfl⟩) g_ va_ (rInt_c) ?_); rintro _ _ ⟨rfl, rfl⟩
  iterate 2 (refine aL_S rfl rfl v_ ?_)
  refine aL_nil ?_
  refine awp_ret ?_
  refine aEnd_ret (σ' := σ) v_ sub_ ?_
  exact ⟨by rw [extract_B, Lb_B, List.take_of_length_le (by rw [beI_length]; decide), beI_drop n 4 4], rfl⟩
theorem rText_c {s : ByteArray} {σ : Store} (hs : s.size ≤ 1000000000) : ACalls Tryz.prog 31 [vStr s] σ fun v σ' => v = vStr (B (textB s)) ∧ σ = σ' := by
  obtain ⟨l, rfl⟩ : ∃ l, s = B l := ⟨Lb s, (B_Lb s).symm⟩
  rw [B_size] at hs
  have h4 : (beI 4 (l.length : Int)).length = 4 := beI_length ..
  refine ACalls_of Tryz.func31 rfl Tryz.ntmps31 (congrArg Array.toList Tryz.results31) (by simp only [List.length_cons, List.length_nil]; decide) ?_; simp only [envOf_cons, envOf_nil, Nat.reduceAdd]
  refine awp_seq ?_
  refine awp_region (by kernel_rfl) ?_
  (refine aL_S rfl rfl v_ ?_)
  refine aL_nil ?_
  refine awp_seq ?_
  have R := B_size
  refine awp_region (by kernel_rfl) ?_
  iterate 2 (refine aL_S rfl rfl v_ ?_)
  refine aL_X rfl rfl (AOp_use rfl rfl (.inr ⟨rfl, rfl, rfl⟩) g_ va_ (rCount_c) ?_); rintro _ _ ⟨rfl, rfl⟩
  iterate 3 (refine aL_S rfl rfl v_ ?_)
  refine aL_nil ?_
  refine awp_ret ?_
  refine aEnd_ret (σ' := σ) v_ sub_ ?_
  exact ⟨by rw [textB, Lb_B, B_size], rfl⟩

theorem app_nil8 (l : List UInt8) : l ++ [] = l := List.append_nil l
theorem fm_nil {α : Type} (f : α → List UInt8) : List.flatMap f [] = [] := rfl
theorem beI_one (n : Int) : beI 1 n = [byteI n] := by simp [beI]
theorem rSib_c {x : Sib} {σ : Store} (hx : SibSm x) : ACalls Tryz.prog 64 [sSib x] σ fun v σ' => v = vStr (B (sibB x)) ∧ σ = σ' := by
  have h1 := hx.node; have h2 := hx.value
  have l1 := textB_length x.node; have l2 := textB_length x.value; have l3 := beI_length 8 x.n; have l4 := beI_length 1 (goneI x.gone); have l5 := beI_length 8 x.time
  have q1 : (textB x.node ++ beI 8 x.n).length = 12 + x.node.size := by rw [List.length_append]; omega
  have q2 : (textB x.node ++ beI 8 x.n ++ textB x.value).length = 16 + x.node.size + x.value.size := by rw [List.length_append]; omega
  have q3 : (textB x.node ++ beI 8 x.n ++ textB x.value ++ [byteI (goneI x.gone)]).length = 17 + x.node.size + x.value.size := by rw [List.length_append]; simp; omega
  have q4 : ([byteI (goneI x.gone)] : List UInt8).length = 1 := rfl
  refine ACalls_of Tryz.func64 rfl Tryz.ntmps64 (congrArg Array.toList Tryz.results64) (by simp only [List.length_cons, List.length_nil]; decide) ?_; simp only [envOf_cons, envOf_nil, Nat.reduceAdd]
  refine awp_seq ?_
  refine awp_region (by kernel_rfl) ?_
  refine aL_box rfl rfl rfl v_ rfl g_ fun o1 ho1 => ?_
  repeat (rw [none_set_iff] at ho1; obtain ⟨_, ho1⟩ := ho1)
  (refine aL_S rfl rfl v_ ?_)
  refine aL_nil ?_
  refine awp_seq ?_
  refine awp_region (by kernel_rfl) ?_
  (refine aL_S rfl rfl v_ ?_)
  refine aL_nil ?_
  refine awp_seq_mid (ι := Unit) (fun _ => True) (fun _ => [(1, .ref o1 0), (3, vInt (goneI x.gone))]) (fun _ => (σ.set o1 (.cells (sSib x).cells))) ?_ ?_
  · refine awp_seq ?_
    refine awp_region (by kernel_rfl) ?_
    iterate 2 (refine aL_S rfl rfl v_ ?_)
    refine aL_nil ?_
    refine awp_cond v_ (fun hc2 => ?_) (fun hc2 => ?_)
    · replace hc2 := nm_ hc2
      have hg1 : goneI x.gone = 1 := by rw [hc2]; rfl
      refine awp_region (by kernel_rfl) ?_
      (refine aL_S rfl rfl v_ ?_)
      refine aL_nil ?_
      refine ⟨(), ?_, ?_, ?_⟩
      · trivial
      · have R := hg1; exact cv_
      · exact Store.Wk.refl _
    · replace hc2 := nm_ hc2
      have hg2 : goneI x.gone = 0 := by rw [hc2]; rfl
      refine awp_skip ?_
      refine ⟨(), ?_, ?_, ?_⟩
      · trivial
      · have R := hg2; exact cv_
      · exact Store.Wk.refl _
  · rintro _ _
    simp only [envL_cons, envL_nil]
    refine awp_seq ?_
    refine awp_draw (.op 0 0 (.op 1 0 (.op 2 0 (.op 4 0 (.op 5 0 (.op 6 0 (.op 9 0 (.op 10 0 (.op 13 0 (.op 16 0 (.op 17 0 (.op 3 1 (.op 7 1 (.op 8 0 (.op 11 1 (.op 12 0 (.op 14 1 (.op 15 0 (.op 18 1 (.op 19 0 (.op 20 0 .nil))))))))))))))))))))) Tryz.mixed (by kernel_rfl) ?_
    iterate 11 (refine dR_S o_ (by rfl) (by rfl) v_ ?_)
    refine dR_X o_ (by rfl) (by rfl) (AOp_use (by rfl) (by rfl) (.inr ⟨by rfl, by rfl, by rfl⟩) g_ va_ (rText_c (by omega)) ?_); rintro _ _ ⟨rfl, rfl⟩; refine ⟨sub_, ?_⟩
    refine dR_X o_ (by rfl) (by rfl) (AOp_use (by rfl) (by rfl) (.inr ⟨by rfl, by rfl, by rfl⟩) g_ va_ (rInt_c) ?_); rintro _ _ ⟨rfl, rfl⟩; refine ⟨sub_, ?_⟩
    (refine dR_S o_ (by rfl) (by rfl) v_ ?_)
    refine dR_X o_ (by rfl) (by rfl) (AOp_use (by rfl) (by rfl) (.inr ⟨by rfl, by rfl, by rfl⟩) g_ va_ (rText_c (by omega)) ?_); rintro _ _ ⟨rfl, rfl⟩; refine ⟨sub_, ?_⟩
    (refine dR_S o_ (by rfl) (by rfl) v_ ?_)
    refine dR_X o_ (by rfl) (by rfl) (AOp_use (by rfl) (by rfl) (.inr ⟨by rfl, by rfl, by rfl⟩) g_ va_ (rByte_c) ?_); rintro _ _ ⟨rfl, rfl⟩; refine ⟨sub_, ?_⟩
    (refine dR_S o_ (by rfl) (by rfl) v_ ?_)
    refine dR_X o_ (by rfl) (by rfl) (AOp_use (by rfl) (by rfl) (.inr ⟨by rfl, by rfl, by rfl⟩) g_ va_ (rInt_c) ?_); rintro _ _ ⟨rfl, rfl⟩; refine ⟨sub_, ?_⟩
    iterate 2 (refine dR_S o_ (by rfl) (by rfl) v_ ?_)
    refine dR_nil ?_
    refine awp_ret ?_
    refine aEnd_ret (σ' := σ) v_ sub_ ?_
    exact ⟨by rw [sibB, beI_one], rfl⟩

theorem rCtx_c {c : List Seen} {t : Bool} {σ : Store} (hc : ∀ y ∈ c, SeenSm y) (hn : c.length ≤ 1000) : ACalls Tryz.prog 63 [.sl 3 (c.map sSeen) t] σ fun v σ' => v = vStr (B (ctxB c)) ∧ σ = σ' := by
  have hle := ctxB_le hc hn
  refine ACalls_of Tryz.func63 rfl Tryz.ntmps63 (congrArg Array.toList Tryz.results63) (by simp only [List.length_cons, List.length_nil]; decide) ?_; simp only [envOf_cons, envOf_nil, Nat.reduceAdd]
  refine awp_seq ?_
  refine awp_region (by kernel_rfl) ?_
  (refine aL_S rfl rfl v_ ?_)
  refine aL_nil ?_
  refine awp_seq ?_
  refine awp_region (by kernel_rfl) ?_
  iterate 2 (refine aL_S rfl rfl v_ ?_)
  refine aL_X rfl rfl (AOp_use rfl rfl (.inr ⟨rfl, rfl, rfl⟩) g_ va_ (rCount_c) ?_); rintro _ _ ⟨rfl, rfl⟩
  (refine aL_S rfl rfl v_ ?_)
  refine aL_nil ?_
  refine awp_seq ?_
  refine awp_seq ?_
  refine awp_region (by kernel_rfl) ?_
  (refine aL_S rfl rfl v_ ?_)
  refine aL_nil ?_
  refine awp_block ?_
  refine awp_loop_env (ι := Nat) (fun i => c.length - i) (fun i => i ≤ c.length) (fun i => [(0, .sl 3 (c.map sSeen) t), (3, vStr (B (beI 4 c.length ++ (c.take i).flatMap seenB))), (4, vInt i)]) (fun i => σ) 0 ?_ ?_ ?_ ?_
  · exact Nat.zero_le _
  · have R := And.intro app_nil8 @fm_nil; exact cv_
  · exact sub_
  rintro i hi
  simp only [envL_cons, envL_nil]
  refine awp_seq ?_
  refine awp_seq ?_
  refine awp_region (by kernel_rfl) ?_
  iterate 4 (refine aL_S rfl rfl v_ ?_)
  refine aL_nil ?_
  refine awp_cond v_ (fun hc3 => ?_) (fun hc3 => ?_)
  · replace hc3 := nm_ hc3
    refine awp_skip ?_
    refine awp_seq ?_
    refine awp_block ?_
    refine awp_seq ?_
    obtain ⟨x, hx⟩ : ∃ x, c[i]? = some x := ⟨c[i]'(by omega), List.getElem?_eq_getElem _⟩
    have hsm := hc x (List.mem_of_getElem? hx)
    have s1 := hsm.node; have s2 := hsm.more
    have hb := flatMap_take_le (f := seenB) c (i + 1)
    rw [flatMap_take hx, List.length_append, seenB_length] at hb
    obtain ⟨S, hS⟩ : ∃ S, beI 4 (c.length : Int) ++ (c.take i).flatMap seenB = S := ⟨_, rfl⟩
    have hSl : S.length = 4 + ((c.take i).flatMap seenB).length := by rw [← hS, List.length_append, beI_length]
    have l1 := textB_length x.node; have l3 := beI_length 8 x.base; have l4 := beI_length 4 (x.more.length : Int)
    have q1 : (S ++ textB x.node).length = S.length + 4 + x.node.size := by rw [List.length_append]; omega
    have q2 : (S ++ textB x.node ++ beI 8 x.base).length = S.length + 12 + x.node.size := by rw [List.length_append]; omega
    have q3 : (S ++ textB x.node ++ beI 8 x.base ++ beI 4 (x.more.length : Int)).length = S.length + 16 + x.node.size := by rw [List.length_append]; omega
    have R := And.intro hx hS
    refine awp_draw (.op 0 0 (.op 1 0 (.op 2 0 (.op 3 0 (.op 4 0 (.op 5 0 (.op 8 0 (.op 9 0 (.op 10 0 (.op 11 0 (.op 12 0 (.op 15 0 (.op 16 0 (.op 17 0 (.op 18 0 (.op 19 0 (.op 20 0 (.op 6 1 (.op 7 0 (.op 13 1 (.op 14 0 (.op 21 1 (.op 22 0 (.op 23 0 .nil)))))))))))))))))))))))) Tryz.mixed (by kernel_rfl) ?_
    iterate 17 (refine dR_S o_ (by rfl) (by rfl) v_ ?_)
    refine dR_X o_ (by rfl) (by rfl) (AOp_use (by rfl) (by rfl) (.inr ⟨by rfl, by rfl, by rfl⟩) g_ va_ (rText_c (by omega)) ?_); rintro _ _ ⟨rfl, rfl⟩; refine ⟨sub_, ?_⟩
    (refine dR_S o_ (by rfl) (by rfl) v_ ?_)
    refine dR_X o_ (by rfl) (by rfl) (AOp_use (by rfl) (by rfl) (.inr ⟨by rfl, by rfl, by rfl⟩) g_ va_ (rInt_c) ?_); rintro _ _ ⟨rfl, rfl⟩; refine ⟨sub_, ?_⟩
    (refine dR_S o_ (by rfl) (by rfl) v_ ?_)
    refine dR_X o_ (by rfl) (by rfl) (AOp_use (by rfl) (by rfl) (.inr ⟨by rfl, by rfl, by rfl⟩) g_ va_ (rCount_c) ?_); rintro _ _ ⟨rfl, rfl⟩; refine ⟨sub_, ?_⟩
    iterate 2 (refine dR_S o_ (by rfl) (by rfl) v_ ?_)
    refine dR_nil ?_
    refine awp_seq ?_
    refine awp_region (by kernel_rfl) ?_
    (refine aL_S rfl rfl v_ ?_)
    refine aL_nil ?_
    refine awp_block ?_
    refine awp_loop_env (ι := Nat) (fun k => x.more.length - k) (fun k => k ≤ x.more.length) (fun k => [(0, .sl 3 (c.map sSeen) t), (3, vStr (B (S ++ textB x.node ++ beI 8 x.base ++ beI 4 (x.more.length : Int) ++ (x.more.take k).flatMap (beI 8)))), (4, vInt i), (5, vInt k)]) (fun k => σ) 0 ?_ ?_ ?_ ?_
    · exact Nat.zero_le _
    · have R := And.intro app_nil8 @fm_nil; exact cv_
    · exact sub_
    rintro k hk
    simp only [envL_cons, envL_nil]
    refine awp_seq ?_
    refine awp_seq ?_
    have R := hx
    refine awp_region (by kernel_rfl) ?_
    iterate 8 (refine aL_S rfl rfl v_ ?_)
    refine aL_nil ?_
    refine awp_cond v_ (fun hc7 => ?_) (fun hc7 => ?_)
    · replace hc7 := nm_ hc7
      refine awp_skip ?_
      refine awp_seq ?_
      refine awp_block ?_
      obtain ⟨n, hn⟩ : ∃ n, x.more[k]? = some n := ⟨x.more[k]'(by omega), List.getElem?_eq_getElem _⟩
      have hkx : S ++ textB x.node ++ beI 8 x.base ++ beI 4 (x.more.length : Int) ++ (x.more.take k).flatMap (beI 8) ++ beI 8 n = S ++ textB x.node ++ beI 8 x.base ++ beI 4 (x.more.length : Int) ++ (x.more.take (k + 1)).flatMap (beI 8) := by rw [flatMap_take hn, ← List.append_assoc]
      have hb2 := flatMap_take_le (f := beI 8) x.more (k + 1)
      rw [flatMap_take hn, List.length_append, beI_length, flat8_length x.more] at hb2
      have q4 : (S ++ textB x.node ++ beI 8 x.base ++ beI 4 (x.more.length : Int) ++ (x.more.take k).flatMap (beI 8)).length = S.length + 16 + x.node.size + ((x.more.take k).flatMap (beI 8)).length := by rw [List.length_append]; omega
      have l5 := beI_length 8 n
      have R := And.intro hx hn
      refine awp_region (by kernel_rfl) ?_
      iterate 9 (refine aL_S rfl rfl v_ ?_)
      refine aL_X rfl rfl (AOp_use rfl rfl (.inr ⟨rfl, rfl, rfl⟩) g_ va_ (rInt_c) ?_); rintro _ _ ⟨rfl, rfl⟩
      iterate 2 (refine aL_S rfl rfl v_ ?_)
      refine aL_nil ?_
      refine awp_region (by kernel_rfl) ?_
      iterate 3 (refine aL_S rfl rfl v_ ?_)
      refine aL_nil ?_
      refine aNext (ι := Nat) (i := k) (k + 1) ?_ ?_ ?_ ?_
      · omega
      · omega
      · have R := hkx; exact cv_
      · exact sub_
    · replace hc7 := nm_ hc7
      refine awp_exit ?_
      refine aThen_exit ?_
      refine aThen_exit ?_
      refine aBlock_hit ?_
      skip
      have hnx : S ++ textB x.node ++ beI 8 x.base ++ beI 4 (x.more.length : Int) ++ (x.more.take k).flatMap (beI 8) = beI 4 (c.length : Int) ++ (c.take (i + 1)).flatMap seenB := by
        rw [flatMap_take hx, List.take_of_length_le (show x.more.length ≤ k by omega), ← hS]
        simp [seenB, listB, List.append_assoc]
      refine awp_region (by kernel_rfl) ?_
      iterate 3 (refine aL_S rfl rfl v_ ?_)
      refine aL_nil ?_
      refine aNext (ι := Nat) (i := i) (i + 1) ?_ ?_ ?_ ?_
      · omega
      · omega
      · have R := hnx; exact cv_
      · exact sub_
  · replace hc3 := nm_ hc3
    refine awp_exit ?_
    refine aThen_exit ?_
    refine aThen_exit ?_
    refine aBlock_hit ?_
    refine awp_seq ?_
    refine awp_region (by kernel_rfl) ?_
    iterate 2 (refine aL_S rfl rfl v_ ?_)
    refine aL_nil ?_
    refine awp_ret ?_
    refine aEnd_ret (σ' := σ) v_ sub_ ?_
    exact ⟨by rw [List.take_of_length_le (by omega)]; rfl, rfl⟩
theorem rRaw_c {x : Obj'} {σ : Store} (hx : ObjSm x) : ACalls Tryz.prog 33 [sObj x] σ fun v σ' => v = vStr (B (objB x)) ∧ σ = σ' := by
  have hle := ctxB_le hx.ctx hx.nc
  have hle2 := sibsB_le hx.sibs hx.ns
  have hcl : (ctxB x.ctx).length = 4 + (x.ctx.flatMap seenB).length := by rw [ctxB, listB, List.length_append, beI_length]
  have l4 := beI_length 4 (x.sibs.length : Int)
  have q1 : (ctxB x.ctx ++ beI 4 (x.sibs.length : Int)).length = 8 + (x.ctx.flatMap seenB).length := by rw [List.length_append]; omega
  have hns := hx.ns
  refine ACalls_of Tryz.func33 rfl Tryz.ntmps33 (congrArg Array.toList Tryz.results33) (by simp only [List.length_cons, List.length_nil]; decide) ?_; simp only [envOf_cons, envOf_nil, Nat.reduceAdd]
  refine awp_seq ?_
  refine awp_region (by kernel_rfl) ?_
  refine aL_box rfl rfl rfl v_ rfl g_ fun o1 ho1 => ?_
  repeat (rw [none_set_iff] at ho1; obtain ⟨_, ho1⟩ := ho1)
  (refine aL_S rfl rfl v_ ?_)
  refine aL_nil ?_
  refine awp_seq ?_
  refine awp_draw (.op 0 0 (.op 1 0 (.op 3 0 (.op 4 0 (.op 5 0 (.op 2 1 (.op 6 1 (.op 7 0 (.op 8 0 .nil))))))))) Tryz.mixed (by kernel_rfl) ?_
  iterate 5 (refine dR_S o_ (by rfl) (by rfl) v_ ?_)
  refine dR_X o_ (by rfl) (by rfl) (AOp_use (by rfl) (by rfl) (.inr ⟨by rfl, by rfl, by rfl⟩) g_ va_ (rCtx_c hx.ctx hx.nc) ?_); rintro _ _ ⟨rfl, rfl⟩; refine ⟨sub_, ?_⟩
  refine dR_X o_ (by rfl) (by rfl) (AOp_use (by rfl) (by rfl) (.inr ⟨by rfl, by rfl, by rfl⟩) g_ va_ (rCount_c) ?_); rintro _ _ ⟨rfl, rfl⟩; refine ⟨sub_, ?_⟩
  iterate 2 (refine dR_S o_ (by rfl) (by rfl) v_ ?_)
  refine dR_nil ?_
  refine awp_seq ?_
  refine awp_seq ?_
  refine awp_region (by kernel_rfl) ?_
  (refine aL_S rfl rfl v_ ?_)
  refine aL_nil ?_
  refine awp_block ?_
  refine awp_loop_env (ι := Nat) (fun i => x.sibs.length - i) (fun i => i ≤ x.sibs.length) (fun i => [(1, .ref o1 0), (3, vStr (B (ctxB x.ctx ++ beI 4 (x.sibs.length : Int) ++ (x.sibs.take i).flatMap sibB))), (4, vInt i)]) (fun i => (σ.set o1 (.cells (sObj x).cells))) 0 ?_ ?_ ?_ ?_
  · exact Nat.zero_le _
  · have R := And.intro app_nil8 @fm_nil; exact cv_
  · exact Store.Wk.refl _
  rintro i hi
  simp only [envL_cons, envL_nil]
  refine awp_seq ?_
  refine awp_seq ?_
  refine awp_region (by kernel_rfl) ?_
  iterate 5 (refine aL_S rfl rfl v_ ?_)
  refine aL_nil ?_
  refine awp_cond v_ (fun hc3 => ?_) (fun hc3 => ?_)
  · replace hc3 := nm_ hc3
    refine awp_skip ?_
    refine awp_seq ?_
    refine awp_block ?_
    obtain ⟨y, hy⟩ : ∃ y, x.sibs[i]? = some y := ⟨x.sibs[i]'(by omega), List.getElem?_eq_getElem _⟩
    have hsm := hx.sibs y (List.mem_of_getElem? hy)
    have hb := flatMap_take_le (f := sibB) x.sibs (i + 1)
    rw [flatMap_take hy, List.length_append] at hb
    have q2 : (ctxB x.ctx ++ beI 4 (x.sibs.length : Int) ++ (x.sibs.take i).flatMap sibB).length = 8 + (x.ctx.flatMap seenB).length + ((x.sibs.take i).flatMap sibB).length := by rw [List.length_append]; omega
    have hnx : ctxB x.ctx ++ beI 4 (x.sibs.length : Int) ++ (x.sibs.take i).flatMap sibB ++ sibB y = ctxB x.ctx ++ beI 4 (x.sibs.length : Int) ++ (x.sibs.take (i + 1)).flatMap sibB := by rw [flatMap_take hy, ← List.append_assoc]
    have R := hy
    refine awp_region (by kernel_rfl) ?_
    iterate 6 (refine aL_S rfl rfl v_ ?_)
    refine aL_X rfl rfl (AOp_use rfl rfl (.inr ⟨rfl, rfl, rfl⟩) g_ va_ (rSib_c hsm) ?_); rintro _ _ ⟨rfl, rfl⟩
    iterate 2 (refine aL_S rfl rfl v_ ?_)
    refine aL_nil ?_
    refine awp_region (by kernel_rfl) ?_
    iterate 3 (refine aL_S rfl rfl v_ ?_)
    refine aL_nil ?_
    refine aNext (ι := Nat) (i := i) (i + 1) ?_ ?_ ?_ ?_
    · omega
    · omega
    · have R := hnx; exact cv_
    · exact Store.Wk.refl _
  · replace hc3 := nm_ hc3
    refine awp_exit ?_
    refine aThen_exit ?_
    refine aThen_exit ?_
    refine aBlock_hit ?_
    refine awp_seq ?_
    refine awp_region (by kernel_rfl) ?_
    iterate 2 (refine aL_S rfl rfl v_ ?_)
    refine aL_nil ?_
    refine awp_ret ?_
    refine aEnd_ret (σ' := σ) v_ sub_ ?_
    exact ⟨by rw [List.take_of_length_le (by omega), objB, listB, ← List.append_assoc], rfl⟩
end Go.Proofs.YtbjloippgpilcaaGreat
end
