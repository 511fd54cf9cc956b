/-
  The bytes of a message, the reference's. Own work (an AI agent).
-/
import Derived.Test.YtbjloippgpilcaaGreatJB

section
set_option linter.all false
set_option maxRecDepth 100000
namespace Go.Proofs.YtbjloippgpilcaaGreat
open Go.Ab

theorem get_if' {α : Type} {l : List α} {k : Nat} (h : k < l.length) : ∃ x, l[k]? = some x := ⟨l[k], List.getElem?_eq_getElem h⟩
theorem rTexts_c {L : List ByteArray} {t : Bool} {σ : Store} (hs : ∀ x ∈ L, x.size ≤ 1000000) (hL : (L.flatMap textB).length ≤ 999999999000) (hLb : L.length ≤ 1000000) : ACalls Tryz.prog 34 [.sl 1 (L.map vStr) t] σ fun v σ' => v = vStr (B (listB textB L)) ∧ σ = σ' := by
  refine ACalls_of Tryz.func34 rfl Tryz.ntmps34 (congrArg Array.toList Tryz.results34) (by simp only [List.length_cons, List.length_nil]; decide) ?_; simp only [envOf_cons, envOf_nil, Nat.reduceAdd]
  refine awp_seq ?_
  refine awp_region (by kernel_rfl) ?_
  (refine aL_S rfl rfl v_ ?_)
  refine aL_nil ?_
  refine awp_seq ?_
  refine awp_region (by kernel_rfl) ?_
  iterate 2 (refine aL_S rfl rfl v_ ?_)
  refine aL_X rfl rfl (AOp_use rfl rfl (.inr ⟨rfl, rfl, rfl⟩) g_ va_ (rCount_c) ?_); rintro _ _ ⟨rfl, rfl⟩
  (refine aL_S rfl rfl v_ ?_)
  refine aL_nil ?_
  refine awp_seq ?_
  refine awp_seq ?_
  refine awp_region (by kernel_rfl) ?_
  (refine aL_S rfl rfl v_ ?_)
  refine aL_nil ?_
  refine awp_block ?_
  refine awp_loop_env (ι := Nat) (fun i => L.length - i) (fun i => i ≤ L.length) (fun i => [(0, .sl 1 (L.map vStr) t), (3, vStr (B (beI 4 L.length ++ (L.take i).flatMap textB))), (4, vInt i)]) (fun i => σ) 0 ?_ ?_ ?_ ?_
  · exact Nat.zero_le _
  · have R := And.intro app_nil8 @fm_nil; exact cv_
  · exact sub_
  rintro i hi
  simp only [envL_cons, envL_nil]
  refine awp_seq ?_
  refine awp_seq ?_
  refine awp_region (by kernel_rfl) ?_
  iterate 4 (refine aL_S rfl rfl v_ ?_)
  refine aL_nil ?_
  refine awp_cond v_ (fun hc3 => ?_) (fun hc3 => ?_)
  · replace hc3 := nm_ hc3
    refine awp_skip ?_
    refine awp_seq ?_
    refine awp_block ?_
    obtain ⟨x, hx⟩ := get_if' (l := L) (k := i) (by omega)
    have hb := flatMap_take_le (f := textB) L (i + 1)
    rw [flatMap_take hx, List.length_append, textB_length] at hb
    have hsm := hs x (List.mem_of_getElem? hx)
    have q1 : (beI 4 (L.length : Int) ++ (L.take i).flatMap textB).length = 4 + ((L.take i).flatMap textB).length := by rw [List.length_append, beI_length]
    have q2 := textB_length x
    have hnx : beI 4 (L.length : Int) ++ (L.take i).flatMap textB ++ textB x = beI 4 (L.length : Int) ++ (L.take (i + 1)).flatMap textB := by rw [flatMap_take hx, ← List.append_assoc]
    have R := hx
    refine awp_region (by kernel_rfl) ?_
    iterate 5 (refine aL_S rfl rfl v_ ?_)
    refine aL_X rfl rfl (AOp_use rfl rfl (.inr ⟨rfl, rfl, rfl⟩) g_ va_ (rText_c (by omega)) ?_); rintro _ _ ⟨rfl, rfl⟩
    iterate 2 (refine aL_S rfl rfl v_ ?_)
    refine aL_nil ?_
    refine awp_region (by kernel_rfl) ?_
    iterate 3 (refine aL_S rfl rfl v_ ?_)
    refine aL_nil ?_
    refine aNext (ι := Nat) (i := i) (i + 1) ?_ ?_ ?_ ?_
    · omega
    · omega
    · have R := hnx; exact cv_
    · exact sub_
  · replace hc3 := nm_ hc3
    refine awp_exit ?_
    refine aThen_exit ?_
    refine aThen_exit ?_
    refine aBlock_hit ?_
    refine awp_seq ?_
    refine awp_region (by kernel_rfl) ?_
    iterate 2 (refine aL_S rfl rfl v_ ?_)
    refine aL_nil ?_
    refine awp_ret ?_
    refine aEnd_ret (σ' := σ) v_ sub_ ?_
    exact ⟨by rw [List.take_of_length_le (by omega)]; rfl, rfl⟩
theorem rEnts_c {L : List Ent} {t : Bool} {σ : Store} (hs : ∀ x ∈ L, EntSm x) (hL : (L.flatMap entB).length ≤ 999999999000) (hLb : L.length ≤ 1000000) : ACalls Tryz.prog 36 [.sl 4 (L.map sEnt) t] σ fun v σ' => v = vStr (B (listB entB L)) ∧ σ = σ' := by
  refine ACalls_of Tryz.func36 rfl Tryz.ntmps36 (congrArg Array.toList Tryz.results36) (by simp only [List.length_cons, List.length_nil]; decide) ?_; simp only [envOf_cons, envOf_nil, Nat.reduceAdd]
  refine awp_seq ?_
  refine awp_region (by kernel_rfl) ?_
  (refine aL_S rfl rfl v_ ?_)
  refine aL_nil ?_
  refine awp_seq ?_
  refine awp_region (by kernel_rfl) ?_
  iterate 2 (refine aL_S rfl rfl v_ ?_)
  refine aL_X rfl rfl (AOp_use rfl rfl (.inr ⟨rfl, rfl, rfl⟩) g_ va_ (rCount_c) ?_); rintro _ _ ⟨rfl, rfl⟩
  (refine aL_S rfl rfl v_ ?_)
  refine aL_nil ?_
  refine awp_seq ?_
  refine awp_seq ?_
  refine awp_region (by kernel_rfl) ?_
  (refine aL_S rfl rfl v_ ?_)
  refine aL_nil ?_
  refine awp_block ?_
  refine awp_loop_env (ι := Nat) (fun i => L.length - i) (fun i => i ≤ L.length) (fun i => [(0, .sl 4 (L.map sEnt) t), (3, vStr (B (beI 4 L.length ++ (L.take i).flatMap entB))), (4, vInt i)]) (fun i => σ) 0 ?_ ?_ ?_ ?_
  · exact Nat.zero_le _
  · have R := And.intro app_nil8 @fm_nil; exact cv_
  · exact sub_
  rintro i hi
  simp only [envL_cons, envL_nil]
  refine awp_seq ?_
  refine awp_seq ?_
  refine awp_region (by kernel_rfl) ?_
  iterate 4 (refine aL_S rfl rfl v_ ?_)
  refine aL_nil ?_
  refine awp_cond v_ (fun hc3 => ?_) (fun hc3 => ?_)
  · replace hc3 := nm_ hc3
    refine awp_skip ?_
    refine awp_seq ?_
    refine awp_block ?_
    obtain ⟨x, hx⟩ := get_if' (l := L) (k := i) (by omega)
    have hb := flatMap_take_le (f := entB) L (i + 1)
    have hsm := hs x (List.mem_of_getElem? hx)
    have s1 := hsm.key; have s2 := hsm.who; have s3 := hsm.value
    obtain ⟨S, hS⟩ : ∃ S, beI 4 (L.length : Int) ++ (L.take i).flatMap entB = S := ⟨_, rfl⟩
    have hSl : S.length = 4 + ((L.take i).flatMap entB).length := by rw [← hS, List.length_append, beI_length]
    have q0 := textB_length x.key; have q1 := beI_length 8 x.n; have q2 := textB_length x.who; have q3 := textB_length x.value
    have e1 : (entB x).length = (textB x.key).length + 8 + (textB x.who).length + (textB x.value).length := by simp only [entB, List.length_append, beI_length]
    rw [flatMap_take hx, List.length_append] at hb
    have p1 : (S ++ textB x.key).length = S.length + (textB x.key).length := List.length_append ..
    have p2 : (S ++ textB x.key ++ beI 8 x.n).length = S.length + (textB x.key).length + 8 := by rw [List.length_append, p1, q1]
    have p3 : (S ++ textB x.key ++ beI 8 x.n ++ textB x.who).length = S.length + (textB x.key).length + 8 + (textB x.who).length := by rw [List.length_append, p2]
    have hnx : S ++ textB x.key ++ beI 8 x.n ++ textB x.who ++ textB x.value = beI 4 (L.length : Int) ++ (L.take (i + 1)).flatMap entB := by rw [flatMap_take hx, ← List.append_assoc, hS]; simp [entB, List.append_assoc]
    have R := And.intro hx hS
    refine awp_draw (.op 0 0 (.op 1 0 (.op 2 0 (.op 3 0 (.op 4 0 (.op 5 0 (.op 8 0 (.op 9 0 (.op 10 0 (.op 11 0 (.op 12 0 (.op 13 0 (.op 16 0 (.op 17 0 (.op 18 0 (.op 19 0 (.op 20 0 (.op 21 0 (.op 24 0 (.op 25 0 (.op 26 0 (.op 27 0 (.op 28 0 (.op 29 0 (.op 6 1 (.op 7 0 (.op 14 1 (.op 15 0 (.op 22 1 (.op 23 0 (.op 30 1 (.op 31 0 (.op 32 0 .nil))))))))))))))))))))))))))))))))) Tryz.mixed (by kernel_rfl) ?_
    iterate 24 (refine dR_S o_ (by rfl) (by rfl) v_ ?_)
    refine dR_X o_ (by rfl) (by rfl) (AOp_use (by rfl) (by rfl) (.inr ⟨by rfl, by rfl, by rfl⟩) g_ va_ (rText_c (by omega)) ?_); rintro _ _ ⟨rfl, rfl⟩; refine ⟨sub_, ?_⟩
    (refine dR_S o_ (by rfl) (by rfl) v_ ?_)
    refine dR_X o_ (by rfl) (by rfl) (AOp_use (by rfl) (by rfl) (.inr ⟨by rfl, by rfl, by rfl⟩) g_ va_ (rInt_c) ?_); rintro _ _ ⟨rfl, rfl⟩; refine ⟨sub_, ?_⟩
    (refine dR_S o_ (by rfl) (by rfl) v_ ?_)
    refine dR_X o_ (by rfl) (by rfl) (AOp_use (by rfl) (by rfl) (.inr ⟨by rfl, by rfl, by rfl⟩) g_ va_ (rText_c (by omega)) ?_); rintro _ _ ⟨rfl, rfl⟩; refine ⟨sub_, ?_⟩
    (refine dR_S o_ (by rfl) (by rfl) v_ ?_)
    refine dR_X o_ (by rfl) (by rfl) (AOp_use (by rfl) (by rfl) (.inr ⟨by rfl, by rfl, by rfl⟩) g_ va_ (rText_c (by omega)) ?_); rintro _ _ ⟨rfl, rfl⟩; refine ⟨sub_, ?_⟩
    iterate 2 (refine dR_S o_ (by rfl) (by rfl) v_ ?_)
    refine dR_nil ?_
    refine awp_region (by kernel_rfl) ?_
    iterate 3 (refine aL_S rfl rfl v_ ?_)
    refine aL_nil ?_
    refine aNext (ι := Nat) (i := i) (i + 1) ?_ ?_ ?_ ?_
    · omega
    · omega
    · have R := hnx; exact cv_
    · exact sub_
  · replace hc3 := nm_ hc3
    refine awp_exit ?_
    refine aThen_exit ?_
    refine aThen_exit ?_
    refine aBlock_hit ?_
    refine awp_seq ?_
    refine awp_region (by kernel_rfl) ?_
    iterate 2 (refine aL_S rfl rfl v_ ?_)
    refine aL_nil ?_
    refine awp_ret ?_
    refine aEnd_ret (σ' := σ) v_ sub_ ?_
    exact ⟨by rw [List.take_of_length_le (by omega)]; rfl, rfl⟩
set_option maxHeartbeats 2000000 in
theorem rmBytes_c {m : Msg} {σ : Store} (hm : MsgSm m) : ACalls Tryz.prog 7 [sMsg m] σ fun v σ' => v = vStr (B (msgB m)) ∧ σ = σ' := by
  have h1 := hm.frm; have h2 := hm.to; have h3 := hm.place; have hl := hm.ln
  have l1 := hl.texts; have l2 := hl.leaves; have l3 := hl.items; have l4 := hl.ents; have l5 := hl.obj
  have nt := hm.nt; have nl := hm.nl; have ni := hm.ni; have ne := hm.ne
  have t1 := textB_length m.frm; have t2 := textB_length m.to; have t3 := textB_length m.place; have t4 := beI_length 8 m.num
  have t5 : (listB textB m.texts).length = 4 + (m.texts.flatMap textB).length := by simp only [listB, List.length_append, beI_length]
  have t6 := beI_length 4 (m.leaves.length : Int); have t7 := beI_length 4 (m.items.length : Int)
  have t8 : (listB entB m.ents).length = 4 + (m.ents.flatMap entB).length := by simp only [listB, List.length_append, beI_length]
  obtain ⟨K0, hK0⟩ : ∃ K, [byteI m.kind] = K := ⟨_, rfl⟩
  obtain ⟨K1, hK1⟩ : ∃ K, [byteI m.err] = K := ⟨_, rfl⟩
  have u0 : K0.length = 1 := by rw [← hK0]; rfl
  have u00 : K1.length = 1 := by rw [← hK1]; rfl
  have u1 : (K0 ++ textB m.frm).length ≤ 2000000 := by rw [List.length_append]; omega
  have u2 : (K0 ++ textB m.frm ++ textB m.to).length ≤ 3000000 := by rw [List.length_append, List.length_append]; omega
  have u3 : (K0 ++ textB m.frm ++ textB m.to ++ beI 8 m.num).length ≤ 4000000 := by rw [List.length_append]; omega
  have u4 : (K0 ++ textB m.frm ++ textB m.to ++ beI 8 m.num ++ K1).length ≤ 5000000 := by rw [List.length_append]; omega
  have u5 : (K0 ++ textB m.frm ++ textB m.to ++ beI 8 m.num ++ K1 ++ textB m.place).length ≤ 7000000 := by rw [List.length_append]; omega
  have u6 : (K0 ++ textB m.frm ++ textB m.to ++ beI 8 m.num ++ K1 ++ textB m.place ++ objB m.obj).length ≤ 13000000000 := by rw [List.length_append]; omega
  have u7 : (K0 ++ textB m.frm ++ textB m.to ++ beI 8 m.num ++ K1 ++ textB m.place ++ objB m.obj ++ listB textB m.texts).length ≤ 15000000000 := by rw [List.length_append]; omega
  have hhead : K0 ++ textB m.frm ++ textB m.to ++ beI 8 m.num ++ K1 ++ textB m.place ++ objB m.obj ++ listB textB m.texts = headB m := by rw [headB, beI_one, beI_one, hK0, hK1]
  have hhl : (headB m).length ≤ 15000000000 := by rw [← hhead]; exact u7
  refine ACalls_of Tryz.func7 rfl Tryz.ntmps7 (congrArg Array.toList Tryz.results7) (by simp only [List.length_cons, List.length_nil]; decide) ?_; simp only [envOf_cons, envOf_nil, Nat.reduceAdd]
  refine awp_seq ?_
  refine awp_region (by kernel_rfl) ?_
  refine aL_box rfl rfl rfl v_ rfl g_ fun o1 ho1 => ?_
  repeat (rw [none_set_iff] at ho1; obtain ⟨_, ho1⟩ := ho1)
  (refine aL_S rfl rfl v_ ?_)
  refine aL_nil ?_
  refine awp_seq ?_
  have R := hhead
  refine awp_draw (.op 0 0 (.op 1 0 (.op 3 0 (.op 4 0 (.op 7 0 (.op 8 0 (.op 11 0 (.op 12 0 (.op 15 0 (.op 16 0 (.op 19 0 (.op 20 0 (.op 23 0 (.op 24 0 (.op 27 0 (.op 28 0 (.op 31 0 (.op 32 0 (.op 33 0 (.op 2 1 (.op 5 1 (.op 6 0 (.op 9 1 (.op 10 0 (.op 13 1 (.op 14 0 (.op 17 1 (.op 18 0 (.op 21 1 (.op 22 0 (.op 25 1 (.op 26 0 (.op 29 1 (.op 30 0 (.op 34 1 (.op 35 0 (.op 36 0 .nil))))))))))))))))))))))))))))))))))))) Tryz.mixed (by kernel_rfl) ?_
  iterate 19 (refine dR_S o_ (by rfl) (by rfl) v_ ?_)
  refine dR_X o_ (by rfl) (by rfl) (AOp_use (by rfl) (by rfl) (.inr ⟨by rfl, by rfl, by rfl⟩) g_ va_ (rByte_c) ?_); rintro _ _ ⟨rfl, rfl⟩; refine ⟨sub_, ?_⟩
  rw [hK0]
  refine dR_X o_ (by rfl) (by rfl) (AOp_use (by rfl) (by rfl) (.inr ⟨by rfl, by rfl, by rfl⟩) g_ va_ (rText_c (by omega)) ?_); rintro _ _ ⟨rfl, rfl⟩; refine ⟨sub_, ?_⟩
  (refine dR_S o_ (by rfl) (by rfl) v_ ?_)
  refine dR_X o_ (by rfl) (by rfl) (AOp_use (by rfl) (by rfl) (.inr ⟨by rfl, by rfl, by rfl⟩) g_ va_ (rText_c (by omega)) ?_); rintro _ _ ⟨rfl, rfl⟩; refine ⟨sub_, ?_⟩
  (refine dR_S o_ (by rfl) (by rfl) v_ ?_)
  refine dR_X o_ (by rfl) (by rfl) (AOp_use (by rfl) (by rfl) (.inr ⟨by rfl, by rfl, by rfl⟩) g_ va_ (rInt_c) ?_); rintro _ _ ⟨rfl, rfl⟩; refine ⟨sub_, ?_⟩
  (refine dR_S o_ (by rfl) (by rfl) v_ ?_)
  refine dR_X o_ (by rfl) (by rfl) (AOp_use (by rfl) (by rfl) (.inr ⟨by rfl, by rfl, by rfl⟩) g_ va_ (rByte_c) ?_); rintro _ _ ⟨rfl, rfl⟩; refine ⟨sub_, ?_⟩
  rw [hK1]
  (refine dR_S o_ (by rfl) (by rfl) v_ ?_)
  refine dR_X o_ (by rfl) (by rfl) (AOp_use (by rfl) (by rfl) (.inr ⟨by rfl, by rfl, by rfl⟩) g_ va_ (rText_c (by omega)) ?_); rintro _ _ ⟨rfl, rfl⟩; refine ⟨sub_, ?_⟩
  (refine dR_S o_ (by rfl) (by rfl) v_ ?_)
  refine dR_X o_ (by rfl) (by rfl) (AOp_use (by rfl) (by rfl) (.inr ⟨by rfl, by rfl, by rfl⟩) g_ va_ (rRaw_c hm.obj) ?_); rintro _ _ ⟨rfl, rfl⟩; refine ⟨sub_, ?_⟩
  (refine dR_S o_ (by rfl) (by rfl) v_ ?_)
  refine dR_X o_ (by rfl) (by rfl) (AOp_use (by rfl) (by rfl) (.inr ⟨by rfl, by rfl, by rfl⟩) g_ va_ (rTexts_c hm.texts (by omega) (by omega)) ?_); rintro _ _ ⟨rfl, rfl⟩; refine ⟨sub_, ?_⟩
  (refine dR_S o_ (by rfl) (by rfl) v_ ?_)
  refine dR_X o_ (by rfl) (by rfl) (AOp_use (by rfl) (by rfl) (.inr ⟨by rfl, by rfl, by rfl⟩) g_ va_ (rCount_c) ?_); rintro _ _ ⟨rfl, rfl⟩; refine ⟨sub_, ?_⟩
  iterate 2 (refine dR_S o_ (by rfl) (by rfl) v_ ?_)
  refine dR_nil ?_
  refine awp_seq ?_
  refine awp_seq ?_
  refine awp_region (by kernel_rfl) ?_
  (refine aL_S rfl rfl v_ ?_)
  refine aL_nil ?_
  refine awp_block ?_
  refine awp_loop_env (ι := Nat) (fun i => m.leaves.length - i) (fun i => i ≤ m.leaves.length) (fun i => [(1, .ref o1 0), (3, vStr (B (headB m ++ beI 4 (m.leaves.length : Int) ++ (m.leaves.take i).flatMap leafB))), (4, vInt i)]) (fun i => (σ.set o1 (.cells (sMsg m).cells))) 0 ?_ ?_ ?_ ?_
  · exact Nat.zero_le _
  · have R := And.intro app_nil8 @fm_nil; exact cv_
  · exact Store.Wk.refl _
  rintro i hi
  simp only [envL_cons, envL_nil]
  refine awp_seq ?_
  refine awp_seq ?_
  refine awp_region (by kernel_rfl) ?_
  iterate 5 (refine aL_S rfl rfl v_ ?_)
  refine aL_nil ?_
  refine awp_cond v_ (fun hc3 => ?_) (fun hc3 => ?_)
  · replace hc3 := nm_ hc3
    refine awp_skip ?_
    refine awp_seq ?_
    refine awp_block ?_
    obtain ⟨x, hx⟩ := get_if' (l := m.leaves) (k := i) (by omega)
    have hsm := hm.leaves x (List.mem_of_getElem? hx)
    have s1 := hsm.place; have s2 := hsm.digest
    have hb := flatMap_take_le (f := leafB) m.leaves i
    obtain ⟨S, hS⟩ : ∃ S, headB m ++ beI 4 (m.leaves.length : Int) ++ (m.leaves.take i).flatMap leafB = S := ⟨_, rfl⟩
    have hSl : S.length = (headB m).length + 4 + ((m.leaves.take i).flatMap leafB).length := by rw [← hS, List.length_append, List.length_append, beI_length]
    have q0 := textB_length x.place; have q1 := textB_length x.digest
    have p1 : (S ++ textB x.place).length = S.length + (textB x.place).length := List.length_append ..
    have hnx : S ++ textB x.place ++ textB x.digest = headB m ++ beI 4 (m.leaves.length : Int) ++ (m.leaves.take (i + 1)).flatMap leafB := by rw [flatMap_take hx, ← List.append_assoc, hS]; simp [leafB, List.append_assoc]
    have R := And.intro hx hS
    refine awp_draw (.op 0 0 (.op 1 0 (.op 2 0 (.op 3 0 (.op 4 0 (.op 5 0 (.op 6 0 (.op 9 0 (.op 10 0 (.op 11 0 (.op 12 0 (.op 13 0 (.op 14 0 (.op 7 1 (.op 8 0 (.op 15 1 (.op 16 0 (.op 17 0 .nil)))))))))))))))))) Tryz.mixed (by kernel_rfl) ?_
    iterate 13 (refine dR_S o_ (by rfl) (by rfl) v_ ?_)
    refine dR_X o_ (by rfl) (by rfl) (AOp_use (by rfl) (by rfl) (.inr ⟨by rfl, by rfl, by rfl⟩) g_ va_ (rText_c (by omega)) ?_); rintro _ _ ⟨rfl, rfl⟩; refine ⟨sub_, ?_⟩
    (refine dR_S o_ (by rfl) (by rfl) v_ ?_)
    refine dR_X o_ (by rfl) (by rfl) (AOp_use (by rfl) (by rfl) (.inr ⟨by rfl, by rfl, by rfl⟩) g_ va_ (rText_c (by omega)) ?_); rintro _ _ ⟨rfl, rfl⟩; refine ⟨sub_, ?_⟩
    iterate 2 (refine dR_S o_ (by rfl) (by rfl) v_ ?_)
    refine dR_nil ?_
    refine awp_region (by kernel_rfl) ?_
    iterate 3 (refine aL_S rfl rfl v_ ?_)
    refine aL_nil ?_
    refine aNext (ι := Nat) (i := i) (i + 1) ?_ ?_ ?_ ?_
    · omega
    · show i + 1 ≤ m.leaves.length; omega
    · have R := hnx; exact cv_
    · exact Store.Wk.refl _
  · replace hc3 := nm_ hc3
    refine awp_exit ?_
    refine aThen_exit ?_
    refine aThen_exit ?_
    refine aBlock_hit ?_
    refine awp_seq ?_
    skip
    obtain ⟨H, hH⟩ : ∃ H, headB m ++ listB leafB m.leaves = H := ⟨_, rfl⟩
    have hH2 : headB m ++ beI 4 (m.leaves.length : Int) ++ (m.leaves.take i).flatMap leafB = H := by rw [List.take_of_length_le (by omega), ← hH, listB, ← List.append_assoc]
    have hHl : H.length ≤ 18000000000 := by rw [← hH]; simp only [listB, List.length_append, beI_length]; omega
    have hH3 : headB m ++ (beI 4 (m.leaves.length : Int) ++ (m.leaves.take i).flatMap leafB) = H := by rw [← List.append_assoc]; exact hH2
    have R := And.intro hH2 hH3
    refine awp_region (by kernel_rfl) ?_
    iterate 4 (refine aL_S rfl rfl v_ ?_)
    refine aL_X rfl rfl (AOp_use rfl rfl (.inr ⟨rfl, rfl, rfl⟩) g_ va_ (rCount_c) ?_); rintro _ _ ⟨rfl, rfl⟩
    iterate 2 (refine aL_S rfl rfl v_ ?_)
    refine aL_nil ?_
    refine awp_seq ?_
    refine awp_seq ?_
    refine awp_region (by kernel_rfl) ?_
    (refine aL_S rfl rfl v_ ?_)
    refine aL_nil ?_
    refine awp_block ?_
    refine awp_loop_env (ι := Nat) (fun i => m.items.length - i) (fun i => i ≤ m.items.length) (fun i => [(1, .ref o1 0), (3, vStr (B (H ++ beI 4 (m.items.length : Int) ++ (m.items.take i).flatMap itemB))), (5, vInt i)]) (fun i => (σ.set o1 (.cells (sMsg m).cells))) 0 ?_ ?_ ?_ ?_
    · exact Nat.zero_le _
    · have R := And.intro app_nil8 @fm_nil; exact cv_
    · exact Store.Wk.refl _
    rintro i hi2
    simp only [envL_cons, envL_nil]
    refine awp_seq ?_
    refine awp_seq ?_
    refine awp_region (by kernel_rfl) ?_
    iterate 5 (refine aL_S rfl rfl v_ ?_)
    refine aL_nil ?_
    refine awp_cond v_ (fun hc8 => ?_) (fun hc8 => ?_)
    · replace hc8 := nm_ hc8
      refine awp_skip ?_
      refine awp_seq ?_
      refine awp_block ?_
      obtain ⟨x, hx⟩ := get_if' (l := m.items) (k := i) (by omega)
      have hsm := hm.items x (List.mem_of_getElem? hx)
      have s1 := hsm.place; have s2 := objB_len hsm.obj
      have hb := flatMap_take_le (f := itemB) m.items i
      obtain ⟨S, hS⟩ : ∃ S, H ++ beI 4 (m.items.length : Int) ++ (m.items.take i).flatMap itemB = S := ⟨_, rfl⟩
      have hSl : S.length = H.length + 4 + ((m.items.take i).flatMap itemB).length := by rw [← hS, List.length_append, List.length_append, beI_length]
      have q0 := textB_length x.place
      have p1 : (S ++ textB x.place).length = S.length + (textB x.place).length := List.length_append ..
      have hnx : S ++ textB x.place ++ objB x.obj = H ++ beI 4 (m.items.length : Int) ++ (m.items.take (i + 1)).flatMap itemB := by rw [flatMap_take hx, ← List.append_assoc, hS]; simp [itemB, List.append_assoc]
      have R := And.intro hx hS
      refine awp_draw (.op 0 0 (.op 1 0 (.op 2 0 (.op 3 0 (.op 4 0 (.op 5 0 (.op 6 0 (.op 9 0 (.op 10 0 (.op 11 0 (.op 12 0 (.op 13 0 (.op 14 0 (.op 7 1 (.op 8 0 (.op 15 1 (.op 16 0 (.op 17 0 .nil)))))))))))))))))) Tryz.mixed (by kernel_rfl) ?_
      iterate 13 (refine dR_S o_ (by rfl) (by rfl) v_ ?_)
      refine dR_X o_ (by rfl) (by rfl) (AOp_use (by rfl) (by rfl) (.inr ⟨by rfl, by rfl, by rfl⟩) g_ va_ (rText_c (by omega)) ?_); rintro _ _ ⟨rfl, rfl⟩; refine ⟨sub_, ?_⟩
      (refine dR_S o_ (by rfl) (by rfl) v_ ?_)
      refine dR_X o_ (by rfl) (by rfl) (AOp_use (by rfl) (by rfl) (.inr ⟨by rfl, by rfl, by rfl⟩) g_ va_ (rRaw_c hsm.obj) ?_); rintro _ _ ⟨rfl, rfl⟩; refine ⟨sub_, ?_⟩
      iterate 2 (refine dR_S o_ (by rfl) (by rfl) v_ ?_)
      refine dR_nil ?_
      refine awp_region (by kernel_rfl) ?_
      iterate 3 (refine aL_S rfl rfl v_ ?_)
      refine aL_nil ?_
      refine aNext (ι := Nat) (i := i) (i + 1) ?_ ?_ ?_ ?_
      · omega
      · show i + 1 ≤ m.items.length; omega
      · have R := hnx; exact cv_
      · exact Store.Wk.refl _
    · replace hc8 := nm_ hc8
      refine awp_exit ?_
      refine aThen_exit ?_
      refine aThen_exit ?_
      refine aBlock_hit ?_
      refine awp_seq ?_
      skip
      obtain ⟨T, hT⟩ : ∃ T, H ++ listB itemB m.items = T := ⟨_, rfl⟩
      have hT2 : H ++ beI 4 (m.items.length : Int) ++ (m.items.take i).flatMap itemB = T := by rw [List.take_of_length_le (by omega), ← hT, listB, ← List.append_assoc]
      have hTl : T.length ≤ 300000000000 := by rw [← hT]; simp only [listB, List.length_append, beI_length]; omega
      have hfin : T ++ listB entB m.ents = msgB m := by rw [← hT, ← hH, msgB]
      have R := hT2
      refine awp_region (by kernel_rfl) ?_
      iterate 3 (refine aL_S rfl rfl v_ ?_)
      refine aL_X rfl rfl (AOp_use rfl rfl (.inr ⟨rfl, rfl, rfl⟩) g_ va_ (rEnts_c hm.ents (by omega) (by omega)) ?_); rintro _ _ ⟨rfl, rfl⟩
      iterate 2 (refine aL_S rfl rfl v_ ?_)
      refine aL_nil ?_
      refine awp_ret ?_
      refine aEnd_ret (σ' := σ) v_ sub_ ?_
      exact ⟨by rw [hfin], rfl⟩
end Go.Proofs.YtbjloippgpilcaaGreat
end
