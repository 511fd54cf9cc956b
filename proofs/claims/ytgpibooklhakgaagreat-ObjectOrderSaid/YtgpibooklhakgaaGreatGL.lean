/-
  SHA-256: the reference's words and blocks; SHA-256: the reference's block and sum. Own work (an AI agent).
-/
import Derived.Test.YtgpibooklhakgaaGreatGK

section
set_option linter.all false
set_option maxRecDepth 100000
namespace Go.Proofs.YtgpibooklhakgaaGreat
open Go.Ab

abbrev vN (n : Nat) : AVal := .lit (.int .i64 (n : Int))
theorem B_get (l : List UInt8) (j : Nat) : (B l)[j]? = l[j]? := by
  by_cases h : j < l.length
  · have h2 : j < (B l).size := by rw [B_size]; exact h
    rw [getElem?_pos (B l) j h2, List.getElem?_eq_getElem h]
    congr 1
  · have h2 : ¬ j < (B l).size := by rw [B_size]; exact h
    rw [getElem?_neg (B l) j h2, List.getElem?_eq_none (by omega)]
theorem rLow_c {n : Int} {σ : Store} : ACalls Tryz.prog 205 [vInt n] σ fun v σ' => v = vInt (bAnd .i64 n 4294967295) ∧ σ = σ' := by
  refine ACalls_of Tryz.func205 rfl Tryz.ntmps205 (congrArg Array.toList Tryz.results205) (by simp only [List.length_cons, List.length_nil]; decide) ?_; simp only [envOf_cons, envOf_nil, Nat.reduceAdd]
  refine awp_seq ?_
  refine awp_region (by kernel_rfl) ?_
  (refine aL_S rfl rfl v_ ?_)
  refine aL_nil ?_
  refine awp_seq ?_
  refine awp_region (by kernel_rfl) ?_
  iterate 3 (refine aL_S rfl rfl v_ ?_)
  refine aL_nil ?_
  refine awp_ret ?_
  refine aEnd_ret (σ' := σ) v_ sub_ ?_
  exact ⟨rfl, rfl⟩
theorem low_nat {n : Nat} (h : n < 9223372036854775808) : bAnd .i64 (n : Int) 4294967295 = ((n % 4294967296 : Nat) : Int) := by
  have := (and63 (p := n) (q := 4294967295) h (by decide)).1
  rw [andlow] at this
  exact this
theorem rotr_or63 {x a : Nat} (hx : x < 4294967296) (ha : 1 ≤ a) (ha2 : a ≤ 31) : bAnd .i64 (bOr .i64 ((x : Int) / 2 ^ a) (IntKind.i64.wrap ((x : Int) * 2 ^ (32 - a)))) 4294967295 = (rotr x a : Int) := by
  have hp : x * 2 ^ (32 - a) < 9223372036854775808 := by
    have h1 : 2 ^ (32 - a) ≤ 2 ^ 31 := Nat.pow_le_pow_right (by decide) (by omega)
    have h2 : x * 2 ^ (32 - a) ≤ 4294967295 * 2 ^ 31 := Nat.mul_le_mul (by omega) h1
    omega
  have h1 : (x : Int) * 2 ^ (32 - a) = ((x * 2 ^ (32 - a) : Nat) : Int) := by rw [Int.natCast_mul, Int.natCast_pow]; rfl
  have h2 : (x : Int) / 2 ^ a = ((x / 2 ^ a : Nat) : Int) := by rw [Int.natCast_ediv, Int.natCast_pow]; rfl
  have h3 : x / 2 ^ a < 9223372036854775808 := Nat.lt_of_le_of_lt (Nat.div_le_self _ _) (by omega)
  rw [h1, h2, wrap_i64 _ (by omega) (by omega), (or63 h3 hp).1, low_nat (or63 h3 hp).2, turn_eq hx]
theorem rTurn_c {x a : Nat} {σ : Store} (hx : x < 4294967296) (ha : 1 ≤ a) (ha2 : a ≤ 31) : ACalls Tryz.prog 204 [vN x, vInt a] σ fun v σ' => v = vN (rotr x a) ∧ σ = σ' := by
  have e1 : ((32 : Int) - (a : Int)).toNat = 32 - a := by omega
  have e2 : ((a : Int)).toNat = a := by omega
  have e3 := rotr_or63 hx ha ha2
  refine ACalls_of Tryz.func204 rfl Tryz.ntmps204 (congrArg Array.toList Tryz.results204) (by simp only [List.length_cons, List.length_nil]; decide) ?_; simp only [envOf_cons, envOf_nil, Nat.reduceAdd]
  refine awp_seq ?_
  have R := And.intro e1 e2
  refine awp_region (by kernel_rfl) ?_
  (refine aL_S rfl rfl v_ ?_)
  refine aL_nil ?_
  refine awp_seq ?_
  have R := And.intro e1 e2
  refine awp_draw (.op 0 0 (.op 1 0 (.op 2 0 (.op 3 0 (.op 4 0 (.op 5 0 (.op 6 0 (.op 7 0 (.op 8 1 (.op 9 0 .nil)))))))))) Tryz.mixed (by kernel_rfl) ?_
  iterate 8 (refine dR_S o_ (by rfl) (by rfl) v_ ?_)
  refine dR_X o_ (by rfl) (by rfl) (AOp_use (by rfl) (by rfl) (.inr ⟨by rfl, by rfl, by rfl⟩) g_ va_ (rLow_c) ?_); rintro _ _ ⟨rfl, rfl⟩; refine ⟨sub_, ?_⟩
  (refine dR_S o_ (by rfl) (by rfl) v_ ?_)
  refine dR_nil ?_
  refine awp_ret ?_
  refine aEnd_ret (σ' := σ) v_ sub_ ?_
  exact ⟨by rw [e3], rfl⟩
theorem rConst_c {σ : Store} : ACalls Tryz.prog 203 [] σ fun v σ' => v = .agg (kS.map vN) ∧ σ = σ' := by
  refine ACalls_of Tryz.func203 rfl Tryz.ntmps203 (congrArg Array.toList Tryz.results203) (by simp only [List.length_cons, List.length_nil]; decide) ?_; simp only [envOf_cons, envOf_nil, Nat.reduceAdd]
  refine awp_seq ?_
  refine awp_region (by kernel_rfl) ?_
  refine aL_alloc rfl rfl rfl g_ gl_ fun o0 ho0 => ?_
  repeat (rw [none_set_iff] at ho0; obtain ⟨_, ho0⟩ := ho0)
  refine aL_nil ?_
  refine awp_seq ?_
  refine awp_region (by kernel_rfl) ?_
  (refine aL_S rfl rfl v_ ?_)
  refine aL_store rfl rfl rfl v_ v_ h_ g_ rfl g_ c_ (by rfl) le_ v_ ?_
  refine aL_nil ?_
  refine awp_ret ?_
  refine aEnd_ret (σ' := σ) v_ sub_ ?_
  exact ⟨rfl, rfl⟩
theorem xor3 {x a b c : Nat} (h1 : rotr x a < 4294967296) (h2 : rotr x b < 4294967296) (h3 : c < 4294967296) : bXor .i64 (bXor .i64 (rotr x a) (rotr x b)) (c : Int) = (((rotr x a ^^^ rotr x b) ^^^ c : Nat) : Int) := by
  have h4 := xor63 (p := rotr x a) (q := rotr x b) (by omega) (by omega)
  rw [h4.1, (xor63 h4.2 (by omega)).1]
theorem word4_or63 {p q r s : Nat} (hp : p < 256) (hq : q < 256) (hr : r < 256) (hs : s < 256) : bOr .i64 (bOr .i64 (bOr .i64 ((p : Int) * 2 ^ 24) ((q : Int) * 2 ^ 16)) ((r : Int) * 2 ^ 8)) (s : Int) = (word4 p q r s : Int) := by
  have a1 : (p : Int) * 2 ^ 24 = ((p * 16777216 : Nat) : Int) := by omega
  have a2 : (q : Int) * 2 ^ 16 = ((q * 65536 : Nat) : Int) := by omega
  have a3 : (r : Int) * 2 ^ 8 = ((r * 256 : Nat) : Int) := by omega
  have h1 := or63 (p := p * 16777216) (q := q * 65536) (by omega) (by omega)
  have h2 := or63 (p := p * 16777216 ||| q * 65536) (q := r * 256) h1.2 (by omega)
  rw [a1, a2, a3, h1.1, h2.1, (or63 h2.2 (by omega)).1]
  rfl
theorem wN_get {w : List Nat} {j : Nat} (h : j < w.length) : (w.map vN)[j]? = some (vN (w.getD j 0)) := by
  rw [List.getElem?_map, List.getElem?_eq_getElem h]
  simp [List.getD, h]
theorem wNext_low {a b c d : Nat} (ha : a < 4294967296) (hb : b < 4294967296) (hc : c < 4294967296) (hd : d < 4294967296) : bAnd .i64 ((a : Int) + b + c + d) 4294967295 = (((a + b + c + d) % 4294967296 : Nat) : Int) := by
  rw [← low_nat (by omega)]; congr 1
theorem rWords_c {l : List UInt8} {σ : Store} (hl : 64 ≤ l.length) : ACalls Tryz.prog 202 [vStr (B l)] σ fun v σ' => v = .sl 1 ((wds l 64).map vN) false ∧ σ = σ' := by
  refine ACalls_of Tryz.func202 rfl Tryz.ntmps202 (congrArg Array.toList Tryz.results202) (by simp only [List.length_cons, List.length_nil]; decide) ?_; simp only [envOf_cons, envOf_nil, Nat.reduceAdd]
  refine awp_seq ?_
  refine awp_region (by kernel_rfl) ?_
  (refine aL_S rfl rfl v_ ?_)
  refine aL_nil ?_
  refine awp_seq ?_
  refine awp_region (by kernel_rfl) ?_
  refine aL_nilOwn 3 1 rfl rfl rfl (by rfl) fun k3 hk3 => ?_
  refine aL_nil ?_
  refine awp_seq ?_
  refine awp_seq ?_
  refine awp_region (by kernel_rfl) ?_
  (refine aL_S rfl rfl v_ ?_)
  refine aL_nil ?_
  refine awp_block ?_
  refine awp_loop_env (ι := Nat × Nat) (fun ⟨n, k⟩ => 16 - n) (fun ⟨n, k⟩ => n ≤ 16 ∧ σ.tok k = none) (fun ⟨n, k⟩ => [(0, vStr (B l)), (3, .own k 1 ((wds l n).map vN)), (4, vInt n)]) (fun ⟨n, k⟩ => (σ.newTok none k (3, 1))) (0, k3) ?_ ?_ ?_ ?_
  · exact ⟨Nat.zero_le _, hk3⟩
  · exact cv_
  · exact Store.Wk.refl _
  rintro ⟨n, k⟩ ⟨hn, hk⟩
  simp only [envL_cons, envL_nil]
  refine awp_seq ?_
  refine awp_seq ?_
  refine awp_region (by kernel_rfl) ?_
  iterate 2 (refine aL_S rfl rfl v_ ?_)
  refine aL_nil ?_
  refine awp_cond v_ (fun hc3 => ?_) (fun hc3 => ?_)
  · replace hc3 := nm_ hc3
    refine awp_skip ?_
    refine awp_seq ?_
    refine awp_block ?_
    have b0 := byteAt_lt l (4 * n); have b1 := byteAt_lt l (4 * n + 1); have b2 := byteAt_lt l (4 * n + 2); have b3 := byteAt_lt l (4 * n + 3)
    have e0 : ((4 : Int) * n).toNat = 4 * n := by omega
    have e1 : ((4 : Int) * n + 1).toNat = 4 * n + 1 := by omega
    have e2 : ((4 : Int) * n + 2).toNat = 4 * n + 2 := by omega
    have e3 : ((4 : Int) * n + 3).toNat = 4 * n + 3 := by omega
    have hb : ∀ j, j < l.length → ∃ c : UInt8, (B l)[j]? = some c ∧ ((c.toNat : Nat) : Int) = (byteAt l j : Int) := fun j hj => ⟨l[j], by rw [B_get, List.getElem?_eq_getElem hj], by simp [byteAt, List.getD, hj]⟩
    obtain ⟨c0, g0, d0⟩ := hb (4 * n) (by omega)
    obtain ⟨c1, g1, d1⟩ := hb (4 * n + 1) (by omega)
    obtain ⟨c2, g2, d2⟩ := hb (4 * n + 2) (by omega)
    obtain ⟨c3, g3, d3⟩ := hb (4 * n + 3) (by omega)
    have hor := word4_or63 b0 b1 b2 b3
    have hw := wds_length l n
    have hnew : (wds l (n + 1)).map vN = (wds l n).map vN ++ [vN (word4 (byteAt l (4 * n)) (byteAt l (4 * n + 1)) (byteAt l (4 * n + 2)) (byteAt l (4 * n + 3)))] := by
      rw [wds, wStep, if_pos (by omega), hw, List.map_append]; rfl
    have R := And.intro e0 (And.intro e1 (And.intro e2 (And.intro e3 (And.intro g0 (And.intro g1 (And.intro g2 (And.intro g3 (And.intro d0 (And.intro d1 (And.intro d2 (And.intro d3 hor)))))))))))
    refine awp_draw (.op 0 0 (.op 1 0 (.op 2 0 (.op 3 0 (.op 4 0 (.op 5 0 (.op 6 0 (.op 7 0 (.op 8 0 (.op 9 0 (.op 10 0 (.op 11 0 (.op 12 0 (.op 13 0 (.op 14 0 (.op 15 0 (.op 16 0 (.op 17 0 (.op 18 0 (.op 19 0 (.op 20 0 (.op 21 0 (.op 22 0 (.op 23 0 (.op 24 0 (.op 25 0 (.op 26 0 (.op 27 0 (.op 28 0 (.op 29 0 (.op 30 1 (.op 31 2 (.op 32 0 .nil))))))))))))))))))))))))))))))))) Tryz.mixed (by kernel_rfl) ?_
    iterate 30 (refine dR_S o_ (by rfl) (by rfl) v_ ?_)
    refine dR_X o_ (by rfl) (by rfl) (AOp_buildSlice' (by rfl) g_ g_ (by rfl) (by rfl) h_ c2_ (by decide) ⟨sub_, ?_⟩)
    refine dR_T o_ (by rfl) (by rfl) (AOp_appendS (by rfl) g_ g_ (.inl ⟨_, va_, h_, rfl⟩) (.inl ⟨⟨_, g_⟩, .inl v_, c_⟩) (by simp [hw]; omega) fun k45 hk45 => ?_)
    (refine dR_S o_ (by rfl) (by rfl) v_ ?_)
    refine dR_nil ?_
    refine awp_region (by kernel_rfl) ?_
    iterate 3 (refine aL_S rfl rfl v_ ?_)
    refine aL_nil ?_
    refine aNext (ι := Nat × Nat) (i := ⟨n, k⟩) (n + 1, k45) ?_ ?_ ?_ ?_
    · show 16 - (n + 1) < 16 - n; omega
    · exact ⟨by show n + 1 ≤ 16; omega, (newTok_none hk45).2⟩
    · have R := hnew; exact cv_
    · rw [Store.newTok_step hk]; exact Store.Wk.refl _
  · replace hc3 := nm_ hc3
    refine awp_exit ?_
    refine aThen_exit ?_
    refine aThen_exit ?_
    refine aBlock_hit ?_
    refine awp_seq ?_
    refine awp_seq ?_
    obtain rfl : n = 16 := by omega
    have h16 : ((16 : Nat) : Int) = 16 := rfl
    refine awp_region (by kernel_rfl) ?_
    (refine aL_S rfl rfl v_ ?_)
    refine aL_nil ?_
    refine awp_block ?_
    refine awp_loop_env (ι := Nat × Nat) (fun ⟨n, k⟩ => 64 - n) (fun ⟨n, k⟩ => n ≤ 64 ∧ 16 ≤ n ∧ σ.tok k = none) (fun ⟨n, k⟩ => [(3, .own k 1 ((wds l n).map vN)), (5, vInt n)]) (fun ⟨n, k⟩ => (σ.newTok none k (3, 1))) (16, k) ?_ ?_ ?_ ?_
    · exact ⟨by decide, Nat.le_refl _, hk⟩
    · have R := h16; exact cv_
    · exact Store.Wk.refl _
    rintro ⟨n, k⟩ ⟨hn, hn2, hk⟩
    simp only [envL_cons, envL_nil]
    refine awp_seq ?_
    refine awp_seq ?_
    refine awp_region (by kernel_rfl) ?_
    iterate 2 (refine aL_S rfl rfl v_ ?_)
    refine aL_nil ?_
    refine awp_cond v_ (fun hc7 => ?_) (fun hc7 => ?_)
    · replace hc7 := nm_ hc7
      refine awp_skip ?_
      refine awp_seq ?_
      refine awp_block ?_
      refine awp_seq ?_
      have hw := wds_length l n
      have hlt := wds_lt l n
      have i2 : ((n : Int) - 2).toNat = n - 2 := by omega
      have i7 : ((n : Int) - 7).toNat = n - 7 := by omega
      have i15 : ((n : Int) - 15).toNat = n - 15 := by omega
      have i16 : ((n : Int) - 16).toNat = n - 16 := by omega
      have q2 := wN_get (w := wds l n) (j := n - 2) (by omega)
      have q7 := wN_get (w := wds l n) (j := n - 7) (by omega)
      have q15 := wN_get (w := wds l n) (j := n - 15) (by omega)
      have q16 := wN_get (w := wds l n) (j := n - 16) (by omega)
      have l2 := getD_lt hlt (n - 2); have l7 := getD_lt hlt (n - 7); have l15 := getD_lt hlt (n - 15); have l16 := getD_lt hlt (n - 16)
      have p3 : ((wds l n).getD (n - 15) 0 : Int) / 2 ^ 3 = (((wds l n).getD (n - 15) 0 / 2 ^ 3 : Nat) : Int) := by rw [Int.natCast_ediv]; rfl
      have p10 : ((wds l n).getD (n - 2) 0 : Int) / 2 ^ 10 = (((wds l n).getD (n - 2) 0 / 2 ^ 10 : Nat) : Int) := by rw [Int.natCast_ediv]; rfl
      have x1 := xor3 (c := (wds l n).getD (n - 15) 0 / 2 ^ 3) (rotr_lt (a := 7) l15) (rotr_lt (a := 18) l15) (Nat.lt_of_le_of_lt (Nat.div_le_self _ _) l15)
      have x2 := xor3 (c := (wds l n).getD (n - 2) 0 / 2 ^ 10) (rotr_lt (a := 17) l2) (rotr_lt (a := 19) l2) (Nat.lt_of_le_of_lt (Nat.div_le_self _ _) l2)
      have hlow := wNext_low (sm_lt (a := 17) (b := 19) (p := 10) l2) l7 (sm_lt (a := 7) (b := 18) (p := 3) l15) l16
      have hnew : (wds l (n + 1)).map vN = (wds l n).map vN ++ [vN ((sm ((wds l n).getD (n - 2) 0) 17 19 10 + (wds l n).getD (n - 7) 0 + sm ((wds l n).getD (n - 15) 0) 7 18 3 + (wds l n).getD (n - 16) 0) % 4294967296)] := by
        rw [wds, wStep, if_neg (by omega), wNext, hw, List.map_append]; rfl
      have s1 := sm_lt (a := 17) (b := 19) (p := 10) l2; have s2 := sm_lt (a := 7) (b := 18) (p := 3) l15
      have f1 : ((rotr ((wds l n).getD (n - 15) 0) 7 ^^^ rotr ((wds l n).getD (n - 15) 0) 18) ^^^ ((wds l n).getD (n - 15) 0 / 2 ^ 3)) = sm ((wds l n).getD (n - 15) 0) 7 18 3 := rfl
      have f2 : ((rotr ((wds l n).getD (n - 2) 0) 17 ^^^ rotr ((wds l n).getD (n - 2) 0) 19) ^^^ ((wds l n).getD (n - 2) 0 / 2 ^ 10)) = sm ((wds l n).getD (n - 2) 0) 17 19 10 := rfl
      rw [f1] at x1
      rw [f2] at x2
      have R := And.intro i2 (And.intro i15 (And.intro q2 q15))
      refine awp_draw (.op 0 0 (.op 1 0 (.op 2 0 (.op 3 0 (.op 4 0 (.op 5 0 (.op 6 0 (.op 7 0 (.op 8 0 (.op 9 0 (.op 10 0 (.op 11 0 .nil)))))))))))) Tryz.mixed (by kernel_rfl) ?_
      iterate 12 (refine dR_S o_ (by rfl) (by rfl) v_ ?_)
      refine dR_nil ?_
      refine awp_seq ?_
      have R := And.intro p3 x1
      refine awp_region (by kernel_rfl) ?_
      (refine aL_S rfl rfl v_ ?_)
      refine aL_X rfl rfl (AOp_use rfl rfl (.inr ⟨rfl, rfl, rfl⟩) g_ va_ (rTurn_c (a := 7) l15 (by decide) (by decide)) ?_); rintro _ _ ⟨rfl, rfl⟩
      (refine aL_S rfl rfl v_ ?_)
      refine aL_X rfl rfl (AOp_use rfl rfl (.inr ⟨rfl, rfl, rfl⟩) g_ va_ (rTurn_c (a := 18) l15 (by decide) (by decide)) ?_); rintro _ _ ⟨rfl, rfl⟩
      iterate 5 (refine aL_S rfl rfl v_ ?_)
      refine aL_nil ?_
      refine awp_seq ?_
      have R := And.intro p10 x2
      refine awp_region (by kernel_rfl) ?_
      (refine aL_S rfl rfl v_ ?_)
      refine aL_X rfl rfl (AOp_use rfl rfl (.inr ⟨rfl, rfl, rfl⟩) g_ va_ (rTurn_c (a := 17) l2 (by decide) (by decide)) ?_); rintro _ _ ⟨rfl, rfl⟩
      (refine aL_S rfl rfl v_ ?_)
      refine aL_X rfl rfl (AOp_use rfl rfl (.inr ⟨rfl, rfl, rfl⟩) g_ va_ (rTurn_c (a := 19) l2 (by decide) (by decide)) ?_); rintro _ _ ⟨rfl, rfl⟩
      iterate 5 (refine aL_S rfl rfl v_ ?_)
      refine aL_nil ?_
      have R := And.intro i7 (And.intro i16 (And.intro q7 (And.intro q16 hlow)))
      refine awp_draw (.op 0 0 (.op 1 0 (.op 2 0 (.op 3 0 (.op 4 0 (.op 5 0 (.op 6 0 (.op 7 0 (.op 8 0 (.op 9 0 (.op 10 0 (.op 11 0 (.op 12 0 (.op 13 0 (.op 14 0 (.op 15 0 (.op 16 1 (.op 17 1 (.op 18 2 (.op 19 0 .nil)))))))))))))))))))) Tryz.mixed (by kernel_rfl) ?_
      iterate 16 (refine dR_S o_ (by rfl) (by rfl) v_ ?_)
      refine dR_X o_ (by rfl) (by rfl) (AOp_use (by rfl) (by rfl) (.inr ⟨by rfl, by rfl, by rfl⟩) g_ va_ (rLow_c) ?_); rintro _ _ ⟨rfl, rfl⟩; refine ⟨sub_, ?_⟩
      refine dR_X o_ (by rfl) (by rfl) (AOp_buildSlice' (by rfl) g_ g_ (by rfl) (by rfl) h_ c2_ (by decide) ⟨sub_, ?_⟩)
      refine dR_T o_ (by rfl) (by rfl) (AOp_appendS (by rfl) g_ g_ (.inl ⟨_, va_, h_, rfl⟩) (.inl ⟨⟨_, g_⟩, .inl v_, c_⟩) (by simp [hw]; omega) fun k94 hk94 => ?_)
      (refine dR_S o_ (by rfl) (by rfl) v_ ?_)
      refine dR_nil ?_
      refine awp_region (by kernel_rfl) ?_
      iterate 3 (refine aL_S rfl rfl v_ ?_)
      refine aL_nil ?_
      refine aNext (ι := Nat × Nat) (i := ⟨n, k⟩) (n + 1, k94) ?_ ?_ ?_ ?_
      · show 64 - (n + 1) < 64 - n; omega
      · exact ⟨by show n + 1 ≤ 64; omega, by show 16 ≤ n + 1; omega, (newTok_none hk94).2⟩
      · have R := hnew; exact cv_
      · rw [Store.newTok_step hk]; exact Store.Wk.refl _
    · replace hc7 := nm_ hc7
      refine awp_exit ?_
      refine aThen_exit ?_
      refine aThen_exit ?_
      refine aBlock_hit ?_
      refine awp_seq ?_
      obtain rfl : n = 64 := by omega
      refine awp_region (by kernel_rfl) ?_
      iterate 2 (refine aL_S rfl rfl v_ ?_)
      refine aL_nil ?_
      refine awp_ret ?_
      exact aEnd_retW (v := .sl 1 ((wds l 64).map vN) false) (v' := .own k 1 ((wds l 64).map vN)) va_ (.own1 _ _ _) (subx_start (subx_newTok hk subx_refl)) ⟨rfl, rfl⟩
end Go.Proofs.YtgpibooklhakgaaGreat
end

section
set_option linter.all false
set_option maxRecDepth 100000
namespace Go.Proofs.YtgpibooklhakgaaGreat
open Go.Ab

theorem l8N (x : St8) {n : Nat} (h : n < 8) : ((l8 x).map vN)[n]? = some (vN ((l8 x).getD n 0)) := wN_get (by simpa [l8] using h)
theorem addN_get (x v : St8) {n : Nat} (h : n < 8) : ((l8 (addS x v)).map vN)[n]? = some (vN (((l8 x).getD n 0 + (l8 v).getD n 0) % 4294967296)) := by
  match n, h with
  | 0, _ | 1, _ | 2, _ | 3, _ | 4, _ | 5, _ | 6, _ | 7, _ => simp [l8, addS]
theorem ch63 {e f g : Nat} (he : e < 4294967296) (hf : f < 4294967296) (hg : g < 4294967296) : bXor .i64 (bAnd .i64 e f) (bAnd .i64 (not32 e : Int) g) = (ch e f g : Int) := by
  have h0 := not32_lt e
  have c1 := and63 (p := e) (q := f) (by omega) (by omega)
  have c2 := and63 (p := not32 e) (q := g) (by omega) (by omega)
  rw [c1.1, c2.1]; exact (xor63 c1.2 c2.2).1
theorem maj63 {a b c : Nat} (ha : a < 4294967296) (hb : b < 4294967296) (hc : c < 4294967296) : bXor .i64 (bXor .i64 (bAnd .i64 a b) (bAnd .i64 a c)) (bAnd .i64 b c) = (maj a b c : Int) := by
  have m1 := and63 (p := a) (q := b) (by omega) (by omega); have m2 := and63 (p := a) (q := c) (by omega) (by omega); have m3 := and63 (p := b) (q := c) (by omega) (by omega)
  have m12 := xor63 m1.2 m2.2
  rw [m1.1, m2.1, m3.1, m12.1]; exact (xor63 m12.2 m3.2).1
attribute [local irreducible] rnds wds tu maj ch
set_option maxHeartbeats 1000000 in
theorem rBlock_c {v : St8} {l : List UInt8} {σ : Store} (hv : v.Ok) (hl : 64 ≤ l.length) : ACalls Tryz.prog 145 [.agg ((l8 v).map vN), vStr (B l)] σ fun r σ' => r = .agg ((l8 (blockS v l)).map vN) ∧ σ = σ' := by
  obtain ⟨W, hW⟩ : ∃ W, (wds l 64).map vN = W := ⟨_, rfl⟩
  obtain ⟨Kk, hKk⟩ : ∃ Kk, kS.map vN = Kk := ⟨_, rfl⟩
  have hone : ∀ (w : List Nat), ∀ c ∈ w.map vN, c.one = true := fun w c hc => by
    obtain ⟨x, _, rfl⟩ := List.mem_map.1 hc
    rfl
  have hW1 := hone (wds l 64); have hK1 := hone kS
  have hW64 : ((wds l 64).map vN).length = 64 := by rw [List.length_map, wds_length]
  have hK64 : (kS.map vN).length = 64 := by rw [List.length_map]; rfl
  have hWg : ∀ n, n < 64 → ((wds l 64).map vN)[n]? = some (vN ((wds l 64).getD n 0)) := fun n hn => wN_get (by rw [wds_length]; exact hn)
  have hKg : ∀ n, n < 64 → (kS.map vN)[n]? = some (vN (kS.getD n 0)) := fun n hn => wN_get hn
  have hwl := getD_lt (wds_lt l 64)
  have hkl := getD_lt kS_lt
  rw [hW] at hW1 hW64 hWg
  rw [hKk] at hK1 hK64 hKg
  obtain ⟨Z, hZ⟩ : ∃ Z, List.replicate 64 (vN 0) = Z := ⟨_, rfl⟩
  have hZ64 : Z.length = 64 := by rw [← hZ]; simp
  have w8 : ((l8 v).map vN).take 8 = (l8 v).map vN := rfl
  refine ACalls_of Tryz.func145 rfl Tryz.ntmps145 (congrArg Array.toList Tryz.results145) (by simp only [List.length_cons, List.length_nil]; decide) ?_; simp only [envOf_cons, envOf_nil, Nat.reduceAdd]
  refine awp_seq ?_
  refine awp_region (by kernel_rfl) ?_
  refine aL_box rfl rfl rfl v_ rfl g_ fun o2 ho2 => ?_
  repeat (rw [none_set_iff] at ho2; obtain ⟨_, ho2⟩ := ho2)
  refine aL_alloc rfl rfl rfl g_ gl_ fun o4 ho4 => ?_
  repeat (rw [none_set_iff] at ho4; obtain ⟨_, ho4⟩ := ho4)
  refine aL_nil ?_
  refine awp_seq ?_
  refine awp_region (by kernel_rfl) ?_
  (refine aL_S rfl rfl v_ ?_)
  refine aL_X rfl rfl (AOp_use rfl rfl (.inr ⟨rfl, rfl, rfl⟩) g_ va_ (rWords_c hl) ?_); rintro _ _ ⟨rfl, rfl⟩
  rw [hW]
  (refine aL_S rfl rfl v_ ?_)
  refine aL_nil ?_
  refine awp_seq ?_
  refine awp_region (by kernel_rfl) ?_
  refine aL_X rfl rfl (AOp_use rfl rfl (.inr ⟨rfl, rfl, rfl⟩) g_ va_ (rConst_c) ?_); rintro _ _ ⟨rfl, rfl⟩
  rw [hKk]
  refine aL_alloc (z := .agg (Array.replicate 64 (.int .i64 0))) rfl rfl rfl (by kernel_rfl) (cs := Z) (by rw [← hZ]; rfl) fun o6 ho6 => ?_
  repeat (rw [none_set_iff] at ho6; obtain ⟨_, ho6⟩ := ho6)
  refine aL_store (a := .agg Kk) (cs' := Kk) (cs2 := Kk) rfl rfl rfl v_ va_ h_ g_ rfl rfl hK1 hK64 (by omega) (aput_all (by omega)) ?_
  refine aL_nil ?_
  refine awp_seq ?_
  have R := w8
  refine awp_region (by kernel_rfl) ?_
  (refine aL_S rfl rfl v_ ?_)
  refine aL_alloc rfl rfl rfl g_ gl_ fun o7 ho7 => ?_
  repeat (rw [none_set_iff] at ho7; obtain ⟨_, ho7⟩ := ho7)
  refine aL_store rfl rfl rfl v_ v_ h_ g_ rfl g_ c_ (by rfl) le_ v_ ?_
  refine aL_nil ?_
  have hS : ∃ S0, ((((σ.set o2 (.cells ((l8 v).map vN))).set o4 (.cells ((l8 ⟨0, 0, 0, 0, 0, 0, 0, 0⟩).map vN))).set o6 (.cells Z)).set o6 (.cells Kk)) = S0 := ⟨_, rfl⟩
  obtain ⟨S0, hS⟩ := hS
  have h6 : S0.heap o6 = some (.cells Kk) := by rw [← hS]; exact Store.set_get ..
  have h2 : S0.heap o2 = some (.cells ((l8 v).map vN)) := by rw [← hS]; exact h_
  have h4 : S0.heap o4 = some (.cells ((l8 ⟨0, 0, 0, 0, 0, 0, 0, 0⟩).map vN)) := by rw [← hS]; exact h_
  have hsx : SubX [] σ S0 := by rw [← hS]; exact subx_new ho6 (subx_new ho6 (subx_new ho4 (subx_new ho2 subx_refl)))
  have n72 : o2 ≠ o7 := Ne.symm ‹_›
  have n74 : o4 ≠ o7 := Ne.symm ‹_›
  have n76 : o6 ≠ o7 := Ne.symm ‹_›
  have h7 : ∀ y : St8, (S0.set o7 (.cells ((l8 y).map vN))).heap o7 = some (.cells ((l8 y).map vN)) := fun y => Store.set_get ..
  have h76 : ∀ y : St8, (S0.set o7 (.cells ((l8 y).map vN))).heap o6 = some (.cells Kk) := fun y => by rw [Store.set_ne _ _ n76, h6]
  have h72 : ∀ y : St8, (S0.set o7 (.cells ((l8 y).map vN))).heap o2 = some (.cells ((l8 v).map vN)) := fun y => by rw [Store.set_ne _ _ n72, h2]
  refine awp_seq ?_
  refine awp_seq ?_
  refine awp_region (by kernel_rfl) ?_
  (refine aL_S rfl rfl v_ ?_)
  refine aL_nil ?_
  refine awp_block ?_
  refine awp_loop_env (ι := Nat) (fun n => 64 - n) (fun n => n ≤ 64) (fun n => [(2, .ref o2 0), (4, .ref o4 0), (5, .sl 1 W false), (6, .ref o6 0), (7, .ref o7 0), (8, vN n)]) (fun n => (S0.set o7 (.cells ((l8 (rnds v l n)).map vN)))) 0 ?_ ?_ ?_ ?_
  · exact Nat.zero_le _
  · exact cv_
  · rw [rnds_zero, ← hS]; exact Store.Wk.refl' (Store.set_set ..).symm
  rintro n hn
  simp only [envL_cons, envL_nil]
  refine awp_seq ?_
  refine awp_seq ?_
  have R := hW64
  refine awp_region (by kernel_rfl) ?_
  iterate 3 (refine aL_S rfl rfl v_ ?_)
  refine aL_GT rfl rfl v_ rfl vg_ ?_
  refine aL_GT rfl rfl v_ rfl vg_ ?_
  refine aL_GT rfl rfl v_ rfl vg_ ?_
  refine aL_GT rfl rfl v_ rfl vg_ ?_
  (refine aL_S rfl rfl v_ ?_)
  refine aL_nil ?_
  refine awp_cond v_ (fun hc5 => ?_) (fun hc5 => ?_)
  · replace hc5 := nm_ hc5
    refine awp_skip ?_
    refine awp_seq ?_
    refine awp_block ?_
    refine awp_seq ?_
    have hx := rnds_ok hv l n
    have e1 := rnds_succ v l n
    obtain ⟨x, hxe⟩ : ∃ x, rnds v l n = x := ⟨_, rfl⟩
    rw [hxe] at hx e1
    rw [hxe]
    have hn64 : n < 64 := by omega
    have kn := hKg n hn64
    have wn := hWg n hn64
    have hkb := hkl n
    have hwb := hwl n
    obtain ⟨k, hk⟩ : ∃ k, kS.getD n 0 = k := ⟨_, rfl⟩
    obtain ⟨w, hw⟩ : ∃ w, (wds l 64).getD n 0 = w := ⟨_, rfl⟩
    rw [hk] at kn hkb e1
    rw [hw] at wn hwb e1
    have v0 : ((l8 x).map vN)[0]? = some (vN x.a) := rfl
    have v1 : ((l8 x).map vN)[1]? = some (vN x.b) := rfl
    have v2 : ((l8 x).map vN)[2]? = some (vN x.c) := rfl
    have v3 : ((l8 x).map vN)[3]? = some (vN x.d) := rfl
    have v4 : ((l8 x).map vN)[4]? = some (vN x.e) := rfl
    have v5 : ((l8 x).map vN)[5]? = some (vN x.f) := rfl
    have v6 : ((l8 x).map vN)[6]? = some (vN x.g) := rfl
    have v7 : ((l8 x).map vN)[7]? = some (vN x.h) := rfl
    have hl8 : ((l8 x).map vN).length = 8 := rfl
    have b1 := tu_lt (a := 6) (b := 11) (c := 25) hx.e
    have b2 := tu_lt (a := 2) (b := 13) (c := 22) hx.a
    have b3 := ch_lt (f := x.f) (g := x.g) hx.e
    have b4 := maj_lt (c := x.c) hx.a hx.b
    have b5 := hx.h; have b6 := hx.d
    have t1 : bXor .i64 (bXor .i64 (rotr x.e 6) (rotr x.e 11)) (rotr x.e 25) = (tu x.e 6 11 25 : Int) := by rw [xor3 (rotr_lt hx.e) (rotr_lt hx.e) (rotr_lt hx.e)]; unfold tu; rfl
    have t2 : bXor .i64 (bXor .i64 (rotr x.a 2) (rotr x.a 13)) (rotr x.a 22) = (tu x.a 2 13 22 : Int) := by rw [xor3 (rotr_lt hx.a) (rotr_lt hx.a) (rotr_lt hx.a)]; unfold tu; rfl
    have hno : bAnd .i64 (bXor .i64 (if IntKind.i64.signed = true then -1 else IntKind.i64.max) (x.e : Int)) 4294967295 = (not32 x.e : Int) := low_not hx.e
    have c3 := ch63 hx.e hx.f hx.g
    have m4 := maj63 hx.a hx.b hx.c
    have f1 : (x.h : Int) + tu x.e 6 11 25 + ch x.e x.f x.g + k + w = ((t1S x k w : Nat) : Int) := by simp only [t1S]; omega
    have f2 : (tu x.a 2 13 22 : Int) + maj x.a x.b x.c = ((t2S x : Nat) : Int) := by simp only [t2S]; omega
    have f3 : t1S x k w < 21474836480 := by simp only [t1S]; omega
    have f4 : t2S x < 8589934592 := by simp only [t2S]; omega
    have f5 : bAnd .i64 ((t1S x k w : Int) + (t2S x : Int)) 4294967295 = (((t1S x k w + t2S x) % 4294967296 : Nat) : Int) := by rw [← low_nat (by omega)]; congr 1
    have f6 : bAnd .i64 ((x.d : Int) + (t1S x k w : Int)) 4294967295 = (((x.d + t1S x k w) % 4294967296 : Nat) : Int) := by rw [← low_nat (by omega)]; congr 1
    have R := And.intro h7 (And.intro hl8 (And.intro v4 v0))
    refine awp_draw (.op 0 0 (.op 1 0 (.op 2 0 (.op 3 0 (.op 4 0 (.op 5 0 .nil)))))) Tryz.mixed (by kernel_rfl) ?_
    iterate 6 (refine dR_S o_ (by rfl) (by rfl) v_ ?_)
    refine dR_nil ?_
    refine awp_seq ?_
    have R := And.intro h7 (And.intro hl8 (And.intro v7 (And.intro v5 (And.intro v6 (And.intro h76 (And.intro hK64 (And.intro hW64 (And.intro kn (And.intro wn (And.intro t1 (And.intro hno (And.intro c3 f1))))))))))))
    refine awp_draw (.op 0 0 (.op 1 0 (.op 2 0 (.op 4 0 (.op 7 0 (.op 11 0 (.op 12 0 (.op 13 0 (.op 14 0 (.op 15 0 (.op 16 0 (.op 18 0 (.op 19 0 (.op 23 0 (.op 24 0 (.op 25 0 (.op 27 0 (.op 28 0 (.op 29 0 (.op 30 0 (.op 3 1 (.op 5 1 (.op 6 0 (.op 8 1 (.op 9 0 (.op 10 0 (.op 17 1 (.op 20 0 (.op 21 0 (.op 22 0 (.op 26 0 (.op 31 0 (.op 32 0 .nil))))))))))))))))))))))))))))))))) Tryz.mixed (by kernel_rfl) ?_
    iterate 20 (refine dR_S o_ (by rfl) (by rfl) v_ ?_)
    refine dR_X o_ (by rfl) (by rfl) (AOp_use (by rfl) (by rfl) (.inr ⟨by rfl, by rfl, by rfl⟩) g_ va_ (rTurn_c (a := 6) hx.e (by decide) (by decide)) ?_); rintro _ _ ⟨rfl, rfl⟩; refine ⟨sub_, ?_⟩
    refine dR_X o_ (by rfl) (by rfl) (AOp_use (by rfl) (by rfl) (.inr ⟨by rfl, by rfl, by rfl⟩) g_ va_ (rTurn_c (a := 11) hx.e (by decide) (by decide)) ?_); rintro _ _ ⟨rfl, rfl⟩; refine ⟨sub_, ?_⟩
    (refine dR_S o_ (by rfl) (by rfl) v_ ?_)
    refine dR_X o_ (by rfl) (by rfl) (AOp_use (by rfl) (by rfl) (.inr ⟨by rfl, by rfl, by rfl⟩) g_ va_ (rTurn_c (a := 25) hx.e (by decide) (by decide)) ?_); rintro _ _ ⟨rfl, rfl⟩; refine ⟨sub_, ?_⟩
    iterate 2 (refine dR_S o_ (by rfl) (by rfl) v_ ?_)
    refine dR_X o_ (by rfl) (by rfl) (AOp_use (by rfl) (by rfl) (.inr ⟨by rfl, by rfl, by rfl⟩) g_ va_ (rLow_c) ?_); rintro _ _ ⟨rfl, rfl⟩; refine ⟨sub_, ?_⟩
    iterate 6 (refine dR_S o_ (by rfl) (by rfl) v_ ?_)
    refine dR_nil ?_
    refine awp_seq ?_
    have R := And.intro h7 (And.intro hl8 (And.intro v1 (And.intro v2 (And.intro t2 (And.intro m4 f2)))))
    refine awp_draw (.op 0 0 (.op 2 0 (.op 5 0 (.op 8 0 (.op 9 0 (.op 10 0 (.op 11 0 (.op 12 0 (.op 13 0 (.op 14 0 (.op 15 0 (.op 16 0 (.op 17 0 (.op 18 0 (.op 19 0 (.op 20 0 (.op 21 0 (.op 22 0 (.op 1 1 (.op 3 1 (.op 4 0 (.op 6 1 (.op 7 0 (.op 23 0 (.op 24 0 .nil))))))))))))))))))))))))) Tryz.mixed (by kernel_rfl) ?_
    iterate 18 (refine dR_S o_ (by rfl) (by rfl) v_ ?_)
    refine dR_X o_ (by rfl) (by rfl) (AOp_use (by rfl) (by rfl) (.inr ⟨by rfl, by rfl, by rfl⟩) g_ va_ (rTurn_c (a := 2) hx.a (by decide) (by decide)) ?_); rintro _ _ ⟨rfl, rfl⟩; refine ⟨sub_, ?_⟩
    refine dR_X o_ (by rfl) (by rfl) (AOp_use (by rfl) (by rfl) (.inr ⟨by rfl, by rfl, by rfl⟩) g_ va_ (rTurn_c (a := 13) hx.a (by decide) (by decide)) ?_); rintro _ _ ⟨rfl, rfl⟩; refine ⟨sub_, ?_⟩
    (refine dR_S o_ (by rfl) (by rfl) v_ ?_)
    refine dR_X o_ (by rfl) (by rfl) (AOp_use (by rfl) (by rfl) (.inr ⟨by rfl, by rfl, by rfl⟩) g_ va_ (rTurn_c (a := 22) hx.a (by decide) (by decide)) ?_); rintro _ _ ⟨rfl, rfl⟩; refine ⟨sub_, ?_⟩
    iterate 3 (refine dR_S o_ (by rfl) (by rfl) v_ ?_)
    refine dR_nil ?_
    have R := And.intro h7 (And.intro hl8 (And.intro v0 (And.intro v1 (And.intro v2 (And.intro v3 (And.intro v4 (And.intro v5 (And.intro v6 (And.intro f5 f6)))))))))
    refine awp_draw (.op 0 0 (.op 1 0 (.op 2 0 (.op 4 0 (.op 5 0 (.op 6 0 (.op 7 0 (.op 8 0 (.op 9 0 (.op 10 0 (.op 11 0 (.op 12 0 (.op 13 0 (.op 15 0 (.op 16 0 (.op 17 0 (.op 18 0 (.op 19 0 (.op 20 0 (.op 3 1 (.op 14 1 (.op 21 0 (.op 22 2 .nil))))))))))))))))))))))) Tryz.mixed (by kernel_rfl) ?_
    iterate 19 (refine dR_S o_ (by rfl) (by rfl) v_ ?_)
    refine dR_X o_ (by rfl) (by rfl) (AOp_use (by rfl) (by rfl) (.inr ⟨by rfl, by rfl, by rfl⟩) g_ va_ (rLow_c) ?_); rintro _ _ ⟨rfl, rfl⟩; refine ⟨sub_, ?_⟩
    refine dR_X o_ (by rfl) (by rfl) (AOp_use (by rfl) (by rfl) (.inr ⟨by rfl, by rfl, by rfl⟩) g_ va_ (rLow_c) ?_); rintro _ _ ⟨rfl, rfl⟩; refine ⟨sub_, ?_⟩
    (refine dR_S o_ (by rfl) (by rfl) v_ ?_)
    refine dR_store o_ (by rfl) (by rfl) (by rfl) (cs' := (l8 (rnd x k w)).map vN) (cs2 := (l8 (rnd x k w)).map vN) va_ v_ (h7 x) g_ (by rfl) (by rfl) (hone _) (by rfl) (by simp [l8]) (aput_all (by rfl)) ?_
    refine dR_nil ?_
    refine awp_region (by kernel_rfl) ?_
    iterate 3 (refine aL_S rfl rfl v_ ?_)
    refine aL_nil ?_
    refine aNext (ι := Nat) (i := n) (n + 1) ?_ ?_ ?_ ?_
    · omega
    · omega
    · exact cv_
    · rw [Store.set_set, e1]; exact Store.Wk.refl _
  · replace hc5 := nm_ hc5
    refine awp_exit ?_
    refine aThen_exit ?_
    refine aThen_exit ?_
    refine aBlock_hit ?_
    refine awp_seq ?_
    refine awp_seq ?_
    obtain rfl : n = 64 := by omega
    have hx := rnds_ok hv l 64
    have hbs : addS (rnds v l 64) v = blockS v l := by rw [blockS]
    obtain ⟨x, hxe⟩ : ∃ x, rnds v l 64 = x := ⟨_, rfl⟩
    rw [hxe] at hx hbs
    rw [hxe]
    have hA8 : ((l8 (blockS v l)).map vN).length = 8 := rfl
    have hV8 : ((l8 x).map vN).length = 8 := rfl
    have hm7 : ∀ m, (S0.set o7 (.cells (mixA ((l8 (blockS v l)).map vN) ((l8 x).map vN) m))).heap o7 = some (.cells (mixA ((l8 (blockS v l)).map vN) ((l8 x).map vN) m)) := fun m => Store.set_get ..
    have hm2 : ∀ m, (S0.set o7 (.cells (mixA ((l8 (blockS v l)).map vN) ((l8 x).map vN) m))).heap o2 = some (.cells ((l8 v).map vN)) := fun m => by rw [Store.set_ne _ _ n72, h2]
    refine awp_region (by kernel_rfl) ?_
    (refine aL_S rfl rfl v_ ?_)
    refine aL_nil ?_
    refine awp_block ?_
    refine awp_loop_env (ι := Nat) (fun m => 8 - m) (fun m => m ≤ 8) (fun m => [(2, .ref o2 0), (4, .ref o4 0), (7, .ref o7 0), (13, vN m)]) (fun m => (S0.set o7 (.cells (mixA ((l8 (blockS v l)).map vN) ((l8 x).map vN) m)))) 0 ?_ ?_ ?_ ?_
    · exact Nat.zero_le _
    · exact cv_
    · exact Store.Wk.refl _
    rintro m hm
    simp only [envL_cons, envL_nil]
    refine awp_seq ?_
    refine awp_seq ?_
    refine awp_region (by kernel_rfl) ?_
    iterate 2 (refine aL_S rfl rfl v_ ?_)
    refine aL_nil ?_
    refine awp_cond v_ (fun hc12 => ?_) (fun hc12 => ?_)
    · replace hc12 := nm_ hc12
      refine awp_skip ?_
      refine awp_seq ?_
      refine awp_block ?_
      have hm8 : m < 8 := by omega
      have gx := l8N v hm8
      have gm := mixA_get (A := (l8 (blockS v l)).map vN) (by rw [hA8, hV8]) (l8N x hm8)
      have hml : (mixA ((l8 (blockS v l)).map vN) ((l8 x).map vN) m).length = 8 := mixA_length (by rw [hA8, hV8])
      have hset := mixA_set (V := (l8 x).map vN) (by rw [hA8, hV8]) (by rw [← hbs]; exact addN_get x v hm8)
      have hl8 : ((l8 v).map vN).length = 8 := rfl
      have c1 := l8_lt hv hm8; have c2 := l8_lt hx hm8
      have c3 : bAnd .i64 (((l8 x).getD m 0 : Nat) + ((l8 v).getD m 0 : Nat) : Int) 4294967295 = ((((l8 x).getD m 0 + (l8 v).getD m 0) % 4294967296 : Nat) : Int) := by rw [← low_nat (by omega)]; congr 1
      have R := And.intro hm7 (And.intro hm2 (And.intro gm (And.intro gx (And.intro hml (And.intro hl8 c3)))))
      refine awp_draw (.op 0 0 (.op 1 0 (.op 2 0 (.op 3 0 (.op 4 0 (.op 5 0 (.op 6 0 (.op 7 0 (.op 8 1 (.op 9 0 (.op 10 2 .nil))))))))))) Tryz.mixed (by kernel_rfl) ?_
      iterate 8 (refine dR_S o_ (by rfl) (by rfl) v_ ?_)
      refine dR_X o_ (by rfl) (by rfl) (AOp_use (by rfl) (by rfl) (.inr ⟨by rfl, by rfl, by rfl⟩) g_ va_ (rLow_c) ?_); rintro _ _ ⟨rfl, rfl⟩; refine ⟨sub_, ?_⟩
      (refine dR_S o_ (by rfl) (by rfl) v_ ?_)
      refine dR_store o_ (by rfl) (by rfl) (by rfl) v_ v_ h_ g_ rfl g_ c_ (by rfl) le_ (aput_one le_) ?_
      refine dR_nil ?_
      refine awp_region (by kernel_rfl) ?_
      iterate 3 (refine aL_S rfl rfl v_ ?_)
      refine aL_nil ?_
      refine aNext (ι := Nat) (i := m) (m + 1) ?_ ?_ ?_ ?_
      · omega
      · omega
      · exact cv_
      · rw [Store.set_set, hset]; exact Store.Wk.refl _
    · replace hc12 := nm_ hc12
      refine awp_exit ?_
      refine aThen_exit ?_
      refine aThen_exit ?_
      refine aBlock_hit ?_
      refine awp_seq ?_
      obtain rfl : m = 8 := by omega
      rw [show mixA ((l8 (blockS v l)).map vN) ((l8 x).map vN) 8 = (l8 (blockS v l)).map vN from rfl]
      have hA1 := hone (l8 (blockS v l))
      obtain ⟨Af, hAf⟩ : ∃ Af, (l8 (blockS v l)).map vN = Af := ⟨_, rfl⟩
      rw [hAf] at hA1 hA8 ⊢
      have htk : Af.take 8 = Af := List.take_of_length_le (by omega)
      have hle8 : 8 ≤ Af.length := by omega
      have n47 : o4 ≠ o7 := n74
      have h4' : (S0.set o7 (.cells Af)).heap o4 = some (.cells ((l8 ⟨0, 0, 0, 0, 0, 0, 0, 0⟩).map vN)) := by rw [Store.set_ne _ _ n47, h4]
      have R := And.intro htk (And.intro hle8 hA8)
      refine awp_region (by kernel_rfl) ?_
      (refine aL_S rfl rfl v_ ?_)
      refine aL_store (a := .agg Af) (cs' := Af) (cs2 := Af) rfl rfl rfl va_ va_ h4' g_ rfl rfl hA1 hA8 (by decide) (aput_all (by rw [hA8]; rfl)) ?_
      refine aL_nil ?_
      refine awp_ret ?_
      exact aEnd_ret (σ' := σ) va_ (subx_start (subx_new ho4 (subx_new ho7 hsx))) ⟨rfl, rfl⟩

theorem astr_padZ {l : List UInt8} {z : Nat} (h : l.length + z < 9000000000000) : astr .add (B (padZ l z)) (B [0]) = some (.string (B (padZ l (z + 1)))) := by
  rw [astr_addB _ _ (by rw [padZ_length]; simp; omega), padZ_succ]
theorem rPad_c {l : List UInt8} {σ : Store} (hs : l.length ≤ 900000000000) : ACalls Tryz.prog 144 [vStr (B l)] σ fun v σ' => v = vStr (B (padS l)) ∧ σ = σ' := by
  have hsz := B_size l
  have hpz : ∀ z, (B (padZ l z)).size = l.length + 1 + z := fun z => by rw [B_size, padZ_length]
  have htm : ∀ n : Nat, (n : Int).tmod 64 = ((n % 64 : Nat) : Int) := fun n => rfl
  have hpn : padN l.length < 64 := Nat.mod_lt _ (by decide)
  have h80 : astr .add (B l) ⟨#[128]⟩ = some (.string (B (padZ l 0))) := astr_addB l [128] (by simp; omega)
  have h0 : ∀ z, z < 64 → astr .add (B (padZ l z)) ⟨#[0]⟩ = some (.string (B (padZ l (z + 1)))) := fun z hz => astr_padZ (by omega)
  have hfin : astr .add (B (padZ l (padN l.length))) (B (beI 8 (8 * (l.length : Int)))) = some (.string (B (padS l))) := by
    rw [astr_addB _ _ (by rw [padZ_length, beI_length]; omega), padS_padZ]
  refine ACalls_of Tryz.func144 rfl Tryz.ntmps144 (congrArg Array.toList Tryz.results144) (by simp only [List.length_cons, List.length_nil]; decide) ?_; simp only [envOf_cons, envOf_nil, Nat.reduceAdd]
  refine awp_seq ?_
  refine awp_region (by kernel_rfl) ?_
  (refine aL_S rfl rfl v_ ?_)
  refine aL_nil ?_
  refine awp_seq ?_
  have R := hsz
  refine awp_region (by kernel_rfl) ?_
  iterate 3 (refine aL_S rfl rfl v_ ?_)
  refine aL_nil ?_
  refine awp_seq ?_
  have R := h80
  refine awp_region (by kernel_rfl) ?_
  iterate 3 (refine aL_S rfl rfl v_ ?_)
  refine aL_nil ?_
  refine awp_seq ?_
  refine awp_block ?_
  refine awp_loop_env (ι := Nat) (fun z => padN l.length - z) (fun z => z ≤ padN l.length) (fun z => [(0, vStr (B (padZ l z))), (3, vInt l.length)]) (fun z => σ) 0 ?_ ?_ ?_ ?_
  · exact Nat.zero_le _
  · exact cv_
  · exact sub_
  rintro z hz
  simp only [envL_cons, envL_nil]
  refine awp_seq ?_
  refine awp_seq ?_
  have R := And.intro hpz htm
  refine awp_region (by kernel_rfl) ?_
  iterate 4 (refine aL_S rfl rfl v_ ?_)
  refine aL_nil ?_
  refine awp_cond v_ (fun hc3 => ?_) (fun hc3 => ?_)
  · replace hc3 := nm_ hc3
    refine awp_skip ?_
    refine awp_block ?_
    skip
    have hz1 : z + 1 ≤ padN l.length := by
      have := padN_spec l.length
      rcases Nat.lt_or_eq_of_le hz with h | h
      · exact h
      · rw [h] at hc3; omega
    have h0z := h0 z (by omega)
    have R := h0z
    refine awp_region (by kernel_rfl) ?_
    iterate 3 (refine aL_S rfl rfl v_ ?_)
    refine aL_nil ?_
    refine aNext (ι := Nat) (i := z) (z + 1) ?_ ?_ ?_ ?_
    · omega
    · exact hz1
    · exact cv_
    · exact sub_
  · replace hc3 := nm_ hc3
    refine awp_exit ?_
    refine aThen_exit ?_
    refine aThen_exit ?_
    refine aBlock_hit ?_
    refine awp_seq ?_
    skip
    obtain rfl : z = padN l.length := by
      rcases Nat.lt_or_eq_of_le hz with h | h
      · have := padN_least _ _ h; omega
      · exact h
    have R := hfin
    refine awp_region (by kernel_rfl) ?_
    iterate 3 (refine aL_S rfl rfl v_ ?_)
    refine aL_X rfl rfl (AOp_use rfl rfl (.inr ⟨rfl, rfl, rfl⟩) g_ va_ (rInt_c) ?_); rintro _ _ ⟨rfl, rfl⟩
    iterate 2 (refine aL_S rfl rfl v_ ?_)
    refine aL_nil ?_
    refine awp_ret ?_
    refine aEnd_ret (σ' := σ) v_ sub_ ?_
    exact ⟨rfl, rfl⟩
theorem rSum_c {s : ByteArray} {σ : Store} (hs : s.size ≤ 900000000000) : ACalls Tryz.prog 64 [vStr s] σ fun v σ' => v = vStr (B (shaS (Lb s))) ∧ σ = σ' := by
  have hl := Lb_length s
  obtain ⟨l, rfl⟩ : ∃ l, s = B l := ⟨Lb s, (B_Lb s).symm⟩
  rw [Lb_B] at hl ⊢
  rw [B_size] at hs
  refine ACalls_of Tryz.func64 rfl Tryz.ntmps64 (congrArg Array.toList Tryz.results64) (by simp only [List.length_cons, List.length_nil]; decide) ?_; simp only [envOf_cons, envOf_nil, Nat.reduceAdd]
  refine awp_seq ?_
  refine awp_region (by kernel_rfl) ?_
  (refine aL_S rfl rfl v_ ?_)
  refine aL_nil ?_
  refine awp_seq ?_
  refine awp_region (by kernel_rfl) ?_
  (refine aL_S rfl rfl v_ ?_)
  refine aL_alloc rfl rfl rfl g_ gl_ fun o3 ho3 => ?_
  repeat (rw [none_set_iff] at ho3; obtain ⟨_, ho3⟩ := ho3)
  refine aL_store rfl rfl rfl v_ v_ h_ g_ rfl g_ c_ (by rfl) le_ v_ ?_
  refine aL_nil ?_
  refine awp_seq ?_
  refine awp_region (by kernel_rfl) ?_
  (refine aL_S rfl rfl v_ ?_)
  refine aL_X rfl rfl (AOp_use rfl rfl (.inr ⟨rfl, rfl, rfl⟩) g_ va_ (rPad_c hs) ?_); rintro _ _ ⟨rfl, rfl⟩
  (refine aL_S rfl rfl v_ ?_)
  refine aL_nil ?_
  refine awp_seq ?_
  refine awp_block ?_
  refine awp_loop_env (ι := List UInt8 × St8 × Nat) (fun ⟨r, v, m⟩ => m) (fun ⟨r, v, m⟩ => r.length = 64 * m ∧ v.Ok ∧ outS (runS m v r) = shaS l) (fun ⟨r, v, m⟩ => [(3, .ref o3 0), (4, vStr (B r))]) (fun ⟨r, v, m⟩ => (σ.set o3 (.cells ((l8 v).map vN)))) (padS l, initS, (padS l).length / 64) ?_ ?_ ?_ ?_
  · exact ⟨padS_length l, initS_ok, rfl⟩
  · exact cv_
  · exact Store.Wk.refl' (Store.set_set ..).symm
  rintro ⟨r, v, m⟩ ⟨hr, hv, hrun⟩
  simp only [envL_cons, envL_nil]
  refine awp_seq ?_
  refine awp_seq ?_
  have R := @B_size
  refine awp_region (by kernel_rfl) ?_
  iterate 3 (refine aL_S rfl rfl v_ ?_)
  refine aL_nil ?_
  refine awp_cond v_ (fun hc3 => ?_) (fun hc3 => ?_)
  · replace hc3 := nm_ hc3
    refine awp_skip ?_
    refine awp_block ?_
    refine awp_seq ?_
    have hm0 : 1 ≤ m := by omega
    have ht64 : (B r).extract 0 64 = B (r.take 64) := by rw [extract_B, Lb_B]; rfl
    have hdr : (B r).extract 64 r.length = B (r.drop 64) := by rw [extract_B, Lb_B, List.take_of_length_le (Nat.le_refl _)]
    have hv8 : ((l8 v).map vN).take 8 = (l8 v).map vN := rfl
    have hsr := B_size r
    obtain ⟨Af, hAf⟩ : ∃ Af, (l8 (blockS v (r.take 64))).map vN = Af := ⟨_, rfl⟩
    have hA1 : ∀ c ∈ Af, c.one = true := fun c hc => by
      rw [← hAf] at hc
      obtain ⟨x, _, rfl⟩ := List.mem_map.1 hc
      rfl
    have hA8 : Af.length = 8 := by rw [← hAf]; rfl
    have hset : ((σ.set o3 (.cells ((l8 v).map vN))).set o3 (.cells Af)) = σ.set o3 (.cells Af) := Store.set_set ..
    have R := And.intro ht64 (And.intro hv8 hsr)
    refine awp_draw (.op 0 0 (.op 1 0 (.op 2 0 (.op 3 2 (.op 4 2 .nil))))) Tryz.mixed (by kernel_rfl) ?_
    iterate 3 (refine dR_S o_ (by rfl) (by rfl) v_ ?_)
    refine dR_T o_ (by rfl) (by rfl) (AOp_use (by rfl) (by rfl) (.inr ⟨by rfl, by rfl, by rfl⟩) g_ va_ (rBlock_c (l := r.take 64) hv (by rw [List.length_take]; omega)) ?_); rintro _ _ ⟨rfl, rfl⟩
    rw [hAf]
    refine dR_store o_ (by rfl) (by rfl) (by rfl) (a := .agg Af) (cs' := Af) (cs2 := Af) va_ va_ (Store.set_get ..) g_ rfl rfl hA1 hA8 (by simp [l8]) (aput_all (by rw [hA8]; rfl)) ?_
    refine dR_nil ?_
    have R := And.intro hsr hdr
    refine awp_region (by kernel_rfl) ?_
    iterate 3 (refine aL_S rfl rfl v_ ?_)
    refine aL_nil ?_
    refine aNext (ι := List UInt8 × St8 × Nat) (i := ⟨r, v, m⟩) (r.drop 64, blockS v (r.take 64), m - 1) ?_ ?_ ?_ ?_
    · show m - 1 < m; omega
    · exact ⟨by show (r.drop 64).length = 64 * (m - 1); rw [List.length_drop]; omega, addS_ok _ _, by rw [← hrun]; obtain ⟨q, rfl⟩ : ∃ q, m = q + 1 := ⟨m - 1, by omega⟩; rfl⟩
    · exact cv_
    · rw [hset, ← hAf]; exact Store.Wk.refl _
  · replace hc3 := nm_ hc3
    refine awp_exit ?_
    refine aThen_exit ?_
    refine aThen_exit ?_
    refine aBlock_hit ?_
    refine awp_seq ?_
    obtain rfl : m = 0 := by omega
    rw [runS] at hrun
    have h3 : (σ.set o3 (.cells ((l8 v).map vN))).heap o3 = some (.cells ((l8 v).map vN)) := Store.set_get ..
    refine awp_region (by kernel_rfl) ?_
    (refine aL_S rfl rfl v_ ?_)
    refine aL_nil ?_
    refine awp_seq ?_
    refine awp_seq ?_
    refine awp_region (by kernel_rfl) ?_
    (refine aL_S rfl rfl v_ ?_)
    refine aL_nil ?_
    refine awp_block ?_
    refine awp_loop_env (ι := Nat) (fun m => 8 - m) (fun m => m ≤ 8) (fun m => [(3, .ref o3 0), (5, vStr (B (outN v m))), (6, vInt m)]) (fun m => (σ.set o3 (.cells ((l8 v).map vN)))) 0 ?_ ?_ ?_ ?_
    · exact Nat.zero_le _
    · exact cv_
    · exact Store.Wk.refl _
    rintro m hm
    simp only [envL_cons, envL_nil]
    refine awp_seq ?_
    refine awp_seq ?_
    refine awp_region (by kernel_rfl) ?_
    iterate 2 (refine aL_S rfl rfl v_ ?_)
    refine aL_nil ?_
    refine awp_cond v_ (fun hc8 => ?_) (fun hc8 => ?_)
    · replace hc8 := nm_ hc8
      refine awp_skip ?_
      refine awp_seq ?_
      refine awp_block ?_
      have hm8 : m < 8 := by omega
      have gx := l8N v hm8
      have hol := outN_length v hm
      have hlt := l8_lt hv hm8
      have hbl := beI_length 4 (((l8 v).getD m 0 : Nat) : Int)
      have hl8 : ((l8 v).map vN).length = 8 := rfl
      have R := And.intro h3 (And.intro gx hl8)
      refine awp_region (by kernel_rfl) ?_
      iterate 4 (refine aL_S rfl rfl v_ ?_)
      refine aL_X rfl rfl (AOp_use rfl rfl (.inr ⟨rfl, rfl, rfl⟩) g_ va_ (rCount_c) ?_); rintro _ _ ⟨rfl, rfl⟩
      iterate 2 (refine aL_S rfl rfl v_ ?_)
      refine aL_nil ?_
      refine awp_region (by kernel_rfl) ?_
      iterate 3 (refine aL_S rfl rfl v_ ?_)
      refine aL_nil ?_
      refine aNext (ι := Nat) (i := m) (m + 1) ?_ ?_ ?_ ?_
      · omega
      · omega
      · have R := (outN_succ v hm8); exact cv_
      · exact Store.Wk.refl _
    · replace hc8 := nm_ hc8
      refine awp_exit ?_
      refine aThen_exit ?_
      refine aThen_exit ?_
      refine aBlock_hit ?_
      refine awp_seq ?_
      obtain rfl : m = 8 := by omega
      have R := And.intro outN_all hrun
      refine awp_region (by kernel_rfl) ?_
      iterate 2 (refine aL_S rfl rfl v_ ?_)
      refine aL_nil ?_
      refine awp_ret ?_
      refine aEnd_ret (σ' := σ) v_ sub_ ?_
      exact ⟨rfl, rfl⟩
end Go.Proofs.YtgpibooklhakgaaGreat
end
