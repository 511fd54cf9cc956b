/-
  CRC-32: the program's and the document's; The library's Join of texts, with nothing between them; Frames: the program's and the document's; A book behind a record: the program's. Own work (an AI agent).
-/
import Derived.Test.YtbcgkbdacijoiaaGreatGG
import Derived.Test.YtbcgkbdacijoiaaGreatGM
import Derived.Test.YtbcgkbdacijoiaaGreatGD
import Derived.Test.YtbcgkbdacijoiaaGreatGI

section
set_option linter.all false
set_option maxRecDepth 100000
namespace Go.Proofs.YtbcgkbdacijoiaaGreat
open Go.Ab
abbrev vU (n : Nat) : AVal := .lit (.int .u32 (n : Int))
theorem xor_ones {n : Nat} (h : n < 4294967296) : 4294967295 ^^^ n = 4294967295 - n := by
  have h1 : (BitVec.allOnes 32 ^^^ BitVec.ofNat 32 n).toNat = (~~~ BitVec.ofNat 32 n).toNat := by rw [BitVec.allOnes_xor]
  rw [BitVec.toNat_xor, BitVec.toNat_allOnes, BitVec.toNat_ofNat, BitVec.toNat_not, BitVec.toNat_ofNat, Nat.mod_eq_of_lt h] at h1
  exact h1
theorem bXor_ones {n : Nat} (h : n < 4294967296) : bXor .u32 4294967295 (n : Int) = ((4294967295 - n : Nat) : Int) := by
  have := (xor32 (p := 4294967295) (q := n) (by decide) h).1
  rw [xor_ones h] at this
  exact this
theorem bXor_ones' {n : Nat} (h : n < 4294967296) : bXor .i64 (n : Int) 4294967295 = ((4294967295 - n : Nat) : Int) := by
  have := (xor63 (p := n) (q := 4294967295) (by omega) (by decide)).1
  rw [Nat.xor_comm, xor_ones h] at this
  exact this
def crcI : Nat → Nat → Nat
  | 0, c => c
  | k + 1, c => crcT (crcI k c)
theorem crcI_lt {c : Nat} (h : c < 4294967296) : ∀ k, crcI k c < 4294967296
  | 0 => h
  | k + 1 => crcT_lt (crcI_lt h k)
theorem crcI8 (c : Nat) : crcI 8 c = crcB c := rfl
theorem crcT_eq (c : Nat) : crcT c = (c / 2) ^^^ (if c % 2 = 1 then 3988292384 else 0) := by
  unfold crcT
  split
  · rfl
  · rw [Nat.xor_zero]
theorem crcT_xor (a b : Nat) : crcT (a ^^^ b) = crcT a ^^^ crcT b := by
  rw [crcT_eq, crcT_eq, crcT_eq]
  have h1 : (a ^^^ b) / 2 = a / 2 ^^^ b / 2 := Nat.xor_div_two
  have h2 : (a ^^^ b) % 2 = (a + b) % 2 := by
    have h3 : (a ^^^ b) % 2 ^ 1 = (a % 2 ^ 1) ^^^ (b % 2 ^ 1) := Nat.xor_mod_two_pow
    have h4 : (a ^^^ b) % 2 = (a % 2) ^^^ (b % 2) := h3
    rw [h4]
    rcases Nat.mod_two_eq_zero_or_one a with ha | ha <;> rcases Nat.mod_two_eq_zero_or_one b with hb | hb <;> rw [ha, hb] <;> simp <;> omega
  rw [h1, h2]
  rcases Nat.mod_two_eq_zero_or_one a with ha | ha <;> rcases Nat.mod_two_eq_zero_or_one b with hb | hb
  · rw [if_neg (by omega), if_neg (by omega), if_neg (by omega)]; simp
  · rw [if_pos (by omega), if_neg (by omega), if_pos (by omega)]; simp [Nat.xor_assoc]
  · rw [if_pos (by omega), if_pos (by omega), if_neg (by omega)]
    rw [Nat.xor_zero, Nat.xor_assoc, Nat.xor_comm (b / 2), ← Nat.xor_assoc]
  · rw [if_neg (by omega), if_pos (by omega), if_pos (by omega)]
    rw [Nat.xor_zero, Nat.xor_assoc (a / 2), ← Nat.xor_assoc 3988292384, Nat.xor_comm 3988292384 (b / 2), Nat.xor_assoc (b / 2), Nat.xor_self, Nat.xor_zero]
theorem crcI_xor (a b : Nat) : ∀ k, crcI k (a ^^^ b) = crcI k a ^^^ crcI k b
  | 0 => rfl
  | k + 1 => by rw [crcI, crcI_xor a b k, crcT_xor]; rfl
theorem crcI_high : ∀ (k h : Nat), crcI k (h * 2 ^ k) = h
  | 0, h => by simp [crcI]
  | k + 1, h => by
    have h1 := crcI_high k (h * 2)
    rw [Nat.mul_assoc, ← Nat.pow_succ'] at h1
    rw [crcI, h1, crcT_eq, if_neg (by omega), Nat.xor_zero]
    omega
theorem split256 (n : Nat) : n = (n / 256 * 2 ^ 8) ^^^ (n % 256) := by
  have h := Nat.two_pow_add_eq_or_of_lt (i := 8) (b := n % 256) (Nat.mod_lt _ (by decide)) (n / 256)
  apply Nat.eq_of_testBit_eq
  intro i
  rw [Nat.testBit_xor]
  have e1 : (n / 256 * 2 ^ 8).testBit i = (decide (8 ≤ i) && n.testBit i) := by
    rw [Nat.testBit_mul_two_pow]
    by_cases hi : 8 ≤ i
    · rw [show n / 256 = n / 2 ^ 8 from rfl, Nat.testBit_div_two_pow, show i - 8 + 8 = i by omega]
    · simp [hi]
  have e2 : (n % 256).testBit i = (decide (i < 8) && n.testBit i) := Nat.testBit_mod_two_pow n 8 i
  rw [e1, e2]
  by_cases hi : 8 ≤ i
  · simp [hi, show ¬ i < 8 by omega]
  · simp [hi, show i < 8 by omega]
/-- bit by bit, or a byte at once -/
theorem crc_byte {n c : Nat} (hc : c < 256) : crcI 8 (n ^^^ c) = (n / 256) ^^^ crcB ((n % 256) ^^^ c) := by
  conv => lhs; rw [split256 n]
  rw [Nat.xor_assoc, crcI_xor, crcI_high]
  rfl
theorem and_one {c : Nat} : c &&& 1 = c % 2 := Nat.and_one_is_mod c
theorem and_255 {c : Nat} : c &&& 255 = c % 256 := Nat.and_two_pow_sub_one_eq_mod c 8
theorem turn_step {c : Nat} (h : c < 4294967296) : bXor .u32 ((c : Int) / 2 ^ 1) (bAnd .u32 3988292384 ((-(bAnd .u32 (c : Int) 1)) % 4294967296)) = (crcT c : Int) := by
  have h1 : bAnd .u32 (c : Int) 1 = ((c % 2 : Nat) : Int) := by
    have := (and32 (p := c) (q := 1) h (by decide)).1
    rw [and_one] at this; exact this
  have h2 : (c : Int) / 2 ^ 1 = ((c / 2 : Nat) : Int) := by omega
  rw [h1, h2, crcT_eq]
  rcases Nat.mod_two_eq_zero_or_one c with hc | hc
  · rw [hc, if_neg (by omega), show bAnd .u32 3988292384 ((-((0 : Nat) : Int)) % 4294967296) = ((0 : Nat) : Int) from by decide +kernel]
    exact (xor32 (by omega) (by decide)).1
  · rw [hc, if_pos rfl, show bAnd .u32 3988292384 ((-((1 : Nat) : Int)) % 4294967296) = ((3988292384 : Nat) : Int) from by decide +kernel]
    exact (xor32 (by omega) (by decide)).1
theorem turn_c {c : Nat} {σ : Store} (h : c < 4294967296) : ACalls Tryz.prog 333 [vU c] σ fun v σ' => v = vU (crcB c) ∧ σ = σ' := by
  have z : ∀ n : Int, 0 - n = -n := fun n => Int.zero_sub n
  refine ACalls_of Tryz.func333 rfl Tryz.ntmps333 (congrArg Array.toList Tryz.results333) (by simp only [List.length_cons, List.length_nil]; decide) ?_; simp only [envOf_cons, envOf_nil, Nat.reduceAdd]
  refine awp_seq ?_
  refine awp_region (by kernel_rfl) ?_
  (refine aL_S rfl rfl v_ ?_)
  refine aL_nil ?_
  refine awp_seq ?_
  refine awp_seq ?_
  refine awp_region (by kernel_rfl) ?_
  (refine aL_S rfl rfl v_ ?_)
  refine aL_nil ?_
  refine awp_block ?_
  refine awp_loop_env (ι := Nat) (fun k => 8 - k) (fun k => k ≤ 8) (fun k => [(0, vU (crcI k c)), (3, vInt k)]) (fun k => σ) 0 ?_ ?_ ?_ ?_
  · exact Nat.zero_le _
  · exact cv_
  · exact sub_
  rintro k hk
  simp only [envL_cons, envL_nil]
  refine awp_seq ?_
  refine awp_region (by kernel_rfl) ?_
  (refine aL_S rfl rfl v_ ?_)
  refine aL_nil ?_
  refine awp_seq ?_
  refine awp_cond v_ (fun hc2 => ?_) (fun hc2 => ?_)
  · replace hc2 := nm_ hc2
    refine awp_skip ?_
    refine awp_seq ?_
    refine awp_block ?_
    have hst := turn_step (crcI_lt h k)
    have R := And.intro z wrap_u32
    refine awp_region (by kernel_rfl) ?_
    iterate 8 (refine aL_S rfl rfl v_ ?_)
    refine aL_nil ?_
    refine awp_region (by kernel_rfl) ?_
    iterate 2 (refine aL_S rfl rfl v_ ?_)
    refine aL_nil ?_
    refine aNext (ι := Nat) (i := k) (k + 1) ?_ ?_ ?_ ?_
    · omega
    · exact (by omega)
    · have R := hst; exact cv_
    · exact sub_
  · replace hc2 := nm_ hc2
    refine awp_exit ?_
    refine aThen_exit ?_
    refine aThen_exit ?_
    refine aBlock_hit ?_
    refine awp_seq ?_
    refine awp_region (by kernel_rfl) ?_
    iterate 2 (refine aL_S rfl rfl v_ ?_)
    refine aL_nil ?_
    refine awp_ret ?_
    refine aEnd_ret (σ' := σ) v_ sub_ ?_
    obtain rfl : k = 8 := by omega
    exact ⟨by rw [crcI8], rfl⟩
theorem more_step {n c : Nat} (hn : n < 4294967296) (hc : c < 256) : bXor .u32 ((n : Int) / 2 ^ 8) ((crcB ((n % 256) ^^^ c) : Nat) : Int) = (((n / 256) ^^^ crcB ((n % 256) ^^^ c) : Nat) : Int) := by
  have h2 : (n : Int) / 2 ^ 8 = ((n / 256 : Nat) : Int) := by omega
  have hb : (n % 256) ^^^ c < 256 := Nat.xor_lt_two_pow (n := 8) (by omega) hc
  rw [h2]
  exact (xor32 (by omega) (crcB_lt (by omega))).1
theorem more_arg {n c : Nat} (hn : n < 4294967296) (hc : c < 256) : bXor .u32 (bAnd .u32 (n : Int) 255) (c : Int) = (((n % 256) ^^^ c : Nat) : Int) := by
  have h1 : bAnd .u32 (n : Int) 255 = ((n % 256 : Nat) : Int) := by
    have := (and32 (p := n) (q := 255) hn (by decide)).1
    rw [and_255] at this; exact this
  rw [h1]
  exact (xor32 (by omega) (by omega)).1
theorem crcG_snoc (n : Nat) (l : List UInt8) (b : UInt8) : crcG n (l ++ [b]) = (crcG n l / 256) ^^^ crcB ((crcG n l % 256) ^^^ b.toNat) := by rw [crcG_app]; rfl
theorem more_c {m : Nat} {s : List UInt8} {σ : Store} (hm : m < 4294967296) (hs : s.length ≤ 1000000000) : ACalls Tryz.prog 303 [vInt m, vStr (B s)] σ fun v σ' => v = vInt ((4294967295 - crcG (4294967295 - m) s : Nat) : Int) ∧ σ = σ' := by
  have e1 := bXor_ones hm
  have e2 : (m : Int) % 4294967296 = m := by omega
  have hB := B_size s
  have es : (if IntKind.u32.signed = true then (-1 : Int) else IntKind.u32.max) = 4294967295 := rfl
  refine ACalls_of Tryz.func303 rfl Tryz.ntmps303 (congrArg Array.toList Tryz.results303) (by simp only [List.length_cons, List.length_nil]; decide) ?_; simp only [envOf_cons, envOf_nil, Nat.reduceAdd]
  refine awp_seq ?_
  have R := And.intro wrap_u32 (And.intro e2 (And.intro es e1))
  refine awp_region (by kernel_rfl) ?_
  (refine aL_S rfl rfl v_ ?_)
  refine aL_nil ?_
  refine awp_seq ?_
  have R := And.intro wrap_u32 (And.intro e2 (And.intro es e1))
  refine awp_region (by kernel_rfl) ?_
  iterate 4 (refine aL_S rfl rfl v_ ?_)
  refine aL_nil ?_
  refine awp_seq ?_
  refine awp_seq ?_
  have R := And.intro bytesL_length hB
  refine awp_region (by kernel_rfl) ?_
  (refine aL_S rfl rfl v_ ?_)
  refine aL_bytesOf rfl rfl rfl g_ g_ g_ v_ ?_
  iterate 2 (refine aL_S rfl rfl v_ ?_)
  refine aL_nil ?_
  refine awp_block ?_
  refine awp_loop_env (ι := Nat) (fun k => s.length - k) (fun k => k ≤ s.length) (fun k => [(5, vU (crcG (4294967295 - m) (s.take k))), (12, .sl 1 (bytesL (B s)) false), (13, vInt s.length), (14, vInt k)]) (fun k => σ) 0 ?_ ?_ ?_ ?_
  · exact Nat.zero_le _
  · exact cv_
  · exact sub_
  rintro k hk
  simp only [envL_cons, envL_nil]
  refine awp_seq ?_
  have R := And.intro wrap_u32 (And.intro e2 (And.intro es e1))
  refine awp_region (by kernel_rfl) ?_
  (refine aL_S rfl rfl v_ ?_)
  refine aL_nil ?_
  refine awp_seq ?_
  refine awp_cond v_ (fun hc3 => ?_) (fun hc3 => ?_)
  · replace hc3 := nm_ hc3
    refine awp_skip ?_
    refine awp_seq ?_
    refine awp_block ?_
    refine awp_seq ?_
    obtain ⟨c, hc⟩ := get_some (l := s) (k := k) (by omega)
    have hcb := bytes_at hc
    have hlt := crcG_lt (l := s.take k) (c := 4294967295 - m) (by omega)
    have hc8 := c.toNat_lt
    have ea := more_arg hlt hc8
    have eb := more_step hlt hc8
    have e4 : IntKind.u32.wrap (c.toNat : Int) = c.toNat := wrap_u32_nat _ (by omega)
    have hcv : crcG (4294967295 - m) (s.take (k + 1)) = (crcG (4294967295 - m) (s.take k) / 256) ^^^ crcB ((crcG (4294967295 - m) (s.take k) % 256) ^^^ c.toNat) := by rw [take_snoc hc, crcG_snoc]
    have R := hcb
    refine awp_region (by kernel_rfl) ?_
    iterate 3 (refine aL_S rfl rfl v_ ?_)
    refine aL_nil ?_
    have R := And.intro e4 (And.intro ea eb)
    refine awp_region (by kernel_rfl) ?_
    iterate 7 (refine aL_S rfl rfl v_ ?_)
    refine aL_X rfl rfl (AOp_use rfl rfl (.inr ⟨rfl, rfl, rfl⟩) g_ va_ (turn_c (c := (crcG (4294967295 - m) (s.take k) % 256) ^^^ c.toNat) (Nat.lt_of_lt_of_le (Nat.xor_lt_two_pow (n := 8) (by omega) hc8) (by decide))) ?_); rintro _ _ ⟨rfl, rfl⟩
    iterate 2 (refine aL_S rfl rfl v_ ?_)
    refine aL_nil ?_
    have R := And.intro wrap_u32 (And.intro e2 (And.intro es e1))
    refine awp_region (by kernel_rfl) ?_
    iterate 2 (refine aL_S rfl rfl v_ ?_)
    refine aL_nil ?_
    refine aNext (ι := Nat) (i := k) (k + 1) ?_ ?_ ?_ ?_
    · omega
    · exact (by omega)
    · have R := hcv; exact cv_
    · exact sub_
  · replace hc3 := nm_ hc3
    refine awp_exit ?_
    refine aThen_exit ?_
    refine aThen_exit ?_
    refine aBlock_hit ?_
    refine awp_seq ?_
    obtain rfl : k = s.length := by omega
    rw [List.take_length] at *
    have hlt := crcG_lt (l := s) (c := 4294967295 - m) (by omega)
    have e3 := bXor_ones hlt
    have R := And.intro es e3
    refine awp_region (by kernel_rfl) ?_
    iterate 4 (refine aL_S rfl rfl v_ ?_)
    refine aL_nil ?_
    refine awp_ret ?_
    refine aEnd_ret (σ' := σ) v_ sub_ ?_
    exact ⟨rfl, rfl⟩
theorem csum_c {s : List UInt8} {σ : Store} (hs : s.length ≤ 1000000000) : ACalls Tryz.prog 304 [vStr (B s)] σ fun v σ' => v = vInt (crcS s : Int) ∧ σ = σ' := by
  refine ACalls_of Tryz.func304 rfl Tryz.ntmps304 (congrArg Array.toList Tryz.results304) (by simp only [List.length_cons, List.length_nil]; decide) ?_; simp only [envOf_cons, envOf_nil, Nat.reduceAdd]
  refine awp_seq ?_
  refine awp_region (by kernel_rfl) ?_
  (refine aL_S rfl rfl v_ ?_)
  refine aL_nil ?_
  refine awp_seq ?_
  refine awp_region (by kernel_rfl) ?_
  (refine aL_S rfl rfl v_ ?_)
  refine aL_X rfl rfl (AOp_use rfl rfl (.inr ⟨rfl, rfl, rfl⟩) g_ va_ (more_c (m := 0) (by decide) hs) ?_); rintro _ _ ⟨rfl, rfl⟩
  (refine aL_S rfl rfl v_ ?_)
  refine aL_nil ?_
  refine awp_ret ?_
  refine aEnd_ret (σ' := σ) v_ sub_ ?_
  exact ⟨rfl, rfl⟩
/-! ### the document's -/
theorem rStep_c {n : Nat} {σ : Store} (h : n < 4294967296) : ACalls Tryz.prog 258 [vInt n] σ fun v σ' => v = vInt (crcT n : Int) ∧ σ = σ' := by
  have h1 : bAnd .i64 (n : Int) 1 = ((n % 2 : Nat) : Int) := by
    have := (and63 (p := n) (q := 1) (by omega) (by decide)).1
    rw [and_one] at this; exact this
  have h2 : (n : Int) / 2 ^ 1 = ((n / 2 : Nat) : Int) := by omega
  have h3 : bXor .i64 ((n / 2 : Nat) : Int) 3988292384 = (((n / 2) ^^^ 3988292384 : Nat) : Int) := (xor63 (p := n / 2) (q := 3988292384) (by omega) (by decide)).1
  refine ACalls_of Tryz.func258 rfl Tryz.ntmps258 (congrArg Array.toList Tryz.results258) (by simp only [List.length_cons, List.length_nil]; decide) ?_; simp only [envOf_cons, envOf_nil, Nat.reduceAdd]
  refine awp_seq ?_
  have R := And.intro h1 (And.intro h2 h3)
  refine awp_region (by kernel_rfl) ?_
  (refine aL_S rfl rfl v_ ?_)
  refine aL_nil ?_
  refine awp_seq ?_
  refine awp_seq ?_
  have R := And.intro h1 (And.intro h2 h3)
  refine awp_region (by kernel_rfl) ?_
  iterate 3 (refine aL_S rfl rfl v_ ?_)
  refine aL_nil ?_
  refine awp_cond v_ (fun hc1 => ?_) (fun hc1 => ?_)
  · replace hc1 := nm_ hc1
    refine awp_seq ?_
    have R := And.intro h1 (And.intro h2 h3)
    refine awp_region (by kernel_rfl) ?_
    iterate 4 (refine aL_S rfl rfl v_ ?_)
    refine aL_nil ?_
    refine awp_ret ?_
    refine aEnd_ret (σ' := σ) v_ sub_ ?_
    exact ⟨by rw [crcT, if_pos (by omega)], rfl⟩
  · replace hc1 := nm_ hc1
    refine awp_skip ?_
    refine awp_seq ?_
    have R := And.intro h1 (And.intro h2 h3)
    refine awp_region (by kernel_rfl) ?_
    iterate 3 (refine aL_S rfl rfl v_ ?_)
    refine aL_nil ?_
    refine awp_ret ?_
    refine aEnd_ret (σ' := σ) v_ sub_ ?_
    exact ⟨by rw [crcT, if_neg (by omega)], rfl⟩
theorem rMore_c {s : ByteArray} {σ : Store} (hs : s.size ≤ 1000000000) : ACalls Tryz.prog 186 [vInt 0, vStr s] σ fun v σ' => v = vInt (crcS (Lb s) : Int) ∧ σ = σ' := by
  have e0 : bXor .i64 (bAnd .i64 0 4294967295) 4294967295 = 4294967295 := by decide +kernel
  have hB := Lb_length s
  refine ACalls_of Tryz.func186 rfl Tryz.ntmps186 (congrArg Array.toList Tryz.results186) (by simp only [List.length_cons, List.length_nil]; decide) ?_; simp only [envOf_cons, envOf_nil, Nat.reduceAdd]
  refine awp_seq ?_
  refine awp_region (by kernel_rfl) ?_
  (refine aL_S rfl rfl v_ ?_)
  refine aL_nil ?_
  refine awp_seq ?_
  have R := e0
  refine awp_region (by kernel_rfl) ?_
  iterate 4 (refine aL_S rfl rfl v_ ?_)
  refine aL_nil ?_
  refine awp_seq ?_
  refine awp_seq ?_
  refine awp_region (by kernel_rfl) ?_
  (refine aL_S rfl rfl v_ ?_)
  refine aL_nil ?_
  refine awp_block ?_
  refine awp_loop_env (ι := Nat) (fun k => s.size - k) (fun k => k ≤ s.size) (fun k => [(1, vStr s), (5, vInt (crcG 4294967295 ((Lb s).take k) : Int)), (6, vInt k)]) (fun k => σ) 0 ?_ ?_ ?_ ?_
  · exact Nat.zero_le _
  · exact cv_
  · exact sub_
  rintro k hk
  simp only [envL_cons, envL_nil]
  refine awp_seq ?_
  refine awp_seq ?_
  refine awp_region (by kernel_rfl) ?_
  iterate 4 (refine aL_S rfl rfl v_ ?_)
  refine aL_nil ?_
  refine awp_cond v_ (fun hc3 => ?_) (fun hc3 => ?_)
  · replace hc3 := nm_ hc3
    refine awp_skip ?_
    refine awp_seq ?_
    refine awp_block ?_
    refine awp_seq ?_
    have hp' : k < s.size := by omega
    have hg := Lb_get hp'
    have hg2 : s[k]? = some (s[k]'hp') := getElem?_pos s k hp'
    obtain ⟨c, hc⟩ : ∃ c, s[k]'hp' = c := ⟨_, rfl⟩
    rw [hc] at hg hg2
    have hlt := crcG_lt (l := (Lb s).take k) (c := 4294967295) (by decide)
    have hc8 := c.toNat_lt
    have hx : bXor .i64 ((crcG 4294967295 ((Lb s).take k) : Nat) : Int) (c.toNat : Int) = ((crcG 4294967295 ((Lb s).take k) ^^^ c.toNat : Nat) : Int) := (xor63 (by omega) (by omega)).1
    have hxl : crcG 4294967295 ((Lb s).take k) ^^^ c.toNat < 4294967296 := Nat.xor_lt_two_pow (n := 32) hlt (by omega)
    have hcv : crcG 4294967295 ((Lb s).take (k + 1)) = crcI 8 (crcG 4294967295 ((Lb s).take k) ^^^ c.toNat) := by rw [take_snoc hg, crcG_snoc, crc_byte hc8]
    have R := And.intro hg2 hx
    refine awp_region (by kernel_rfl) ?_
    iterate 7 (refine aL_S rfl rfl v_ ?_)
    refine aL_nil ?_
    refine awp_seq ?_
    refine awp_region (by kernel_rfl) ?_
    (refine aL_S rfl rfl v_ ?_)
    refine aL_nil ?_
    refine awp_block ?_
    refine awp_loop_env (ι := Nat) (fun j => 8 - j) (fun j => j ≤ 8) (fun j => [(1, vStr s), (5, vInt (crcI j (crcG 4294967295 ((Lb s).take k) ^^^ c.toNat) : Int)), (6, vInt k), (7, vInt j)]) (fun j => σ) 0 ?_ ?_ ?_ ?_
    · exact Nat.zero_le _
    · exact cv_
    · exact sub_
    rintro j hj
    simp only [envL_cons, envL_nil]
    refine awp_seq ?_
    refine awp_seq ?_
    refine awp_region (by kernel_rfl) ?_
    iterate 2 (refine aL_S rfl rfl v_ ?_)
    refine aL_nil ?_
    refine awp_cond v_ (fun hc7 => ?_) (fun hc7 => ?_)
    · replace hc7 := nm_ hc7
      refine awp_skip ?_
      refine awp_seq ?_
      refine awp_block ?_
      refine awp_region (by kernel_rfl) ?_
      (refine aL_S rfl rfl v_ ?_)
      refine aL_X rfl rfl (AOp_use rfl rfl (.inr ⟨rfl, rfl, rfl⟩) g_ va_ (rStep_c (crcI_lt hxl j)) ?_); rintro _ _ ⟨rfl, rfl⟩
      (refine aL_S rfl rfl v_ ?_)
      refine aL_nil ?_
      refine awp_region (by kernel_rfl) ?_
      iterate 3 (refine aL_S rfl rfl v_ ?_)
      refine aL_nil ?_
      refine aNext (ι := Nat) (i := j) (j + 1) ?_ ?_ ?_ ?_
      · omega
      · exact (by omega)
      · exact cv_
      · exact sub_
    · replace hc7 := nm_ hc7
      refine awp_exit ?_
      refine aThen_exit ?_
      refine aThen_exit ?_
      refine aBlock_hit ?_
      obtain rfl : j = 8 := by omega
      refine awp_region (by kernel_rfl) ?_
      iterate 3 (refine aL_S rfl rfl v_ ?_)
      refine aL_nil ?_
      refine aNext (ι := Nat) (i := k) (k + 1) ?_ ?_ ?_ ?_
      · omega
      · exact (by omega)
      · have R := hcv; exact cv_
      · exact sub_
  · replace hc3 := nm_ hc3
    refine awp_exit ?_
    refine aThen_exit ?_
    refine aThen_exit ?_
    refine aBlock_hit ?_
    refine awp_seq ?_
    obtain rfl : k = s.size := by omega
    have hlt := crcG_lt (l := Lb s) (c := 4294967295) (by decide)
    have e3 := bXor_ones' hlt
    have e4 : (Lb s).take s.size = Lb s := by rw [← hB, List.take_length]
    have R := And.intro e4 e3
    refine awp_region (by kernel_rfl) ?_
    iterate 3 (refine aL_S rfl rfl v_ ?_)
    refine aL_nil ?_
    refine awp_ret ?_
    refine aEnd_ret (σ' := σ) v_ sub_ ?_
    exact ⟨rfl, rfl⟩
theorem rcSum_c {s : List UInt8} {σ : Store} (hs : s.length ≤ 1000000000) : ACalls Tryz.prog 105 [vStr (B s)] σ fun v σ' => v = vInt (crcS s : Int) ∧ σ = σ' := by
  refine ACalls_of Tryz.func105 rfl Tryz.ntmps105 (congrArg Array.toList Tryz.results105) (by simp only [List.length_cons, List.length_nil]; decide) ?_; simp only [envOf_cons, envOf_nil, Nat.reduceAdd]
  refine awp_seq ?_
  refine awp_region (by kernel_rfl) ?_
  (refine aL_S rfl rfl v_ ?_)
  refine aL_nil ?_
  refine awp_seq ?_
  refine awp_region (by kernel_rfl) ?_
  (refine aL_S rfl rfl v_ ?_)
  refine aL_X rfl rfl (AOp_use rfl rfl (.inr ⟨rfl, rfl, rfl⟩) g_ va_ (rMore_c (s := B s) (by rw [B_size]; omega)) ?_); rintro _ _ ⟨rfl, rfl⟩
  (refine aL_S rfl rfl v_ ?_)
  refine aL_nil ?_
  refine awp_ret ?_
  refine aEnd_ret (σ' := σ) v_ sub_ ?_
  exact ⟨by rw [Lb_B], rfl⟩
end Go.Proofs.YtbcgkbdacijoiaaGreat
end

section
set_option linter.all false
set_option maxRecDepth 100000
namespace Go.Proofs.YtbcgkbdacijoiaaGreat
open Go.Ab
theorem bCheck_0 {o : Nat} {b : AVal} {σ : Store} (ho : σ.heap o = some (.cells [.nilp o 194 2, b])) : ACalls Tryz.prog 290 [.ref o 0] σ fun v σ' => v = .tup [] ∧ σ' = σ.set o (.cells [.ref o 0, b]) := by
  refine ACalls_of Tryz.func290 rfl Tryz.ntmps290 (congrArg Array.toList Tryz.results290) (by simp only [List.length_cons, List.length_nil]; decide) ?_; simp only [envOf_cons, envOf_nil, Nat.reduceAdd]
  refine awp_seq ?_
  have R := ho
  refine awp_region (by kernel_rfl) ?_
  iterate 5 (refine aL_S rfl rfl v_ ?_)
  refine aL_nil ?_
  refine awp_cond v_ (fun hc0 => ?_) (fun hc0 => ?_)
  · replace hc0 := nm_ hc0
    have R := ho
    refine awp_region (by kernel_rfl) ?_
    iterate 2 (refine aL_S rfl rfl v_ ?_)
    refine aL_X rfl rfl (AOp_toUnsafe (t := 194) rfl Tryz.underlying191 Tryz.underlying330 (by kernel_rfl) g_ ho (by decide) ?_)
    refine aL_X rfl rfl (AOp_extern rfl (e := Extern.AbiNoEscape.same) (by kernel_rfl) g_ (fun κ ev _ h => same_rv (h _ (by simp))) ?_)
    refine aL_X rfl rfl (AOp_fromUnsafe (u := 194) rfl Tryz.underlying330 Tryz.underlying191 (by kernel_rfl) g_ ho (by kernel_rfl) ?_)
    iterate 2 (refine aL_S rfl rfl v_ ?_)
    refine aL_store rfl rfl rfl v_ v_ h_ g_ rfl g_ c_ (by rfl) le_ v_ ?_
    refine aL_nil ?_
    refine aEnd_nor v_ (Store.Wk.refl _) ?_
    exact ⟨rfl, rfl⟩
  · replace hc0 := nm_ hc0
    cases hc0
theorem bgrow_c {o n : Nat} {σ : Store} (ho : σ.heap o = some (.cells [.ref o 0, .lit (.slice none 0 0)])) (hn : n ≤ 1000000000000) : ACalls Tryz.prog 334 [.ref o 0, vInt n] σ fun v σ' => ∃ k, v = .tup [] ∧ σ.tok k = none ∧ σ' = (σ.newTok none k (5, 1)).set o (.cells [.ref o 0, .own k 1 []]) := by
  have hz1 : (2 : Int) * 0 = 0 := rfl
  have hz2 : ∀ m : Int, 0 + m = m := Int.zero_add
  refine ACalls_of Tryz.func334 rfl Tryz.ntmps334 (congrArg Array.toList Tryz.results334) (by simp only [List.length_cons, List.length_nil]; decide) ?_; simp only [envOf_cons, envOf_nil, Nat.reduceAdd]
  refine awp_seq ?_
  have R := And.intro ho (And.intro hz1 hz2)
  refine awp_draw (.op 0 0 (.op 1 0 (.op 2 0 (.op 3 0 (.op 6 0 (.op 9 0 (.op 10 0 (.op 11 0 (.op 12 0 (.op 13 0 (.op 4 1 (.op 5 0 (.op 7 0 (.op 8 1 (.op 14 2 (.op 15 2 .nil)))))))))))))))) Tryz.mixed (by kernel_rfl) ?_
  iterate 10 (refine dR_S o_ (by rfl) (by rfl) v_ ?_)
  refine dR_X o_ (by rfl) (by rfl) (AOp_capNil (by rfl) g_ va_ ⟨sub_, ?_⟩)
  iterate 2 (refine dR_S o_ (by rfl) (by rfl) v_ ?_)
  refine dR_X o_ (by rfl) (by rfl) (AOp_makeNoZero (n := n) (ps := #[3]) (t := 192) (e := 5) (by rfl) (by kernel_rfl) Tryz.underlying192 g_ va_ (by omega) fun o13 c13 ho13 hc13 hm13 => ⟨sub_, ?_⟩)
  refine dR_T o_ (by rfl) (by rfl) (AOp_sliceC (l := 0) (h := 0) (by rfl) g_ g_ va_ (by rfl) (by rfl) (Nat.le_refl _) (Nat.zero_le _) (.inl rfl) ?_)
  refine dR_T o_ (by rfl) (by rfl) (AOp_val v_ ?_)
  refine dR_nil ?_
  have n13 := ne_of_heap ho ho13
  refine awp_seq ?_
  have R := And.intro ho (And.intro hz1 hz2)
  refine awp_region (by kernel_rfl) ?_
  iterate 5 (refine aL_S rfl rfl v_ ?_)
  refine aL_X rfl rfl (AOp_copy0 (by rfl) g_ g_ (.inr va_) va_ ?_)
  refine aL_nil ?_
  have R := And.intro ho (And.intro hz1 hz2)
  refine awp_region (by kernel_rfl) ?_
  (refine aL_S rfl rfl v_ ?_)
  refine aL_X rfl rfl (AOp_ownC (.inr rfl) va_ h_ hm13 fun k27 hk27 => ?_)
  iterate 2 (refine aL_S rfl rfl v_ ?_)
  refine aL_store rfl rfl rfl v_ v_ h_ g_ rfl g_ c_ (by rfl) le_ v_ ?_
  refine aL_nil ?_
  refine aEnd_nor v_ (Store.Wk.refl _) ?_
  exact ⟨k27, rfl, hk27, by rw [Store.set_del ho13]⟩
/-- a Builder that holds bytes -/
theorem bGrow_c {o n : Nat} {σ : Store} (ho : σ.heap o = some (.cells [.nilp o 194 2, .lit (.slice none 0 0)])) (hn : n ≤ 1000000000000) : ACalls Tryz.prog 305 [.ref o 0, vInt n] σ fun v σ' => v = .tup [] ∧ WR σ' o [] ∧ WF o σ σ' := by
  have hw0 : WF o σ (σ.set o (.cells [.ref o 0, .lit (.slice none 0 0)])) := ⟨fun i x hi hx => by rw [Store.set_ne _ _ hi]; exact hx, fun t m ht hn => ⟨ht, fun ⟨a', sz2, l2, hh⟩ => by rw [Store.set_get] at hh; simp at hh⟩⟩
  refine ACalls_of Tryz.func305 rfl Tryz.ntmps305 (congrArg Array.toList Tryz.results305) (by simp only [List.length_cons, List.length_nil]; decide) ?_; simp only [envOf_cons, envOf_nil, Nat.reduceAdd]
  refine awp_seq ?_
  refine awp_region (by kernel_rfl) ?_
  (refine aL_S rfl rfl v_ ?_)
  refine aL_X rfl rfl (AOp_use rfl rfl (.inr ⟨rfl, rfl, rfl⟩) g_ va_ (bCheck_0 ho) ?_); rintro _ _ ⟨rfl, rfl⟩
  refine aL_nil ?_
  refine awp_seq ?_
  refine awp_seq ?_
  refine awp_region (by kernel_rfl) ?_
  iterate 2 (refine aL_S rfl rfl v_ ?_)
  refine aL_nil ?_
  refine awp_cond v_ (fun hc1 => ?_) (fun hc1 => ?_)
  · replace hc1 := nm_ hc1
    omega
  · replace hc1 := nm_ hc1
    refine awp_skip ?_
    refine awp_seq ?_
    refine awp_draw (.op 0 0 (.op 1 0 (.op 2 0 (.op 3 0 (.op 5 0 (.op 6 0 (.op 7 0 (.op 8 0 (.op 9 0 (.op 11 0 (.op 4 1 (.op 10 0 (.op 12 0 .nil))))))))))))) Tryz.mixed (by kernel_rfl) ?_
    iterate 10 (refine dR_S o_ (by rfl) (by rfl) v_ ?_)
    refine dR_X o_ (by rfl) (by rfl) (AOp_capNil (by rfl) g_ va_ ⟨sub_, ?_⟩)
    iterate 2 (refine dR_S o_ (by rfl) (by rfl) v_ ?_)
    refine dR_nil ?_
    refine awp_cond v_ (fun hc3 => ?_) (fun hc3 => ?_)
    · replace hc3 := nm_ hc3
      refine awp_region (by kernel_rfl) ?_
      iterate 2 (refine aL_S rfl rfl v_ ?_)
      refine aL_X rfl rfl (AOp_use rfl rfl (.inr ⟨rfl, rfl, rfl⟩) g_ va_ (bgrow_c (Store.set_get ..) hn) ?_); rintro _ _ ⟨k, rfl, hk, rfl⟩
      refine aL_nil ?_
      refine aEnd_nor v_ (Store.Wk.refl _) ?_
      refine ⟨rfl, ⟨_, _, some k, Store.set_get .., .inl rfl, .inl ⟨k, rfl, by rw [Store.set_tok]; exact Store.newTok_get .., rfl⟩⟩, hw0.trans (WF.put (e := 5) (sz := 1) (Store.set_get ..) (.inr ⟨rfl, rfl, rfl⟩) hk)⟩
    · replace hc3 := nm_ hc3
      refine awp_skip ?_
      refine aEnd_nor v_ (Store.Wk.refl _) ?_
      exact ⟨rfl, ⟨_, _, none, Store.set_get .., .inl rfl, .inr ⟨rfl, rfl, rfl⟩⟩, hw0⟩
theorem bWrite_c {o : Nat} {s : ByteArray} {l : List UInt8} {σ : Store} (ho : WR σ o l) (hl : l.length ≤ 1099511627776) (hs : s.size ≤ 1099511627776) :
    ACalls Tryz.prog 235 [.ref o 0, vStr s] σ fun v σ' => v = .tup [vInt s.size, .lit .nilIface] ∧ WR σ' o (l ++ Lb s) ∧ WF o σ σ' := by
  obtain ⟨a, b, old, h1, h2, h3⟩ := ho
  refine (writeString_c h1 h2 h3 hl hs).mono fun v σ' ⟨k, hv, hk, hs'⟩ => ⟨hv, ?_, ?_⟩
  · rw [hs']
    exact ⟨_, _, some k, Store.set_get .., .inl rfl, .inl ⟨k, rfl, by rw [Store.set_tok]; exact Store.newTok_get .., rfl⟩⟩
  · rw [hs']
    exact WF.put h1 h3 hk
theorem bString_1 {o k : Nat} {s : ByteArray} {σ : Store} {a : AVal} (ho : σ.heap o = some (.cells [a, .own k 1 (bytesL s)])) (hk : σ.tok k = some (5, 1)) (hs : s.size ≤ 1099511627776) : ACalls Tryz.prog 164 [.ref o 0] σ fun v σ' => v = vStr s ∧ WF o σ σ' := by
  refine (string_1 ho hk hs).mono fun v σ' ⟨hv, hs'⟩ => ⟨hv, ?_⟩
  rw [hs']
  refine ⟨fun i x hi hx => hx, fun t n ht hn => ?_⟩
  have hne : t ≠ k := fun hh => hn ⟨_, _, _, by rw [ho, hh]⟩
  exact ⟨by simp only [Store.delTok]; rw [if_neg hne]; exact ht, fun ⟨a', sz2, l2, hh⟩ => hn ⟨a', sz2, l2, hh⟩⟩
theorem bString_c {o : Nat} {l : List UInt8} {σ : Store} (ho : WR σ o l) (hl : l.length ≤ 1000000000000) : ACalls Tryz.prog 164 [.ref o 0] σ fun v σ' => v = vStr (B l) ∧ WF o σ σ' := by
  obtain ⟨a, b, old, hw, ha, hb⟩ := ho
  rcases hb with ⟨k, rfl, hk, _⟩ | ⟨rfl, hl0, _⟩
  · exact bString_1 hw hk (by rw [B_size]; omega)
  · have : l = [] := by
      have := congrArg List.length hl0
      rw [bytesL_length, B_size] at this
      exact List.eq_nil_of_length_eq_zero this
    subst this
    exact (string_2 hw).mono fun v σ' ⟨hv, hs'⟩ => ⟨hv, by rw [← hs']; exact WF.refl⟩
theorem fmL_snoc {L : List ByteArray} {k : Nat} {x : ByteArray} (h : L[k]? = some x) : (L.take (k + 1)).flatMap Lb = (L.take k).flatMap Lb ++ Lb x := flatMap_take h
set_option maxHeartbeats 2000000 in
theorem sJoin_c {L : List ByteArray} {t : Bool} {σ : Store} (hL : L.length ≤ 1000000000) (hT : (L.flatMap Lb).length ≤ 1000000000) : ACalls Tryz.prog 257 [.sl 1 (L.map vStr) t, vStr ⟨#[]⟩] σ fun v σ' => v = vStr (B (L.flatMap Lb)) ∧ σ = σ' := by
  have hz : (ByteArray.mk #[]).size = 0 := rfl
  refine ACalls_of Tryz.func257 rfl Tryz.ntmps257 (congrArg Array.toList Tryz.results257) (by simp only [List.length_cons, List.length_nil]; decide) ?_; simp only [envOf_cons, envOf_nil, Nat.reduceAdd]
  refine awp_seq ?_
  refine awp_region (by kernel_rfl) ?_
  (refine aL_S rfl rfl v_ ?_)
  refine aL_nil ?_
  refine awp_seq ?_
  refine awp_seq ?_
  refine awp_region (by kernel_rfl) ?_
  iterate 2 (refine aL_S rfl rfl v_ ?_)
  refine aL_nil ?_
  refine awp_block ?_
  refine awp_seq ?_
  refine awp_region (by kernel_rfl) ?_
  iterate 2 (refine aL_S rfl rfl v_ ?_)
  refine aL_nil ?_
  refine awp_cond v_ (fun hc2 => ?_) (fun hc2 => ?_)
  · replace hc2 := nm_ hc2
    refine awp_seq ?_
    refine awp_region (by kernel_rfl) ?_
    (refine aL_S rfl rfl v_ ?_)
    refine aL_nil ?_
    refine awp_ret ?_
    refine aEnd_ret (σ' := σ) v_ sub_ ?_
    obtain rfl : L = [] := List.eq_nil_of_length_eq_zero (by omega)
    exact ⟨rfl, rfl⟩
  · replace hc2 := nm_ hc2
    refine awp_seq ?_
    refine awp_region (by kernel_rfl) ?_
    iterate 2 (refine aL_S rfl rfl v_ ?_)
    refine aL_nil ?_
    refine awp_cond v_ (fun hc4 => ?_) (fun hc4 => ?_)
    · replace hc4 := nm_ hc4
      refine awp_seq ?_
      obtain ⟨x, rfl⟩ : ∃ x, L = [x] := List.length_eq_one_iff.1 (by omega)
      refine awp_region (by kernel_rfl) ?_
      iterate 4 (refine aL_S rfl rfl v_ ?_)
      refine aL_nil ?_
      refine awp_ret ?_
      refine aEnd_ret (σ' := σ) v_ sub_ ?_
      exact ⟨by rw [List.flatMap_cons, List.flatMap_nil, List.append_nil, B_Lb], rfl⟩
    · replace hc4 := nm_ hc4
      refine awp_skip ?_
      refine awp_seq ?_
      refine awp_region (by kernel_rfl) ?_
      (refine aL_S rfl rfl v_ ?_)
      refine aL_nil ?_
      refine awp_seq ?_
      refine awp_seq ?_
      have R := hz
      refine awp_region (by kernel_rfl) ?_
      iterate 3 (refine aL_S rfl rfl v_ ?_)
      refine aL_nil ?_
      refine awp_cond v_ (fun hc7 => ?_) (fun hc7 => ?_)
      · replace hc7 := nm_ hc7
        simp at hc7
      · replace hc7 := nm_ hc7
        refine awp_skip ?_
        refine awp_seq ?_
        refine awp_seq ?_
        refine awp_region (by kernel_rfl) ?_
        iterate 3 (refine aL_S rfl rfl v_ ?_)
        refine aL_nil ?_
        refine awp_block ?_
        refine awp_loop_env (ι := Nat) (fun k => L.length - k) (fun k => k ≤ L.length) (fun k => [(0, .sl 1 (L.map vStr) t), (1, vStr ⟨#[]⟩), (5, vInt ((L.take k).flatMap Lb).length), (39, .sl 1 (L.map vStr) t), (40, vInt L.length), (41, vInt k)]) (fun k => σ) 0 ?_ ?_ ?_ ?_
        · exact Nat.zero_le _
        · exact cv_
        · exact sub_
        rintro k hk
        simp only [envL_cons, envL_nil]
        refine awp_seq ?_
        refine awp_region (by kernel_rfl) ?_
        (refine aL_S rfl rfl v_ ?_)
        refine aL_nil ?_
        refine awp_seq ?_
        refine awp_cond v_ (fun hc12 => ?_) (fun hc12 => ?_)
        · replace hc12 := nm_ hc12
          refine awp_skip ?_
          refine awp_seq ?_
          refine awp_block ?_
          refine awp_seq ?_
          obtain ⟨x, hx⟩ := get_some (l := L) (k := k) (by omega)
          have hle := flatMap_take_le (f := Lb) L k
          have hle1 := flatMap_take_le (f := Lb) L (k + 1)
          have hcv : ((((L.take (k + 1)).flatMap Lb).length : Nat) : Int) = ((L.take k).flatMap Lb).length + x.size := by rw [fmL_snoc hx, List.length_append, Lb_length]; omega
          have hxs : x.size ≤ 1000000000 := by rw [fmL_snoc hx, List.length_append, Lb_length] at hle1; omega
          have R := hx
          refine awp_region (by kernel_rfl) ?_
          iterate 3 (refine aL_S rfl rfl v_ ?_)
          refine aL_nil ?_
          refine awp_seq ?_
          refine awp_seq ?_
          refine awp_region (by kernel_rfl) ?_
          iterate 5 (refine aL_S rfl rfl v_ ?_)
          refine aL_nil ?_
          refine awp_cond v_ (fun hc14 => ?_) (fun hc14 => ?_)
          · replace hc14 := nm_ hc14
            omega
          · replace hc14 := nm_ hc14
            refine awp_skip ?_
            refine awp_region (by kernel_rfl) ?_
            iterate 5 (refine aL_S rfl rfl v_ ?_)
            refine aL_nil ?_
            refine awp_region (by kernel_rfl) ?_
            iterate 2 (refine aL_S rfl rfl v_ ?_)
            refine aL_nil ?_
            refine aNext (ι := Nat) (i := k) (k + 1) ?_ ?_ ?_ ?_
            · omega
            · exact (by omega)
            · have R := hcv; exact cv_
            · exact sub_
        · replace hc12 := nm_ hc12
          refine awp_exit ?_
          refine aThen_exit ?_
          refine aThen_exit ?_
          refine aBlock_hit ?_
          refine awp_seq ?_
          obtain rfl : k = L.length := by omega
          rw [List.take_length] at *
          obtain ⟨x0, L', rfl⟩ : ∃ x0 L', L = x0 :: L' := by
            cases L with
            | nil => simp at hc2
            | cons a l => exact ⟨a, l, rfl⟩
          have hL2 : L'.length ≤ 1000000000 := by rw [List.length_cons] at hL; omega
          have htk : (L'.map vStr).take L'.length = L'.map vStr := List.take_of_length_le (by rw [List.length_map]; omega)
          have hx0 : (Lb x0).length ≤ 1000000000 := by rw [List.flatMap_cons, List.length_append] at hT; omega
          have hx0' : x0.size ≤ 1000000000 := by rw [← Lb_length]; exact hx0
          have hT' : (L'.flatMap Lb).length + x0.size ≤ 1000000000 := by rw [List.flatMap_cons, List.length_append, Lb_length] at hT; omega
          refine awp_region (by kernel_rfl) ?_
          refine aL_X rfl rfl (AOp_allocP (t := 194) (z := .agg #[.pointer none, .slice none 0 0]) (r := [.slice none 0 0]) rfl (by kernel_rfl) (by rfl) fun o8 ho8 => ?_)
          refine aL_nil ?_
          refine awp_seq ?_
          refine awp_region (by kernel_rfl) ?_
          (refine aL_S rfl rfl v_ ?_)
          refine aL_X rfl rfl (AOp_use rfl rfl (.inr ⟨rfl, rfl, rfl⟩) g_ va_ (bGrow_c (Store.set_get ..) (by omega)) ?_); rintro _ τ1 ⟨rfl, a1, a2⟩
          refine aL_nil ?_
          refine awp_seq ?_
          refine awp_region (by kernel_rfl) ?_
          iterate 3 (refine aL_S rfl rfl v_ ?_)
          refine aL_X rfl rfl (AOp_use rfl rfl (.inr ⟨rfl, rfl, rfl⟩) g_ va_ (bWrite_c a1 (by simp) (by omega)) ?_); rintro _ τ2 ⟨rfl, b1, b2⟩
          refine aL_nil ?_
          refine awp_seq ?_
          refine awp_seq ?_
          have R := htk
          refine awp_region (by kernel_rfl) ?_
          iterate 4 (refine aL_S rfl rfl v_ ?_)
          refine aL_nil ?_
          refine awp_block ?_
          refine awp_loop_env (ι := Store × Nat) (fun ⟨τ, k⟩ => L'.length - k) (fun ⟨τ, k⟩ => k ≤ L'.length ∧ WR τ o8 (Lb x0 ++ (L'.take k).flatMap Lb) ∧ WF o8 (σ.set o8 (.cells [.nilp o8 194 2, .lit (.slice none 0 0)])) τ) (fun ⟨τ, k⟩ => [(1, vStr ⟨#[]⟩), (8, .ref o8 0), (63, .sl 1 (L'.map vStr) false), (64, vInt L'.length), (65, vInt k)]) (fun ⟨τ, k⟩ => τ) (τ2, 0) ?_ ?_ ?_ ?_
          · exact ⟨Nat.zero_le _, by simpa using b1, a2.trans b2⟩
          · exact cv_
          · exact Store.Wk.refl _
          rintro ⟨τ, k⟩ ⟨hk, h1, h2⟩
          simp only [envL_cons, envL_nil]
          refine awp_seq ?_
          refine awp_region (by kernel_rfl) ?_
          (refine aL_S rfl rfl v_ ?_)
          refine aL_nil ?_
          refine awp_seq ?_
          refine awp_cond v_ (fun hc22 => ?_) (fun hc22 => ?_)
          · replace hc22 := nm_ hc22
            refine awp_skip ?_
            refine awp_seq ?_
            refine awp_block ?_
            refine awp_seq ?_
            obtain ⟨x, hx⟩ := get_some (l := L') (k := k) (by omega)
            have hle := flatMap_take_le (f := Lb) L' k
            have hle1 := flatMap_take_le (f := Lb) L' (k + 1)
            have hxs : x.size ≤ 1000000000 := by rw [fmL_snoc hx, List.length_append, Lb_length] at hle1; omega
            have hlx := Lb_length x0
            have R := hx
            refine awp_region (by kernel_rfl) ?_
            iterate 3 (refine aL_S rfl rfl v_ ?_)
            refine aL_nil ?_
            refine awp_seq ?_
            refine awp_region (by kernel_rfl) ?_
            (refine aL_S rfl rfl v_ ?_)
            refine aL_X rfl rfl (AOp_use rfl rfl (.inr ⟨rfl, rfl, rfl⟩) g_ va_ (bWrite_c h1 (by rw [List.length_append]; omega) (by decide)) ?_); rintro _ τ3 ⟨rfl, c1, c2⟩
            refine aL_nil ?_
            refine awp_region (by kernel_rfl) ?_
            (refine aL_S rfl rfl v_ ?_)
            refine aL_X rfl rfl (AOp_use rfl rfl (.inr ⟨rfl, rfl, rfl⟩) g_ va_ (bWrite_c c1 (by rw [List.length_append, List.length_append, show (Lb ⟨#[]⟩).length = 0 from rfl]; omega) (by omega)) ?_); rintro _ τ4 ⟨rfl, d1, d2⟩
            refine aL_nil ?_
            refine awp_region (by kernel_rfl) ?_
            iterate 2 (refine aL_S rfl rfl v_ ?_)
            refine aL_nil ?_
            refine aNext (ι := Store × Nat) (i := ⟨τ, k⟩) (τ4, k + 1) ?_ ?_ ?_ ?_
            · show L'.length - (k + 1) < L'.length - k; omega
            · exact ⟨by show k + 1 ≤ L'.length; omega, by rw [fmL_snoc hx]; simpa [List.append_assoc, Lb] using d1, h2.trans (c2.trans d2)⟩
            · exact cv_
            · exact Store.Wk.refl _
          · replace hc22 := nm_ hc22
            refine awp_exit ?_
            refine aThen_exit ?_
            refine aThen_exit ?_
            refine aBlock_hit ?_
            refine awp_seq ?_
            obtain rfl : k = L'.length := by omega
            rw [List.take_length] at h1
            have hlx := Lb_length x0
            refine awp_region (by kernel_rfl) ?_
            refine aL_X rfl rfl (AOp_use rfl rfl (.inr ⟨rfl, rfl, rfl⟩) g_ va_ (bString_c h1 (by rw [List.length_append]; omega)) ?_); rintro _ τ5 ⟨rfl, e2⟩
            (refine aL_S rfl rfl v_ ?_)
            refine aL_nil ?_
            refine awp_ret ?_
            have hW := WF.sub (x := .cells [.nilp o8 194 2, .lit (.slice none 0 0)]) ho8 (h2.trans e2) (fun a t sz l hh => by simp at hh)
            exact aEnd_ret (σ' := σ) va_ (Store.Sub.wk hW) ⟨by rw [List.flatMap_cons], rfl⟩
end Go.Proofs.YtbcgkbdacijoiaaGreat
end

section
set_option linter.all false
set_option maxRecDepth 100000
namespace Go.Proofs.YtbcgkbdacijoiaaGreat
open Go.Ab
abbrev vBs (l : List (List UInt8)) : List AVal := l.map fun b => vStr (B b)
theorem fCount_c {n : Int} {σ : Store} : ACalls Tryz.prog 256 [vInt n] σ fun v σ' => v = vStr (B (beI 4 n)) ∧ σ = σ' := by
  refine ACalls_of Tryz.func256 rfl Tryz.ntmps256 (congrArg Array.toList Tryz.results256) (by simp only [List.length_cons, List.length_nil]; decide) ?_; simp only [envOf_cons, envOf_nil, Nat.reduceAdd]
  refine awp_seq ?_
  refine awp_region (by kernel_rfl) ?_
  (refine aL_S rfl rfl v_ ?_)
  refine aL_nil ?_
  refine awp_seq ?_
  refine awp_region (by kernel_rfl) ?_
  (refine aL_S rfl rfl v_ ?_)
  refine aL_X rfl rfl (AOp_boxP rfl va_ fun o5 ho5 => ?_)
  (refine aL_S rfl rfl v_ ?_)
  refine aL_nil ?_
  have hw : WR (σ.set o5 (.cells [.nilp o5 196 2, .lit (.slice none 0 0)])) o5 [] := ⟨_, _, none, Store.set_get .., .inr rfl, .inr ⟨rfl, rfl, rfl⟩⟩
  refine awp_seq ?_
  refine awp_region (by kernel_rfl) ?_
  iterate 2 (refine aL_S rfl rfl v_ ?_)
  refine aL_X rfl rfl (AOp_use rfl rfl (.inr ⟨rfl, rfl, rfl⟩) g_ va_ (wrCount_c hw (by simp)) ?_); rintro _ τ1 ⟨rfl, a1, a2⟩
  refine aL_nil ?_
  refine awp_seq ?_
  refine awp_region (by kernel_rfl) ?_
  (refine aL_S rfl rfl v_ ?_)
  refine aL_X rfl rfl (AOp_use rfl rfl (.inr ⟨rfl, rfl, rfl⟩) g_ va_ (wrBytes_c a1 (by simp [beI_length])) ?_); rintro _ τ2 ⟨rfl, c2⟩
  (refine aL_S rfl rfl v_ ?_)
  refine aL_nil ?_
  refine awp_ret ?_
  have h1 := WF.sub (x := .cells [.nilp o5 196 2, .lit (.slice none 0 0)]) ho5 (a2.trans c2) (fun a t sz l hh => by simp at hh)
  exact aEnd_ret (σ' := σ) va_ (Store.Sub.wk h1) ⟨rfl, rfl⟩
theorem sum_eq (body : List UInt8) : 4294967295 - crcG (4294967295 - crcS (beI 4 (body.length : Int))) body = sumF body := by
  have h := crcG_lt (l := beI 4 (body.length : Int)) (c := 4294967295) (by decide)
  unfold sumF crcS
  rw [show 4294967295 - (4294967295 - crcG 4294967295 (beI 4 (body.length : Int))) = crcG 4294967295 (beI 4 (body.length : Int)) from by omega, ← crcG_app]
theorem fSum_c {body : List UInt8} {σ : Store} (hs : body.length ≤ 1000000000) : ACalls Tryz.prog 255 [vStr (B body)] σ fun v σ' => v = vInt (sumF body : Int) ∧ σ = σ' := by
  have hB := B_size body
  have hc := crcS_lt (beI 4 (body.length : Int))
  refine ACalls_of Tryz.func255 rfl Tryz.ntmps255 (congrArg Array.toList Tryz.results255) (by simp only [List.length_cons, List.length_nil]; decide) ?_; simp only [envOf_cons, envOf_nil, Nat.reduceAdd]
  refine awp_seq ?_
  have R := hB
  refine awp_region (by kernel_rfl) ?_
  (refine aL_S rfl rfl v_ ?_)
  refine aL_nil ?_
  refine awp_seq ?_
  have R := hB
  refine awp_region (by kernel_rfl) ?_
  iterate 2 (refine aL_S rfl rfl v_ ?_)
  refine aL_X rfl rfl (AOp_use rfl rfl (.inr ⟨rfl, rfl, rfl⟩) g_ va_ (fCount_c (n := body.length)) ?_); rintro _ _ ⟨rfl, rfl⟩
  refine aL_X rfl rfl (AOp_use rfl rfl (.inr ⟨rfl, rfl, rfl⟩) g_ va_ (csum_c (s := beI 4 (body.length : Int)) (by simp [beI_length])) ?_); rintro _ _ ⟨rfl, rfl⟩
  (refine aL_S rfl rfl v_ ?_)
  refine aL_X rfl rfl (AOp_use rfl rfl (.inr ⟨rfl, rfl, rfl⟩) g_ va_ (more_c hc hs) ?_); rintro _ _ ⟨rfl, rfl⟩
  (refine aL_S rfl rfl v_ ?_)
  refine aL_nil ?_
  refine awp_ret ?_
  refine aEnd_ret (σ' := σ) v_ sub_ ?_
  exact ⟨by rw [sum_eq], rfl⟩
theorem fjoin_c {L : List ByteArray} {t : Bool} {σ : Store} (hL : L.length ≤ 1000000000) (hT : (L.flatMap Lb).length ≤ 1000000000) : ACalls Tryz.prog 185 [.sl 1 (L.map vStr) t] σ fun v σ' => v = vStr (B (L.flatMap Lb)) ∧ σ = σ' := by
  refine ACalls_of Tryz.func185 rfl Tryz.ntmps185 (congrArg Array.toList Tryz.results185) (by simp only [List.length_cons, List.length_nil]; decide) ?_; simp only [envOf_cons, envOf_nil, Nat.reduceAdd]
  refine awp_seq ?_
  refine awp_region (by kernel_rfl) ?_
  (refine aL_S rfl rfl v_ ?_)
  refine aL_nil ?_
  refine awp_seq ?_
  refine awp_region (by kernel_rfl) ?_
  (refine aL_S rfl rfl v_ ?_)
  refine aL_X rfl rfl (AOp_use rfl rfl (.inr ⟨rfl, rfl, rfl⟩) g_ va_ (sJoin_c hL hT) ?_); rintro _ _ ⟨rfl, rfl⟩
  (refine aL_S rfl rfl v_ ?_)
  refine aL_nil ?_
  refine awp_ret ?_
  refine aEnd_ret (σ' := σ) v_ sub_ ?_
  exact ⟨rfl, rfl⟩
theorem fPut_c {body : List UInt8} {σ : Store} (hs : body.length ≤ 100000000) : ACalls Tryz.prog 184 [vStr (B body)] σ fun v σ' => v = vStr (B (putF body)) ∧ σ = σ' := by
  have hB := B_size body
  have e : [B (beI 4 (body.length : Int)), B (beI 4 (sumF body : Int)), B body].flatMap Lb = putF body := by simp [List.flatMap_cons, Lb_B, putF]
  refine ACalls_of Tryz.func184 rfl Tryz.ntmps184 (congrArg Array.toList Tryz.results184) (by simp only [List.length_cons, List.length_nil]; decide) ?_; simp only [envOf_cons, envOf_nil, Nat.reduceAdd]
  refine awp_seq ?_
  have R := hB
  refine awp_region (by kernel_rfl) ?_
  (refine aL_S rfl rfl v_ ?_)
  refine aL_nil ?_
  refine awp_seq ?_
  have R := hB
  refine awp_region (by kernel_rfl) ?_
  iterate 2 (refine aL_S rfl rfl v_ ?_)
  refine aL_X rfl rfl (AOp_use rfl rfl (.inr ⟨rfl, rfl, rfl⟩) g_ va_ (fCount_c (n := body.length)) ?_); rintro _ _ ⟨rfl, rfl⟩
  (refine aL_S rfl rfl v_ ?_)
  refine aL_X rfl rfl (AOp_use rfl rfl (.inr ⟨rfl, rfl, rfl⟩) g_ va_ (fSum_c (body := body) (by omega)) ?_); rintro _ _ ⟨rfl, rfl⟩
  refine aL_X rfl rfl (AOp_use rfl rfl (.inr ⟨rfl, rfl, rfl⟩) g_ va_ (fCount_c (n := (sumF body : Int))) ?_); rintro _ _ ⟨rfl, rfl⟩
  (refine aL_S rfl rfl v_ ?_)
  refine aL_buildSlice rfl rfl rfl g_ g_ rfl rfl h_ c2_ (by decide) ?_
  refine aL_X rfl rfl (AOp_use rfl rfl (.inr ⟨rfl, rfl, rfl⟩) g_ va_ (fjoin_c (L := [B (beI 4 (body.length : Int)), B (beI 4 (sumF body : Int)), B body]) (t := true) (by simp) (by rw [e, putF_len]; omega)) ?_); rintro _ _ ⟨rfl, rfl⟩
  (refine aL_S rfl rfl v_ ?_)
  refine aL_nil ?_
  refine awp_ret ?_
  refine aEnd_ret (σ' := σ) v_ sub_ ?_
  exact ⟨by rw [e], rfl⟩
theorem allF_snoc (l : List (List UInt8)) (b : List UInt8) : allF (l ++ [b]) = allF l ++ putF b := by simp [allF]
theorem allF_take {l : List (List UInt8)} {k : Nat} {b : List UInt8} (h : l[k]? = some b) : allF (l.take (k + 1)) = allF (l.take k) ++ putF b := by rw [take_snoc h, allF_snoc]
theorem allF_le (l : List (List UInt8)) (k : Nat) : (allF (l.take k)).length ≤ (allF l).length := by
  have : allF l = allF (l.take k) ++ allF (l.drop k) := by rw [allF, allF, allF, ← List.flatMap_append, List.take_append_drop]
  rw [this, List.length_append]; omega
theorem allF_ge : ∀ (l : List (List UInt8)), l.length ≤ (allF l).length
  | [] => Nat.le_refl _
  | b :: l => by have := allF_ge l; simp only [allF, List.flatMap_cons, List.length_append, putF_len, List.length_cons] at *; omega
theorem puts_flat (l : List (List UInt8)) : (l.map fun b => B (putF b)).flatMap Lb = allF l := by simp [allF, List.flatMap_map, Lb_B]
set_option maxHeartbeats 1000000 in
theorem fAll_c {l : List (List UInt8)} {t : Bool} {σ : Store} (hl : l.length ≤ 1000000) (hT : (allF l).length ≤ 100000000) : ACalls Tryz.prog 103 [.sl 1 (vBs l) t] σ fun v σ' => v = vStr (B (allF l)) ∧ σ = σ' := by
  refine ACalls_of Tryz.func103 rfl Tryz.ntmps103 (congrArg Array.toList Tryz.results103) (by simp only [List.length_cons, List.length_nil]; decide) ?_; simp only [envOf_cons, envOf_nil, Nat.reduceAdd]
  refine awp_seq ?_
  refine awp_region (by kernel_rfl) ?_
  (refine aL_S rfl rfl v_ ?_)
  refine aL_nil ?_
  refine awp_seq ?_
  refine awp_region (by kernel_rfl) ?_
  refine aL_nilOwn 9 1 rfl rfl rfl (by rfl) fun k3 hk3 => ?_
  refine aL_nil ?_
  refine awp_seq ?_
  refine awp_seq ?_
  refine awp_region (by kernel_rfl) ?_
  iterate 3 (refine aL_S rfl rfl v_ ?_)
  refine aL_nil ?_
  refine awp_block ?_
  refine awp_loop_env (ι := Nat × Nat) (fun ⟨tk, i⟩ => l.length - i) (fun ⟨tk, i⟩ => i ≤ l.length ∧ σ.tok tk = none) (fun ⟨tk, i⟩ => [(3, .own tk 1 ((l.take i).map fun b => vStr (B (putF b)))), (6, .sl 1 (vBs l) t), (7, vInt l.length), (8, vInt i)]) (fun ⟨tk, i⟩ => (σ.newTok none tk (9, 1))) (k3, 0) ?_ ?_ ?_ ?_
  · exact ⟨Nat.zero_le _, hk3⟩
  · exact cv_
  · exact Store.Wk.refl _
  rintro ⟨tk, i⟩ ⟨hi, htk⟩
  simp only [envL_cons, envL_nil]
  refine awp_seq ?_
  refine awp_region (by kernel_rfl) ?_
  (refine aL_S rfl rfl v_ ?_)
  refine aL_nil ?_
  refine awp_seq ?_
  refine awp_cond v_ (fun hc3 => ?_) (fun hc3 => ?_)
  · replace hc3 := nm_ hc3
    refine awp_skip ?_
    refine awp_seq ?_
    refine awp_block ?_
    refine awp_seq ?_
    obtain ⟨b, hb⟩ := get_some (l := l) (k := i) (by omega)
    have h1 := allF_take hb
    have h2 := allF_le l (i + 1)
    have hbl : b.length ≤ 100000000 := by rw [h1, List.length_append, putF_len] at h2; omega
    have hcv : ((l.take (i + 1)).map fun b => vStr (B (putF b))) = ((l.take i).map fun b => vStr (B (putF b))) ++ [vStr (B (putF b))] := by rw [take_snoc hb, List.map_append]; rfl
    have R := hb
    refine awp_region (by kernel_rfl) ?_
    iterate 3 (refine aL_S rfl rfl v_ ?_)
    refine aL_nil ?_
    refine awp_region (by kernel_rfl) ?_
    iterate 2 (refine aL_S rfl rfl v_ ?_)
    refine aL_X rfl rfl (AOp_use rfl rfl (.inr ⟨rfl, rfl, rfl⟩) g_ va_ (fPut_c hbl) ?_); rintro _ _ ⟨rfl, rfl⟩
    refine aL_buildSlice rfl rfl rfl g_ g_ rfl rfl h_ c2_ (by decide) ?_
    refine aL_append rfl rfl rfl g_ g_ v_ h_ v_ c_ (by simp; omega) fun k16 hk16 => ?_
    (refine aL_S rfl rfl v_ ?_)
    refine aL_nil ?_
    refine awp_region (by kernel_rfl) ?_
    iterate 2 (refine aL_S rfl rfl v_ ?_)
    refine aL_nil ?_
    refine aNext (ι := Nat × Nat) (i := ⟨tk, i⟩) (k16, i + 1) ?_ ?_ ?_ ?_
    · show l.length - (i + 1) < l.length - i; omega
    · exact ⟨by show i + 1 ≤ l.length; omega, (newTok_none hk16).2⟩
    · have R := hcv; exact cv_
    · exact sub_
  · replace hc3 := nm_ hc3
    refine awp_exit ?_
    refine aThen_exit ?_
    refine aThen_exit ?_
    refine aBlock_hit ?_
    refine awp_seq ?_
    obtain rfl : i = l.length := by omega
    rw [List.take_length]
    have e1 : (l.map fun b => vStr (B (putF b))) = (l.map fun b => B (putF b)).map vStr := by rw [List.map_map]; rfl
    rw [e1]
    refine awp_region (by kernel_rfl) ?_
    (refine aL_S rfl rfl v_ ?_)
    refine aL_X rfl rfl (AOp_use rfl rfl (.inr ⟨rfl, rfl, rfl⟩) g_ va_ (ACalls.wkA (args := [.own tk 1 ((l.map fun b => B (putF b)).map vStr)]) (fjoin_c (L := l.map fun b => B (putF b)) (t := false) (by rw [List.length_map]; omega) (by rw [puts_flat]; omega)) rfl (fun j hj hj' => by match j, hj with | 0, _ => exact .own1 _ _ _)) ?_); rintro _ _ ⟨rfl, rfl⟩
    (refine aL_S rfl rfl v_ ?_)
    refine aL_nil ?_
    refine awp_ret ?_
    refine aEnd_ret (σ' := σ) v_ sub_ ?_
    exact ⟨by rw [puts_flat], rfl⟩
theorem rdF_len {s : List UInt8} (h : (rdF s).2.2.2 = true) : s.length = 8 + (rdF s).2.2.1.length ∧ (rdF s).2.2.1 = s.drop 8 := by
  obtain ⟨g1, g2⟩ := rdCnt_split (x := (rdCnt (s, true) 1048576).2) (m := 4294967295) h
  obtain ⟨_, k2⟩ := rdCnt_split (x := (s, true)) (m := 1048576) g1
  have k3 : s = beI 4 ((rdF s).1 : Int) ++ (beI 4 ((rdF s).2.1 : Int) ++ (rdF s).2.2.1) := by
    have e1 : s = beI 4 ((rdF s).1 : Int) ++ (rdCnt (s, true) 1048576).2.1 := k2
    have e2 : (rdCnt (s, true) 1048576).2.1 = beI 4 ((rdF s).2.1 : Int) ++ (rdF s).2.2.1 := g2
    rw [← e2]; exact e1
  refine ⟨?_, ?_⟩
  · have := congrArg List.length k3
    simp only [List.length_append, beI_length] at this
    omega
  · conv => rhs; rw [k3]
    rw [← List.append_assoc, List.drop_left' (by simp [beI_length])]
def firstP (s : List UInt8) (r : List UInt8 × Bool) : Prop := (r.2 = true → fstF s = some r.1) ∧ (r.2 = false → fstF s = none)
set_option maxHeartbeats 1000000 in
theorem first_c {s : List UInt8} {σ : Store} (hs : s.length ≤ 100000000) : ACalls Tryz.prog 183 [vStr (B s)] σ fun v σ' => (∃ r, v = .tup [vStr (B r.1), vB r.2] ∧ firstP s r) ∧ σ = σ' := by
  have hB := B_size s
  have hle : (rdF s).1 ≤ 1048576 := rdCnt_le (s, true) 1048576
  obtain ⟨y1, hy1⟩ : ∃ y, rdCnt (s, true) 1048576 = y := ⟨_, rfl⟩
  obtain ⟨y2, hy2⟩ : ∃ y, rdCnt y1.2 4294967295 = y := ⟨_, rfl⟩
  have hF : rdF s = (y1.1, y2.1, y2.2) := by rw [rdF, hy1, hy2]
  refine ACalls_of Tryz.func183 rfl Tryz.ntmps183 (congrArg Array.toList Tryz.results183) (by simp only [List.length_cons, List.length_nil]; decide) ?_; simp only [envOf_cons, envOf_nil, Nat.reduceAdd]
  refine awp_seq ?_
  refine awp_region (by kernel_rfl) ?_
  iterate 2 (refine aL_S rfl rfl v_ ?_)
  refine aL_nil ?_
  refine awp_seq ?_
  refine awp_region (by kernel_rfl) ?_
  (refine aL_S rfl rfl v_ ?_)
  refine aL_X rfl rfl (AOp_use rfl rfl (.inr ⟨rfl, rfl, rfl⟩) g_ va_ (new_c (s := s)) ?_); rintro _ _ ⟨r, hr, rfl, rfl⟩
  (refine aL_S rfl rfl v_ ?_)
  refine aL_nil ?_
  refine awp_seq ?_
  refine awp_region (by kernel_rfl) ?_
  (refine aL_S rfl rfl v_ ?_)
  refine aL_X rfl rfl (AOp_use rfl rfl (.inr ⟨rfl, rfl, rfl⟩) g_ va_ (rdCount_c (m := 1048576) (x := (s, true)) (Store.set_get ..)) ?_); rintro _ _ ⟨rfl, rfl⟩
  rw [hy1]
  (refine aL_S rfl rfl v_ ?_)
  refine aL_X rfl rfl (AOp_use rfl rfl (.inr ⟨rfl, rfl, rfl⟩) g_ va_ (rdCount_c (m := 4294967295) (x := y1.2) (Store.set_get ..)) ?_); rintro _ _ ⟨rfl, rfl⟩
  rw [hy2]
  iterate 2 (refine aL_S rfl rfl v_ ?_)
  refine aL_nil ?_
  refine awp_seq ?_
  refine awp_seq ?_
  have R := hB
  refine awp_region (by kernel_rfl) ?_
  (refine aL_S rfl rfl v_ ?_)
  refine aL_X rfl rfl (AOp_use rfl rfl (.inr ⟨rfl, rfl, rfl⟩) g_ va_ (bad_x (x := y2.2) (Store.set_get ..)) ?_); rintro _ _ ⟨rfl, rfl⟩
  (refine aL_S rfl rfl v_ ?_)
  refine aL_GF rfl rfl v_ rfl vg_ ?_
  refine aL_GF rfl rfl v_ rfl vg_ ?_
  refine aL_GF rfl rfl v_ rfl vg_ ?_
  refine aL_GF rfl rfl v_ rfl vg_ ?_
  refine aL_GF rfl rfl v_ rfl vg_ ?_
  (refine aL_S rfl rfl v_ ?_)
  refine aL_nil ?_
  refine awp_cond v_ (fun hc3 => ?_) (fun hc3 => ?_)
  · replace hc3 := nm_ hc3
    refine awp_seq ?_
    refine awp_region (by kernel_rfl) ?_
    iterate 2 (refine aL_S rfl rfl v_ ?_)
    refine aL_nil ?_
    refine awp_ret ?_
    refine aEnd_ret (σ' := σ) v_ sub_ ?_
    refine ⟨⟨([], false), rfl, (fun h => by cases h), fun _ => ?_⟩, rfl⟩
    rw [fstF, hF]
    refine if_neg fun ⟨q1, q2, q3⟩ => ?_
    have := rdF_len (s := s) (by rw [hF]; exact q1)
    rw [hF] at this
    dsimp only at this q1 q2
    rcases hc3 with h | h
    · rw [q1] at h; simp at h
    · omega
  · replace hc3 := nm_ hc3
    have hok : y2.2.2 = true := by rcases hc3 with ⟨h, _⟩; simpa using h
    obtain ⟨l1, l2⟩ := rdF_len (s := s) (by rw [hF]; exact hok)
    rw [hF] at l1 l2 hle
    dsimp only at l1 l2 hle
    have hn8 : y1.1 + 8 ≤ s.length := by omega
    have hx : (B s).extract 8 (8 + y1.1) = B (y2.2.1.take y1.1) := by rw [extract_B, Lb_B, l2, List.drop_take]; congr 2; omega
    have htn : ((8 : Int) + (y1.1 : Int)).toNat = 8 + y1.1 := by omega
    refine awp_skip ?_
    refine awp_seq ?_
    have R := And.intro htn (And.intro hx hB)
    refine awp_region (by kernel_rfl) ?_
    iterate 5 (refine aL_S rfl rfl v_ ?_)
    refine aL_nil ?_
    refine awp_seq ?_
    refine awp_region (by kernel_rfl) ?_
    iterate 2 (refine aL_S rfl rfl v_ ?_)
    refine aL_X rfl rfl (AOp_use rfl rfl (.inr ⟨rfl, rfl, rfl⟩) g_ va_ (fSum_c (body := y2.2.1.take y1.1) (by rw [List.length_take]; omega)) ?_); rintro _ _ ⟨rfl, rfl⟩
    iterate 4 (refine aL_S rfl rfl v_ ?_)
    refine aL_nil ?_
    refine awp_ret ?_
    refine aEnd_ret (σ' := σ) v_ sub_ ?_
    refine ⟨⟨(y2.2.1.take y1.1, decide ((sumF (y2.2.1.take y1.1) : Int) = (y2.1 : Int))), rfl, fun h => ?_, fun h => ?_⟩, rfl⟩
    · have h2 := of_decide_eq_true h
      rw [fstF, hF]
      exact if_pos ⟨hok, by dsimp only; omega, by dsimp only; omega⟩
    · have h2 := of_decide_eq_false h
      rw [fstF, hF]
      exact if_neg fun ⟨_, _, q3⟩ => h2 (by dsimp only at q3; omega)
theorem scanF_len (s : List UInt8) : ∃ t, s = allF (scanF s) ++ t ∧ scanF t = [] := by
  obtain ⟨n, hn⟩ : ∃ n, s.length ≤ n := ⟨_, Nat.le_refl _⟩
  induction n generalizing s with
  | zero =>
    have : s = [] := List.eq_nil_of_length_eq_zero (by omega)
    subst this
    exact ⟨[], rfl, rfl⟩
  | succ n ih =>
    cases hf : fstF s with
    | none => exact ⟨s, by rw [scanF_none hf]; rfl, scanF_none hf⟩
    | some b =>
      obtain ⟨t, ht, _⟩ := fstF_some hf
      have hl : s.length = 8 + b.length + t.length := by rw [ht, List.length_append, putF_len]
      obtain ⟨u, hu, hu2⟩ := ih t (by omega)
      have hd : s.drop (8 + b.length) = t := by rw [ht, drop_put]
      refine ⟨u, ?_, hu2⟩
      rw [scanF_some hf, hd]
      have e : allF (b :: scanF t) = putF b ++ allF (scanF t) := by simp [allF]
      rw [e, List.append_assoc, ← hu]; exact ht
set_option maxHeartbeats 2000000 in
theorem scan_c {s : List UInt8} {σ : Store} (hs : s.length ≤ 100000000) : ACalls Tryz.prog 101 [vStr (B s)] σ fun v σ' => v = .tup [.sl 1 (vBs (scanF s)) false, vInt (allF (scanF s)).length] ∧ σ = σ' := by
  have hB := B_size s
  refine ACalls_of Tryz.func101 rfl Tryz.ntmps101 (congrArg Array.toList Tryz.results101) (by simp only [List.length_cons, List.length_nil]; decide) ?_; simp only [envOf_cons, envOf_nil, Nat.reduceAdd]
  refine awp_seq ?_
  refine awp_region (by kernel_rfl) ?_
  iterate 2 (refine aL_S rfl rfl v_ ?_)
  refine aL_nil ?_
  refine awp_seq ?_
  refine awp_region (by kernel_rfl) ?_
  refine aL_nilOwn 9 1 rfl rfl rfl (by rfl) fun k4 hk4 => ?_
  refine aL_nil ?_
  refine awp_seq ?_
  refine awp_region (by kernel_rfl) ?_
  (refine aL_S rfl rfl v_ ?_)
  refine aL_nil ?_
  refine awp_block ?_
  refine awp_loop_env (ι := Nat × List (List UInt8) × List UInt8) (fun ⟨tk, done, rest⟩ => rest.length) (fun ⟨tk, done, rest⟩ => σ.tok tk = none ∧ s = allF done ++ rest ∧ scanF s = done ++ scanF rest) (fun ⟨tk, done, rest⟩ => [(0, vStr (B s)), (4, .own tk 1 (vBs done)), (5, vInt (allF done).length)]) (fun ⟨tk, done, rest⟩ => (σ.newTok none tk (9, 1))) (k4, [], s) ?_ ?_ ?_ ?_
  · exact ⟨hk4, rfl, rfl⟩
  · exact cv_
  · exact Store.Wk.refl _
  rintro ⟨tk, done, rest⟩ ⟨htk, hsp, hsc⟩
  simp only [envL_cons, envL_nil]
  refine awp_block ?_
  refine awp_seq ?_
  have hle : (allF done).length + rest.length = s.length := by rw [hsp, List.length_append]
  have hx : (B s).extract (allF done).length s.length = B rest := by rw [extract_B, Lb_B, List.take_length, hsp, List.drop_left]
  have R := And.intro hx hB
  refine awp_region (by kernel_rfl) ?_
  iterate 3 (refine aL_S rfl rfl v_ ?_)
  refine aL_X rfl rfl (AOp_use rfl rfl (.inr ⟨rfl, rfl, rfl⟩) g_ va_ (first_c (s := rest) (by omega)) ?_); rintro _ _ ⟨⟨⟨r1, r2⟩, rfl, hr⟩, rfl⟩
  iterate 5 (refine aL_S rfl rfl v_ ?_)
  refine aL_nil ?_
  refine awp_seq ?_
  refine awp_seq ?_
  refine awp_region (by kernel_rfl) ?_
  iterate 2 (refine aL_S rfl rfl v_ ?_)
  refine aL_nil ?_
  refine awp_cond v_ (fun hc4 => ?_) (fun hc4 => ?_)
  · replace hc4 := nm_ hc4
    refine awp_seq ?_
    refine awp_region (by kernel_rfl) ?_
    iterate 4 (refine aL_S rfl rfl v_ ?_)
    refine aL_nil ?_
    refine awp_ret ?_
    have hn : fstF rest = none := hr.2 (by simpa using hc4)
    rw [show scanF s = done from by rw [hsc, scanF_none hn, List.append_nil]]
    exact aEnd_retW (v := .tup [.sl 1 (vBs done) false, vInt (allF done).length]) (v' := .tup [.own tk 1 (vBs done), vInt (allF done).length]) va_ (.tup _ _ rfl (fun j hj hj' => by match j, hj with | 0, _ => exact .own1 _ _ _ | 1, _ => exact .refl _)) sub_ ⟨rfl, rfl⟩
  · replace hc4 := nm_ hc4
    have hfst : fstF rest = some r1 := hr.1 (by simpa using hc4)
    obtain ⟨u, hu, hul⟩ := fstF_some hfst
    have hpt : rest = putF r1 ++ rest.drop (8 + r1.length) := by rw [show rest.drop (8 + r1.length) = u from by rw [hu, drop_put]]; exact hu
    have hrl : rest.length = 8 + r1.length + u.length := by rw [hu, List.length_append, putF_len]
    have hcv : vBs (done ++ [r1]) = vBs done ++ [vStr (B r1)] := by simp [vBs]
    have hcv2 : (((allF (done ++ [r1])).length : Nat) : Int) = (allF done).length + (8 + r1.length) := by rw [allF_snoc, List.length_append, putF_len]; omega
    have hBr := B_size r1
    have hdn := allF_ge done
    refine awp_skip ?_
    refine awp_seq ?_
    refine awp_region (by kernel_rfl) ?_
    iterate 2 (refine aL_S rfl rfl v_ ?_)
    refine aL_buildSlice rfl rfl rfl g_ g_ rfl rfl h_ c2_ (by decide) ?_
    refine aL_append rfl rfl rfl g_ g_ v_ h_ v_ c_ (by simp; omega) fun k22 hk22 => ?_
    (refine aL_S rfl rfl v_ ?_)
    refine aL_nil ?_
    have R := hBr
    refine awp_region (by kernel_rfl) ?_
    iterate 6 (refine aL_S rfl rfl v_ ?_)
    refine aL_nil ?_
    refine aNext (ι := Nat × List (List UInt8) × List UInt8) (i := ⟨tk, done, rest⟩) (k22, done ++ [r1], rest.drop (8 + r1.length)) ?_ ?_ ?_ ?_
    · show (rest.drop (8 + r1.length)).length < rest.length; rw [List.length_drop]; omega
    · exact ⟨(newTok_none hk22).2, by rw [allF_snoc, List.append_assoc, ← hpt]; exact hsp, by rw [hsc, scanF_some hfst]; simp⟩
    · have R := And.intro hcv hcv2; exact cv_
    · exact sub_
end Go.Proofs.YtbcgkbdacijoiaaGreat
end

section
set_option linter.all false
set_option maxRecDepth 100000
namespace Go.Proofs.YtbcgkbdacijoiaaGreat
open Go.Ab
theorem nextS_bd {l : List Mnt} {p : ByteArray} (h : ∀ x ∈ l, placeOk x.place = true ∧ cntOk x.n = true) : 1 ≤ nextS l p ∧ nextS l p ≤ 9007199254740993 := by
  unfold nextS
  split
  · rename_i x hx
    have := cntOk_iff.1 (h x (List.mem_of_find?_eq_some hx)).2
    omega
  · omega
set_option maxHeartbeats 4000000 in
theorem apply_c {b : Bk} {r : List UInt8} {σ : Store} (hb : bkOk b = true) (hs : BkSm b) (ho : ObjSm (rdObj (hdX r)).1) : ACalls Tryz.prog 92 [sBk b, vStr (B r)] σ fun v σ' => v = .tup [sBk (apl b r).1, vB (apl b r).2] ∧ σ = σ' := by
  obtain ⟨y1, hy1⟩ : ∃ y, rdNum (r, true) 1 = y := ⟨_, rfl⟩
  obtain ⟨y2, hy2⟩ : ∃ y, rdText y1.2 = y := ⟨_, rfl⟩
  obtain ⟨x, hx⟩ : ∃ x, (rdObj y2.2).1 = x := ⟨_, rfl⟩
  obtain ⟨y3, hy3⟩ : ∃ y, (rdObj y2.2).2 = y := ⟨_, rfl⟩
  have hK : hdK r = y1.1 := by rw [hdK, hy1]
  have hP : hdP r = B y2.1 := by rw [hdP, hy1, hy2]
  have hX : hdX r = y2.2 := by rw [hdX, hy1, hy2]
  rw [hX, hx] at ho
  have hap : apl b r = if placeOk (B y2.1) then
      if y1.1 = 1 then (⟨insK Itm.place ⟨B y2.1, x⟩ b.items, b.mints⟩, doneR y3 && objOk x && decide (putR (B y2.1) x = r))
      else if y1.1 = 2 then (⟨b.items.filter fun x => !decide (x.place = B y2.1), b.mints⟩, doneR y2.2)
      else if y1.1 = 3 then (⟨b.items, insK Mnt.place ⟨B y2.1, max (rdNum y2.2 8).1 (nextS b.mints (B y2.1) - 1)⟩ b.mints⟩, doneR (rdNum y2.2 8).2 && cntOk (rdNum y2.2 8).1)
      else (b, false)
    else (b, false) := by unfold apl; rw [hK, hP, hX, hx, hy3]
  have hpl : (B y2.1).size ≤ 1048576 := by
    rw [B_size, ← hy2]
    exact Nat.le_trans rdTake_len (rdCnt_le _ _)
  obtain ⟨⟨ri, _⟩, rm, cm⟩ := bkOk_iff.1 hb
  have ni := hs.ni; have nm := hs.nm
  refine ACalls_of Tryz.func92 rfl Tryz.ntmps92 (congrArg Array.toList Tryz.results92) (by simp only [List.length_cons, List.length_nil]; decide) ?_; simp only [envOf_cons, envOf_nil, Nat.reduceAdd]
  refine awp_seq ?_
  refine awp_region (by kernel_rfl) ?_
  refine aL_box rfl rfl rfl v_ rfl g_ fun o2 ho2 => ?_
  repeat (rw [none_set_iff] at ho2; obtain ⟨_, ho2⟩ := ho2)
  refine aL_alloc rfl rfl rfl g_ gl_ fun o4 ho4 => ?_
  repeat (rw [none_set_iff] at ho4; obtain ⟨_, ho4⟩ := ho4)
  (refine aL_S rfl rfl v_ ?_)
  refine aL_nil ?_
  refine awp_seq ?_
  refine awp_region (by kernel_rfl) ?_
  (refine aL_S rfl rfl v_ ?_)
  refine aL_X rfl rfl (AOp_use rfl rfl (.inr ⟨rfl, rfl, rfl⟩) g_ va_ (new_c (s := r)) ?_); rintro _ _ ⟨o, hr, rfl, rfl⟩
  repeat (rw [none_set_iff] at hr; obtain ⟨_, hr⟩ := hr)
  (refine aL_S rfl rfl v_ ?_)
  refine aL_nil ?_
  refine awp_seq ?_
  refine awp_region (by kernel_rfl) ?_
  (refine aL_S rfl rfl v_ ?_)
  refine aL_X rfl rfl (AOp_use rfl rfl (.inr ⟨rfl, rfl, rfl⟩) g_ va_ (rdByte_c (x := (r, true)) (Store.set_get ..)) ?_); rintro _ _ ⟨rfl, rfl⟩
  rw [hy1]
  (refine aL_S rfl rfl v_ ?_)
  refine aL_X rfl rfl (AOp_use rfl rfl (.inr ⟨rfl, rfl, rfl⟩) g_ va_ (rdText_c (x := y1.2) (Store.set_get ..)) ?_); rintro _ _ ⟨rfl, rfl⟩
  rw [hy2]
  refine aL_alloc rfl rfl rfl g_ gl_ fun o8 ho8 => ?_
  repeat (rw [none_set_iff] at ho8; obtain ⟨_, ho8⟩ := ho8)
  (refine aL_S rfl rfl v_ ?_)
  refine aL_store rfl rfl rfl v_ v_ h_ g_ rfl g_ c_ (by rfl) le_ v_ ?_
  refine aL_nil ?_
  refine awp_seq ?_
  refine awp_seq ?_
  refine awp_region (by kernel_rfl) ?_
  (refine aL_S rfl rfl v_ ?_)
  refine aL_X rfl rfl (AOp_use rfl rfl (.inr ⟨rfl, rfl, rfl⟩) g_ va_ (isPlace_c (by omega)) ?_); rintro _ _ ⟨rfl, rfl⟩
  (refine aL_S rfl rfl v_ ?_)
  refine aL_nil ?_
  refine awp_cond v_ (fun hc3 => ?_) (fun hc3 => ?_)
  · replace hc3 := nm_ hc3
    refine awp_seq ?_
    refine awp_region (by kernel_rfl) ?_
    (refine aL_S rfl rfl v_ ?_)
    refine aL_store rfl rfl rfl v_ v_ h_ g_ rfl g_ c_ (by rfl) le_ v_ ?_
    (refine aL_S rfl rfl v_ ?_)
    refine aL_nil ?_
    refine awp_ret ?_
    refine aEnd_ret (σ' := σ) v_ sub_ ?_
    exact ⟨by rw [hap, if_neg (by simpa using hc3)], rfl⟩
  · replace hc3 := nm_ hc3
    rw [if_pos (by simpa using hc3)] at hap
    have hp100 := placeOk_size (p := B y2.1) (by simpa using hc3)
    refine awp_skip ?_
    refine awp_seq ?_
    refine awp_seq ?_
    refine awp_region (by kernel_rfl) ?_
    (refine aL_S rfl rfl v_ ?_)
    refine aL_nil ?_
    refine awp_block ?_
    refine awp_seq ?_
    refine awp_region (by kernel_rfl) ?_
    iterate 2 (refine aL_S rfl rfl v_ ?_)
    refine aL_nil ?_
    refine awp_cond v_ (fun hc7 => ?_) (fun hc7 => ?_)
    · replace hc7 := nm_ hc7
      refine awp_seq ?_
      refine awp_region (by kernel_rfl) ?_
      (refine aL_S rfl rfl v_ ?_)
      refine aL_X rfl rfl (AOp_use rfl rfl (.inr ⟨rfl, rfl, rfl⟩) g_ va_ (readObj_c (x := y2.2) h_) ?_); rintro _ τ ⟨rfl, g1, g2⟩
      rw [hx]
      rw [hy3] at g1
      have t2 := keep g2 (i := o2) (x := .cells (sBk b).cells) h_ (by simp; omega)
      have t4 := keep g2 (i := o4) (x := .cells [.lit (.slice none 0 0), .lit (.slice none 0 0)]) h_ (by simp; omega)
      have t8 := keep g2 (i := o8) (x := .cells [vStr (B y2.1)]) h_ (by simp; omega)
      refine aL_alloc rfl rfl rfl g_ gl_ fun o9 ho9 => ?_
      repeat (rw [none_set_iff] at ho9; obtain ⟨_, ho9⟩ := ho9)
      refine aL_store rfl rfl rfl v_ v_ h_ g_ rfl g_ c_ (by rfl) le_ v_ ?_
      refine aL_nil ?_
      have n92 := ne_of_heap t2 ho9
      have n94 := ne_of_heap t4 ho9
      have n98 := ne_of_heap t8 ho9
      have n9o := ne_of_heap g1 ho9
      have st : SubX [] σ τ := ⟨fun i x _ hx => by
        have h1 : i ≠ o := fun hh => by rw [hh, hr] at hx; cases hx
        have h2 : i ≠ o2 := fun hh => by rw [hh, ho2] at hx; cases hx
        have h4 : i ≠ o4 := fun hh => by rw [hh, ho4] at hx; cases hx
        have h8 : i ≠ o8 := fun hh => by rw [hh, ho8] at hx; cases hx
        exact g2.1 i x (by simpa using h1) (by simp only [Store.set_ne _ _ h1, Store.set_ne _ _ h2, Store.set_ne _ _ h4, Store.set_ne _ _ h8]; exact hx), fun t n ht => g2.2 t n ht⟩
      have n9σ : σ.heap o9 = none := SubX.noObj st ho9 (by simp)
      refine awp_seq ?_
      have R := And.intro t2 (And.intro t4 t8)
      refine awp_region (by kernel_rfl) ?_
      iterate 2 (refine aL_S rfl rfl v_ ?_)
      refine aL_X rfl rfl (AOp_use rfl rfl (.inr ⟨rfl, rfl, rfl⟩) g_ va_ (putRec_c (by omega) ho) ?_); rintro _ _ ⟨rfl, rfl⟩
      iterate 5 (refine aL_S rfl rfl v_ ?_)
      refine aL_nil ?_
      refine awp_seq ?_
      have R := And.intro t2 (And.intro t4 t8)
      refine awp_region (by kernel_rfl) ?_
      iterate 5 (refine aL_S rfl rfl v_ ?_)
      refine aL_X rfl rfl (AOp_use rfl rfl (.inr ⟨rfl, rfl, rfl⟩) g_ va_ (withIt (x := ⟨B y2.1, x⟩) ri (by omega)) ?_); rintro _ _ ⟨rfl, rfl⟩
      (refine aL_S rfl rfl v_ ?_)
      refine aL_store rfl rfl rfl v_ v_ h_ g_ rfl g_ c_ (by rfl) le_ v_ ?_
      refine aL_nil ?_
      refine awp_seq ?_
      have R := And.intro t2 (And.intro t4 (And.intro t8 g1))
      refine awp_draw (.op 0 0 (.op 1 0 (.op 2 1 (.op 3 0 (.op 4 0 (.op 5 0 (.op 6 0 (.op 7 0 (.op 8 0 (.op 9 0 (.any 10 (.op 11 0 (.op 12 2 (.op 13 0 .nil)))))))))))))) Tryz.mixed (by kernel_rfl) ?_
      iterate 2 (refine dR_S o_ (by rfl) (by rfl) v_ ?_)
      refine dR_X o_ (by rfl) (by rfl) (AOp_use (by rfl) (by rfl) (.inr ⟨by rfl, by rfl, by rfl⟩) g_ va_ (rdDone_c (x := y3) h_) ?_); rintro _ _ ⟨rfl, rfl⟩; refine ⟨sub_, ?_⟩
      (refine dR_S o_ (by rfl) (by rfl) v_ ?_)
      refine dR_GT o_ (by rfl) (by rfl) v_ (by rfl) vg_ ?_
      refine dR_GT o_ (by rfl) (by rfl) v_ (by rfl) vg_ ?_
      iterate 2 (refine dR_S o_ (by rfl) (by rfl) v_ ?_)
      refine dR_GT o_ (by rfl) (by rfl) v_ (by rfl) vg_ ?_
      refine dR_GT o_ (by rfl) (by rfl) v_ (by rfl) vg_ ?_
      refine dR_AGT o_ (by rfl) (by rfl) v_ (by rfl) (fun _ => vg_) ?_
      (refine dR_S o_ (by rfl) (by rfl) v_ ?_)
      refine dR_store o_ (by rfl) (by rfl) (by rfl) v_ v_ h_ g_ rfl g_ c_ (by rfl) le_ v_ ?_
      (refine dR_S o_ (by rfl) (by rfl) v_ ?_)
      refine dR_nil ?_
      refine awp_ret ?_
      refine aEnd_ret (σ' := σ) va_ ?_ ?_
      · (try dsimp only)
        refine subx_start ?_
        repeat (refine subx_new (by assumption) ?_)
        exact st
      · refine ⟨?_, rfl⟩
        rw [hap, if_pos hc7]
        have hput : ((putRS (B y2.1) x).2 = 0 ∧ B (putRS (B y2.1) x).1 = B r) ↔ (objOk x = true ∧ putR (B y2.1) x = r) := by
          unfold putRS
          rw [show placeOk (B y2.1) = true by simpa using hc3, Bool.true_and]
          split
          · rename_i h; rw [B_eq_iff]; simp [h]
          · rename_i h; simp [h]
        have hbl : (y3.2 && decide (y3.1 = []) && decide ((putRS (B y2.1) x).2 = 0) && decide (B (putRS (B y2.1) x).1 = B r)) = (doneR y3 && objOk x && decide (putR (B y2.1) x = r)) := by
          rw [Bool.eq_iff_iff]
          simp only [doneR, Bool.and_eq_true, decide_eq_true_eq, and_assoc]
          rw [hput]
        rw [hbl]
    · replace hc7 := nm_ hc7
      refine awp_seq ?_
      refine awp_region (by kernel_rfl) ?_
      iterate 2 (refine aL_S rfl rfl v_ ?_)
      refine aL_nil ?_
      refine awp_cond v_ (fun hc12 => ?_) (fun hc12 => ?_)
      · replace hc12 := nm_ hc12
        refine awp_region (by kernel_rfl) ?_
        iterate 2 (refine aL_S rfl rfl v_ ?_)
        refine aL_X rfl rfl (AOp_use rfl rfl (.inr ⟨rfl, rfl, rfl⟩) g_ va_ (cloneIt (by omega)) ?_); rintro _ τ0 hC0
        (refine aL_S rfl rfl v_ ?_)
        refine aL_X rfl rfl (AOp_use rfl rfl (.inr ⟨rfl, rfl, rfl⟩) g_ va_ (deleteIt (p := fun x => decide (x.place = B y2.1)) ⟨by kernel_rfl, fun τ h x => apply1_c (h o8 _ h_)⟩ hC0 (by omega)) ?_); rintro _ _ ⟨rfl, rfl⟩
        (refine aL_S rfl rfl v_ ?_)
        refine aL_store rfl rfl rfl v_ v_ h_ g_ rfl g_ c_ (by rfl) le_ v_ ?_
        refine aL_nil ?_
        refine awp_seq ?_
        refine awp_draw (.op 0 0 (.op 1 0 (.op 2 1 (.op 3 2 (.op 4 0 .nil))))) Tryz.mixed (by kernel_rfl) ?_
        iterate 2 (refine dR_S o_ (by rfl) (by rfl) v_ ?_)
        refine dR_X o_ (by rfl) (by rfl) (AOp_use (by rfl) (by rfl) (.inr ⟨by rfl, by rfl, by rfl⟩) g_ va_ (rdDone_c (x := y2.2) h_) ?_); rintro _ _ ⟨rfl, rfl⟩; refine ⟨sub_, ?_⟩
        refine dR_store o_ (by rfl) (by rfl) (by rfl) v_ v_ h_ g_ rfl g_ c_ (by rfl) le_ v_ ?_
        (refine dR_S o_ (by rfl) (by rfl) v_ ?_)
        refine dR_nil ?_
        refine awp_ret ?_
        refine aEnd_ret (σ' := σ) v_ sub_ ?_
        exact ⟨by rw [hap, if_neg hc7, if_pos hc12]; rfl, rfl⟩
      · replace hc12 := nm_ hc12
        refine awp_seq ?_
        refine awp_region (by kernel_rfl) ?_
        iterate 2 (refine aL_S rfl rfl v_ ?_)
        refine aL_nil ?_
        refine awp_cond v_ (fun hc14 => ?_) (fun hc14 => ?_)
        · replace hc14 := nm_ hc14
          refine awp_seq ?_
          refine awp_region (by kernel_rfl) ?_
          (refine aL_S rfl rfl v_ ?_)
          refine aL_X rfl rfl (AOp_use rfl rfl (.inr ⟨rfl, rfl, rfl⟩) g_ va_ (rdInt_c (x := y2.2) h_) ?_); rintro _ _ ⟨rfl, rfl⟩
          (refine aL_S rfl rfl v_ ?_)
          refine aL_nil ?_
          refine awp_seq ?_
          have hnx := nextS_bd (l := b.mints) (p := B y2.1) cm
          refine awp_draw (.op 0 0 (.op 1 0 (.op 2 0 (.op 3 0 (.op 4 0 (.op 5 0 (.op 6 1 (.op 7 0 (.op 8 0 (.op 9 0 (.op 10 1 (.op 11 0 (.op 12 2 .nil))))))))))))) Tryz.mixed (by kernel_rfl) ?_
          iterate 6 (refine dR_S o_ (by rfl) (by rfl) v_ ?_)
          refine dR_X o_ (by rfl) (by rfl) (AOp_use (by rfl) (by rfl) (.inr ⟨by rfl, by rfl, by rfl⟩) g_ va_ (next_c (by omega) (fun x hx => by have := cntOk_iff.1 (cm x hx).2; omega)) ?_); rintro _ _ ⟨rfl, rfl⟩; refine ⟨sub_, ?_⟩
          iterate 3 (refine dR_S o_ (by rfl) (by rfl) v_ ?_)
          refine dR_X o_ (by rfl) (by rfl) (AOp_use (by rfl) (by rfl) (.inr ⟨by rfl, by rfl, by rfl⟩) g_ va_ (withMn (x := ⟨B y2.1, max (rdNum y2.2 8).1 (nextS b.mints (B y2.1) - 1)⟩) rm (by omega)) ?_); rintro _ _ ⟨rfl, rfl⟩; refine ⟨sub_, ?_⟩
          (refine dR_S o_ (by rfl) (by rfl) v_ ?_)
          refine dR_store o_ (by rfl) (by rfl) (by rfl) v_ v_ h_ g_ rfl g_ c_ (by rfl) le_ v_ ?_
          refine dR_nil ?_
          refine awp_seq ?_
          refine awp_draw (.op 0 0 (.op 1 0 (.op 2 1 (.op 3 0 (.op 4 0 (.op 5 1 (.op 6 0 (.op 7 2 (.op 8 0 .nil))))))))) Tryz.mixed (by kernel_rfl) ?_
          iterate 2 (refine dR_S o_ (by rfl) (by rfl) v_ ?_)
          refine dR_X o_ (by rfl) (by rfl) (AOp_use (by rfl) (by rfl) (.inr ⟨by rfl, by rfl, by rfl⟩) g_ va_ (rdDone_c (x := (rdNum y2.2 8).2) h_) ?_); rintro _ _ ⟨rfl, rfl⟩; refine ⟨sub_, ?_⟩
          (refine dR_S o_ (by rfl) (by rfl) v_ ?_)
          refine dR_GT o_ (by rfl) (by rfl) v_ (by rfl) vg_ ?_
          refine dR_GTX o_ (by rfl) (by rfl) v_ (by rfl) sub_ (fun hb => AOp_useV (by rfl) (by rfl) (.inr ⟨by rfl, by rfl, by rfl⟩) g_ cg_ (isCount_c)) ?_
          (refine dR_S o_ (by rfl) (by rfl) v_ ?_)
          refine dR_store o_ (by rfl) (by rfl) (by rfl) v_ v_ h_ g_ rfl g_ c_ (by rfl) le_ v_ ?_
          (refine dR_S o_ (by rfl) (by rfl) v_ ?_)
          refine dR_nil ?_
          refine awp_ret ?_
          refine aEnd_ret (σ' := σ) v_ sub_ ?_
          exact ⟨by rw [hap, if_neg hc7, if_neg hc12, if_pos hc14]; rfl, rfl⟩
        · replace hc14 := nm_ hc14
          refine awp_seq ?_
          refine awp_region (by kernel_rfl) ?_
          (refine aL_S rfl rfl v_ ?_)
          refine aL_store rfl rfl rfl v_ v_ h_ g_ rfl g_ c_ (by rfl) le_ v_ ?_
          (refine aL_S rfl rfl v_ ?_)
          refine aL_nil ?_
          refine awp_ret ?_
          refine aEnd_ret (σ' := σ) v_ sub_ ?_
          exact ⟨by rw [hap, if_neg hc7, if_neg hc12, if_neg hc14], rfl⟩
end Go.Proofs.YtbcgkbdacijoiaaGreat
end
