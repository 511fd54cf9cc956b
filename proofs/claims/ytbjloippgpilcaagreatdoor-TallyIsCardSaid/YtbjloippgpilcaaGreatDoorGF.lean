/-
  BYTES AS LISTS; NUMBERS AS BYTES; What the program's values are; CONTEXTS AND OBJECTS, as they come in; THE LIBRARY's SORTS by the kit's contracts: a slice that is written, sorted in place; The library's sorts at this program; THE LIBRARY's SORT OF STRUCTS by the kit's contract; what a comparison that only looks costs there; Sorted rows of numbers and of texts; texts once each: rows that grew. Own work (an AI agent).
-/
import Derived.Test.YtbjloippgpilcaaGreatDoorGE
import Derived.Shelf.Sort.Plain
import Derived.Shelf.Slices.In.SortNone
import Derived.Shelf.SlSortCmp.WholeK
import Derived.Shelf.Slices.CompactS

section
set_option linter.all false
namespace Go.Ab

def B (l : List UInt8) : ByteArray := ⟨l.toArray⟩
def Lb (s : ByteArray) : List UInt8 := s.data.toList
theorem B_Lb (s : ByteArray) : B (Lb s) = s := by cases s; simp [B, Lb]
theorem Lb_B (l : List UInt8) : Lb (B l) = l := by simp [B, Lb]
theorem B_append (a b : List UInt8) : B a ++ B b = B (a ++ b) := by
  apply ByteArray.ext; simp [B, ByteArray.data_append]
theorem B_size (l : List UInt8) : (B l).size = l.length := by show l.toArray.size = _; simp
theorem Lb_length (s : ByteArray) : (Lb s).length = s.size := by show s.data.toList.length = s.data.size; simp
theorem B_inj {a b : List UInt8} (h : B a = B b) : a = b := by
  have := congrArg Lb h
  rwa [Lb_B, Lb_B] at this
theorem Lb_inj {a b : ByteArray} (h : Lb a = Lb b) : a = b := by rw [← B_Lb a, h, B_Lb]
theorem B_eq_iff {a b : List UInt8} : B a = B b ↔ a = b := ⟨B_inj, fun h => by rw [h]⟩
theorem B_nil : B [] = ByteArray.empty := rfl
theorem Lb_append (a b : ByteArray) : Lb (a ++ b) = Lb a ++ Lb b := by
  apply B_inj; rw [← B_append, B_Lb, B_Lb, B_Lb]
theorem extract_B (s : ByteArray) (i j : Nat) : s.extract i j = B (((Lb s).take j).drop i) := by
  apply ByteArray.ext
  rw [ByteArray.data_extract]
  apply Array.ext'
  simp only [B, Lb, Array.toList_extract, List.extract_eq_drop_take]
  rw [List.drop_take]
theorem bytesL_B (l : List UInt8) : bytesL (B l) = l.map fun b => .lit (.int .u8 b.toNat) := by simp [bytesL, B]

/-! ### numbers as bytes -/
def byteI (n : Int) : UInt8 := UInt8.ofNat (n % 256).toNat
theorem byteI_val (n : Int) : ((byteI n).toNat : Int) = n % 256 := by
  have h1 : 0 ≤ n % 256 := Int.emod_nonneg _ (by decide)
  have h2 : n % 256 < 256 := Int.emod_lt_of_pos _ (by decide)
  unfold byteI
  rw [UInt8.toNat_ofNat']
  omega
def beI : Nat → Int → List UInt8
  | 0, _ => []
  | k + 1, n => byteI (n / 256 ^ k) :: beI k n
theorem beI_length : ∀ (k : Nat) (n : Int), (beI k n).length = k
  | 0, _ => rfl
  | k + 1, n => by rw [beI, List.length_cons, beI_length k n]

def natB (l : List UInt8) : Nat := l.foldl (fun n c => n * 256 + c.toNat) 0
theorem natB_snoc (l : List UInt8) (c : UInt8) : natB (l ++ [c]) = natB l * 256 + c.toNat := by simp [natB]
theorem natB_from : ∀ (l : List UInt8) (a : Nat), l.foldl (fun n c => n * 256 + c.toNat) a = a * 256 ^ l.length + natB l
  | [], a => by simp [natB]
  | c :: l, a => by
    have e : natB (c :: l) = (0 * 256 + c.toNat) * 256 ^ l.length + natB l := natB_from l (0 * 256 + c.toNat)
    rw [List.foldl_cons, natB_from l, e]
    rw [List.length_cons, Nat.pow_succ, Nat.add_mul, Nat.zero_mul, Nat.zero_add, Nat.mul_assoc, Nat.mul_comm 256]
    omega
theorem natB_cons (c : UInt8) (l : List UInt8) : natB (c :: l) = c.toNat * 256 ^ l.length + natB l := by
  rw [natB, List.foldl_cons, natB_from, Nat.zero_mul, Nat.zero_add]
theorem natB_lt : ∀ (l : List UInt8), natB l < 256 ^ l.length
  | [] => by simp [natB]
  | c :: l => by
    have h1 := natB_lt l
    have h2 : c.toNat < 256 := c.toNat_lt
    rw [natB_cons, List.length_cons, Nat.pow_succ]
    calc c.toNat * 256 ^ l.length + natB l < c.toNat * 256 ^ l.length + 256 ^ l.length := by omega
      _ = (c.toNat + 1) * 256 ^ l.length := by rw [Nat.succ_mul]
      _ ≤ 256 * 256 ^ l.length := Nat.mul_le_mul_right _ (by omega)
      _ = 256 ^ l.length * 256 := Nat.mul_comm _ _
theorem emod_step (n p : Int) (hp : 0 < p) : n % (p * 256) = (n / p) % 256 * p + n % p := by
  have e1 := Int.mul_ediv_add_emod n p
  have e2 := Int.mul_ediv_add_emod (n / p) 256
  have h1 := Int.emod_nonneg n (show p ≠ 0 by omega)
  have h2 := Int.emod_lt_of_pos n hp
  have h3 := Int.emod_nonneg (n / p) (show (256 : Int) ≠ 0 by decide)
  have h4 := Int.emod_lt_of_pos (n / p) (show (0 : Int) < 256 by decide)
  have hn : n = ((n / p) % 256 * p + n % p) + (p * 256) * (n / p / 256) := by
    calc n = p * (n / p) + n % p := e1.symm
      _ = p * (256 * (n / p / 256) + n / p % 256) + n % p := by rw [e2]
      _ = _ := by rw [Int.mul_add, ← Int.mul_assoc, Int.mul_comm p (n / p % 256)]; omega
  have hb : (n / p) % 256 * p + n % p < p * 256 := by
    have : (n / p) % 256 * p ≤ 255 * p := Int.mul_le_mul_of_nonneg_right (by omega) (by omega)
    omega
  have h0 : 0 ≤ (n / p) % 256 * p := Int.mul_nonneg h3 (by omega)
  conv => lhs; rw [hn]
  rw [Int.add_mul_emod_self_left]
  exact Int.emod_eq_of_lt (by omega) hb
theorem natB_beI : ∀ (k : Nat) (n : Int), (natB (beI k n) : Int) = n % 256 ^ k
  | 0, n => by simp [beI, natB]
  | k + 1, n => by
    rw [beI, natB_cons, beI_length, Int.natCast_add, Int.natCast_mul, byteI_val, natB_beI k n, Int.pow_succ, emod_step _ _ (Int.pow_pos (by decide))]
    simp

def rdI (l : List UInt8) : Int := IntKind.i64.wrap (natB l)
theorem ofInt_wrap64 (z : Int) : BitVec.ofInt 64 (IntKind.i64.wrap z) = BitVec.ofInt 64 z := by
  apply BitVec.eq_of_toNat_eq
  rw [BitVec.toNat_ofInt, BitVec.toNat_ofInt]
  unfold IntKind.wrap
  simp only [show IntKind.i64.bits = 64 from rfl, show IntKind.i64.signed = true from rfl]
  congr 1
  split <;> omega
theorem wrap_toNat64 (z : Int) : IntKind.i64.wrap ((BitVec.ofInt 64 z).toNat : Int) = IntKind.i64.wrap z := by
  rw [BitVec.toNat_ofInt]
  unfold IntKind.wrap
  simp only [show IntKind.i64.bits = 64 from rfl, show IntKind.i64.signed = true from rfl]
  have e : ((z % (((2 ^ 64 : Nat)) : Int)).toNat : Int) % 2 ^ 64 = z % 2 ^ 64 := by omega
  rw [e]
theorem bOr_byte (m c : Int) (h0 : 0 ≤ c) (h1 : c < 256) : bOr .i64 (IntKind.i64.wrap (IntKind.i64.wrap m * 256)) c = IntKind.i64.wrap (m * 256 + c) := by
  unfold bOr
  have e1 : BitVec.ofInt IntKind.i64.bits (IntKind.i64.wrap (IntKind.i64.wrap m * 256)) = BitVec.ofInt 64 m * 256#64 := by
    show BitVec.ofInt 64 _ = _
    rw [ofInt_wrap64, BitVec.ofInt_mul, ofInt_wrap64]
    rfl
  have e2 : BitVec.ofInt 64 m * 256#64 &&& BitVec.ofInt 64 c = 0#64 := by
    apply BitVec.eq_of_toNat_eq
    rw [BitVec.toNat_and, BitVec.toNat_mul]
    apply Nat.eq_of_testBit_eq
    intro i
    rw [Nat.testBit_and]
    simp only [BitVec.toNat_ofNat, Nat.zero_mod, Nat.zero_testBit]
    by_cases hi : i < 8
    · have : ((BitVec.ofInt 64 m).toNat * (256 % 2 ^ 64) % 2 ^ 64).testBit i = false := by
        rw [Nat.testBit_mod_two_pow]
        rw [show (256 % 2 ^ 64 : Nat) = 2 ^ 8 from rfl, Nat.testBit_mul_two_pow]
        simp [hi, show ¬ 8 ≤ i by omega]
      rw [this]; simp
    · have : (BitVec.ofInt 64 c).toNat.testBit i = false := by
        rw [BitVec.toNat_ofInt]
        apply Nat.testBit_lt_two_pow
        have e : (c % ((2 ^ 64 : Nat) : Int)).toNat < 2 ^ 8 := by omega
        exact Nat.lt_of_lt_of_le e (Nat.pow_le_pow_right (by decide) (by omega))
      rw [this]; simp
  rw [e1]
  show IntKind.i64.wrap ((BitVec.ofInt 64 m * 256#64 ||| BitVec.ofInt 64 c).toNat : Int) = _
  rw [← BitVec.add_eq_or_of_and_eq_zero _ _ e2]
  have e3 : BitVec.ofInt 64 m * 256#64 + BitVec.ofInt 64 c = BitVec.ofInt 64 (m * 256 + c) := by
    rw [BitVec.ofInt_add, BitVec.ofInt_mul]; rfl
  rw [e3, wrap_toNat64]
theorem rdI_snoc (l : List UInt8) (c : UInt8) : bOr .i64 (IntKind.i64.wrap (rdI l * 256)) c.toNat = rdI (l ++ [c]) := by
  have h : c.toNat < 256 := c.toNat_lt
  unfold rdI
  rw [bOr_byte _ _ (by omega) (by omega), natB_snoc]
  simp
theorem rdI_beI8 (n : Int) (h1 : -9223372036854775808 ≤ n) (h2 : n ≤ 9223372036854775807) : rdI (beI 8 n) = n := by
  unfold rdI
  rw [natB_beI, show (256 : Int) ^ 8 = 18446744073709551616 from by decide]
  unfold IntKind.wrap
  simp only [IntKind.bits, IntKind.signed, Bool.true_and, decide_eq_true_eq, ge_iff_le]
  have e1 : (2 : Int) ^ 64 = 18446744073709551616 := by decide
  have e2 : (2 : Int) ^ (64 - 1) = 9223372036854775808 := by decide
  simp only [e1, e2]
  split <;> omega
theorem rdI_small (l : List UInt8) (h : l.length ≤ 7) : rdI l = natB l := by
  have h1 := natB_lt l
  have h2 : 256 ^ l.length ≤ 256 ^ 7 := Nat.pow_le_pow_right (by decide) h
  exact wrap_i64 _ (by omega) (by omega)
theorem rdI_beI (k : Nat) (n : Int) (hk : k ≤ 7) (h1 : 0 ≤ n) (h2 : n < 256 ^ k) : rdI (beI k n) = n := by
  rw [rdI_small _ (by rw [beI_length]; exact hk), natB_beI]
  exact Int.emod_eq_of_lt h1 h2

/-! ### bits of numbers that are not less than nothing -/
theorem ofInt_nat (w n : Nat) : BitVec.ofInt w (n : Int) = BitVec.ofNat w n := by
  apply BitVec.eq_of_toNat_eq
  rw [BitVec.toNat_ofInt, BitVec.toNat_ofNat]
  omega
theorem bAnd_nat (k : IntKind) (p q : Nat) (hp : p < 2 ^ k.bits) (hq : q < 2 ^ k.bits) (hw : k.wrap ((p &&& q : Nat) : Int) = ((p &&& q : Nat) : Int)) : bAnd k p q = ((p &&& q : Nat) : Int) := by
  unfold bAnd
  rw [ofInt_nat, ofInt_nat, BitVec.toNat_and, BitVec.toNat_ofNat, BitVec.toNat_ofNat, Nat.mod_eq_of_lt hp, Nat.mod_eq_of_lt hq, hw]
theorem bOr_nat (k : IntKind) (p q : Nat) (hp : p < 2 ^ k.bits) (hq : q < 2 ^ k.bits) (hw : k.wrap ((p ||| q : Nat) : Int) = ((p ||| q : Nat) : Int)) : bOr k p q = ((p ||| q : Nat) : Int) := by
  unfold bOr
  rw [ofInt_nat, ofInt_nat, BitVec.toNat_or, BitVec.toNat_ofNat, BitVec.toNat_ofNat, Nat.mod_eq_of_lt hp, Nat.mod_eq_of_lt hq, hw]
theorem bXor_nat (k : IntKind) (p q : Nat) (hp : p < 2 ^ k.bits) (hq : q < 2 ^ k.bits) (hw : k.wrap ((p ^^^ q : Nat) : Int) = ((p ^^^ q : Nat) : Int)) : bXor k p q = ((p ^^^ q : Nat) : Int) := by
  unfold bXor
  rw [ofInt_nat, ofInt_nat, BitVec.toNat_xor, BitVec.toNat_ofNat, BitVec.toNat_ofNat, Nat.mod_eq_of_lt hp, Nat.mod_eq_of_lt hq, hw]
theorem wrap_u32 (n : Int) : IntKind.u32.wrap n = n % 4294967296 := by
  unfold IntKind.wrap
  simp only [show IntKind.u32.bits = 32 from rfl, show IntKind.u32.signed = false from rfl]
  simp
theorem wrap_u32_nat (n : Nat) (h : n < 4294967296) : IntKind.u32.wrap (n : Int) = (n : Int) := by rw [wrap_u32]; omega
theorem wrap_u8 (n : Int) : IntKind.u8.wrap n = n % 256 := by
  unfold IntKind.wrap
  simp only [show IntKind.u8.bits = 8 from rfl, show IntKind.u8.signed = false from rfl]
  simp
theorem and32 {p q : Nat} (hp : p < 4294967296) (hq : q < 4294967296) : bAnd .u32 p q = ((p &&& q : Nat) : Int) ∧ p &&& q < 4294967296 := by
  have h : p &&& q < 4294967296 := Nat.lt_of_le_of_lt Nat.and_le_left hp
  exact ⟨bAnd_nat .u32 p q hp hq (wrap_u32_nat _ h), h⟩
theorem or32 {p q : Nat} (hp : p < 4294967296) (hq : q < 4294967296) : bOr .u32 p q = ((p ||| q : Nat) : Int) ∧ p ||| q < 4294967296 := by
  have h : p ||| q < 2 ^ 32 := Nat.or_lt_two_pow hp hq
  exact ⟨bOr_nat .u32 p q hp hq (wrap_u32_nat _ h), h⟩
theorem xor32 {p q : Nat} (hp : p < 4294967296) (hq : q < 4294967296) : bXor .u32 p q = ((p ^^^ q : Nat) : Int) ∧ p ^^^ q < 4294967296 := by
  have h : p ^^^ q < 2 ^ 32 := Nat.xor_lt_two_pow hp hq
  exact ⟨bXor_nat .u32 p q hp hq (wrap_u32_nat _ h), h⟩
theorem and63 {p q : Nat} (hp : p < 9223372036854775808) (hq : q < 9223372036854775808) : bAnd .i64 p q = ((p &&& q : Nat) : Int) ∧ p &&& q < 9223372036854775808 := by
  have h : p &&& q < 9223372036854775808 := Nat.lt_of_le_of_lt Nat.and_le_left hp
  exact ⟨bAnd_nat .i64 p q (Nat.lt_of_lt_of_le hp (by decide)) (Nat.lt_of_lt_of_le hq (by decide)) (wrap_i64 _ (by omega) (by omega)), h⟩
theorem or63 {p q : Nat} (hp : p < 9223372036854775808) (hq : q < 9223372036854775808) : bOr .i64 p q = ((p ||| q : Nat) : Int) ∧ p ||| q < 9223372036854775808 := by
  have h : p ||| q < 2 ^ 63 := Nat.or_lt_two_pow hp hq
  exact ⟨bOr_nat .i64 p q (Nat.lt_of_lt_of_le hp (by decide)) (Nat.lt_of_lt_of_le hq (by decide)) (wrap_i64 _ (by omega) (by omega)), h⟩
theorem xor63 {p q : Nat} (hp : p < 9223372036854775808) (hq : q < 9223372036854775808) : bXor .i64 p q = ((p ^^^ q : Nat) : Int) ∧ p ^^^ q < 9223372036854775808 := by
  have h : p ^^^ q < 2 ^ 63 := Nat.xor_lt_two_pow hp hq
  exact ⟨bXor_nat .i64 p q (Nat.lt_of_lt_of_le hp (by decide)) (Nat.lt_of_lt_of_le hq (by decide)) (wrap_i64 _ (by omega) (by omega)), h⟩
theorem andlow (p : Nat) : p &&& 4294967295 = p % 4294967296 := Nat.and_two_pow_sub_one_eq_mod p 32

/-! ### shifts -/
theorem aint_shl_k (k k' : IntKind) (a b : Int) (h0 : 0 ≤ b) (h1 : b ≤ k.bits) : aint .shl k a k' b = some (.int k (k.wrap (a * 2 ^ b.toNat))) := by
  simp only [aint]
  rw [if_neg (by omega), Nat.min_eq_left (by omega)]
theorem aint_shr_k (k k' : IntKind) (a b : Int) (h0 : 0 ≤ b) (h1 : b ≤ k.bits) : aint .shr k a k' b = some (.int k (a / 2 ^ b.toNat)) := by
  simp only [aint]
  rw [if_neg (by omega), Nat.min_eq_left (by omega), Int.fdiv_eq_ediv_of_nonneg _ (Int.le_of_lt (Int.pow_pos (by decide)))]
@[go_sem] theorem aint_shl_i64 (k' : IntKind) (a b : Int) (h0 : 0 ≤ b) (h1 : b ≤ 64) : aint .shl .i64 a k' b = some (.int .i64 (IntKind.i64.wrap (a * 2 ^ b.toNat))) := aint_shl_k .i64 k' a b h0 h1
@[go_sem] theorem aint_shr_i64 (k' : IntKind) (a b : Int) (h0 : 0 ≤ b) (h1 : b ≤ 64) : aint .shr .i64 a k' b = some (.int .i64 (a / 2 ^ b.toNat)) := aint_shr_k .i64 k' a b h0 h1
@[go_sem] theorem aint_shl_u32 (k' : IntKind) (a b : Int) (h0 : 0 ≤ b) (h1 : b ≤ 32) : aint .shl .u32 a k' b = some (.int .u32 (IntKind.u32.wrap (a * 2 ^ b.toNat))) := aint_shl_k .u32 k' a b h0 h1
@[go_sem] theorem aint_shr_u32 (k' : IntKind) (a b : Int) (h0 : 0 ≤ b) (h1 : b ≤ 32) : aint .shr .u32 a k' b = some (.int .u32 (a / 2 ^ b.toNat)) := aint_shr_k .u32 k' a b h0 h1
@[go_sem] theorem astr_addB (a b : List UInt8) (h : a.length + b.length ≤ 9223372036854775807) : astr .add (B a) (B b) = some (.string (B (a ++ b))) := by
  rw [astr_add _ _ (by rw [B_size, B_size]; exact h), B_append]
theorem bAnd_255 (n : Int) : bAnd .i64 n 255 = n % 256 := by
  unfold bAnd
  have e1 : (BitVec.ofInt IntKind.i64.bits n &&& BitVec.ofInt IntKind.i64.bits 255).toNat = (n % 256).toNat := by
    rw [BitVec.toNat_and, BitVec.toNat_ofInt, BitVec.toNat_ofInt]
    have e3 : ((255 : Int) % ((2 ^ IntKind.i64.bits : Nat) : Int)).toNat = 2 ^ 8 - 1 := by decide
    rw [e3, Nat.and_two_pow_sub_one_eq_mod]
    show (n % ((2 ^ 64 : Nat) : Int)).toNat % 2 ^ 8 = _
    omega
  rw [e1]
  exact (wrap_i64 _ (by omega) (by omega)).trans (by omega)
theorem byteI_mod (n : Int) : byteI (n % 256) = byteI n := by unfold byteI; rw [Int.emod_emod_of_dvd _ (by decide : (256 : Int) ∣ 256)]
theorem strOf_one (n : Int) : strOf [n] = B [UInt8.ofNat n.toNat] := by
  apply ByteArray.ext; simp [strOf, B]
theorem strOf_byte (n : Int) : strOf [n % 256] = B [byteI n] := by rw [strOf_one]; rfl
theorem beI_drop (n : Int) : ∀ (k j : Nat), (beI (k + j) n).drop j = beI k n
  | k, 0 => rfl
  | k, j + 1 => by rw [← Nat.add_assoc, beI, List.drop_succ_cons, beI_drop n k j]
theorem bytes_at {l : List UInt8} {k : Nat} {c : UInt8} (h : l[k]? = some c) : (bytesL (B l))[k]? = some (.lit (.int .u8 (c.toNat : Int))) := by rw [bytesL_B, List.getElem?_map, h]; rfl
theorem take_snoc {α : Type} {l : List α} {k : Nat} {c : α} (h : l[k]? = some c) : l.take (k + 1) = l.take k ++ [c] := by rw [List.take_succ, h]; rfl
end Go.Ab
end

section
set_option linter.all false
namespace Go.Ab
structure Seen where
  node : ByteArray
  base : Int
  more : List Int
structure Sib where
  node : ByteArray
  n : Int
  value : ByteArray
  gone : Bool
  time : Int
structure Obj' where
  ctx : List Seen
  sibs : List Sib
abbrev vStr' (s : ByteArray) : AVal := .lit (.string s)
@[reducible] def sSeen (x : Seen) : AVal := .agg [.lit (.string x.node), vInt x.base, .sl 1 (x.more.map vInt) false]
@[reducible] def sSib (x : Sib) : AVal := .agg [.lit (.string x.node), vInt x.n, .lit (.string x.value), .lit (.bool x.gone), vInt x.time]
@[reducible] def sObj (x : Obj') : AVal := .agg [.sl 3 (x.ctx.map sSeen) false, .sl 5 (x.sibs.map sSib) false]
end Go.Ab
end

section
set_option linter.all false
set_option maxRecDepth 100000
namespace Go.Ab
abbrev shInts : Sh := .sl false (.int .i64)
abbrev shDot : Sh := .pair .str (.pair (.int .i64) .unit)
abbrev shSeen : Sh := .pair .str (.pair (.int .i64) (.pair shInts .unit))
abbrev shSib : Sh := .pair shDot (.pair .str (.pair .bool (.pair (.int .i64) .unit)))
abbrev shCtx : Sh := .sl true shSeen
abbrev shObj : Sh := .pair shCtx (.pair (.sl true shSib) .unit)
theorem rd_ints {c : List AVal} (h : shInts.ok c) : ∃ l : List Int, c = [.sl 1 (l.map vInt) false] := by
  obtain ⟨l, rfl, _, hl⟩ := h
  obtain ⟨zs, rfl⟩ := lits_of hl
  exact ⟨zs, rfl⟩
theorem rd_seen {c : List AVal} (h : shSeen.ok c) : ∃ x : Seen, .agg c = sSeen x := by
  obtain ⟨_, _, rfl, ⟨s, rfl, _⟩, _, _, rfl, ⟨n, rfl, _⟩, _, _, rfl, h3, rfl⟩ := h
  obtain ⟨l, rfl⟩ := rd_ints h3
  exact ⟨⟨s, n, l⟩, rfl⟩
theorem rd_sib {c : List AVal} (h : shSib.ok c) : ∃ x : Sib, .agg c = sSib x := by
  obtain ⟨_, _, rfl, ⟨_, _, rfl, ⟨s, rfl, _⟩, _, _, rfl, ⟨n, rfl, _⟩, rfl⟩, _, _, rfl, ⟨v, rfl, _⟩, _, _, rfl, ⟨g, rfl⟩, _, _, rfl, ⟨t, rfl, _⟩, rfl⟩ := h
  exact ⟨⟨s, n, v, g, t⟩, rfl⟩
theorem rd_sl {α : Type} (f : α → AVal) {e : Sh} (he : ∀ c, e.ok c → ∃ a, .agg c = f a) {c : List AVal} (h : (Sh.sl true e).ok c) : ∃ zs : List α, c = [.sl e.size (zs.map f) false] := by
  obtain ⟨l, rfl, _, hl⟩ := h
  obtain ⟨zs, rfl⟩ := list_of f (l := l) fun x hx => by
    obtain ⟨c, hc, e⟩ := hl x hx
    simp only [if_true] at e
    rw [e]; exact he c hc
  exact ⟨zs, rfl⟩
theorem rd_ctx {c : List AVal} (h : shCtx.ok c) : ∃ l : List Seen, c = [.sl 3 (l.map sSeen) false] := rd_sl sSeen (fun c hc => rd_seen hc) h
theorem rd_obj {c : List AVal} (h : shObj.ok c) : ∃ x : Obj', .agg c = sObj x := by
  obtain ⟨_, _, rfl, h1, _, _, rfl, h2, rfl⟩ := h
  obtain ⟨l, rfl⟩ := rd_ctx h1
  obtain ⟨m, rfl⟩ := rd_sl sSib (fun c hc => rd_sib hc) h2
  exact ⟨⟨l, m⟩, rfl⟩
theorem rv_obj {a : AVal} (h : Sh.okv shObj true a) : ∃ x : Obj', a = sObj x := by
  obtain ⟨c, hc, e⟩ := h
  obtain ⟨x, hx⟩ := rd_obj hc
  simp only [if_true] at e
  exact ⟨x, by rw [e, hx]⟩
theorem rv_ctx {a : AVal} (h : Sh.okv shCtx false a) : ∃ l : List Seen, a = .sl 3 (l.map sSeen) false := by
  obtain ⟨c, hc, e⟩ := h
  obtain ⟨l, rfl⟩ := rd_ctx hc
  simp only [Bool.false_eq_true, if_false, List.cons.injEq, and_true] at e
  exact ⟨l, e.symm⟩
theorem rv_str {a : AVal} (h : Sh.okv .str false a) : ∃ s : ByteArray, a = vStr s := by
  obtain ⟨c, ⟨s, rfl, _⟩, e⟩ := h
  simp only [Bool.false_eq_true, if_false, List.cons.injEq, and_true] at e
  exact ⟨s, e.symm⟩
theorem rv_sib {a : AVal} (h : Sh.okv shSib true a) : ∃ x : Sib, a = sSib x := by
  obtain ⟨c, hc, e⟩ := h
  obtain ⟨x, hx⟩ := rd_sib hc
  simp only [if_true] at e
  exact ⟨x, by rw [e, hx]⟩
end Go.Ab
end

section
set_option linter.all false
namespace Go.Ab
open Go.RowKit (Below)
open Go.Shelf Go.Proofs

section
variable {P : Program} {σ : Store}

def rowed (w : World) (n b : Nat) (f : Array Value → Array Value) (os : Array Obj) : World := Sort.grow (Sort.mapBlock (Sort.ahead w n) b f) os

theorem rowed_heap_ne (w : World) (n : Nat) {b b' : Nat} (f : Array Value → Array Value) (os : Array Obj) (h : b' ≠ b) (hlt : b' < w.heap.size) : (rowed w n b f os).heap[b']? = w.heap[b']? := by
  unfold rowed Sort.grow Sort.mapBlock Sort.ahead
  dsimp only
  rw [Array.getElem?_append_left (by simpa using hlt), Array.getElem?_modify, if_neg (Ne.symm h)]
theorem rowed_heap {w : World} (n : Nat) {b : Nat} (f : Array Value → Array Value) (os : Array Obj) {c : Array Value} {e : TypeId} {fr : Nat × Nat} (h : w.heap[b]? = some (.cells c e fr)) : (rowed w n b f os).heap[b]? = some (.cells (f c) e fr) := by
  have hlt : b < w.heap.size := (Array.getElem?_eq_some_iff.1 h).1
  unfold rowed Sort.grow Sort.mapBlock Sort.ahead
  dsimp only
  rw [Array.getElem?_append_left (by simpa using hlt), Array.getElem?_modify, if_pos rfl, h]
  rfl

/-- an object's cells are laid anew, and blocks beside it -/
theorem Inv.rowed {κ : K} (h : Inv κ σ) {o : Nat} {cs cs' : List AVal} (ho : σ.heap o = some (.cells cs)) {b : Nat} (hb : κ.ρ o = some b) (n : Nat) (f : Array Value → Array Value) (os : Array Obj) (hf : ∀ c, (f c).size = c.size)
    (hv : ∀ c : Array Value, cs.length ≤ c.size → (∀ i (hi : i < cs.length), Rv κ cs[i] (c.getD i undef)) → cs'.length ≤ c.size ∧ ∀ i (hi : i < cs'.length), Rv κ cs'[i] ((f c).getD i undef)) :
    κ.Le { κ with w := Ab.rowed κ.w n b f os } ∧ Inv { κ with w := Ab.rowed κ.w n b f os } (σ.set o (.cells cs')) := by
  obtain ⟨b', hb', hbase, hIb, c, e, hheap, hlen, hR⟩ := h.heap o _ ho
  rw [hb] at hb'
  obtain rfl := Option.some.inj hb'
  have hlt : b < κ.w.heap.size := (Array.getElem?_eq_some_iff.1 hheap).1
  have hnew := rowed_heap n f os hheap
  have hle : κ.Le { κ with w := Ab.rowed κ.w n b f os } := by
    refine ⟨rfl, ⟨rfl, rfl, rfl, by simp [Ab.rowed, Sort.grow, Sort.mapBlock, Sort.ahead], fun k hk => ?_⟩, fun b' s e' => ?_, fun _ _ e' => e', fun _ _ e' => e', fun _ => Nat.le_refl _, fun b' off' u hi e' => ?_, by simp [Ab.rowed, Sort.grow, Sort.mapBlock, Sort.ahead]⟩
    · exact rowed_heap_ne _ _ _ _ (by omega) (by omega)
    · by_cases hbb : b' = b
      · subst hbb
        unfold World.shape? at e' ⊢
        rw [hheap] at e'
        dsimp only
        rw [hnew]
        simpa [hf] using e'
      · have hlt' : b' < κ.w.heap.size := by
          unfold World.shape? at e'
          cases hq : κ.w.heap[b']? with
          | none => rw [hq] at e'; cases e'
          | some q => exact (Array.getElem?_eq_some_iff.1 hq).1
        unfold World.shape? at e' ⊢
        dsimp only
        rw [rowed_heap_ne _ _ _ _ hbb hlt']; exact e'
    · have hne : b' ≠ b := fun hh' => by rw [hh', hIb] at hi; omega
      have hlt' : b' < κ.w.heap.size := by
        unfold World.cell? at e'
        cases hq : κ.w.heap[b']? with
        | none => rw [hq] at e'; cases e'
        | some q => exact (Array.getElem?_eq_some_iff.1 hq).1
      simp only [World.cell?] at e' ⊢
      rw [rowed_heap_ne _ _ _ _ hne hlt']; exact e'
  obtain ⟨h1, h2⟩ := hv c hlen hR
  have big : κ.w.heap.size ≤ (Ab.rowed κ.w n b f os).heap.size := hle.below.size
  refine ⟨hle, ?_⟩
  refine h.step hle rfl rfl h.frO b hbase hIb (fun b' hne hl' => rowed_heap_ne _ _ _ _ hne hl') o _ (fun _ _ => rfl) hb ⟨f c, e, hnew, by rw [hf]; exact h1, fun i hi => (h2 i hi).mono hle⟩ ?_ ?_
  · intro j z hz hne hh'
    exact hne (h.inj j o _ _ b hz ho hh' hb)
  · intro t sz u ht hu hh'
    exact h.tokobj t sz u b o _ ht hu hh' ho hb

/-- what an object's cells hold, as the kit says it -/
theorem holds_of {α : Type} [Inhabited α] {κ : K} (enc : α → Value) (d : Array α) {b : Nat} {c : Array Value} {e : TypeId} (hh : κ.w.heap[b]? = some (.cells c e (0, 0))) (hl : d.size ≤ c.size) (h : ∀ j, j < d.size → c.getD j undef = enc d[j]!) : Sort.Holds enc κ.w b 0 d := by
  intro j hj
  refine ⟨?_, by simp [World.frozen?, hh]⟩
  have h1 := h j hj
  simp only [World.cell?, hh, Nat.zero_add]
  rw [← h1]
  simp [show j < c.size by omega]

theorem putCells_size {α : Type} [Inhabited α] (enc : α → Value) (off : Nat) (d : Array α) (c : Array Value) : (Sort.putCells enc off d c).size = c.size := by simp [Sort.putCells]
theorem putCells_at {α : Type} [Inhabited α] (enc : α → Value) (d : Array α) (c : Array Value) (j : Nat) (hj : j < d.size) (hc : d.size ≤ c.size) : (Sort.putCells enc 0 d c).getD j undef = enc d[j]! := by
  simp [Sort.putCells, show j < c.size by omega, hj]

theorem Rv.mslInv {κ : K} {o sz off len : Nat} {v : Value} (h : Rv κ (.msl o sz off len) v) : ∃ b cap, v = .slice (some ⟨b, off, none⟩) len cap ∧ κ.ρ o = some b := by
  cases h with
  | msl _ _ _ _ b cap n e hb hlen hs hn => exact ⟨b, cap, rfl, hb⟩

theorem postNil {κ κ' : K} {σ : Store} (hle : κ.Le κ') (hI : Inv κ' σ) {Kk : AVal → Store → Prop} (hk : Kk (.tup []) σ) : Post κ Kk (.tuple #[]) κ'.w :=
  ⟨κ', .tup [], σ, rfl, hle, hI, .tup [] #[] rfl (fun i hi => by simp at hi), hk⟩

/-- one-cell elements -/
theorem sort1_of {α : Type} [Inhabited α] (enc : α → Value) {f : FuncId} {o : Nat} (zs zs' : List α) (hlen : zs'.length = zs.length) (ho : σ.heap o = some (.cells (zs.map fun z => .lit (enc z)))) (extra : List AVal) (ev : List Value)
    (h : ∀ (b cap : Nat) (w : World), Sort.Holds enc w b 0 zs.toArray → b < w.heap.size → Calls P f (#[.slice (some ⟨b, 0, none⟩) zs.length cap] ++ ev.toArray) w fun e w' => e = .returned (.tuple #[]) ∧ ∃ n os, w' = Sort.grow (Sort.putRow enc (Sort.ahead w n) b 0 zs'.toArray) os)
    (he : extra = ev.map .lit) : ACalls P f (.msl o 1 0 zs.length :: extra) σ fun v σ' => v = .tup [] ∧ σ' = σ.set o (.cells (zs'.map fun z => .lit (enc z))) := by
  intro κ vs hI hn hv
  subst he
  obtain ⟨b, cap, e0, hb⟩ := (hv 0 (by simp)).mslInv
  have hvs : vs = #[.slice (some ⟨b, 0, none⟩) zs.length cap] ++ ev.toArray := by
    apply Array.ext (by simpa [Nat.add_comm] using hn)
    intro i h1 h2
    have hi : i < (AVal.msl o 1 0 zs.length :: ev.map .lit).length := by rw [← hn]; exact h1
    have hr := hv i hi
    have eg : vs.getD i undef = vs[i] := by simp [h1]
    rw [eg] at hr
    cases i with
    | zero => rw [← eg, e0]; simp
    | succ i =>
      simp only [List.getElem_cons_succ, List.getElem_map] at hr
      rw [hr.litInv]
      simp [Array.getElem_append]
  obtain ⟨b', hb', hbase, hIb, c, e, hheap, hlen', hR⟩ := hI.heap o _ ho
  rw [hb] at hb'
  obtain rfl := Option.some.inj hb'
  have hlt : b < κ.w.heap.size := (Array.getElem?_eq_some_iff.1 hheap).1
  have hH : Sort.Holds enc κ.w b 0 zs.toArray := holds_of enc zs.toArray hheap (by simpa using hlen') fun j hj => by
    have hj' : j < zs.length := by simpa using hj
    have h1 := hR j (by simpa using hj')
    simp only [List.getElem_map] at h1
    rw [h1.litInv]
    simp [hj']
  rw [hvs]
  refine (h b cap κ.w hH hlt).mono fun ex w' ⟨he, n, os, hw⟩ => ⟨_, he, ?_⟩
  have key := hI.rowed ho hb n (Sort.putCells enc 0 zs'.toArray) os (fun c => putCells_size enc 0 _ c) (cs' := zs'.map fun z => .lit (enc z)) (fun c hc _ => ⟨by simpa [hlen] using hc, fun i hi => by
    have hi' : i < zs'.length := by simpa using hi
    rw [putCells_at enc zs'.toArray c i (by simpa using hi') (by simp at hc ⊢; omega)]
    simp [hi']
    exact .lit _⟩)
  rw [hw]
  exact postNil (κ' := { κ with w := Ab.rowed κ.w n b (Sort.putCells enc 0 zs'.toArray) os }) key.1 key.2 ⟨rfl, rfl⟩
end
end Go.Ab
end

section
set_option linter.all false
set_option maxRecDepth 100000
namespace Go.Proofs
open Go.Shelf
def sortI_ren : Go.Shelf.Ren := ⟨(fun n => match n with | 125 => 42 | 128 => 57 | 129 => 58 | 189 => 33 | 215 => 43 | 216 => 65 | 257 => 45 | 294 => 59 | 295 => 60 | 296 => 61 | 297 => 62 | 298 => 63 | 299 => 64 | 300 => 66 | 301 => 67 | 328 => 84 | 329 => 80 | 330 => 81 | 331 => 85 | 332 => 86 | 343 => 94 | _ => 0), (fun n => match n with | 0 => 0 | 3 => 3 | 4 => 4 | 5 => 5 | 9 => 9 | 28 => 23 | 46 => 85 | 51 => 105 | 53 => 107 | 131 => 102 | 182 => 97 | 183 => 98 | 218 => 120 | 222 => 124 | 228 => 133 | 229 => 134 | _ => 0), (fun n => match n with  | _ => 0)⟩
theorem sortI : Lays.n189 Tryz.prog sortI_ren := {
  mixed := Tryz.mixed
  f125 := by kernel_rfl
  f128 := by kernel_rfl
  f129 := by kernel_rfl
  f189 := by kernel_rfl
  f215 := by kernel_rfl
  f216 := by kernel_rfl
  f257 := by kernel_rfl
  f294 := by kernel_rfl
  f295 := by kernel_rfl
  f296 := by kernel_rfl
  f297 := by kernel_rfl
  f298 := by kernel_rfl
  f299 := by kernel_rfl
  f300 := by kernel_rfl
  f301 := by kernel_rfl
  f328 := by kernel_rfl
  f329 := by kernel_rfl
  f330 := by kernel_rfl
  f331 := by kernel_rfl
  f332 := by kernel_rfl
  f343 := by kernel_rfl
  t0 := Tryz.underlying0
  a0 := Tryz.isAgg0
  z0 := Tryz.sizeOf0
  v0 := Tryz.zeroValue0
  t3 := Tryz.underlying3
  a3 := Tryz.isAgg3
  z3 := Tryz.sizeOf3
  v3 := Tryz.zeroValue3
  t4 := Tryz.underlying4
  a4 := Tryz.isAgg4
  z4 := Tryz.sizeOf4
  v4 := Tryz.zeroValue4
  t5 := Tryz.underlying5
  a5 := Tryz.isAgg5
  z5 := Tryz.sizeOf5
  v5 := Tryz.zeroValue5
  t9 := Tryz.underlying9
  a9 := Tryz.isAgg9
  z9 := Tryz.sizeOf9
  v9 := Tryz.zeroValue9
  t28 := Tryz.underlying23
  a28 := Tryz.isAgg23
  z28 := Tryz.sizeOf23
  v28 := Tryz.zeroValue23
  t46 := Tryz.underlying85
  a46 := Tryz.isAgg85
  z46 := Tryz.sizeOf85
  v46 := Tryz.zeroValue85
  t51 := Tryz.underlying105
  a51 := Tryz.isAgg105
  z51 := Tryz.sizeOf105
  v51 := Tryz.zeroValue105
  t53 := Tryz.underlying107
  a53 := Tryz.isAgg107
  z53 := Tryz.sizeOf107
  v53 := Tryz.zeroValue107
  t131 := Tryz.underlying102
  a131 := Tryz.isAgg102
  z131 := Tryz.sizeOf102
  v131 := Tryz.zeroValue102
  t182 := Tryz.underlying97
  a182 := Tryz.isAgg97
  z182 := Tryz.sizeOf97
  v182 := Tryz.zeroValue97
  t183 := Tryz.underlying98
  a183 := Tryz.isAgg98
  z183 := Tryz.sizeOf98
  v183 := Tryz.zeroValue98
  t218 := Tryz.underlying120
  a218 := Tryz.isAgg120
  z218 := Tryz.sizeOf120
  v218 := Tryz.zeroValue120
  t222 := Tryz.underlying124
  a222 := Tryz.isAgg124
  z222 := Tryz.sizeOf124
  v222 := Tryz.zeroValue124
  t228 := Tryz.underlying133
  a228 := Tryz.isAgg133
  z228 := Tryz.sizeOf133
  v228 := Tryz.zeroValue133
  t229 := Tryz.underlying134
  a229 := Tryz.isAgg134
  z229 := Tryz.sizeOf134
  v229 := Tryz.zeroValue134 }

def sortS_ren : Go.Shelf.Ren := ⟨(fun n => match n with | 125 => 42 | 128 => 57 | 129 => 58 | 190 => 35 | 258 => 46 | 302 => 68 | 303 => 69 | 304 => 70 | 305 => 71 | 306 => 72 | 307 => 73 | 308 => 74 | 309 => 75 | 310 => 76 | 329 => 80 | 330 => 81 | 333 => 87 | 334 => 88 | 335 => 89 | 336 => 90 | 344 => 95 | _ => 0), (fun n => match n with | 0 => 0 | 3 => 3 | 4 => 4 | 5 => 5 | 9 => 9 | 31 => 26 | 46 => 85 | 51 => 105 | 53 => 107 | 131 => 102 | 182 => 97 | 183 => 98 | 218 => 120 | 222 => 124 | 228 => 133 | 229 => 134 | _ => 0), (fun n => match n with  | _ => 0)⟩
theorem sortS : Lays.n190 Tryz.prog sortS_ren := {
  mixed := Tryz.mixed
  f125 := by kernel_rfl
  f128 := by kernel_rfl
  f129 := by kernel_rfl
  f190 := by kernel_rfl
  f258 := by kernel_rfl
  f302 := by kernel_rfl
  f303 := by kernel_rfl
  f304 := by kernel_rfl
  f305 := by kernel_rfl
  f306 := by kernel_rfl
  f307 := by kernel_rfl
  f308 := by kernel_rfl
  f309 := by kernel_rfl
  f310 := by kernel_rfl
  f329 := by kernel_rfl
  f330 := by kernel_rfl
  f333 := by kernel_rfl
  f334 := by kernel_rfl
  f335 := by kernel_rfl
  f336 := by kernel_rfl
  f344 := by kernel_rfl
  t0 := Tryz.underlying0
  a0 := Tryz.isAgg0
  z0 := Tryz.sizeOf0
  v0 := Tryz.zeroValue0
  t3 := Tryz.underlying3
  a3 := Tryz.isAgg3
  z3 := Tryz.sizeOf3
  v3 := Tryz.zeroValue3
  t4 := Tryz.underlying4
  a4 := Tryz.isAgg4
  z4 := Tryz.sizeOf4
  v4 := Tryz.zeroValue4
  t5 := Tryz.underlying5
  a5 := Tryz.isAgg5
  z5 := Tryz.sizeOf5
  v5 := Tryz.zeroValue5
  t9 := Tryz.underlying9
  a9 := Tryz.isAgg9
  z9 := Tryz.sizeOf9
  v9 := Tryz.zeroValue9
  t31 := Tryz.underlying26
  a31 := Tryz.isAgg26
  z31 := Tryz.sizeOf26
  v31 := Tryz.zeroValue26
  t46 := Tryz.underlying85
  a46 := Tryz.isAgg85
  z46 := Tryz.sizeOf85
  v46 := Tryz.zeroValue85
  t51 := Tryz.underlying105
  a51 := Tryz.isAgg105
  z51 := Tryz.sizeOf105
  v51 := Tryz.zeroValue105
  t53 := Tryz.underlying107
  a53 := Tryz.isAgg107
  z53 := Tryz.sizeOf107
  v53 := Tryz.zeroValue107
  t131 := Tryz.underlying102
  a131 := Tryz.isAgg102
  z131 := Tryz.sizeOf102
  v131 := Tryz.zeroValue102
  t182 := Tryz.underlying97
  a182 := Tryz.isAgg97
  z182 := Tryz.sizeOf97
  v182 := Tryz.zeroValue97
  t183 := Tryz.underlying98
  a183 := Tryz.isAgg98
  z183 := Tryz.sizeOf98
  v183 := Tryz.zeroValue98
  t218 := Tryz.underlying120
  a218 := Tryz.isAgg120
  z218 := Tryz.sizeOf120
  v218 := Tryz.zeroValue120
  t222 := Tryz.underlying124
  a222 := Tryz.isAgg124
  z222 := Tryz.sizeOf124
  v222 := Tryz.zeroValue124
  t228 := Tryz.underlying133
  a228 := Tryz.isAgg133
  z228 := Tryz.sizeOf133
  v228 := Tryz.zeroValue133
  t229 := Tryz.underlying134
  a229 := Tryz.isAgg134
  z229 := Tryz.sizeOf134
  v229 := Tryz.zeroValue134 }

end Go.Proofs
namespace Go.Proofs.YtbjloippgpilcaaGreatDoor
open Go.Ab Go.Shelf
theorem sortInt_c {o : Nat} {zs : List Int} {σ : Store} (ho : σ.heap o = some (.cells (zs.map vInt))) (hl : zs.length ≤ 1000000000) :
    ACalls Tryz.prog 33 [.msl o 1 0 zs.length] σ fun v σ' => v = .tup [] ∧ σ' = σ.set o (.cells ((zs.mergeSort fun x y => decide (x ≤ y)).map vInt)) :=
  sort1_of (Value.int .i64) zs _ (by simp) ho [] [] (fun b cap w hH hb => by
    have h : Calls Tryz.prog 33 #[.slice (some ⟨b, 0, none⟩) zs.length cap] w _ := Any.slices_Sort_int sortI b 0 cap zs w hH hb (by omega)
    simpa using h) rfl
def sortSS (ss : List ByteArray) : List ByteArray := ((ss.map Lb).mergeSort fun x y => decide (x ≤ y)).map B
theorem encStr_B (l : List UInt8) : Go.Proofs.encStr l = .string (B l) := rfl
theorem sortStr_c {o : Nat} {ss : List ByteArray} {σ : Store} (ho : σ.heap o = some (.cells (ss.map vStr))) (hl : ss.length ≤ 1000000000) :
    ACalls Tryz.prog 35 [.msl o 1 0 ss.length] σ fun v σ' => v = .tup [] ∧ σ' = σ.set o (.cells ((sortSS ss).map vStr)) := by
  have e1 : ∀ z : List (List UInt8), (z.map fun l => AVal.lit (Go.Proofs.encStr l)) = (z.map B).map vStr := fun z => by rw [List.map_map]; rfl
  have e2 : (ss.map Lb).map B = ss := by rw [List.map_map]; conv => rhs; rw [← List.map_id ss]
                                         apply List.map_congr_left; intro x _; exact B_Lb x
  have h := sort1_of (P := Tryz.prog) (σ := σ) (f := 35) (o := o) Go.Proofs.encStr (ss.map Lb) ((ss.map Lb).mergeSort fun x y => decide (x ≤ y)) (by simp) (by rw [e1, e2]; exact ho) [] [] (fun b cap w hH hb => by
    have h : Calls Tryz.prog 35 #[.slice (some ⟨b, 0, none⟩) (ss.map Lb).length cap] w _ := Any.slices_Sort_string sortS b 0 cap (ss.map Lb) w hH hb (by simp; omega)
    simpa using h) rfl
  rw [e1] at h
  simpa only [List.length_map, sortSS] using h
theorem sortNil_c {f : FuncId} {σ : Store} (h : ∀ w, Calls Tryz.prog f #[.slice none 0 0] w fun e w' => e = .returned (.tuple #[]) ∧ w' = w) :
    ACalls Tryz.prog f [.lit (.slice none 0 0)] σ fun v σ' => v = .tup [] ∧ σ' = σ := by
  intro κ vs hI hn hv
  have e0 := (hv 0 (by simp)).litInv
  have hvs : vs = #[.slice none 0 0] := by
    apply Array.ext (by simpa using hn)
    intro i h1 h2
    simp at h2
    subst h2
    have eg : vs.getD 0 undef = vs[0] := by simp [h1]
    rw [← eg, e0]; rfl
  rw [hvs]
  exact (h κ.w).mono fun ex w' ⟨he, hw⟩ => ⟨_, he, by rw [hw]; exact postNil (K.Le.refl κ) hI ⟨rfl, rfl⟩⟩
end Go.Proofs.YtbjloippgpilcaaGreatDoor
end

section
set_option linter.all false
namespace Go.Ab
open Go.RowKit (Below)
open Go.Shelf Go.Proofs Go.Sort

section
variable {P : Program} {σ : Store}
theorem world_grown {w w' : World} (hb : Below w.heap.size w w') (hd : w.drawn ≤ w'.drawn) : ∃ q os', w' = Sort.grow (w.drewN q) os' := by
  obtain ⟨heap, tape, drawn, os, output⟩ := w'
  obtain ⟨h1, h2, h3, h4, h5⟩ := hb
  simp only at h1 h2 h3 h4 h5 hd
  subst h1; subst h2; subst h3
  refine ⟨drawn - w.drawn, heap.extract w.heap.size heap.size, ?_⟩
  unfold Sort.grow World.drewN
  have e1 : w.drawn + (drawn - w.drawn) = drawn := by omega
  have e2 : w.heap ++ heap.extract w.heap.size heap.size = heap := by
    apply Array.ext_getElem?
    intro i
    by_cases hi : i < w.heap.size
    · rw [Array.getElem?_append_left hi, h5 i hi]
    · rw [Array.getElem?_append_right (by omega), Array.getElem?_extract]
      by_cases hi' : i < heap.size
      · rw [if_pos (by omega), show w.heap.size + (i - w.heap.size) = i by omega]
      · rw [if_neg (by omega), Array.getElem?_eq_none (by omega)]
  simp only [e1, e2]
theorem cmp_lays {g : FuncId} {a b : AVal} {u v : Value} {c : Int} (h : ACalls P g [a, b] s0 fun v σ' => v = vInt c ∧ s0 = σ') (ha : ∀ κ, Rv κ a u) (hb : ∀ κ, Rv κ b v) (w : World) (hG : Glob w w.heap.size := by intro p hp; cases hp) :
    Calls P g #[u, v] w fun e w' => e = .returned (.int .i64 c) ∧ ∃ q os', w' = Sort.grow (w.drewN q) os' := by
  have := h (kOf w) #[u, v] (kOf_inv w hG) rfl (fun i hi => by
    match i, hi with
    | 0, _ => exact ha _
    | 1, _ => exact hb _)
  refine this.mono fun e w' ⟨cv, he, κ', a, σ', hw, hle, _, hv, ha⟩ => ?_
  obtain ⟨rfl, _⟩ := ha
  obtain rfl := hv.litInv
  subst hw
  exact ⟨he, world_grown hle.below hle.drawn⟩
theorem sortK_of {f : FuncId} {o k n : Nat} (F : List Value) (Q : List Value → Prop) (ho : σ.heap o = some (.cells (F.map .lit))) (extra : List AVal) (ev : List Value)
    (h : ∀ (b cap : Nat) (w : World), Glob w b → Sort.Holds id w b 0 F.toArray → b < w.heap.size → Calls P f (#[.slice (some ⟨b, 0, none⟩) n cap] ++ ev.toArray) w fun e w' => e = .returned (.tuple #[]) ∧ ∃ F' m os, Q F' ∧ F'.length = F.length ∧ w' = Sort.grow (Sort.putRow id (Sort.ahead w m) b 0 F'.toArray) os)
    (he : extra = ev.map .lit) : ACalls P f (.msl o k 0 n :: extra) σ fun v σ' => v = .tup [] ∧ ∃ F', Q F' ∧ σ' = σ.set o (.cells (F'.map .lit)) := by
  intro κ vs hI hn hv
  subst he
  obtain ⟨b, cap, e0, hb⟩ := (hv 0 (by simp)).mslInv
  have hvs : vs = #[.slice (some ⟨b, 0, none⟩) n cap] ++ ev.toArray := by
    apply Array.ext (by simpa [Nat.add_comm] using hn)
    intro i h1 h2
    have hi : i < (AVal.msl o k 0 n :: ev.map .lit).length := by rw [← hn]; exact h1
    have hr := hv i hi
    have eg : vs.getD i undef = vs[i] := by simp [h1]
    rw [eg] at hr
    cases i with
    | zero => rw [← eg, e0]; simp
    | succ i =>
      simp only [List.getElem_cons_succ, List.getElem_map] at hr
      rw [hr.litInv]
      simp [Array.getElem_append]
  obtain ⟨b', hb', hbase, hIb, c, e, hheap, hlen', hR⟩ := hI.heap o _ ho
  rw [hb] at hb'
  obtain rfl := Option.some.inj hb'
  have hlt : b < κ.w.heap.size := (Array.getElem?_eq_some_iff.1 hheap).1
  have hH : Sort.Holds id κ.w b 0 F.toArray := holds_of id F.toArray hheap (by simpa using hlen') fun j hj => by
    have hj' : j < F.length := by simpa using hj
    have h1 := hR j (by simpa using hj')
    simp only [List.getElem_map] at h1
    rw [h1.litInv]
    simp [hj']
  rw [hvs]
  refine (h b cap κ.w (fun p hp => ⟨Nat.lt_of_lt_of_le (hI.glob p hp).1 hbase, (hI.glob p hp).2⟩) hH hlt).mono fun ex w' ⟨he, F', m, os, hQ, hlen, hw⟩ => ⟨_, he, ?_⟩
  have key := hI.rowed ho hb m (Sort.putCells id 0 F'.toArray) os (fun c => putCells_size id 0 _ c) (cs' := F'.map .lit) (fun c hc _ => ⟨by simpa [hlen] using hc, fun i hi => by
    have hi' : i < F'.length := by simpa using hi
    rw [putCells_at id F'.toArray c i (by simpa using hi') (by simp at hc ⊢; omega)]
    simp [hi']
    exact .lit _⟩)
  rw [hw]
  exact postNil (κ' := { κ with w := Ab.rowed κ.w m b (Sort.putCells id 0 F'.toArray) os }) key.1 key.2 ⟨rfl, F', hQ, rfl⟩
theorem glob_sorted {α : Type} [Inhabited α] (enc : α → List Value) (k : Nat) {w : World} {b : Nat} (h : Glob w b) (hb : b < w.heap.size) (m : Nat) (dk : Array α) (os : Array Obj) : Glob (sortWorldK enc k w b 0 m dk os) (sortWorldK enc k w b 0 m dk os).heap.size := by
  have e : sortWorldK enc k w b 0 m dk os = Ab.rowed w m b (Sort.putCells id 0 (flatK enc k dk)) os := by simp [sortWorldK, putRowK, Ab.rowed, Sort.putRow]
  intro p hp
  obtain ⟨h1, ty, fr, h2⟩ := h p hp
  have h3 : (sortWorldK enc k w b 0 m dk os).heap[p.1]? = some (.cells p.2 ty fr) := by rw [e, rowed_heap_ne w m _ os (by omega) (by omega)]; exact h2
  exact ⟨(Array.getElem?_eq_some_iff.1 h3).1, ty, fr, h3⟩
theorem flat_flatK {α : Type} [Inhabited α] (s : α → AVal) (enc : α → List Value) {k : Nat} (hs : ∀ x, (s x).cells = (enc x).map .lit) (hk : ∀ x, (enc x).length = k) (L : List α) : flat (L.map s) = ((flatK enc k L.toArray).toList).map .lit := by
  have hsz : ∀ y ∈ L.map s, y.cells.length = k := fun y hy => by
    obtain ⟨x, _, rfl⟩ := List.mem_map.1 hy
    rw [hs, List.length_map, hk]
  have hlen := flat_length hsz
  rw [List.length_map] at hlen
  apply List.ext_getElem (by simp [hlen])
  intro i h1 h2
  obtain ⟨hi, hj, e⟩ := flat_at hsz i h1
  rw [e]
  have hi' : i / k < L.length := by simpa using hi
  have hmod : i % k < k := by
    simp only [List.getElem_map, hs, List.length_map, hk] at hj
    exact hj
  simp only [List.getElem_map, hs, Array.getElem_toList]
  have h3 : i < L.toArray.size * k := by simpa [hlen] using h1
  have := get_flatK enc k L.toArray i h3
  rw [getElem!_pos (flatK enc k L.toArray) i (by simpa using h3)] at this
  rw [this]
  simp [hi', hk, hmod]
theorem perm_of {α : Type} [Inhabited α] {d d' : Array α} (h : Sort.PermIn 0 d.size d d') : d'.toList.Perm d.toList := by
  obtain ⟨h1, _, h2⟩ := h
  have e1 : (d'.extract 0 d.size).toList = d'.toList := by rw [← h1]; simp
  have e2 : (d.extract 0 d.size).toList = d.toList := by simp
  rw [e1, e2] at h2
  exact h2
theorem sorted_of {α : Type} [Inhabited α] {lt : α → α → Bool} {d : Array α} {n : Nat} (hn : d.size = n) (h : Sort.SortedIn lt 0 n d) : d.toList.Pairwise fun x y => lt y x = false := by
  rw [List.pairwise_iff_getElem]
  intro i j hi hj hij
  have := h i j (Nat.zero_le _) hij (by simp at hj; omega)
  simp at hi hj
  simpa [hi, hj] using this
end
end Go.Ab
end

section
set_option linter.all false
set_option maxRecDepth 100000
namespace Go.Proofs
open Go.Shelf
def compactSt_ren : Go.Shelf.Ren := ⟨(fun n => match n with | 194 => 36 | _ => 0), (fun n => match n with | 0 => 0 | 3 => 3 | 4 => 4 | 9 => 9 | 31 => 26 | _ => 0), (fun n => match n with  | _ => 0)⟩
theorem compactSt : Lays.n194 Tryz.prog compactSt_ren := {
  mixed := Tryz.mixed
  f194 := by kernel_rfl
  t0 := Tryz.underlying0
  a0 := Tryz.isAgg0
  z0 := Tryz.sizeOf0
  v0 := Tryz.zeroValue0
  t3 := Tryz.underlying3
  a3 := Tryz.isAgg3
  z3 := Tryz.sizeOf3
  v3 := Tryz.zeroValue3
  t4 := Tryz.underlying4
  a4 := Tryz.isAgg4
  z4 := Tryz.sizeOf4
  v4 := Tryz.zeroValue4
  t9 := Tryz.underlying9
  a9 := Tryz.isAgg9
  z9 := Tryz.sizeOf9
  v9 := Tryz.zeroValue9
  t31 := Tryz.underlying26
  a31 := Tryz.isAgg26
  z31 := Tryz.sizeOf26
  v31 := Tryz.zeroValue26 }

end Go.Proofs
namespace Go.Ab
open Go.RowKit (Below)
open Go.Shelf Go.Proofs
section
variable {P : Program} {σ : Store}
theorem ACalls.after {f : FuncId} {args : List AVal} {Q1 Q2 : AVal → Store → Prop} (h : ACalls P f args σ Q1)
    (hk : ∀ (κ : K) a σ' cv, Inv κ σ' → Rv κ a cv → Q1 a σ' → ∃ κ' a' σ'', κ'.w = κ.w ∧ κ.Le κ' ∧ Inv κ' σ'' ∧ Rv κ' a' cv ∧ Q2 a' σ'') : ACalls P f args σ Q2 :=
  fun κ vs hI hn hv => (h κ vs hI hn hv).mono fun e w' ⟨cv, he, κ1, a, σ', h1, h2, h3, h4, h5⟩ => by
    obtain ⟨κ2, a', σ'', g1, g2, g3, g4, g5⟩ := hk κ1 a σ' cv h3 h4 h5
    exact ⟨cv, he, κ2, a', σ'', g1.trans h1, h2.trans g2, g3, g4, g5⟩

theorem compact1_of {α : Type} [Inhabited α] (enc : α → Value) {f : FuncId} {o k : Nat} (zs ys : List α) (hlen : ys.length = zs.length) (hk : k ≤ zs.length) (ho : σ.heap o = some (.cells (zs.map fun z => .lit (enc z))))
    (h : ∀ (b cap : Nat) (w : World), Sort.Holds enc w b 0 zs.toArray → zs.length ≤ cap → Calls P f #[.slice (some ⟨b, 0, none⟩) zs.length cap] w fun e w' => e = .returned (.slice (some ⟨b, 0, none⟩) k cap) ∧ ∃ q, w' = Sort.putRow enc (Sort.ahead w q) b 0 ys.toArray) :
    ACalls P f [.msl o 1 0 zs.length] σ fun v σ' => v = .msl o 1 0 k ∧ σ' = σ.set o (.cells (ys.map fun z => .lit (enc z))) := by
  intro κ vs hI hn hv
  have hv0 := hv 0 (by simp)
  simp only [List.getElem_cons_zero] at hv0
  have hvs : ∃ u, vs = #[u] ∧ vs.getD 0 undef = u := by
    have h1 : 0 < vs.size := by rw [hn]; simp
    refine ⟨vs[0], ?_, by simp [h1]⟩
    apply Array.ext (by simpa using hn)
    intro i h1 h2
    simp at h2; subst h2; rfl
  obtain ⟨u, rfl, hu⟩ := hvs
  rw [hu] at hv0
  cases hv0 with
  | msl _ _ _ _ b cap nn e1 hb hlc hs hnn =>
  obtain ⟨b', hb', hbase, hIb, c, e, hheap, hlen', hR⟩ := hI.heap o _ ho
  rw [hb] at hb'
  obtain rfl := Option.some.inj hb'
  have hlt : b < κ.w.heap.size := (Array.getElem?_eq_some_iff.1 hheap).1
  have hH : Sort.Holds enc κ.w b 0 zs.toArray := holds_of enc zs.toArray hheap (by simpa using hlen') fun j hj => by
    have hj' : j < zs.length := by simpa using hj
    have h1 := hR j (by simpa using hj')
    simp only [List.getElem_map] at h1
    rw [h1.litInv]
    simp [hj']
  refine (h b cap κ.w hH hlc).mono fun ex w' ⟨he, q, hw⟩ => ⟨_, he, ?_⟩
  have key := hI.rowed ho hb q (Sort.putCells enc 0 ys.toArray) #[] (fun c => putCells_size enc 0 _ c) (cs' := ys.map fun z => .lit (enc z)) (fun c hc _ => ⟨by simpa [hlen] using hc, fun i hi => by
    have hi' : i < ys.length := by simpa using hi
    rw [putCells_at enc ys.toArray c i (by simpa using hi') (by simp at hc ⊢; omega)]
    simp [hi']
    exact .lit _⟩)
  have hw2 : w' = Ab.rowed κ.w q b (Sort.putCells enc 0 ys.toArray) #[] := by rw [hw]; simp [Ab.rowed, Sort.grow, Sort.putRow]
  rw [hw2]
  exact ⟨{ κ with w := Ab.rowed κ.w q b (Sort.putCells enc 0 ys.toArray) #[] }, .msl o 1 0 k, _, rfl, key.1, key.2, .msl o 1 0 k b cap nn e1 hb (by omega) (key.1.shape _ _ hs) hnn, rfl, rfl⟩
end
end Go.Ab
namespace Go.Proofs.YtbjloippgpilcaaGreatDoor
open Go.Ab Go.Shelf
theorem flat_vStr (ss : List ByteArray) : flat (ss.map vStr) = ss.map vStr := flat_one fun x hx => by
  obtain ⟨s, _, rfl⟩ := List.mem_map.1 hx
  rfl
theorem flat_vInt (zs : List Int) : flat (zs.map vInt) = zs.map vInt := flat_one fun x hx => by
  obtain ⟨s, _, rfl⟩ := List.mem_map.1 hx
  rfl
def sortII (zs : List Int) : List Int := zs.mergeSort fun x y => decide (x ≤ y)
def compactL (ss : List ByteArray) : List ByteArray := (Lib.compact (ss.map Lb)).map B
/-- sort, of a row that grew -/
theorem sortIntC {σ0 σ : Store} {zs : List Int} {a : AVal} (h : CBp σ0 σ 1 (zs.map vInt) a) (hl : zs.length ≤ 1000000000) :
    ACalls Tryz.prog 33 [a] σ fun v σ' => v = .tup [] ∧ CBp σ0 σ' 1 ((sortII zs).map vInt) a := by
  rcases h with ⟨rfl, h0, rfl⟩ | ⟨o, ho, rfl, rfl⟩
  · obtain rfl : zs = [] := by simpa using h0
    exact (sortNil_c fun w => Any.slices_Sort_int_none sortI none 0 w).wkS fun v σ' ⟨hv, hs⟩ => ⟨v, σ', .refl _, .refl _, hv, .inl ⟨rfl, by simp [sortII], hs⟩⟩
  · rw [flat_vInt, List.length_map]
    exact (sortInt_c (Store.set_get ..) hl).wkS fun v σ' ⟨hv, hs⟩ => ⟨v, σ', .refl _, .refl _, hv, .inr ⟨o, ho, by simp [sortII], by rw [hs, Store.set_set, flat_vInt]; rfl⟩⟩
theorem sortStrC {σ0 σ : Store} {ss : List ByteArray} {a : AVal} (h : CBp σ0 σ 1 (ss.map vStr) a) (hl : ss.length ≤ 1000000000) :
    ACalls Tryz.prog 35 [a] σ fun v σ' => v = .tup [] ∧ CBp σ0 σ' 1 ((sortSS ss).map vStr) a := by
  rcases h with ⟨rfl, h0, rfl⟩ | ⟨o, ho, rfl, rfl⟩
  · obtain rfl : ss = [] := by simpa using h0
    exact (sortNil_c fun w => Any.slices_Sort_string_none sortS none 0 w).wkS fun v σ' ⟨hv, hs⟩ => ⟨v, σ', .refl _, .refl _, hv, .inl ⟨rfl, by simp [sortSS], hs⟩⟩
  · rw [flat_vStr, List.length_map]
    exact (sortStr_c (Store.set_get ..) hl).wkS fun v σ' ⟨hv, hs⟩ => ⟨v, σ', .refl _, .refl _, hv, .inr ⟨o, ho, by simp [sortSS], by rw [hs, Store.set_set, flat_vStr]⟩⟩
theorem retNil_c {f : FuncId} {σ : Store} (h : ∀ w, Calls Tryz.prog f #[.slice none 0 0] w fun e w' => e = .returned (.slice none 0 0) ∧ w' = w) :
    ACalls Tryz.prog f [.lit (.slice none 0 0)] σ fun v σ' => v = .lit (.slice none 0 0) ∧ σ' = σ := by
  intro κ vs hI hn hv
  have e0 := (hv 0 (by simp)).litInv
  have hvs : vs = #[.slice none 0 0] := by
    apply Array.ext (by simpa using hn)
    intro i h1 h2
    simp at h2
    subst h2
    have eg : vs.getD 0 undef = vs[0] := by simp [h1]
    rw [← eg, e0]; rfl
  rw [hvs]
  exact (h κ.w).mono fun ex w' ⟨he, hw⟩ => ⟨_, he, by rw [hw]; exact ⟨κ, _, σ, rfl, .refl κ, hI, .lit _, rfl, rfl⟩⟩
/-- compact, and not written any more -/
theorem compactStrC {σ0 σ : Store} {ss : List ByteArray} {a : AVal} (h : CBp σ0 σ 1 (ss.map vStr) a) (hl : ss.length ≤ 1000000000) (hc : (Lib.compact (ss.map Lb)).length ≤ ss.length) :
    ACalls Tryz.prog 36 [a] σ fun v σ' => v = .sl 1 ((compactL ss).map vStr) false ∧ σ0 = σ' := by
  rcases h with ⟨rfl, h0, rfl⟩ | ⟨o, ho, rfl, rfl⟩
  · obtain rfl : ss = [] := by simpa using h0
    exact (retNil_c fun w => Any.slices_Compact_string_empty compactSt none 0 w).wkS fun v σ' ⟨hv, hs⟩ => ⟨_, σ', by rw [hv]; exact .nil 1 false, .refl _, rfl, hs.symm⟩
  · rw [flat_vStr, List.length_map]
    have e1 : ∀ z : List (List UInt8), (z.map fun l => AVal.lit (Go.Proofs.encStr l)) = (z.map B).map vStr := fun z => by rw [List.map_map]; rfl
    have e2 : (ss.map Lb).map B = ss := by
      rw [List.map_map]; conv => rhs; rw [← List.map_id ss]
      apply List.map_congr_left; intro x _; exact B_Lb x
    have key := compact1_of (P := Tryz.prog) (f := 36) (o := o) (σ := σ0.set o (.cells (ss.map vStr))) Go.Proofs.encStr (ss.map Lb) (Lib.compact (ss.map Lb) ++ List.replicate ((ss.map Lb).length - (Lib.compact (ss.map Lb)).length) []) (k := (Lib.compact (ss.map Lb)).length) (by simp; omega) (by simpa using hc) (by rw [e1, e2]; exact Store.set_get ..) fun b cap w hH hcap => Any.slices_Compact_string compactSt b 0 cap (ss.map Lb) w hH (by simp; omega) hcap
    rw [List.length_map] at key
    refine key.after ?_
    rintro κ _ _ cv hI hr ⟨rfl, rfl⟩
    obtain ⟨κ', h1, h2, h3, h4⟩ := Ab.freeze hI hr (Store.set_get ..) (l := (compactL ss).map vStr) (by rw [flat_vStr, e1, List.map_append, List.map_append, Nat.mul_one, List.take_left' (by simp)]; rfl) (by simp [compactL]) fun x hx => by
      obtain ⟨s, _, rfl⟩ := List.mem_map.1 hx
      rfl
    rw [Store.set_set, Store.set_del ho] at h3
    exact ⟨κ', _, _, h1, h2, h3, h4, rfl, rfl⟩
end Go.Proofs.YtbjloippgpilcaaGreatDoor
end
