/-
  SHA-256 AS NUMBERS: what both texts reckon; SHA-256: the program's words and blocks; SHA-256: the program's block; SHA-256: the program's sum; SHA-256: the reference's words and blocks; SHA-256: the reference's block and sum; The bytes of a message, the program's and the reference's; The bytes of a message, the reference's; The hash of texts told apart, and the partition of a place. Both sides. Own work (an AI agent).
-/
import Derived.Test.YtcaflcpcbcneiaaGreatGD
import Derived.Test.YtcaflcpcbcneiaaGreatGG
import Derived.Test.YtcaflcpcbcneiaaGreatGM
import Derived.Test.YtcaflcpcbcneiaaGreatGE

section
set_option linter.all false
namespace Go.Ab
def rotr (x a : Nat) : Nat := (x / 2 ^ a) ||| ((x * 2 ^ (32 - a)) % 4294967296)
theorem bD_ {x a : Nat} (h : x < 4294967296) : rotr x a < 4294967296 :=
 Nat.or_lt_two_pow (n := 32) (Nat.lt_of_le_of_lt (Nat.div_le_self _ _) h) (Nat.mod_lt _ (by decide))
theorem ui_ {x a : Nat} (hx : x < 4294967296) : (x / 2 ^ a ||| x * 2 ^ (32 - a)) % 4294967296 = rotr x a := by
 have := Nat.or_mod_two_pow (a := x / 2 ^ a) (b := x * 2 ^ (32 - a)) (n := 32)
 rw [show (2 : Nat) ^ 32 = 4294967296 from rfl] at this
 rw [this, Nat.mod_eq_of_lt (Nat.lt_of_le_of_lt (Nat.div_le_self _ _) hx)]
 rfl
def tu (x a b c : Nat) : Nat := (rotr x a ^^^ rotr x b) ^^^ rotr x c
def sm (x a b p : Nat) : Nat := (rotr x a ^^^ rotr x b) ^^^ (x / 2 ^ p)
theorem we_ {x a b c : Nat} (h : x < 4294967296) : tu x a b c < 4294967296 :=
 Nat.xor_lt_two_pow (n := 32) (Nat.xor_lt_two_pow (n := 32) (bD_ h) (bD_ h)) (bD_ h)
theorem rY_ {x a b p : Nat} (h : x < 4294967296) : sm x a b p < 4294967296 :=
 Nat.xor_lt_two_pow (n := 32) (Nat.xor_lt_two_pow (n := 32) (bD_ h) (bD_ h)) (Nat.lt_of_le_of_lt (Nat.div_le_self _ _) h)
def gx_ (e : Nat) : Nat := 4294967295 - e
theorem hd_ (e : Nat) : gx_ e < 4294967296 := by unfold gx_; omega
theorem qs_ {e : Nat} (h : e < 4294967296) : 4294967295 ^^^ e = gx_ e := by
 have h1 : (BitVec.allOnes 32 ^^^ BitVec.ofNat 32 e).toNat = 4294967295 ^^^ e := by
  rw [BitVec.toNat_xor, BitVec.toNat_allOnes, BitVec.toNat_ofNat, Nat.mod_eq_of_lt h]
 rw [← h1, BitVec.allOnes_xor, BitVec.toNat_not, BitVec.toNat_ofNat, Nat.mod_eq_of_lt h]
 rfl
theorem nu_ {e : Nat} (h : e < 4294967296) : bXor .u32 4294967295 e = (gx_ e : Int) := by
 have := (k1_ (p := 4294967295) (q := e) (by decide) h).1
 rw [qs_ h] at this
 exact this
theorem tw_ {e : Nat} (h : e < 4294967296) : bAnd .i64 (bXor .i64 (-1) e) 4294967295 = (gx_ e : Int) := by
 have h1 : bXor .i64 (-1) e = -1 - (e : Int) := by
  unfold bXor
  have e1 : BitVec.ofInt IntKind.i64.bits (-1) ^^^ BitVec.ofInt IntKind.i64.bits (e : Int) = ~~~ (BitVec.ofNat 64 e) := by
   rw [dq_]
   show BitVec.ofInt 64 (-1) ^^^ BitVec.ofNat 64 e = _
   rw [show BitVec.ofInt 64 (-1) = BitVec.allOnes 64 from by decide, BitVec.allOnes_xor]
  rw [e1]
  have e4 : (~~~ (BitVec.ofNat 64 e)).toNat = 18446744073709551615 - e := by
   rw [BitVec.toNat_not, BitVec.toNat_ofNat, Nat.mod_eq_of_lt (by omega : e < 2 ^ 64)]
  show IntKind.wrap .i64 (((~~~ (BitVec.ofNat 64 e)).toNat : Nat) : Int) = _
  rw [e4]
  unfold IntKind.wrap
  simp only [IntKind.bits, IntKind.signed, Bool.true_and, decide_eq_true_eq, ge_iff_le]
  have e2 : (2 : Int) ^ 64 = 18446744073709551616 := by decide
  have e3 : (2 : Int) ^ (64 - 1) = 9223372036854775808 := by decide
  simp only [e2, e3]
  split <;> omega
 rw [h1]
 unfold bAnd
 have e1 : (BitVec.ofInt IntKind.i64.bits (-1 - (e : Int)) &&& BitVec.ofInt IntKind.i64.bits 4294967295).toNat = gx_ e := by
  rw [BitVec.toNat_and, BitVec.toNat_ofInt, BitVec.toNat_ofInt]
  have e2 : ((-1 - (e : Int)) % ((2 ^ IntKind.i64.bits : Nat) : Int)).toNat = 18446744073709551615 - e := by
   show ((-1 - (e : Int)) % ((2 ^ 64 : Nat) : Int)).toNat = _
   omega
  have e3 : ((4294967295 : Int) % ((2 ^ IntKind.i64.bits : Nat) : Int)).toNat = 4294967295 := by decide
  rw [e2, e3, so_]
  unfold gx_
  omega
 rw [e1]
 have := hd_ e
 exact aY_ _ (by omega) (by omega)
def ch (e f g : Nat) : Nat := (e &&& f) ^^^ (gx_ e &&& g)
def maj (a b c : Nat) : Nat := ((a &&& b) ^^^ (a &&& c)) ^^^ (b &&& c)
theorem jX_ {p q : Nat} (h : p < 4294967296) : p &&& q < 4294967296 := Nat.lt_of_le_of_lt Nat.and_le_left h
theorem wZ_ {e f g : Nat} (he : e < 4294967296) : ch e f g < 4294967296 := Nat.xor_lt_two_pow (n := 32) (jX_ he) (jX_ (hd_ e))
theorem vB_ {a b c : Nat} (ha : a < 4294967296) (hb : b < 4294967296) : maj a b c < 4294967296 :=
 Nat.xor_lt_two_pow (n := 32) (Nat.xor_lt_two_pow (n := 32) (jX_ ha) (jX_ ha)) (jX_ hb)
def bR_ (l : List UInt8) (j : Nat) : Nat := (l.getD j 0).toNat
theorem bn_ (l : List UInt8) (j : Nat) : bR_ l j < 256 := (l.getD j 0).toNat_lt
def lU_ (p q r s : Nat) : Nat := ((p * 16777216 ||| q * 65536) ||| r * 256) ||| s
theorem sd_ {p q r s : Nat} (hp : p < 256) (hq : q < 256) (hr : r < 256) (hs : s < 256) : lU_ p q r s < 4294967296 :=
 Nat.or_lt_two_pow (n := 32) (Nat.or_lt_two_pow (n := 32) (Nat.or_lt_two_pow (n := 32) (by omega) (by omega)) (by omega)) (by omega)
def w0 (l : List UInt8) (t : Nat) : Nat := lU_ (bR_ l (4 * t)) (bR_ l (4 * t + 1)) (bR_ l (4 * t + 2)) (bR_ l (4 * t + 3))
theorem ql_ (l : List UInt8) (t : Nat) : w0 l t < 4294967296 := sd_ (bn_ ..) (bn_ ..) (bn_ ..) (bn_ ..)
def sa_ (w : List Nat) : Nat := (sm (w.getD (w.length - 2) 0) 17 19 10 + w.getD (w.length - 7) 0 + sm (w.getD (w.length - 15) 0) 7 18 3 + w.getD (w.length - 16) 0) % 4294967296
theorem sb_ (w : List Nat) : sa_ w < 4294967296 := Nat.mod_lt _ (by decide)
def lT_ (l : List UInt8) (w : List Nat) : Nat := if w.length < 16 then w0 l w.length else sa_ w
theorem sc_ (l : List UInt8) (w : List Nat) : lT_ l w < 4294967296 := by unfold lT_; split; exact ql_ ..; exact sb_ _
def wds (l : List UInt8) : Nat → List Nat
 |0 => []
 |n + 1 => wds l n ++ [lT_ l (wds l n)]
theorem bN_ (l : List UInt8) : ∀ n, (wds l n).length = n
 |0 => rfl
 |n + 1 => by rw [wds, List.length_append, bN_ l n]; rfl
theorem ni_ (l : List UInt8) : ∀ n, ∀ x ∈ wds l n, x < 4294967296
 |0 => by simp [wds]
 |n + 1 => fun x hx => by
  rw [wds] at hx
  rcases List.mem_append.1 hx with h | h
  ·exact ni_ l n x h
  ·obtain rfl := List.mem_singleton.1 h; exact sc_ ..
theorem eN_ {w : List Nat} (h : ∀ x ∈ w, x < 4294967296) (j : Nat) : w.getD j 0 < 4294967296 := by
 rw [List.getD_eq_getElem?_getD]
 cases hj : w[j]? with
 |none => decide
 |some x => exact h x (List.mem_of_getElem? hj)
def kS : List Nat := [0x428a2f98, 0x71374491, 0xb5c0fbcf, 0xe9b5dba5, 0x3956c25b, 0x59f111f1, 0x923f82a4, 0xab1c5ed5,
 0xd807aa98, 0x12835b01, 0x243185be, 0x550c7dc3, 0x72be5d74, 0x80deb1fe, 0x9bdc06a7, 0xc19bf174,
 0xe49b69c1, 0xefbe4786, 0x0fc19dc6, 0x240ca1cc, 0x2de92c6f, 0x4a7484aa, 0x5cb0a9dc, 0x76f988da,
 0x983e5152, 0xa831c66d, 0xb00327c8, 0xbf597fc7, 0xc6e00bf3, 0xd5a79147, 0x06ca6351, 0x14292967,
 0x27b70a85, 0x2e1b2138, 0x4d2c6dfc, 0x53380d13, 0x650a7354, 0x766a0abb, 0x81c2c92e, 0x92722c85,
 0xa2bfe8a1, 0xa81a664b, 0xc24b8b70, 0xc76c51a3, 0xd192e819, 0xd6990624, 0xf40e3585, 0x106aa070,
 0x19a4c116, 0x1e376c08, 0x2748774c, 0x34b0bcb5, 0x391c0cb3, 0x4ed8aa4a, 0x5b9cca4f, 0x682e6ff3,
 0x748f82ee, 0x78a5636f, 0x84c87814, 0x8cc70208, 0x90befffa, 0xa4506ceb, 0xbef9a3f7, 0xc67178f2]
theorem w8_ : ∀ x ∈ kS, x < 4294967296 := by decide
structure St8 where
 a : Nat
 b : Nat
 c : Nat
 d : Nat
 e : Nat
 f : Nat
 g : Nat
 h : Nat
structure St8.Ok (x : St8) : Prop where
 a : x.a < 4294967296
 b : x.b < 4294967296
 c : x.c < 4294967296
 d : x.d < 4294967296
 e : x.e < 4294967296
 f : x.f < 4294967296
 g : x.g < 4294967296
 h : x.h < 4294967296
def t1S (x : St8) (k w : Nat) : Nat := x.h + tu x.e 6 11 25 + ch x.e x.f x.g + k + w
def t2S (x : St8) : Nat := tu x.a 2 13 22 + maj x.a x.b x.c
def rnd (x : St8) (k w : Nat) : St8 := ⟨(t1S x k w + t2S x) % 4294967296, x.a, x.b, x.c, (x.d + t1S x k w) % 4294967296, x.e, x.f, x.g⟩
theorem vZ_ {x : St8} (h : x.Ok) (k w : Nat) : (rnd x k w).Ok := ⟨Nat.mod_lt _ (by decide), h.a, h.b, h.c, Nat.mod_lt _ (by decide), h.e, h.f, h.g⟩
def rnds (v : St8) (l : List UInt8) : Nat → St8
 |0 => v
 |n + 1 => rnd (rnds v l n) (kS.getD n 0) ((wds l 64).getD n 0)
theorem jA_ {v : St8} (h : v.Ok) (l : List UInt8) : ∀ n, (rnds v l n).Ok
 |0 => h
 |n + 1 => vZ_ (jA_ h l n) _ _
def addW (x v : St8) : St8 := ⟨(x.a + v.a) % 4294967296, (x.b + v.b) % 4294967296, (x.c + v.c) % 4294967296, (x.d + v.d) % 4294967296, (x.e + v.e) % 4294967296, (x.f + v.f) % 4294967296, (x.g + v.g) % 4294967296, (x.h + v.h) % 4294967296⟩
theorem oo_ (x v : St8) : (addW x v).Ok := ⟨Nat.mod_lt _ (by decide), Nat.mod_lt _ (by decide), Nat.mod_lt _ (by decide), Nat.mod_lt _ (by decide), Nat.mod_lt _ (by decide), Nat.mod_lt _ (by decide), Nat.mod_lt _ (by decide), Nat.mod_lt _ (by decide)⟩
def br_ (v : St8) (l : List UInt8) : St8 := addW (rnds v l 64) v
def runS : Nat → St8 → List UInt8 → St8
 |0, v, _ => v
 |n + 1, v, l => runS n (br_ v (l.take 64)) (l.drop 64)
def rc_ : St8 := ⟨0x6a09e667, 0xbb67ae85, 0x3c6ef372, 0xa54ff53a, 0x510e527f, 0x9b05688c, 0x1f83d9ab, 0x5be0cd19⟩
theorem my_ : rc_.Ok := by constructor <;> decide
def padN (n : Nat) : Nat := (119 - n % 64) % 64
theorem h0_ (n : Nat) : (n + 1 + padN n) % 64 = 56 := by unfold padN; omega
theorem iP_ (n z : Nat) (h : z < padN n) : (n + 1 + z) % 64 ≠ 56 := by unfold padN at h; omega
def padS (l : List UInt8) : List UInt8 := l ++ 128 :: List.replicate (padN l.length) 0 ++ beI 8 (8 * l.length)
theorem h1_ (l : List UInt8) : (padS l).length = 64 * ((padS l).length / 64) := by
 have : (padS l).length = l.length + 1 + padN l.length + 8 := by simp [padS, ay_]; omega
 have h := h0_ l.length
 omega
def outS (v : St8) : List UInt8 := beI 4 v.a ++ beI 4 v.b ++ beI 4 v.c ++ beI 4 v.d ++ beI 4 v.e ++ beI 4 v.f ++ beI 4 v.g ++ beI 4 v.h
def shaS (l : List UInt8) : List UInt8 := outS (runS ((padS l).length / 64) rc_ (padS l))
theorem lN_ (l : List UInt8) : (shaS l).length = 32 := by simp [shaS, outS, ay_]
end Go.Ab
end

section
set_option linter.all false
set_option maxRecDepth 100000
namespace Go.Proofs.YtcaflcpcbcneiaaGreat
open Go.Ab
abbrev vW (n : Nat) : AVal := .lit (.int .u32 (n : Int))
theorem tB_ : ∀ a : Fin 32, 1 ≤ a.val → bAnd .u64 (IntKind.u64.wrap (-(a.val : Int))) 31 = 32 - (a.val : Int) := by decide
theorem oj_ (n : Int) (h0 : 0 ≤ n) (h1 : n ≤ 18446744073709551615) : IntKind.u64.wrap n = n := by
 unfold IntKind.wrap
 simp only [IntKind.bits, IntKind.signed, Bool.false_and]
 have e1 : (2 : Int) ^ 64 = 18446744073709551616 := by decide
 simp only [e1]
 exact Int.emod_eq_of_lt h0 (by omega)
theorem t3_ {x a : Nat} (hx : x < 4294967296) : bOr .u32 (((x : Int) * 2 ^ (32 - a)) % 4294967296) ((x : Int) / 2 ^ a) = (rotr x a : Int) := by
 have h1 : ((x : Int) * 2 ^ (32 - a)) % 4294967296 = (((x * 2 ^ (32 - a)) % 4294967296 : Nat) : Int) := by
  rw [Int.natCast_emod, Int.natCast_mul, Int.natCast_pow]; rfl
 have h2 : (x : Int) / 2 ^ a = ((x / 2 ^ a : Nat) : Int) := by rw [Int.natCast_ediv, Int.natCast_pow]; rfl
 rw [h1, h2, (or32 (Nat.mod_lt _ (by decide)) (Nat.lt_of_le_of_lt (Nat.div_le_self _ _) hx)).1, Nat.or_comm]
 rfl
theorem kN_ {x a : Nat} {σ : Store} (hx : x < 4294967296) (ha : 1 ≤ a) (ha2 : a ≤ 31) : ai_ Tryz.prog 292 [vW x, vInt (-(a : Int))] σ fun v σ' => v = vW (rotr x a) ∧ σ = σ' := by
 have h1 := tB_ ⟨a, by omega⟩ ha
 simp only at h1
 have e1 : ((32 : Int) - (a : Int)).toNat = 32 - a := by omega
 have e2 : ((32 : Int) - (32 - (a : Int))).toNat = a := by omega
 have e3 := t3_ (a := a) hx
 refine en_ Tryz.func292 Tryz.ntmps292 Tryz.results292 ?_
 refine rr_ ?_
 refine s_ ?_
 refine aa_ ?_
 refine ab_ ?_
 have R := h1
 refine r_ ?_
 iterate 4 refine s_ ?_
 refine aa_ ?_
 refine ab_ ?_
 have R := And.intro e1 (And.intro e2 (And.intro dg_ oj_))
 refine r_ ?_
 iterate 9 refine s_ ?_
 refine aa_ ?_
 refine af_ ?_
 refine er_ σ ?_
 exact ⟨by rw [e3], rfl⟩
theorem qj_ {x a b c : Nat} {σ : Store} (hx : x < 4294967296) (ha : 1 ≤ a) (ha2 : a ≤ 31) (hb : 1 ≤ b) (hb2 : b ≤ 31) (hc : 1 ≤ c) (hc2 : c ≤ 31) : ai_ Tryz.prog 266 [vW x, vInt a, vInt b, vInt c] σ fun v σ' => v = vW (tu x a b c) ∧ σ = σ' := by
 have h1 := (k1_ (bD_ (a := a) hx) (bD_ (a := b) hx))
 have h2 := (k1_ h1.2 (bD_ (a := c) hx)).1
 have h3 := h1.1
 have z : ∀ n : Int, 0 - n = -n := fun n => Int.zero_sub n
 refine en_ Tryz.func266 Tryz.ntmps266 Tryz.results266 ?_
 refine ab_ ?_
 have R := And.intro z (And.intro h3 h2)
 refine r_ ?_
 refine s_ ?_
 refine aa_ ?_
 refine ab_ ?_
 have R := And.intro z (And.intro h3 h2)
 refine r_ ?_
 iterate 3 refine s_ ?_
 refine x_ g_ va_ (kN_ hx ha ha2) ?_; rintro _ _ ⟨rfl, rfl⟩
 iterate 3 refine s_ ?_
 refine x_ g_ va_ (kN_ hx hb hb2) ?_; rintro _ _ ⟨rfl, rfl⟩
 iterate 4 refine s_ ?_
 refine x_ g_ va_ (kN_ hx hc hc2) ?_; rintro _ _ ⟨rfl, rfl⟩
 iterate 2 refine s_ ?_
 refine aa_ ?_
 refine af_ ?_
 refine er_ σ ?_
 exact ⟨rfl, rfl⟩
theorem pZ_ {x a b p : Nat} {σ : Store} (hx : x < 4294967296) (ha : 1 ≤ a) (ha2 : a ≤ 31) (hb : 1 ≤ b) (hb2 : b ≤ 31) (hp : p ≤ 31) : ai_ Tryz.prog 291 [vW x, vInt a, vInt b, vInt p] σ fun v σ' => v = vW (sm x a b p) ∧ σ = σ' := by
 have h1 := (k1_ (bD_ (a := a) hx) (bD_ (a := b) hx))
 have h2 := (k1_ h1.2 (Nat.lt_of_le_of_lt (Nat.div_le_self x (2 ^ p)) hx)).1
 have h3 := h1.1
 have z : ∀ n : Int, 0 - n = -n := fun n => Int.zero_sub n
 have e1 : ((p : Int)).toNat = p := by omega
 have e2 : (x : Int) / 2 ^ p = ((x / 2 ^ p : Nat) : Int) := by rw [Int.natCast_ediv, Int.natCast_pow]; rfl
 refine en_ Tryz.func291 Tryz.ntmps291 Tryz.results291 ?_
 refine ab_ ?_
 have R := And.intro z (And.intro h3 (And.intro e1 (And.intro e2 h2)))
 refine r_ ?_
 refine s_ ?_
 refine aa_ ?_
 refine ab_ ?_
 have R := And.intro z (And.intro h3 (And.intro e1 (And.intro e2 h2)))
 refine ap_ (.op 0 0 (.op 1 0 (.op 2 0 (.op 4 0 (.op 5 0 (.op 6 0 (.op 9 0 (.op 10 0 (.op 11 0 (.op 3 1 (.op 7 1 (.op 8 0 (.op 12 0 (.op 13 0 .nil)))))))))))))) Tryz.mixed kr_ ?_
 iterate 9 refine ds_ ?_
 refine dx_ o_ g_ va_ (kN_ hx ha ha2) ?_; rintro _ _ ⟨rfl, rfl⟩; refine ⟨sub_, ?_⟩
 refine dx_ o_ g_ va_ (kN_ hx hb hb2) ?_; rintro _ _ ⟨rfl, rfl⟩; refine ⟨sub_, ?_⟩
 iterate 3 refine ds_ ?_
 refine aB_ ?_
 refine af_ ?_
 refine er_ σ ?_
 exact ⟨rfl, rfl⟩
theorem rD_ {σ : Store} : ai_ Tryz.prog 265 [] σ fun v σ' => v = .agg (kS.map vW) ∧ σ = σ' := by
 refine en_ Tryz.func265 Tryz.ntmps265 Tryz.results265 ?_
 refine rr_ ?_
 refine lc_ fun o0 ho0 => ?_
 repeat (rw [ac_] at ho0; obtain ⟨_, ho0⟩ := ho0)
 refine aa_ ?_
 refine rr_ ?_
 refine s_ ?_
 refine st_ ?_
 refine aa_ ?_
 refine af_ ?_
 refine er_ σ ?_
 exact ⟨rfl, rfl⟩
theorem oi_ (n : Int) (h0 : 0 ≤ n) (h1 : n < 4294967296) : IntKind.u32.wrap n = n := by rw [dg_]; exact Int.emod_eq_of_lt h0 h1
theorem se_ {p q r s : Nat} (hp : p < 256) (hq : q < 256) (hr : r < 256) (hs : s < 256) : bOr .u32 (bOr .u32 (bOr .u32 ((p : Int) * 2 ^ 24) ((q : Int) * 2 ^ 16)) ((r : Int) * 2 ^ 8)) (s : Int) = (lU_ p q r s : Int) := by
 have a1 : (p : Int) * 2 ^ 24 = ((p * 16777216 : Nat) : Int) := by omega
 have a2 : (q : Int) * 2 ^ 16 = ((q * 65536 : Nat) : Int) := by omega
 have a3 : (r : Int) * 2 ^ 8 = ((r * 256 : Nat) : Int) := by omega
 have h1 := or32 (p := p * 16777216) (q := q * 65536) (by omega) (by omega)
 have h2 := or32 (p := p * 16777216 ||| q * 65536) (q := r * 256) h1.2 (by omega)
 rw [a1, a2, a3, h1.1, h2.1, (or32 h2.2 (by omega)).1]
 rfl
theorem fL_ {l : List UInt8} {j : Nat} (h : j < l.length) : (aJ_ (B l))[j]? = some (.lit (.int .u8 (bR_ l j : Int))) := by
 rw [me_ (c := l[j]) (List.getElem?_eq_getElem h)]
 simp [bR_, List.getD, h]
def w64 (w : List Nat) (m : Nat) : List AVal := w.map vW ++ List.replicate m (vW 0)
theorem d3_ (w : List Nat) (m : Nat) : (w64 w m).length = w.length + m := by simp [w64]
theorem qm_ {w : List Nat} {m n x : Nat} (hn : w.length = n) : (w64 w (m + 1)).set n (vW x) = w64 (w ++ [x]) m := by
 subst hn
 unfold w64
 rw [List.set_append_right _ _ (by simp)]
 simp [List.replicate_succ]
theorem jK_ {w : List Nat} {m j : Nat} (h : j < w.length) : (w64 w m)[j]? = some (vW (w.getD j 0)) := by
 unfold w64
 rw [List.getElem?_append_left (by simpa using h), List.getElem?_map, List.getElem?_eq_getElem h]
 simp [List.getD, h]
theorem oh_ (a b c d : Nat) : IntKind.u32.wrap (IntKind.u32.wrap (IntKind.u32.wrap ((a : Int) + b) + c) + d) = (((a + b + c + d) % 4294967296 : Nat) : Int) := by
 simp only [dg_]; omega
theorem dc_ {cs vs : List AVal} (h : cs.length = vs.length) : aput cs 0 vs = vs := by
 unfold aput
 rw [List.drop_eq_nil_of_le (by omega)]
 simp
theorem r2_ {l : List UInt8} {t : Bool} {σ : Store} (hl : 64 ≤ l.length) : ai_ Tryz.prog 264 [.sl 1 (aJ_ (B l)) t] σ fun v σ' => v = .agg ((wds l 64).map vW) ∧ σ = σ' := by
 refine en_ Tryz.func264 Tryz.ntmps264 Tryz.results264 ?_
 refine rr_ ?_
 refine lc_ fun o2 ho2 => ?_
 repeat (rw [ac_] at ho2; obtain ⟨_, ho2⟩ := ho2)
 refine aa_ ?_
 refine rr_ ?_
 refine lc_ fun o3 ho3 => ?_
 repeat (rw [ac_] at ho3; obtain ⟨_, ho3⟩ := ho3)
 refine aa_ ?_
 refine ab_ ?_
 refine rr_ ?_
 refine s_ ?_
 refine aa_ ?_
 refine ag_ ?_
 refine ah_ (ι := Nat) (fun n => 64 - n) (fun n => n ≤ 64) (fun n => [(0, .sl 1 (aJ_ (B l)) t), (2, .ref o2 0), (3, .ref o3 0), (5, vInt n)]) (fun n => ((σ.set o2 (.cells (w64 [] 64))).set o3 (.cells (w64 (wds l n) (64 - n))))) 0 ?_ ?_ ?_ ?_
 ·exact Nat.zero_le _
 ·exact cv_
 ·exact Store.Wk.refl _
 rintro n hn
 simp only [ak_, am_]
 refine rr_ ?_
 refine s_ ?_
 refine aa_ ?_
 refine ab_ ?_
 refine cd_ (fun hc3 => ?_) (fun hc3 => ?_)
 ·refine ae_ ?_
  refine ab_ ?_
  refine ag_ ?_
  refine rr_ ?_
  iterate 2 refine s_ ?_
  refine aa_ ?_
  refine ab_ ?_
  have hw := bN_ l n
  have hlt := ni_ l n
  have hlen : (w64 (wds l n) (64 - n)).length = 64 := by rw [d3_]; omega
  refine r_ ?_
  iterate 2 refine s_ ?_
  refine aa_ ?_
  refine cd_ (fun hc5 => ?_) (fun hc5 => ?_)
  ·have hb0 := fL_ (l := l) (j := 4 * n) (by omega)
   have hb1 := fL_ (l := l) (j := 4 * n + 1) (by omega)
   have hb2 := fL_ (l := l) (j := 4 * n + 2) (by omega)
   have hb3 := fL_ (l := l) (j := 4 * n + 3) (by omega)
   have b0 := bn_ l (4 * n); have b1 := bn_ l (4 * n + 1); have b2 := bn_ l (4 * n + 2); have b3 := bn_ l (4 * n + 3)
   have e0 : ((4 : Int) * n).toNat = 4 * n := by omega
   have e1 : ((4 : Int) * n + 1).toNat = 4 * n + 1 := by omega
   have e2 : ((4 : Int) * n + 2).toNat = 4 * n + 2 := by omega
   have e3 : ((4 : Int) * n + 3).toNat = 4 * n + 3 := by omega
   have hor := se_ b0 b1 b2 b3
   have hm : 64 - n = (64 - (n + 1)) + 1 := by omega
   have hset : (w64 (wds l n) (64 - n)).set n (vW (lU_ (bR_ l (4 * n)) (bR_ l (4 * n + 1)) (bR_ l (4 * n + 2)) (bR_ l (4 * n + 3)))) = w64 (wds l (n + 1)) (64 - (n + 1)) := by
    rw [hm, qm_ hw, wds, lT_, if_pos (by omega), hw]; rfl
   have R := And.intro e0 (And.intro e1 (And.intro e2 (And.intro e3 (And.intro hb0 (And.intro hb1 (And.intro hb2 (And.intro hb3 (And.intro oi_ (And.intro hor (And.intro d3_ (And.intro aN_ a3_)))))))))))
   refine ap_ (.op 0 0 (.op 1 0 (.op 2 0 (.op 3 0 (.op 4 0 (.op 5 0 (.op 6 0 (.op 7 0 (.op 8 0 (.op 9 0 (.op 10 0 (.op 11 0 (.op 12 0 (.op 13 0 (.op 14 0 (.op 15 0 (.op 16 0 (.op 17 0 (.op 18 0 (.op 19 0 (.op 20 0 (.op 21 0 (.op 22 0 (.op 23 0 (.op 24 0 (.op 25 0 (.op 26 0 (.op 27 0 (.op 28 0 (.op 29 0 (.op 30 0 (.op 31 0 (.op 32 0 (.op 33 0 (.op 34 0 (.op 35 2 .nil)))))))))))))))))))))))))))))))))))) Tryz.mixed kr_ ?_
   iterate 35 refine ds_ ?_
   refine ec_ o_ (by rfl) (by rfl) (by rfl) v_ v_ h_ g_ rfl g_ c_ (by rfl) le_ (g3_ le_) ?_
   refine aB_ ?_
   refine r_ ?_
   iterate 2 refine s_ ?_
   refine aa_ ?_
   refine aC_ (ι := Nat) (i := n) (n + 1) ?_ ?_ ?_ ?_
   ·omega
   ·omega
   ·exact cv_
   ·rw [Store.set_set, hset]; exact Store.Wk.refl _
  ·have i2 : ((n : Int) - 2).toNat = n - 2 := by omega
   have i7 : ((n : Int) - 7).toNat = n - 7 := by omega
   have i15 : ((n : Int) - 15).toNat = n - 15 := by omega
   have i16 : ((n : Int) - 16).toNat = n - 16 := by omega
   have g2 := jK_ (w := wds l n) (m := 64 - n) (j := n - 2) (by omega)
   have g7 := jK_ (w := wds l n) (m := 64 - n) (j := n - 7) (by omega)
   have g15 := jK_ (w := wds l n) (m := 64 - n) (j := n - 15) (by omega)
   have g16 := jK_ (w := wds l n) (m := 64 - n) (j := n - 16) (by omega)
   have hm : 64 - n = (64 - (n + 1)) + 1 := by omega
   have hset : (w64 (wds l n) (64 - n)).set n (vW ((sm ((wds l n).getD (n - 2) 0) 17 19 10 + (wds l n).getD (n - 7) 0 + sm ((wds l n).getD (n - 15) 0) 7 18 3 + (wds l n).getD (n - 16) 0) % 4294967296)) = w64 (wds l (n + 1)) (64 - (n + 1)) := by
    rw [hm, qm_ hw, wds, lT_, if_neg (by omega), sa_, hw]
   have R := And.intro i2 (And.intro i7 (And.intro i15 (And.intro i16 (And.intro g2 (And.intro g7 (And.intro g15 (And.intro g16 (And.intro oh_ d3_))))))))
   refine ap_ (.op 0 0 (.op 1 0 (.op 2 0 (.op 3 0 (.op 4 0 (.op 6 0 (.op 7 0 (.op 8 0 (.op 9 0 (.op 11 0 (.op 12 0 (.op 13 0 (.op 14 0 (.op 17 0 (.op 18 0 (.op 19 0 (.op 20 0 (.op 5 1 (.op 10 0 (.op 15 1 (.op 16 0 (.op 21 0 (.op 22 0 (.op 23 2 .nil)))))))))))))))))))))))) Tryz.mixed kr_ ?_
   iterate 17 refine ds_ ?_
   refine dx_ o_ g_ va_ (pZ_ (x := (wds l n).getD (n - 2) 0) (a := 17) (b := 19) (p := 10) (eN_ hlt _) (by decide) (by decide) (by decide) (by decide) (by decide)) ?_; rintro _ _ ⟨rfl, rfl⟩; refine ⟨sub_, ?_⟩
   refine ds_ ?_
   refine dx_ o_ g_ va_ (pZ_ (x := (wds l n).getD (n - 15) 0) (a := 7) (b := 18) (p := 3) (eN_ hlt _) (by decide) (by decide) (by decide) (by decide) (by decide)) ?_; rintro _ _ ⟨rfl, rfl⟩; refine ⟨sub_, ?_⟩
   iterate 3 refine ds_ ?_
   refine ec_ o_ (by rfl) (by rfl) (by rfl) v_ v_ h_ g_ rfl g_ c_ (by rfl) le_ (g3_ le_) ?_
   refine aB_ ?_
   refine r_ ?_
   iterate 2 refine s_ ?_
   refine aa_ ?_
   refine aC_ (ι := Nat) (i := n) (n + 1) ?_ ?_ ?_ ?_
   ·omega
   ·omega
   ·exact cv_
   ·rw [Store.set_set, hset]; exact Store.Wk.refl _
 ·refine an_ ?_
  refine ad_ ?_
  refine ad_ ?_
  refine aj_ ?_
  refine ab_ ?_
  obtain rfl : n = 64 := by omega
  have hf : w64 (wds l 64) (64 - 64) = (wds l 64).map vW := by simp [w64]
  rw [hf]
  have hone : ∀ c ∈ (wds l 64).map vW, c.one = true := fun c hc => by
   obtain ⟨x, _, rfl⟩ := List.mem_map.1 hc
   rfl
  have h64 : ((wds l 64).map vW).length = 64 := by rw [List.length_map, bN_]
  obtain ⟨W, hW⟩ : ∃ W, (wds l 64).map vW = W := ⟨_, rfl⟩
  rw [hW] at hone h64 ⊢
  have htk : W.take 64 = W := List.take_of_length_le (by omega)
  have hle : 64 ≤ W.length := by omega
  have R := And.intro htk (And.intro hle h64)
  refine r_ ?_
  refine s_ ?_
  refine bX_ (a := .agg W) (cs' := W) (cs2 := W) rfl rfl rfl v_ va_ h_ g_ rfl rfl hone h64 (by simp [d3_]) (dc_ (by rw [h64, d3_]; rfl)) ?_
  refine aa_ ?_
  refine af_ ?_
  exact au_ (σ' := σ) va_ (bd_ (ar_ ho2 (ar_ ho3 (ar_ ho2 aX_)))) ⟨rfl, rfl⟩
end Go.Proofs.YtcaflcpcbcneiaaGreat
end

section
set_option linter.all false
set_option maxRecDepth 100000
namespace Go.Proofs.YtcaflcpcbcneiaaGreat
open Go.Ab
def l8 (x : St8) : List Nat := [x.a, x.b, x.c, x.d, x.e, x.f, x.g, x.h]
def mixA (A V : List AVal) (n : Nat) : List AVal := A.take n ++ V.drop n
theorem hV_ {A V : List AVal} {n : Nat} (h : A.length = V.length) : (mixA A V n).length = V.length := by simp [mixA]; omega
theorem mF_ {A V : List AVal} {n : Nat} {a : AVal} (h : A.length = V.length) (hn : V[n]? = some a) : (mixA A V n)[n]? = some a := by
 obtain ⟨hk, rfl⟩ := List.getElem?_eq_some_iff.1 hn
 unfold mixA
 rw [List.getElem?_append_right (by simp; omega)]
 simp [show min n A.length = n by omega, hk]
theorem mG_ {A V : List AVal} {n : Nat} {a : AVal} (h : A.length = V.length) (hn : A[n]? = some a) : (mixA A V n).set n a = mixA A V (n + 1) := by
 obtain ⟨hk, rfl⟩ := List.getElem?_eq_some_iff.1 hn
 unfold mixA
 have h1 : V.drop n = V[n]'(by omega) :: V.drop (n + 1) := List.drop_eq_getElem_cons _
 have h2 : A.take (n + 1) = A.take n ++ [A[n]] := by rw [List.take_succ, List.getElem?_eq_getElem hk]; rfl
 have e : n - (A.take n).length = 0 := by simp; omega
 rw [List.set_append_right _ _ (by simp; omega), e, h1, h2, List.set_cons_zero, List.append_assoc]
 rfl
theorem pg_ (x : St8) {n : Nat} (h : n < 8) : ((l8 x).map vW)[n]? = some (vW ((l8 x).getD n 0)) := by
 rw [List.getElem?_map, List.getElem?_eq_getElem (by simpa [l8] using h)]
 simp [List.getD, show n < (l8 x).length from by simpa [l8] using h]
theorem qC_ (x v : St8) {n : Nat} (h : n < 8) : ((l8 (addW x v)).map vW)[n]? = some (vW (((l8 v).getD n 0 + (l8 x).getD n 0) % 4294967296)) := by
 match n, h with
 |0, _ | 1, _ | 2, _ | 3, _ | 4, _ | 5, _ | 6, _ | 7, _ => simp [l8, addW, Nat.add_comm]
theorem ch32 {e f g : Nat} (he : e < 4294967296) (hf : f < 4294967296) (hg : g < 4294967296) : bXor .u32 (bAnd .u32 e f) (bAnd .u32 (gx_ e : Int) g) = (ch e f g : Int) := by
 have c1 := or_ he hf
 have c2 := or_ (hd_ e) hg
 rw [c1.1, c2.1]; exact (k1_ c1.2 c2.2).1
theorem xa_ {a b c : Nat} (ha : a < 4294967296) (hb : b < 4294967296) (hc : c < 4294967296) : bXor .u32 (bXor .u32 (bAnd .u32 a b) (bAnd .u32 a c)) (bAnd .u32 b c) = (maj a b c : Int) := by
 have m1 := or_ ha hb; have m2 := or_ ha hc; have m3 := or_ hb hc
 have m12 := k1_ m1.2 m2.2
 rw [m1.1, m2.1, m3.1, m12.1]; exact (k1_ m12.2 m3.2).1
theorem f9_ (v : St8) (l : List UInt8) (n : Nat) : rnds v l (n + 1) = rnd (rnds v l n) (kS.getD n 0) ((wds l 64).getD n 0) := rfl
theorem kM_ (v : St8) (l : List UInt8) : rnds v l 0 = v := rfl
attribute [local irreducible] rnds wds tu maj ch
set_option maxHeartbeats 1000000 in
theorem uh_ {v : St8} {l : List UInt8} {t : Bool} {σ : Store} (hv : v.Ok) (hl : 64 ≤ l.length) : ai_ Tryz.prog 222 [.agg ((l8 v).map vW), .sl 1 (aJ_ (B l)) t] σ fun r σ' => r = .agg ((l8 (br_ v l)).map vW) ∧ σ = σ' := by
 obtain ⟨W, hW⟩ : ∃ W, (wds l 64).map vW = W := ⟨_, rfl⟩
 obtain ⟨Kk, hKk⟩ : ∃ Kk, kS.map vW = Kk := ⟨_, rfl⟩
 have hone : ∀ (w : List Nat), ∀ c ∈ w.map vW, c.one = true := fun w c hc => by
  obtain ⟨x, _, rfl⟩ := List.mem_map.1 hc
  rfl
 have hW1 := hone (wds l 64); have hK1 := hone kS
 have hW64 : ((wds l 64).map vW).length = 64 := by rw [List.length_map, bN_]
 have hK64 : (kS.map vW).length = 64 := by rw [List.length_map]; rfl
 have hWg : ∀ n, n < 64 → ((wds l 64).map vW)[n]? = some (vW ((wds l 64).getD n 0)) := fun n hn => by
  rw [List.getElem?_map, List.getElem?_eq_getElem (by rw [bN_]; exact hn)]
  simp [List.getD, show n < (wds l 64).length from by rw [bN_]; exact hn]
 have hKg : ∀ n, n < 64 → (kS.map vW)[n]? = some (vW (kS.getD n 0)) := fun n hn => by
  have hk : n < kS.length := hn
  rw [List.getElem?_map, List.getElem?_eq_getElem hk]
  simp [List.getD, hk]
 rw [hW] at hW1 hW64 hWg
 rw [hKk] at hK1 hK64 hKg
 obtain ⟨Z, hZ⟩ : ∃ Z, List.replicate 64 (vW 0) = Z := ⟨_, rfl⟩
 have hZ64 : Z.length = 64 := by rw [← hZ]; simp
 refine en_ Tryz.func222 Tryz.ntmps222 Tryz.results222 ?_
 refine rr_ ?_
 refine bx_ fun o2 ho2 => ?_
 repeat (rw [ac_] at ho2; obtain ⟨_, ho2⟩ := ho2)
 refine lc_ fun o4 ho4 => ?_
 repeat (rw [ac_] at ho4; obtain ⟨_, ho4⟩ := ho4)
 refine aa_ ?_
 refine rr_ ?_
 refine s_ ?_
 refine x_ g_ va_ (r2_ hl) ?_; rintro _ _ ⟨rfl, rfl⟩
 rw [hW]
 refine x_ g_ va_ (rD_) ?_; rintro _ _ ⟨rfl, rfl⟩
 rw [hKk]
 refine g0_ (z := .agg (Array.replicate 64 (.int .u32 0))) rfl rfl rfl kr_ (cs := Z) (by rw [← hZ]; rfl) fun o5 ho5 => ?_
 repeat (rw [ac_] at ho5; obtain ⟨_, ho5⟩ := ho5)
 refine g0_ (z := .agg (Array.replicate 64 (.int .u32 0))) rfl rfl rfl kr_ (cs := Z) (by rw [← hZ]; rfl) fun o6 ho6 => ?_
 repeat (rw [ac_] at ho6; obtain ⟨_, ho6⟩ := ho6)
 refine bX_ (a := .agg W) (cs' := W) (cs2 := W) rfl rfl rfl v_ va_ h_ g_ rfl rfl hW1 hW64 (by omega) (dc_ (by omega)) ?_
 refine bX_ (a := .agg Kk) (cs' := Kk) (cs2 := Kk) rfl rfl rfl v_ va_ h_ g_ rfl rfl hK1 hK64 (by omega) (dc_ (by omega)) ?_
 refine aa_ ?_
 have h5 : ((((((σ.set o2 (.cells ((l8 v).map vW))).set o4 (.cells ((l8 ⟨0, 0, 0, 0, 0, 0, 0, 0⟩).map vW))).set o5 (.cells Z)).set o6 (.cells Z)).set o5 (.cells W)).set o6 (.cells Kk)).heap o5 = some (.cells W) := h_
 have h6 : ((((((σ.set o2 (.cells ((l8 v).map vW))).set o4 (.cells ((l8 ⟨0, 0, 0, 0, 0, 0, 0, 0⟩).map vW))).set o5 (.cells Z)).set o6 (.cells Z)).set o5 (.cells W)).set o6 (.cells Kk)).heap o6 = some (.cells Kk) := h_
 have h2 : ((((((σ.set o2 (.cells ((l8 v).map vW))).set o4 (.cells ((l8 ⟨0, 0, 0, 0, 0, 0, 0, 0⟩).map vW))).set o5 (.cells Z)).set o6 (.cells Z)).set o5 (.cells W)).set o6 (.cells Kk)).heap o2 = some (.cells ((l8 v).map vW)) := h_
 have h4 : ((((((σ.set o2 (.cells ((l8 v).map vW))).set o4 (.cells ((l8 ⟨0, 0, 0, 0, 0, 0, 0, 0⟩).map vW))).set o5 (.cells Z)).set o6 (.cells Z)).set o5 (.cells W)).set o6 (.cells Kk)).heap o4 = some (.cells ((l8 ⟨0, 0, 0, 0, 0, 0, 0, 0⟩).map vW)) := h_
 have hsx : SubX [] σ ((((((σ.set o2 (.cells ((l8 v).map vW))).set o4 (.cells ((l8 ⟨0, 0, 0, 0, 0, 0, 0, 0⟩).map vW))).set o5 (.cells Z)).set o6 (.cells Z)).set o5 (.cells W)).set o6 (.cells Kk)) := ar_ ho6 (ar_ ho5 (ar_ ho6 (ar_ ho5 (ar_ ho4 (ar_ ho2 aX_)))))
 change awp _ _ _ _ _ ((((((σ.set o2 (.cells ((l8 v).map vW))).set o4 (.cells ((l8 ⟨0, 0, 0, 0, 0, 0, 0, 0⟩).map vW))).set o5 (.cells Z)).set o6 (.cells Z)).set o5 (.cells W)).set o6 (.cells Kk))
 generalize ((((((σ.set o2 (.cells ((l8 v).map vW))).set o4 (.cells ((l8 ⟨0, 0, 0, 0, 0, 0, 0, 0⟩).map vW))).set o5 (.cells Z)).set o6 (.cells Z)).set o5 (.cells W)).set o6 (.cells Kk)) = S0 at h5 h6 h2 h4 hsx ⊢
 have v0 : ((l8 v).map vW)[0]? = some (vW v.a) := rfl
 have v1 : ((l8 v).map vW)[1]? = some (vW v.b) := rfl
 have v2 : ((l8 v).map vW)[2]? = some (vW v.c) := rfl
 have v3 : ((l8 v).map vW)[3]? = some (vW v.d) := rfl
 have v4 : ((l8 v).map vW)[4]? = some (vW v.e) := rfl
 have v5 : ((l8 v).map vW)[5]? = some (vW v.f) := rfl
 have v6 : ((l8 v).map vW)[6]? = some (vW v.g) := rfl
 have v7 : ((l8 v).map vW)[7]? = some (vW v.h) := rfl
 refine ab_ ?_
 have R := And.intro h2 (And.intro v0 (And.intro v1 (And.intro v2 v3)))
 refine ap_ (.op 0 0 (.op 1 0 (.op 2 0 (.op 3 0 (.op 4 0 (.op 5 0 (.op 6 0 (.op 7 0 (.op 8 0 (.op 9 0 (.op 10 0 (.op 11 0 .nil)))))))))))) Tryz.mixed kr_ ?_
 iterate 12 refine ds_ ?_
 refine aB_ ?_
 refine ab_ ?_
 have R := And.intro h2 (And.intro v4 (And.intro v5 (And.intro v6 v7)))
 refine ap_ (.op 0 0 (.op 1 0 (.op 2 0 (.op 3 0 (.op 4 0 (.op 5 0 (.op 6 0 (.op 7 0 (.op 8 0 (.op 9 0 (.op 10 0 (.op 11 0 .nil)))))))))))) Tryz.mixed kr_ ?_
 iterate 12 refine ds_ ?_
 refine aB_ ?_
 refine ab_ ?_
 refine rr_ ?_
 refine s_ ?_
 refine aa_ ?_
 refine ag_ ?_
 refine ah_ (ι := Nat) (fun n => 64 - n) (fun n => n ≤ 64) (fun n => [(2, .ref o2 0), (4, .ref o4 0), (5, .ref o5 0), (6, .ref o6 0), (7, vW (rnds v l n).a), (8, vW (rnds v l n).b), (9, vW (rnds v l n).c), (10, vW (rnds v l n).d), (11, vW (rnds v l n).e), (12, vW (rnds v l n).f), (13, vW (rnds v l n).g), (14, vW (rnds v l n).h), (39, vInt n)]) (fun n => S0) 0 ?_ ?_ ?_ ?_
 ·exact Nat.zero_le _
 ·have R := kM_; exact cv_
 ·exact Store.Wk.refl _
 rintro n hn
 simp only [ak_, am_]
 refine rr_ ?_
 refine s_ ?_
 refine aa_ ?_
 refine ab_ ?_
 refine cd_ (fun hc5 => ?_) (fun hc5 => ?_)
 ·refine ae_ ?_
  refine ab_ ?_
  refine ag_ ?_
  refine ab_ ?_
  have hx := jA_ hv l n
  obtain ⟨x, hxe⟩ : ∃ x, rnds v l n = x := ⟨_, rfl⟩
  rw [hxe] at hx ⊢
  have hn64 : n < 64 := by omega
  have kn := hKg n hn64
  have wn := hWg n hn64
  obtain ⟨k, hk⟩ : ∃ k, kS.getD n 0 = k := ⟨_, rfl⟩
  obtain ⟨w, hw⟩ : ∃ w, (wds l 64).getD n 0 = w := ⟨_, rfl⟩
  rw [hk] at kn
  rw [hw] at wn
  have hno : bXor .u32 (if IntKind.u32.signed = true then -1 else IntKind.u32.max) (x.e : Int) = (gx_ x.e : Int) := nu_ hx.e
  have c3 := ch32 hx.e hx.f hx.g
  have m4 := xa_ hx.a hx.b hx.c
  have f1 : IntKind.u32.wrap (IntKind.u32.wrap (IntKind.u32.wrap (IntKind.u32.wrap ((x.h : Int) + tu x.e 6 11 25) + ch x.e x.f x.g) + k) + w) = ((t1S x k w % 4294967296 : Nat) : Int) := by simp only [dg_, t1S]; omega
  have f2 : IntKind.u32.wrap ((tu x.a 2 13 22 : Int) + maj x.a x.b x.c) = ((t2S x % 4294967296 : Nat) : Int) := by simp only [dg_, t2S]; omega
  have r1 : IntKind.u32.wrap (((t1S x k w % 4294967296 : Nat) : Int) + ((t2S x % 4294967296 : Nat) : Int)) = ((rnds v l (n + 1)).a : Int) := by rw [f9_, hxe, hk, hw, dg_]; show _ = (((t1S x k w + t2S x) % 4294967296 : Nat) : Int); omega
  have r2 : IntKind.u32.wrap ((x.d : Int) + ((t1S x k w % 4294967296 : Nat) : Int)) = ((rnds v l (n + 1)).e : Int) := by rw [f9_, hxe, hk, hw, dg_]; show _ = (((x.d + t1S x k w) % 4294967296 : Nat) : Int); omega
  have e1 : rnds v l (n + 1) = rnd x k w := by rw [f9_, hxe, hk, hw]
  have r3 : (rnds v l (n + 1)).b = x.a := by rw [e1]; rfl
  have r4 : (rnds v l (n + 1)).c = x.b := by rw [e1]; rfl
  have r5 : (rnds v l (n + 1)).d = x.c := by rw [e1]; rfl
  have r6 : (rnds v l (n + 1)).f = x.e := by rw [e1]; rfl
  have r7 : (rnds v l (n + 1)).g = x.f := by rw [e1]; rfl
  have r8 : (rnds v l (n + 1)).h = x.g := by rw [e1]; rfl
  refine r_ ?_
  iterate 2 refine s_ ?_
  refine aa_ ?_
  refine ab_ ?_
  have R := And.intro h5 (And.intro h6 (And.intro kn (And.intro wn (And.intro hno (And.intro c3 (And.intro f1 (And.intro hW64 hK64)))))))
  refine ap_ (.op 0 0 (.op 1 0 (.op 4 0 (.op 5 0 (.op 6 0 (.op 7 0 (.op 8 0 (.op 9 0 (.op 10 0 (.op 11 0 (.op 13 0 (.op 14 0 (.op 15 0 (.op 17 0 (.op 18 0 (.op 19 0 (.op 2 1 (.op 3 0 (.op 12 0 (.op 16 0 (.op 20 0 (.op 21 0 .nil)))))))))))))))))))))) Tryz.mixed kr_ ?_
  iterate 16 refine ds_ ?_
  refine dx_ o_ g_ va_ (qj_ (a := 6) (b := 11) (c := 25) hx.e (by decide) (by decide) (by decide) (by decide) (by decide) (by decide)) ?_; rintro _ _ ⟨rfl, rfl⟩; refine ⟨sub_, ?_⟩
  iterate 5 refine ds_ ?_
  refine aB_ ?_
  refine ab_ ?_
  have R := And.intro m4 f2
  refine r_ ?_
  refine s_ ?_
  refine x_ g_ va_ (qj_ (a := 2) (b := 13) (c := 22) hx.a (by decide) (by decide) (by decide) (by decide) (by decide) (by decide)) ?_; rintro _ _ ⟨rfl, rfl⟩
  iterate 13 refine s_ ?_
  refine aa_ ?_
  have R := And.intro r1 r2
  refine r_ ?_
  iterate 20 refine s_ ?_
  refine aa_ ?_
  refine r_ ?_
  iterate 2 refine s_ ?_
  refine aa_ ?_
  refine aC_ (ι := Nat) (i := n) (n + 1) ?_ ?_ ?_ ?_
  ·omega
  ·omega
  ·have R := And.intro r1 (And.intro r2 (And.intro r3 (And.intro r4 (And.intro r5 (And.intro r6 (And.intro r7 r8)))))); exact cv_
  ·exact Store.Wk.refl _
 ·refine an_ ?_
  refine ad_ ?_
  refine ad_ ?_
  refine aj_ ?_
  refine ab_ ?_
  refine ab_ ?_
  obtain rfl : n = 64 := by omega
  obtain ⟨x, hxe⟩ : ∃ x, rnds v l 64 = x := ⟨_, rfl⟩
  rw [hxe]
  have hbs : addW x v = br_ v l := by rw [br_, hxe]
  have wr : ∀ a b : Nat, IntKind.u32.wrap ((a : Int) + (b : Int)) = (((a + b) % 4294967296 : Nat) : Int) := fun a b => by rw [dg_]; omega
  have hA8 : ((l8 (br_ v l)).map vW).length = 8 := rfl
  have hV8 : ((l8 v).map vW).length = 8 := rfl
  refine r_ ?_
  iterate 10 refine s_ ?_
  refine aa_ ?_
  refine ag_ ?_
  refine ah_ (ι := Nat) (fun m => 8 - m) (fun m => m ≤ 8) (fun m => [(2, .ref o2 0), (4, .ref o4 0), (98, .agg ((l8 x).map vW)), (99, vInt m)]) (fun m => (S0.set o2 (.cells (mixA ((l8 (br_ v l)).map vW) ((l8 v).map vW) m)))) 0 ?_ ?_ ?_ ?_
  ·exact Nat.zero_le _
  ·exact cv_
  ·rw [show mixA ((l8 (br_ v l)).map vW) ((l8 v).map vW) 0 = (l8 v).map vW from rfl, Store.set_self h2]; exact Store.Wk.refl _
  rintro m hm
  simp only [ak_, am_]
  refine rr_ ?_
  refine s_ ?_
  refine aa_ ?_
  refine ab_ ?_
  refine cd_ (fun hc12 => ?_) (fun hc12 => ?_)
  ·refine ae_ ?_
   refine ab_ ?_
   refine ag_ ?_
   refine ab_ ?_
   have hm8 : m < 8 := by omega
   have gx := pg_ x hm8
   have gm := mF_ (A := (l8 (br_ v l)).map vW) (by rw [hA8, hV8]) (pg_ v hm8)
   have hml : (mixA ((l8 (br_ v l)).map vW) ((l8 v).map vW) m).length = 8 := hV_ (by rw [hA8, hV8])
   have hset := mG_ (V := (l8 v).map vW) (by rw [hA8, hV8]) (by rw [← hbs]; exact qC_ x v hm8)
   have R := gx
   refine r_ ?_
   iterate 4 refine s_ ?_
   refine aa_ ?_
   have R := And.intro gm (And.intro wr hml)
   refine r_ ?_
   iterate 6 refine s_ ?_
   refine bX_ rfl rfl rfl v_ v_ h_ g_ rfl g_ c_ (by rfl) le_ (g3_ le_) ?_
   refine aa_ ?_
   refine r_ ?_
   iterate 2 refine s_ ?_
   refine aa_ ?_
   refine aC_ (ι := Nat) (i := m) (m + 1) ?_ ?_ ?_ ?_
   ·omega
   ·omega
   ·exact cv_
   ·rw [Store.set_set, hset]; exact Store.Wk.refl _
  ·refine an_ ?_
   refine ad_ ?_
   refine ad_ ?_
   refine aj_ ?_
   refine ab_ ?_
   obtain rfl : m = 8 := by omega
   rw [show mixA ((l8 (br_ v l)).map vW) ((l8 v).map vW) 8 = (l8 (br_ v l)).map vW from rfl]
   have hA1 := hone (l8 (br_ v l))
   obtain ⟨Af, hAf⟩ : ∃ Af, (l8 (br_ v l)).map vW = Af := ⟨_, rfl⟩
   rw [hAf] at hA1 hA8 ⊢
   have htk : Af.take 8 = Af := List.take_of_length_le (by omega)
   have hle8 : 8 ≤ Af.length := by omega
   have h4' : (S0.set o2 (.cells Af)).heap o4 = some (.cells ((l8 ⟨0, 0, 0, 0, 0, 0, 0, 0⟩).map vW)) := by simp (disch := omega) only [Store.set_ne, h4]
   have R := And.intro htk (And.intro hle8 hA8)
   refine r_ ?_
   refine s_ ?_
   refine bX_ (a := .agg Af) (cs' := Af) (cs2 := Af) rfl rfl rfl va_ va_ h4' g_ rfl rfl hA1 hA8 (by decide) (dc_ (by rw [hA8]; rfl)) ?_
   refine aa_ ?_
   refine af_ ?_
   exact au_ (σ' := σ) va_ (bd_ (ar_ ho4 (ar_ ho2 hsx))) ⟨rfl, rfl⟩
end Go.Proofs.YtcaflcpcbcneiaaGreat
end

section
set_option linter.all false
set_option maxRecDepth 100000
namespace Go.Proofs.YtcaflcpcbcneiaaGreat
open Go.Ab
def padZ (l : List UInt8) (z : Nat) : List UInt8 := l ++ 128 :: List.replicate z 0
theorem ek_ (l : List UInt8) (z : Nat) : (padZ l z).length = l.length + 1 + z := by simp [padZ]; omega
theorem kw_ (l : List UInt8) (z : Nat) : padZ l (z + 1) = padZ l z ++ [0] := by simp [padZ, List.replicate_succ']
theorem kv_ (l : List UInt8) : padS l = padZ l (padN l.length) ++ beI 8 (8 * l.length) := by simp [padS, padZ]
theorem ht_ (l : List UInt8) (c : UInt8) : aJ_ (B (l ++ [c])) = aJ_ (B l) ++ [.lit (.int .u8 (c.toNat : Int))] := by simp [ea_]
theorem nw_ (l m : List UInt8) : aJ_ (B (l ++ m)) = aJ_ (B l) ++ aJ_ (B m) := by simp [ea_]
theorem hu_ (l : List UInt8) (n : Nat) : ((aJ_ (B l)).take n).drop 0 = aJ_ (B (l.take n)) := by simp [ea_, List.map_take]
theorem dT_ (l : List UInt8) : (aJ_ (B l)).length = l.length := by rw [aN_, a3_]
theorem pv_ (v : St8) : outS v = (l8 v).flatMap fun (n : Nat) => beI 4 (n : Int) := by simp [outS, l8]
def outN (v : St8) (m : Nat) : List UInt8 := ((l8 v).take m).flatMap fun (n : Nat) => beI 4 (n : Int)
theorem ku_ (v : St8) {m : Nat} (h : m < 8) : outN v (m + 1) = outN v m ++ beI 4 (((l8 v).getD m 0 : Nat) : Int) := by
 match m, h with
 |0, _ | 1, _ | 2, _ | 3, _ | 4, _ | 5, _ | 6, _ | 7, _ => simp [outN, l8]
theorem fw_ (v : St8) {m : Nat} (h : m ≤ 8) : (outN v m).length ≤ 32 := by
 match m, h with
 |0, _ | 1, _ | 2, _ | 3, _ | 4, _ | 5, _ | 6, _ | 7, _ | 8, _ => simp [outN, l8, ay_]
theorem rf_ {v : St8} (hv : v.Ok) {m : Nat} (h : m < 8) : (l8 v).getD m 0 < 4294967296 := by
 match m, h with
 |0, _ => exact hv.a
 |1, _ => exact hv.b
 |2, _ => exact hv.c
 |3, _ => exact hv.d
 |4, _ => exact hv.e
 |5, _ => exact hv.f
 |6, _ => exact hv.g
 |7, _ => exact hv.h
theorem mO_ (v : St8) : outN v 8 = outS v := by rw [pv_]; rfl
theorem xp_ {s : ByteArray} {σ : Store} (hs : s.size ≤ 900000000000) : ai_ Tryz.prog 171 [vStr s] σ fun v σ' => v = vStr (B (shaS (Lb s))) ∧ σ = σ' := by
 have hl := cr_ s
 obtain ⟨l, rfl⟩ : ∃ l, s = B l := ⟨Lb s, (B_Lb s).symm⟩
 rw [Lb_B] at hl ⊢
 rw [a3_] at hs
 have hlen : ∀ z, (aJ_ (B (padZ l z))).length = l.length + 1 + z := fun z => by rw [dT_, ek_]
 have hsz := a3_ l
 have htm : ∀ n : Nat, (n : Int).tmod 64 = ((n % 64 : Nat) : Int) := fun n => rfl
 have hpn : padN l.length < 64 := Nat.mod_lt _ (by decide)
 refine en_ Tryz.func171 Tryz.ntmps171 Tryz.results171 ?_
 refine rr_ ?_
 refine s_ ?_
 refine aa_ ?_
 refine rr_ ?_
 refine s_ ?_
 refine aL_X rfl rfl (jN_ rfl g_ g_ g_ va_ (by omega) fun k10 hk10 => ?_)
 refine ao_ rfl rfl rfl g_ g_ rfl rfl h_ c2_ (by decide) ?_
 refine aM_ rfl rfl rfl g_ g_ v_ h_ v_ c_ (by simp [dT_]; omega) fun k12 hk12 => ?_
 refine s_ ?_
 refine aa_ ?_
 refine ab_ ?_
 refine ag_ ?_
 refine ah_ (ι := Nat × Nat) (fun ⟨z, k⟩ => padN l.length - z) (fun ⟨z, k⟩ => z ≤ padN l.length ∧ σ.tok k = none) (fun ⟨z, k⟩ => [(0, vStr (B l)), (3, .own k 1 (aJ_ (B (padZ l z))))]) (fun ⟨z, k⟩ => (σ.newTok none k (5, 1))) (0, k12) ?_ ?_ ?_ ?_
 ·exact ⟨Nat.zero_le _, (aE_ hk12).2⟩
 ·have R := (show aJ_ (B (padZ l 0)) = aJ_ (B l) ++ [.lit (.int .u8 128)] from ht_ l 128); exact cv_
 ·rw [Store.newTok_step hk10]; exact Store.Wk.refl _
 rintro ⟨z, k⟩ ⟨hz, hk⟩
 simp only [ak_, am_]
 refine ab_ ?_
 refine ab_ ?_
 have R := And.intro hlen htm
 refine r_ ?_
 iterate 4 refine s_ ?_
 refine aa_ ?_
 refine cd_ (fun hc2 => ?_) (fun hc2 => ?_)
 ·refine ae_ ?_
  refine ag_ ?_
  skip
  have hz1 : z + 1 ≤ padN l.length := by
   have := h0_ l.length
   rcases Nat.lt_or_eq_of_le hz with h | h
   ·exact h
   ·rw [h] at hc2; omega
  refine r_ ?_
  refine s_ ?_
  refine ao_ rfl rfl rfl g_ g_ rfl rfl h_ c2_ (by decide) ?_
  refine aM_ rfl rfl rfl g_ g_ v_ h_ v_ c_ (by simp only [hlen]; simp; omega) fun k19 hk19 => ?_
  refine s_ ?_
  refine aa_ ?_
  refine aC_ (ι := Nat × Nat) (i := ⟨z, k⟩) (z + 1, k19) ?_ ?_ ?_ ?_
  ·show padN l.length - (z + 1) < padN l.length - z; omega
  ·exact ⟨hz1, (aE_ hk19).2⟩
  ·have R := (show aJ_ (B (padZ l (z + 1))) = aJ_ (B (padZ l z)) ++ [.lit (.int .u8 0)] by rw [kw_, ht_]; rfl); exact cv_
  ·rw [Store.newTok_step hk]; exact Store.Wk.refl _
 ·refine an_ ?_
  refine ad_ ?_
  refine ad_ ?_
  refine aj_ ?_
  refine ab_ ?_
  skip
  obtain rfl : z = padN l.length := by
   rcases Nat.lt_or_eq_of_le hz with h | h
   ·have := iP_ _ _ h; omega
   ·exact h
  refine r_ ?_
  refine s_ ?_
  refine aL_X rfl rfl (gZ_ rfl va_ fun o21 ho21 => ?_)
  refine s_ ?_
  refine aa_ ?_
  have ho21 : σ.heap o21 = none := ho21
  have hw : WR ((σ.newTok none k (5, 1)).set o21 (.cells [.nilp o21 164 2, .lit (.slice none 0 0)])) o21 [] := ⟨_, _, none, Store.set_get .., .inr rfl, .inr ⟨rfl, rfl, rfl⟩⟩
  refine ab_ ?_
  have R := hsz
  refine r_ ?_
  iterate 4 refine s_ ?_
  refine x_ g_ va_ (ik_ hw (by simp)) ?_; rintro _ τ1 ⟨rfl, a1, a2⟩
  refine aa_ ?_
  refine rr_ ?_
  iterate 2 refine s_ ?_
  refine x_ g_ va_ (eX_ a1 (by simp [ay_])) ?_; rintro _ τ2 ⟨rfl, c2⟩
  have w2 := a2.trans c2
  have hk2 : τ2.tok k = some (5, 1) := (w2.2 k _ (by rw [Store.set_tok]; exact Store.newTok_get ..) (fun ⟨a, sz, l, hh⟩ => by rw [Store.set_get] at hh; simp at hh)).1
  have s2 : SubX [] σ τ2 := by
   have h := WF.sub (show (σ.newTok none k (5, 1)).heap o21 = none from ho21) w2 (fun a t sz l hh => by simp at hh)
   exact SubX.trans (bm_ hk aX_) ⟨fun i x _ => h.heap i x, h.tok⟩
  refine aL_X rfl rfl (bl_ rfl g_ g_ (.inl ⟨k, va_, hk2, rfl⟩) (l0_ g_) (by simp only [hlen]; rw [dT_]; simp [ay_]; omega) fun k30 hk30 => ?_)
  refine s_ ?_
  refine aa_ ?_
  refine ab_ ?_
  skip
  have hall : aJ_ (B (padZ l (padN l.length))) ++ aJ_ (B ([] ++ beI 8 (8 * (l.length : Int)))) = aJ_ (B (padS l)) := by
   rw [← nw_, List.nil_append, kv_]
  have s3 : SubX [] σ (τ2.newTok (some k) k30 (5, 1)) := SubX.newTok s2 (fun j hj => by cases hj; exact hk) hk30
  refine r_ ?_
  refine s_ ?_
  refine lc_ fun o5 ho5 => ?_
  repeat (rw [ac_] at ho5; obtain ⟨_, ho5⟩ := ho5)
  refine st_ ?_
  refine aa_ ?_
  have n5 : σ.heap o5 = none := SubX.noObj s3 ho5 (by simp)
  have e5 : ∃ S0 : Store, τ2.newTok (some k) k30 (5, 1) = S0 := ⟨_, rfl⟩
  refine ab_ ?_
  refine ag_ ?_
  refine ah_ (ι := List UInt8 × St8 × Nat) (fun ⟨r, v, m⟩ => m) (fun ⟨r, v, m⟩ => r.length = 64 * m ∧ v.Ok ∧ outS (runS m v r) = shaS l) (fun ⟨r, v, m⟩ => [(3, .sl 1 (aJ_ (B r)) false), (5, .ref o5 0)]) (fun ⟨r, v, m⟩ => ((τ2.newTok (some k) k30 (5, 1)).set o5 (.cells ((l8 v).map vW)))) (padS l, rc_, (padS l).length / 64) ?_ ?_ ?_ ?_
  ·exact ⟨h1_ l, my_, rfl⟩
  ·refine b0_.wk (b := .own k30 1 (aJ_ (B (padS l)))) (by rw [← hall]; exact va_) (.own1 _ _ _) (b0_.eq va_ b0_.nil)
  ·rw [Store.set_set]; exact Store.Wk.refl _
  rintro ⟨r, v, m⟩ ⟨hr, hv, hrun⟩
  simp only [ak_, am_]
  refine ab_ ?_
  refine ab_ ?_
  have R := @dT_
  refine r_ ?_
  iterate 3 refine s_ ?_
  refine aa_ ?_
  refine cd_ (fun hc8 => ?_) (fun hc8 => ?_)
  ·refine ae_ ?_
   refine ab_ ?_
   refine ag_ ?_
   have hm0 : 1 ≤ m := by omega
   have ht64 : (B r).extract 0 64 = B (r.take 64) := by rw [b6_, Lb_B]; rfl
   have hv8 : ((l8 v).map vW).take 8 = (l8 v).map vW := rfl
   have htkr : (B r).extract 0 r.length = B r := by rw [b6_, Lb_B, List.take_of_length_le (Nat.le_refl _)]; rfl
   have hdr : List.drop 64 (aJ_ (B r)) = aJ_ (B (r.drop 64)) := by simp [ea_, List.map_drop]
   have hdr' : (B r).extract 64 r.length = B (r.drop 64) := by rw [b6_, Lb_B, List.take_of_length_le (Nat.le_refl _)]
   have hle64 := dT_ r
   obtain ⟨Af, hAf⟩ : ∃ Af, (l8 (br_ v (r.take 64))).map vW = Af := ⟨_, rfl⟩
   have hA1 : ∀ c ∈ Af, c.one = true := fun c hc => by
    rw [← hAf] at hc
    obtain ⟨x, _, rfl⟩ := List.mem_map.1 hc
    rfl
   have hA8 : Af.length = 8 := by rw [← hAf]; rfl
   have hset : (((τ2.newTok (some k) k30 (5, 1)).set o5 (.cells ((l8 v).map vW))).set o5 (.cells Af)) = (τ2.newTok (some k) k30 (5, 1)).set o5 (.cells Af) := Store.set_set ..
   have R := And.intro ht64 (And.intro hle64 hv8)
   refine ap_ (.op 0 0 (.op 1 0 (.op 2 0 (.op 3 2 (.op 4 2 .nil))))) Tryz.mixed kr_ ?_
   iterate 3 refine ds_ ?_
   refine tx_ o_ g_ va_ (uh_ (l := r.take 64) hv (by rw [List.length_take]; omega)) ?_; rintro _ _ ⟨rfl, rfl⟩
   rw [hAf]
   refine ec_ o_ (by rfl) (by rfl) (by rfl) (a := .agg Af) (cs' := Af) (cs2 := Af) va_ va_ (Store.set_get ..) g_ rfl rfl hA1 hA8 (by simp [l8]) (dc_ (by rw [hA8]; rfl)) ?_
   refine aB_ ?_
   have R := And.intro hle64 (And.intro htkr hdr)
   refine r_ ?_
   iterate 3 refine s_ ?_
   refine aa_ ?_
   refine aC_ (ι := List UInt8 × St8 × Nat) (i := ⟨r, v, m⟩) (r.drop 64, br_ v (r.take 64), m - 1) ?_ ?_ ?_ ?_
   ·show m - 1 < m; omega
   ·exact ⟨by show (r.drop 64).length = 64 * (m - 1); rw [List.length_drop]; omega, oo_ _ _, by rw [← hrun]; obtain ⟨q, rfl⟩ : ∃ q, m = q + 1 := ⟨m - 1, by omega⟩; rfl⟩
   ·have R := And.intro htkr hdr; exact cv_
   ·rw [hset, ← hAf]; exact Store.Wk.refl _
  ·refine an_ ?_
   refine ad_ ?_
   refine ad_ ?_
   refine aj_ ?_
   refine ab_ ?_
   obtain rfl : m = 0 := by omega
   rw [runS] at hrun
   obtain ⟨S1, hS1⟩ : ∃ S1, ((τ2.newTok (some k) k30 (5, 1)).set o5 (.cells ((l8 v).map vW))) = S1 := ⟨_, rfl⟩
   have s5 : SubX [] σ S1 := by rw [← hS1]; exact ar_ n5 s3
   have h5 : S1.heap o5 = some (.cells ((l8 v).map vW)) := by rw [← hS1]; exact Store.set_get ..
   have hv8 : ((l8 v).map vW).take 8 = (l8 v).map vW := rfl
   rw [hS1]
   refine r_ ?_
   refine s_ ?_
   refine aL_X rfl rfl (gZ_ rfl va_ fun o42 ho42 => ?_)
   refine s_ ?_
   refine aa_ ?_
   have n42 := aF_ h5 ho42
   have hw2 : WR (S1.set o42 (.cells [.nilp o42 164 2, .lit (.slice none 0 0)])) o42 [] := ⟨_, _, none, Store.set_get .., .inr rfl, .inr ⟨rfl, rfl, rfl⟩⟩
   refine ab_ ?_
   refine ab_ ?_
   have R := And.intro h5 hv8
   refine r_ ?_
   iterate 2 refine s_ ?_
   refine aa_ ?_
   refine ag_ ?_
   refine ah_ (ι := Store × Nat) (fun ⟨τ, m⟩ => 8 - m) (fun ⟨τ, m⟩ => m ≤ 8 ∧ WR τ o42 (outN v m) ∧ WF o42 (S1.set o42 (.cells [.nilp o42 164 2, .lit (.slice none 0 0)])) τ) (fun ⟨τ, m⟩ => [(6, .ref o42 0), (43, .agg ((l8 v).map vW)), (44, vInt m)]) (fun ⟨τ, m⟩ => τ) (S1.set o42 (.cells [.nilp o42 164 2, .lit (.slice none 0 0)]), 0) ?_ ?_ ?_ ?_
   ·exact ⟨Nat.zero_le _, hw2, WF.refl⟩
   ·exact cv_
   ·exact Store.Wk.refl _
   rintro ⟨τ, m⟩ ⟨hm, hwr, hwf⟩
   simp only [ak_, am_]
   refine rr_ ?_
   refine s_ ?_
   refine aa_ ?_
   refine ab_ ?_
   refine cd_ (fun hc13 => ?_) (fun hc13 => ?_)
   ·refine ae_ ?_
    refine ab_ ?_
    refine ag_ ?_
    refine ab_ ?_
    have hm8 : m < 8 := by omega
    have gx := pg_ v hm8
    have hol := fw_ v hm
    have hlt := rf_ hv hm8
    have R := gx
    refine r_ ?_
    iterate 2 refine s_ ?_
    refine aa_ ?_
    refine r_ ?_
    iterate 3 refine s_ ?_
    refine x_ g_ va_ (d4_ hwr (by omega)) ?_; rintro _ τ' ⟨rfl, w1, w2'⟩
    refine aa_ ?_
    refine r_ ?_
    iterate 2 refine s_ ?_
    refine aa_ ?_
    refine aC_ (ι := Store × Nat) (i := ⟨τ, m⟩) (τ', m + 1) ?_ ?_ ?_ ?_
    ·show 8 - (m + 1) < 8 - m; omega
    ·exact ⟨by show m + 1 ≤ 8; omega, by rw [ku_ v hm8]; exact w1, hwf.trans w2'⟩
    ·exact cv_
    ·exact Store.Wk.refl _
   ·refine an_ ?_
    refine ad_ ?_
    refine ad_ ?_
    refine aj_ ?_
    refine ab_ ?_
    obtain rfl : m = 8 := by omega
    have hol := fw_ v hm
    refine r_ ?_
    refine s_ ?_
    refine x_ g_ va_ (eX_ hwr (by omega)) ?_; rintro _ τ3 ⟨rfl, w3⟩
    refine s_ ?_
    refine aa_ ?_
    refine af_ ?_
    have hfin := WF.sub (show S1.heap o42 = none from ho42) (hwf.trans w3) (fun a t sz l hh => by simp at hh)
    rw [mO_, hrun]
    exact au_ (σ' := σ) va_ (bd_ (SubX.trans s5 ⟨fun i x _ => hfin.heap i x, hfin.tok⟩)) ⟨rfl, rfl⟩
abbrev vN (n : Nat) : AVal := .lit (.int .i64 (n : Int))
theorem uv_ (l : List UInt8) (j : Nat) : (B l)[j]? = l[j]? := by
 by_cases h : j < l.length
 ·have h2 : j < (B l).size := by rw [a3_]; exact h
  rw [getElem?_pos (B l) j h2, List.getElem?_eq_getElem h]
  congr 1
 ·have h2 : ¬ j < (B l).size := by rw [a3_]; exact h
  rw [getElem?_neg (B l) j h2, List.getElem?_eq_none (by omega)]
theorem iU_ {n : Int} {σ : Store} : ai_ Tryz.prog 270 [vInt n] σ fun v σ' => v = vInt (bAnd .i64 n 4294967295) ∧ σ = σ' := by
 refine en_ Tryz.func270 Tryz.ntmps270 Tryz.results270 ?_
 refine rr_ ?_
 refine s_ ?_
 refine aa_ ?_
 refine rr_ ?_
 iterate 3 refine s_ ?_
 refine aa_ ?_
 refine af_ ?_
 refine er_ σ ?_
 exact ⟨rfl, rfl⟩
theorem hS_ {n : Nat} (h : n < 9223372036854775808) : bAnd .i64 (n : Int) 4294967295 = ((n % 4294967296 : Nat) : Int) := by
 have := (ns_ (p := n) (q := 4294967295) h (by decide)).1
 rw [so_] at this
 exact this
theorem pQ_ {x a : Nat} (hx : x < 4294967296) (ha : 1 ≤ a) (ha2 : a ≤ 31) : bAnd .i64 (bOr .i64 ((x : Int) / 2 ^ a) (IntKind.i64.wrap ((x : Int) * 2 ^ (32 - a)))) 4294967295 = (rotr x a : Int) := by
 have hp : x * 2 ^ (32 - a) < 9223372036854775808 := by
  have h1 : 2 ^ (32 - a) ≤ 2 ^ 31 := Nat.pow_le_pow_right (by decide) (by omega)
  have h2 : x * 2 ^ (32 - a) ≤ 4294967295 * 2 ^ 31 := Nat.mul_le_mul (by omega) h1
  omega
 have h1 : (x : Int) * 2 ^ (32 - a) = ((x * 2 ^ (32 - a) : Nat) : Int) := by rw [Int.natCast_mul, Int.natCast_pow]; rfl
 have h2 : (x : Int) / 2 ^ a = ((x / 2 ^ a : Nat) : Int) := by rw [Int.natCast_ediv, Int.natCast_pow]; rfl
 have h3 : x / 2 ^ a < 9223372036854775808 := Nat.lt_of_le_of_lt (Nat.div_le_self _ _) (by omega)
 rw [h1, h2, aY_ _ (by omega) (by omega), (or63 h3 hp).1, hS_ (or63 h3 hp).2, ui_ hx]
theorem dL_ {x a : Nat} {σ : Store} (hx : x < 4294967296) (ha : 1 ≤ a) (ha2 : a ≤ 31) : ai_ Tryz.prog 269 [vN x, vInt a] σ fun v σ' => v = vN (rotr x a) ∧ σ = σ' := by
 have e1 : ((32 : Int) - (a : Int)).toNat = 32 - a := by omega
 have e2 : ((a : Int)).toNat = a := by omega
 have e3 := pQ_ hx ha ha2
 refine en_ Tryz.func269 Tryz.ntmps269 Tryz.results269 ?_
 refine ab_ ?_
 have R := And.intro e1 e2
 refine r_ ?_
 refine s_ ?_
 refine aa_ ?_
 refine ab_ ?_
 have R := And.intro e1 e2
 refine ap_ (.op 0 0 (.op 1 0 (.op 2 0 (.op 3 0 (.op 4 0 (.op 5 0 (.op 6 0 (.op 7 0 (.op 8 1 (.op 9 0 .nil)))))))))) Tryz.mixed kr_ ?_
 iterate 8 refine ds_ ?_
 refine dx_ o_ g_ va_ (iU_) ?_; rintro _ _ ⟨rfl, rfl⟩; refine ⟨sub_, ?_⟩
 refine ds_ ?_
 refine aB_ ?_
 refine af_ ?_
 refine er_ σ ?_
 exact ⟨by rw [e3], rfl⟩
theorem rs_ {σ : Store} : ai_ Tryz.prog 268 [] σ fun v σ' => v = .agg (kS.map vN) ∧ σ = σ' := by
 refine en_ Tryz.func268 Tryz.ntmps268 Tryz.results268 ?_
 refine rr_ ?_
 refine lc_ fun o0 ho0 => ?_
 repeat (rw [ac_] at ho0; obtain ⟨_, ho0⟩ := ho0)
 refine aa_ ?_
 refine rr_ ?_
 refine s_ ?_
 refine st_ ?_
 refine aa_ ?_
 refine af_ ?_
 refine er_ σ ?_
 exact ⟨rfl, rfl⟩
theorem xor3 {x a b c : Nat} (h1 : rotr x a < 4294967296) (h2 : rotr x b < 4294967296) (h3 : c < 4294967296) : bXor .i64 (bXor .i64 (rotr x a) (rotr x b)) (c : Int) = (((rotr x a ^^^ rotr x b) ^^^ c : Nat) : Int) := by
 have h4 := qr_ (p := rotr x a) (q := rotr x b) (by omega) (by omega)
 rw [h4.1, (qr_ h4.2 (by omega)).1]
theorem i6_ {p q r s : Nat} (hp : p < 256) (hq : q < 256) (hr : r < 256) (hs : s < 256) : bOr .i64 (bOr .i64 (bOr .i64 ((p : Int) * 2 ^ 24) ((q : Int) * 2 ^ 16)) ((r : Int) * 2 ^ 8)) (s : Int) = (lU_ p q r s : Int) := by
 have a1 : (p : Int) * 2 ^ 24 = ((p * 16777216 : Nat) : Int) := by omega
 have a2 : (q : Int) * 2 ^ 16 = ((q * 65536 : Nat) : Int) := by omega
 have a3 : (r : Int) * 2 ^ 8 = ((r * 256 : Nat) : Int) := by omega
 have h1 := or63 (p := p * 16777216) (q := q * 65536) (by omega) (by omega)
 have h2 := or63 (p := p * 16777216 ||| q * 65536) (q := r * 256) h1.2 (by omega)
 rw [a1, a2, a3, h1.1, h2.1, (or63 h2.2 (by omega)).1]
 rfl
theorem ij_ {w : List Nat} {j : Nat} (h : j < w.length) : (w.map vN)[j]? = some (vN (w.getD j 0)) := by
 rw [List.getElem?_map, List.getElem?_eq_getElem h]
 simp [List.getD, h]
theorem qn_ {a b c d : Nat} (ha : a < 4294967296) (hb : b < 4294967296) (hc : c < 4294967296) (hd : d < 4294967296) : bAnd .i64 ((a : Int) + b + c + d) 4294967295 = (((a + b + c + d) % 4294967296 : Nat) : Int) := by
 rw [← hS_ (by omega)]; congr 1
theorem rw_ {l : List UInt8} {σ : Store} (hl : 64 ≤ l.length) : ai_ Tryz.prog 267 [vStr (B l)] σ fun v σ' => v = .sl 1 ((wds l 64).map vN) false ∧ σ = σ' := by
 refine en_ Tryz.func267 Tryz.ntmps267 Tryz.results267 ?_
 refine rr_ ?_
 refine s_ ?_
 refine aa_ ?_
 refine rr_ ?_
 refine a8_ 3 1 rfl rfl rfl (by rfl) fun k3 hk3 => ?_
 refine aa_ ?_
 refine ab_ ?_
 refine rr_ ?_
 refine s_ ?_
 refine aa_ ?_
 refine ag_ ?_
 refine ah_ (ι := Nat × Nat) (fun ⟨n, k⟩ => 16 - n) (fun ⟨n, k⟩ => n ≤ 16 ∧ σ.tok k = none) (fun ⟨n, k⟩ => [(0, vStr (B l)), (3, .own k 1 ((wds l n).map vN)), (4, vInt n)]) (fun ⟨n, k⟩ => (σ.newTok none k (3, 1))) (0, k3) ?_ ?_ ?_ ?_
 ·exact ⟨Nat.zero_le _, hk3⟩
 ·exact cv_
 ·exact Store.Wk.refl _
 rintro ⟨n, k⟩ ⟨hn, hk⟩
 simp only [ak_, am_]
 refine ab_ ?_
 refine rr_ ?_
 iterate 2 refine s_ ?_
 refine aa_ ?_
 refine cd_ (fun hc3 => ?_) (fun hc3 => ?_)
 ·refine ae_ ?_
  refine ab_ ?_
  refine ag_ ?_
  have b0 := bn_ l (4 * n); have b1 := bn_ l (4 * n + 1); have b2 := bn_ l (4 * n + 2); have b3 := bn_ l (4 * n + 3)
  have e0 : ((4 : Int) * n).toNat = 4 * n := by omega
  have e1 : ((4 : Int) * n + 1).toNat = 4 * n + 1 := by omega
  have e2 : ((4 : Int) * n + 2).toNat = 4 * n + 2 := by omega
  have e3 : ((4 : Int) * n + 3).toNat = 4 * n + 3 := by omega
  have hb : ∀ j, j < l.length → ∃ c : UInt8, (B l)[j]? = some c ∧ ((c.toNat : Nat) : Int) = (bR_ l j : Int) := fun j hj => ⟨l[j], by rw [uv_, List.getElem?_eq_getElem hj], by simp [bR_, List.getD, hj]⟩
  obtain ⟨c0, g0, d0⟩ := hb (4 * n) (by omega)
  obtain ⟨c1, g1, d1⟩ := hb (4 * n + 1) (by omega)
  obtain ⟨c2, g2, d2⟩ := hb (4 * n + 2) (by omega)
  obtain ⟨c3, g3, d3⟩ := hb (4 * n + 3) (by omega)
  have hor := i6_ b0 b1 b2 b3
  have hw := bN_ l n
  have hnew : (wds l (n + 1)).map vN = (wds l n).map vN ++ [vN (lU_ (bR_ l (4 * n)) (bR_ l (4 * n + 1)) (bR_ l (4 * n + 2)) (bR_ l (4 * n + 3)))] := by
   rw [wds, lT_, if_pos (by omega), hw, List.map_append]; rfl
  have R := And.intro e0 (And.intro e1 (And.intro e2 (And.intro e3 (And.intro g0 (And.intro g1 (And.intro g2 (And.intro g3 (And.intro d0 (And.intro d1 (And.intro d2 (And.intro d3 hor)))))))))))
  refine ap_ (.op 0 0 (.op 1 0 (.op 2 0 (.op 3 0 (.op 4 0 (.op 5 0 (.op 6 0 (.op 7 0 (.op 8 0 (.op 9 0 (.op 10 0 (.op 11 0 (.op 12 0 (.op 13 0 (.op 14 0 (.op 15 0 (.op 16 0 (.op 17 0 (.op 18 0 (.op 19 0 (.op 20 0 (.op 21 0 (.op 22 0 (.op 23 0 (.op 24 0 (.op 25 0 (.op 26 0 (.op 27 0 (.op 28 0 (.op 29 0 (.op 30 1 (.op 31 2 (.op 32 0 .nil))))))))))))))))))))))))))))))))) Tryz.mixed kr_ ?_
  iterate 30 refine ds_ ?_
  refine dR_X o_ (by rfl) (by rfl) (aS_ (by rfl) g_ g_ (by rfl) (by rfl) h_ c2_ (by decide) ⟨sub_, ?_⟩)
  refine dR_T o_ (by rfl) (by rfl) (bl_ (by rfl) g_ g_ (.inl ⟨_, va_, h_, rfl⟩) (.inl ⟨⟨_, g_⟩, .inl v_, c_⟩) (by simp [hw]; omega) fun k45 hk45 => ?_)
  refine ds_ ?_
  refine aB_ ?_
  refine r_ ?_
  iterate 3 refine s_ ?_
  refine aa_ ?_
  refine aC_ (ι := Nat × Nat) (i := ⟨n, k⟩) (n + 1, k45) ?_ ?_ ?_ ?_
  ·show 16 - (n + 1) < 16 - n; omega
  ·exact ⟨by show n + 1 ≤ 16; omega, (aE_ hk45).2⟩
  ·have R := hnew; exact cv_
  ·rw [Store.newTok_step hk]; exact Store.Wk.refl _
 ·refine an_ ?_
  refine ad_ ?_
  refine ad_ ?_
  refine aj_ ?_
  refine ab_ ?_
  refine ab_ ?_
  obtain rfl : n = 16 := by omega
  have h16 : ((16 : Nat) : Int) = 16 := rfl
  refine r_ ?_
  refine s_ ?_
  refine aa_ ?_
  refine ag_ ?_
  refine ah_ (ι := Nat × Nat) (fun ⟨n, k⟩ => 64 - n) (fun ⟨n, k⟩ => n ≤ 64 ∧ 16 ≤ n ∧ σ.tok k = none) (fun ⟨n, k⟩ => [(3, .own k 1 ((wds l n).map vN)), (5, vInt n)]) (fun ⟨n, k⟩ => (σ.newTok none k (3, 1))) (16, k) ?_ ?_ ?_ ?_
  ·exact ⟨by decide, Nat.le_refl _, hk⟩
  ·have R := h16; exact cv_
  ·exact Store.Wk.refl _
  rintro ⟨n, k⟩ ⟨hn, hn2, hk⟩
  simp only [ak_, am_]
  refine ab_ ?_
  refine rr_ ?_
  iterate 2 refine s_ ?_
  refine aa_ ?_
  refine cd_ (fun hc7 => ?_) (fun hc7 => ?_)
  ·refine ae_ ?_
   refine ab_ ?_
   refine ag_ ?_
   refine ab_ ?_
   have hw := bN_ l n
   have hlt := ni_ l n
   have i2 : ((n : Int) - 2).toNat = n - 2 := by omega
   have i7 : ((n : Int) - 7).toNat = n - 7 := by omega
   have i15 : ((n : Int) - 15).toNat = n - 15 := by omega
   have i16 : ((n : Int) - 16).toNat = n - 16 := by omega
   have q2 := ij_ (w := wds l n) (j := n - 2) (by omega)
   have q7 := ij_ (w := wds l n) (j := n - 7) (by omega)
   have q15 := ij_ (w := wds l n) (j := n - 15) (by omega)
   have q16 := ij_ (w := wds l n) (j := n - 16) (by omega)
   have l2 := eN_ hlt (n - 2); have l7 := eN_ hlt (n - 7); have l15 := eN_ hlt (n - 15); have l16 := eN_ hlt (n - 16)
   have p3 : ((wds l n).getD (n - 15) 0 : Int) / 2 ^ 3 = (((wds l n).getD (n - 15) 0 / 2 ^ 3 : Nat) : Int) := by rw [Int.natCast_ediv]; rfl
   have p10 : ((wds l n).getD (n - 2) 0 : Int) / 2 ^ 10 = (((wds l n).getD (n - 2) 0 / 2 ^ 10 : Nat) : Int) := by rw [Int.natCast_ediv]; rfl
   have x1 := xor3 (c := (wds l n).getD (n - 15) 0 / 2 ^ 3) (bD_ (a := 7) l15) (bD_ (a := 18) l15) (Nat.lt_of_le_of_lt (Nat.div_le_self _ _) l15)
   have x2 := xor3 (c := (wds l n).getD (n - 2) 0 / 2 ^ 10) (bD_ (a := 17) l2) (bD_ (a := 19) l2) (Nat.lt_of_le_of_lt (Nat.div_le_self _ _) l2)
   have hlow := qn_ (rY_ (a := 17) (b := 19) (p := 10) l2) l7 (rY_ (a := 7) (b := 18) (p := 3) l15) l16
   have hnew : (wds l (n + 1)).map vN = (wds l n).map vN ++ [vN ((sm ((wds l n).getD (n - 2) 0) 17 19 10 + (wds l n).getD (n - 7) 0 + sm ((wds l n).getD (n - 15) 0) 7 18 3 + (wds l n).getD (n - 16) 0) % 4294967296)] := by
    rw [wds, lT_, if_neg (by omega), sa_, hw, List.map_append]; rfl
   have s1 := rY_ (a := 17) (b := 19) (p := 10) l2; have s2 := rY_ (a := 7) (b := 18) (p := 3) l15
   have f1 : ((rotr ((wds l n).getD (n - 15) 0) 7 ^^^ rotr ((wds l n).getD (n - 15) 0) 18) ^^^ ((wds l n).getD (n - 15) 0 / 2 ^ 3)) = sm ((wds l n).getD (n - 15) 0) 7 18 3 := rfl
   have f2 : ((rotr ((wds l n).getD (n - 2) 0) 17 ^^^ rotr ((wds l n).getD (n - 2) 0) 19) ^^^ ((wds l n).getD (n - 2) 0 / 2 ^ 10)) = sm ((wds l n).getD (n - 2) 0) 17 19 10 := rfl
   rw [f1] at x1
   rw [f2] at x2
   have R := And.intro i2 (And.intro i15 (And.intro q2 q15))
   refine ap_ (.op 0 0 (.op 1 0 (.op 2 0 (.op 3 0 (.op 4 0 (.op 5 0 (.op 6 0 (.op 7 0 (.op 8 0 (.op 9 0 (.op 10 0 (.op 11 0 .nil)))))))))))) Tryz.mixed kr_ ?_
   iterate 12 refine ds_ ?_
   refine aB_ ?_
   refine ab_ ?_
   have R := And.intro p3 x1
   refine r_ ?_
   refine s_ ?_
   refine x_ g_ va_ (dL_ (a := 7) l15 (by decide) (by decide)) ?_; rintro _ _ ⟨rfl, rfl⟩
   refine s_ ?_
   refine x_ g_ va_ (dL_ (a := 18) l15 (by decide) (by decide)) ?_; rintro _ _ ⟨rfl, rfl⟩
   iterate 5 refine s_ ?_
   refine aa_ ?_
   refine ab_ ?_
   have R := And.intro p10 x2
   refine r_ ?_
   refine s_ ?_
   refine x_ g_ va_ (dL_ (a := 17) l2 (by decide) (by decide)) ?_; rintro _ _ ⟨rfl, rfl⟩
   refine s_ ?_
   refine x_ g_ va_ (dL_ (a := 19) l2 (by decide) (by decide)) ?_; rintro _ _ ⟨rfl, rfl⟩
   iterate 5 refine s_ ?_
   refine aa_ ?_
   have R := And.intro i7 (And.intro i16 (And.intro q7 (And.intro q16 hlow)))
   refine ap_ (.op 0 0 (.op 1 0 (.op 2 0 (.op 3 0 (.op 4 0 (.op 5 0 (.op 6 0 (.op 7 0 (.op 8 0 (.op 9 0 (.op 10 0 (.op 11 0 (.op 12 0 (.op 13 0 (.op 14 0 (.op 15 0 (.op 16 1 (.op 17 1 (.op 18 2 (.op 19 0 .nil)))))))))))))))))))) Tryz.mixed kr_ ?_
   iterate 16 refine ds_ ?_
   refine dx_ o_ g_ va_ (iU_) ?_; rintro _ _ ⟨rfl, rfl⟩; refine ⟨sub_, ?_⟩
   refine dR_X o_ (by rfl) (by rfl) (aS_ (by rfl) g_ g_ (by rfl) (by rfl) h_ c2_ (by decide) ⟨sub_, ?_⟩)
   refine dR_T o_ (by rfl) (by rfl) (bl_ (by rfl) g_ g_ (.inl ⟨_, va_, h_, rfl⟩) (.inl ⟨⟨_, g_⟩, .inl v_, c_⟩) (by simp [hw]; omega) fun k94 hk94 => ?_)
   refine ds_ ?_
   refine aB_ ?_
   refine r_ ?_
   iterate 3 refine s_ ?_
   refine aa_ ?_
   refine aC_ (ι := Nat × Nat) (i := ⟨n, k⟩) (n + 1, k94) ?_ ?_ ?_ ?_
   ·show 64 - (n + 1) < 64 - n; omega
   ·exact ⟨by show n + 1 ≤ 64; omega, by show 16 ≤ n + 1; omega, (aE_ hk94).2⟩
   ·have R := hnew; exact cv_
   ·rw [Store.newTok_step hk]; exact Store.Wk.refl _
  ·refine an_ ?_
   refine ad_ ?_
   refine ad_ ?_
   refine aj_ ?_
   refine ab_ ?_
   obtain rfl : n = 64 := by omega
   refine r_ ?_
   iterate 2 refine s_ ?_
   refine aa_ ?_
   refine af_ ?_
   exact aw_ (v := .sl 1 ((wds l 64).map vN) false) (v' := .own k 1 ((wds l 64).map vN)) va_ (.own1 _ _ _) (bd_ (bm_ hk aX_)) ⟨rfl, rfl⟩
end Go.Proofs.YtcaflcpcbcneiaaGreat
end

section
set_option linter.all false
set_option maxRecDepth 100000
namespace Go.Proofs.YtcaflcpcbcneiaaGreat
open Go.Ab
theorem l8N (x : St8) {n : Nat} (h : n < 8) : ((l8 x).map vN)[n]? = some (vN ((l8 x).getD n 0)) := ij_ (by simpa [l8] using h)
theorem qB_ (x v : St8) {n : Nat} (h : n < 8) : ((l8 (addW x v)).map vN)[n]? = some (vN (((l8 x).getD n 0 + (l8 v).getD n 0) % 4294967296)) := by
 match n, h with
 |0, _ | 1, _ | 2, _ | 3, _ | 4, _ | 5, _ | 6, _ | 7, _ => simp [l8, addW]
theorem ch63 {e f g : Nat} (he : e < 4294967296) (hf : f < 4294967296) (hg : g < 4294967296) : bXor .i64 (bAnd .i64 e f) (bAnd .i64 (gx_ e : Int) g) = (ch e f g : Int) := by
 have h0 := hd_ e
 have c1 := ns_ (p := e) (q := f) (by omega) (by omega)
 have c2 := ns_ (p := gx_ e) (q := g) (by omega) (by omega)
 rw [c1.1, c2.1]; exact (qr_ c1.2 c2.2).1
theorem xb_ {a b c : Nat} (ha : a < 4294967296) (hb : b < 4294967296) (hc : c < 4294967296) : bXor .i64 (bXor .i64 (bAnd .i64 a b) (bAnd .i64 a c)) (bAnd .i64 b c) = (maj a b c : Int) := by
 have m1 := ns_ (p := a) (q := b) (by omega) (by omega); have m2 := ns_ (p := a) (q := c) (by omega) (by omega); have m3 := ns_ (p := b) (q := c) (by omega) (by omega)
 have m12 := qr_ m1.2 m2.2
 rw [m1.1, m2.1, m3.1, m12.1]; exact (qr_ m12.2 m3.2).1
attribute [local irreducible] rnds wds tu maj ch
set_option maxHeartbeats 1000000 in
theorem rq_ {v : St8} {l : List UInt8} {σ : Store} (hv : v.Ok) (hl : 64 ≤ l.length) : ai_ Tryz.prog 224 [.agg ((l8 v).map vN), vStr (B l)] σ fun r σ' => r = .agg ((l8 (br_ v l)).map vN) ∧ σ = σ' := by
 obtain ⟨W, hW⟩ : ∃ W, (wds l 64).map vN = W := ⟨_, rfl⟩
 obtain ⟨Kk, hKk⟩ : ∃ Kk, kS.map vN = Kk := ⟨_, rfl⟩
 have hone : ∀ (w : List Nat), ∀ c ∈ w.map vN, c.one = true := fun w c hc => by
  obtain ⟨x, _, rfl⟩ := List.mem_map.1 hc
  rfl
 have hW1 := hone (wds l 64); have hK1 := hone kS
 have hW64 : ((wds l 64).map vN).length = 64 := by rw [List.length_map, bN_]
 have hK64 : (kS.map vN).length = 64 := by rw [List.length_map]; rfl
 have hWg : ∀ n, n < 64 → ((wds l 64).map vN)[n]? = some (vN ((wds l 64).getD n 0)) := fun n hn => ij_ (by rw [bN_]; exact hn)
 have hKg : ∀ n, n < 64 → (kS.map vN)[n]? = some (vN (kS.getD n 0)) := fun n hn => ij_ hn
 have hwl := eN_ (ni_ l 64)
 have hkl := eN_ w8_
 rw [hW] at hW1 hW64 hWg
 rw [hKk] at hK1 hK64 hKg
 obtain ⟨Z, hZ⟩ : ∃ Z, List.replicate 64 (vN 0) = Z := ⟨_, rfl⟩
 have hZ64 : Z.length = 64 := by rw [← hZ]; simp
 have w8 : ((l8 v).map vN).take 8 = (l8 v).map vN := rfl
 refine en_ Tryz.func224 Tryz.ntmps224 Tryz.results224 ?_
 refine rr_ ?_
 refine bx_ fun o2 ho2 => ?_
 repeat (rw [ac_] at ho2; obtain ⟨_, ho2⟩ := ho2)
 refine lc_ fun o4 ho4 => ?_
 repeat (rw [ac_] at ho4; obtain ⟨_, ho4⟩ := ho4)
 refine aa_ ?_
 refine rr_ ?_
 refine s_ ?_
 refine x_ g_ va_ (rw_ hl) ?_; rintro _ _ ⟨rfl, rfl⟩
 rw [hW]
 refine s_ ?_
 refine aa_ ?_
 refine rr_ ?_
 refine x_ g_ va_ (rs_) ?_; rintro _ _ ⟨rfl, rfl⟩
 rw [hKk]
 refine g0_ (z := .agg (Array.replicate 64 (.int .i64 0))) rfl rfl rfl kr_ (cs := Z) (by rw [← hZ]; rfl) fun o6 ho6 => ?_
 repeat (rw [ac_] at ho6; obtain ⟨_, ho6⟩ := ho6)
 refine bX_ (a := .agg Kk) (cs' := Kk) (cs2 := Kk) rfl rfl rfl v_ va_ h_ g_ rfl rfl hK1 hK64 (by omega) (dc_ (by omega)) ?_
 refine aa_ ?_
 refine ab_ ?_
 have R := w8
 refine r_ ?_
 refine s_ ?_
 refine lc_ fun o7 ho7 => ?_
 repeat (rw [ac_] at ho7; obtain ⟨_, ho7⟩ := ho7)
 refine st_ ?_
 refine aa_ ?_
 have hS : ∃ S0, ((((σ.set o2 (.cells ((l8 v).map vN))).set o4 (.cells ((l8 ⟨0, 0, 0, 0, 0, 0, 0, 0⟩).map vN))).set o6 (.cells Z)).set o6 (.cells Kk)) = S0 := ⟨_, rfl⟩
 obtain ⟨S0, hS⟩ := hS
 have h6 : S0.heap o6 = some (.cells Kk) := by rw [← hS]; exact Store.set_get ..
 have h2 : S0.heap o2 = some (.cells ((l8 v).map vN)) := by rw [← hS]; exact h_
 have h4 : S0.heap o4 = some (.cells ((l8 ⟨0, 0, 0, 0, 0, 0, 0, 0⟩).map vN)) := by rw [← hS]; exact h_
 have hsx : SubX [] σ S0 := by rw [← hS]; exact ar_ ho6 (ar_ ho6 (ar_ ho4 (ar_ ho2 aX_)))
 have n72 : o2 ≠ o7 := Ne.symm ‹_›
 have n74 : o4 ≠ o7 := Ne.symm ‹_›
 have n76 : o6 ≠ o7 := Ne.symm ‹_›
 have h7 : ∀ y : St8, (S0.set o7 (.cells ((l8 y).map vN))).heap o7 = some (.cells ((l8 y).map vN)) := fun y => Store.set_get ..
 have h76 : ∀ y : St8, (S0.set o7 (.cells ((l8 y).map vN))).heap o6 = some (.cells Kk) := fun y => by rw [Store.set_ne _ _ n76, h6]
 have h72 : ∀ y : St8, (S0.set o7 (.cells ((l8 y).map vN))).heap o2 = some (.cells ((l8 v).map vN)) := fun y => by rw [Store.set_ne _ _ n72, h2]
 refine ab_ ?_
 refine rr_ ?_
 refine s_ ?_
 refine aa_ ?_
 refine ag_ ?_
 refine ah_ (ι := Nat) (fun n => 64 - n) (fun n => n ≤ 64) (fun n => [(2, .ref o2 0), (4, .ref o4 0), (5, .sl 1 W false), (6, .ref o6 0), (7, .ref o7 0), (8, vN n)]) (fun n => (S0.set o7 (.cells ((l8 (rnds v l n)).map vN)))) 0 ?_ ?_ ?_ ?_
 ·exact Nat.zero_le _
 ·exact cv_
 ·rw [kM_, ← hS]; exact Store.Wk.refl' (Store.set_set ..).symm
 rintro n hn
 simp only [ak_, am_]
 refine ab_ ?_
 refine ab_ ?_
 have R := hW64
 refine r_ ?_
 iterate 3 refine s_ ?_
 refine gt_ ?_
 refine gt_ ?_
 refine gt_ ?_
 refine gt_ ?_
 refine s_ ?_
 refine aa_ ?_
 refine cd_ (fun hc5 => ?_) (fun hc5 => ?_)
 ·refine ae_ ?_
  refine ab_ ?_
  refine ag_ ?_
  refine ab_ ?_
  have hx := jA_ hv l n
  have e1 := f9_ v l n
  obtain ⟨x, hxe⟩ : ∃ x, rnds v l n = x := ⟨_, rfl⟩
  rw [hxe] at hx e1
  rw [hxe]
  have hn64 : n < 64 := by omega
  have kn := hKg n hn64
  have wn := hWg n hn64
  have hkb := hkl n
  have hwb := hwl n
  obtain ⟨k, hk⟩ : ∃ k, kS.getD n 0 = k := ⟨_, rfl⟩
  obtain ⟨w, hw⟩ : ∃ w, (wds l 64).getD n 0 = w := ⟨_, rfl⟩
  rw [hk] at kn hkb e1
  rw [hw] at wn hwb e1
  have v0 : ((l8 x).map vN)[0]? = some (vN x.a) := rfl
  have v1 : ((l8 x).map vN)[1]? = some (vN x.b) := rfl
  have v2 : ((l8 x).map vN)[2]? = some (vN x.c) := rfl
  have v3 : ((l8 x).map vN)[3]? = some (vN x.d) := rfl
  have v4 : ((l8 x).map vN)[4]? = some (vN x.e) := rfl
  have v5 : ((l8 x).map vN)[5]? = some (vN x.f) := rfl
  have v6 : ((l8 x).map vN)[6]? = some (vN x.g) := rfl
  have v7 : ((l8 x).map vN)[7]? = some (vN x.h) := rfl
  have hl8 : ((l8 x).map vN).length = 8 := rfl
  have b1 := we_ (a := 6) (b := 11) (c := 25) hx.e
  have b2 := we_ (a := 2) (b := 13) (c := 22) hx.a
  have b3 := wZ_ (f := x.f) (g := x.g) hx.e
  have b4 := vB_ (c := x.c) hx.a hx.b
  have b5 := hx.h; have b6 := hx.d
  have t1 : bXor .i64 (bXor .i64 (rotr x.e 6) (rotr x.e 11)) (rotr x.e 25) = (tu x.e 6 11 25 : Int) := by rw [xor3 (bD_ hx.e) (bD_ hx.e) (bD_ hx.e)]; unfold tu; rfl
  have t2 : bXor .i64 (bXor .i64 (rotr x.a 2) (rotr x.a 13)) (rotr x.a 22) = (tu x.a 2 13 22 : Int) := by rw [xor3 (bD_ hx.a) (bD_ hx.a) (bD_ hx.a)]; unfold tu; rfl
  have hno : bAnd .i64 (bXor .i64 (if IntKind.i64.signed = true then -1 else IntKind.i64.max) (x.e : Int)) 4294967295 = (gx_ x.e : Int) := tw_ hx.e
  have c3 := ch63 hx.e hx.f hx.g
  have m4 := xb_ hx.a hx.b hx.c
  have f1 : (x.h : Int) + tu x.e 6 11 25 + ch x.e x.f x.g + k + w = ((t1S x k w : Nat) : Int) := by simp only [t1S]; omega
  have f2 : (tu x.a 2 13 22 : Int) + maj x.a x.b x.c = ((t2S x : Nat) : Int) := by simp only [t2S]; omega
  have f3 : t1S x k w < 21474836480 := by simp only [t1S]; omega
  have f4 : t2S x < 8589934592 := by simp only [t2S]; omega
  have f5 : bAnd .i64 ((t1S x k w : Int) + (t2S x : Int)) 4294967295 = (((t1S x k w + t2S x) % 4294967296 : Nat) : Int) := by rw [← hS_ (by omega)]; congr 1
  have f6 : bAnd .i64 ((x.d : Int) + (t1S x k w : Int)) 4294967295 = (((x.d + t1S x k w) % 4294967296 : Nat) : Int) := by rw [← hS_ (by omega)]; congr 1
  have R := And.intro h7 (And.intro hl8 (And.intro v4 v0))
  refine ap_ (.op 0 0 (.op 1 0 (.op 2 0 (.op 3 0 (.op 4 0 (.op 5 0 .nil)))))) Tryz.mixed kr_ ?_
  iterate 6 refine ds_ ?_
  refine aB_ ?_
  refine ab_ ?_
  have R := And.intro h7 (And.intro hl8 (And.intro v7 (And.intro v5 (And.intro v6 (And.intro h76 (And.intro hK64 (And.intro hW64 (And.intro kn (And.intro wn (And.intro t1 (And.intro hno (And.intro c3 f1))))))))))))
  refine ap_ (.op 0 0 (.op 1 0 (.op 2 0 (.op 4 0 (.op 7 0 (.op 11 0 (.op 12 0 (.op 13 0 (.op 14 0 (.op 15 0 (.op 16 0 (.op 18 0 (.op 19 0 (.op 23 0 (.op 24 0 (.op 25 0 (.op 27 0 (.op 28 0 (.op 29 0 (.op 30 0 (.op 3 1 (.op 5 1 (.op 6 0 (.op 8 1 (.op 9 0 (.op 10 0 (.op 17 1 (.op 20 0 (.op 21 0 (.op 22 0 (.op 26 0 (.op 31 0 (.op 32 0 .nil))))))))))))))))))))))))))))))))) Tryz.mixed kr_ ?_
  iterate 20 refine ds_ ?_
  refine dx_ o_ g_ va_ (dL_ (a := 6) hx.e (by decide) (by decide)) ?_; rintro _ _ ⟨rfl, rfl⟩; refine ⟨sub_, ?_⟩
  refine dx_ o_ g_ va_ (dL_ (a := 11) hx.e (by decide) (by decide)) ?_; rintro _ _ ⟨rfl, rfl⟩; refine ⟨sub_, ?_⟩
  refine ds_ ?_
  refine dx_ o_ g_ va_ (dL_ (a := 25) hx.e (by decide) (by decide)) ?_; rintro _ _ ⟨rfl, rfl⟩; refine ⟨sub_, ?_⟩
  iterate 2 refine ds_ ?_
  refine dx_ o_ g_ va_ (iU_) ?_; rintro _ _ ⟨rfl, rfl⟩; refine ⟨sub_, ?_⟩
  iterate 6 refine ds_ ?_
  refine aB_ ?_
  refine ab_ ?_
  have R := And.intro h7 (And.intro hl8 (And.intro v1 (And.intro v2 (And.intro t2 (And.intro m4 f2)))))
  refine ap_ (.op 0 0 (.op 2 0 (.op 5 0 (.op 8 0 (.op 9 0 (.op 10 0 (.op 11 0 (.op 12 0 (.op 13 0 (.op 14 0 (.op 15 0 (.op 16 0 (.op 17 0 (.op 18 0 (.op 19 0 (.op 20 0 (.op 21 0 (.op 22 0 (.op 1 1 (.op 3 1 (.op 4 0 (.op 6 1 (.op 7 0 (.op 23 0 (.op 24 0 .nil))))))))))))))))))))))))) Tryz.mixed kr_ ?_
  iterate 18 refine ds_ ?_
  refine dx_ o_ g_ va_ (dL_ (a := 2) hx.a (by decide) (by decide)) ?_; rintro _ _ ⟨rfl, rfl⟩; refine ⟨sub_, ?_⟩
  refine dx_ o_ g_ va_ (dL_ (a := 13) hx.a (by decide) (by decide)) ?_; rintro _ _ ⟨rfl, rfl⟩; refine ⟨sub_, ?_⟩
  refine ds_ ?_
  refine dx_ o_ g_ va_ (dL_ (a := 22) hx.a (by decide) (by decide)) ?_; rintro _ _ ⟨rfl, rfl⟩; refine ⟨sub_, ?_⟩
  iterate 3 refine ds_ ?_
  refine aB_ ?_
  have R := And.intro h7 (And.intro hl8 (And.intro v0 (And.intro v1 (And.intro v2 (And.intro v3 (And.intro v4 (And.intro v5 (And.intro v6 (And.intro f5 f6)))))))))
  refine ap_ (.op 0 0 (.op 1 0 (.op 2 0 (.op 4 0 (.op 5 0 (.op 6 0 (.op 7 0 (.op 8 0 (.op 9 0 (.op 10 0 (.op 11 0 (.op 12 0 (.op 13 0 (.op 15 0 (.op 16 0 (.op 17 0 (.op 18 0 (.op 19 0 (.op 20 0 (.op 3 1 (.op 14 1 (.op 21 0 (.op 22 2 .nil))))))))))))))))))))))) Tryz.mixed kr_ ?_
  iterate 19 refine ds_ ?_
  refine dx_ o_ g_ va_ (iU_) ?_; rintro _ _ ⟨rfl, rfl⟩; refine ⟨sub_, ?_⟩
  refine dx_ o_ g_ va_ (iU_) ?_; rintro _ _ ⟨rfl, rfl⟩; refine ⟨sub_, ?_⟩
  refine ds_ ?_
  refine ec_ o_ (by rfl) (by rfl) (by rfl) (cs' := (l8 (rnd x k w)).map vN) (cs2 := (l8 (rnd x k w)).map vN) va_ v_ (h7 x) g_ (by rfl) (by rfl) (hone _) (by rfl) (by simp [l8]) (dc_ (by rfl)) ?_
  refine aB_ ?_
  refine r_ ?_
  iterate 3 refine s_ ?_
  refine aa_ ?_
  refine aC_ (ι := Nat) (i := n) (n + 1) ?_ ?_ ?_ ?_
  ·omega
  ·omega
  ·exact cv_
  ·rw [Store.set_set, e1]; exact Store.Wk.refl _
 ·refine an_ ?_
  refine ad_ ?_
  refine ad_ ?_
  refine aj_ ?_
  refine ab_ ?_
  refine ab_ ?_
  obtain rfl : n = 64 := by omega
  have hx := jA_ hv l 64
  have hbs : addW (rnds v l 64) v = br_ v l := by rw [br_]
  obtain ⟨x, hxe⟩ : ∃ x, rnds v l 64 = x := ⟨_, rfl⟩
  rw [hxe] at hx hbs
  rw [hxe]
  have hA8 : ((l8 (br_ v l)).map vN).length = 8 := rfl
  have hV8 : ((l8 x).map vN).length = 8 := rfl
  have hm7 : ∀ m, (S0.set o7 (.cells (mixA ((l8 (br_ v l)).map vN) ((l8 x).map vN) m))).heap o7 = some (.cells (mixA ((l8 (br_ v l)).map vN) ((l8 x).map vN) m)) := fun m => Store.set_get ..
  have hm2 : ∀ m, (S0.set o7 (.cells (mixA ((l8 (br_ v l)).map vN) ((l8 x).map vN) m))).heap o2 = some (.cells ((l8 v).map vN)) := fun m => by rw [Store.set_ne _ _ n72, h2]
  refine r_ ?_
  refine s_ ?_
  refine aa_ ?_
  refine ag_ ?_
  refine ah_ (ι := Nat) (fun m => 8 - m) (fun m => m ≤ 8) (fun m => [(2, .ref o2 0), (4, .ref o4 0), (7, .ref o7 0), (13, vN m)]) (fun m => (S0.set o7 (.cells (mixA ((l8 (br_ v l)).map vN) ((l8 x).map vN) m)))) 0 ?_ ?_ ?_ ?_
  ·exact Nat.zero_le _
  ·exact cv_
  ·exact Store.Wk.refl _
  rintro m hm
  simp only [ak_, am_]
  refine ab_ ?_
  refine rr_ ?_
  iterate 2 refine s_ ?_
  refine aa_ ?_
  refine cd_ (fun hc12 => ?_) (fun hc12 => ?_)
  ·refine ae_ ?_
   refine ab_ ?_
   refine ag_ ?_
   have hm8 : m < 8 := by omega
   have gx := l8N v hm8
   have gm := mF_ (A := (l8 (br_ v l)).map vN) (by rw [hA8, hV8]) (l8N x hm8)
   have hml : (mixA ((l8 (br_ v l)).map vN) ((l8 x).map vN) m).length = 8 := hV_ (by rw [hA8, hV8])
   have hset := mG_ (V := (l8 x).map vN) (by rw [hA8, hV8]) (by rw [← hbs]; exact qB_ x v hm8)
   have hl8 : ((l8 v).map vN).length = 8 := rfl
   have c1 := rf_ hv hm8; have c2 := rf_ hx hm8
   have c3 : bAnd .i64 (((l8 x).getD m 0 : Nat) + ((l8 v).getD m 0 : Nat) : Int) 4294967295 = ((((l8 x).getD m 0 + (l8 v).getD m 0) % 4294967296 : Nat) : Int) := by rw [← hS_ (by omega)]; congr 1
   have R := And.intro hm7 (And.intro hm2 (And.intro gm (And.intro gx (And.intro hml (And.intro hl8 c3)))))
   refine ap_ (.op 0 0 (.op 1 0 (.op 2 0 (.op 3 0 (.op 4 0 (.op 5 0 (.op 6 0 (.op 7 0 (.op 8 1 (.op 9 0 (.op 10 2 .nil))))))))))) Tryz.mixed kr_ ?_
   iterate 8 refine ds_ ?_
   refine dx_ o_ g_ va_ (iU_) ?_; rintro _ _ ⟨rfl, rfl⟩; refine ⟨sub_, ?_⟩
   refine ds_ ?_
   refine ec_ o_ (by rfl) (by rfl) (by rfl) v_ v_ h_ g_ rfl g_ c_ (by rfl) le_ (g3_ le_) ?_
   refine aB_ ?_
   refine r_ ?_
   iterate 3 refine s_ ?_
   refine aa_ ?_
   refine aC_ (ι := Nat) (i := m) (m + 1) ?_ ?_ ?_ ?_
   ·omega
   ·omega
   ·exact cv_
   ·rw [Store.set_set, hset]; exact Store.Wk.refl _
  ·refine an_ ?_
   refine ad_ ?_
   refine ad_ ?_
   refine aj_ ?_
   refine ab_ ?_
   obtain rfl : m = 8 := by omega
   rw [show mixA ((l8 (br_ v l)).map vN) ((l8 x).map vN) 8 = (l8 (br_ v l)).map vN from rfl]
   have hA1 := hone (l8 (br_ v l))
   obtain ⟨Af, hAf⟩ : ∃ Af, (l8 (br_ v l)).map vN = Af := ⟨_, rfl⟩
   rw [hAf] at hA1 hA8 ⊢
   have htk : Af.take 8 = Af := List.take_of_length_le (by omega)
   have hle8 : 8 ≤ Af.length := by omega
   have n47 : o4 ≠ o7 := n74
   have h4' : (S0.set o7 (.cells Af)).heap o4 = some (.cells ((l8 ⟨0, 0, 0, 0, 0, 0, 0, 0⟩).map vN)) := by rw [Store.set_ne _ _ n47, h4]
   have R := And.intro htk (And.intro hle8 hA8)
   refine r_ ?_
   refine s_ ?_
   refine bX_ (a := .agg Af) (cs' := Af) (cs2 := Af) rfl rfl rfl va_ va_ h4' g_ rfl rfl hA1 hA8 (by decide) (dc_ (by rw [hA8]; rfl)) ?_
   refine aa_ ?_
   refine af_ ?_
   exact au_ (σ' := σ) va_ (bd_ (ar_ ho4 (ar_ ho7 hsx))) ⟨rfl, rfl⟩
theorem ov_ {l : List UInt8} {z : Nat} (h : l.length + z < 9000000000000) : astr .add (B (padZ l z)) (B [0]) = some (.string (B (padZ l (z + 1)))) := by
 rw [hq_ _ _ (by rw [ek_]; simp; omega), kw_]
theorem vO_ {l : List UInt8} {σ : Store} (hs : l.length ≤ 900000000000) : ai_ Tryz.prog 223 [vStr (B l)] σ fun v σ' => v = vStr (B (padS l)) ∧ σ = σ' := by
 have hsz := a3_ l
 have hpz : ∀ z, (B (padZ l z)).size = l.length + 1 + z := fun z => by rw [a3_, ek_]
 have htm : ∀ n : Nat, (n : Int).tmod 64 = ((n % 64 : Nat) : Int) := fun n => rfl
 have hpn : padN l.length < 64 := Nat.mod_lt _ (by decide)
 have h80 : astr .add (B l) ⟨#[128]⟩ = some (.string (B (padZ l 0))) := hq_ l [128] (by simp; omega)
 have h0 : ∀ z, z < 64 → astr .add (B (padZ l z)) ⟨#[0]⟩ = some (.string (B (padZ l (z + 1)))) := fun z hz => ov_ (by omega)
 have hfin : astr .add (B (padZ l (padN l.length))) (B (beI 8 (8 * (l.length : Int)))) = some (.string (B (padS l))) := by
  rw [hq_ _ _ (by rw [ek_, ay_]; omega), kv_]
 refine en_ Tryz.func223 Tryz.ntmps223 Tryz.results223 ?_
 refine rr_ ?_
 refine s_ ?_
 refine aa_ ?_
 refine ab_ ?_
 have R := hsz
 refine r_ ?_
 iterate 3 refine s_ ?_
 refine aa_ ?_
 refine ab_ ?_
 have R := h80
 refine r_ ?_
 iterate 3 refine s_ ?_
 refine aa_ ?_
 refine ab_ ?_
 refine ag_ ?_
 refine ah_ (ι := Nat) (fun z => padN l.length - z) (fun z => z ≤ padN l.length) (fun z => [(0, vStr (B (padZ l z))), (3, vInt l.length)]) (fun z => σ) 0 ?_ ?_ ?_ ?_
 ·exact Nat.zero_le _
 ·exact cv_
 ·exact sub_
 rintro z hz
 simp only [ak_, am_]
 refine ab_ ?_
 refine ab_ ?_
 have R := And.intro hpz htm
 refine r_ ?_
 iterate 4 refine s_ ?_
 refine aa_ ?_
 refine cd_ (fun hc3 => ?_) (fun hc3 => ?_)
 ·refine ae_ ?_
  refine ag_ ?_
  skip
  have hz1 : z + 1 ≤ padN l.length := by
   have := h0_ l.length
   rcases Nat.lt_or_eq_of_le hz with h | h
   ·exact h
   ·rw [h] at hc3; omega
  have h0z := h0 z (by omega)
  have R := h0z
  refine r_ ?_
  iterate 3 refine s_ ?_
  refine aa_ ?_
  refine aC_ (ι := Nat) (i := z) (z + 1) ?_ ?_ ?_ ?_
  ·omega
  ·exact hz1
  ·exact cv_
  ·exact sub_
 ·refine an_ ?_
  refine ad_ ?_
  refine ad_ ?_
  refine aj_ ?_
  refine ab_ ?_
  skip
  obtain rfl : z = padN l.length := by
   rcases Nat.lt_or_eq_of_le hz with h | h
   ·have := iP_ _ _ h; omega
   ·exact h
  have R := hfin
  refine r_ ?_
  iterate 3 refine s_ ?_
  refine x_ g_ va_ (iT_) ?_; rintro _ _ ⟨rfl, rfl⟩
  iterate 2 refine s_ ?_
  refine aa_ ?_
  refine af_ ?_
  refine er_ σ ?_
  exact ⟨rfl, rfl⟩
theorem vQ_ {s : ByteArray} {σ : Store} (hs : s.size ≤ 900000000000) : ai_ Tryz.prog 174 [vStr s] σ fun v σ' => v = vStr (B (shaS (Lb s))) ∧ σ = σ' := by
 have hl := cr_ s
 obtain ⟨l, rfl⟩ : ∃ l, s = B l := ⟨Lb s, (B_Lb s).symm⟩
 rw [Lb_B] at hl ⊢
 rw [a3_] at hs
 refine en_ Tryz.func174 Tryz.ntmps174 Tryz.results174 ?_
 refine rr_ ?_
 refine s_ ?_
 refine aa_ ?_
 refine rr_ ?_
 refine s_ ?_
 refine lc_ fun o3 ho3 => ?_
 repeat (rw [ac_] at ho3; obtain ⟨_, ho3⟩ := ho3)
 refine st_ ?_
 refine aa_ ?_
 refine rr_ ?_
 refine s_ ?_
 refine x_ g_ va_ (vO_ hs) ?_; rintro _ _ ⟨rfl, rfl⟩
 refine s_ ?_
 refine aa_ ?_
 refine ab_ ?_
 refine ag_ ?_
 refine ah_ (ι := List UInt8 × St8 × Nat) (fun ⟨r, v, m⟩ => m) (fun ⟨r, v, m⟩ => r.length = 64 * m ∧ v.Ok ∧ outS (runS m v r) = shaS l) (fun ⟨r, v, m⟩ => [(3, .ref o3 0), (4, vStr (B r))]) (fun ⟨r, v, m⟩ => (σ.set o3 (.cells ((l8 v).map vN)))) (padS l, rc_, (padS l).length / 64) ?_ ?_ ?_ ?_
 ·exact ⟨h1_ l, my_, rfl⟩
 ·exact cv_
 ·exact Store.Wk.refl' (Store.set_set ..).symm
 rintro ⟨r, v, m⟩ ⟨hr, hv, hrun⟩
 simp only [ak_, am_]
 refine ab_ ?_
 refine ab_ ?_
 have R := @a3_
 refine r_ ?_
 iterate 3 refine s_ ?_
 refine aa_ ?_
 refine cd_ (fun hc3 => ?_) (fun hc3 => ?_)
 ·refine ae_ ?_
  refine ag_ ?_
  refine ab_ ?_
  have hm0 : 1 ≤ m := by omega
  have ht64 : (B r).extract 0 64 = B (r.take 64) := by rw [b6_, Lb_B]; rfl
  have hdr : (B r).extract 64 r.length = B (r.drop 64) := by rw [b6_, Lb_B, List.take_of_length_le (Nat.le_refl _)]
  have hv8 : ((l8 v).map vN).take 8 = (l8 v).map vN := rfl
  have hsr := a3_ r
  obtain ⟨Af, hAf⟩ : ∃ Af, (l8 (br_ v (r.take 64))).map vN = Af := ⟨_, rfl⟩
  have hA1 : ∀ c ∈ Af, c.one = true := fun c hc => by
   rw [← hAf] at hc
   obtain ⟨x, _, rfl⟩ := List.mem_map.1 hc
   rfl
  have hA8 : Af.length = 8 := by rw [← hAf]; rfl
  have hset : ((σ.set o3 (.cells ((l8 v).map vN))).set o3 (.cells Af)) = σ.set o3 (.cells Af) := Store.set_set ..
  have R := And.intro ht64 (And.intro hv8 hsr)
  refine ap_ (.op 0 0 (.op 1 0 (.op 2 0 (.op 3 2 (.op 4 2 .nil))))) Tryz.mixed kr_ ?_
  iterate 3 refine ds_ ?_
  refine tx_ o_ g_ va_ (rq_ (l := r.take 64) hv (by rw [List.length_take]; omega)) ?_; rintro _ _ ⟨rfl, rfl⟩
  rw [hAf]
  refine ec_ o_ (by rfl) (by rfl) (by rfl) (a := .agg Af) (cs' := Af) (cs2 := Af) va_ va_ (Store.set_get ..) g_ rfl rfl hA1 hA8 (by simp [l8]) (dc_ (by rw [hA8]; rfl)) ?_
  refine aB_ ?_
  have R := And.intro hsr hdr
  refine r_ ?_
  iterate 3 refine s_ ?_
  refine aa_ ?_
  refine aC_ (ι := List UInt8 × St8 × Nat) (i := ⟨r, v, m⟩) (r.drop 64, br_ v (r.take 64), m - 1) ?_ ?_ ?_ ?_
  ·show m - 1 < m; omega
  ·exact ⟨by show (r.drop 64).length = 64 * (m - 1); rw [List.length_drop]; omega, oo_ _ _, by rw [← hrun]; obtain ⟨q, rfl⟩ : ∃ q, m = q + 1 := ⟨m - 1, by omega⟩; rfl⟩
  ·exact cv_
  ·rw [hset, ← hAf]; exact Store.Wk.refl _
 ·refine an_ ?_
  refine ad_ ?_
  refine ad_ ?_
  refine aj_ ?_
  refine ab_ ?_
  obtain rfl : m = 0 := by omega
  rw [runS] at hrun
  have h3 : (σ.set o3 (.cells ((l8 v).map vN))).heap o3 = some (.cells ((l8 v).map vN)) := Store.set_get ..
  refine r_ ?_
  refine s_ ?_
  refine aa_ ?_
  refine ab_ ?_
  refine rr_ ?_
  refine s_ ?_
  refine aa_ ?_
  refine ag_ ?_
  refine ah_ (ι := Nat) (fun m => 8 - m) (fun m => m ≤ 8) (fun m => [(3, .ref o3 0), (5, vStr (B (outN v m))), (6, vInt m)]) (fun m => (σ.set o3 (.cells ((l8 v).map vN)))) 0 ?_ ?_ ?_ ?_
  ·exact Nat.zero_le _
  ·exact cv_
  ·exact Store.Wk.refl _
  rintro m hm
  simp only [ak_, am_]
  refine ab_ ?_
  refine rr_ ?_
  iterate 2 refine s_ ?_
  refine aa_ ?_
  refine cd_ (fun hc8 => ?_) (fun hc8 => ?_)
  ·refine ae_ ?_
   refine ab_ ?_
   refine ag_ ?_
   have hm8 : m < 8 := by omega
   have gx := l8N v hm8
   have hol := fw_ v hm
   have hlt := rf_ hv hm8
   have hbl := ay_ 4 (((l8 v).getD m 0 : Nat) : Int)
   have hl8 : ((l8 v).map vN).length = 8 := rfl
   have R := And.intro h3 (And.intro gx hl8)
   refine r_ ?_
   iterate 4 refine s_ ?_
   refine x_ g_ va_ (e9_) ?_; rintro _ _ ⟨rfl, rfl⟩
   iterate 2 refine s_ ?_
   refine aa_ ?_
   refine r_ ?_
   iterate 3 refine s_ ?_
   refine aa_ ?_
   refine aC_ (ι := Nat) (i := m) (m + 1) ?_ ?_ ?_ ?_
   ·omega
   ·omega
   ·have R := (ku_ v hm8); exact cv_
   ·exact Store.Wk.refl _
  ·refine an_ ?_
   refine ad_ ?_
   refine ad_ ?_
   refine aj_ ?_
   refine ab_ ?_
   obtain rfl : m = 8 := by omega
   have R := And.intro mO_ hrun
   refine r_ ?_
   iterate 2 refine s_ ?_
   refine aa_ ?_
   refine af_ ?_
   refine er_ σ ?_
   exact ⟨rfl, rfl⟩
end Go.Proofs.YtcaflcpcbcneiaaGreat
end

section
set_option linter.all false
set_option maxRecDepth 100000
namespace Go.Proofs.YtcaflcpcbcneiaaGreat
open Go.Ab
theorem tl_ {α : Type} {l : List α} {k : Nat} (h : k < l.length) : ∃ x, l[k]? = some x := ⟨l[k], List.getElem?_eq_getElem h⟩
theorem rv_ {L : List ByteArray} {t : Bool} {σ : Store} (hs : ∀ x ∈ L, x.size ≤ 1000000) (hL : (L.flatMap a9_).length ≤ 999999999000) (hLb : L.length ≤ 1000000) : ai_ Tryz.prog 175 [.sl 1 (L.map vStr) t] σ fun v σ' => v = vStr (B (dd_ a9_ L)) ∧ σ = σ' := by
 refine en_ Tryz.func175 Tryz.ntmps175 Tryz.results175 ?_
 refine rr_ ?_
 refine s_ ?_
 refine aa_ ?_
 refine rr_ ?_
 iterate 2 refine s_ ?_
 refine x_ g_ va_ (e9_) ?_; rintro _ _ ⟨rfl, rfl⟩
 refine s_ ?_
 refine aa_ ?_
 refine ab_ ?_
 refine rr_ ?_
 refine s_ ?_
 refine aa_ ?_
 refine ag_ ?_
 refine ah_ (ι := Nat) (fun i => L.length - i) (fun i => i ≤ L.length) (fun i => [(0, .sl 1 (L.map vStr) t), (3, vStr (B (beI 4 L.length ++ (L.take i).flatMap a9_))), (4, vInt i)]) (fun i => σ) 0 ?_ ?_ ?_ ?_
 ·exact Nat.zero_le _
 ·have R := And.intro g2_ @mq_; exact cv_
 ·exact sub_
 rintro i hi
 simp only [ak_, am_]
 refine ab_ ?_
 refine rr_ ?_
 iterate 4 refine s_ ?_
 refine aa_ ?_
 refine cd_ (fun hc3 => ?_) (fun hc3 => ?_)
 ·refine ae_ ?_
  refine ab_ ?_
  refine ag_ ?_
  obtain ⟨x, hx⟩ := tl_ (l := L) (k := i) (by omega)
  have hb := bi_ (f := a9_) L (i + 1)
  rw [a0_ hx, List.length_append, aP_] at hb
  have hsm := hs x (List.mem_of_getElem? hx)
  have q1 : (beI 4 (L.length : Int) ++ (L.take i).flatMap a9_).length = 4 + ((L.take i).flatMap a9_).length := by rw [List.length_append, ay_]
  have q2 := aP_ x
  have hnx : beI 4 (L.length : Int) ++ (L.take i).flatMap a9_ ++ a9_ x = beI 4 (L.length : Int) ++ (L.take (i + 1)).flatMap a9_ := by rw [a0_ hx, ← List.append_assoc]
  have R := hx
  refine r_ ?_
  iterate 5 refine s_ ?_
  refine x_ g_ va_ (gB_ (by omega)) ?_; rintro _ _ ⟨rfl, rfl⟩
  iterate 2 refine s_ ?_
  refine aa_ ?_
  refine r_ ?_
  iterate 3 refine s_ ?_
  refine aa_ ?_
  refine aC_ (ι := Nat) (i := i) (i + 1) ?_ ?_ ?_ ?_
  ·omega
  ·omega
  ·have R := hnx; exact cv_
  ·exact sub_
 ·refine an_ ?_
  refine ad_ ?_
  refine ad_ ?_
  refine aj_ ?_
  refine rr_ ?_
  iterate 2 refine s_ ?_
  refine aa_ ?_
  refine af_ ?_
  refine er_ σ ?_
  exact ⟨by rw [List.take_of_length_le (by omega)]; rfl, rfl⟩
def tx2 (t p : ByteArray) : List UInt8 := dd_ a9_ [t, p]
def hshS (t p : ByteArray) : List UInt8 := shaS (tx2 t p)
def fx_ (t p : ByteArray) (n : Int) : Int := if 1 ≤ n ∧ n ≤ 4096 then (w0 (hshS t p) 0 : Int) * n / 2 ^ 32 else 0
theorem ro_ (t p : ByteArray) : fx_ t p 1 = 0 := by
 have := ql_ (hshS t p) 0
 rw [fx_, if_pos (by decide)]; omega
theorem mv_ (t p : ByteArray) : (hshS t p).length = 32 := lN_ _
theorem wg_ {l : List UInt8} (h : 4 ≤ l.length) : natB (l.take 4) = w0 l 0 := by
 match l, h with
 |a :: b :: c :: d :: r, _ =>
  have h1 := a.toNat_lt; have h2 := b.toNat_lt; have h3 := c.toNat_lt; have h4 := d.toNat_lt
  show (((0 * 256 + a.toNat) * 256 + b.toNat) * 256 + c.toNat) * 256 + d.toNat = ((a.toNat * 16777216 ||| b.toNat * 65536) ||| c.toNat * 256) ||| d.toNat
  rw [show a.toNat * 16777216 = 2 ^ 24 * a.toNat by omega, ← Nat.two_pow_add_eq_or_of_lt (by omega), show 2 ^ 24 * a.toNat + b.toNat * 65536 = 2 ^ 16 * (a.toNat * 256 + b.toNat) by omega, ← Nat.two_pow_add_eq_or_of_lt (by omega), show 2 ^ 16 * (a.toNat * 256 + b.toNat) + c.toNat * 256 = 2 ^ 8 * ((a.toNat * 256 + b.toNat) * 256 + c.toNat) by omega, ← Nat.two_pow_add_eq_or_of_lt (by omega)]
  omega
theorem qk_ {t p : ByteArray} (ht : t.size ≤ 1000000) (hp : p.size ≤ 1000000) : ([t, p].flatMap a9_).length ≤ 3000000 ∧ (tx2 t p).length ≤ 3000000 := by
 have h1 := aP_ t; have h2 := aP_ p
 simp only [tx2, dd_, List.flatMap_cons, List.flatMap_nil, List.append_nil, List.length_append, ay_]; omega
theorem tQ_ (t p : ByteArray) : bu_ (hshS t p, true) 4294967295 = (w0 (hshS t p) 0, (hshS t p).drop 4, true) := by
 have hl := mv_ t p
 have hw := ql_ (hshS t p) 0
 unfold bu_
 rw [gC_ rfl (by show 4 ≤ (hshS t p).length; omega)]
 simp only
 rw [wg_ (by omega), if_neg (by omega)]
theorem xd_ {t p : ByteArray} {b : Bool} {σ : Store} (ht : t.size ≤ 1000000) (hp : p.size ≤ 1000000) : ai_ Tryz.prog 119 [.sl 1 [vStr t, vStr p] b] σ fun v σ' => v = vStr (B (hshS t p)) ∧ σ = σ' := by
 obtain ⟨l1, l2⟩ := qk_ ht hp
 refine en_ Tryz.func119 Tryz.ntmps119 Tryz.results119 ?_
 refine rr_ ?_
 refine s_ ?_
 refine aa_ ?_
 refine rr_ ?_
 refine s_ ?_
 refine aL_X rfl rfl (gZ_ rfl va_ fun o5 ho5 => ?_)
 refine s_ ?_
 refine aa_ ?_
 have hw : WR (σ.set o5 (.cells [.nilp o5 164 2, .lit (.slice none 0 0)])) o5 [] := ⟨_, _, none, Store.set_get .., .inr rfl, .inr ⟨rfl, rfl, rfl⟩⟩
 refine rr_ ?_
 iterate 2 refine s_ ?_
 refine x_ g_ va_ (qq_ (L := [t, p]) hw (fun x hx => by rcases List.mem_cons.1 hx with rfl | hx; exact ht; rcases List.mem_cons.1 hx with rfl | hx; exact hp; cases hx) (by simp only [List.length_nil]; omega) (by show 2 ≤ 1000000; decide)) ?_; rintro _ τ1 ⟨rfl, a1, a2⟩
 refine aa_ ?_
 refine rr_ ?_
 refine s_ ?_
 refine x_ g_ va_ (eX_ a1 (by show (tx2 t p).length ≤ _; omega)) ?_; rintro _ τ2 ⟨rfl, c2⟩
 refine x_ g_ va_ (xp_ (by rw [a3_]; show (tx2 t p).length ≤ _; omega)) ?_; rintro _ _ ⟨rfl, rfl⟩
 refine s_ ?_
 refine aa_ ?_
 refine af_ ?_
 have h1 := WF.sub (x := .cells [.nilp o5 164 2, .lit (.slice none 0 0)]) ho5 (a2.trans c2) (fun a t sz l hh => by simp at hh)
 exact au_ (σ' := σ) va_ (Store.Sub.wk h1) ⟨by rw [hshS, Lb_B]; rfl, rfl⟩
theorem vM_ {t p : ByteArray} {b : Bool} {σ : Store} (ht : t.size ≤ 1000000) (hp : p.size ≤ 1000000) : ai_ Tryz.prog 121 [.sl 1 [vStr t, vStr p] b] σ fun v σ' => v = vStr (B (hshS t p)) ∧ σ = σ' := by
 obtain ⟨l1, l2⟩ := qk_ ht hp
 refine en_ Tryz.func121 Tryz.ntmps121 Tryz.results121 ?_
 refine rr_ ?_
 refine s_ ?_
 refine aa_ ?_
 refine rr_ ?_
 refine s_ ?_
 refine x_ g_ va_ (rv_ (L := [t, p]) (fun x hx => by rcases List.mem_cons.1 hx with rfl | hx; exact ht; rcases List.mem_cons.1 hx with rfl | hx; exact hp; cases hx) (by omega) (by show 2 ≤ 1000000; decide)) ?_; rintro _ _ ⟨rfl, rfl⟩
 refine x_ g_ va_ (vQ_ (by rw [a3_]; show (tx2 t p).length ≤ _; omega)) ?_; rintro _ _ ⟨rfl, rfl⟩
 refine s_ ?_
 refine aa_ ?_
 refine af_ ?_
 refine er_ σ ?_
 exact ⟨by rw [hshS, Lb_B]; rfl, rfl⟩
theorem sC_ {w : Nat} {n : Int} (hw : w < 4294967296) (h1 : 1 ≤ n) (h2 : n ≤ 4096) : 0 ≤ (w : Int) * n ∧ (w : Int) * n ≤ 17592186044416 := by
 obtain ⟨k, rfl⟩ := Int.eq_ofNat_of_zero_le (show 0 ≤ n by omega)
 have h3 := Nat.mul_le_mul (Nat.le_of_lt hw) (show k ≤ 4096 by omega)
 rw [← Int.natCast_mul]
 omega
theorem vC_ {n : Int} {σ : Store} : ai_ Tryz.prog 117 [vInt n] σ fun v σ' => v = vB (decide (1 ≤ n) && decide (n ≤ 4096)) ∧ σ = σ' := by
 refine en_ Tryz.func117 Tryz.ntmps117 Tryz.results117 ?_
 refine rr_ ?_
 refine s_ ?_
 refine aa_ ?_
 refine rr_ ?_
 iterate 3 refine s_ ?_
 refine gt_ ?_
 refine gt_ ?_
 iterate 2 refine s_ ?_
 refine aa_ ?_
 refine af_ ?_
 refine er_ σ ?_
 exact ⟨rfl, rfl⟩
theorem vH_ {t p : ByteArray} {n : Int} {σ : Store} (ht : t.size ≤ 1000000) (hp : p.size ≤ 1000000) : ai_ Tryz.prog 56 [vStr t, vStr p, vInt n] σ fun v σ' => v = vInt (fx_ t p n) ∧ σ = σ' := by
 have hw := ql_ (hshS t p) 0
 refine en_ Tryz.func56 Tryz.ntmps56 Tryz.results56 ?_
 refine rr_ ?_
 refine s_ ?_
 refine aa_ ?_
 refine ab_ ?_
 refine rr_ ?_
 refine s_ ?_
 refine x_ g_ va_ (vC_) ?_; rintro _ _ ⟨rfl, rfl⟩
 refine s_ ?_
 refine aa_ ?_
 refine cd_ (fun hc1 => ?_) (fun hc1 => ?_)
 ·have hn : ¬ (1 ≤ n ∧ n ≤ 4096) := by omega
  refine rr_ ?_
  refine s_ ?_
  refine aa_ ?_
  refine af_ ?_
  refine er_ σ ?_
  exact ⟨by rw [fx_, if_neg hn], rfl⟩
 ·have hn : 1 ≤ n ∧ n ≤ 4096 := by omega
  obtain ⟨m0, m1⟩ := sC_ hw hn.1 hn.2
  refine ae_ ?_
  refine rr_ ?_
  iterate 2 refine s_ ?_
  refine ao_ rfl rfl rfl g_ g_ rfl rfl h_ c2_ (by decide) ?_
  refine x_ g_ va_ (xd_ ht hp) ?_; rintro _ _ ⟨rfl, rfl⟩
  refine x_ g_ va_ (vE_ (s := hshS t p)) ?_; rintro _ _ ⟨o, ho, rfl, rfl⟩
  refine x_ g_ va_ (eT_ (m := 4294967295) (x := (hshS t p, true)) (Store.set_get ..)) ?_; rintro _ _ ⟨rfl, rfl⟩
  rw [tQ_]
  refine s_ ?_
  refine aa_ ?_
  refine rr_ ?_
  iterate 5 refine s_ ?_
  refine aa_ ?_
  refine af_ ?_
  refine er_ σ ?_
  exact ⟨by rw [fx_, if_pos hn], rfl⟩
theorem tN_ {t p : ByteArray} {n : Int} {σ : Store} (ht : t.size ≤ 1000000) (hp : p.size ≤ 1000000) : ai_ Tryz.prog 57 [vStr t, vStr p, vInt n] σ fun v σ' => v = vInt (fx_ t p n) ∧ σ = σ' := by
 have hw := ql_ (hshS t p) 0
 refine en_ Tryz.func57 Tryz.ntmps57 Tryz.results57 ?_
 refine rr_ ?_
 refine s_ ?_
 refine aa_ ?_
 refine ab_ ?_
 refine rr_ ?_
 iterate 3 refine s_ ?_
 refine gf_ ?_
 refine gf_ ?_
 refine s_ ?_
 refine aa_ ?_
 refine cd_ (fun hc1 => ?_) (fun hc1 => ?_)
 ·have hn : ¬ (1 ≤ n ∧ n ≤ 4096) := by omega
  refine rr_ ?_
  refine s_ ?_
  refine aa_ ?_
  refine af_ ?_
  refine er_ σ ?_
  exact ⟨by rw [fx_, if_neg hn], rfl⟩
 ·have hn : 1 ≤ n ∧ n ≤ 4096 := by omega
  obtain ⟨m0, m1⟩ := sC_ hw hn.1 hn.2
  refine ae_ ?_
  refine rr_ ?_
  iterate 2 refine s_ ?_
  refine ao_ rfl rfl rfl g_ g_ rfl rfl h_ c2_ (by decide) ?_
  refine x_ g_ va_ (vM_ ht hp) ?_; rintro _ _ ⟨rfl, rfl⟩
  refine s_ ?_
  refine aa_ ?_
  refine ab_ ?_
  have b0 := bn_ (hshS t p) 0; have b1 := bn_ (hshS t p) 1; have b2 := bn_ (hshS t p) 2; have b3 := bn_ (hshS t p) 3
  have h32 := mv_ t p
  have hb : ∀ j, j < (hshS t p).length → ∃ c : UInt8, (B (hshS t p))[j]? = some c ∧ ((c.toNat : Nat) : Int) = (bR_ (hshS t p) j : Int) := fun j hj => ⟨(hshS t p)[j], by rw [uv_, List.getElem?_eq_getElem hj], by simp [bR_, List.getD, hj]⟩
  obtain ⟨c0, g0, d0⟩ := hb 0 (by omega)
  obtain ⟨c1, g1, d1⟩ := hb 1 (by omega)
  obtain ⟨c2, g2, d2⟩ := hb 2 (by omega)
  obtain ⟨c3, g3, d3⟩ := hb 3 (by omega)
  have hor := (i6_ b0 b1 b2 b3).trans (show (lU_ (bR_ (hshS t p) 0) (bR_ (hshS t p) 1) (bR_ (hshS t p) 2) (bR_ (hshS t p) 3) : Int) = (w0 (hshS t p) 0 : Int) from rfl)
  have R := And.intro g0 (And.intro g1 (And.intro g2 (And.intro g3 (And.intro d0 (And.intro d1 (And.intro d2 (And.intro d3 hor)))))))
  refine ap_ (.op 0 0 (.op 1 0 (.op 2 0 (.op 3 0 (.op 4 0 (.op 5 0 (.op 6 0 (.op 7 0 (.op 8 0 (.op 9 0 (.op 10 0 (.op 11 0 (.op 12 0 (.op 13 0 (.op 14 0 (.op 15 0 (.op 16 0 (.op 17 0 (.op 18 0 .nil))))))))))))))))))) Tryz.mixed kr_ ?_
  iterate 19 refine ds_ ?_
  refine aB_ ?_
  refine rr_ ?_
  iterate 5 refine s_ ?_
  refine aa_ ?_
  refine af_ ?_
  refine er_ σ ?_
  exact ⟨by rw [fx_, if_pos hn], rfl⟩
end Go.Proofs.YtcaflcpcbcneiaaGreat
end
