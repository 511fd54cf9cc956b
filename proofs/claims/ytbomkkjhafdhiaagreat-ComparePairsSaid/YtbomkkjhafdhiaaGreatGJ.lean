/-
  What the reference writes as bytes; SHA-256 AS NUMBERS: what both texts reckon; SHA-256: the program's words and blocks; SHA-256: the program's block; SHA-256: the program's sum. Own work (an AI agent).
-/
import Derived.Test.YtbomkkjhafdhiaaGreatGD

section
set_option linter.all false
set_option maxRecDepth 100000
namespace Go.Proofs.YtbomkkjhafdhiaaGreat
open Go.Ab

end Go.Proofs.YtbomkkjhafdhiaaGreat
end

section
set_option linter.all false
namespace Go.Ab

def rotr (x a : Nat) : Nat := (x / 2 ^ a) ||| ((x * 2 ^ (32 - a)) % 4294967296)
theorem rotr_lt {x a : Nat} (h : x < 4294967296) : rotr x a < 4294967296 :=
  Nat.or_lt_two_pow (n := 32) (Nat.lt_of_le_of_lt (Nat.div_le_self _ _) h) (Nat.mod_lt _ (by decide))
def tu (x a b c : Nat) : Nat := (rotr x a ^^^ rotr x b) ^^^ rotr x c
def sm (x a b p : Nat) : Nat := (rotr x a ^^^ rotr x b) ^^^ (x / 2 ^ p)
def not32 (e : Nat) : Nat := 4294967295 - e
theorem not32_lt (e : Nat) : not32 e < 4294967296 := by unfold not32; omega
theorem xor_ones {e : Nat} (h : e < 4294967296) : 4294967295 ^^^ e = not32 e := by
  have h1 : (BitVec.allOnes 32 ^^^ BitVec.ofNat 32 e).toNat = 4294967295 ^^^ e := by
    rw [BitVec.toNat_xor, BitVec.toNat_allOnes, BitVec.toNat_ofNat, Nat.mod_eq_of_lt h]
  rw [← h1, BitVec.allOnes_xor, BitVec.toNat_not, BitVec.toNat_ofNat, Nat.mod_eq_of_lt h]
  rfl
theorem bXor_ones {e : Nat} (h : e < 4294967296) : bXor .u32 4294967295 e = (not32 e : Int) := by
  have := (xor32 (p := 4294967295) (q := e) (by decide) h).1
  rw [xor_ones h] at this
  exact this
def ch (e f g : Nat) : Nat := (e &&& f) ^^^ (not32 e &&& g)
def maj (a b c : Nat) : Nat := ((a &&& b) ^^^ (a &&& c)) ^^^ (b &&& c)
/-! ### words -/
def byteAt (l : List UInt8) (j : Nat) : Nat := (l.getD j 0).toNat
theorem byteAt_lt (l : List UInt8) (j : Nat) : byteAt l j < 256 := (l.getD j 0).toNat_lt
def word4 (p q r s : Nat) : Nat := ((p * 16777216 ||| q * 65536) ||| r * 256) ||| s
theorem word4_lt {p q r s : Nat} (hp : p < 256) (hq : q < 256) (hr : r < 256) (hs : s < 256) : word4 p q r s < 4294967296 :=
  Nat.or_lt_two_pow (n := 32) (Nat.or_lt_two_pow (n := 32) (Nat.or_lt_two_pow (n := 32) (by omega) (by omega)) (by omega)) (by omega)
def w0 (l : List UInt8) (t : Nat) : Nat := word4 (byteAt l (4 * t)) (byteAt l (4 * t + 1)) (byteAt l (4 * t + 2)) (byteAt l (4 * t + 3))
theorem w0_lt (l : List UInt8) (t : Nat) : w0 l t < 4294967296 := word4_lt (byteAt_lt ..) (byteAt_lt ..) (byteAt_lt ..) (byteAt_lt ..)
def wNext (w : List Nat) : Nat := (sm (w.getD (w.length - 2) 0) 17 19 10 + w.getD (w.length - 7) 0 + sm (w.getD (w.length - 15) 0) 7 18 3 + w.getD (w.length - 16) 0) % 4294967296
theorem wNext_lt (w : List Nat) : wNext w < 4294967296 := Nat.mod_lt _ (by decide)
def wStep (l : List UInt8) (w : List Nat) : Nat := if w.length < 16 then w0 l w.length else wNext w
theorem wStep_lt (l : List UInt8) (w : List Nat) : wStep l w < 4294967296 := by unfold wStep; split; exact w0_lt ..; exact wNext_lt _
/-- the first words of a block -/
def wds (l : List UInt8) : Nat → List Nat
  | 0 => []
  | n + 1 => wds l n ++ [wStep l (wds l n)]
theorem wds_length (l : List UInt8) : ∀ n, (wds l n).length = n
  | 0 => rfl
  | n + 1 => by rw [wds, List.length_append, wds_length l n]; rfl
theorem wds_lt (l : List UInt8) : ∀ n, ∀ x ∈ wds l n, x < 4294967296
  | 0 => by simp [wds]
  | n + 1 => fun x hx => by
    rw [wds] at hx
    rcases List.mem_append.1 hx with h | h
    · exact wds_lt l n x h
    · obtain rfl := List.mem_singleton.1 h; exact wStep_lt ..
theorem getD_lt {w : List Nat} (h : ∀ x ∈ w, x < 4294967296) (j : Nat) : w.getD j 0 < 4294967296 := by
  rw [List.getD_eq_getElem?_getD]
  cases hj : w[j]? with
  | none => decide
  | some x => exact h x (List.mem_of_getElem? hj)

def kS : List Nat := [0x428a2f98, 0x71374491, 0xb5c0fbcf, 0xe9b5dba5, 0x3956c25b, 0x59f111f1, 0x923f82a4, 0xab1c5ed5,
  0xd807aa98, 0x12835b01, 0x243185be, 0x550c7dc3, 0x72be5d74, 0x80deb1fe, 0x9bdc06a7, 0xc19bf174,
  0xe49b69c1, 0xefbe4786, 0x0fc19dc6, 0x240ca1cc, 0x2de92c6f, 0x4a7484aa, 0x5cb0a9dc, 0x76f988da,
  0x983e5152, 0xa831c66d, 0xb00327c8, 0xbf597fc7, 0xc6e00bf3, 0xd5a79147, 0x06ca6351, 0x14292967,
  0x27b70a85, 0x2e1b2138, 0x4d2c6dfc, 0x53380d13, 0x650a7354, 0x766a0abb, 0x81c2c92e, 0x92722c85,
  0xa2bfe8a1, 0xa81a664b, 0xc24b8b70, 0xc76c51a3, 0xd192e819, 0xd6990624, 0xf40e3585, 0x106aa070,
  0x19a4c116, 0x1e376c08, 0x2748774c, 0x34b0bcb5, 0x391c0cb3, 0x4ed8aa4a, 0x5b9cca4f, 0x682e6ff3,
  0x748f82ee, 0x78a5636f, 0x84c87814, 0x8cc70208, 0x90befffa, 0xa4506ceb, 0xbef9a3f7, 0xc67178f2]
structure St8 where
  a : Nat
  b : Nat
  c : Nat
  d : Nat
  e : Nat
  f : Nat
  g : Nat
  h : Nat
structure St8.Ok (x : St8) : Prop where
  a : x.a < 4294967296
  b : x.b < 4294967296
  c : x.c < 4294967296
  d : x.d < 4294967296
  e : x.e < 4294967296
  f : x.f < 4294967296
  g : x.g < 4294967296
  h : x.h < 4294967296
def t1S (x : St8) (k w : Nat) : Nat := x.h + tu x.e 6 11 25 + ch x.e x.f x.g + k + w
def t2S (x : St8) : Nat := tu x.a 2 13 22 + maj x.a x.b x.c
def rnd (x : St8) (k w : Nat) : St8 := ⟨(t1S x k w + t2S x) % 4294967296, x.a, x.b, x.c, (x.d + t1S x k w) % 4294967296, x.e, x.f, x.g⟩
theorem rnd_ok {x : St8} (h : x.Ok) (k w : Nat) : (rnd x k w).Ok := ⟨Nat.mod_lt _ (by decide), h.a, h.b, h.c, Nat.mod_lt _ (by decide), h.e, h.f, h.g⟩
/-- n rounds with the words of a block -/
def rnds (v : St8) (l : List UInt8) : Nat → St8
  | 0 => v
  | n + 1 => rnd (rnds v l n) (kS.getD n 0) ((wds l 64).getD n 0)
theorem rnds_ok {v : St8} (h : v.Ok) (l : List UInt8) : ∀ n, (rnds v l n).Ok
  | 0 => h
  | n + 1 => rnd_ok (rnds_ok h l n) _ _
def addS (x v : St8) : St8 := ⟨(x.a + v.a) % 4294967296, (x.b + v.b) % 4294967296, (x.c + v.c) % 4294967296, (x.d + v.d) % 4294967296, (x.e + v.e) % 4294967296, (x.f + v.f) % 4294967296, (x.g + v.g) % 4294967296, (x.h + v.h) % 4294967296⟩
theorem addS_ok (x v : St8) : (addS x v).Ok := ⟨Nat.mod_lt _ (by decide), Nat.mod_lt _ (by decide), Nat.mod_lt _ (by decide), Nat.mod_lt _ (by decide), Nat.mod_lt _ (by decide), Nat.mod_lt _ (by decide), Nat.mod_lt _ (by decide), Nat.mod_lt _ (by decide)⟩
def blockS (v : St8) (l : List UInt8) : St8 := addS (rnds v l 64) v
def runS : Nat → St8 → List UInt8 → St8
  | 0, v, _ => v
  | n + 1, v, l => runS n (blockS v (l.take 64)) (l.drop 64)
def initS : St8 := ⟨0x6a09e667, 0xbb67ae85, 0x3c6ef372, 0xa54ff53a, 0x510e527f, 0x9b05688c, 0x1f83d9ab, 0x5be0cd19⟩
theorem initS_ok : initS.Ok := by constructor <;> decide
/-- how many nothings go behind -/
def padN (n : Nat) : Nat := (119 - n % 64) % 64
theorem padN_spec (n : Nat) : (n + 1 + padN n) % 64 = 56 := by unfold padN; omega
theorem padN_least (n z : Nat) (h : z < padN n) : (n + 1 + z) % 64 ≠ 56 := by unfold padN at h; omega
def padS (l : List UInt8) : List UInt8 := l ++ 128 :: List.replicate (padN l.length) 0 ++ beI 8 (8 * l.length)
theorem padS_length (l : List UInt8) : (padS l).length = 64 * ((padS l).length / 64) := by
  have : (padS l).length = l.length + 1 + padN l.length + 8 := by simp [padS, beI_length]; omega
  have h := padN_spec l.length
  omega
def outS (v : St8) : List UInt8 := beI 4 v.a ++ beI 4 v.b ++ beI 4 v.c ++ beI 4 v.d ++ beI 4 v.e ++ beI 4 v.f ++ beI 4 v.g ++ beI 4 v.h
def shaS (l : List UInt8) : List UInt8 := outS (runS ((padS l).length / 64) initS (padS l))
end Go.Ab
end

section
set_option linter.all false
set_option maxRecDepth 100000
namespace Go.Proofs.YtbomkkjhafdhiaaGreat
open Go.Ab

abbrev vU (n : Nat) : AVal := .lit (.int .u32 (n : Int))
theorem neg_and : ∀ a : Fin 32, 1 ≤ a.val → bAnd .u64 (IntKind.u64.wrap (-(a.val : Int))) 31 = 32 - (a.val : Int) := by decide
theorem wrap_u64_n (n : Int) (h0 : 0 ≤ n) (h1 : n ≤ 18446744073709551615) : IntKind.u64.wrap n = n := by
  unfold IntKind.wrap
  simp only [IntKind.bits, IntKind.signed, Bool.false_and]
  have e1 : (2 : Int) ^ 64 = 18446744073709551616 := by decide
  simp only [e1]
  exact Int.emod_eq_of_lt h0 (by omega)
theorem rotr_or {x a : Nat} (hx : x < 4294967296) : bOr .u32 (((x : Int) * 2 ^ (32 - a)) % 4294967296) ((x : Int) / 2 ^ a) = (rotr x a : Int) := by
  have h1 : ((x : Int) * 2 ^ (32 - a)) % 4294967296 = (((x * 2 ^ (32 - a)) % 4294967296 : Nat) : Int) := by
    rw [Int.natCast_emod, Int.natCast_mul, Int.natCast_pow]; rfl
  have h2 : (x : Int) / 2 ^ a = ((x / 2 ^ a : Nat) : Int) := by rw [Int.natCast_ediv, Int.natCast_pow]; rfl
  rw [h1, h2, (or32 (Nat.mod_lt _ (by decide)) (Nat.lt_of_le_of_lt (Nat.div_le_self _ _) hx)).1, Nat.or_comm]
  rfl
theorem rotl_c {x a : Nat} {σ : Store} (hx : x < 4294967296) (ha : 1 ≤ a) (ha2 : a ≤ 31) : ACalls Tryz.prog 132 [vU x, vInt (-(a : Int))] σ fun v σ' => v = vU (rotr x a) ∧ σ = σ' := by
  have h1 := neg_and ⟨a, by omega⟩ ha
  simp only at h1
  have e1 : ((32 : Int) - (a : Int)).toNat = 32 - a := by omega
  have e2 : ((32 : Int) - (32 - (a : Int))).toNat = a := by omega
  have e3 := rotr_or (a := a) hx
  refine ACalls_of Tryz.func132 rfl Tryz.ntmps132 (congrArg Array.toList Tryz.results132) (by simp only [List.length_cons, List.length_nil]; decide) ?_; simp only [envOf_cons, envOf_nil, Nat.reduceAdd]
  refine awp_seq ?_
  refine awp_region (by kernel_rfl) ?_
  (refine aL_S rfl rfl v_ ?_)
  refine aL_nil ?_
  refine awp_seq ?_
  have R := h1
  refine awp_region (by kernel_rfl) ?_
  iterate 4 (refine aL_S rfl rfl v_ ?_)
  refine aL_nil ?_
  refine awp_seq ?_
  have R := And.intro e1 (And.intro e2 (And.intro wrap_u32 wrap_u64_n))
  refine awp_region (by kernel_rfl) ?_
  iterate 9 (refine aL_S rfl rfl v_ ?_)
  refine aL_nil ?_
  refine awp_ret ?_
  refine aEnd_ret (σ' := σ) v_ sub_ ?_
  exact ⟨by rw [e3], rfl⟩
theorem turns_c {x a b c : Nat} {σ : Store} (hx : x < 4294967296) (ha : 1 ≤ a) (ha2 : a ≤ 31) (hb : 1 ≤ b) (hb2 : b ≤ 31) (hc : 1 ≤ c) (hc2 : c ≤ 31) : ACalls Tryz.prog 98 [vU x, vInt a, vInt b, vInt c] σ fun v σ' => v = vU (tu x a b c) ∧ σ = σ' := by
  have h1 := (xor32 (rotr_lt (a := a) hx) (rotr_lt (a := b) hx))
  have h2 := (xor32 h1.2 (rotr_lt (a := c) hx)).1
  have h3 := h1.1
  have z : ∀ n : Int, 0 - n = -n := fun n => Int.zero_sub n
  refine ACalls_of Tryz.func98 rfl Tryz.ntmps98 (congrArg Array.toList Tryz.results98) (by simp only [List.length_cons, List.length_nil]; decide) ?_; simp only [envOf_cons, envOf_nil, Nat.reduceAdd]
  refine awp_seq ?_
  have R := And.intro z (And.intro h3 h2)
  refine awp_region (by kernel_rfl) ?_
  (refine aL_S rfl rfl v_ ?_)
  refine aL_nil ?_
  refine awp_seq ?_
  have R := And.intro z (And.intro h3 h2)
  refine awp_region (by kernel_rfl) ?_
  iterate 3 (refine aL_S rfl rfl v_ ?_)
  refine aL_X rfl rfl (AOp_use rfl rfl (.inr ⟨rfl, rfl, rfl⟩) g_ va_ (rotl_c hx ha ha2) ?_); rintro _ _ ⟨rfl, rfl⟩
  iterate 3 (refine aL_S rfl rfl v_ ?_)
  refine aL_X rfl rfl (AOp_use rfl rfl (.inr ⟨rfl, rfl, rfl⟩) g_ va_ (rotl_c hx hb hb2) ?_); rintro _ _ ⟨rfl, rfl⟩
  iterate 4 (refine aL_S rfl rfl v_ ?_)
  refine aL_X rfl rfl (AOp_use rfl rfl (.inr ⟨rfl, rfl, rfl⟩) g_ va_ (rotl_c hx hc hc2) ?_); rintro _ _ ⟨rfl, rfl⟩
  iterate 2 (refine aL_S rfl rfl v_ ?_)
  refine aL_nil ?_
  refine awp_ret ?_
  refine aEnd_ret (σ' := σ) v_ sub_ ?_
  exact ⟨rfl, rfl⟩
theorem small_c {x a b p : Nat} {σ : Store} (hx : x < 4294967296) (ha : 1 ≤ a) (ha2 : a ≤ 31) (hb : 1 ≤ b) (hb2 : b ≤ 31) (hp : p ≤ 31) : ACalls Tryz.prog 131 [vU x, vInt a, vInt b, vInt p] σ fun v σ' => v = vU (sm x a b p) ∧ σ = σ' := by
  have h1 := (xor32 (rotr_lt (a := a) hx) (rotr_lt (a := b) hx))
  have h2 := (xor32 h1.2 (Nat.lt_of_le_of_lt (Nat.div_le_self x (2 ^ p)) hx)).1
  have h3 := h1.1
  have z : ∀ n : Int, 0 - n = -n := fun n => Int.zero_sub n
  have e1 : ((p : Int)).toNat = p := by omega
  have e2 : (x : Int) / 2 ^ p = ((x / 2 ^ p : Nat) : Int) := by rw [Int.natCast_ediv, Int.natCast_pow]; rfl
  refine ACalls_of Tryz.func131 rfl Tryz.ntmps131 (congrArg Array.toList Tryz.results131) (by simp only [List.length_cons, List.length_nil]; decide) ?_; simp only [envOf_cons, envOf_nil, Nat.reduceAdd]
  refine awp_seq ?_
  have R := And.intro z (And.intro h3 (And.intro e1 (And.intro e2 h2)))
  refine awp_region (by kernel_rfl) ?_
  (refine aL_S rfl rfl v_ ?_)
  refine aL_nil ?_
  refine awp_seq ?_
  have R := And.intro z (And.intro h3 (And.intro e1 (And.intro e2 h2)))
  refine awp_draw (.op 0 0 (.op 1 0 (.op 2 0 (.op 4 0 (.op 5 0 (.op 6 0 (.op 9 0 (.op 10 0 (.op 11 0 (.op 3 1 (.op 7 1 (.op 8 0 (.op 12 0 (.op 13 0 .nil)))))))))))))) Tryz.mixed (by kernel_rfl) ?_
  iterate 9 (refine dR_S o_ (by rfl) (by rfl) v_ ?_)
  refine dR_X o_ (by rfl) (by rfl) (AOp_use (by rfl) (by rfl) (.inr ⟨by rfl, by rfl, by rfl⟩) g_ va_ (rotl_c hx ha ha2) ?_); rintro _ _ ⟨rfl, rfl⟩; refine ⟨sub_, ?_⟩
  refine dR_X o_ (by rfl) (by rfl) (AOp_use (by rfl) (by rfl) (.inr ⟨by rfl, by rfl, by rfl⟩) g_ va_ (rotl_c hx hb hb2) ?_); rintro _ _ ⟨rfl, rfl⟩; refine ⟨sub_, ?_⟩
  iterate 3 (refine dR_S o_ (by rfl) (by rfl) v_ ?_)
  refine dR_nil ?_
  refine awp_ret ?_
  refine aEnd_ret (σ' := σ) v_ sub_ ?_
  exact ⟨rfl, rfl⟩
theorem rounds_c {σ : Store} : ACalls Tryz.prog 97 [] σ fun v σ' => v = .agg (kS.map vU) ∧ σ = σ' := by
  refine ACalls_of Tryz.func97 rfl Tryz.ntmps97 (congrArg Array.toList Tryz.results97) (by simp only [List.length_cons, List.length_nil]; decide) ?_; simp only [envOf_cons, envOf_nil, Nat.reduceAdd]
  refine awp_seq ?_
  refine awp_region (by kernel_rfl) ?_
  refine aL_alloc rfl rfl rfl g_ gl_ fun o0 ho0 => ?_
  repeat (rw [none_set_iff] at ho0; obtain ⟨_, ho0⟩ := ho0)
  refine aL_nil ?_
  refine awp_seq ?_
  refine awp_region (by kernel_rfl) ?_
  (refine aL_S rfl rfl v_ ?_)
  refine aL_store rfl rfl rfl v_ v_ h_ g_ rfl g_ c_ (by rfl) le_ v_ ?_
  refine aL_nil ?_
  refine awp_ret ?_
  refine aEnd_ret (σ' := σ) v_ sub_ ?_
  exact ⟨rfl, rfl⟩

theorem wrap_u32_n (n : Int) (h0 : 0 ≤ n) (h1 : n < 4294967296) : IntKind.u32.wrap n = n := by rw [wrap_u32]; exact Int.emod_eq_of_lt h0 h1
theorem word4_or {p q r s : Nat} (hp : p < 256) (hq : q < 256) (hr : r < 256) (hs : s < 256) : bOr .u32 (bOr .u32 (bOr .u32 ((p : Int) * 2 ^ 24) ((q : Int) * 2 ^ 16)) ((r : Int) * 2 ^ 8)) (s : Int) = (word4 p q r s : Int) := by
  have a1 : (p : Int) * 2 ^ 24 = ((p * 16777216 : Nat) : Int) := by omega
  have a2 : (q : Int) * 2 ^ 16 = ((q * 65536 : Nat) : Int) := by omega
  have a3 : (r : Int) * 2 ^ 8 = ((r * 256 : Nat) : Int) := by omega
  have h1 := or32 (p := p * 16777216) (q := q * 65536) (by omega) (by omega)
  have h2 := or32 (p := p * 16777216 ||| q * 65536) (q := r * 256) h1.2 (by omega)
  rw [a1, a2, a3, h1.1, h2.1, (or32 h2.2 (by omega)).1]
  rfl
theorem byteAt_at {l : List UInt8} {j : Nat} (h : j < l.length) : (bytesL (B l))[j]? = some (.lit (.int .u8 (byteAt l j : Int))) := by
  rw [bytes_at (c := l[j]) (List.getElem?_eq_getElem h)]
  simp [byteAt, List.getD, h]
def w64 (w : List Nat) (m : Nat) : List AVal := w.map vU ++ List.replicate m (vU 0)
theorem w64_length (w : List Nat) (m : Nat) : (w64 w m).length = w.length + m := by simp [w64]
theorem w64_set {w : List Nat} {m n x : Nat} (hn : w.length = n) : (w64 w (m + 1)).set n (vU x) = w64 (w ++ [x]) m := by
  subst hn
  unfold w64
  rw [List.set_append_right _ _ (by simp)]
  simp [List.replicate_succ]
theorem w64_get {w : List Nat} {m j : Nat} (h : j < w.length) : (w64 w m)[j]? = some (vU (w.getD j 0)) := by
  unfold w64
  rw [List.getElem?_append_left (by simpa using h), List.getElem?_map, List.getElem?_eq_getElem h]
  simp [List.getD, h]
theorem wNext_wrap (a b c d : Nat) : IntKind.u32.wrap (IntKind.u32.wrap (IntKind.u32.wrap ((a : Int) + b) + c) + d) = (((a + b + c + d) % 4294967296 : Nat) : Int) := by
  simp only [wrap_u32]; omega
theorem aput_all {cs vs : List AVal} (h : cs.length = vs.length) : aput cs 0 vs = vs := by
  unfold aput
  rw [List.drop_eq_nil_of_le (by omega)]
  simp
theorem spread_c {l : List UInt8} {t : Bool} {σ : Store} (hl : 64 ≤ l.length) : ACalls Tryz.prog 96 [.sl 1 (bytesL (B l)) t] σ fun v σ' => v = .agg ((wds l 64).map vU) ∧ σ = σ' := by
  refine ACalls_of Tryz.func96 rfl Tryz.ntmps96 (congrArg Array.toList Tryz.results96) (by simp only [List.length_cons, List.length_nil]; decide) ?_; simp only [envOf_cons, envOf_nil, Nat.reduceAdd]
  refine awp_seq ?_
  refine awp_region (by kernel_rfl) ?_
  refine aL_alloc rfl rfl rfl g_ gl_ fun o2 ho2 => ?_
  repeat (rw [none_set_iff] at ho2; obtain ⟨_, ho2⟩ := ho2)
  refine aL_nil ?_
  refine awp_seq ?_
  refine awp_region (by kernel_rfl) ?_
  refine aL_alloc rfl rfl rfl g_ gl_ fun o3 ho3 => ?_
  repeat (rw [none_set_iff] at ho3; obtain ⟨_, ho3⟩ := ho3)
  refine aL_nil ?_
  refine awp_seq ?_
  refine awp_seq ?_
  refine awp_region (by kernel_rfl) ?_
  (refine aL_S rfl rfl v_ ?_)
  refine aL_nil ?_
  refine awp_block ?_
  refine awp_loop_env (ι := Nat) (fun n => 64 - n) (fun n => n ≤ 64) (fun n => [(0, .sl 1 (bytesL (B l)) t), (2, .ref o2 0), (3, .ref o3 0), (5, vInt n)]) (fun n => ((σ.set o2 (.cells (w64 [] 64))).set o3 (.cells (w64 (wds l n) (64 - n))))) 0 ?_ ?_ ?_ ?_
  · exact Nat.zero_le _
  · exact cv_
  · exact Store.Wk.refl _
  rintro n hn
  simp only [envL_cons, envL_nil]
  refine awp_seq ?_
  refine awp_region (by kernel_rfl) ?_
  (refine aL_S rfl rfl v_ ?_)
  refine aL_nil ?_
  refine awp_seq ?_
  refine awp_cond v_ (fun hc3 => ?_) (fun hc3 => ?_)
  · replace hc3 := nm_ hc3
    refine awp_skip ?_
    refine awp_seq ?_
    refine awp_block ?_
    refine awp_seq ?_
    refine awp_region (by kernel_rfl) ?_
    iterate 2 (refine aL_S rfl rfl v_ ?_)
    refine aL_nil ?_
    refine awp_seq ?_
    have hw := wds_length l n
    have hlt := wds_lt l n
    have hlen : (w64 (wds l n) (64 - n)).length = 64 := by rw [w64_length]; omega
    refine awp_region (by kernel_rfl) ?_
    iterate 2 (refine aL_S rfl rfl v_ ?_)
    refine aL_nil ?_
    refine awp_cond v_ (fun hc5 => ?_) (fun hc5 => ?_)
    · replace hc5 := nm_ hc5
      have hb0 := byteAt_at (l := l) (j := 4 * n) (by omega)
      have hb1 := byteAt_at (l := l) (j := 4 * n + 1) (by omega)
      have hb2 := byteAt_at (l := l) (j := 4 * n + 2) (by omega)
      have hb3 := byteAt_at (l := l) (j := 4 * n + 3) (by omega)
      have b0 := byteAt_lt l (4 * n); have b1 := byteAt_lt l (4 * n + 1); have b2 := byteAt_lt l (4 * n + 2); have b3 := byteAt_lt l (4 * n + 3)
      have e0 : ((4 : Int) * n).toNat = 4 * n := by omega
      have e1 : ((4 : Int) * n + 1).toNat = 4 * n + 1 := by omega
      have e2 : ((4 : Int) * n + 2).toNat = 4 * n + 2 := by omega
      have e3 : ((4 : Int) * n + 3).toNat = 4 * n + 3 := by omega
      have hor := word4_or b0 b1 b2 b3
      have hm : 64 - n = (64 - (n + 1)) + 1 := by omega
      have hset : (w64 (wds l n) (64 - n)).set n (vU (word4 (byteAt l (4 * n)) (byteAt l (4 * n + 1)) (byteAt l (4 * n + 2)) (byteAt l (4 * n + 3)))) = w64 (wds l (n + 1)) (64 - (n + 1)) := by
        rw [hm, w64_set hw, wds, wStep, if_pos (by omega), hw]; rfl
      have R := And.intro e0 (And.intro e1 (And.intro e2 (And.intro e3 (And.intro hb0 (And.intro hb1 (And.intro hb2 (And.intro hb3 (And.intro wrap_u32_n (And.intro hor (And.intro w64_length (And.intro bytesL_length B_size)))))))))))
      refine awp_draw (.op 0 0 (.op 1 0 (.op 2 0 (.op 3 0 (.op 4 0 (.op 5 0 (.op 6 0 (.op 7 0 (.op 8 0 (.op 9 0 (.op 10 0 (.op 11 0 (.op 12 0 (.op 13 0 (.op 14 0 (.op 15 0 (.op 16 0 (.op 17 0 (.op 18 0 (.op 19 0 (.op 20 0 (.op 21 0 (.op 22 0 (.op 23 0 (.op 24 0 (.op 25 0 (.op 26 0 (.op 27 0 (.op 28 0 (.op 29 0 (.op 30 0 (.op 31 0 (.op 32 0 (.op 33 0 (.op 34 0 (.op 35 2 .nil)))))))))))))))))))))))))))))))))))) Tryz.mixed (by kernel_rfl) ?_
      iterate 35 (refine dR_S o_ (by rfl) (by rfl) v_ ?_)
      refine dR_store o_ (by rfl) (by rfl) (by rfl) v_ v_ h_ g_ rfl g_ c_ (by rfl) le_ (aput_one le_) ?_
      refine dR_nil ?_
      refine awp_region (by kernel_rfl) ?_
      iterate 2 (refine aL_S rfl rfl v_ ?_)
      refine aL_nil ?_
      refine aNext (ι := Nat) (i := n) (n + 1) ?_ ?_ ?_ ?_
      · omega
      · omega
      · exact cv_
      · rw [Store.set_set, hset]; exact Store.Wk.refl _
    · replace hc5 := nm_ hc5
      have i2 : ((n : Int) - 2).toNat = n - 2 := by omega
      have i7 : ((n : Int) - 7).toNat = n - 7 := by omega
      have i15 : ((n : Int) - 15).toNat = n - 15 := by omega
      have i16 : ((n : Int) - 16).toNat = n - 16 := by omega
      have g2 := w64_get (w := wds l n) (m := 64 - n) (j := n - 2) (by omega)
      have g7 := w64_get (w := wds l n) (m := 64 - n) (j := n - 7) (by omega)
      have g15 := w64_get (w := wds l n) (m := 64 - n) (j := n - 15) (by omega)
      have g16 := w64_get (w := wds l n) (m := 64 - n) (j := n - 16) (by omega)
      have hm : 64 - n = (64 - (n + 1)) + 1 := by omega
      have hset : (w64 (wds l n) (64 - n)).set n (vU ((sm ((wds l n).getD (n - 2) 0) 17 19 10 + (wds l n).getD (n - 7) 0 + sm ((wds l n).getD (n - 15) 0) 7 18 3 + (wds l n).getD (n - 16) 0) % 4294967296)) = w64 (wds l (n + 1)) (64 - (n + 1)) := by
        rw [hm, w64_set hw, wds, wStep, if_neg (by omega), wNext, hw]
      have R := And.intro i2 (And.intro i7 (And.intro i15 (And.intro i16 (And.intro g2 (And.intro g7 (And.intro g15 (And.intro g16 (And.intro wNext_wrap w64_length))))))))
      refine awp_draw (.op 0 0 (.op 1 0 (.op 2 0 (.op 3 0 (.op 4 0 (.op 6 0 (.op 7 0 (.op 8 0 (.op 9 0 (.op 11 0 (.op 12 0 (.op 13 0 (.op 14 0 (.op 17 0 (.op 18 0 (.op 19 0 (.op 20 0 (.op 5 1 (.op 10 0 (.op 15 1 (.op 16 0 (.op 21 0 (.op 22 0 (.op 23 2 .nil)))))))))))))))))))))))) Tryz.mixed (by kernel_rfl) ?_
      iterate 17 (refine dR_S o_ (by rfl) (by rfl) v_ ?_)
      refine dR_X o_ (by rfl) (by rfl) (AOp_use (by rfl) (by rfl) (.inr ⟨by rfl, by rfl, by rfl⟩) g_ va_ (small_c (x := (wds l n).getD (n - 2) 0) (a := 17) (b := 19) (p := 10) (getD_lt hlt _) (by decide) (by decide) (by decide) (by decide) (by decide)) ?_); rintro _ _ ⟨rfl, rfl⟩; refine ⟨sub_, ?_⟩
      (refine dR_S o_ (by rfl) (by rfl) v_ ?_)
      refine dR_X o_ (by rfl) (by rfl) (AOp_use (by rfl) (by rfl) (.inr ⟨by rfl, by rfl, by rfl⟩) g_ va_ (small_c (x := (wds l n).getD (n - 15) 0) (a := 7) (b := 18) (p := 3) (getD_lt hlt _) (by decide) (by decide) (by decide) (by decide) (by decide)) ?_); rintro _ _ ⟨rfl, rfl⟩; refine ⟨sub_, ?_⟩
      iterate 3 (refine dR_S o_ (by rfl) (by rfl) v_ ?_)
      refine dR_store o_ (by rfl) (by rfl) (by rfl) v_ v_ h_ g_ rfl g_ c_ (by rfl) le_ (aput_one le_) ?_
      refine dR_nil ?_
      refine awp_region (by kernel_rfl) ?_
      iterate 2 (refine aL_S rfl rfl v_ ?_)
      refine aL_nil ?_
      refine aNext (ι := Nat) (i := n) (n + 1) ?_ ?_ ?_ ?_
      · omega
      · omega
      · exact cv_
      · rw [Store.set_set, hset]; exact Store.Wk.refl _
  · replace hc3 := nm_ hc3
    refine awp_exit ?_
    refine aThen_exit ?_
    refine aThen_exit ?_
    refine aBlock_hit ?_
    refine awp_seq ?_
    obtain rfl : n = 64 := by omega
    have hf : w64 (wds l 64) (64 - 64) = (wds l 64).map vU := by simp [w64]
    rw [hf]
    have hone : ∀ c ∈ (wds l 64).map vU, c.one = true := fun c hc => by
      obtain ⟨x, _, rfl⟩ := List.mem_map.1 hc
      rfl
    have h64 : ((wds l 64).map vU).length = 64 := by rw [List.length_map, wds_length]
    obtain ⟨W, hW⟩ : ∃ W, (wds l 64).map vU = W := ⟨_, rfl⟩
    rw [hW] at hone h64 ⊢
    have htk : W.take 64 = W := List.take_of_length_le (by omega)
    have hle : 64 ≤ W.length := by omega
    have R := And.intro htk (And.intro hle h64)
    refine awp_region (by kernel_rfl) ?_
    (refine aL_S rfl rfl v_ ?_)
    refine aL_store (a := .agg W) (cs' := W) (cs2 := W) rfl rfl rfl v_ va_ h_ g_ rfl rfl hone h64 (by simp [w64_length]) (aput_all (by rw [h64, w64_length]; rfl)) ?_
    refine aL_nil ?_
    refine awp_ret ?_
    exact aEnd_ret (σ' := σ) va_ (subx_start (subx_new ho2 (subx_new ho3 (subx_new ho2 subx_refl)))) ⟨rfl, rfl⟩
end Go.Proofs.YtbomkkjhafdhiaaGreat
end

section
set_option linter.all false
set_option maxRecDepth 100000
namespace Go.Proofs.YtbomkkjhafdhiaaGreat
open Go.Ab

def l8 (x : St8) : List Nat := [x.a, x.b, x.c, x.d, x.e, x.f, x.g, x.h]
def mixA (A V : List AVal) (n : Nat) : List AVal := A.take n ++ V.drop n
theorem mixA_length {A V : List AVal} {n : Nat} (h : A.length = V.length) : (mixA A V n).length = V.length := by simp [mixA]; omega
theorem mixA_get {A V : List AVal} {n : Nat} {a : AVal} (h : A.length = V.length) (hn : V[n]? = some a) : (mixA A V n)[n]? = some a := by
  obtain ⟨hk, rfl⟩ := List.getElem?_eq_some_iff.1 hn
  unfold mixA
  rw [List.getElem?_append_right (by simp; omega)]
  simp [show min n A.length = n by omega, hk]
theorem mixA_set {A V : List AVal} {n : Nat} {a : AVal} (h : A.length = V.length) (hn : A[n]? = some a) : (mixA A V n).set n a = mixA A V (n + 1) := by
  obtain ⟨hk, rfl⟩ := List.getElem?_eq_some_iff.1 hn
  unfold mixA
  have h1 : V.drop n = V[n]'(by omega) :: V.drop (n + 1) := List.drop_eq_getElem_cons _
  have h2 : A.take (n + 1) = A.take n ++ [A[n]] := by rw [List.take_succ, List.getElem?_eq_getElem hk]; rfl
  have e : n - (A.take n).length = 0 := by simp; omega
  rw [List.set_append_right _ _ (by simp; omega), e, h1, h2, List.set_cons_zero, List.append_assoc]
  rfl
theorem l8_get (x : St8) {n : Nat} (h : n < 8) : ((l8 x).map vU)[n]? = some (vU ((l8 x).getD n 0)) := by
  rw [List.getElem?_map, List.getElem?_eq_getElem (by simpa [l8] using h)]
  simp [List.getD, show n < (l8 x).length from by simpa [l8] using h]
theorem addS_get (x v : St8) {n : Nat} (h : n < 8) : ((l8 (addS x v)).map vU)[n]? = some (vU (((l8 v).getD n 0 + (l8 x).getD n 0) % 4294967296)) := by
  match n, h with
  | 0, _ | 1, _ | 2, _ | 3, _ | 4, _ | 5, _ | 6, _ | 7, _ => simp [l8, addS, Nat.add_comm]
theorem ch32 {e f g : Nat} (he : e < 4294967296) (hf : f < 4294967296) (hg : g < 4294967296) : bXor .u32 (bAnd .u32 e f) (bAnd .u32 (not32 e : Int) g) = (ch e f g : Int) := by
  have c1 := and32 he hf
  have c2 := and32 (not32_lt e) hg
  rw [c1.1, c2.1]; exact (xor32 c1.2 c2.2).1
theorem maj32 {a b c : Nat} (ha : a < 4294967296) (hb : b < 4294967296) (hc : c < 4294967296) : bXor .u32 (bXor .u32 (bAnd .u32 a b) (bAnd .u32 a c)) (bAnd .u32 b c) = (maj a b c : Int) := by
  have m1 := and32 ha hb; have m2 := and32 ha hc; have m3 := and32 hb hc
  have m12 := xor32 m1.2 m2.2
  rw [m1.1, m2.1, m3.1, m12.1]; exact (xor32 m12.2 m3.2).1
theorem rnds_succ (v : St8) (l : List UInt8) (n : Nat) : rnds v l (n + 1) = rnd (rnds v l n) (kS.getD n 0) ((wds l 64).getD n 0) := rfl
theorem rnds_zero (v : St8) (l : List UInt8) : rnds v l 0 = v := rfl
attribute [local irreducible] rnds wds tu maj ch
set_option maxHeartbeats 1000000 in
theorem take_c' {v : St8} {l : List UInt8} {t : Bool} {σ : Store} (hv : v.Ok) (hl : 64 ≤ l.length) : ACalls Tryz.prog 58 [.agg ((l8 v).map vU), .sl 1 (bytesL (B l)) t] σ fun r σ' => r = .agg ((l8 (blockS v l)).map vU) ∧ σ = σ' := by
  obtain ⟨W, hW⟩ : ∃ W, (wds l 64).map vU = W := ⟨_, rfl⟩
  obtain ⟨Kk, hKk⟩ : ∃ Kk, kS.map vU = Kk := ⟨_, rfl⟩
  have hone : ∀ (w : List Nat), ∀ c ∈ w.map vU, c.one = true := fun w c hc => by
    obtain ⟨x, _, rfl⟩ := List.mem_map.1 hc
    rfl
  have hW1 := hone (wds l 64); have hK1 := hone kS
  have hW64 : ((wds l 64).map vU).length = 64 := by rw [List.length_map, wds_length]
  have hK64 : (kS.map vU).length = 64 := by rw [List.length_map]; rfl
  have hWg : ∀ n, n < 64 → ((wds l 64).map vU)[n]? = some (vU ((wds l 64).getD n 0)) := fun n hn => by
    rw [List.getElem?_map, List.getElem?_eq_getElem (by rw [wds_length]; exact hn)]
    simp [List.getD, show n < (wds l 64).length from by rw [wds_length]; exact hn]
  have hKg : ∀ n, n < 64 → (kS.map vU)[n]? = some (vU (kS.getD n 0)) := fun n hn => by
    have hk : n < kS.length := hn
    rw [List.getElem?_map, List.getElem?_eq_getElem hk]
    simp [List.getD, hk]
  rw [hW] at hW1 hW64 hWg
  rw [hKk] at hK1 hK64 hKg
  obtain ⟨Z, hZ⟩ : ∃ Z, List.replicate 64 (vU 0) = Z := ⟨_, rfl⟩
  have hZ64 : Z.length = 64 := by rw [← hZ]; simp
  refine ACalls_of Tryz.func58 rfl Tryz.ntmps58 (congrArg Array.toList Tryz.results58) (by simp only [List.length_cons, List.length_nil]; decide) ?_; simp only [envOf_cons, envOf_nil, Nat.reduceAdd]
  refine awp_seq ?_
  refine awp_region (by kernel_rfl) ?_
  refine aL_box rfl rfl rfl v_ rfl g_ fun o2 ho2 => ?_
  repeat (rw [none_set_iff] at ho2; obtain ⟨_, ho2⟩ := ho2)
  refine aL_alloc rfl rfl rfl g_ gl_ fun o4 ho4 => ?_
  repeat (rw [none_set_iff] at ho4; obtain ⟨_, ho4⟩ := ho4)
  refine aL_nil ?_
  refine awp_seq ?_
  refine awp_region (by kernel_rfl) ?_
  (refine aL_S rfl rfl v_ ?_)
  refine aL_X rfl rfl (AOp_use rfl rfl (.inr ⟨rfl, rfl, rfl⟩) g_ va_ (spread_c hl) ?_); rintro _ _ ⟨rfl, rfl⟩
  rw [hW]
  refine aL_X rfl rfl (AOp_use rfl rfl (.inr ⟨rfl, rfl, rfl⟩) g_ va_ (rounds_c) ?_); rintro _ _ ⟨rfl, rfl⟩
  rw [hKk]
  refine aL_alloc (z := .agg (Array.replicate 64 (.int .u32 0))) rfl rfl rfl (by kernel_rfl) (cs := Z) (by rw [← hZ]; rfl) fun o5 ho5 => ?_
  repeat (rw [none_set_iff] at ho5; obtain ⟨_, ho5⟩ := ho5)
  refine aL_alloc (z := .agg (Array.replicate 64 (.int .u32 0))) rfl rfl rfl (by kernel_rfl) (cs := Z) (by rw [← hZ]; rfl) fun o6 ho6 => ?_
  repeat (rw [none_set_iff] at ho6; obtain ⟨_, ho6⟩ := ho6)
  refine aL_store (a := .agg W) (cs' := W) (cs2 := W) rfl rfl rfl v_ va_ h_ g_ rfl rfl hW1 hW64 (by omega) (aput_all (by omega)) ?_
  refine aL_store (a := .agg Kk) (cs' := Kk) (cs2 := Kk) rfl rfl rfl v_ va_ h_ g_ rfl rfl hK1 hK64 (by omega) (aput_all (by omega)) ?_
  refine aL_nil ?_
  have h5 : ((((((σ.set o2 (.cells ((l8 v).map vU))).set o4 (.cells ((l8 ⟨0, 0, 0, 0, 0, 0, 0, 0⟩).map vU))).set o5 (.cells Z)).set o6 (.cells Z)).set o5 (.cells W)).set o6 (.cells Kk)).heap o5 = some (.cells W) := h_
  have h6 : ((((((σ.set o2 (.cells ((l8 v).map vU))).set o4 (.cells ((l8 ⟨0, 0, 0, 0, 0, 0, 0, 0⟩).map vU))).set o5 (.cells Z)).set o6 (.cells Z)).set o5 (.cells W)).set o6 (.cells Kk)).heap o6 = some (.cells Kk) := h_
  have h2 : ((((((σ.set o2 (.cells ((l8 v).map vU))).set o4 (.cells ((l8 ⟨0, 0, 0, 0, 0, 0, 0, 0⟩).map vU))).set o5 (.cells Z)).set o6 (.cells Z)).set o5 (.cells W)).set o6 (.cells Kk)).heap o2 = some (.cells ((l8 v).map vU)) := h_
  have h4 : ((((((σ.set o2 (.cells ((l8 v).map vU))).set o4 (.cells ((l8 ⟨0, 0, 0, 0, 0, 0, 0, 0⟩).map vU))).set o5 (.cells Z)).set o6 (.cells Z)).set o5 (.cells W)).set o6 (.cells Kk)).heap o4 = some (.cells ((l8 ⟨0, 0, 0, 0, 0, 0, 0, 0⟩).map vU)) := h_
  have hsx : SubX [] σ ((((((σ.set o2 (.cells ((l8 v).map vU))).set o4 (.cells ((l8 ⟨0, 0, 0, 0, 0, 0, 0, 0⟩).map vU))).set o5 (.cells Z)).set o6 (.cells Z)).set o5 (.cells W)).set o6 (.cells Kk)) := subx_new ho6 (subx_new ho5 (subx_new ho6 (subx_new ho5 (subx_new ho4 (subx_new ho2 subx_refl)))))
  change awp _ _ _ _ _ ((((((σ.set o2 (.cells ((l8 v).map vU))).set o4 (.cells ((l8 ⟨0, 0, 0, 0, 0, 0, 0, 0⟩).map vU))).set o5 (.cells Z)).set o6 (.cells Z)).set o5 (.cells W)).set o6 (.cells Kk))
  generalize ((((((σ.set o2 (.cells ((l8 v).map vU))).set o4 (.cells ((l8 ⟨0, 0, 0, 0, 0, 0, 0, 0⟩).map vU))).set o5 (.cells Z)).set o6 (.cells Z)).set o5 (.cells W)).set o6 (.cells Kk)) = S0 at h5 h6 h2 h4 hsx ⊢
  have v0 : ((l8 v).map vU)[0]? = some (vU v.a) := rfl
  have v1 : ((l8 v).map vU)[1]? = some (vU v.b) := rfl
  have v2 : ((l8 v).map vU)[2]? = some (vU v.c) := rfl
  have v3 : ((l8 v).map vU)[3]? = some (vU v.d) := rfl
  have v4 : ((l8 v).map vU)[4]? = some (vU v.e) := rfl
  have v5 : ((l8 v).map vU)[5]? = some (vU v.f) := rfl
  have v6 : ((l8 v).map vU)[6]? = some (vU v.g) := rfl
  have v7 : ((l8 v).map vU)[7]? = some (vU v.h) := rfl
  refine awp_seq ?_
  have R := And.intro h2 (And.intro v0 (And.intro v1 (And.intro v2 v3)))
  refine awp_draw (.op 0 0 (.op 1 0 (.op 2 0 (.op 3 0 (.op 4 0 (.op 5 0 (.op 6 0 (.op 7 0 (.op 8 0 (.op 9 0 (.op 10 0 (.op 11 0 .nil)))))))))))) Tryz.mixed (by kernel_rfl) ?_
  iterate 12 (refine dR_S o_ (by rfl) (by rfl) v_ ?_)
  refine dR_nil ?_
  refine awp_seq ?_
  have R := And.intro h2 (And.intro v4 (And.intro v5 (And.intro v6 v7)))
  refine awp_draw (.op 0 0 (.op 1 0 (.op 2 0 (.op 3 0 (.op 4 0 (.op 5 0 (.op 6 0 (.op 7 0 (.op 8 0 (.op 9 0 (.op 10 0 (.op 11 0 .nil)))))))))))) Tryz.mixed (by kernel_rfl) ?_
  iterate 12 (refine dR_S o_ (by rfl) (by rfl) v_ ?_)
  refine dR_nil ?_
  refine awp_seq ?_
  refine awp_seq ?_
  refine awp_region (by kernel_rfl) ?_
  (refine aL_S rfl rfl v_ ?_)
  refine aL_nil ?_
  refine awp_block ?_
  refine awp_loop_env (ι := Nat) (fun n => 64 - n) (fun n => n ≤ 64) (fun n => [(2, .ref o2 0), (4, .ref o4 0), (5, .ref o5 0), (6, .ref o6 0), (7, vU (rnds v l n).a), (8, vU (rnds v l n).b), (9, vU (rnds v l n).c), (10, vU (rnds v l n).d), (11, vU (rnds v l n).e), (12, vU (rnds v l n).f), (13, vU (rnds v l n).g), (14, vU (rnds v l n).h), (39, vInt n)]) (fun n => S0) 0 ?_ ?_ ?_ ?_
  · exact Nat.zero_le _
  · have R := rnds_zero; exact cv_
  · exact Store.Wk.refl _
  rintro n hn
  simp only [envL_cons, envL_nil]
  refine awp_seq ?_
  refine awp_region (by kernel_rfl) ?_
  (refine aL_S rfl rfl v_ ?_)
  refine aL_nil ?_
  refine awp_seq ?_
  refine awp_cond v_ (fun hc5 => ?_) (fun hc5 => ?_)
  · replace hc5 := nm_ hc5
    refine awp_skip ?_
    refine awp_seq ?_
    refine awp_block ?_
    refine awp_seq ?_
    have hx := rnds_ok hv l n
    obtain ⟨x, hxe⟩ : ∃ x, rnds v l n = x := ⟨_, rfl⟩
    rw [hxe] at hx ⊢
    have hn64 : n < 64 := by omega
    have kn := hKg n hn64
    have wn := hWg n hn64
    obtain ⟨k, hk⟩ : ∃ k, kS.getD n 0 = k := ⟨_, rfl⟩
    obtain ⟨w, hw⟩ : ∃ w, (wds l 64).getD n 0 = w := ⟨_, rfl⟩
    rw [hk] at kn
    rw [hw] at wn
    have hno : bXor .u32 (if IntKind.u32.signed = true then -1 else IntKind.u32.max) (x.e : Int) = (not32 x.e : Int) := bXor_ones hx.e
    have c3 := ch32 hx.e hx.f hx.g
    have m4 := maj32 hx.a hx.b hx.c
    have f1 : IntKind.u32.wrap (IntKind.u32.wrap (IntKind.u32.wrap (IntKind.u32.wrap ((x.h : Int) + tu x.e 6 11 25) + ch x.e x.f x.g) + k) + w) = ((t1S x k w % 4294967296 : Nat) : Int) := by simp only [wrap_u32, t1S]; omega
    have f2 : IntKind.u32.wrap ((tu x.a 2 13 22 : Int) + maj x.a x.b x.c) = ((t2S x % 4294967296 : Nat) : Int) := by simp only [wrap_u32, t2S]; omega
    have r1 : IntKind.u32.wrap (((t1S x k w % 4294967296 : Nat) : Int) + ((t2S x % 4294967296 : Nat) : Int)) = ((rnds v l (n + 1)).a : Int) := by rw [rnds_succ, hxe, hk, hw, wrap_u32]; show _ = (((t1S x k w + t2S x) % 4294967296 : Nat) : Int); omega
    have r2 : IntKind.u32.wrap ((x.d : Int) + ((t1S x k w % 4294967296 : Nat) : Int)) = ((rnds v l (n + 1)).e : Int) := by rw [rnds_succ, hxe, hk, hw, wrap_u32]; show _ = (((x.d + t1S x k w) % 4294967296 : Nat) : Int); omega
    have e1 : rnds v l (n + 1) = rnd x k w := by rw [rnds_succ, hxe, hk, hw]
    have r3 : (rnds v l (n + 1)).b = x.a := by rw [e1]; rfl
    have r4 : (rnds v l (n + 1)).c = x.b := by rw [e1]; rfl
    have r5 : (rnds v l (n + 1)).d = x.c := by rw [e1]; rfl
    have r6 : (rnds v l (n + 1)).f = x.e := by rw [e1]; rfl
    have r7 : (rnds v l (n + 1)).g = x.f := by rw [e1]; rfl
    have r8 : (rnds v l (n + 1)).h = x.g := by rw [e1]; rfl
    refine awp_region (by kernel_rfl) ?_
    iterate 2 (refine aL_S rfl rfl v_ ?_)
    refine aL_nil ?_
    refine awp_seq ?_
    have R := And.intro h5 (And.intro h6 (And.intro kn (And.intro wn (And.intro hno (And.intro c3 (And.intro f1 (And.intro hW64 hK64)))))))
    refine awp_draw (.op 0 0 (.op 1 0 (.op 4 0 (.op 5 0 (.op 6 0 (.op 7 0 (.op 8 0 (.op 9 0 (.op 10 0 (.op 11 0 (.op 13 0 (.op 14 0 (.op 15 0 (.op 17 0 (.op 18 0 (.op 19 0 (.op 2 1 (.op 3 0 (.op 12 0 (.op 16 0 (.op 20 0 (.op 21 0 .nil)))))))))))))))))))))) Tryz.mixed (by kernel_rfl) ?_
    iterate 16 (refine dR_S o_ (by rfl) (by rfl) v_ ?_)
    refine dR_X o_ (by rfl) (by rfl) (AOp_use (by rfl) (by rfl) (.inr ⟨by rfl, by rfl, by rfl⟩) g_ va_ (turns_c (a := 6) (b := 11) (c := 25) hx.e (by decide) (by decide) (by decide) (by decide) (by decide) (by decide)) ?_); rintro _ _ ⟨rfl, rfl⟩; refine ⟨sub_, ?_⟩
    iterate 5 (refine dR_S o_ (by rfl) (by rfl) v_ ?_)
    refine dR_nil ?_
    refine awp_seq ?_
    have R := And.intro m4 f2
    refine awp_region (by kernel_rfl) ?_
    (refine aL_S rfl rfl v_ ?_)
    refine aL_X rfl rfl (AOp_use rfl rfl (.inr ⟨rfl, rfl, rfl⟩) g_ va_ (turns_c (a := 2) (b := 13) (c := 22) hx.a (by decide) (by decide) (by decide) (by decide) (by decide) (by decide)) ?_); rintro _ _ ⟨rfl, rfl⟩
    iterate 13 (refine aL_S rfl rfl v_ ?_)
    refine aL_nil ?_
    have R := And.intro r1 r2
    refine awp_region (by kernel_rfl) ?_
    iterate 20 (refine aL_S rfl rfl v_ ?_)
    refine aL_nil ?_
    refine awp_region (by kernel_rfl) ?_
    iterate 2 (refine aL_S rfl rfl v_ ?_)
    refine aL_nil ?_
    refine aNext (ι := Nat) (i := n) (n + 1) ?_ ?_ ?_ ?_
    · omega
    · omega
    · have R := And.intro r1 (And.intro r2 (And.intro r3 (And.intro r4 (And.intro r5 (And.intro r6 (And.intro r7 r8)))))); exact cv_
    · exact Store.Wk.refl _
  · replace hc5 := nm_ hc5
    refine awp_exit ?_
    refine aThen_exit ?_
    refine aThen_exit ?_
    refine aBlock_hit ?_
    refine awp_seq ?_
    refine awp_seq ?_
    obtain rfl : n = 64 := by omega
    obtain ⟨x, hxe⟩ : ∃ x, rnds v l 64 = x := ⟨_, rfl⟩
    rw [hxe]
    have hbs : addS x v = blockS v l := by rw [blockS, hxe]
    have wr : ∀ a b : Nat, IntKind.u32.wrap ((a : Int) + (b : Int)) = (((a + b) % 4294967296 : Nat) : Int) := fun a b => by rw [wrap_u32]; omega
    have hA8 : ((l8 (blockS v l)).map vU).length = 8 := rfl
    have hV8 : ((l8 v).map vU).length = 8 := rfl
    refine awp_region (by kernel_rfl) ?_
    iterate 10 (refine aL_S rfl rfl v_ ?_)
    refine aL_nil ?_
    refine awp_block ?_
    refine awp_loop_env (ι := Nat) (fun m => 8 - m) (fun m => m ≤ 8) (fun m => [(2, .ref o2 0), (4, .ref o4 0), (98, .agg ((l8 x).map vU)), (99, vInt m)]) (fun m => (S0.set o2 (.cells (mixA ((l8 (blockS v l)).map vU) ((l8 v).map vU) m)))) 0 ?_ ?_ ?_ ?_
    · exact Nat.zero_le _
    · exact cv_
    · rw [show mixA ((l8 (blockS v l)).map vU) ((l8 v).map vU) 0 = (l8 v).map vU from rfl, Store.set_self h2]; exact Store.Wk.refl _
    rintro m hm
    simp only [envL_cons, envL_nil]
    refine awp_seq ?_
    refine awp_region (by kernel_rfl) ?_
    (refine aL_S rfl rfl v_ ?_)
    refine aL_nil ?_
    refine awp_seq ?_
    refine awp_cond v_ (fun hc12 => ?_) (fun hc12 => ?_)
    · replace hc12 := nm_ hc12
      refine awp_skip ?_
      refine awp_seq ?_
      refine awp_block ?_
      refine awp_seq ?_
      have hm8 : m < 8 := by omega
      have gx := l8_get x hm8
      have gm := mixA_get (A := (l8 (blockS v l)).map vU) (by rw [hA8, hV8]) (l8_get v hm8)
      have hml : (mixA ((l8 (blockS v l)).map vU) ((l8 v).map vU) m).length = 8 := mixA_length (by rw [hA8, hV8])
      have hset := mixA_set (V := (l8 v).map vU) (by rw [hA8, hV8]) (by rw [← hbs]; exact addS_get x v hm8)
      have R := gx
      refine awp_region (by kernel_rfl) ?_
      iterate 4 (refine aL_S rfl rfl v_ ?_)
      refine aL_nil ?_
      have R := And.intro gm (And.intro wr hml)
      refine awp_region (by kernel_rfl) ?_
      iterate 6 (refine aL_S rfl rfl v_ ?_)
      refine aL_store rfl rfl rfl v_ v_ h_ g_ rfl g_ c_ (by rfl) le_ (aput_one le_) ?_
      refine aL_nil ?_
      refine awp_region (by kernel_rfl) ?_
      iterate 2 (refine aL_S rfl rfl v_ ?_)
      refine aL_nil ?_
      refine aNext (ι := Nat) (i := m) (m + 1) ?_ ?_ ?_ ?_
      · omega
      · omega
      · exact cv_
      · rw [Store.set_set, hset]; exact Store.Wk.refl _
    · replace hc12 := nm_ hc12
      refine awp_exit ?_
      refine aThen_exit ?_
      refine aThen_exit ?_
      refine aBlock_hit ?_
      refine awp_seq ?_
      obtain rfl : m = 8 := by omega
      rw [show mixA ((l8 (blockS v l)).map vU) ((l8 v).map vU) 8 = (l8 (blockS v l)).map vU from rfl]
      have hA1 := hone (l8 (blockS v l))
      obtain ⟨Af, hAf⟩ : ∃ Af, (l8 (blockS v l)).map vU = Af := ⟨_, rfl⟩
      rw [hAf] at hA1 hA8 ⊢
      have htk : Af.take 8 = Af := List.take_of_length_le (by omega)
      have hle8 : 8 ≤ Af.length := by omega
      have h4' : (S0.set o2 (.cells Af)).heap o4 = some (.cells ((l8 ⟨0, 0, 0, 0, 0, 0, 0, 0⟩).map vU)) := by simp (disch := omega) only [Store.set_ne, h4]
      have R := And.intro htk (And.intro hle8 hA8)
      refine awp_region (by kernel_rfl) ?_
      (refine aL_S rfl rfl v_ ?_)
      refine aL_store (a := .agg Af) (cs' := Af) (cs2 := Af) rfl rfl rfl va_ va_ h4' g_ rfl rfl hA1 hA8 (by decide) (aput_all (by rw [hA8]; rfl)) ?_
      refine aL_nil ?_
      refine awp_ret ?_
      exact aEnd_ret (σ' := σ) va_ (subx_start (subx_new ho4 (subx_new ho2 hsx))) ⟨rfl, rfl⟩
end Go.Proofs.YtbomkkjhafdhiaaGreat
end

section
set_option linter.all false
set_option maxRecDepth 100000
namespace Go.Proofs.YtbomkkjhafdhiaaGreat
open Go.Ab

def padZ (l : List UInt8) (z : Nat) : List UInt8 := l ++ 128 :: List.replicate z 0
theorem padZ_length (l : List UInt8) (z : Nat) : (padZ l z).length = l.length + 1 + z := by simp [padZ]; omega
theorem padZ_succ (l : List UInt8) (z : Nat) : padZ l (z + 1) = padZ l z ++ [0] := by simp [padZ, List.replicate_succ']
theorem padS_padZ (l : List UInt8) : padS l = padZ l (padN l.length) ++ beI 8 (8 * l.length) := by simp [padS, padZ]
theorem bytesL_snoc (l : List UInt8) (c : UInt8) : bytesL (B (l ++ [c])) = bytesL (B l) ++ [.lit (.int .u8 (c.toNat : Int))] := by simp [bytesL_B]
theorem bytesL_app (l m : List UInt8) : bytesL (B (l ++ m)) = bytesL (B l) ++ bytesL (B m) := by simp [bytesL_B]
theorem bytesL_take (l : List UInt8) (n : Nat) : ((bytesL (B l)).take n).drop 0 = bytesL (B (l.take n)) := by simp [bytesL_B, List.map_take]
theorem bytesL_len (l : List UInt8) : (bytesL (B l)).length = l.length := by rw [bytesL_length, B_size]
theorem outS_flat (v : St8) : outS v = (l8 v).flatMap fun (n : Nat) => beI 4 (n : Int) := by simp [outS, l8]
def outN (v : St8) (m : Nat) : List UInt8 := ((l8 v).take m).flatMap fun (n : Nat) => beI 4 (n : Int)
theorem outN_succ (v : St8) {m : Nat} (h : m < 8) : outN v (m + 1) = outN v m ++ beI 4 (((l8 v).getD m 0 : Nat) : Int) := by
  match m, h with
  | 0, _ | 1, _ | 2, _ | 3, _ | 4, _ | 5, _ | 6, _ | 7, _ => simp [outN, l8]
theorem outN_length (v : St8) {m : Nat} (h : m ≤ 8) : (outN v m).length ≤ 32 := by
  match m, h with
  | 0, _ | 1, _ | 2, _ | 3, _ | 4, _ | 5, _ | 6, _ | 7, _ | 8, _ => simp [outN, l8, beI_length]
theorem l8_lt {v : St8} (hv : v.Ok) {m : Nat} (h : m < 8) : (l8 v).getD m 0 < 4294967296 := by
  match m, h with
  | 0, _ => exact hv.a
  | 1, _ => exact hv.b
  | 2, _ => exact hv.c
  | 3, _ => exact hv.d
  | 4, _ => exact hv.e
  | 5, _ => exact hv.f
  | 6, _ => exact hv.g
  | 7, _ => exact hv.h
theorem outN_all (v : St8) : outN v 8 = outS v := by rw [outS_flat]; rfl

theorem sum_c {s : ByteArray} {σ : Store} (hs : s.size ≤ 900000000000) : ACalls Tryz.prog 31 [vStr s] σ fun v σ' => v = vStr (B (shaS (Lb s))) ∧ σ = σ' := by
  have hl := Lb_length s
  obtain ⟨l, rfl⟩ : ∃ l, s = B l := ⟨Lb s, (B_Lb s).symm⟩
  rw [Lb_B] at hl ⊢
  rw [B_size] at hs
  have hlen : ∀ z, (bytesL (B (padZ l z))).length = l.length + 1 + z := fun z => by rw [bytesL_len, padZ_length]
  have hsz := B_size l
  have htm : ∀ n : Nat, (n : Int).tmod 64 = ((n % 64 : Nat) : Int) := fun n => rfl
  have hpn : padN l.length < 64 := Nat.mod_lt _ (by decide)
  refine ACalls_of Tryz.func31 rfl Tryz.ntmps31 (congrArg Array.toList Tryz.results31) (by simp only [List.length_cons, List.length_nil]; decide) ?_; simp only [envOf_cons, envOf_nil, Nat.reduceAdd]
  refine awp_seq ?_
  refine awp_region (by kernel_rfl) ?_
  (refine aL_S rfl rfl v_ ?_)
  refine aL_nil ?_
  refine awp_seq ?_
  refine awp_region (by kernel_rfl) ?_
  (refine aL_S rfl rfl v_ ?_)
  refine aL_X rfl rfl (AOp_bytesOwn rfl g_ g_ g_ va_ (by omega) fun k10 hk10 => ?_)
  refine aL_buildSlice rfl rfl rfl g_ g_ rfl rfl h_ c2_ (by decide) ?_
  refine aL_append rfl rfl rfl g_ g_ v_ h_ v_ c_ (by simp [bytesL_len]; omega) fun k12 hk12 => ?_
  (refine aL_S rfl rfl v_ ?_)
  refine aL_nil ?_
  refine awp_seq ?_
  refine awp_block ?_
  refine awp_loop_env (ι := Nat × Nat) (fun ⟨z, k⟩ => padN l.length - z) (fun ⟨z, k⟩ => z ≤ padN l.length ∧ σ.tok k = none) (fun ⟨z, k⟩ => [(0, vStr (B l)), (3, .own k 1 (bytesL (B (padZ l z))))]) (fun ⟨z, k⟩ => (σ.newTok none k (5, 1))) (0, k12) ?_ ?_ ?_ ?_
  · exact ⟨Nat.zero_le _, (newTok_none hk12).2⟩
  · have R := (show bytesL (B (padZ l 0)) = bytesL (B l) ++ [.lit (.int .u8 128)] from bytesL_snoc l 128); exact cv_
  · rw [Store.newTok_step hk10]; exact Store.Wk.refl _
  rintro ⟨z, k⟩ ⟨hz, hk⟩
  simp only [envL_cons, envL_nil]
  refine awp_seq ?_
  refine awp_seq ?_
  have R := And.intro hlen htm
  refine awp_region (by kernel_rfl) ?_
  iterate 4 (refine aL_S rfl rfl v_ ?_)
  refine aL_nil ?_
  refine awp_cond v_ (fun hc2 => ?_) (fun hc2 => ?_)
  · replace hc2 := nm_ hc2
    refine awp_skip ?_
    refine awp_block ?_
    skip
    have hz1 : z + 1 ≤ padN l.length := by
      have := padN_spec l.length
      rcases Nat.lt_or_eq_of_le hz with h | h
      · exact h
      · rw [h] at hc2; omega
    refine awp_region (by kernel_rfl) ?_
    (refine aL_S rfl rfl v_ ?_)
    refine aL_buildSlice rfl rfl rfl g_ g_ rfl rfl h_ c2_ (by decide) ?_
    refine aL_append rfl rfl rfl g_ g_ v_ h_ v_ c_ (by simp only [hlen]; simp; omega) fun k19 hk19 => ?_
    (refine aL_S rfl rfl v_ ?_)
    refine aL_nil ?_
    refine aNext (ι := Nat × Nat) (i := ⟨z, k⟩) (z + 1, k19) ?_ ?_ ?_ ?_
    · show padN l.length - (z + 1) < padN l.length - z; omega
    · exact ⟨hz1, (newTok_none hk19).2⟩
    · have R := (show bytesL (B (padZ l (z + 1))) = bytesL (B (padZ l z)) ++ [.lit (.int .u8 0)] by rw [padZ_succ, bytesL_snoc]; rfl); exact cv_
    · rw [Store.newTok_step hk]; exact Store.Wk.refl _
  · replace hc2 := nm_ hc2
    refine awp_exit ?_
    refine aThen_exit ?_
    refine aThen_exit ?_
    refine aBlock_hit ?_
    refine awp_seq ?_
    skip
    obtain rfl : z = padN l.length := by
      rcases Nat.lt_or_eq_of_le hz with h | h
      · have := padN_least _ _ h; omega
      · exact h
    refine awp_region (by kernel_rfl) ?_
    (refine aL_S rfl rfl v_ ?_)
    refine aL_X rfl rfl (AOp_boxP rfl va_ fun o21 ho21 => ?_)
    (refine aL_S rfl rfl v_ ?_)
    refine aL_nil ?_
    have ho21 : σ.heap o21 = none := ho21
    have hw : WR ((σ.newTok none k (5, 1)).set o21 (.cells [.nilp o21 100 2, .lit (.slice none 0 0)])) o21 [] := ⟨_, _, none, Store.set_get .., .inr rfl, .inr ⟨rfl, rfl, rfl⟩⟩
    refine awp_seq ?_
    have R := hsz
    refine awp_region (by kernel_rfl) ?_
    iterate 4 (refine aL_S rfl rfl v_ ?_)
    refine aL_X rfl rfl (AOp_use rfl rfl (.inr ⟨rfl, rfl, rfl⟩) g_ va_ (wrInt_c hw (by simp)) ?_); rintro _ τ1 ⟨rfl, a1, a2⟩
    refine aL_nil ?_
    refine awp_seq ?_
    refine awp_region (by kernel_rfl) ?_
    iterate 2 (refine aL_S rfl rfl v_ ?_)
    refine aL_X rfl rfl (AOp_use rfl rfl (.inr ⟨rfl, rfl, rfl⟩) g_ va_ (wrBytes_c a1 (by simp [beI_length])) ?_); rintro _ τ2 ⟨rfl, c2⟩
    have w2 := a2.trans c2
    have hk2 : τ2.tok k = some (5, 1) := (w2.2 k _ (by rw [Store.set_tok]; exact Store.newTok_get ..) (fun ⟨a, sz, l, hh⟩ => by rw [Store.set_get] at hh; simp at hh)).1
    have s2 : SubX [] σ τ2 := by
      have h := WF.sub (show (σ.newTok none k (5, 1)).heap o21 = none from ho21) w2 (fun a t sz l hh => by simp at hh)
      exact SubX.trans (subx_newTok hk subx_refl) ⟨fun i x _ => h.heap i x, h.tok⟩
    refine aL_X rfl rfl (AOp_appendS rfl g_ g_ (.inl ⟨k, va_, hk2, rfl⟩) (ASrc_str g_) (by simp only [hlen]; rw [bytesL_len]; simp [beI_length]; omega) fun k30 hk30 => ?_)
    (refine aL_S rfl rfl v_ ?_)
    refine aL_nil ?_
    refine awp_seq ?_
    skip
    have hall : bytesL (B (padZ l (padN l.length))) ++ bytesL (B ([] ++ beI 8 (8 * (l.length : Int)))) = bytesL (B (padS l)) := by
      rw [← bytesL_app, List.nil_append, padS_padZ]
    have s3 : SubX [] σ (τ2.newTok (some k) k30 (5, 1)) := SubX.newTok s2 (fun j hj => by cases hj; exact hk) hk30
    refine awp_region (by kernel_rfl) ?_
    (refine aL_S rfl rfl v_ ?_)
    refine aL_alloc rfl rfl rfl g_ gl_ fun o5 ho5 => ?_
    repeat (rw [none_set_iff] at ho5; obtain ⟨_, ho5⟩ := ho5)
    refine aL_store rfl rfl rfl v_ v_ h_ g_ rfl g_ c_ (by rfl) le_ v_ ?_
    refine aL_nil ?_
    have n5 : σ.heap o5 = none := SubX.noObj s3 ho5 (by simp)
    have e5 : ∃ S0 : Store, τ2.newTok (some k) k30 (5, 1) = S0 := ⟨_, rfl⟩
    refine awp_seq ?_
    refine awp_block ?_
    refine awp_loop_env (ι := List UInt8 × St8 × Nat) (fun ⟨r, v, m⟩ => m) (fun ⟨r, v, m⟩ => r.length = 64 * m ∧ v.Ok ∧ outS (runS m v r) = shaS l) (fun ⟨r, v, m⟩ => [(3, .sl 1 (bytesL (B r)) false), (5, .ref o5 0)]) (fun ⟨r, v, m⟩ => ((τ2.newTok (some k) k30 (5, 1)).set o5 (.cells ((l8 v).map vU)))) (padS l, initS, (padS l).length / 64) ?_ ?_ ?_ ?_
    · exact ⟨padS_length l, initS_ok, rfl⟩
    · refine covers.wk (b := .own k30 1 (bytesL (B (padS l)))) (by rw [← hall]; exact va_) (.own1 _ _ _) (covers.eq va_ covers.nil)
    · rw [Store.set_set]; exact Store.Wk.refl _
    rintro ⟨r, v, m⟩ ⟨hr, hv, hrun⟩
    simp only [envL_cons, envL_nil]
    refine awp_seq ?_
    refine awp_seq ?_
    have R := @bytesL_len
    refine awp_region (by kernel_rfl) ?_
    iterate 3 (refine aL_S rfl rfl v_ ?_)
    refine aL_nil ?_
    refine awp_cond v_ (fun hc8 => ?_) (fun hc8 => ?_)
    · replace hc8 := nm_ hc8
      refine awp_skip ?_
      refine awp_seq ?_
      refine awp_block ?_
      have hm0 : 1 ≤ m := by omega
      have ht64 : (B r).extract 0 64 = B (r.take 64) := by rw [extract_B, Lb_B]; rfl
      have hv8 : ((l8 v).map vU).take 8 = (l8 v).map vU := rfl
      have htkr : (B r).extract 0 r.length = B r := by rw [extract_B, Lb_B, List.take_of_length_le (Nat.le_refl _)]; rfl
      have hdr : List.drop 64 (bytesL (B r)) = bytesL (B (r.drop 64)) := by simp [bytesL_B, List.map_drop]
      have hdr' : (B r).extract 64 r.length = B (r.drop 64) := by rw [extract_B, Lb_B, List.take_of_length_le (Nat.le_refl _)]
      have hle64 := bytesL_len r
      obtain ⟨Af, hAf⟩ : ∃ Af, (l8 (blockS v (r.take 64))).map vU = Af := ⟨_, rfl⟩
      have hA1 : ∀ c ∈ Af, c.one = true := fun c hc => by
        rw [← hAf] at hc
        obtain ⟨x, _, rfl⟩ := List.mem_map.1 hc
        rfl
      have hA8 : Af.length = 8 := by rw [← hAf]; rfl
      have hset : (((τ2.newTok (some k) k30 (5, 1)).set o5 (.cells ((l8 v).map vU))).set o5 (.cells Af)) = (τ2.newTok (some k) k30 (5, 1)).set o5 (.cells Af) := Store.set_set ..
      have R := And.intro ht64 (And.intro hle64 hv8)
      refine awp_draw (.op 0 0 (.op 1 0 (.op 2 0 (.op 3 2 (.op 4 2 .nil))))) Tryz.mixed (by kernel_rfl) ?_
      iterate 3 (refine dR_S o_ (by rfl) (by rfl) v_ ?_)
      refine dR_T o_ (by rfl) (by rfl) (AOp_use (by rfl) (by rfl) (.inr ⟨by rfl, by rfl, by rfl⟩) g_ va_ (take_c' (l := r.take 64) hv (by rw [List.length_take]; omega)) ?_); rintro _ _ ⟨rfl, rfl⟩
      rw [hAf]
      refine dR_store o_ (by rfl) (by rfl) (by rfl) (a := .agg Af) (cs' := Af) (cs2 := Af) va_ va_ (Store.set_get ..) g_ rfl rfl hA1 hA8 (by simp [l8]) (aput_all (by rw [hA8]; rfl)) ?_
      refine dR_nil ?_
      have R := And.intro hle64 (And.intro htkr hdr)
      refine awp_region (by kernel_rfl) ?_
      iterate 3 (refine aL_S rfl rfl v_ ?_)
      refine aL_nil ?_
      refine aNext (ι := List UInt8 × St8 × Nat) (i := ⟨r, v, m⟩) (r.drop 64, blockS v (r.take 64), m - 1) ?_ ?_ ?_ ?_
      · show m - 1 < m; omega
      · exact ⟨by show (r.drop 64).length = 64 * (m - 1); rw [List.length_drop]; omega, addS_ok _ _, by rw [← hrun]; obtain ⟨q, rfl⟩ : ∃ q, m = q + 1 := ⟨m - 1, by omega⟩; rfl⟩
      · have R := And.intro htkr hdr; exact cv_
      · rw [hset, ← hAf]; exact Store.Wk.refl _
    · replace hc8 := nm_ hc8
      refine awp_exit ?_
      refine aThen_exit ?_
      refine aThen_exit ?_
      refine aBlock_hit ?_
      refine awp_seq ?_
      obtain rfl : m = 0 := by omega
      rw [runS] at hrun
      obtain ⟨S1, hS1⟩ : ∃ S1, ((τ2.newTok (some k) k30 (5, 1)).set o5 (.cells ((l8 v).map vU))) = S1 := ⟨_, rfl⟩
      have s5 : SubX [] σ S1 := by rw [← hS1]; exact subx_new n5 s3
      have h5 : S1.heap o5 = some (.cells ((l8 v).map vU)) := by rw [← hS1]; exact Store.set_get ..
      have hv8 : ((l8 v).map vU).take 8 = (l8 v).map vU := rfl
      rw [hS1]
      refine awp_region (by kernel_rfl) ?_
      (refine aL_S rfl rfl v_ ?_)
      refine aL_X rfl rfl (AOp_boxP rfl va_ fun o42 ho42 => ?_)
      (refine aL_S rfl rfl v_ ?_)
      refine aL_nil ?_
      have n42 := ne_of_heap h5 ho42
      have hw2 : WR (S1.set o42 (.cells [.nilp o42 100 2, .lit (.slice none 0 0)])) o42 [] := ⟨_, _, none, Store.set_get .., .inr rfl, .inr ⟨rfl, rfl, rfl⟩⟩
      refine awp_seq ?_
      refine awp_seq ?_
      have R := And.intro h5 hv8
      refine awp_region (by kernel_rfl) ?_
      iterate 2 (refine aL_S rfl rfl v_ ?_)
      refine aL_nil ?_
      refine awp_block ?_
      refine awp_loop_env (ι := Store × Nat) (fun ⟨τ, m⟩ => 8 - m) (fun ⟨τ, m⟩ => m ≤ 8 ∧ WR τ o42 (outN v m) ∧ WF o42 (S1.set o42 (.cells [.nilp o42 100 2, .lit (.slice none 0 0)])) τ) (fun ⟨τ, m⟩ => [(6, .ref o42 0), (43, .agg ((l8 v).map vU)), (44, vInt m)]) (fun ⟨τ, m⟩ => τ) (S1.set o42 (.cells [.nilp o42 100 2, .lit (.slice none 0 0)]), 0) ?_ ?_ ?_ ?_
      · exact ⟨Nat.zero_le _, hw2, WF.refl⟩
      · exact cv_
      · exact Store.Wk.refl _
      rintro ⟨τ, m⟩ ⟨hm, hwr, hwf⟩
      simp only [envL_cons, envL_nil]
      refine awp_seq ?_
      refine awp_region (by kernel_rfl) ?_
      (refine aL_S rfl rfl v_ ?_)
      refine aL_nil ?_
      refine awp_seq ?_
      refine awp_cond v_ (fun hc13 => ?_) (fun hc13 => ?_)
      · replace hc13 := nm_ hc13
        refine awp_skip ?_
        refine awp_seq ?_
        refine awp_block ?_
        refine awp_seq ?_
        have hm8 : m < 8 := by omega
        have gx := l8_get v hm8
        have hol := outN_length v hm
        have hlt := l8_lt hv hm8
        have R := gx
        refine awp_region (by kernel_rfl) ?_
        iterate 2 (refine aL_S rfl rfl v_ ?_)
        refine aL_nil ?_
        refine awp_region (by kernel_rfl) ?_
        iterate 3 (refine aL_S rfl rfl v_ ?_)
        refine aL_X rfl rfl (AOp_use rfl rfl (.inr ⟨rfl, rfl, rfl⟩) g_ va_ (wrCount_c hwr (by omega)) ?_); rintro _ τ' ⟨rfl, w1, w2'⟩
        refine aL_nil ?_
        refine awp_region (by kernel_rfl) ?_
        iterate 2 (refine aL_S rfl rfl v_ ?_)
        refine aL_nil ?_
        refine aNext (ι := Store × Nat) (i := ⟨τ, m⟩) (τ', m + 1) ?_ ?_ ?_ ?_
        · show 8 - (m + 1) < 8 - m; omega
        · exact ⟨by show m + 1 ≤ 8; omega, by rw [outN_succ v hm8]; exact w1, hwf.trans w2'⟩
        · exact cv_
        · exact Store.Wk.refl _
      · replace hc13 := nm_ hc13
        refine awp_exit ?_
        refine aThen_exit ?_
        refine aThen_exit ?_
        refine aBlock_hit ?_
        refine awp_seq ?_
        obtain rfl : m = 8 := by omega
        have hol := outN_length v hm
        refine awp_region (by kernel_rfl) ?_
        (refine aL_S rfl rfl v_ ?_)
        refine aL_X rfl rfl (AOp_use rfl rfl (.inr ⟨rfl, rfl, rfl⟩) g_ va_ (wrBytes_c hwr (by omega)) ?_); rintro _ τ3 ⟨rfl, w3⟩
        (refine aL_S rfl rfl v_ ?_)
        refine aL_nil ?_
        refine awp_ret ?_
        have hfin := WF.sub (show S1.heap o42 = none from ho42) (hwf.trans w3) (fun a t sz l hh => by simp at hh)
        rw [outN_all, hrun]
        exact aEnd_ret (σ' := σ) va_ (subx_start (SubX.trans s5 ⟨fun i x _ => hfin.heap i x, hfin.tok⟩)) ⟨rfl, rfl⟩
end Go.Proofs.YtbomkkjhafdhiaaGreat
end
