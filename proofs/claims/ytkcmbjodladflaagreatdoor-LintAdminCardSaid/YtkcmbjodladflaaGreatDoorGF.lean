/-
  Registers, and what they say of tenants, plainly; Numbers and digits, by the kit's contracts of the library's Itoa and Atoi; Numbers of digits, on both sides; The library's Join of texts, with nothing between them; The library's Builder by itself; texts joined with a slash between each two; The library's cut at each slash; the parts of a path, on both sides; The library's Clone and DeleteFunc at pantler/api.Entry; Registers: what a key has, what it would have; what they say of a tenant. Both sides. Own work (an AI agent).
-/
import Derived.Test.YtkcmbjodladflaaGreatDoorGD
import Derived.Test.YtkcmbjodladflaaGreatDoorGE
import Derived.Shelf.Strconv.Itoa3
import Derived.Shelf.Strconv.AtoiAll
import Derived.Lib.Bytealg

section
set_option linter.all false
set_option maxRecDepth 100000
namespace Go.Ab
structure Ten where
 name : ByteArray
 secret : ByteArray
 bytes : Int
 rate : Int
 burst : Int
 queue : Int
@[reducible] def sTen (x : Ten) : AVal := .agg [.lit (.string x.name), .lit (.string x.secret), vInt x.bytes, vInt x.rate, vInt x.burst, vInt x.queue]
@[reducible] def sReg (x : Ent) : AVal := .agg [vInt x.n, .lit (.string x.who), .lit (.string x.value)]
end Go.Ab
namespace Go.Proofs.YtkcmbjodladflaaGreatDoor
open Go.Ab
def e0_ : Ent := ⟨⟨#[]⟩, 0, ⟨#[]⟩, ⟨#[]⟩⟩
def getS (l : List Ent) (k : ByteArray) : Ent := (l.find? fun x => decide (x.key = k)).getD e0_
def regZ (a : Ent) : Bool := decide (a.n = 0) && decide (a.who.size = 0) && decide (a.value.size = 0)
def cU_ (a : Ent) (who v : ByteArray) : Ent × Int := if (!regZ a && !cW_ a.n a.who a.value) || !aI_ who || decide (256 < v.size) then (e0_, 1) else if 9007199254740992 ≤ a.n then (e0_, 4) else (⟨⟨#[]⟩, a.n + 1, who, v⟩, 0)
def setS (l : List Ent) (who key v : ByteArray) : Ent × Int := if !bc_ l || decide (key.size < 1) || decide (128 < key.size) then (e0_, 1) else if (cU_ (getS l key) who v).2 ≠ 0 then (e0_, (cU_ (getS l key) who v).2) else (⟨key, (cU_ (getS l key) who v).1.n, (cU_ (getS l key) who v).1.who, (cU_ (getS l key) who v).1.value⟩, 0)
theorem fE_ {l : List Ent} (h : ∀ x ∈ l, EntSm x) (k : ByteArray) : (getS l k).who.size ≤ 1000000 ∧ (getS l k).value.size ≤ 1000000 := by
 unfold getS
 cases hf : l.find? fun x => decide (x.key = k) with
 |none => exact ⟨Nat.zero_le _, Nat.zero_le _⟩
 |some x => have := h x (List.mem_of_find?_eq_some hf); exact ⟨this.who, this.value⟩
def b6_ (a b : Ent) : Bool := if a.n ≠ b.n then decide (b.n < a.n) else if a.who ≠ b.who then sLt b.who a.who else sLt b.value a.value
def putS (y : Ent) : List Ent → List Ent
 |[] => [y]
 |x :: l => if sLt x.key y.key then x :: putS y l else if x.key = y.key then (if b6_ y x then y else x) :: l else y :: x :: l
theorem g1_ {y : Ent} {k : ByteArray} (hk : y.key ≠ k) : ∀ {l : List Ent}, getS (putS y l) k = getS l k
 |[] => by simp [putS, getS, hk]
 |x :: l => by
  have ih := g1_ hk (l := l)
  unfold getS at ih ⊢
  unfold putS
  split
  ·rw [List.find?_cons, List.find?_cons]
   split
   ·rfl
   ·exact ih
  ·split
   ·rename_i h
    rw [List.find?_cons, List.find?_cons]
    have h1 : ¬ x.key = k := by rw [h]; exact hk
    split
    ·rename_i h2
     split at h2
     ·exact absurd (of_decide_eq_true h2) hk
     ·exact absurd (of_decide_eq_true h2) h1
    ·rw [decide_eq_false h1]
   ·rw [List.find?_cons, decide_eq_false hk]
theorem dV_ (y : Ent) : ∀ (l : List Ent), (putS y l).length ≤ l.length + 1
 |[] => by simp [putS]
 |x :: l => by
  have := dV_ y l
  unfold putS
  split
  ·simp; omega
  ·split <;> simp
def aR_ : ByteArray := ⟨#[116, 101, 110, 97, 110, 116]⟩
def bP_ : ByteArray := ⟨#[115, 101, 99, 114, 101, 116]⟩
def cS_ : ByteArray := ⟨#[98, 121, 116, 101, 115]⟩
def es_ : ByteArray := ⟨#[114, 97, 116, 101]⟩
def dB_ : ByteArray := ⟨#[98, 117, 114, 115, 116]⟩
def ef_ : ByteArray := ⟨#[113, 117, 101, 117, 101]⟩
def keyS (t f : ByteArray) : ByteArray := cJ_ [aR_, t, f]
def bndS (f : ByteArray) : Int × Int × Bool := if f = cS_ then (1099511627776, 1048576, true) else if f = es_ then (1048576, 8, true) else if f = dB_ then (1048576, 16, true) else if f = ef_ then (64, 16, true) else (0, 0, false)
def limN (s : ByteArray) (most oth : Int) : Int := match numS s with | some n => if 0 ≤ n ∧ n ≤ most then n else oth | none => oth
def limS (l : List Ent) (t f : ByteArray) : Int := limN (getS l (keyS t f)).value (bndS f).1 (bndS f).2.1
def iE_ (s : ByteArray) : Bool := decide (1 ≤ s.size) && decide (s.size ≤ 64)
def eY_ (l : List Ent) (t : ByteArray) : Bool := aI_ t && iE_ (getS l (keyS t bP_)).value
def td_ : Ten := ⟨⟨#[]⟩, ⟨#[]⟩, 0, 0, 0, 0⟩
def tenS (l : List Ent) (t : ByteArray) : Ten := if eY_ l t then ⟨t, (getS l (keyS t bP_)).value, limS l t cS_, limS l t es_, limS l t dB_, limS l t ef_⟩ else td_
def tnK (l : List Ent) (k : ByteArray) : Option ByteArray := match aH_ k with | [a, b, c] => if a = aR_ ∧ c = bP_ ∧ eY_ l b = true then some b else none | _ => none
def allS (l : List Ent) : List ByteArray := bC_ (bK_ (l.filterMap fun x => tnK l x.key))
def secS (l : List Ent) (who t s : ByteArray) : Ent × Int := if !aI_ t || !iE_ s then (e0_, 1) else setS l who (keyS t bP_) s
def dt_ (l : List Ent) (who t f : ByteArray) (n : Int) : Ent × Int := if !aI_ t || !(bndS f).2.2 || decide (n < 0) || decide ((bndS f).1 < n) then (e0_, 1) else setS l who (keyS t f) (B (Lib.itoa n))
theorem cm_ {t : ByteArray} (h : aI_ t = true) : ∀ c ∈ Lb t, c ≠ 47 := by
 unfold aI_ at h
 simp only [Bool.and_eq_true] at h
 have h2 := List.all_eq_true.1 h.2
 rintro c hc rfl
 have := h2 47 hc
 revert this; decide
theorem eB_ {t : ByteArray} (h : aI_ t = true) : 1 ≤ t.size ∧ t.size ≤ 16 := by
 unfold aI_ at h
 simp only [Bool.and_eq_true, decide_eq_true_eq] at h
 exact h.1
theorem l2_ {t f : ByteArray} (ht : ∀ c ∈ Lb t, c ≠ 47) (hf : ∀ c ∈ Lb f, c ≠ 47) : aH_ (keyS t f) = [aR_, t, f] := by
 refine fL_ (by simp) (by simp [fM_, aR_, Lb]) fun x hx => ?_
 rcases List.mem_cons.1 hx with rfl | hx
 ·decide
 ·rcases List.mem_cons.1 hx with rfl | hx
  ·exact ht
  ·rw [List.mem_singleton.1 hx]; exact hf
theorem lp_ {l : List Ent} {k : ByteArray} (h : 1 ≤ (getS l k).value.size) : ∃ x ∈ l, x.key = k := by
 unfold getS at h
 cases hf : l.find? fun x => decide (x.key = k) with
 |none => rw [hf] at h; exact absurd h (by decide)
 |some x => exact ⟨x, List.mem_of_find?_eq_some hf, by simpa using List.find?_some hf⟩
theorem kR_ {l : List Ent} {t : ByteArray} : t ∈ allS l ↔ eY_ l t = true := by
 unfold allS
 rw [(dR_ _).2, List.mem_filterMap]
 constructor
 ·rintro ⟨x, hx, h⟩
  unfold tnK at h
  split at h
  ·split at h
   ·rename_i hh
    injection h with h
    rw [← h]; exact hh.2.2
   ·cases h
  ·cases h
 ·intro h
  have h' := h
  simp only [eY_, iE_, Bool.and_eq_true, decide_eq_true_eq] at h'
  obtain ⟨x, hx, hk⟩ := lp_ h'.2.1
  refine ⟨x, hx, ?_⟩
  rw [hk, tnK, l2_ (cm_ h'.1) (by decide)]
  simp only
  rw [if_pos ⟨trivial, trivial, h⟩]
theorem kQ_ (l : List Ent) : (allS l).length ≤ l.length := Nat.le_trans (jt_ _) (List.length_filterMap_le ..)
end Go.Proofs.YtkcmbjodladflaaGreatDoor
end

section
set_option linter.all false
set_option maxRecDepth 100000
namespace Go.Proofs
open Go.Shelf
def gr_ : Go.Shelf.Ren := ⟨(fun n => match n with | 129 => 167 | 171 => 132 | 243 => 180 | 246 => 221 | 283 => 240 | 284 => 241 | 285 => 242 | 286 => 243 | 317 => 256 | 318 => 257 | 319 => 258 | 320 => 259 | 337 => 263 | 338 => 264 | _ => 0), (fun n => match n with | 0 => 0 | 2 => 2 | 3 => 3 | 4 => 4 | 5 => 5 | 9 => 9 | 20 => 20 | 37 => 207 | 46 => 139 | 51 => 185 | 53 => 187 | 171 => 252 | 173 => 254 | 212 => 266 | 213 => 267 | 232 => 274 | 233 => 275 | _ => 0), (fun n => match n with | 17 => 3 | 18 => 6 | 19 => 7 | _ => 0)⟩
theorem ru_ : Lays.n171 Tryz.prog gr_ := {
 mixed := Tryz.mixed
 f129 := by kernel_rfl
 f171 := by kernel_rfl
 f243 := by kernel_rfl
 f246 := by kernel_rfl
 f283 := by kernel_rfl
 f284 := by kernel_rfl
 f285 := by kernel_rfl
 f286 := by kernel_rfl
 f317 := by kernel_rfl
 f318 := by kernel_rfl
 f319 := by kernel_rfl
 f320 := by kernel_rfl
 f337 := by kernel_rfl
 f338 := by kernel_rfl
 t0 := Tryz.underlying0
 a0 := Tryz.isAgg0
 z0 := Tryz.sizeOf0
 v0 := Tryz.zeroValue0
 t2 := Tryz.underlying2
 a2 := Tryz.isAgg2
 z2 := Tryz.sizeOf2
 v2 := Tryz.zeroValue2
 t3 := Tryz.underlying3
 a3 := Tryz.isAgg3
 z3 := Tryz.sizeOf3
 v3 := Tryz.zeroValue3
 t4 := Tryz.underlying4
 a4 := Tryz.isAgg4
 z4 := Tryz.sizeOf4
 v4 := Tryz.zeroValue4
 t5 := Tryz.underlying5
 a5 := Tryz.isAgg5
 z5 := Tryz.sizeOf5
 v5 := Tryz.zeroValue5
 t9 := Tryz.underlying9
 a9 := Tryz.isAgg9
 z9 := Tryz.sizeOf9
 v9 := Tryz.zeroValue9
 t20 := Tryz.underlying20
 a20 := Tryz.isAgg20
 z20 := Tryz.sizeOf20
 v20 := Tryz.zeroValue20
 t37 := Tryz.underlying207
 a37 := Tryz.isAgg207
 z37 := Tryz.sizeOf207
 v37 := Tryz.zeroValue207
 t46 := Tryz.underlying139
 a46 := Tryz.isAgg139
 z46 := Tryz.sizeOf139
 v46 := Tryz.zeroValue139
 t51 := Tryz.underlying185
 a51 := Tryz.isAgg185
 z51 := Tryz.sizeOf185
 v51 := Tryz.zeroValue185
 t53 := Tryz.underlying187
 a53 := Tryz.isAgg187
 z53 := Tryz.sizeOf187
 v53 := Tryz.zeroValue187
 t171 := Tryz.underlying252
 a171 := Tryz.isAgg252
 z171 := Tryz.sizeOf252
 v171 := Tryz.zeroValue252
 t173 := Tryz.underlying254
 a173 := Tryz.isAgg254
 z173 := Tryz.sizeOf254
 v173 := Tryz.zeroValue254
 t212 := Tryz.underlying266
 a212 := Tryz.isAgg266
 z212 := Tryz.sizeOf266
 v212 := Tryz.zeroValue266
 t213 := Tryz.underlying267
 a213 := Tryz.isAgg267
 z213 := Tryz.sizeOf267
 t232 := Tryz.underlying274
 a232 := Tryz.isAgg274
 z232 := Tryz.sizeOf274
 v232 := Tryz.zeroValue274
 t233 := Tryz.underlying275
 a233 := Tryz.isAgg275
 z233 := Tryz.sizeOf275
 v233 := Tryz.zeroValue275
 g17 := by kernel_rfl
 g18 := by kernel_rfl
 g19 := by kernel_rfl }
theorem sU_ : LaysM.n171 Tryz.prog gr_ := { ru_ with
 i0 := by kernel_rfl
 i2 := by kernel_rfl
 i3 := by kernel_rfl
 i4 := by kernel_rfl
 i5 := by kernel_rfl
 i9 := by kernel_rfl
 i20 := by kernel_rfl
 i37 := by kernel_rfl
 i46 := by kernel_rfl
 i51 := by kernel_rfl
 i53 := by kernel_rfl
 i171 := by kernel_rfl
 i173 := by kernel_rfl
 i212 := by kernel_rfl
 i232 := by kernel_rfl
 i233 := by kernel_rfl
 m17 := by kernel_rfl
 m18 := by kernel_rfl
 m19 := by kernel_rfl }
def eQ_ : Go.Shelf.Ren := ⟨(fun n => match n with | 129 => 167 | 171 => 132 | 172 => 131 | 205 => 239 | 243 => 180 | 244 => 178 | 245 => 179 | 246 => 221 | 247 => 216 | 279 => 217 | 280 => 218 | 281 => 219 | 282 => 220 | 283 => 240 | 284 => 241 | 285 => 242 | 286 => 243 | 287 => 237 | 316 => 238 | 317 => 256 | 318 => 257 | 319 => 258 | 320 => 259 | 321 => 254 | 322 => 255 | 337 => 263 | 338 => 264 | _ => 0), (fun n => match n with | 0 => 0 | 2 => 2 | 3 => 3 | 4 => 4 | 5 => 5 | 9 => 9 | 20 => 20 | 21 => 21 | 37 => 207 | 46 => 139 | 51 => 185 | 53 => 187 | 75 => 147 | 76 => 148 | 80 => 201 | 85 => 229 | 127 => 235 | 143 => 262 | 145 => 264 | 167 => 228 | 168 => 231 | 171 => 252 | 173 => 254 | 175 => 247 | 210 => 250 | 212 => 266 | 213 => 267 | 232 => 274 | 233 => 275 | _ => 0), (fun n => match n with | 15 => 1 | 16 => 2 | 17 => 3 | 18 => 6 | 19 => 7 | _ => 0)⟩
theorem qV_ : Lays.n172 Tryz.prog eQ_ := {
 mixed := Tryz.mixed
 f129 := by kernel_rfl
 f171 := by kernel_rfl
 f172 := by kernel_rfl
 f205 := by kernel_rfl
 f243 := by kernel_rfl
 f244 := by kernel_rfl
 f245 := by kernel_rfl
 f246 := by kernel_rfl
 f247 := by kernel_rfl
 f279 := by kernel_rfl
 f280 := by kernel_rfl
 f281 := by kernel_rfl
 f282 := by kernel_rfl
 f283 := by kernel_rfl
 f284 := by kernel_rfl
 f285 := by kernel_rfl
 f286 := by kernel_rfl
 f287 := by kernel_rfl
 f316 := by kernel_rfl
 f317 := by kernel_rfl
 f318 := by kernel_rfl
 f319 := by kernel_rfl
 f320 := by kernel_rfl
 f321 := by kernel_rfl
 f322 := by kernel_rfl
 f337 := by kernel_rfl
 f338 := by kernel_rfl
 t0 := Tryz.underlying0
 a0 := Tryz.isAgg0
 z0 := Tryz.sizeOf0
 v0 := Tryz.zeroValue0
 t2 := Tryz.underlying2
 a2 := Tryz.isAgg2
 z2 := Tryz.sizeOf2
 v2 := Tryz.zeroValue2
 t3 := Tryz.underlying3
 a3 := Tryz.isAgg3
 z3 := Tryz.sizeOf3
 v3 := Tryz.zeroValue3
 t4 := Tryz.underlying4
 a4 := Tryz.isAgg4
 z4 := Tryz.sizeOf4
 v4 := Tryz.zeroValue4
 t5 := Tryz.underlying5
 a5 := Tryz.isAgg5
 z5 := Tryz.sizeOf5
 v5 := Tryz.zeroValue5
 t9 := Tryz.underlying9
 a9 := Tryz.isAgg9
 z9 := Tryz.sizeOf9
 v9 := Tryz.zeroValue9
 t20 := Tryz.underlying20
 a20 := Tryz.isAgg20
 z20 := Tryz.sizeOf20
 v20 := Tryz.zeroValue20
 t21 := Tryz.underlying21
 a21 := Tryz.isAgg21
 z21 := Tryz.sizeOf21
 v21 := Tryz.zeroValue21
 t37 := Tryz.underlying207
 a37 := Tryz.isAgg207
 z37 := Tryz.sizeOf207
 v37 := Tryz.zeroValue207
 t46 := Tryz.underlying139
 a46 := Tryz.isAgg139
 z46 := Tryz.sizeOf139
 v46 := Tryz.zeroValue139
 t51 := Tryz.underlying185
 a51 := Tryz.isAgg185
 z51 := Tryz.sizeOf185
 v51 := Tryz.zeroValue185
 t53 := Tryz.underlying187
 a53 := Tryz.isAgg187
 z53 := Tryz.sizeOf187
 v53 := Tryz.zeroValue187
 t75 := Tryz.underlying147
 a75 := Tryz.isAgg147
 z75 := Tryz.sizeOf147
 v75 := Tryz.zeroValue147
 t76 := Tryz.underlying148
 a76 := Tryz.isAgg148
 z76 := Tryz.sizeOf148
 v76 := Tryz.zeroValue148
 t85 := Tryz.underlying229
 a85 := Tryz.isAgg229
 z85 := Tryz.sizeOf229
 v85 := Tryz.zeroValue229
 t127 := Tryz.underlying235
 a127 := Tryz.isAgg235
 z127 := Tryz.sizeOf235
 v127 := Tryz.zeroValue235
 t143 := Tryz.underlying262
 a143 := Tryz.isAgg262
 z143 := Tryz.sizeOf262
 v143 := Tryz.zeroValue262
 t145 := Tryz.underlying264
 a145 := Tryz.isAgg264
 z145 := Tryz.sizeOf264
 v145 := Tryz.zeroValue264
 t167 := Tryz.underlying228
 a167 := Tryz.isAgg228
 z167 := Tryz.sizeOf228
 v167 := Tryz.zeroValue228
 t168 := Tryz.underlying231
 a168 := Tryz.isAgg231
 z168 := Tryz.sizeOf231
 v168 := Tryz.zeroValue231
 t171 := Tryz.underlying252
 a171 := Tryz.isAgg252
 z171 := Tryz.sizeOf252
 v171 := Tryz.zeroValue252
 t173 := Tryz.underlying254
 a173 := Tryz.isAgg254
 z173 := Tryz.sizeOf254
 v173 := Tryz.zeroValue254
 t175 := Tryz.underlying247
 a175 := Tryz.isAgg247
 z175 := Tryz.sizeOf247
 v175 := Tryz.zeroValue247
 t210 := Tryz.underlying250
 a210 := Tryz.isAgg250
 z210 := Tryz.sizeOf250
 v210 := Tryz.zeroValue250
 t212 := Tryz.underlying266
 a212 := Tryz.isAgg266
 z212 := Tryz.sizeOf266
 v212 := Tryz.zeroValue266
 t213 := Tryz.underlying267
 a213 := Tryz.isAgg267
 z213 := Tryz.sizeOf267
 t232 := Tryz.underlying274
 a232 := Tryz.isAgg274
 z232 := Tryz.sizeOf274
 v232 := Tryz.zeroValue274
 t233 := Tryz.underlying275
 a233 := Tryz.isAgg275
 z233 := Tryz.sizeOf275
 v233 := Tryz.zeroValue275
 g15 := by kernel_rfl
 g16 := by kernel_rfl
 g17 := by kernel_rfl
 g18 := by kernel_rfl
 g19 := by kernel_rfl }
theorem qW_ : LaysM.n172 Tryz.prog eQ_ := { qV_ with
 t80 := by kernel_rfl
 a80 := Tryz.isAgg201
 z80 := Tryz.sizeOf201
 v80 := Tryz.zeroValue201
 i0 := by kernel_rfl
 i2 := by kernel_rfl
 i3 := by kernel_rfl
 i4 := by kernel_rfl
 i5 := by kernel_rfl
 i9 := by kernel_rfl
 i20 := by kernel_rfl
 i21 := by kernel_rfl
 i37 := by kernel_rfl
 i46 := by kernel_rfl
 i51 := by kernel_rfl
 i53 := by kernel_rfl
 i75 := by kernel_rfl
 i76 := by kernel_rfl
 i80 := by kernel_rfl
 i85 := by kernel_rfl
 i127 := by kernel_rfl
 i143 := by kernel_rfl
 i145 := by kernel_rfl
 i167 := by kernel_rfl
 i168 := by kernel_rfl
 i171 := by kernel_rfl
 i173 := by kernel_rfl
 i175 := by kernel_rfl
 i210 := by kernel_rfl
 i212 := by kernel_rfl
 i232 := by kernel_rfl
 i233 := by kernel_rfl
 m15 := by kernel_rfl
 m16 := by kernel_rfl
 m17 := by kernel_rfl
 m18 := by kernel_rfl
 m19 := by kernel_rfl }
theorem o9_ : LaysC.n172 Tryz.prog eQ_ := { qW_ with
 c0 := by kernel_rfl
 c2 := by kernel_rfl
 c3 := by kernel_rfl
 c4 := by kernel_rfl
 c5 := by kernel_rfl
 c9 := by kernel_rfl
 c20 := by kernel_rfl
 c21 := by kernel_rfl
 c37 := by kernel_rfl
 c46 := by kernel_rfl
 c51 := by kernel_rfl
 c53 := by kernel_rfl
 c75 := by kernel_rfl
 c76 := by kernel_rfl
 c80 := by kernel_rfl
 c85 := by kernel_rfl
 c127 := by kernel_rfl
 c143 := by kernel_rfl
 c145 := by kernel_rfl
 c167 := by kernel_rfl
 c168 := by kernel_rfl
 c171 := by kernel_rfl
 c173 := by kernel_rfl
 c175 := by kernel_rfl
 c210 := by kernel_rfl
 c212 := by kernel_rfl
 c213 := by kernel_rfl
 c232 := by kernel_rfl
 c233 := by kernel_rfl }
end Go.Proofs
namespace Go.Ab
open Go.RowKit (Below)
theorem Inv.grown {κ : K} {σ : Store} (h : Inv κ σ) (k : Nat) (os : Array Obj) : κ.Le { κ with w := Sort.grow (κ.w.drewN k) os } ∧ Inv { κ with w := Sort.grow (κ.w.drewN k) os } σ := by
 have hh : ∀ b, b < κ.w.heap.size → (Sort.grow (κ.w.drewN k) os).heap[b]? = κ.w.heap[b]? := fun b hb => by
  unfold Sort.grow World.drewN
  exact Array.getElem?_append_left hb
 have hsz : κ.w.heap.size ≤ (Sort.grow (κ.w.drewN k) os).heap.size := by
  unfold Sort.grow World.drewN
  simp
 have hle : κ.Le { κ with w := Sort.grow (κ.w.drewN k) os } := by
  refine ⟨rfl, ⟨rfl, rfl, rfl, hsz, fun b hb => hh b (by have := h.base; omega)⟩, fun b s e => ?_, fun _ _ e => e, fun _ _ e => e, fun _ => Nat.le_refl _, fun b off v _ e => ?_, by unfold Sort.grow World.drewN; simp⟩
  ·have hlt : b < κ.w.heap.size := by
    unfold World.shape? at e
    cases hq : κ.w.heap[b]? with
    |none => rw [hq] at e; cases e
    |some q => exact (Array.getElem?_eq_some_iff.1 hq).1
   unfold World.shape? at e ⊢
   dsimp only
   rw [hh b hlt]; exact e
  ·have hlt : b < κ.w.heap.size := by
    unfold World.cell? at e
    cases hq : κ.w.heap[b]? with
    |none => rw [hq] at e; cases e
    |some q => exact (Array.getElem?_eq_some_iff.1 hq).1
   simp only [World.cell?] at e ⊢
   rw [hh b hlt]; exact e
 exact ⟨hle, h.quiet hle rfl rfl (fun _ _ => rfl) (fun b hb => h.frI b (Nat.le_trans hsz hb)) hh⟩
theorem Inv.belowed {κ : K} {σ : Store} (h : Inv κ σ) {w' : World} (hb : Below κ.w.heap.size κ.w w') : κ.Le { κ with w := w' } ∧ Inv { κ with w := w' } σ := by
 have hh : ∀ b, b < κ.w.heap.size → w'.heap[b]? = κ.w.heap[b]? := hb.block
 have hsz : κ.w.heap.size ≤ w'.heap.size := hb.size
 have hle : κ.Le { κ with w := w' } := by
  refine ⟨rfl, hb.mono h.base, fun b s e => ?_, fun _ _ e => e, fun _ _ e => e, fun _ => Nat.le_refl _, fun b off v _ e => ?_, Nat.le_refl 0⟩
  ·have hlt : b < κ.w.heap.size := by
    unfold World.shape? at e
    cases hq : κ.w.heap[b]? with
    |none => rw [hq] at e; cases e
    |some q => exact (Array.getElem?_eq_some_iff.1 hq).1
   unfold World.shape? at e ⊢
   dsimp only
   rw [hh b hlt]; exact e
  ·have hlt : b < κ.w.heap.size := by
    unfold World.cell? at e
    cases hq : κ.w.heap[b]? with
    |none => rw [hq] at e; cases e
    |some q => exact (Array.getElem?_eq_some_iff.1 hq).1
   simp only [World.cell?] at e ⊢
   rw [hh b hlt]; exact e
 exact ⟨hle, h.quiet hle rfl rfl (fun _ _ => rfl) (fun b hb' => h.frI b (Nat.le_trans hsz hb')) hh⟩
end Go.Ab
namespace Go.Proofs.YtkcmbjodladflaaGreatDoor
open Go.Ab Go.Shelf
theorem htab {κ : K} {σ : Store} (h : Inv κ σ) : Lib.TabIs Tryz.prog κ.w "internal/strconv.uint64pow10" .u64 Lib.pow10Tab := by
 obtain ⟨_, _, e, fr, hh, rfl⟩ := h.glob (3, _) (by unfold px_; first | exact .head _ | exact .tail _ (.tail _ (.head _)))
 have hg : Tryz.prog.globalNamed "internal/strconv.uint64pow10" = some 3 := by kernel_rfl
 unfold Lib.TabIs World.var?
 rw [hg]
 simp only [Option.bind_some, hh]
 rfl
theorem ly_ {n : Int} {σ : Store} (h0 : -9223372036854775808 ≤ n) (h1 : n ≤ 9223372036854775807) : ao_ Tryz.prog 132 [vInt n] σ fun v σ' => v = vStr (B (Lib.itoa n)) ∧ σ = σ' := by
 intro κ vs hI hn hv
 have e0 := (hv 0 (by simp)).litInv
 have hvs : vs = #[.int .i64 n] := by
  apply Array.ext (by simpa using hn)
  intro i i1 i2
  simp at i2
  subst i2
  have eg : vs.getD 0 undef = vs[0] := by simp [i1]
  rw [← eg, e0]; rfl
 rw [hvs]
 refine (Any.strconv_Itoa sU_ n h0 h1 κ.w (htab hI)).mono fun ex w' ⟨he, k, os, hw⟩ => ⟨_, he, ?_⟩
 obtain ⟨g1, g2⟩ := hI.grown k os
 rw [hw]
 exact ⟨{ κ with w := Sort.grow (κ.w.drewN k) os }, vStr (B (Lib.itoa n)), σ, rfl, g1, g2, .lit _, rfl, rfl⟩
abbrev qQ_ : AVal := .iface 231 .any
theorem hErr {κ : K} {σ : Store} (h : Inv κ σ) (g : Nat) (hg : g = 1 ∨ g = 2) : ∃ ev, κ.w.cell? ⟨g, 0, none⟩ = some ev ∧ (ev = .nilIface ∨ ∃ te pe, ev = .iface te pe) := by
 have key : ∀ g, (g, pA_) ∈ px_ → ∃ ev, κ.w.cell? ⟨g, 0, none⟩ = some ev ∧ (ev = .nilIface ∨ ∃ te pe, ev = .iface te pe) := fun g hm => by
  obtain ⟨_, _, e, fr, hh, te, pe, rfl⟩ := h.glob _ hm
  exact ⟨.iface te pe, by simp [World.cell?, hh], .inr ⟨te, pe, rfl⟩⟩
 rcases hg with rfl | rfl
 ·exact key 1 (.head _)
 ·exact key 2 (.tail _ (.head _))
theorem p0_ {vs : Array Value} {v : Value} (hn : vs.size = 1) (h : vs.getD 0 undef = v) : vs = #[v] := by
 apply Array.ext (by simpa using hn)
 intro i i1 i2
 simp at i2
 subst i2
 have eg : vs.getD 0 undef = vs[0] := by simp [i1]
 rw [← eg, h]; rfl
theorem hZ_ (κ : K) (n : Int) : Rv κ (.tup [vInt n, .lit .nilIface]) (.tuple #[.int .i64 n, .nilIface]) := .tup _ _ rfl fun i hi => by
 match i, hi with
 |0, _ => exact .lit _
 |1, _ => exact .lit _
theorem jJ_ (κ : K) (n : Int) (v : Value) : Rv κ (.tup [vInt n, qQ_]) (.tuple #[.int .i64 n, .iface 231 v]) := .tup _ _ rfl fun i hi => by
 match i, hi with
 |0, _ => exact .lit _
 |1, _ => exact .iface _ _ _ (.any _)
theorem qX_ {s : ByteArray} {σ : Store} (hs : s.size ≤ 281474976710656) : ao_ Tryz.prog 131 [vStr s] σ fun v σ' => (∃ n e, v = .tup [vInt n, e] ∧ ((e = .lit .nilIface ∧ Lib.atoiAll (Lb s) = .ok n) ∨ (e = qQ_ ∧ ∀ n, Lib.atoiAll (Lb s) ≠ .ok n))) ∧ σ = σ' := by
 intro κ vs hI hn hv
 have e0 := (hv 0 (by simp)).litInv
 rw [p0_ (by simpa using hn) e0]
 obtain ⟨ev0, c0, d0⟩ := hErr hI 1 (.inl rfl)
 obtain ⟨ev1, c1, d1⟩ := hErr hI 2 (.inr rfl)
 cases ha : Lib.atoiAll (Lb s) with
 |ok n =>
  refine (Any.strconv_Atoi_ok o9_ s (by omega) n ha κ.w).mono fun ex w' ⟨he, hw⟩ => ⟨_, he, ?_⟩
  rcases hw with rfl | ⟨t, rfl⟩
  ·exact ⟨κ, _, σ, rfl, .refl κ, hI, hZ_ _ _, ⟨n, _, rfl, .inl ⟨rfl, rfl⟩⟩, rfl⟩
  ·obtain ⟨h1, h2⟩ := hI.belowed (Lib.bytesWorld_below _ _ _)
   exact ⟨_, _, σ, rfl, h1, h2, hZ_ _ _, ⟨n, _, rfl, .inl ⟨rfl, rfl⟩⟩, rfl⟩
 |range =>
  refine (Any.strconv_Atoi_range o9_ s hs ha ev1 κ.w c1 d1).mono fun ex w' ⟨N, he, h1, h2, h3⟩ => ⟨_, he, ?_⟩
  obtain ⟨g1, g2⟩ := hI.belowed h3
  exact ⟨_, _, σ, rfl, g1, g2, jJ_ _ _ _, ⟨_, _, rfl, .inr ⟨rfl, fun n h => by cases h⟩⟩, rfl⟩
 |_ =>
  refine (Any.strconv_Atoi_syntax o9_ s hs ha ev0 κ.w c0 d0).mono fun ex w' ⟨N, he, h1, h2, h3⟩ => ⟨_, he, ?_⟩
  obtain ⟨g1, g2⟩ := hI.belowed h3
  exact ⟨_, _, σ, rfl, g1, g2, jJ_ _ _ _, ⟨0, _, rfl, .inr ⟨rfl, fun n h => by cases h⟩⟩, rfl⟩
theorem pq_ {n : Int} {σ : Store} (h0 : -9223372036854775808 ≤ n) (h1 : n ≤ 9223372036854775807) : ao_ Tryz.prog 88 [vInt n] σ fun v σ' => v = vStr (B (Lib.itoa n)) ∧ σ = σ' := by
 refine aj_ Tryz.func88 rfl Tryz.ntmps88 (congrArg Array.toList Tryz.results88) (by simp only [List.length_cons, List.length_nil]; decide) ?_; simp only [af_, ak_, Nat.reduceAdd]
 refine ab_ ?_
 refine aa_ kr_ ?_
 (refine aL_S rfl rfl v_ ?_)
 refine ac_ ?_
 refine ab_ ?_
 refine aa_ kr_ ?_
 (refine aL_S rfl rfl v_ ?_)
 refine aL_X rfl rfl (ae_ rfl rfl (.inr ⟨rfl, rfl, rfl⟩) g_ va_ (ly_ h0 h1) ?_); rintro _ _ ⟨rfl, rfl⟩
 (refine aL_S rfl rfl v_ ?_)
 refine ac_ ?_
 refine am_ ?_
 refine ai_ (σ' := σ) v_ sub_ ?_
 exact ⟨rfl, rfl⟩
end Go.Proofs.YtkcmbjodladflaaGreatDoor
end

section
set_option linter.all false
set_option maxRecDepth 100000
namespace Go.Proofs.YtkcmbjodladflaaGreatDoor
open Go.Ab
theorem lz_ : Lib.itoa 0 = [48] := by rw [show (0 : Int) = ((0 : Nat) : Int) from rfl, Lib.itoa_nonneg, cB_ (by decide)]; rfl
def sg (n : Int) (m : Nat) : Int := if n < 0 then -(m : Int) else m
theorem r2_ (n : Int) (m : Nat) : (sg n m).tmod 10 = sg n (m % 10) := by
 unfold sg
 split
 ·rw [Int.neg_tmod, Int.tmod_eq_emod_of_nonneg (by omega)]; omega
 ·rw [Int.tmod_eq_emod_of_nonneg (by omega)]; omega
theorem r1_ (n : Int) (m : Nat) : (sg n m).tdiv 10 = sg n (m / 10) := by
 unfold sg
 split
 ·rw [Int.neg_tdiv, Int.tdiv_eq_ediv_of_nonneg (by omega)]; omega
 ·rw [Int.tdiv_eq_ediv_of_nonneg (by omega)]; omega
theorem r0_ (n : Int) : sg n n.natAbs = n := by unfold sg; split <;> omega
theorem pr_ {d : Nat} (h : d < 10) : ByteArray.extract ⟨#[48, 49, 50, 51, 52, 53, 54, 55, 56, 57]⟩ d (d + 1) = B [UInt8.ofNat (48 + d)] := by
 match d, h with
 |0, _ => rfl
 |1, _ => rfl
 |2, _ => rfl
 |3, _ => rfl
 |4, _ => rfl
 |5, _ => rfl
 |6, _ => rfl
 |7, _ => rfl
 |8, _ => rfl
 |9, _ => rfl
theorem addB {a b : List UInt8} (h : a.length + b.length ≤ 1000000000) : astr .add (B a) (B b) = some (.string (B (a ++ b))) := by
 rw [eq_ _ _ (by rw [cK_, cK_]; exact h), df_]
theorem rR_ {n : Int} {σ : Store} (h0 : -9223372036854775808 ≤ n) (h1 : n ≤ 9223372036854775807) : ao_ Tryz.prog 102 [vInt n] σ fun v σ' => v = vStr (B (Lib.itoa n)) ∧ σ = σ' := by
 have hL := Lib.itoa_length_le n h0 h1
 have hD : (Lib.decDigits n.natAbs).length ≤ 21 := by
  unfold Lib.itoa at hL
  split at hL
  ·simp at hL; omega
  ·rw [show n.toNat = n.natAbs by omega] at hL; exact hL
 refine aj_ Tryz.func102 rfl Tryz.ntmps102 (congrArg Array.toList Tryz.results102) (by simp only [List.length_cons, List.length_nil]; decide) ?_; simp only [af_, ak_, Nat.reduceAdd]
 refine ab_ ?_
 refine aa_ kr_ ?_
 (refine aL_S rfl rfl v_ ?_)
 refine ac_ ?_
 refine ab_ ?_
 refine ab_ ?_
 refine aa_ kr_ ?_
 iterate 2 (refine aL_S rfl rfl v_ ?_)
 refine ac_ ?_
 refine ad_ v_ (fun hc1 => ?_) (fun hc1 => ?_)
 ·replace hc1 := nm_ hc1
  refine ab_ ?_
  refine aa_ kr_ ?_
  (refine aL_S rfl rfl v_ ?_)
  refine ac_ ?_
  refine am_ ?_
  refine ai_ (σ' := σ) v_ sub_ ?_
  refine ⟨?_, rfl⟩
  rw [hc1, show Lib.itoa 0 = [48] from lz_]
  rfl
 ·replace hc1 := nm_ hc1
  refine ah_ ?_
  refine ab_ ?_
  refine aa_ kr_ ?_
  (refine aL_S rfl rfl v_ ?_)
  refine ac_ ?_
  refine ab_ ?_
  refine ab_ ?_
  have habs := r0_ n
  refine aa_ kr_ ?_
  iterate 2 (refine aL_S rfl rfl v_ ?_)
  refine ac_ ?_
  refine al_ ?_
  refine ap_ (ι := Nat × List UInt8) (fun ⟨m, s⟩ => m) (fun ⟨m, s⟩ => m ≤ n.natAbs ∧ ((m = 0 ∧ Lib.decDigits n.natAbs = s) ∨ (0 < m ∧ Lib.decDigits n.natAbs = Lib.decDigits m ++ s))) (fun ⟨m, s⟩ => [(0, vInt n), (3, vStr (B s)), (4, vInt (sg n m))]) (fun ⟨m, s⟩ => σ) (n.natAbs, []) ?_ ?_ ?_ ?_
  ·exact ⟨Nat.le_refl _, .inr ⟨by omega, by simp⟩⟩
  ·have R := habs; exact cv_
  ·exact sub_
  rintro ⟨m, s⟩ ⟨hm, hs⟩
  simp only [ar_, au_]
  refine ab_ ?_
  refine ab_ ?_
  refine aa_ kr_ ?_
  iterate 2 (refine aL_S rfl rfl v_ ?_)
  refine ac_ ?_
  refine ad_ v_ (fun hc5 => ?_) (fun hc5 => ?_)
  ·replace hc5 := nm_ hc5
   refine ah_ ?_
   refine ab_ ?_
   refine al_ ?_
   refine ab_ ?_
   have hm0 : 0 < m := by
    rcases Nat.eq_zero_or_pos m with h | h
    ·subst h; exact absurd (by unfold sg; split <;> rfl) hc5
    ·exact h
   have hstep : m / 10 ≤ n.natAbs ∧ ((m / 10 = 0 ∧ Lib.decDigits n.natAbs = UInt8.ofNat (48 + m % 10) :: s) ∨ (0 < m / 10 ∧ Lib.decDigits n.natAbs = Lib.decDigits (m / 10) ++ UInt8.ofNat (48 + m % 10) :: s)) := by
    refine ⟨by omega, ?_⟩
    rcases hs with ⟨h, _⟩ | ⟨_, h⟩
    ·omega
    ·by_cases hlt : m < 10
     ·left
      refine ⟨by omega, ?_⟩
      rw [h, cB_ hlt, Nat.mod_eq_of_lt hlt]; rfl
     ·right
      refine ⟨by omega, ?_⟩
      rw [h, dP_ hlt]; simp
   have hmod := r2_ n m
   have hdiv := r1_ n m
   have hsl : s.length ≤ 21 := by
    rcases hs with ⟨h, _⟩ | ⟨_, h⟩
    ·omega
    ·rw [h, List.length_append] at hD; omega
   have hdl : m % 10 < 10 := Nat.mod_lt _ (by decide)
   have hcut := pr_ hdl
   have hadd := addB (a := [UInt8.ofNat (48 + m % 10)]) (b := s) (by simp; omega)
   have hk1 : (((m % 10 : Nat) : Int) + 1).toNat = m % 10 + 1 := by omega
   have hb1 : -9223372036854775808 ≤ sg n (m / 10) ∧ sg n (m / 10) ≤ 9223372036854775807 := by unfold sg; split <;> omega
   have hb2 : -10 < sg n (m % 10) ∧ sg n (m % 10) < 10 := by unfold sg; split <;> omega
   simp only [List.cons_append, List.nil_append] at hadd
   have hd1 : m % 10 ≤ m % 10 + 1 := by omega
   have hd2 : m % 10 + 1 ≤ 10 := by omega
   have R := hmod
   refine aa_ kr_ ?_
   iterate 3 (refine aL_S rfl rfl v_ ?_)
   refine ac_ ?_
   refine ab_ ?_
   refine ab_ ?_
   refine aa_ kr_ ?_
   iterate 2 (refine aL_S rfl rfl v_ ?_)
   refine ac_ ?_
   refine ad_ v_ (fun hc8 => ?_) (fun hc8 => ?_)
   ·replace hc8 := nm_ hc8
    have hneg : 0 - sg n (m % 10) = ((m % 10 : Nat) : Int) := by unfold sg at *; split <;> omega
    have R := hneg
    refine aa_ kr_ ?_
    iterate 3 (refine aL_S rfl rfl v_ ?_)
    refine ac_ ?_
    have R := And.intro hk1 (And.intro hd1 (And.intro hd2 (And.intro hcut hadd)))
    refine aa_ kr_ ?_
    iterate 7 (refine aL_S rfl rfl v_ ?_)
    refine ac_ ?_
    have R := hdiv
    refine aa_ kr_ ?_
    iterate 3 (refine aL_S rfl rfl v_ ?_)
    refine ac_ ?_
    refine aJ_ (ι := Nat × List UInt8) (i := ⟨m, s⟩) (m / 10, UInt8.ofNat (48 + m % 10) :: s) ?_ ?_ ?_ ?_
    ·show m / 10 < m; omega
    ·exact hstep
    ·exact cv_
    ·exact sub_
   ·replace hc8 := nm_ hc8
    have hpos : sg n (m % 10) = ((m % 10 : Nat) : Int) := by unfold sg at *; split <;> omega
    rw [hpos]
    refine ah_ ?_
    have R := And.intro hk1 (And.intro hd1 (And.intro hd2 (And.intro hcut hadd)))
    refine aa_ kr_ ?_
    iterate 7 (refine aL_S rfl rfl v_ ?_)
    refine ac_ ?_
    have R := hdiv
    refine aa_ kr_ ?_
    iterate 3 (refine aL_S rfl rfl v_ ?_)
    refine ac_ ?_
    refine aJ_ (ι := Nat × List UInt8) (i := ⟨m, s⟩) (m / 10, UInt8.ofNat (48 + m % 10) :: s) ?_ ?_ ?_ ?_
    ·show m / 10 < m; omega
    ·exact hstep
    ·exact cv_
    ·exact sub_
  ·replace hc5 := nm_ hc5
   have hm0 : m = 0 := by unfold sg at hc5; split at hc5 <;> omega
   obtain ⟨_, hs1⟩ : m = 0 ∧ Lib.decDigits n.natAbs = s := by
    rcases hs with h | h
    ·exact h
    ·omega
   have hadd := addB (a := [45]) (b := s) (by rw [← hs1]; simp; omega)
   have hadd' : astr .add ⟨#[45]⟩ (B s) = some (.string (B (45 :: s))) := hadd
   refine ax_ ?_
   refine ag_ ?_
   refine ag_ ?_
   refine aq_ ?_
   refine ab_ ?_
   refine ab_ ?_
   refine aa_ kr_ ?_
   iterate 2 (refine aL_S rfl rfl v_ ?_)
   refine ac_ ?_
   refine ad_ v_ (fun hc11 => ?_) (fun hc11 => ?_)
   ·replace hc11 := nm_ hc11
    have R := hadd'
    refine aa_ kr_ ?_
    iterate 3 (refine aL_S rfl rfl v_ ?_)
    refine ac_ ?_
    refine ab_ ?_
    refine aa_ kr_ ?_
    iterate 2 (refine aL_S rfl rfl v_ ?_)
    refine ac_ ?_
    refine am_ ?_
    refine ai_ (σ' := σ) v_ sub_ ?_
    exact ⟨by rw [Lib.itoa, if_pos hc11, hs1], rfl⟩
   ·replace hc11 := nm_ hc11
    refine ah_ ?_
    refine ab_ ?_
    refine aa_ kr_ ?_
    iterate 2 (refine aL_S rfl rfl v_ ?_)
    refine ac_ ?_
    refine am_ ?_
    refine ai_ (σ' := σ) v_ sub_ ?_
    exact ⟨by rw [Lib.itoa, if_neg (by omega), show n.toNat = n.natAbs by omega, hs1], rfl⟩
theorem pY_ {s : ByteArray} {σ : Store} (hs : s.size ≤ 1000000) : ao_ Tryz.prog 74 [vStr s] σ fun v σ' => v = .tup [vInt ((numS s).getD 0), vB (numS s).isSome] ∧ σ = σ' := by
 refine aj_ Tryz.func74 rfl Tryz.ntmps74 (congrArg Array.toList Tryz.results74) (by simp only [List.length_cons, List.length_nil]; decide) ?_; simp only [af_, ak_, Nat.reduceAdd]
 refine ab_ ?_
 refine aa_ kr_ ?_
 iterate 2 (refine aL_S rfl rfl v_ ?_)
 refine ac_ ?_
 refine ab_ ?_
 refine aa_ kr_ ?_
 (refine aL_S rfl rfl v_ ?_)
 refine aL_X rfl rfl (ae_ rfl rfl (.inr ⟨rfl, rfl, rfl⟩) g_ va_ (qX_ (by omega)) ?_); rintro _ _ ⟨⟨n, e, rfl, hne⟩, rfl⟩
 iterate 5 (refine aL_S rfl rfl v_ ?_)
 refine ac_ ?_
 refine ab_ ?_
 refine ab_ ?_
 rcases hne with ⟨rfl, ha⟩ | ⟨rfl, ha⟩
 ·refine aa_ kr_ ?_
  iterate 3 (refine aL_S rfl rfl v_ ?_)
  first | (refine bA_ wn_ rfl ?_) | (refine cZ_ (as_ rfl rfl v_ (by rfl)) rfl v_ ?_)
  first | (refine bA_ wn_ rfl ?_) | (refine ch_ (as_ rfl rfl v_ (by rfl)) rfl (ae_ rfl rfl (.inr ⟨rfl, rfl, rfl⟩) g_ va_ (ly_ (Lib.atoiAll_bounds ha).1 (Lib.atoiAll_bounds ha).2) ?_); rintro _ _ ⟨rfl, rfl⟩)
  first | (refine bA_ wn_ rfl ?_) | (refine cZ_ (as_ rfl rfl v_ (by rfl)) rfl v_ ?_)
  first | (refine bA_ wn_ rfl ?_) | (refine cZ_ (as_ rfl rfl v_ (by rfl)) rfl v_ ?_)
  (refine aL_S rfl rfl v_ ?_)
  refine ac_ ?_
  refine ad_ v_ (fun hc2 => ?_) (fun hc2 => ?_)
  ·replace hc2 := nm_ hc2
   refine ab_ ?_
   refine aa_ kr_ ?_
   iterate 2 (refine aL_S rfl rfl v_ ?_)
   refine ac_ ?_
   refine am_ ?_
   refine ai_ (σ' := σ) v_ sub_ ?_
   exact ⟨by rw [show numS s = none from by simp only [numS, ha]; rw [if_neg (by simpa using hc2)]]; rfl, rfl⟩
  ·replace hc2 := nm_ hc2
   first
    |(simp at hc2; done)
    |skip
     refine ah_ ?_
     refine ab_ ?_
     refine aa_ kr_ ?_
     iterate 3 (refine aL_S rfl rfl v_ ?_)
     refine ac_ ?_
     refine am_ ?_
     refine ai_ (σ' := σ) v_ sub_ ?_
     exact ⟨by rw [show numS s = some n from by simp only [numS, ha]; rw [if_pos (by simpa using hc2)]]; rfl, rfl⟩
 ·refine aa_ kr_ ?_
  iterate 3 (refine aL_S rfl rfl v_ ?_)
  first | (refine bA_ wn_ rfl ?_) | (refine cZ_ (as_ rfl rfl v_ (by rfl)) rfl v_ ?_)
  first | (refine bA_ wn_ rfl ?_) | (refine ch_ (as_ rfl rfl v_ (by rfl)) rfl (ae_ rfl rfl (.inr ⟨rfl, rfl, rfl⟩) g_ va_ (ly_ (Lib.atoiAll_bounds ha).1 (Lib.atoiAll_bounds ha).2) ?_); rintro _ _ ⟨rfl, rfl⟩)
  first | (refine bA_ wn_ rfl ?_) | (refine cZ_ (as_ rfl rfl v_ (by rfl)) rfl v_ ?_)
  first | (refine bA_ wn_ rfl ?_) | (refine cZ_ (as_ rfl rfl v_ (by rfl)) rfl v_ ?_)
  (refine aL_S rfl rfl v_ ?_)
  refine ac_ ?_
  refine ad_ v_ (fun hc2 => ?_) (fun hc2 => ?_)
  ·replace hc2 := nm_ hc2
   refine ab_ ?_
   refine aa_ kr_ ?_
   iterate 2 (refine aL_S rfl rfl v_ ?_)
   refine ac_ ?_
   refine am_ ?_
   refine ai_ (σ' := σ) v_ sub_ ?_
   exact ⟨by rw [show numS s = none from by unfold numS; split; rename_i u hu; exact absurd hu (ha u); rfl]; rfl, rfl⟩
  ·replace hc2 := nm_ hc2
   first
    |(simp at hc2; done)
    |skip
     refine ah_ ?_
     refine ab_ ?_
     refine aa_ kr_ ?_
     iterate 3 (refine aL_S rfl rfl v_ ?_)
     refine ac_ ?_
     refine am_ ?_
     refine ai_ (σ' := σ) v_ sub_ ?_
     exact absurd hc2 (by simp)
end Go.Proofs.YtkcmbjodladflaaGreatDoor
end

section
set_option linter.all false
set_option maxRecDepth 100000
namespace Go.Proofs.YtkcmbjodladflaaGreatDoor
open Go.Ab
theorem nc_ {o : Nat} {b : AVal} {σ : Store} (ho : σ.heap o = some (.cells [.nilp o 209 2, b])) : ao_ Tryz.prog 223 [.ref o 0] σ fun v σ' => v = .tup [] ∧ σ' = σ.set o (.cells [.ref o 0, b]) := by
 refine aj_ Tryz.func223 rfl Tryz.ntmps223 (congrArg Array.toList Tryz.results223) (by simp only [List.length_cons, List.length_nil]; decide) ?_; simp only [af_, ak_, Nat.reduceAdd]
 refine ab_ ?_
 have R := ho
 refine aa_ kr_ ?_
 iterate 5 (refine aL_S rfl rfl v_ ?_)
 refine ac_ ?_
 refine ad_ v_ (fun hc0 => ?_) (fun hc0 => ?_)
 ·replace hc0 := nm_ hc0
  have R := ho
  refine aa_ kr_ ?_
  iterate 2 (refine aL_S rfl rfl v_ ?_)
  refine aL_X rfl rfl (e1_ (t := 209) rfl Tryz.underlying206 Tryz.underlying257 kr_ g_ ho (by decide) ?_)
  refine aL_X rfl rfl (dN_ rfl (e := Extern.AbiNoEscape.same) kr_ g_ (fun κ ev _ h => mh_ (h _ (by simp))) ?_)
  refine aL_X rfl rfl (d2_ (u := 209) rfl Tryz.underlying257 Tryz.underlying206 kr_ g_ ho kr_ ?_)
  iterate 2 (refine aL_S rfl rfl v_ ?_)
  refine av_ rfl rfl rfl v_ v_ h_ g_ rfl g_ c_ (by rfl) le_ v_ ?_
  refine ac_ ?_
  refine aP_ v_ (Store.Wk.refl _) ?_
  exact ⟨rfl, rfl⟩
 ·replace hc0 := nm_ hc0
  cases hc0
theorem pc_ {o n : Nat} {σ : Store} (ho : σ.heap o = some (.cells [.ref o 0, .lit (.slice none 0 0)])) (hn : n ≤ 1000000000000) : ao_ Tryz.prog 224 [.ref o 0, vInt n] σ fun v σ' => ∃ k, v = .tup [] ∧ σ.tok k = none ∧ σ' = (σ.newTok none k (5, 1)).set o (.cells [.ref o 0, .own k 1 []]) := by
 have hz1 : (2 : Int) * 0 = 0 := rfl
 have hz2 : ∀ m : Int, 0 + m = m := Int.zero_add
 refine aj_ Tryz.func224 rfl Tryz.ntmps224 (congrArg Array.toList Tryz.results224) (by simp only [List.length_cons, List.length_nil]; decide) ?_; simp only [af_, ak_, Nat.reduceAdd]
 refine ab_ ?_
 have R := And.intro ho (And.intro hz1 hz2)
 refine aG_ (.op 0 0 (.op 1 0 (.op 2 0 (.op 3 0 (.op 6 0 (.op 9 0 (.op 10 0 (.op 11 0 (.op 12 0 (.op 13 0 (.op 4 1 (.op 5 0 (.op 7 0 (.op 8 1 (.op 14 2 (.op 15 2 .nil)))))))))))))))) Tryz.mixed kr_ ?_
 iterate 10 (refine dR_S o_ (by rfl) (by rfl) v_ ?_)
 refine dR_X o_ (by rfl) (by rfl) (f9_ (by rfl) g_ va_ ⟨sub_, ?_⟩)
 iterate 2 (refine dR_S o_ (by rfl) (by rfl) v_ ?_)
 refine dR_X o_ (by rfl) (by rfl) (f1_ (n := n) (ps := #[3]) (t := 207) (e := 5) (by rfl) kr_ Tryz.underlying207 g_ va_ (by omega) fun o13 c13 ho13 hc13 hm13 => ⟨sub_, ?_⟩)
 refine dR_T o_ (by rfl) (by rfl) (j1_ (l := 0) (h := 0) (by rfl) g_ g_ va_ (by rfl) (by rfl) (Nat.le_refl _) (Nat.zero_le _) (.inl rfl) ?_)
 refine dR_T o_ (by rfl) (by rfl) (eb_ v_ ?_)
 refine aL_ ?_
 have n13 := aT_ ho ho13
 refine ab_ ?_
 have R := And.intro ho (And.intro hz1 hz2)
 refine aa_ kr_ ?_
 iterate 5 (refine aL_S rfl rfl v_ ?_)
 refine aL_X rfl rfl (kH_ (by rfl) g_ g_ (.inr va_) va_ ?_)
 refine ac_ ?_
 have R := And.intro ho (And.intro hz1 hz2)
 refine aa_ kr_ ?_
 (refine aL_S rfl rfl v_ ?_)
 refine aL_X rfl rfl (mU_ (.inr rfl) va_ h_ hm13 fun k27 hk27 => ?_)
 iterate 2 (refine aL_S rfl rfl v_ ?_)
 refine av_ rfl rfl rfl v_ v_ h_ g_ rfl g_ c_ (by rfl) le_ v_ ?_
 refine ac_ ?_
 refine aP_ v_ (Store.Wk.refl _) ?_
 exact ⟨k27, rfl, hk27, by rw [Store.set_del ho13]⟩
theorem kZ_ {o k : Nat} {s : ByteArray} {σ : Store} {a : AVal} (ho : σ.heap o = some (.cells [a, .own k 1 (a7_ s)])) (hk : σ.tok k = some (5, 1)) (hs : s.size ≤ 1099511627776) : ao_ Tryz.prog 194 [.ref o 0] σ fun v σ' => v = vStr s ∧ WF o σ σ' := by
 refine (oh_ ho hk hs).mono fun v σ' ⟨hv, hs'⟩ => ⟨hv, ?_⟩
 rw [hs']
 refine ⟨fun i x hi hx => hx, fun t n ht hn => ?_⟩
 have hne : t ≠ k := fun hh => hn ⟨_, _, _, by rw [ho, hh]⟩
 exact ⟨by simp only [Store.delTok]; rw [if_neg hne]; exact ht, fun ⟨a', sz2, l2, hh⟩ => hn ⟨a', sz2, l2, hh⟩⟩
theorem i5_ {L : List ByteArray} {k : Nat} {x : ByteArray} (h : L[k]? = some x) : (L.take (k + 1)).flatMap Lb = (L.take k).flatMap Lb ++ Lb x := hH_ h
end Go.Proofs.YtkcmbjodladflaaGreatDoor
end

section
set_option linter.all false
set_option maxRecDepth 100000
namespace Go.Proofs.YtkcmbjodladflaaGreatDoor
open Go.Ab
def WAb (o : Nat) (a : AVal) : Prop := a = .ref o 0 ∨ a = .nilp o 209 2
def WRb (σ : Store) (o : Nat) (l : List UInt8) : Prop := ∃ a b old, σ.heap o = some (.cells [a, b]) ∧ WAb o a ∧ bq_ σ 5 1 (a7_ (B l)) b old
theorem ik_ {o : Nat} {b : AVal} {σ : Store} (ho : σ.heap o = some (.cells [.nilp o 209 2, b])) : ao_ Tryz.prog 223 [.ref o 0] σ fun v σ' => v = .tup [] ∧ σ' = σ.set o (.cells [.ref o 0, b]) := by
 refine aj_ Tryz.func223 rfl Tryz.ntmps223 (congrArg Array.toList Tryz.results223) (by simp only [List.length_cons, List.length_nil]; decide) ?_; simp only [af_, ak_, Nat.reduceAdd]
 refine ab_ ?_
 have R := ho
 refine aa_ kr_ ?_
 iterate 5 (refine aL_S rfl rfl v_ ?_)
 refine ac_ ?_
 refine ad_ v_ (fun hc0 => ?_) (fun hc0 => ?_)
 ·replace hc0 := nm_ hc0
  have R := ho
  refine aa_ kr_ ?_
  iterate 2 (refine aL_S rfl rfl v_ ?_)
  refine aL_X rfl rfl (e1_ (t := 209) rfl Tryz.underlying206 Tryz.underlying257 kr_ g_ ho (by decide) ?_)
  refine aL_X rfl rfl (dN_ rfl (e := Extern.AbiNoEscape.same) kr_ g_ (fun κ ev _ h => mh_ (h _ (by simp))) ?_)
  refine aL_X rfl rfl (d2_ (u := 209) rfl Tryz.underlying257 Tryz.underlying206 kr_ g_ ho kr_ ?_)
  iterate 2 (refine aL_S rfl rfl v_ ?_)
  refine av_ rfl rfl rfl v_ v_ h_ g_ rfl g_ c_ (by rfl) le_ v_ ?_
  refine ac_ ?_
  refine aP_ v_ (Store.Wk.refl _) ?_
  exact ⟨rfl, rfl⟩
 ·replace hc0 := nm_ hc0
  cases hc0
theorem j8_ {o : Nat} {a b : AVal} {σ : Store} (ho : σ.heap o = some (.cells [a, b])) (ha : WAb o a) : ao_ Tryz.prog 223 [.ref o 0] σ fun v σ' => v = .tup [] ∧ σ' = σ.set o (.cells [.ref o 0, b]) := by
 rcases ha with rfl | rfl
 ·exact il_ ho
 ·exact ik_ ho
theorem mM_ {o : Nat} {a b : AVal} {σ : Store} {s : ByteArray} {l : List UInt8} {old : Option Nat} (ho : σ.heap o = some (.cells [a, b])) (ha : WAb o a) (hb : bq_ σ 5 1 (a7_ (B l)) b old) (hl : l.length ≤ 1099511627776) (hs : s.size ≤ 1099511627776) :
  ao_ Tryz.prog 193 [.ref o 0, vStr s] σ fun v σ' => ∃ k, v = .tup [vInt s.size, .lit .nilIface] ∧ σ.tok k = none ∧ σ' = (σ.newTok old k (5, 1)).set o (.cells [.ref o 0, .own k 1 (a7_ (B (l ++ Lb s)))]) := by
 have e1 : a7_ (B l) ++ a7_ s = a7_ (B (l ++ Lb s)) := by rw [eu_, ← df_, B_Lb]
 have hbl : (a7_ (B l)).length = l.length := by rw [a9_, cK_]
 have hsl := a9_ s
 refine aj_ Tryz.func193 rfl Tryz.ntmps193 (congrArg Array.toList Tryz.results193) (by simp only [List.length_cons, List.length_nil]; decide) ?_; simp only [af_, ak_, Nat.reduceAdd]
 refine ab_ ?_
 refine aa_ kr_ ?_
 iterate 2 (refine aL_S rfl rfl v_ ?_)
 refine ac_ ?_
 refine ab_ ?_
 refine aa_ kr_ ?_
 (refine aL_S rfl rfl v_ ?_)
 refine aL_X rfl rfl (ae_ rfl rfl (.inr ⟨rfl, rfl, rfl⟩) g_ va_ (j8_ ho ha) ?_); rintro _ _ ⟨rfl, rfl⟩
 refine ac_ ?_
 refine ab_ ?_
 refine aa_ kr_ ?_
 iterate 6 (refine aL_S rfl rfl v_ ?_)
 refine aL_X rfl rfl (cz_ rfl g_ g_ (bq_.of hb va_) (mW_ g_) (by simp; omega) fun k14 hk14 => ?_); rw [e1]
 iterate 2 (refine aL_S rfl rfl v_ ?_)
 refine av_ rfl rfl rfl v_ v_ h_ g_ rfl g_ c_ (by rfl) le_ v_ ?_
 refine ac_ ?_
 refine ab_ ?_
 refine aa_ kr_ ?_
 iterate 4 (refine aL_S rfl rfl v_ ?_)
 refine ac_ ?_
 refine am_ ?_
 refine ai_ v_ (Store.Wk.refl _) ?_
 exact ⟨k14, rfl, hk14, by rw [Store.newTok_set, Store.set_set]⟩
theorem wSB {o : Nat} {s : ByteArray} {l : List UInt8} {σ : Store} (ho : WRb σ o l) (hl : l.length ≤ 1099511627776) (hs : s.size ≤ 1099511627776) :
  ao_ Tryz.prog 193 [.ref o 0, vStr s] σ fun v σ' => v = .tup [vInt s.size, .lit .nilIface] ∧ WRb σ' o (l ++ Lb s) ∧ WF o σ σ' := by
 obtain ⟨a, b, old, h1, h2, h3⟩ := ho
 refine (mM_ h1 h2 h3 hl hs).mono fun v σ' ⟨k, hv, hk, hs'⟩ => ⟨hv, ?_, ?_⟩
 ·rw [hs']
  exact ⟨_, _, some k, Store.set_get .., .inl rfl, .inl ⟨k, rfl, by rw [Store.set_tok]; exact Store.newTok_get .., rfl⟩⟩
 ·rw [hs']
  exact WF.put h1 h3 hk
theorem q3_ {o n : Nat} {σ : Store} (ho : σ.heap o = some (.cells [.nilp o 209 2, .lit (.slice none 0 0)])) (hn : n ≤ 1000000000000) : ao_ Tryz.prog 192 [.ref o 0, vInt n] σ fun v σ' => v = .tup [] ∧ WRb σ' o [] ∧ WF o σ σ' := by
 have hw0 : WF o σ (σ.set o (.cells [.ref o 0, .lit (.slice none 0 0)])) := ⟨fun i x hi hx => by rw [Store.set_ne _ _ hi]; exact hx, fun t m ht hn => ⟨ht, fun ⟨a', sz2, l2, hh⟩ => by rw [Store.set_get] at hh; simp at hh⟩⟩
 refine aj_ Tryz.func192 rfl Tryz.ntmps192 (congrArg Array.toList Tryz.results192) (by simp only [List.length_cons, List.length_nil]; decide) ?_; simp only [af_, ak_, Nat.reduceAdd]
 refine ab_ ?_
 refine aa_ kr_ ?_
 (refine aL_S rfl rfl v_ ?_)
 refine aL_X rfl rfl (ae_ rfl rfl (.inr ⟨rfl, rfl, rfl⟩) g_ va_ (nc_ ho) ?_); rintro _ _ ⟨rfl, rfl⟩
 refine ac_ ?_
 refine ab_ ?_
 refine ab_ ?_
 refine aa_ kr_ ?_
 iterate 2 (refine aL_S rfl rfl v_ ?_)
 refine ac_ ?_
 refine ad_ v_ (fun hc1 => ?_) (fun hc1 => ?_)
 ·replace hc1 := nm_ hc1
  omega
 ·replace hc1 := nm_ hc1
  refine ah_ ?_
  refine ab_ ?_
  refine aG_ (.op 0 0 (.op 1 0 (.op 2 0 (.op 3 0 (.op 5 0 (.op 6 0 (.op 7 0 (.op 8 0 (.op 9 0 (.op 11 0 (.op 4 1 (.op 10 0 (.op 12 0 .nil))))))))))))) Tryz.mixed kr_ ?_
  iterate 10 (refine dR_S o_ (by rfl) (by rfl) v_ ?_)
  refine dR_X o_ (by rfl) (by rfl) (f9_ (by rfl) g_ va_ ⟨sub_, ?_⟩)
  iterate 2 (refine dR_S o_ (by rfl) (by rfl) v_ ?_)
  refine aL_ ?_
  refine ad_ v_ (fun hc3 => ?_) (fun hc3 => ?_)
  ·replace hc3 := nm_ hc3
   refine aa_ kr_ ?_
   iterate 2 (refine aL_S rfl rfl v_ ?_)
   refine aL_X rfl rfl (ae_ rfl rfl (.inr ⟨rfl, rfl, rfl⟩) g_ va_ (pc_ (Store.set_get ..) hn) ?_); rintro _ _ ⟨k, rfl, hk, rfl⟩
   refine ac_ ?_
   refine aP_ v_ (Store.Wk.refl _) ?_
   refine ⟨rfl, ⟨_, _, some k, Store.set_get .., .inl rfl, .inl ⟨k, rfl, by rw [Store.set_tok]; exact Store.newTok_get .., rfl⟩⟩, hw0.trans (WF.put (e := 5) (sz := 1) (Store.set_get ..) (.inr ⟨rfl, rfl, rfl⟩) hk)⟩
  ·replace hc3 := nm_ hc3
   refine ah_ ?_
   refine aP_ v_ (Store.Wk.refl _) ?_
   exact ⟨rfl, ⟨_, _, none, Store.set_get .., .inl rfl, .inr ⟨rfl, rfl, rfl⟩⟩, hw0⟩
theorem nd_ {o : Nat} {l : List UInt8} {σ : Store} (ho : WRb σ o l) (hl : l.length ≤ 1000000000000) : ao_ Tryz.prog 194 [.ref o 0] σ fun v σ' => v = vStr (B l) ∧ WF o σ σ' := by
 obtain ⟨a, b, old, hw, ha, hb⟩ := ho
 rcases hb with ⟨k, rfl, hk, _⟩ | ⟨rfl, hl0, _⟩
 ·exact kZ_ hw hk (by rw [cK_]; omega)
 ·have : l = [] := by
   have := congrArg List.length hl0
   rw [a9_, cK_] at this
   exact List.eq_nil_of_length_eq_zero this
  subst this
  exact (oi_ hw).mono fun v σ' ⟨hv, hs'⟩ => ⟨hv, by rw [← hs']; exact WF.refl⟩
theorem hG_ {L : List ByteArray} {k : Nat} {x : ByteArray} (h : L[k]? = some x) : (L.take (k + 1)).flatMap (fun s => 47 :: Lb s) = (L.take k).flatMap (fun s => 47 :: Lb s) ++ 47 :: Lb x := by
 rw [aX_ h]; simp
theorem lk_ (L : List ByteArray) (k : Nat) : ((L.take k).flatMap fun s => 47 :: Lb s).length ≤ (L.flatMap fun s => 47 :: Lb s).length := by
 conv => rhs; rw [← List.take_append_drop k L]
 rw [List.flatMap_append, List.length_append]; omega
theorem rk_ (L : List ByteArray) : (L.flatMap fun s => 47 :: Lb s).length = L.length + (L.flatMap Lb).length := by
 induction L with
 |nil => rfl
 |cons a L ih => rw [List.flatMap_cons, List.flatMap_cons, List.length_append, List.length_append, List.length_cons, List.length_cons, ih]; omega
set_option maxHeartbeats 2000000 in
theorem pD_ {L : List ByteArray} {t : Bool} {σ : Store} (hL : L.length ≤ 1000000) (hT : (L.flatMap Lb).length ≤ 1000000) : ao_ Tryz.prog 144 [.sl 1 (L.map vStr) t, vStr ⟨#[47]⟩] σ fun v σ' => v = vStr (cJ_ L) ∧ σ = σ' := by
 have hz : (ByteArray.mk #[47]).size = 1 := rfl
 have hz0 : (ByteArray.mk #[]).size = 0 := rfl
 refine aj_ Tryz.func144 rfl Tryz.ntmps144 (congrArg Array.toList Tryz.results144) (by simp only [List.length_cons, List.length_nil]; decide) ?_; simp only [af_, ak_, Nat.reduceAdd]
 refine ab_ ?_
 refine aa_ kr_ ?_
 (refine aL_S rfl rfl v_ ?_)
 refine ac_ ?_
 refine ab_ ?_
 refine ab_ ?_
 refine aa_ kr_ ?_
 iterate 2 (refine aL_S rfl rfl v_ ?_)
 refine ac_ ?_
 refine al_ ?_
 refine ab_ ?_
 refine aa_ kr_ ?_
 iterate 2 (refine aL_S rfl rfl v_ ?_)
 refine ac_ ?_
 refine ad_ v_ (fun hc2 => ?_) (fun hc2 => ?_)
 ·replace hc2 := nm_ hc2
  refine ab_ ?_
  refine aa_ kr_ ?_
  (refine aL_S rfl rfl v_ ?_)
  refine ac_ ?_
  refine am_ ?_
  refine ai_ (σ' := σ) v_ sub_ ?_
  obtain rfl : L = [] := List.eq_nil_of_length_eq_zero (by omega)
  exact ⟨rfl, rfl⟩
 ·replace hc2 := nm_ hc2
  refine ab_ ?_
  refine aa_ kr_ ?_
  iterate 2 (refine aL_S rfl rfl v_ ?_)
  refine ac_ ?_
  refine ad_ v_ (fun hc4 => ?_) (fun hc4 => ?_)
  ·replace hc4 := nm_ hc4
   refine ab_ ?_
   obtain ⟨x, rfl⟩ : ∃ x, L = [x] := List.length_eq_one_iff.1 (by omega)
   refine aa_ kr_ ?_
   iterate 4 (refine aL_S rfl rfl v_ ?_)
   refine ac_ ?_
   refine am_ ?_
   refine ai_ (σ' := σ) v_ sub_ ?_
   exact ⟨by rw [cJ_, fM_, List.flatMap_nil, List.append_nil, B_Lb], rfl⟩
  ·replace hc4 := nm_ hc4
   refine ah_ ?_
   refine ab_ ?_
   refine aa_ kr_ ?_
   (refine aL_S rfl rfl v_ ?_)
   refine ac_ ?_
   refine ab_ ?_
   refine ab_ ?_
   have R := hz
   refine aa_ kr_ ?_
   iterate 3 (refine aL_S rfl rfl v_ ?_)
   refine ac_ ?_
   refine ad_ v_ (fun hc7 => ?_) (fun hc7 => ?_)
   ·replace hc7 := nm_ hc7
    refine ab_ ?_
    refine ab_ ?_
    skip
    obtain ⟨q, hq, hq1⟩ : ∃ q : Int, IntKind.i64.wrap (Int.tdiv 9223372036854775807 ((L.length : Int) - 1)) = q ∧ 1 < q := by
     refine ⟨_, rfl, ?_⟩
     have h1 : 2 ≤ 9223372036854775807 / ((L.length : Int) - 1) := Int.le_ediv_of_mul_le (by omega) (by omega)
     have h2 : 9223372036854775807 / ((L.length : Int) - 1) ≤ 9223372036854775807 := Int.ediv_le_self _ (by decide)
     rw [Int.tdiv_eq_ediv_of_nonneg (by decide), Go.Ab.wrap_i64 _ (by omega) h2]; omega
    have R := And.intro hz (And.intro @gG_ hq)
    refine aa_ kr_ ?_
    iterate 7 (refine aL_S rfl rfl v_ ?_)
    refine ac_ ?_
    refine ad_ v_ (fun hc8 => ?_) (fun hc8 => ?_)
    ·replace hc8 := nm_ hc8
     omega
    ·replace hc8 := nm_ hc8
     refine ah_ ?_
     have R := hz
     refine aa_ kr_ ?_
     iterate 9 (refine aL_S rfl rfl v_ ?_)
     refine ac_ ?_
     refine ab_ ?_
     refine ab_ ?_
     refine aa_ kr_ ?_
     iterate 3 (refine aL_S rfl rfl v_ ?_)
     refine ac_ ?_
     refine al_ ?_
     refine ap_ (ι := Int × Nat) (fun ⟨n, k⟩ => L.length - k) (fun ⟨n, k⟩ => k ≤ L.length ∧ n = (L.length : Int) - 1 + ((L.take k).flatMap Lb).length) (fun ⟨n, k⟩ => [(0, .sl 1 (L.map vStr) t), (1, vStr ⟨#[47]⟩), (5, vInt n), (39, .sl 1 (L.map vStr) t), (40, vInt L.length), (41, vInt k)]) (fun ⟨n, k⟩ => σ) (0 + ((1 : Nat) : Int) * ((L.length : Int) - 1), 0) ?_ ?_ ?_ ?_
     ·exact ⟨Nat.zero_le _, by simp⟩
     ·exact cv_
     ·exact sub_
     rintro ⟨n, k⟩ ⟨hk, hn⟩
     simp only [ar_, au_]
     refine ab_ ?_
     refine aa_ kr_ ?_
     (refine aL_S rfl rfl v_ ?_)
     refine ac_ ?_
     refine ab_ ?_
     refine ad_ v_ (fun hc12 => ?_) (fun hc12 => ?_)
     ·replace hc12 := nm_ hc12
      refine ah_ ?_
      refine ab_ ?_
      refine al_ ?_
      refine ab_ ?_
      obtain ⟨x, hx⟩ := aA_ (l := L) (k := k) (by omega)
      have hle := dF_ (f := Lb) L k
      have hle1 := dF_ (f := Lb) L (k + 1)
      have hcv : n + x.size = (L.length : Int) - 1 + ((L.take (k + 1)).flatMap Lb).length := by rw [i5_ hx, List.length_append, aB_]; omega
      have hxs : x.size ≤ 1000000000 := by rw [i5_ hx, List.length_append, aB_] at hle1; omega
      have R := hx
      refine aa_ kr_ ?_
      iterate 3 (refine aL_S rfl rfl v_ ?_)
      refine ac_ ?_
      refine ab_ ?_
      refine ab_ ?_
      refine aa_ kr_ ?_
      iterate 5 (refine aL_S rfl rfl v_ ?_)
      refine ac_ ?_
      refine ad_ v_ (fun hc14 => ?_) (fun hc14 => ?_)
      ·replace hc14 := nm_ hc14
       omega
      ·replace hc14 := nm_ hc14
       refine ah_ ?_
       refine aa_ kr_ ?_
       iterate 5 (refine aL_S rfl rfl v_ ?_)
       refine ac_ ?_
       refine aa_ kr_ ?_
       iterate 2 (refine aL_S rfl rfl v_ ?_)
       refine ac_ ?_
       refine aJ_ (ι := Int × Nat) (i := ⟨n, k⟩) (n + x.size, k + 1) ?_ ?_ ?_ ?_
       ·show L.length - (k + 1) < L.length - k; omega
       ·exact ⟨by show k + 1 ≤ L.length; omega, hcv⟩
       ·exact cv_
       ·exact sub_
     ·replace hc12 := nm_ hc12
      refine ax_ ?_
      refine ag_ ?_
      refine ag_ ?_
      refine aq_ ?_
      refine ab_ ?_
      obtain rfl : k = L.length := by omega
      rw [List.take_length] at *
      obtain ⟨x0, L', rfl⟩ : ∃ x0 L', L = x0 :: L' := by
       cases L with
       |nil => simp at hc2
       |cons a l => exact ⟨a, l, rfl⟩
      obtain ⟨m, hm⟩ : ∃ m : Nat, n = m := ⟨n.toNat, by rw [List.length_cons] at hn; omega⟩
      subst hm
      have hfl := rk_ L'
      have hL2 : L'.length ≤ 1000000 := by rw [List.length_cons] at hL; omega
      have htk : (L'.map vStr).take L'.length = L'.map vStr := List.take_of_length_le (by rw [List.length_map]; omega)
      have hx0 : (Lb x0).length ≤ 1000000 := by rw [List.flatMap_cons, List.length_append] at hT; omega
      have hx0' : x0.size ≤ 1000000 := by rw [← aB_]; exact hx0
      have hT' : (L'.flatMap Lb).length + x0.size ≤ 1000000 := by rw [List.flatMap_cons, List.length_append, aB_] at hT; omega
      refine aa_ kr_ ?_
      refine aL_X rfl rfl (jU_ (t := 209) (z := .agg #[.pointer none, .slice none 0 0]) (r := [.slice none 0 0]) rfl kr_ (by rfl) fun o8 ho8 => ?_)
      refine ac_ ?_
      refine ab_ ?_
      refine aa_ kr_ ?_
      (refine aL_S rfl rfl v_ ?_)
      refine aL_X rfl rfl (ae_ rfl rfl (.inr ⟨rfl, rfl, rfl⟩) g_ va_ (q3_ (Store.set_get ..) (by omega)) ?_); rintro _ τ1 ⟨rfl, a1, a2⟩
      refine ac_ ?_
      refine ab_ ?_
      refine aa_ kr_ ?_
      iterate 3 (refine aL_S rfl rfl v_ ?_)
      refine aL_X rfl rfl (ae_ rfl rfl (.inr ⟨rfl, rfl, rfl⟩) g_ va_ (wSB a1 (by simp) (by omega)) ?_); rintro _ τ2 ⟨rfl, b1, b2⟩
      refine ac_ ?_
      refine ab_ ?_
      refine ab_ ?_
      have R := htk
      refine aa_ kr_ ?_
      iterate 4 (refine aL_S rfl rfl v_ ?_)
      refine ac_ ?_
      refine al_ ?_
      refine ap_ (ι := Store × Nat) (fun ⟨τ, k⟩ => L'.length - k) (fun ⟨τ, k⟩ => k ≤ L'.length ∧ WRb τ o8 (Lb x0 ++ (L'.take k).flatMap fun s => 47 :: Lb s) ∧ WF o8 (σ.set o8 (.cells [.nilp o8 209 2, .lit (.slice none 0 0)])) τ) (fun ⟨τ, k⟩ => [(1, vStr ⟨#[47]⟩), (8, .ref o8 0), (63, .sl 1 (L'.map vStr) false), (64, vInt L'.length), (65, vInt k)]) (fun ⟨τ, k⟩ => τ) (τ2, 0) ?_ ?_ ?_ ?_
      ·exact ⟨Nat.zero_le _, by simpa using b1, a2.trans b2⟩
      ·exact cv_
      ·exact Store.Wk.refl _
      rintro ⟨τ, k⟩ ⟨hk, h1, h2⟩
      simp only [ar_, au_]
      refine ab_ ?_
      refine aa_ kr_ ?_
      (refine aL_S rfl rfl v_ ?_)
      refine ac_ ?_
      refine ab_ ?_
      refine ad_ v_ (fun hc22 => ?_) (fun hc22 => ?_)
      ·replace hc22 := nm_ hc22
       refine ah_ ?_
       refine ab_ ?_
       refine al_ ?_
       refine ab_ ?_
       obtain ⟨x, hx⟩ := aA_ (l := L') (k := k) (by omega)
       have hle := lk_ L' k
       have hle1 := lk_ L' (k + 1)
       have hxs : x.size ≤ 1000000000 := by rw [hG_ hx, List.length_append, List.length_cons, aB_] at hle1; omega
       have hlx := aB_ x0
       have R := hx
       refine aa_ kr_ ?_
       iterate 3 (refine aL_S rfl rfl v_ ?_)
       refine ac_ ?_
       refine ab_ ?_
       refine aa_ kr_ ?_
       (refine aL_S rfl rfl v_ ?_)
       refine aL_X rfl rfl (ae_ rfl rfl (.inr ⟨rfl, rfl, rfl⟩) g_ va_ (wSB h1 (by rw [List.length_append]; omega) (by decide)) ?_); rintro _ τ3 ⟨rfl, c1, c2⟩
       refine ac_ ?_
       refine aa_ kr_ ?_
       (refine aL_S rfl rfl v_ ?_)
       refine aL_X rfl rfl (ae_ rfl rfl (.inr ⟨rfl, rfl, rfl⟩) g_ va_ (wSB c1 (by rw [List.length_append, List.length_append, show (Lb ⟨#[47]⟩).length = 1 from rfl]; omega) (by omega)) ?_); rintro _ τ4 ⟨rfl, d1, d2⟩
       refine ac_ ?_
       refine aa_ kr_ ?_
       iterate 2 (refine aL_S rfl rfl v_ ?_)
       refine ac_ ?_
       refine aJ_ (ι := Store × Nat) (i := ⟨τ, k⟩) (τ4, k + 1) ?_ ?_ ?_ ?_
       ·show L'.length - (k + 1) < L'.length - k; omega
       ·exact ⟨by show k + 1 ≤ L'.length; omega, by rw [hG_ hx]; simpa [List.append_assoc, Lb] using d1, h2.trans (c2.trans d2)⟩
       ·exact cv_
       ·exact Store.Wk.refl _
      ·replace hc22 := nm_ hc22
       refine ax_ ?_
       refine ag_ ?_
       refine ag_ ?_
       refine aq_ ?_
       refine ab_ ?_
       obtain rfl : k = L'.length := by omega
       rw [List.take_length] at h1
       have hlx := aB_ x0
       refine aa_ kr_ ?_
       refine aL_X rfl rfl (ae_ rfl rfl (.inr ⟨rfl, rfl, rfl⟩) g_ va_ (nd_ h1 (by rw [List.length_append]; omega)) ?_); rintro _ τ5 ⟨rfl, e2⟩
       (refine aL_S rfl rfl v_ ?_)
       refine ac_ ?_
       refine am_ ?_
       have hW := WF.sub (x := .cells [.nilp o8 209 2, .lit (.slice none 0 0)]) ho8 (h2.trans e2) (fun a t sz l hh => by simp at hh)
       exact ai_ (σ' := σ) va_ (Store.Sub.wk hW) ⟨rfl, rfl⟩
   ·replace hc7 := nm_ hc7
    simp at hc7
end Go.Proofs.YtkcmbjodladflaaGreatDoor
end

section
set_option linter.all false
set_option maxRecDepth 100000
namespace Go.Proofs.YtkcmbjodladflaaGreatDoor
open Go.Ab
abbrev v47 : AVal := vStr ⟨#[47]⟩
def dZ_ (l : List UInt8) : Int := Lib.indexByte l 47
theorem sT_ {κ : K} {α : Operand → AVal} {x y : Operand} {ev : Operand → Value} {s : ByteArray} (hx : α x = vStr s) (hy : α y = .lit (.int .u8 47)) (h : ∀ z ∈ #[x, y], Rv κ (α z) (ev z)) : ∃ cv, (Extern.BytealgIndexByte.indexByte (#[x, y].map ev)).run Tryz.prog κ.w = .ok cv κ.w ∧ Rv κ (vInt (dZ_ (Lb s))) cv := by
 have h1 := h x (by simp); have h2 := h y (by simp)
 rw [hx] at h1
 rw [hy] at h2
 refine ⟨_, ?_, .lit _⟩
 rw [show #[x, y].map ev = #[ev x, ev y] from by simp, h1.litInv, h2.litInv]
 exact Lib.run_indexByteString s 47 κ.w
theorem hJ_ (ss : List ByteArray) : flat (ss.map vStr) = ss.map vStr := i4_ fun x hx => by
 obtain ⟨s, _, rfl⟩ := List.mem_map.1 hx
 rfl
theorem is_ {s : ByteArray} {σ : Store} : ao_ Tryz.prog 244 [vStr s, .lit (.int .u8 47)] σ fun v σ' => v = vInt (dZ_ (Lb s)) ∧ σ = σ' := by
 refine aj_ Tryz.func244 rfl Tryz.ntmps244 (congrArg Array.toList Tryz.results244) (by simp only [List.length_cons, List.length_nil]; decide) ?_; simp only [af_, ak_, Nat.reduceAdd]
 refine ab_ ?_
 refine aa_ kr_ ?_
 (refine aL_S rfl rfl v_ ?_)
 refine ac_ ?_
 refine ab_ ?_
 refine aa_ kr_ ?_
 iterate 2 (refine aL_S rfl rfl v_ ?_)
 refine aL_X rfl rfl (dN_ rfl (e := Extern.BytealgIndexByte.indexByte) kr_ g_ (fun κ ev _ h => sT_ (s := s) va_ va_ h) ?_)
 (refine aL_S rfl rfl v_ ?_)
 refine ac_ ?_
 refine am_ ?_
 refine ai_ (σ' := σ) v_ sub_ ?_
 exact ⟨rfl, rfl⟩
theorem h2_ {s : ByteArray} {σ : Store} : ao_ Tryz.prog 222 [vStr s, v47] σ fun v σ' => v = vInt (dZ_ (Lb s)) ∧ σ = σ' := by
 have hz : (ByteArray.mk #[47]).size = 1 := rfl
 have hb : (ByteArray.mk #[47])[0]? = some 47 := rfl
 refine aj_ Tryz.func222 rfl Tryz.ntmps222 (congrArg Array.toList Tryz.results222) (by simp only [List.length_cons, List.length_nil]; decide) ?_; simp only [af_, ak_, Nat.reduceAdd]
 refine ab_ ?_
 refine aa_ kr_ ?_
 (refine aL_S rfl rfl v_ ?_)
 refine ac_ ?_
 refine ab_ ?_
 have R := hz
 refine aa_ kr_ ?_
 iterate 3 (refine aL_S rfl rfl v_ ?_)
 refine ac_ ?_
 refine ab_ ?_
 refine al_ ?_
 refine ab_ ?_
 refine aa_ kr_ ?_
 iterate 3 (refine aL_S rfl rfl v_ ?_)
 refine ay_ rfl rfl v_ rfl vg_ ?_
 refine ay_ rfl rfl v_ rfl vg_ ?_
 refine ay_ rfl rfl v_ rfl vg_ ?_
 iterate 2 (refine aL_S rfl rfl v_ ?_)
 refine ac_ ?_
 refine ad_ v_ (fun hc2 => ?_) (fun hc2 => ?_)
 ·replace hc2 := nm_ hc2
  refine ab_ ?_
  refine aa_ kr_ ?_
  (refine aL_S rfl rfl v_ ?_)
  refine ac_ ?_
  refine am_ ?_
  refine ai_ (σ' := σ) v_ sub_ ?_
  refine ⟨?_, rfl⟩
  have h1 : (ByteArray.mk #[47]) = s := by simpa using hc2
  rw [← h1]; rfl
 ·replace hc2 := nm_ hc2
  refine ab_ ?_
  refine aa_ kr_ ?_
  iterate 3 (refine aL_S rfl rfl v_ ?_)
  refine ac_ ?_
  refine ad_ v_ (fun hc4 => ?_) (fun hc4 => ?_)
  ·replace hc4 := nm_ hc4
   refine ab_ ?_
   have R := And.intro hb hz
   refine aa_ kr_ ?_
   iterate 3 (refine aL_S rfl rfl v_ ?_)
   refine aL_X rfl rfl (ae_ rfl rfl (.inr ⟨rfl, rfl, rfl⟩) g_ va_ (is_) ?_); rintro _ _ ⟨rfl, rfl⟩
   (refine aL_S rfl rfl v_ ?_)
   refine ac_ ?_
   refine am_ ?_
   refine ai_ (σ' := σ) v_ sub_ ?_
   exact ⟨rfl, rfl⟩
  ·replace hc4 := nm_ hc4
   simp at hc4
theorem n8_ {s : ByteArray} {σ : Store} : ao_ Tryz.prog 215 [vStr s, v47] σ fun v σ' => v = vInt (dZ_ (Lb s)) ∧ σ = σ' := by
 refine aj_ Tryz.func215 rfl Tryz.ntmps215 (congrArg Array.toList Tryz.results215) (by simp only [List.length_cons, List.length_nil]; decide) ?_; simp only [af_, ak_, Nat.reduceAdd]
 refine ab_ ?_
 refine aa_ kr_ ?_
 (refine aL_S rfl rfl v_ ?_)
 refine ac_ ?_
 refine ab_ ?_
 refine aa_ kr_ ?_
 iterate 2 (refine aL_S rfl rfl v_ ?_)
 refine aL_X rfl rfl (ae_ rfl rfl (.inr ⟨rfl, rfl, rfl⟩) g_ va_ (h2_) ?_); rintro _ _ ⟨rfl, rfl⟩
 (refine aL_S rfl rfl v_ ?_)
 refine ac_ ?_
 refine am_ ?_
 refine ai_ (σ' := σ) v_ sub_ ?_
 exact ⟨rfl, rfl⟩
theorem sN_ {κ : K} {α : Operand → AVal} {x y : Operand} {ev : Operand → Value} {s : ByteArray} (hx : α x = vStr s) (hy : α y = .lit (.int .u8 47)) (h : ∀ z ∈ #[x, y], Rv κ (α z) (ev z)) : ∃ cv, (Extern.BytealgCount.count (#[x, y].map ev)).run Tryz.prog κ.w = .ok cv κ.w ∧ Rv κ (vInt ((Lb s).count 47)) cv := by
 have h1 := h x (by simp); have h2 := h y (by simp)
 rw [hx] at h1
 rw [hy] at h2
 refine ⟨_, ?_, .lit _⟩
 rw [show #[x, y].map ev = #[ev x, ev y] from by simp, h1.litInv, h2.litInv]
 exact Lib.run_countString s 47 κ.w
theorem po_ {s : ByteArray} {σ : Store} : ao_ Tryz.prog 214 [vStr s, v47] σ fun v σ' => v = vInt ((Lb s).count 47) ∧ σ = σ' := by
 have hz : (ByteArray.mk #[47]).size = 1 := rfl
 have hb : (ByteArray.mk #[47])[0]? = some 47 := rfl
 refine aj_ Tryz.func214 rfl Tryz.ntmps214 (congrArg Array.toList Tryz.results214) (by simp only [List.length_cons, List.length_nil]; decide) ?_; simp only [af_, ak_, Nat.reduceAdd]
 refine ab_ ?_
 refine aa_ kr_ ?_
 (refine aL_S rfl rfl v_ ?_)
 refine ac_ ?_
 refine ab_ ?_
 refine ab_ ?_
 have R := hz
 refine aa_ kr_ ?_
 iterate 3 (refine aL_S rfl rfl v_ ?_)
 refine ac_ ?_
 refine ad_ v_ (fun hc1 => ?_) (fun hc1 => ?_)
 ·replace hc1 := nm_ hc1
  simp at hc1
 ·replace hc1 := nm_ hc1
  refine ah_ ?_
  refine ab_ ?_
  refine ab_ ?_
  have R := hz
  refine aa_ kr_ ?_
  iterate 3 (refine aL_S rfl rfl v_ ?_)
  refine ac_ ?_
  refine ad_ v_ (fun hc3 => ?_) (fun hc3 => ?_)
  ·replace hc3 := nm_ hc3
   refine ab_ ?_
   have R := hb
   refine aa_ kr_ ?_
   iterate 3 (refine aL_S rfl rfl v_ ?_)
   refine aL_X rfl rfl (dN_ rfl (e := Extern.BytealgCount.count) kr_ g_ (fun κ ev _ h => sN_ (s := s) va_ va_ h) ?_)
   (refine aL_S rfl rfl v_ ?_)
   refine ac_ ?_
   refine am_ ?_
   refine ai_ (σ' := σ) v_ sub_ ?_
   exact ⟨rfl, rfl⟩
  ·replace hc3 := nm_ hc3
   simp at hc3
structure Pc (s : ByteArray) (N : Nat) (done : List ByteArray) (r : ByteArray) : Prop where
 sp : (aY_ (Lb s)).map B = done ++ (aY_ (Lb r)).map B
 n : N = done.length + (Lb r).count 47 + 1
 sz : r.size ≤ s.size
theorem k6_ {l : List UInt8} : (dZ_ l = -1 → aY_ l = [l] ∧ l.count 47 = 0) ∧ ∀ i : Nat, dZ_ l = i → aY_ l = l.take i :: aY_ (l.drop (i + 1)) ∧ l.count 47 = (l.drop (i + 1)).count 47 + 1 ∧ i < l.length := by
 refine ⟨fun h => ?_, fun i h => ?_⟩
 ·have hn := Lib.indexByte_none h
  have hall : ∀ c ∈ l, c ≠ 47 := fun c hc e => by
   obtain ⟨k, hk⟩ := List.mem_iff_getElem?.1 hc
   exact hn k (by rw [hk, e])
  exact ⟨cH_ hall, List.count_eq_zero.2 fun hm => hall 47 hm rfl⟩
 ·obtain ⟨g1, g2⟩ := Lib.indexByte_some h
  have hlt := (List.getElem?_eq_some_iff.1 g1).1
  have el : l = l.take i ++ 47 :: l.drop (i + 1) := by
   rw [← (List.getElem?_eq_some_iff.1 g1).2, List.getElem_cons_drop hlt, List.take_append_drop]
  have hno : ∀ c ∈ l.take i, c ≠ 47 := fun c hc e => by
   obtain ⟨k, hk⟩ := List.mem_iff_getElem?.1 hc
   have hk1 := (List.getElem?_eq_some_iff.1 hk).1
   rw [List.length_take] at hk1
   rw [List.getElem?_take_of_lt (by omega)] at hk
   exact g2 k (by omega) (by rw [hk, e])
  refine ⟨?_, ?_, hlt⟩
  ·conv => lhs; rw [el]
   exact dI_ hno
  ·conv => lhs; rw [el]
   rw [List.count_append, List.count_cons_self, List.count_eq_zero.2 fun hm => hno 47 hm rfl]; omega
theorem Pc.step {s r : ByteArray} {N i : Nat} {done : List ByteArray} (h : Pc s N done r) (hi : dZ_ (Lb r) = i) : Pc s N (done ++ [r.extract 0 i]) (r.extract (i + 1) r.size) ∧ i < r.size := by
 obtain ⟨c1, c2, c3⟩ := k6_.2 i hi
 have e1 : Lb (r.extract 0 i) = (Lb r).take i := by rw [bM_, Lb_B, List.drop_zero]
 have e2 : Lb (r.extract (i + 1) r.size) = (Lb r).drop (i + 1) := by rw [bM_, Lb_B, ← aB_, List.take_length]
 refine ⟨⟨?_, ?_, ?_⟩, by rw [← aB_]; exact c3⟩
 ·rw [h.sp, c1, e2, List.map_cons, ← e1, B_Lb]; simp
 ·rw [h.n, c2, e2]; simp; omega
 ·have := h.sz; simp only [ByteArray.size_extract]; omega
theorem gT_ {done : List ByteArray} {N : Nat} {x : ByteArray} (h : done.length < N) : aput (done.map vStr ++ List.replicate (N - done.length) (vStr ⟨#[]⟩)) done.length [vStr x] = (done ++ [x]).map vStr ++ List.replicate (N - (done ++ [x]).length) (vStr ⟨#[]⟩) := by
 unfold aput
 rw [List.take_left' (by simp), List.drop_append, List.drop_of_length_le (by simp), List.nil_append]
 simp only [List.length_map, List.length_singleton, List.drop_replicate, List.map_append, List.map_cons, List.map_nil, List.length_append, List.append_assoc]
 congr 3
 omega
theorem kc_ {s : ByteArray} {σ : Store} (hs : s.size ≤ 1000000) : ao_ Tryz.prog 176 [vStr s, v47, vInt 0, vInt (-1)] σ fun v σ' => ∃ o, σ.heap o = none ∧ v = .msl o 1 0 ((aY_ (Lb s)).map B).length ∧ σ' = σ.set o (.cells (((aY_ (Lb s)).map B).map vStr)) := by
 have hz : (ByteArray.mk #[47]).size = 1 := rfl
 have hne : ¬ (ByteArray.mk #[47]) = ⟨#[]⟩ := by decide
 have hcn : (Lb s).count 47 ≤ s.size := by rw [← aB_]; exact List.count_le_length ..
 obtain ⟨N, hN⟩ : ∃ N, (Lb s).count 47 + 1 = N := ⟨_, rfl⟩
 refine aj_ Tryz.func176 rfl Tryz.ntmps176 (congrArg Array.toList Tryz.results176) (by simp only [List.length_cons, List.length_nil]; decide) ?_; simp only [af_, ak_, Nat.reduceAdd]
 refine ab_ ?_
 refine aa_ kr_ ?_
 (refine aL_S rfl rfl v_ ?_)
 refine ac_ ?_
 refine ab_ ?_
 refine ab_ ?_
 refine aa_ kr_ ?_
 iterate 2 (refine aL_S rfl rfl v_ ?_)
 refine ac_ ?_
 refine ad_ v_ (fun hc1 => ?_) (fun hc1 => ?_)
 ·replace hc1 := nm_ hc1
  simp at hc1
 ·replace hc1 := nm_ hc1
  refine ah_ ?_
  refine ab_ ?_
  refine ab_ ?_
  refine aa_ kr_ ?_
  iterate 2 (refine aL_S rfl rfl v_ ?_)
  refine ac_ ?_
  refine ad_ v_ (fun hc3 => ?_) (fun hc3 => ?_)
  ·replace hc3 := nm_ hc3
   exact absurd hc3 hne
  ·replace hc3 := nm_ hc3
   refine ah_ ?_
   refine ab_ ?_
   refine ab_ ?_
   refine aa_ kr_ ?_
   iterate 2 (refine aL_S rfl rfl v_ ?_)
   refine ac_ ?_
   refine ad_ v_ (fun hc5 => ?_) (fun hc5 => ?_)
   ·replace hc5 := nm_ hc5
    refine aa_ kr_ ?_
    iterate 2 (refine aL_S rfl rfl v_ ?_)
    refine aL_X rfl rfl (ae_ rfl rfl (.inr ⟨rfl, rfl, rfl⟩) g_ va_ (po_) ?_); rintro _ _ ⟨rfl, rfl⟩
    iterate 2 (refine aL_S rfl rfl v_ ?_)
    refine ac_ ?_
    refine ab_ ?_
    have hmin : min (((Lb s).count 47 : Int) + 1) ((s.size : Int) + 1) = N := by omega
    have R := hmin
    refine aa_ kr_ ?_
    iterate 6 (refine aL_S rfl rfl v_ ?_)
    refine ac_ ?_
    refine ab_ ?_
    refine aa_ kr_ ?_
    (refine aL_S rfl rfl v_ ?_)
    refine aL_X rfl rfl (de_ rfl g_ g_ g_ rfl v_ v_ (by omega) fun oa hoa => ?_)
    (refine aL_S rfl rfl v_ ?_)
    refine ac_ ?_
    refine ab_ ?_
    refine aa_ kr_ ?_
    iterate 3 (refine aL_S rfl rfl v_ ?_)
    refine ac_ ?_
    refine ab_ ?_
    refine aa_ kr_ ?_
    (refine aL_S rfl rfl v_ ?_)
    refine ac_ ?_
    refine ab_ ?_
    refine al_ ?_
    refine ap_ (ι := List ByteArray × ByteArray) (fun ⟨done, r⟩ => N - done.length) (fun ⟨done, r⟩ => Pc s N done r) (fun ⟨done, r⟩ => [(0, vStr r), (1, v47), (2, vInt 0), (3, vInt ((N : Int) - 1)), (9, .msl oa 1 0 N), (10, vInt done.length)]) (fun ⟨done, r⟩ => (σ.set oa (.cells (done.map vStr ++ List.replicate (N - done.length) (vStr ⟨#[]⟩))))) ([], s) ?_ ?_ ?_ ?_
    ·exact ⟨rfl, by rw [← hN]; simp, Nat.le_refl _⟩
    ·exact cv_
    ·exact Store.Wk.refl _
    rintro ⟨done, r⟩ hP
    simp only [ar_, au_]
    refine ab_ ?_
    refine ab_ ?_
    refine aa_ kr_ ?_
    iterate 3 (refine aL_S rfl rfl v_ ?_)
    refine ac_ ?_
    refine ad_ v_ (fun hc11 => ?_) (fun hc11 => ?_)
    ·replace hc11 := nm_ hc11
     refine ah_ ?_
     refine al_ ?_
     refine ab_ ?_
     refine aa_ kr_ ?_
     iterate 2 (refine aL_S rfl rfl v_ ?_)
     refine aL_X rfl rfl (ae_ rfl rfl (.inr ⟨rfl, rfl, rfl⟩) g_ va_ (n8_) ?_); rintro _ _ ⟨rfl, rfl⟩
     (refine aL_S rfl rfl v_ ?_)
     refine ac_ ?_
     refine ab_ ?_
     refine ab_ ?_
     have hge := Lib.indexByte_ge (Lb r) 47
     refine aa_ kr_ ?_
     iterate 2 (refine aL_S rfl rfl v_ ?_)
     refine ac_ ?_
     refine ad_ v_ (fun hc13 => ?_) (fun hc13 => ?_)
     ·replace hc13 := nm_ hc13
      have h1 := (k6_.1 (show dZ_ (Lb r) = -1 by unfold dZ_ at *; omega)).2; have h2 := hP.n; omega
     ·replace hc13 := nm_ hc13
      obtain ⟨i, hi⟩ : ∃ i : Nat, dZ_ (Lb r) = i := ⟨(dZ_ (Lb r)).toNat, by omega⟩
      obtain ⟨hPs, hir⟩ := hP.step hi
      have hrs := hP.sz
      have hdn : done.length < N := by have := hP.n; omega
      have hls := gT_ (x := r.extract 0 i) hdn
      have hln : (((done ++ [r.extract 0 i]).length : Nat) : Int) = (done.length : Int) + 1 := by rw [List.length_append, List.length_singleton]; rfl
      rw [hi]
      refine ah_ ?_
      refine ab_ ?_
      have R := hls
      refine aa_ kr_ ?_
      iterate 8 (refine aL_S rfl rfl v_ ?_)
      refine av_ rfl rfl rfl v_ v_ h_ g_ rfl g_ c_ (by rfl) le_ (by first | exact hls | (rw [Nat.mul_one]; exact hls) | (rw [Nat.zero_add]; exact hls) | (rw [Nat.mul_one, Nat.zero_add]; exact hls)) ?_
      refine ac_ ?_
      refine ab_ ?_
      have htn : ((i : Int) + ((1 : Nat) : Int)).toNat = i + 1 := by omega
      have R := And.intro hz htn
      refine aa_ kr_ ?_
      iterate 7 (refine aL_S rfl rfl v_ ?_)
      refine ac_ ?_
      refine aa_ kr_ ?_
      iterate 3 (refine aL_S rfl rfl v_ ?_)
      refine ac_ ?_
      refine aJ_ (ι := List ByteArray × ByteArray) (i := ⟨done, r⟩) (done ++ [r.extract 0 i], r.extract (i + 1) r.size) ?_ ?_ ?_ ?_
      ·show N - (done ++ [r.extract 0 i]).length < N - done.length; rw [List.length_append, List.length_singleton]; omega
      ·exact hPs
      ·have R := hln; exact cv_
      ·(try dsimp only); rw [Store.set_set]; exact Store.Wk.refl _
    ·replace hc11 := nm_ hc11
     refine ax_ ?_
     refine ag_ ?_
     refine ag_ ?_
     refine aq_ ?_
     refine ab_ ?_
     have hdn : done.length + 1 = N := by have := hP.n; omega
     have hc0 : (Lb r).count 47 = 0 := by have := hP.n; omega
     have hls := gT_ (x := r) (show done.length < N by omega)
     refine aa_ kr_ ?_
     iterate 4 (refine aL_S rfl rfl v_ ?_)
     refine av_ rfl rfl rfl v_ v_ h_ g_ rfl g_ c_ (by rfl) le_ (by first | exact hls | (rw [Nat.mul_one]; exact hls) | (rw [Nat.zero_add]; exact hls) | (rw [Nat.mul_one, Nat.zero_add]; exact hls)) ?_
     refine ac_ ?_
     refine ab_ ?_
     have hend : (aY_ (Lb s)).map B = done ++ [r] := by
      rw [hP.sp, cH_ fun c hc e => List.count_eq_zero.1 hc0 (e ▸ hc), List.map_singleton, B_Lb]
     have hsl : N - (done ++ [r]).length = 0 := by rw [List.length_append, List.length_singleton]; omega
     refine aa_ kr_ ?_
     iterate 5 (refine aL_S rfl rfl v_ ?_)
     refine ac_ ?_
     refine am_ ?_
     refine ai_ v_ (Store.Wk.refl _) ?_
     exact ⟨oa, hoa, by rw [hend, List.length_append, List.length_singleton]; congr 1, by rw [hend, Store.set_set, hsl]; simp⟩
   ·replace hc5 := nm_ hc5
    simp at hc5
theorem mt_ {s : ByteArray} {σ : Store} (hs : s.size ≤ 1000000) : ao_ Tryz.prog 128 [vStr s, v47] σ fun v σ' => v = .sl 1 (((aY_ (Lb s)).map B).map vStr) false ∧ σ = σ' := by
 have key : ao_ Tryz.prog 176 [vStr s, v47, vInt 0, vInt (-1)] σ fun v σ' => v = .sl 1 (((aY_ (Lb s)).map B).map vStr) false ∧ σ = σ' := by
  refine (kc_ hs).aft ?_
  rintro κ a τ cv hI hr ⟨o, ho, rfl, rfl⟩
  obtain ⟨κ', h1, h2, h3, h4⟩ := Ab.freeze hI hr (Store.set_get ..) (l := ((aY_ (Lb s)).map B).map vStr) (by rw [Nat.mul_one, List.take_of_length_le (by simp), hJ_]) (by simp) fun x hx => by
   obtain ⟨z, _, rfl⟩ := List.mem_map.1 hx
   rfl
  rw [Store.set_del ho] at h3
  exact ⟨κ', _, _, h1, h2, h3, h4, rfl, rfl⟩
 refine aj_ Tryz.func128 rfl Tryz.ntmps128 (congrArg Array.toList Tryz.results128) (by simp only [List.length_cons, List.length_nil]; decide) ?_; simp only [af_, ak_, Nat.reduceAdd]
 refine ab_ ?_
 refine aa_ kr_ ?_
 (refine aL_S rfl rfl v_ ?_)
 refine ac_ ?_
 refine ab_ ?_
 refine aa_ kr_ ?_
 iterate 2 (refine aL_S rfl rfl v_ ?_)
 refine aL_X rfl rfl (ae_ rfl rfl (.inr ⟨rfl, rfl, rfl⟩) g_ va_ (key) ?_); rintro _ _ ⟨rfl, rfl⟩
 (refine aL_S rfl rfl v_ ?_)
 refine ac_ ?_
 refine am_ ?_
 refine ai_ (σ' := σ) v_ sub_ ?_
 exact ⟨rfl, rfl⟩
theorem gZ_ {s : ByteArray} {σ : Store} (hs : s.size ≤ 1000000) : ao_ Tryz.prog 72 [vStr s] σ fun v σ' => v = .sl 1 ((aH_ s).map vStr) false ∧ σ = σ' := by
 have h0 := ne0 s
 refine aj_ Tryz.func72 rfl Tryz.ntmps72 (congrArg Array.toList Tryz.results72) (by simp only [List.length_cons, List.length_nil]; decide) ?_; simp only [af_, ak_, Nat.reduceAdd]
 refine ab_ ?_
 refine aa_ kr_ ?_
 (refine aL_S rfl rfl v_ ?_)
 refine ac_ ?_
 refine ab_ ?_
 refine ab_ ?_
 have R := h0
 refine aa_ kr_ ?_
 iterate 2 (refine aL_S rfl rfl v_ ?_)
 refine ac_ ?_
 refine ad_ v_ (fun hc1 => ?_) (fun hc1 => ?_)
 ·replace hc1 := nm_ hc1
  refine ab_ ?_
  refine aa_ kr_ ?_
  (refine aL_S rfl rfl v_ ?_)
  refine ac_ ?_
  refine am_ ?_
  exact a6_ (v := .sl 1 [] false) (v' := vNil) va_ (.nil _ _) sub_ ⟨by rw [aH_, if_pos hc1]; rfl, rfl⟩
 ·replace hc1 := nm_ hc1
  refine ah_ ?_
  refine ab_ ?_
  refine aa_ kr_ ?_
  (refine aL_S rfl rfl v_ ?_)
  refine aL_X rfl rfl (ae_ rfl rfl (.inr ⟨rfl, rfl, rfl⟩) g_ va_ (mt_ hs) ?_); rintro _ _ ⟨rfl, rfl⟩
  (refine aL_S rfl rfl v_ ?_)
  refine ac_ ?_
  refine am_ ?_
  refine ai_ (σ' := σ) v_ sub_ ?_
  exact ⟨by rw [aH_, if_neg hc1], rfl⟩
theorem nY_ {s : ByteArray} {σ : Store} (hs : s.size ≤ 1000000) : ao_ Tryz.prog 124 [vStr s] σ fun v σ' => v = .sl 1 ((aH_ s).map vStr) false ∧ σ = σ' := by
 have h0 := ne0 s
 refine aj_ Tryz.func124 rfl Tryz.ntmps124 (congrArg Array.toList Tryz.results124) (by simp only [List.length_cons, List.length_nil]; decide) ?_; simp only [af_, ak_, Nat.reduceAdd]
 refine ab_ ?_
 refine aa_ kr_ ?_
 (refine aL_S rfl rfl v_ ?_)
 refine ac_ ?_
 refine ab_ ?_
 refine ab_ ?_
 have R := h0
 refine aa_ kr_ ?_
 iterate 2 (refine aL_S rfl rfl v_ ?_)
 refine ac_ ?_
 refine ad_ v_ (fun hc1 => ?_) (fun hc1 => ?_)
 ·replace hc1 := nm_ hc1
  refine ab_ ?_
  refine aa_ kr_ ?_
  (refine aL_S rfl rfl v_ ?_)
  refine ac_ ?_
  refine am_ ?_
  exact a6_ (v := .sl 1 [] false) (v' := vNil) va_ (.nil _ _) sub_ ⟨by rw [aH_, if_pos hc1]; rfl, rfl⟩
 ·replace hc1 := nm_ hc1
  refine ah_ ?_
  refine ab_ ?_
  refine aa_ kr_ ?_
  refine ci_ 9 1 rfl rfl rfl (by rfl) fun k3 hk3 => ?_
  refine ac_ ?_
  refine ab_ ?_
  refine aa_ kr_ ?_
  (refine aL_S rfl rfl v_ ?_)
  refine ac_ ?_
  refine ab_ ?_
  refine ab_ ?_
  refine aa_ kr_ ?_
  (refine aL_S rfl rfl v_ ?_)
  refine ac_ ?_
  refine al_ ?_
  refine ap_ (ι := Nat × List ByteArray × Nat × Nat) (fun ⟨tk, done, f, p⟩ => s.size - p) (fun ⟨tk, done, f, p⟩ => σ.tok tk = none ∧ f ≤ p ∧ p ≤ s.size ∧ (aY_ (Lb s)).map B = done ++ (aY_ ((Lb s).drop f)).map B ∧ (∀ c ∈ ((Lb s).take p).drop f, c ≠ 47) ∧ done.length ≤ p) (fun ⟨tk, done, f, p⟩ => [(0, vStr s), (3, .own tk 1 (done.map vStr)), (4, vInt f), (5, vInt p)]) (fun ⟨tk, done, f, p⟩ => (σ.newTok none tk (9, 1))) (k3, [], 0, 0) ?_ ?_ ?_ ?_
  ·exact ⟨hk3, Nat.le_refl _, Nat.zero_le _, rfl, fun c hc => by simp at hc, Nat.le_refl _⟩
  ·exact cv_
  ·exact Store.Wk.refl _
  rintro ⟨tk, done, f, p⟩ ⟨htk, hfp, hps, hsp, hno, hdl⟩
  simp only [ar_, au_]
  refine ab_ ?_
  refine ab_ ?_
  refine aa_ kr_ ?_
  iterate 4 (refine aL_S rfl rfl v_ ?_)
  refine ac_ ?_
  refine ad_ v_ (fun hc6 => ?_) (fun hc6 => ?_)
  ·replace hc6 := nm_ hc6
   refine ah_ ?_
   refine ab_ ?_
   refine al_ ?_
   refine ab_ ?_
   have hp' : p < s.size := by omega
   have hg := hi_ hp'
   have hg2 : s[p]? = some (s[p]'hp') := getElem?_pos s p hp'
   obtain ⟨c, hc⟩ : ∃ c, s[p]'hp' = c := ⟨_, rfl⟩
   rw [hc] at hg hg2
   have R := hg2
   refine aa_ kr_ ?_
   iterate 4 (refine aL_S rfl rfl v_ ?_)
   refine ac_ ?_
   refine ad_ v_ (fun hc8 => ?_) (fun hc8 => ?_)
   ·replace hc8 := nm_ hc8
    have h47 : c = 47 := UInt8.toNat_inj.1 (by rw [show (47 : UInt8).toNat = 47 from rfl]; omega)
    have hcut : aY_ ((Lb s).drop f) = Lb (s.extract f p) :: aY_ ((Lb s).drop (p + 1)) := by
     have e1 : (Lb s).drop f = Lb (s.extract f p) ++ 47 :: (Lb s).drop (p + 1) := by
      have e0 : (Lb s).drop p = 47 :: (Lb s).drop (p + 1) := by rw [dD_ hg, h47]
      rw [bM_, Lb_B, ← e0]
      conv => lhs; rw [← List.take_append_drop p (Lb s)]
      rw [List.drop_append_of_le_length (by rw [List.length_take, aB_]; omega)]
     rw [e1]
     exact dI_ (by rw [bM_, Lb_B]; exact hno)
    have hs1 : (aY_ (Lb s)).map B = (done ++ [s.extract f p]) ++ (aY_ ((Lb s).drop (p + 1))).map B := by rw [hsp, hcut, List.map_cons, B_Lb]; simp
    refine ab_ ?_
    refine aa_ kr_ ?_
    iterate 5 (refine aL_S rfl rfl v_ ?_)
    refine aw_ rfl rfl rfl g_ g_ rfl rfl h_ c2_ (by decide) ?_
    refine be_ rfl rfl rfl g_ g_ v_ h_ v_ c_ (by simp; omega) fun k24 hk24 => ?_
    (refine aL_S rfl rfl v_ ?_)
    refine ac_ ?_
    refine aa_ kr_ ?_
    iterate 3 (refine aL_S rfl rfl v_ ?_)
    refine ac_ ?_
    refine aa_ kr_ ?_
    iterate 3 (refine aL_S rfl rfl v_ ?_)
    refine ac_ ?_
    refine aJ_ (ι := Nat × List ByteArray × Nat × Nat) (i := ⟨tk, done, f, p⟩) (k24, done ++ [s.extract f p], p + 1, p + 1) ?_ ?_ ?_ ?_
    ·show s.size - (p + 1) < s.size - p; omega
    ·exact ⟨(a8_ hk24).2, Nat.le_refl _, by show p + 1 ≤ s.size; omega, hs1, (by intro c hc; dsimp only at hc; rw [List.drop_of_length_le (by rw [List.length_take]; exact Nat.min_le_left ..)] at hc; cases hc), (by simp; omega)⟩
    ·exact cv_
    ·exact sub_
   ·replace hc8 := nm_ hc8
    skip
    have hn2 : ∀ d ∈ ((Lb s).take (p + 1)).drop f, d ≠ 47 := fun d hd => by
     rw [aX_ hg, List.drop_append_of_le_length (by rw [List.length_take, aB_]; omega)] at hd
     rcases List.mem_append.1 hd with h | h
     ·exact hno d h
     ·rw [List.mem_singleton.1 h]; intro e; rw [e] at hc8; exact hc8 rfl
    refine ah_ ?_
    refine aa_ kr_ ?_
    iterate 3 (refine aL_S rfl rfl v_ ?_)
    refine ac_ ?_
    refine aJ_ (ι := Nat × List ByteArray × Nat × Nat) (i := ⟨tk, done, f, p⟩) (tk, done, f, p + 1) ?_ ?_ ?_ ?_
    ·show s.size - (p + 1) < s.size - p; omega
    ·exact ⟨htk, by show f ≤ p + 1; omega, by show p + 1 ≤ s.size; omega, hsp, hn2, by show done.length ≤ p + 1; omega⟩
    ·exact cv_
    ·exact sub_
  ·replace hc6 := nm_ hc6
   refine ax_ ?_
   refine ag_ ?_
   refine ag_ ?_
   refine aq_ ?_
   refine ab_ ?_
   obtain rfl : p = s.size := by omega
   have hx : s.extract f s.size = B ((Lb s).drop f) := by rw [bM_, ← aB_, List.take_length]
   have hend : aH_ s = done ++ [s.extract f s.size] := by
    rw [aH_, if_neg hc1, hsp, cH_ (by rw [← aB_, List.take_length] at hno; exact hno), List.map_singleton, hx]
   refine aa_ kr_ ?_
   iterate 4 (refine aL_S rfl rfl v_ ?_)
   refine aw_ rfl rfl rfl g_ g_ rfl rfl h_ c2_ (by decide) ?_
   refine be_ rfl rfl rfl g_ g_ v_ h_ v_ c_ (by simp; omega) fun k32 hk32 => ?_
   (refine aL_S rfl rfl v_ ?_)
   refine ac_ ?_
   have t32 := (a8_ hk32).2
   refine ab_ ?_
   refine aa_ kr_ ?_
   iterate 2 (refine aL_S rfl rfl v_ ?_)
   refine ac_ ?_
   refine am_ ?_
   exact a6_ (v := .sl 1 ((aH_ s).map vStr) false) (v' := .own k32 1 ((aH_ s).map vStr)) (by rw [hend]; first | exact va_ | exact vb_) (.own1 _ _ _) sub_ ⟨rfl, rfl⟩
end Go.Proofs.YtkcmbjodladflaaGreatDoor
end

section
set_option linter.all false
set_option maxRecDepth 100000
namespace Go.Proofs.YtkcmbjodladflaaGreatDoor
open Go.Ab
def PFEn (F : FuncId) (caps : List AVal) (σ : Store) (p : Ent → Bool) : Prop := isGo Tryz.prog F = true ∧ ∀ τ : Store, (∀ i y, σ.heap i = some y → τ.heap i = some y) → ∀ x : Ent, ao_ Tryz.prog F (sEnt x :: caps) τ fun v τ' => v = vB (p x) ∧ τ = τ'
abbrev fnEn (F : Nat) (caps : List AVal) : AVal := .fn (.func F) [] caps
theorem nr_ {L M : List Ent} {d j : Nat} (h : M.drop d = L.drop d) (hj : d ≤ j) : M[j]? = L[j]? := by
 have := congrArg (fun l => l[j - d]?) h
 simp only [List.getElem?_drop] at this
 rwa [show d + (j - d) = j by omega] at this
theorem dQ_ (L : List Ent) : (flat (L.map sEnt)).length = L.length * 4 := by rw [aU_ (ol_ L), List.length_map]
theorem fB_ : ∀ {L : List Ent} {j : Nat} {x : Ent}, L[j]? = some x → ((flat (L.map sEnt)).drop (j * 4)).take 4 = [vStr x.key, vInt x.n, vStr x.who, vStr x.value]
 |[], j, x, h => by simp at h
 |y :: L, 0, x, h => by
  simp only [List.getElem?_cons_zero, Option.some.injEq] at h
  subst h
  rfl
 |y :: L, j + 1, x, h => by
  rw [List.map_cons, bu_, show (j + 1) * 4 = 4 + j * 4 by omega, ← List.drop_drop]
  exact fB_ (L := L) (j := j) h
theorem ny_ {M : List Ent} {j : Nat} {x : Ent} (hj : j < M.length) : aput (flat (M.map sEnt)) (j * 4) [vStr x.key, vInt x.n, vStr x.who, vStr x.value] = flat ((M.set j x).map sEnt) := by
 have e : M.set j x = M.take j ++ x :: M.drop (j + 1) := by rw [List.set_eq_take_append_cons_drop, if_pos hj]
 have e2 : M = M.take j ++ M[j] :: M.drop (j + 1) := by rw [List.getElem_cons_drop hj, List.take_append_drop]
 have hl : (flat ((M.take j).map sEnt)).length = j * 4 := by rw [dQ_, List.length_take, Nat.min_eq_left (by omega)]
 rw [e]
 conv => lhs; rw [e2]
 unfold aput
 rw [List.map_append, List.map_cons, dk_, bu_, List.map_append, List.map_cons, dk_, bu_, List.take_left' hl, List.drop_append, List.drop_of_length_le (by rw [hl]; simp), hl, show j * 4 + [vStr x.key, vInt x.n, vStr x.who, vStr x.value].length - j * 4 = 4 by rw [show [vStr x.key, vInt x.n, vStr x.who, vStr x.value].length = 4 from rfl]; omega]
 simp [AVal.cells]
theorem ll_ {M : List Ent} {j : Nat} {zs : List AVal} : aput (flat (M.map sEnt)) (j * 4) zs = flat ((M.take j).map sEnt) ++ (zs ++ (flat (M.map sEnt)).drop (j * 4 + zs.length)) := by
 unfold aput
 rw [List.append_assoc, List.map_take, ex_ (ol_ M)]
def CBEn (σ0 σ : Store) (L : List Ent) (v : AVal) : Prop := (L = [] ∧ v = .sl 4 [] true ∧ σ = σ0) ∨ ∃ o c, σ0.heap o = none ∧ L ≠ [] ∧ L.length ≤ c ∧ v = .mslc o 4 0 L.length c (45) ∧ σ = σ0.set o (.cells (flat (L.map sEnt)))
theorem q8_ {t : Bool} {σ : Store} : ao_ Tryz.prog 172 [.sl 4 [] t] σ fun v σ' => CBEn σ σ' [] v := by
 refine aj_ Tryz.func172 rfl Tryz.ntmps172 (congrArg Array.toList Tryz.results172) (by simp only [List.length_cons, List.length_nil]; decide) ?_; simp only [af_, ak_, Nat.reduceAdd]
 refine ab_ ?_
 refine aa_ kr_ ?_
 (refine aL_S rfl rfl v_ ?_)
 refine ac_ ?_
 refine ab_ ?_
 refine ab_ ?_
 refine aa_ kr_ ?_
 (refine aL_S rfl rfl v_ ?_)
 refine aL_X rfl rfl (jX_ rfl g_ va_ va_ fun b => ?_)
 refine ac_ ?_
 refine ad_ v_ (fun hc1 => ?_) (fun hc1 => ?_)
 ·replace hc1 := nm_ hc1
  refine ab_ ?_
  refine aa_ kr_ ?_
  (refine aL_S rfl rfl v_ ?_)
  refine ac_ ?_
  refine am_ ?_
  exact a6_ (v := .sl 4 [] true) (v' := .lit (.slice none 0 0)) va_ (.nil _ _) sub_ (.inl ⟨rfl, rfl, rfl⟩)
 ·replace hc1 := nm_ hc1
  refine ah_ ?_
  refine ab_ ?_
  refine aa_ kr_ ?_
  refine aw_ rfl rfl rfl g_ g_ rfl rfl h_ c2_ (by decide) ?_
  (refine aL_S rfl rfl v_ ?_)
  refine aL_X rfl rfl (gE_ rfl g_ g_ va_ va_ ?_)
  (refine aL_S rfl rfl v_ ?_)
  refine ac_ ?_
  refine am_ ?_
  exact ai_ va_ sub_ (.inl ⟨rfl, rfl, rfl⟩)
theorem q9_ {L : List Ent} {t : Bool} {σ : Store} (h0 : L ≠ []) (hl : L.length ≤ 1000000) : ao_ Tryz.prog 172 [.sl 4 (L.map sEnt) t] σ fun v σ' => CBEn σ σ' L v := by
 have hne : L.map sEnt ≠ [] := by simpa using h0
 refine aj_ Tryz.func172 rfl Tryz.ntmps172 (congrArg Array.toList Tryz.results172) (by simp only [List.length_cons, List.length_nil]; decide) ?_; simp only [af_, ak_, Nat.reduceAdd]
 refine ab_ ?_
 refine aa_ kr_ ?_
 (refine aL_S rfl rfl v_ ?_)
 refine ac_ ?_
 refine ab_ ?_
 refine ab_ ?_
 refine aa_ kr_ ?_
 (refine aL_S rfl rfl v_ ?_)
 refine aL_X rfl rfl (hg_ rfl g_ v_ (by exact hne) va_ ?_)
 refine ac_ ?_
 refine ad_ v_ (fun hc1 => ?_) (fun hc1 => ?_)
 ·replace hc1 := nm_ hc1
  cases hc1
 ·replace hc1 := nm_ hc1
  refine ah_ ?_
  refine ab_ ?_
  refine aa_ kr_ ?_
  refine aw_ rfl rfl rfl g_ g_ rfl rfl h_ c2_ (by decide) ?_
  (refine aL_S rfl rfl v_ ?_)
  refine aL_X rfl rfl (jW_ rfl g_ g_ va_ g_ hne (by simp; omega) fun o7 c7 ho7 hc7 => ?_)
  (refine aL_S rfl rfl v_ ?_)
  refine ac_ ?_
  refine am_ ?_
  refine ai_ v_ (Store.Wk.refl _) ?_
  exact .inr ⟨o7, c7, ho7, h0, by simpa using hc7, rfl, rfl⟩
theorem pm_ {L : List Ent} {t : Bool} {σ : Store} (hl : L.length ≤ 1000000) : ao_ Tryz.prog 172 [.sl 4 (L.map sEnt) t] σ fun v σ' => CBEn σ σ' L v := by
 by_cases h : L = []
 ·subst h; exact q8_
 ·exact q9_ h hl
theorem ry_ {F : Nat} {caps : List AVal} {t : Bool} {σ : Store} (hF : isGo Tryz.prog F = true) : ao_ Tryz.prog 190 [.sl 4 [] t, fnEn F caps] σ fun v σ' => v = vInt (-1) ∧ σ = σ' := by
 refine aj_ Tryz.func190 rfl Tryz.ntmps190 (congrArg Array.toList Tryz.results190) (by simp only [List.length_cons, List.length_nil]; decide) ?_; simp only [af_, ak_, Nat.reduceAdd]
 refine ab_ ?_
 refine aa_ kr_ ?_
 (refine aL_S rfl rfl v_ ?_)
 refine ac_ ?_
 refine ab_ ?_
 refine ab_ ?_
 refine aa_ kr_ ?_
 iterate 3 (refine aL_S rfl rfl v_ ?_)
 refine ac_ ?_
 refine al_ ?_
 refine ap_ (ι := Nat) (fun k => 0) (fun k => k = 0) (fun k => [(0, .sl 4 [] t), (1, fnEn F caps), (7, vInt 0), (8, vInt k)]) (fun k => σ) 0 ?_ ?_ ?_ ?_
 ·rfl
 ·exact cv_
 ·exact sub_
 rintro k hk
 simp only [ar_, au_]
 refine ab_ ?_
 refine aa_ kr_ ?_
 (refine aL_S rfl rfl v_ ?_)
 refine ac_ ?_
 refine ab_ ?_
 refine ad_ v_ (fun hc2 => ?_) (fun hc2 => ?_)
 ·replace hc2 := nm_ hc2
  omega
 ·replace hc2 := nm_ hc2
  refine ax_ ?_
  refine ag_ ?_
  refine ag_ ?_
  refine aq_ ?_
  refine ab_ ?_
  refine aa_ kr_ ?_
  (refine aL_S rfl rfl v_ ?_)
  refine ac_ ?_
  refine am_ ?_
  refine ai_ (σ' := σ) v_ sub_ ?_
  exact ⟨rfl, rfl⟩
theorem rz_ {F : Nat} {caps : List AVal} {p : Ent → Bool} {L : List Ent} {t : Bool} {σ : Store} (hF : PFEn F caps σ p) (hl : L.length ≤ 1000000) : ao_ Tryz.prog 190 [.sl 4 (L.map sEnt) t, fnEn F caps] σ fun v σ' => (∃ r : Int, v = vInt r ∧ ((r = -1 ∧ L.find? p = none) ∨ ∃ j : Nat, ∃ x, r = j ∧ L[j]? = some x ∧ L.find? p = some x)) ∧ σ = σ' := by
 have hgo := hF.1
 refine aj_ Tryz.func190 rfl Tryz.ntmps190 (congrArg Array.toList Tryz.results190) (by simp only [List.length_cons, List.length_nil]; decide) ?_; simp only [af_, ak_, Nat.reduceAdd]
 refine ab_ ?_
 refine aa_ kr_ ?_
 (refine aL_S rfl rfl v_ ?_)
 refine ac_ ?_
 refine ab_ ?_
 refine ab_ ?_
 refine aa_ kr_ ?_
 iterate 3 (refine aL_S rfl rfl v_ ?_)
 refine ac_ ?_
 refine al_ ?_
 refine ap_ (ι := Nat) (fun k => L.length - k) (fun k => k ≤ L.length ∧ ∀ m y, m < k → L[m]? = some y → p y = false) (fun k => [(0, .sl 4 (L.map sEnt) t), (1, fnEn F caps), (7, vInt L.length), (8, vInt k)]) (fun k => σ) 0 ?_ ?_ ?_ ?_
 ·exact ⟨Nat.zero_le _, fun m y hm => by omega⟩
 ·exact cv_
 ·exact sub_
 rintro k ⟨hk, hf⟩
 simp only [ar_, au_]
 refine ab_ ?_
 refine aa_ kr_ ?_
 (refine aL_S rfl rfl v_ ?_)
 refine ac_ ?_
 refine ab_ ?_
 refine ad_ v_ (fun hc2 => ?_) (fun hc2 => ?_)
 ·replace hc2 := nm_ hc2
  refine ah_ ?_
  refine ab_ ?_
  refine al_ ?_
  refine ab_ ?_
  refine aa_ kr_ ?_
  iterate 2 (refine aL_S rfl rfl v_ ?_)
  refine ac_ ?_
  refine ab_ ?_
  obtain ⟨x, hx⟩ := aA_ (l := L) (k := k) (by omega)
  have R := hx
  refine aa_ kr_ ?_
  iterate 5 (refine aL_S rfl rfl v_ ?_)
  refine aL_X rfl rfl (ae_ rfl rfl (.inl v_) g_ va_ (hF.2 _ (fun _ _ h => h) x) ?_); rintro _ _ ⟨rfl, rfl⟩
  refine ac_ ?_
  refine ad_ v_ (fun hc4 => ?_) (fun hc4 => ?_)
  ·replace hc4 := nm_ hc4
   refine ab_ ?_
   refine aa_ kr_ ?_
   iterate 2 (refine aL_S rfl rfl v_ ?_)
   refine ac_ ?_
   refine am_ ?_
   refine ai_ (σ' := σ) v_ sub_ ?_
   exact ⟨⟨k, rfl, .inr ⟨k, x, rfl, hx, gP_ hx (by simpa using hc4) hf⟩⟩, rfl⟩
  ·replace hc4 := nm_ hc4
   refine ah_ ?_
   refine aa_ kr_ ?_
   iterate 2 (refine aL_S rfl rfl v_ ?_)
   refine ac_ ?_
   refine aJ_ (ι := Nat) (i := k) (k + 1) ?_ ?_ ?_ ?_
   ·omega
   ·exact ⟨by omega, fun m y hm hy => by rcases Nat.lt_or_eq_of_le (Nat.le_of_lt_succ hm) with h | h; exact hf m y h hy; rw [h, hx] at hy; cases hy; simpa using hc4⟩
   ·exact cv_
   ·exact sub_
 ·replace hc2 := nm_ hc2
  refine ax_ ?_
  refine ag_ ?_
  refine ag_ ?_
  refine aq_ ?_
  refine ab_ ?_
  refine aa_ kr_ ?_
  (refine aL_S rfl rfl v_ ?_)
  refine ac_ ?_
  refine am_ ?_
  refine ai_ (σ' := σ) v_ sub_ ?_
  exact ⟨⟨-1, rfl, .inl ⟨rfl, List.find?_eq_none.2 fun y hy => by obtain ⟨m, hm, e⟩ := List.mem_iff_getElem.1 hy; have := hf m y (by omega) (by rw [List.getElem?_eq_getElem hm, e]); rw [this]; simp⟩⟩, rfl⟩
theorem rx_ {o F : Nat} {caps : List AVal} {p : Ent → Bool} {L : List Ent} {σ0 σ : Store} (hF : PFEn F caps σ0 p) (hs : ∀ i y, σ0.heap i = some y → σ.heap i = some y) (ho : σ.heap o = some (.cells (flat (L.map sEnt)))) (hl : L.length ≤ 1000000) : ao_ Tryz.prog 190 [.msl o 4 0 L.length, fnEn F caps] σ fun v σ' => (∃ r : Int, v = vInt r ∧ (r = -1 → L.filter (fun x => !p x) = L) ∧ (r ≠ -1 → ∃ j : Nat, r = j ∧ j < L.length ∧ (L.take (j + 1)).filter (fun x => !p x) = L.take j)) ∧ σ = σ' := by
 have hfl := dQ_ L
 have hgo := hF.1
 refine aj_ Tryz.func190 rfl Tryz.ntmps190 (congrArg Array.toList Tryz.results190) (by simp only [List.length_cons, List.length_nil]; decide) ?_; simp only [af_, ak_, Nat.reduceAdd]
 refine ab_ ?_
 refine aa_ kr_ ?_
 (refine aL_S rfl rfl v_ ?_)
 refine ac_ ?_
 refine ab_ ?_
 refine ab_ ?_
 refine aa_ kr_ ?_
 iterate 3 (refine aL_S rfl rfl v_ ?_)
 refine ac_ ?_
 refine al_ ?_
 refine ap_ (ι := Nat) (fun k => L.length - k) (fun k => k ≤ L.length ∧ (L.take k).filter (fun x => !p x) = L.take k) (fun k => [(0, .msl o 4 0 L.length), (1, fnEn F caps), (7, vInt L.length), (8, vInt k)]) (fun k => σ) 0 ?_ ?_ ?_ ?_
 ·exact ⟨Nat.zero_le _, rfl⟩
 ·exact cv_
 ·exact sub_
 rintro k ⟨hk, hf⟩
 simp only [ar_, au_]
 refine ab_ ?_
 refine aa_ kr_ ?_
 (refine aL_S rfl rfl v_ ?_)
 refine ac_ ?_
 refine ab_ ?_
 refine ad_ v_ (fun hc2 => ?_) (fun hc2 => ?_)
 ·replace hc2 := nm_ hc2
  refine ah_ ?_
  refine ab_ ?_
  refine al_ ?_
  refine ab_ ?_
  refine aa_ kr_ ?_
  iterate 2 (refine aL_S rfl rfl v_ ?_)
  refine ac_ ?_
  refine ab_ ?_
  obtain ⟨x, hx⟩ := aA_ (l := L) (k := k) (by omega)
  have px := fB_ hx
  have R := And.intro px (And.intro ho hfl)
  refine aa_ kr_ ?_
  iterate 5 (refine aL_S rfl rfl v_ ?_)
  refine aL_X rfl rfl (ae_ rfl rfl (.inl v_) g_ va_ (hF.2 _ hs x) ?_); rintro _ _ ⟨rfl, rfl⟩
  refine ac_ ?_
  refine ad_ v_ (fun hc4 => ?_) (fun hc4 => ?_)
  ·replace hc4 := nm_ hc4
   refine ab_ ?_
   refine aa_ kr_ ?_
   iterate 2 (refine aL_S rfl rfl v_ ?_)
   refine ac_ ?_
   refine am_ ?_
   refine ai_ (σ' := σ) v_ sub_ ?_
   exact ⟨⟨k, rfl, fun h => by omega, fun _ => ⟨k, rfl, by omega, by rw [aX_ hx, List.filter_append, hf]; simp [hc4]⟩⟩, rfl⟩
  ·replace hc4 := nm_ hc4
   refine ah_ ?_
   refine aa_ kr_ ?_
   iterate 2 (refine aL_S rfl rfl v_ ?_)
   refine ac_ ?_
   refine aJ_ (ι := Nat) (i := k) (k + 1) ?_ ?_ ?_ ?_
   ·omega
   ·exact ⟨by omega, by rw [aX_ hx, List.filter_append, hf]; simp [hc4]⟩
   ·exact cv_
   ·exact sub_
 ·replace hc2 := nm_ hc2
  refine ax_ ?_
  refine ag_ ?_
  refine ag_ ?_
  refine aq_ ?_
  refine ab_ ?_
  refine aa_ kr_ ?_
  (refine aL_S rfl rfl v_ ?_)
  refine ac_ ?_
  refine am_ ?_
  refine ai_ (σ' := σ) v_ sub_ ?_
  exact ⟨⟨-1, rfl, fun _ => by rwa [List.take_of_length_le (by omega)] at hf, fun h => absurd rfl h⟩, rfl⟩
structure DlEn (p : Ent → Bool) (L : List Ent) (j i : Nat) (M : List Ent) : Prop where
 len : M.length = L.length
 tk : M.take i = (L.take j).filter (fun x => !p x)
 cnt : ((L.take j).filter (fun x => !p x)).length = i
 lt : i < j
 le : j ≤ L.length
 dr : M.drop j = L.drop j
theorem DlEn.put {p : Ent → Bool} {L : List Ent} {j i : Nat} {M : List Ent} {x : Ent} (h : DlEn p L j i M) (hx : L[j]? = some x) (hg : p x = false) : DlEn p L (j + 1) (i + 1) (M.set i x) := by
 have h1 := (List.getElem?_eq_some_iff.1 hx).1
 have hk := h.lt
 have hl := h.len
 have hf : (L.take (j + 1)).filter (fun x => !p x) = (L.take j).filter (fun x => !p x) ++ [x] := by rw [aX_ hx, List.filter_append]; simp [hg]
 refine ⟨by rw [List.length_set]; exact hl, ?_, by rw [hf, List.length_append, h.cnt]; rfl, by omega, by omega, ?_⟩
 ·rw [hf, ← h.tk, aX_ (show (M.set i x)[i]? = some x by rw [List.getElem?_set_self]; omega), List.take_set_of_le (Nat.le_refl _)]
 ·rw [List.drop_set_of_lt (by omega)]
  have := congrArg (List.drop 1) h.dr
  rwa [List.drop_drop, List.drop_drop] at this
theorem DlEn.skip {p : Ent → Bool} {L : List Ent} {j i : Nat} {M : List Ent} {x : Ent} (h : DlEn p L j i M) (hx : L[j]? = some x) (hg : p x = true) : DlEn p L (j + 1) i M := by
 have h1 := (List.getElem?_eq_some_iff.1 hx).1
 have hk := h.lt
 have hf : (L.take (j + 1)).filter (fun x => !p x) = (L.take j).filter (fun x => !p x) := by rw [aX_ hx, List.filter_append]; simp [hg]
 refine ⟨h.len, by rw [hf]; exact h.tk, by rw [hf]; exact h.cnt, by omega, by omega, ?_⟩
 have := congrArg (List.drop 1) h.dr
 rwa [List.drop_drop, List.drop_drop] at this
theorem rf_ {F : Nat} {caps : List AVal} {t : Bool} {σ : Store} (hF : isGo Tryz.prog F = true) : ao_ Tryz.prog 171 [.sl 4 [] t, fnEn F caps] σ fun v σ' => v = .sl 4 [] false ∧ σ = σ' := by
 refine aj_ Tryz.func171 rfl Tryz.ntmps171 (congrArg Array.toList Tryz.results171) (by simp only [List.length_cons, List.length_nil]; decide) ?_; simp only [af_, ak_, Nat.reduceAdd]
 refine ab_ ?_
 refine aa_ kr_ ?_
 (refine aL_S rfl rfl v_ ?_)
 refine ac_ ?_
 refine ab_ ?_
 refine aa_ kr_ ?_
 iterate 2 (refine aL_S rfl rfl v_ ?_)
 refine aL_X rfl rfl (ae_ rfl rfl (.inr ⟨rfl, rfl, rfl⟩) g_ va_ (ry_ hF) ?_); rintro _ _ ⟨rfl, rfl⟩
 (refine aL_S rfl rfl v_ ?_)
 refine ac_ ?_
 refine ab_ ?_
 refine ab_ ?_
 refine aa_ kr_ ?_
 iterate 2 (refine aL_S rfl rfl v_ ?_)
 refine ac_ ?_
 refine ad_ v_ (fun hc2 => ?_) (fun hc2 => ?_)
 ·replace hc2 := nm_ hc2
  refine ab_ ?_
  refine aa_ kr_ ?_
  iterate 2 (refine aL_S rfl rfl v_ ?_)
  refine ac_ ?_
  refine am_ ?_
  exact a6_ (v := .sl 4 [] false) (v' := .sl 4 [] t) va_ (.sl1 _ _ _) sub_ ⟨rfl, rfl⟩
 ·replace hc2 := nm_ hc2
  first | omega | (simp at hc2; done) | cases hc2
set_option maxHeartbeats 2000000 in
theorem re_ {o F : Nat} {caps : List AVal} {p : Ent → Bool} {L : List Ent} {σ0 σ : Store} (hF : PFEn F caps σ0 p) (hn0 : σ0.heap o = none) (hs : ∀ i y, i ≠ o → σ0.heap i = some y → σ.heap i = some y) (ho : σ.heap o = some (.cells (flat (L.map sEnt)))) (hl : L.length ≤ 1000000) :
  ao_ Tryz.prog 171 [.msl o 4 0 L.length, fnEn F caps] σ fun v σ' => ∃ zs : List AVal, v = .msl o 4 0 (L.filter (fun x => !p x)).length ∧ σ' = σ.set o (.cells (flat ((L.filter (fun x => !p x)).map sEnt) ++ zs)) := by
 have hfl := dQ_ L
 have hgo := hF.1
 have hne : ∀ i y, σ0.heap i = some y → i ≠ o := fun i y hy hh => by rw [hh, hn0] at hy; cases hy
 refine aj_ Tryz.func171 rfl Tryz.ntmps171 (congrArg Array.toList Tryz.results171) (by simp only [List.length_cons, List.length_nil]; decide) ?_; simp only [af_, ak_, Nat.reduceAdd]
 refine ab_ ?_
 refine aa_ kr_ ?_
 (refine aL_S rfl rfl v_ ?_)
 refine ac_ ?_
 refine ab_ ?_
 refine aa_ kr_ ?_
 iterate 2 (refine aL_S rfl rfl v_ ?_)
 refine aL_X rfl rfl (ae_ rfl rfl (.inr ⟨rfl, rfl, rfl⟩) g_ va_ (rx_ hF (fun i y hy => hs i y (hne i y hy) hy) ho hl) ?_); rintro _ _ ⟨⟨r, rfl, h1, h2⟩, rfl⟩
 (refine aL_S rfl rfl v_ ?_)
 refine ac_ ?_
 refine ab_ ?_
 refine ab_ ?_
 refine aa_ kr_ ?_
 iterate 2 (refine aL_S rfl rfl v_ ?_)
 refine ac_ ?_
 refine ad_ v_ (fun hc2 => ?_) (fun hc2 => ?_)
 ·replace hc2 := nm_ hc2
  refine ab_ ?_
  refine aa_ kr_ ?_
  iterate 2 (refine aL_S rfl rfl v_ ?_)
  refine ac_ ?_
  refine am_ ?_
  refine ai_ v_ (Store.Wk.refl _) ?_
  exact ⟨[], by rw [h1 hc2], by rw [h1 hc2, List.append_nil, Store.set_same ho]⟩
 ·replace hc2 := nm_ hc2
  obtain ⟨j0, rfl, hj0, hf0⟩ := h2 hc2
  have hI0 : DlEn p L (j0 + 1) j0 L := ⟨rfl, hf0.symm, by rw [hf0, List.length_take]; omega, by omega, by omega, rfl⟩
  refine ah_ ?_
  refine ab_ ?_
  refine ab_ ?_
  refine aa_ kr_ ?_
  iterate 3 (refine aL_S rfl rfl v_ ?_)
  refine ac_ ?_
  refine al_ ?_
  refine ap_ (ι := Nat × Nat × List Ent) (fun ⟨j, i, M⟩ => L.length - j) (fun ⟨j, i, M⟩ => DlEn p L j i M) (fun ⟨j, i, M⟩ => [(0, .msl o 4 0 L.length), (1, fnEn F caps), (5, vInt i), (6, vInt j)]) (fun ⟨j, i, M⟩ => (σ.set o (.cells (flat (M.map sEnt))))) (j0 + 1, j0, L) ?_ ?_ ?_ ?_
  ·exact hI0
  ·exact cv_
  ·(try dsimp only); rw [Store.set_same ho]; exact Store.Wk.refl _
  rintro ⟨j, i, M⟩ hI
  simp only [ar_, au_]
  refine ab_ ?_
  refine ab_ ?_
  refine aa_ kr_ ?_
  iterate 4 (refine aL_S rfl rfl v_ ?_)
  refine ac_ ?_
  refine ad_ v_ (fun hc5 => ?_) (fun hc5 => ?_)
  ·replace hc5 := nm_ hc5
   refine ah_ ?_
   refine ab_ ?_
   refine al_ ?_
   refine ab_ ?_
   have hjl : j < L.length := by omega
   obtain ⟨x, hx⟩ := aA_ (l := L) (k := j) hjl
   have hMx : M[j]? = some x := by rw [nr_ hI.dr (Nat.le_refl _)]; exact hx
   have px := fB_ hMx
   have hflM := dQ_ M
   rw [hI.len] at hflM
   have hil := hI.lt
   have R := And.intro px hflM
   refine aa_ kr_ ?_
   iterate 4 (refine aL_S rfl rfl v_ ?_)
   refine aQ_ rfl rfl rfl g_ gl_ fun o7 ho7 => ?_
   repeat (rw [an_] at ho7; obtain ⟨_, ho7⟩ := ho7)
   refine av_ rfl rfl rfl v_ v_ h_ g_ rfl g_ c_ (by rfl) le_ v_ ?_
   refine ac_ ?_
   refine ab_ ?_
   skip
   have hk7 : ∀ i y, σ0.heap i = some y → ((((σ.set o (.cells (flat (M.map sEnt)))).set o7 (.cells [.lit (.string ⟨#[]⟩), .lit (.int .i64 0), .lit (.string ⟨#[]⟩), .lit (.string ⟨#[]⟩)])).set o7 (.cells [vStr x.key, vInt x.n, vStr x.who, vStr x.value]))).heap i = some y := fun i y hy => by
    have e1 := hne i y hy
    have e2 := hs i y e1 hy
    have e3 : i ≠ o7 := fun hh => by rw [hh, ho7] at e2; cases e2
    rw [Store.set_ne _ _ e3, Store.set_ne _ _ e3, Store.set_ne _ _ e1]; exact e2
   refine aa_ kr_ ?_
   iterate 2 (refine aL_S rfl rfl v_ ?_)
   refine aL_X rfl rfl (ae_ rfl rfl (.inl v_) g_ va_ (hF.2 _ hk7 x) ?_); rintro _ _ ⟨rfl, rfl⟩
   (refine aL_S rfl rfl v_ ?_)
   refine ac_ ?_
   refine ad_ v_ (fun hc8 => ?_) (fun hc8 => ?_)
   ·replace hc8 := nm_ hc8
    refine ab_ ?_
    have R := hflM
    refine aa_ kr_ ?_
    iterate 4 (refine aL_S rfl rfl v_ ?_)
    refine av_ rfl rfl rfl v_ v_ h_ g_ rfl g_ c_ (by rfl) (by rw [hflM]; omega) (ny_ (by rw [hI.len]; omega)) ?_
    refine ac_ ?_
    refine aa_ kr_ ?_
    iterate 3 (refine aL_S rfl rfl v_ ?_)
    refine ac_ ?_
    refine aa_ kr_ ?_
    iterate 3 (refine aL_S rfl rfl v_ ?_)
    refine ac_ ?_
    refine aJ_ (ι := Nat × Nat × List Ent) (i := ⟨j, i, M⟩) (j + 1, i + 1, M.set i x) ?_ ?_ ?_ ?_
    ·show L.length - (j + 1) < L.length - j; omega
    ·exact hI.put hx (by simpa using hc8)
    ·exact cv_
    ·exact sub_
   ·replace hc8 := nm_ hc8
    refine ah_ ?_
    refine aa_ kr_ ?_
    iterate 3 (refine aL_S rfl rfl v_ ?_)
    refine ac_ ?_
    refine aJ_ (ι := Nat × Nat × List Ent) (i := ⟨j, i, M⟩) (j + 1, i, M) ?_ ?_ ?_ ?_
    ·show L.length - (j + 1) < L.length - j; omega
    ·exact hI.skip hx (by simpa using hc8)
    ·exact cv_
    ·exact sub_
  ·replace hc5 := nm_ hc5
   refine ax_ ?_
   refine ag_ ?_
   refine ag_ ?_
   refine aq_ ?_
   refine ab_ ?_
   have hil := hI.lt
   have hle := hI.le
   have hflM := dQ_ M
   rw [hI.len] at hflM
   have hcnt := hI.cnt
   have htk := hI.tk
   rw [show j = L.length by omega, List.take_length] at hcnt htk
   refine aa_ kr_ ?_
   iterate 3 (refine aL_S rfl rfl v_ ?_)
   refine j3_ rfl rfl (kF_ (sz := 4) rfl g_ g_ (by rfl) (by decide) va_ h_ (by rw [hflM]; omega) fun zs hz => ?_)
   refine ac_ ?_
   refine ab_ ?_
   refine aa_ kr_ ?_
   iterate 4 (refine aL_S rfl rfl v_ ?_)
   refine ac_ ?_
   refine am_ ?_
   refine ai_ v_ (Store.Wk.refl _) ?_
   exact ⟨zs ++ (flat (M.map sEnt)).drop (i * 4 + zs.length), by rw [hcnt]; rfl, by rw [Store.set_set, ll_, htk]⟩
theorem nq_ {F : Nat} {caps : List AVal} {p : Ent → Bool} {σ0 σ : Store} {L : List Ent} {a : AVal} (hF : PFEn F caps σ0 p) (h : CBEn σ0 σ L a) (hl : L.length ≤ 1000000) :
  ao_ Tryz.prog 171 [a, fnEn F caps] σ fun v σ' => v = .sl 4 ((L.filter fun x => !p x).map sEnt) false ∧ σ0 = σ' := by
 rcases h with ⟨rfl, rfl, rfl⟩ | ⟨o, c, ho, _, _, rfl, rfl⟩
 ·exact rf_ hF.1
 ·refine ao_.wkA (args := [.mslc o 4 0 L.length c _, fnEn F caps]) ((re_ (σ := σ0.set o (.cells (flat (L.map sEnt)))) hF ho (fun i y hi hy => by rw [Store.set_ne _ _ hi]; exact hy) (Store.set_get ..) hl).aft ?_) rfl (fun j hj hj' => by match j, hj with | 0, _ => exact Wk.mslc _ _ _ _ _ _ | 1, _ => exact .refl _)
  rintro κ _ _ cv hI hr ⟨zs, rfl, rfl⟩
  obtain ⟨κ', h1, h2, h3, h4⟩ := Ab.freeze hI hr (Store.set_get ..) (l := (L.filter (fun x => !p x)).map sEnt) (by rw [List.take_left' (by rw [dQ_])]) (by simp) (ol_ _)
  rw [Store.set_set, Store.set_del ho] at h3
  exact ⟨κ', _, _, h1, h2, h3, h4, rfl, rfl⟩
end Go.Proofs.YtkcmbjodladflaaGreatDoor
end

section
set_option linter.all false
set_option maxRecDepth 100000
namespace Go.Proofs.YtkcmbjodladflaaGreatDoor
open Go.Ab
theorem rn_ {q : Nat} {x : Ent} {s : ByteArray} {σ : Store} (hq : σ.heap q = some (.cells [vStr s])) : ao_ Tryz.prog 191 [sEnt x, .ref q 0] σ fun v σ' => v = vB (decide (x.key = s)) ∧ σ = σ' := by
 refine aj_ Tryz.func191 rfl Tryz.ntmps191 (congrArg Array.toList Tryz.results191) (by simp only [List.length_cons, List.length_nil]; decide) ?_; simp only [af_, ak_, Nat.reduceAdd]
 refine ab_ ?_
 refine aa_ kr_ ?_
 refine bb_ rfl rfl rfl v_ rfl g_ fun o2 ho2 => ?_
 repeat (rw [an_] at ho2; obtain ⟨_, ho2⟩ := ho2)
 (refine aL_S rfl rfl v_ ?_)
 refine ac_ ?_
 have n3 := aT_ hq ho2
 refine ab_ ?_
 have R := hq
 refine aa_ kr_ ?_
 iterate 5 (refine aL_S rfl rfl v_ ?_)
 refine ac_ ?_
 refine am_ ?_
 refine ai_ (σ' := σ) v_ sub_ ?_
 exact ⟨rfl, rfl⟩
theorem s0_ {q : Nat} {s : ByteArray} {σ : Store} (hq : σ.heap q = some (.cells [vStr s])) : PFEn 191 [.ref q 0] σ fun x => decide (x.key = s) := ⟨by kernel_rfl, fun τ hs x => rn_ (hs _ _ hq)⟩
theorem nB_ {l : List Ent} {t : Bool} {k : ByteArray} {σ : Store} (hl : l.length ≤ 1000000) : ao_ Tryz.prog 142 [.sl 4 (l.map sEnt) t, vStr k] σ fun v σ' => v = sReg (getS l k) ∧ σ = σ' := by
 refine aj_ Tryz.func142 rfl Tryz.ntmps142 (congrArg Array.toList Tryz.results142) (by simp only [List.length_cons, List.length_nil]; decide) ?_; simp only [af_, ak_, Nat.reduceAdd]
 refine ab_ ?_
 refine aa_ kr_ ?_
 refine bb_ rfl rfl rfl v_ rfl g_ fun o3 ho3 => ?_
 repeat (rw [an_] at ho3; obtain ⟨_, ho3⟩ := ho3)
 refine aQ_ rfl rfl rfl g_ gl_ fun o4 ho4 => ?_
 repeat (rw [an_] at ho4; obtain ⟨_, ho4⟩ := ho4)
 refine ac_ ?_
 refine ab_ ?_
 refine aa_ kr_ ?_
 iterate 2 (refine aL_S rfl rfl v_ ?_)
 refine aL_X rfl rfl (ae_ rfl rfl (.inr ⟨rfl, rfl, rfl⟩) g_ va_ (rz_ (s0_ (s := k) h_) hl) ?_); rintro _ _ ⟨⟨r, rfl, hr⟩, rfl⟩
 (refine aL_S rfl rfl v_ ?_)
 refine ac_ ?_
 refine ab_ ?_
 refine ab_ ?_
 refine aa_ kr_ ?_
 iterate 2 (refine aL_S rfl rfl v_ ?_)
 refine ac_ ?_
 refine ad_ v_ (fun hc2 => ?_) (fun hc2 => ?_)
 ·replace hc2 := nm_ hc2
  refine ab_ ?_
  refine aa_ kr_ ?_
  (refine aL_S rfl rfl v_ ?_)
  refine av_ rfl rfl rfl v_ v_ h_ g_ rfl g_ c_ (by rfl) le_ v_ ?_
  refine ac_ ?_
  refine am_ ?_
  refine ai_ (σ' := σ) v_ sub_ ?_
  exact ⟨by rcases hr with ⟨_, h⟩ | ⟨j, x, rfl, _⟩; rw [getS, h]; rfl; omega, rfl⟩
 ·replace hc2 := nm_ hc2
  obtain ⟨j, x, rfl, hx, hf⟩ : ∃ j : Nat, ∃ x, r = j ∧ l[j]? = some x ∧ l.find? (fun x => decide (x.key = k)) = some x := by rcases hr with ⟨rfl, _⟩ | h; omega; exact h
  have hj := (List.getElem?_eq_some_iff.1 hx).1
  refine ah_ ?_
  refine ab_ ?_
  have R := hx
  refine aa_ kr_ ?_
  iterate 5 (refine aL_S rfl rfl v_ ?_)
  refine av_ rfl rfl rfl v_ v_ h_ g_ rfl g_ c_ (by rfl) le_ v_ ?_
  refine ac_ ?_
  refine am_ ?_
  refine ai_ (σ' := σ) v_ sub_ ?_
  exact ⟨by rw [getS, hf]; rfl, rfl⟩
theorem rS_ {l : List Ent} {t : Bool} {k : ByteArray} {σ : Store} (hl : l.length ≤ 1000000) : ao_ Tryz.prog 20 [.sl 4 (l.map sEnt) t, vStr k] σ fun v σ' => v = sReg (getS l k) ∧ σ = σ' := by
 refine aj_ Tryz.func20 rfl Tryz.ntmps20 (congrArg Array.toList Tryz.results20) (by simp only [List.length_cons, List.length_nil]; decide) ?_; simp only [af_, ak_, Nat.reduceAdd]
 refine ab_ ?_
 refine aa_ kr_ ?_
 refine aQ_ rfl rfl rfl g_ gl_ fun o4 ho4 => ?_
 repeat (rw [an_] at ho4; obtain ⟨_, ho4⟩ := ho4)
 refine ac_ ?_
 refine ab_ ?_
 refine ab_ ?_
 refine aa_ kr_ ?_
 (refine aL_S rfl rfl v_ ?_)
 refine ac_ ?_
 refine al_ ?_
 refine ap_ (ι := Nat) (fun i => l.length - i) (fun i => i ≤ l.length ∧ ∀ m y, m < i → l[m]? = some y → decide (y.key = k) = false) (fun i => [(0, .sl 4 (l.map sEnt) t), (1, vStr k), (4, .ref o4 0), (5, vInt i)]) (fun i => (σ.set o4 (.cells [vInt 0, .lit (.string ⟨#[]⟩), .lit (.string ⟨#[]⟩)]))) 0 ?_ ?_ ?_ ?_
 ·exact ⟨Nat.zero_le _, fun m y h => by omega⟩
 ·exact cv_
 ·exact Store.Wk.refl _
 rintro i ⟨hi, ha⟩
 simp only [ar_, au_]
 refine ab_ ?_
 refine ab_ ?_
 refine aa_ kr_ ?_
 iterate 4 (refine aL_S rfl rfl v_ ?_)
 refine ac_ ?_
 refine ad_ v_ (fun hc2 => ?_) (fun hc2 => ?_)
 ·replace hc2 := nm_ hc2
  refine ah_ ?_
  refine ab_ ?_
  refine al_ ?_
  refine ab_ ?_
  obtain ⟨x, hx⟩ := aA_ (l := l) (k := i) (by omega)
  have R := hx
  refine aa_ kr_ ?_
  iterate 7 (refine aL_S rfl rfl v_ ?_)
  refine ac_ ?_
  refine ad_ v_ (fun hc4 => ?_) (fun hc4 => ?_)
  ·replace hc4 := nm_ hc4
   refine ab_ ?_
   have R := hx
   refine aa_ kr_ ?_
   iterate 5 (refine aL_S rfl rfl v_ ?_)
   refine av_ rfl rfl rfl v_ v_ h_ g_ rfl g_ c_ (by rfl) le_ v_ ?_
   refine ac_ ?_
   refine am_ ?_
   refine ai_ (σ' := σ) v_ sub_ ?_
   exact ⟨by rw [getS, gP_ hx (decide_eq_true hc4) ha]; rfl, rfl⟩
  ·replace hc4 := nm_ hc4
   refine ah_ ?_
   refine aa_ kr_ ?_
   iterate 3 (refine aL_S rfl rfl v_ ?_)
   refine ac_ ?_
   refine aJ_ (ι := Nat) (i := i) (i + 1) ?_ ?_ ?_ ?_
   ·omega
   ·exact ⟨by omega, fun m y hm hy => by rcases Nat.lt_or_eq_of_le (Nat.le_of_lt_succ hm) with h | h; exact ha m y h hy; rw [h, hx] at hy; obtain rfl := Option.some.inj hy; exact decide_eq_false hc4⟩
   ·exact cv_
   ·exact sub_
 ·replace hc2 := nm_ hc2
  refine ax_ ?_
  refine ag_ ?_
  refine ag_ ?_
  refine aq_ ?_
  refine ab_ ?_
  refine aa_ kr_ ?_
  (refine aL_S rfl rfl v_ ?_)
  refine av_ rfl rfl rfl v_ v_ h_ g_ rfl g_ c_ (by rfl) le_ v_ ?_
  refine ac_ ?_
  refine am_ ?_
  refine ai_ (σ' := σ) v_ sub_ ?_
  exact ⟨by rw [getS, List.find?_eq_none.2 fun y hy => by obtain ⟨m, hm, e⟩ := List.mem_iff_getElem.1 hy; have := ha m y (by omega) (by rw [List.getElem?_eq_getElem hm, e]); rw [this]; simp]; rfl, rfl⟩
theorem mb_ {a : Ent} (h : cW_ a.n a.who a.value = true) : 1 ≤ a.n := by
 unfold cW_ at h
 simp only [Bool.and_eq_true, decide_eq_true_eq] at h
 exact h.1.1.1
theorem pW_ {a : Ent} {who v : ByteArray} (h : ((¬a.n = 0 ∨ ¬a.who.size = 0 ∨ ¬a.value.size = 0) ∧ ¬cW_ a.n a.who a.value = true ∨ aI_ who = false) ∨ 256 < (v.size : Int)) : cU_ a who v = (e0_, 1) := by
 rw [cU_, if_pos]
 rcases h with (⟨h1, h2⟩ | h) | h
 ·have hz : regZ a = false := by
   rw [Bool.eq_false_iff]; intro hh
   simp only [regZ, Bool.and_eq_true, decide_eq_true_eq] at hh
   omega
  rw [hz, show cW_ a.n a.who a.value = false from by simpa using h2]; rfl
 ·rw [h]; simp
 ·rw [decide_eq_true (show 256 < v.size by omega)]; simp
theorem lW_ {a : Ent} {who v : ByteArray} (h : ((a.n = 0 ∧ a.who.size = 0 ∧ a.value.size = 0 ∨ cW_ a.n a.who a.value = true) ∧ aI_ who = true) ∧ (v.size : Int) ≤ 256) : cU_ a who v = if 9007199254740992 ≤ a.n then (e0_, 4) else (⟨⟨#[]⟩, a.n + 1, who, v⟩, 0) := by
 obtain ⟨⟨h1, h2⟩, h3⟩ := h
 rw [cU_, if_neg]
 rw [h2, decide_eq_false (show ¬256 < v.size by omega)]
 rcases h1 with ⟨p, q, r⟩ | h1
 ·rw [show regZ a = true from by simp [regZ, p, q, r]]; simp
 ·rw [h1]; simp
theorem pX_ {a : Ent} {p : Prop} (h : (a.n = 0 ∧ p) ∨ cW_ a.n a.who a.value = true) : 0 ≤ a.n := by
 rcases h with h | h
 ·omega
 ·have := mb_ h; omega
theorem if01 {b : Bool} : ((if b = true then (0 : Int) else 1) = 0) = (b = true) := by cases b <;> simp
theorem rI_ {a : Ent} {who v : ByteArray} {σ : Store} (h1 : a.who.size ≤ 1000000) (h2 : who.size ≤ 1000000) : ao_ Tryz.prog 146 [sReg a, vStr who, vStr v] σ fun r σ' => r = .tup [sReg (cU_ a who v).1, vInt (cU_ a who v).2] ∧ σ = σ' := by
 have z1 := ne0 a.who
 have z2 := ne0 a.value
 refine aj_ Tryz.func146 rfl Tryz.ntmps146 (congrArg Array.toList Tryz.results146) (by simp only [List.length_cons, List.length_nil]; decide) ?_; simp only [af_, ak_, Nat.reduceAdd]
 refine ab_ ?_
 refine aa_ kr_ ?_
 refine bb_ rfl rfl rfl v_ rfl g_ fun o3 ho3 => ?_
 repeat (rw [an_] at ho3; obtain ⟨_, ho3⟩ := ho3)
 refine aQ_ rfl rfl rfl g_ gl_ fun o6 ho6 => ?_
 repeat (rw [an_] at ho6; obtain ⟨_, ho6⟩ := ho6)
 (refine aL_S rfl rfl v_ ?_)
 refine ac_ ?_
 refine ab_ ?_
 have R := And.intro z1 z2
 refine aa_ kr_ ?_
 iterate 4 (refine aL_S rfl rfl v_ ?_)
 refine ac_ ?_
 refine ab_ ?_
 refine al_ ?_
 refine ab_ ?_
 refine aa_ kr_ ?_
 iterate 2 (refine aL_S rfl rfl v_ ?_)
 refine aC_ rfl rfl v_ rfl vg_ ?_
 refine b8_ rfl rfl v_ rfl (fun hb => aK_ (by rfl) (by rfl) (.inr ⟨by rfl, by rfl, by rfl⟩) g_ cg_ (gy_ h1)) ?_
 refine aC_ rfl rfl v_ rfl vg_ ?_
 iterate 2 (refine aL_S rfl rfl v_ ?_)
 refine ay_ rfl rfl v_ rfl vg_ ?_
 refine bQ_ rfl rfl v_ rfl (fun hb => aK_ (by rfl) (by rfl) (.inr ⟨by rfl, by rfl, by rfl⟩) g_ cg_ (bf_ (by omega))) ?_
 refine ay_ rfl rfl v_ rfl vg_ ?_
 iterate 2 (refine aL_S rfl rfl v_ ?_)
 refine ay_ rfl rfl v_ rfl vg_ ?_
 refine ay_ rfl rfl v_ rfl vg_ ?_
 refine ay_ rfl rfl v_ rfl vg_ ?_
 iterate 2 (refine aL_S rfl rfl v_ ?_)
 refine ac_ ?_
 refine ad_ v_ (fun hc2 => ?_) (fun hc2 => ?_)
 ·replace hc2 := nm_ hc2
  rw [if01] at hc2
  refine ab_ ?_
  refine aa_ kr_ ?_
  (refine aL_S rfl rfl v_ ?_)
  refine av_ rfl rfl rfl v_ v_ h_ g_ rfl g_ c_ (by rfl) le_ v_ ?_
  (refine aL_S rfl rfl v_ ?_)
  refine ac_ ?_
  refine am_ ?_
  refine ai_ (σ' := σ) v_ sub_ ?_
  exact ⟨by rw [pW_ hc2]; rfl, rfl⟩
 ·replace hc2 := nm_ hc2
  rw [if01] at hc2
  have hlo := pX_ hc2.1.1
  refine ab_ ?_
  refine aa_ kr_ ?_
  iterate 4 (refine aL_S rfl rfl v_ ?_)
  refine ac_ ?_
  refine ad_ v_ (fun hc4 => ?_) (fun hc4 => ?_)
  ·replace hc4 := nm_ hc4
   refine ab_ ?_
   refine aa_ kr_ ?_
   (refine aL_S rfl rfl v_ ?_)
   refine av_ rfl rfl rfl v_ v_ h_ g_ rfl g_ c_ (by rfl) le_ v_ ?_
   (refine aL_S rfl rfl v_ ?_)
   refine ac_ ?_
   refine am_ ?_
   refine ai_ (σ' := σ) v_ sub_ ?_
   exact ⟨by rw [lW_ hc2, if_pos hc4]; rfl, rfl⟩
  ·replace hc4 := nm_ hc4
   refine ah_ ?_
   refine ab_ ?_
   refine aa_ kr_ ?_
   iterate 6 (refine aL_S rfl rfl v_ ?_)
   refine av_ rfl rfl rfl v_ v_ h_ g_ rfl g_ c_ (by rfl) le_ v_ ?_
   (refine aL_S rfl rfl v_ ?_)
   refine ac_ ?_
   refine am_ ?_
   refine ai_ (σ' := σ) v_ sub_ ?_
   exact ⟨by rw [lW_ hc2, if_neg (by omega)]; first | done | rfl, rfl⟩
theorem rZ_ {l : List Ent} {who key v : ByteArray} (h : bc_ l = false ∨ key.size < 1 ∨ 128 < key.size) : setS l who key v = (e0_, 1) := by
 rw [setS, if_pos]
 rcases h with h | h | h
 ·rw [h]; rfl
 ·rw [decide_eq_true h]; simp
 ·rw [decide_eq_true h]; simp
theorem oR_ {l : List Ent} {who key v : ByteArray} (h : bc_ l = true ∧ 1 ≤ key.size ∧ key.size ≤ 128) : setS l who key v = if (cU_ (getS l key) who v).2 ≠ 0 then (e0_, (cU_ (getS l key) who v).2) else (⟨key, (cU_ (getS l key) who v).1.n, (cU_ (getS l key) who v).1.who, (cU_ (getS l key) who v).1.value⟩, 0) := by
 rw [setS, if_neg]
 rw [h.1, decide_eq_false (by omega), decide_eq_false (by omega)]; simp
theorem mj_ {l : List Ent} {t : Bool} {who key v : ByteArray} {σ : Store} (hs : ∀ x ∈ l, EntSm x) (hl : l.length ≤ 1000000) (h2 : who.size ≤ 1000000) : ao_ Tryz.prog 85 [.sl 4 (l.map sEnt) t, vStr who, vStr key, vStr v] σ fun r σ' => r = .tup [sEnt (setS l who key v).1, vInt (setS l who key v).2] ∧ σ = σ' := by
 have hk := ne0 key
 have hg := (fE_ hs key).1
 refine aj_ Tryz.func85 rfl Tryz.ntmps85 (congrArg Array.toList Tryz.results85) (by simp only [List.length_cons, List.length_nil]; decide) ?_; simp only [af_, ak_, Nat.reduceAdd]
 refine ab_ ?_
 refine aa_ kr_ ?_
 refine aQ_ rfl rfl rfl g_ gl_ fun o8 ho8 => ?_
 repeat (rw [an_] at ho8; obtain ⟨_, ho8⟩ := ho8)
 (refine aL_S rfl rfl v_ ?_)
 refine ac_ ?_
 refine ab_ ?_
 refine ab_ ?_
 have R := hk
 refine aa_ kr_ ?_
 (refine aL_S rfl rfl v_ ?_)
 refine aL_X rfl rfl (ae_ rfl rfl (.inr ⟨rfl, rfl, rfl⟩) g_ va_ (fy_ hs hl) ?_); rintro _ _ ⟨rfl, rfl⟩
 iterate 2 (refine aL_S rfl rfl v_ ?_)
 refine ay_ rfl rfl v_ rfl vg_ ?_
 refine ay_ rfl rfl v_ rfl vg_ ?_
 iterate 2 (refine aL_S rfl rfl v_ ?_)
 refine ay_ rfl rfl v_ rfl vg_ ?_
 refine ay_ rfl rfl v_ rfl vg_ ?_
 refine ay_ rfl rfl v_ rfl vg_ ?_
 (refine aL_S rfl rfl v_ ?_)
 refine ac_ ?_
 refine ad_ v_ (fun hc1 => ?_) (fun hc1 => ?_)
 ·replace hc1 := nm_ hc1
  rw [if01] at hc1
  refine ab_ ?_
  refine aa_ kr_ ?_
  (refine aL_S rfl rfl v_ ?_)
  refine av_ rfl rfl rfl v_ v_ h_ g_ rfl g_ c_ (by rfl) le_ v_ ?_
  (refine aL_S rfl rfl v_ ?_)
  refine ac_ ?_
  refine am_ ?_
  refine ai_ (σ' := σ) v_ sub_ ?_
  exact ⟨by rw [rZ_ (by rcases hc1 with (h | h) | h; exact .inl (by simpa using h); exact .inr (.inl (by omega)); exact .inr (.inr (by omega)))]; rfl, rfl⟩
 ·replace hc1 := nm_ hc1
  rw [if01] at hc1
  refine ah_ ?_
  refine ab_ ?_
  refine aa_ kr_ ?_
  iterate 2 (refine aL_S rfl rfl v_ ?_)
  refine aL_X rfl rfl (ae_ rfl rfl (.inr ⟨rfl, rfl, rfl⟩) g_ va_ (nB_ hl) ?_); rintro _ _ ⟨rfl, rfl⟩
  iterate 2 (refine aL_S rfl rfl v_ ?_)
  refine aL_X rfl rfl (ae_ rfl rfl (.inr ⟨rfl, rfl, rfl⟩) g_ va_ (rI_ hg h2) ?_); rintro _ _ ⟨rfl, rfl⟩
  iterate 3 (refine aL_S rfl rfl v_ ?_)
  refine aQ_ rfl rfl rfl g_ gl_ fun o10 ho10 => ?_
  repeat (rw [an_] at ho10; obtain ⟨_, ho10⟩ := ho10)
  refine av_ rfl rfl rfl v_ v_ h_ g_ rfl g_ c_ (by rfl) le_ v_ ?_
  (refine aL_S rfl rfl v_ ?_)
  refine ac_ ?_
  refine ab_ ?_
  refine ab_ ?_
  refine aa_ kr_ ?_
  iterate 2 (refine aL_S rfl rfl v_ ?_)
  refine ac_ ?_
  refine ad_ v_ (fun hc4 => ?_) (fun hc4 => ?_)
  ·replace hc4 := nm_ hc4
   refine ab_ ?_
   refine aa_ kr_ ?_
   iterate 2 (refine aL_S rfl rfl v_ ?_)
   refine av_ rfl rfl rfl v_ v_ h_ g_ rfl g_ c_ (by rfl) le_ v_ ?_
   (refine aL_S rfl rfl v_ ?_)
   refine ac_ ?_
   refine am_ ?_
   refine ai_ (σ' := σ) v_ sub_ ?_
   exact ⟨by rw [oR_ ⟨hc1.1.1, by omega, by omega⟩, if_pos hc4]; rfl, rfl⟩
  ·replace hc4 := nm_ hc4
   refine ah_ ?_
   refine ab_ ?_
   refine aa_ kr_ ?_
   iterate 3 (refine aL_S rfl rfl v_ ?_)
   refine av_ rfl rfl rfl v_ v_ h_ g_ rfl g_ c_ (by rfl) le_ v_ ?_
   (refine aL_S rfl rfl v_ ?_)
   refine ac_ ?_
   refine am_ ?_
   refine ai_ (σ' := σ) v_ sub_ ?_
   exact ⟨by rw [oR_ ⟨hc1.1.1, by omega, by omega⟩, if_neg (by simpa using hc4)], rfl⟩
end Go.Proofs.YtkcmbjodladflaaGreatDoor
end
