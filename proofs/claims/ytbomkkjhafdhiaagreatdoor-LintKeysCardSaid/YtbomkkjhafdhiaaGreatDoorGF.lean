/-
  Registers, and what they say of tenants, plainly; Numbers and digits, by the kit's contracts of the library's Itoa and Atoi; Numbers of digits, on both sides; The library's Join of texts, with nothing between them; The library's Builder by itself; texts joined with a slash between each two; The library's cut at each slash; the parts of a path, on both sides; The library's Clone and DeleteFunc at pantler/api.Entry; Registers: what a key has, what it would have; what they say of a tenant. Both sides. Own work (an AI agent).
-/
import Derived.Test.YtbomkkjhafdhiaaGreatDoorGD
import Derived.Test.YtbomkkjhafdhiaaGreatDoorGE
import Derived.Shelf.Strconv.Itoa3
import Derived.Shelf.Strconv.AtoiAll
import Derived.Lib.Bytealg

section
set_option linter.all false
set_option maxRecDepth 100000
namespace Go.Ab
structure Ten where
  name : ByteArray
  secret : ByteArray
  bytes : Int
  rate : Int
  burst : Int
  queue : Int
@[reducible] def sTen (x : Ten) : AVal := .agg [.lit (.string x.name), .lit (.string x.secret), vInt x.bytes, vInt x.rate, vInt x.burst, vInt x.queue]
@[reducible] def sReg (x : Ent) : AVal := .agg [vInt x.n, .lit (.string x.who), .lit (.string x.value)]
end Go.Ab
namespace Go.Proofs.YtbomkkjhafdhiaaGreatDoor
open Go.Ab
def zeroR : Ent := ⟨⟨#[]⟩, 0, ⟨#[]⟩, ⟨#[]⟩⟩
def getS (l : List Ent) (k : ByteArray) : Ent := (l.find? fun x => decide (x.key = k)).getD zeroR
theorem getS_sm {l : List Ent} (h : ∀ x ∈ l, EntSm x) (k : ByteArray) : (getS l k).who.size ≤ 1000000 ∧ (getS l k).value.size ≤ 1000000 := by
  unfold getS
  cases hf : l.find? fun x => decide (x.key = k) with
  | none => exact ⟨Nat.zero_le _, Nat.zero_le _⟩
  | some x => have := h x (List.mem_of_find?_eq_some hf); exact ⟨this.who, this.value⟩
/-! ### one more -/
/-! ### tenants -/
def bsTenant : ByteArray := ⟨#[116, 101, 110, 97, 110, 116]⟩
def bsSecret : ByteArray := ⟨#[115, 101, 99, 114, 101, 116]⟩
def bsBytes : ByteArray := ⟨#[98, 121, 116, 101, 115]⟩
def bsRate : ByteArray := ⟨#[114, 97, 116, 101]⟩
def bsBurst : ByteArray := ⟨#[98, 117, 114, 115, 116]⟩
def bsQueue : ByteArray := ⟨#[113, 117, 101, 117, 101]⟩
def keyS (t f : ByteArray) : ByteArray := pathS [bsTenant, t, f]
def bndS (f : ByteArray) : Int × Int × Bool := if f = bsBytes then (1099511627776, 1048576, true) else if f = bsRate then (1048576, 8, true) else if f = bsBurst then (1048576, 16, true) else if f = bsQueue then (64, 16, true) else (0, 0, false)
def limN (s : ByteArray) (most oth : Int) : Int := match numS s with | some n => if 0 ≤ n ∧ n ≤ most then n else oth | none => oth
def limS (l : List Ent) (t f : ByteArray) : Int := limN (getS l (keyS t f)).value (bndS f).1 (bndS f).2.1
def secOk (s : ByteArray) : Bool := decide (1 ≤ s.size) && decide (s.size ≤ 64)
def tenOk (l : List Ent) (t : ByteArray) : Bool := nameOk t && secOk (getS l (keyS t bsSecret)).value
def zeroT : Ten := ⟨⟨#[]⟩, ⟨#[]⟩, 0, 0, 0, 0⟩
def tenS (l : List Ent) (t : ByteArray) : Ten := if tenOk l t then ⟨t, (getS l (keyS t bsSecret)).value, limS l t bsBytes, limS l t bsRate, limS l t bsBurst, limS l t bsQueue⟩ else zeroT
def tnK (l : List Ent) (k : ByteArray) : Option ByteArray := match partsS k with | [a, b, c] => if a = bsTenant ∧ c = bsSecret ∧ tenOk l b = true then some b else none | _ => none
def allS (l : List Ent) : List ByteArray := compactL (sortSS (l.filterMap fun x => tnK l x.key))
theorem name_no47 {t : ByteArray} (h : nameOk t = true) : ∀ c ∈ Lb t, c ≠ 47 := by
  unfold nameOk at h
  simp only [Bool.and_eq_true] at h
  have h2 := List.all_eq_true.1 h.2
  rintro c hc rfl
  have := h2 47 hc
  revert this; decide
theorem name_size {t : ByteArray} (h : nameOk t = true) : 1 ≤ t.size ∧ t.size ≤ 16 := by
  unfold nameOk at h
  simp only [Bool.and_eq_true, decide_eq_true_eq] at h
  exact h.1
theorem parts_key {t f : ByteArray} (ht : ∀ c ∈ Lb t, c ≠ 47) (hf : ∀ c ∈ Lb f, c ≠ 47) : partsS (keyS t f) = [bsTenant, t, f] := by
  refine partsS_path (by simp) (by simp [pathL, bsTenant, Lb]) fun x hx => ?_
  rcases List.mem_cons.1 hx with rfl | hx
  · decide
  · rcases List.mem_cons.1 hx with rfl | hx
    · exact ht
    · rw [List.mem_singleton.1 hx]; exact hf
theorem get_found {l : List Ent} {k : ByteArray} (h : 1 ≤ (getS l k).value.size) : ∃ x ∈ l, x.key = k := by
  unfold getS at h
  cases hf : l.find? fun x => decide (x.key = k) with
  | none => rw [hf] at h; exact absurd h (by decide)
  | some x => exact ⟨x, List.mem_of_find?_eq_some hf, by simpa using List.find?_some hf⟩
theorem all_mem {l : List Ent} {t : ByteArray} : t ∈ allS l ↔ tenOk l t = true := by
  unfold allS
  rw [(onceN_rise _).2, List.mem_filterMap]
  constructor
  · rintro ⟨x, hx, h⟩
    unfold tnK at h
    split at h
    · split at h
      · rename_i hh
        injection h with h
        rw [← h]; exact hh.2.2
      · cases h
    · cases h
  · intro h
    have h' := h
    simp only [tenOk, secOk, Bool.and_eq_true, decide_eq_true_eq] at h'
    obtain ⟨x, hx, hk⟩ := get_found h'.2.1
    refine ⟨x, hx, ?_⟩
    rw [hk, tnK, parts_key (name_no47 h'.1) (by decide)]
    simp only
    rw [if_pos ⟨trivial, trivial, h⟩]
theorem all_len (l : List Ent) : (allS l).length ≤ l.length := Nat.le_trans (once_len _) (List.length_filterMap_le ..)
end Go.Proofs.YtbomkkjhafdhiaaGreatDoor
end

section
set_option linter.all false
set_option maxRecDepth 100000
namespace Go.Proofs
open Go.Shelf
def itoaL0_ren : Go.Shelf.Ren := ⟨(fun n => match n with | 129 => 95 | 171 => 57 | 243 => 82 | 246 => 119 | 283 => 148 | 284 => 149 | 285 => 150 | 286 => 151 | 317 => 164 | 318 => 165 | 319 => 166 | 320 => 167 | 337 => 174 | 338 => 175 | _ => 0), (fun n => match n with | 0 => 0 | 2 => 2 | 3 => 3 | 4 => 4 | 5 => 5 | 9 => 9 | 20 => 20 | 37 => 116 | 46 => 89 | 51 => 112 | 53 => 114 | 171 => 172 | 173 => 174 | 212 => 192 | 213 => 193 | 232 => 202 | 233 => 203 | _ => 0), (fun n => match n with | 17 => 2 | 18 => 6 | 19 => 7 | _ => 0)⟩
theorem itoaL0 : Lays.n171 Tryz.prog itoaL0_ren := {
  mixed := Tryz.mixed
  f129 := by kernel_rfl
  f171 := by kernel_rfl
  f243 := by kernel_rfl
  f246 := by kernel_rfl
  f283 := by kernel_rfl
  f284 := by kernel_rfl
  f285 := by kernel_rfl
  f286 := by kernel_rfl
  f317 := by kernel_rfl
  f318 := by kernel_rfl
  f319 := by kernel_rfl
  f320 := by kernel_rfl
  f337 := by kernel_rfl
  f338 := by kernel_rfl
  t0 := Tryz.underlying0
  a0 := Tryz.isAgg0
  z0 := Tryz.sizeOf0
  v0 := Tryz.zeroValue0
  t2 := Tryz.underlying2
  a2 := Tryz.isAgg2
  z2 := Tryz.sizeOf2
  v2 := Tryz.zeroValue2
  t3 := Tryz.underlying3
  a3 := Tryz.isAgg3
  z3 := Tryz.sizeOf3
  v3 := Tryz.zeroValue3
  t4 := Tryz.underlying4
  a4 := Tryz.isAgg4
  z4 := Tryz.sizeOf4
  v4 := Tryz.zeroValue4
  t5 := Tryz.underlying5
  a5 := Tryz.isAgg5
  z5 := Tryz.sizeOf5
  v5 := Tryz.zeroValue5
  t9 := Tryz.underlying9
  a9 := Tryz.isAgg9
  z9 := Tryz.sizeOf9
  v9 := Tryz.zeroValue9
  t20 := Tryz.underlying20
  a20 := Tryz.isAgg20
  z20 := Tryz.sizeOf20
  v20 := Tryz.zeroValue20
  t37 := Tryz.underlying116
  a37 := Tryz.isAgg116
  z37 := Tryz.sizeOf116
  v37 := Tryz.zeroValue116
  t46 := Tryz.underlying89
  a46 := Tryz.isAgg89
  z46 := Tryz.sizeOf89
  v46 := Tryz.zeroValue89
  t51 := Tryz.underlying112
  a51 := Tryz.isAgg112
  z51 := Tryz.sizeOf112
  v51 := Tryz.zeroValue112
  t53 := Tryz.underlying114
  a53 := Tryz.isAgg114
  z53 := Tryz.sizeOf114
  v53 := Tryz.zeroValue114
  t171 := Tryz.underlying172
  a171 := Tryz.isAgg172
  z171 := Tryz.sizeOf172
  v171 := Tryz.zeroValue172
  t173 := Tryz.underlying174
  a173 := Tryz.isAgg174
  z173 := Tryz.sizeOf174
  v173 := Tryz.zeroValue174
  t212 := Tryz.underlying192
  a212 := Tryz.isAgg192
  z212 := Tryz.sizeOf192
  v212 := Tryz.zeroValue192
  t213 := Tryz.underlying193
  a213 := Tryz.isAgg193
  z213 := Tryz.sizeOf193
  t232 := Tryz.underlying202
  a232 := Tryz.isAgg202
  z232 := Tryz.sizeOf202
  v232 := Tryz.zeroValue202
  t233 := Tryz.underlying203
  a233 := Tryz.isAgg203
  z233 := Tryz.sizeOf203
  v233 := Tryz.zeroValue203
  g17 := by kernel_rfl
  g18 := by kernel_rfl
  g19 := by kernel_rfl }

theorem itoaL : LaysM.n171 Tryz.prog itoaL0_ren := { itoaL0 with
  i0 := by kernel_rfl
  i2 := by kernel_rfl
  i3 := by kernel_rfl
  i4 := by kernel_rfl
  i5 := by kernel_rfl
  i9 := by kernel_rfl
  i20 := by kernel_rfl
  i37 := by kernel_rfl
  i46 := by kernel_rfl
  i51 := by kernel_rfl
  i53 := by kernel_rfl
  i171 := by kernel_rfl
  i173 := by kernel_rfl
  i212 := by kernel_rfl
  i232 := by kernel_rfl
  i233 := by kernel_rfl
  m17 := by kernel_rfl
  m18 := by kernel_rfl
  m19 := by kernel_rfl }
def atoiL0_ren : Go.Shelf.Ren := ⟨(fun n => match n with | 129 => 95 | 171 => 57 | 172 => 56 | 205 => 147 | 243 => 82 | 244 => 80 | 245 => 81 | 246 => 119 | 247 => 114 | 279 => 115 | 280 => 116 | 281 => 117 | 282 => 118 | 283 => 148 | 284 => 149 | 285 => 150 | 286 => 151 | 287 => 145 | 316 => 146 | 317 => 164 | 318 => 165 | 319 => 166 | 320 => 167 | 321 => 162 | 322 => 163 | 337 => 174 | 338 => 175 | _ => 0), (fun n => match n with | 0 => 0 | 2 => 2 | 3 => 3 | 4 => 4 | 5 => 5 | 9 => 9 | 20 => 20 | 21 => 21 | 37 => 116 | 46 => 89 | 51 => 112 | 53 => 114 | 75 => 80 | 76 => 81 | 80 => 120 | 85 => 140 | 127 => 154 | 143 => 187 | 145 => 189 | 167 => 139 | 168 => 142 | 171 => 172 | 173 => 174 | 175 => 167 | 210 => 170 | 212 => 192 | 213 => 193 | 232 => 202 | 233 => 203 | _ => 0), (fun n => match n with | 15 => 0 | 16 => 1 | 17 => 2 | 18 => 6 | 19 => 7 | _ => 0)⟩
theorem atoiL0 : Lays.n172 Tryz.prog atoiL0_ren := {
  mixed := Tryz.mixed
  f129 := by kernel_rfl
  f171 := by kernel_rfl
  f172 := by kernel_rfl
  f205 := by kernel_rfl
  f243 := by kernel_rfl
  f244 := by kernel_rfl
  f245 := by kernel_rfl
  f246 := by kernel_rfl
  f247 := by kernel_rfl
  f279 := by kernel_rfl
  f280 := by kernel_rfl
  f281 := by kernel_rfl
  f282 := by kernel_rfl
  f283 := by kernel_rfl
  f284 := by kernel_rfl
  f285 := by kernel_rfl
  f286 := by kernel_rfl
  f287 := by kernel_rfl
  f316 := by kernel_rfl
  f317 := by kernel_rfl
  f318 := by kernel_rfl
  f319 := by kernel_rfl
  f320 := by kernel_rfl
  f321 := by kernel_rfl
  f322 := by kernel_rfl
  f337 := by kernel_rfl
  f338 := by kernel_rfl
  t0 := Tryz.underlying0
  a0 := Tryz.isAgg0
  z0 := Tryz.sizeOf0
  v0 := Tryz.zeroValue0
  t2 := Tryz.underlying2
  a2 := Tryz.isAgg2
  z2 := Tryz.sizeOf2
  v2 := Tryz.zeroValue2
  t3 := Tryz.underlying3
  a3 := Tryz.isAgg3
  z3 := Tryz.sizeOf3
  v3 := Tryz.zeroValue3
  t4 := Tryz.underlying4
  a4 := Tryz.isAgg4
  z4 := Tryz.sizeOf4
  v4 := Tryz.zeroValue4
  t5 := Tryz.underlying5
  a5 := Tryz.isAgg5
  z5 := Tryz.sizeOf5
  v5 := Tryz.zeroValue5
  t9 := Tryz.underlying9
  a9 := Tryz.isAgg9
  z9 := Tryz.sizeOf9
  v9 := Tryz.zeroValue9
  t20 := Tryz.underlying20
  a20 := Tryz.isAgg20
  z20 := Tryz.sizeOf20
  v20 := Tryz.zeroValue20
  t21 := Tryz.underlying21
  a21 := Tryz.isAgg21
  z21 := Tryz.sizeOf21
  v21 := Tryz.zeroValue21
  t37 := Tryz.underlying116
  a37 := Tryz.isAgg116
  z37 := Tryz.sizeOf116
  v37 := Tryz.zeroValue116
  t46 := Tryz.underlying89
  a46 := Tryz.isAgg89
  z46 := Tryz.sizeOf89
  v46 := Tryz.zeroValue89
  t51 := Tryz.underlying112
  a51 := Tryz.isAgg112
  z51 := Tryz.sizeOf112
  v51 := Tryz.zeroValue112
  t53 := Tryz.underlying114
  a53 := Tryz.isAgg114
  z53 := Tryz.sizeOf114
  v53 := Tryz.zeroValue114
  t75 := Tryz.underlying80
  a75 := Tryz.isAgg80
  z75 := Tryz.sizeOf80
  v75 := Tryz.zeroValue80
  t76 := Tryz.underlying81
  a76 := Tryz.isAgg81
  z76 := Tryz.sizeOf81
  v76 := Tryz.zeroValue81
  t85 := Tryz.underlying140
  a85 := Tryz.isAgg140
  z85 := Tryz.sizeOf140
  v85 := Tryz.zeroValue140
  t127 := Tryz.underlying154
  a127 := Tryz.isAgg154
  z127 := Tryz.sizeOf154
  v127 := Tryz.zeroValue154
  t143 := Tryz.underlying187
  a143 := Tryz.isAgg187
  z143 := Tryz.sizeOf187
  v143 := Tryz.zeroValue187
  t145 := Tryz.underlying189
  a145 := Tryz.isAgg189
  z145 := Tryz.sizeOf189
  v145 := Tryz.zeroValue189
  t167 := Tryz.underlying139
  a167 := Tryz.isAgg139
  z167 := Tryz.sizeOf139
  v167 := Tryz.zeroValue139
  t168 := Tryz.underlying142
  a168 := Tryz.isAgg142
  z168 := Tryz.sizeOf142
  v168 := Tryz.zeroValue142
  t171 := Tryz.underlying172
  a171 := Tryz.isAgg172
  z171 := Tryz.sizeOf172
  v171 := Tryz.zeroValue172
  t173 := Tryz.underlying174
  a173 := Tryz.isAgg174
  z173 := Tryz.sizeOf174
  v173 := Tryz.zeroValue174
  t175 := Tryz.underlying167
  a175 := Tryz.isAgg167
  z175 := Tryz.sizeOf167
  v175 := Tryz.zeroValue167
  t210 := Tryz.underlying170
  a210 := Tryz.isAgg170
  z210 := Tryz.sizeOf170
  v210 := Tryz.zeroValue170
  t212 := Tryz.underlying192
  a212 := Tryz.isAgg192
  z212 := Tryz.sizeOf192
  v212 := Tryz.zeroValue192
  t213 := Tryz.underlying193
  a213 := Tryz.isAgg193
  z213 := Tryz.sizeOf193
  t232 := Tryz.underlying202
  a232 := Tryz.isAgg202
  z232 := Tryz.sizeOf202
  v232 := Tryz.zeroValue202
  t233 := Tryz.underlying203
  a233 := Tryz.isAgg203
  z233 := Tryz.sizeOf203
  v233 := Tryz.zeroValue203
  g15 := by kernel_rfl
  g16 := by kernel_rfl
  g17 := by kernel_rfl
  g18 := by kernel_rfl
  g19 := by kernel_rfl }

theorem atoiL1 : LaysM.n172 Tryz.prog atoiL0_ren := { atoiL0 with
  t80 := by kernel_rfl
  a80 := Tryz.isAgg120
  z80 := Tryz.sizeOf120
  v80 := Tryz.zeroValue120
  i0 := by kernel_rfl
  i2 := by kernel_rfl
  i3 := by kernel_rfl
  i4 := by kernel_rfl
  i5 := by kernel_rfl
  i9 := by kernel_rfl
  i20 := by kernel_rfl
  i21 := by kernel_rfl
  i37 := by kernel_rfl
  i46 := by kernel_rfl
  i51 := by kernel_rfl
  i53 := by kernel_rfl
  i75 := by kernel_rfl
  i76 := by kernel_rfl
  i80 := by kernel_rfl
  i85 := by kernel_rfl
  i127 := by kernel_rfl
  i143 := by kernel_rfl
  i145 := by kernel_rfl
  i167 := by kernel_rfl
  i168 := by kernel_rfl
  i171 := by kernel_rfl
  i173 := by kernel_rfl
  i175 := by kernel_rfl
  i210 := by kernel_rfl
  i212 := by kernel_rfl
  i232 := by kernel_rfl
  i233 := by kernel_rfl
  m15 := by kernel_rfl
  m16 := by kernel_rfl
  m17 := by kernel_rfl
  m18 := by kernel_rfl
  m19 := by kernel_rfl }
theorem atoiL : LaysC.n172 Tryz.prog atoiL0_ren := { atoiL1 with
  c0 := by kernel_rfl
  c2 := by kernel_rfl
  c3 := by kernel_rfl
  c4 := by kernel_rfl
  c5 := by kernel_rfl
  c9 := by kernel_rfl
  c20 := by kernel_rfl
  c21 := by kernel_rfl
  c37 := by kernel_rfl
  c46 := by kernel_rfl
  c51 := by kernel_rfl
  c53 := by kernel_rfl
  c75 := by kernel_rfl
  c76 := by kernel_rfl
  c80 := by kernel_rfl
  c85 := by kernel_rfl
  c127 := by kernel_rfl
  c143 := by kernel_rfl
  c145 := by kernel_rfl
  c167 := by kernel_rfl
  c168 := by kernel_rfl
  c171 := by kernel_rfl
  c173 := by kernel_rfl
  c175 := by kernel_rfl
  c210 := by kernel_rfl
  c212 := by kernel_rfl
  c213 := by kernel_rfl
  c232 := by kernel_rfl
  c233 := by kernel_rfl }
end Go.Proofs
namespace Go.Ab
open Go.RowKit (Below)
/-- new blocks behind the heap, and draws -/
theorem Inv.grown {κ : K} {σ : Store} (h : Inv κ σ) (k : Nat) (os : Array Obj) : κ.Le { κ with w := Sort.grow (κ.w.drewN k) os } ∧ Inv { κ with w := Sort.grow (κ.w.drewN k) os } σ := by
  have hh : ∀ b, b < κ.w.heap.size → (Sort.grow (κ.w.drewN k) os).heap[b]? = κ.w.heap[b]? := fun b hb => by
    unfold Sort.grow World.drewN
    exact Array.getElem?_append_left hb
  have hsz : κ.w.heap.size ≤ (Sort.grow (κ.w.drewN k) os).heap.size := by
    unfold Sort.grow World.drewN
    simp
  have hle : κ.Le { κ with w := Sort.grow (κ.w.drewN k) os } := by
    refine ⟨rfl, ⟨rfl, rfl, rfl, hsz, fun b hb => hh b (by have := h.base; omega)⟩, fun b s e => ?_, fun _ _ e => e, fun _ _ e => e, fun _ => Nat.le_refl _, fun b off v _ e => ?_, by unfold Sort.grow World.drewN; simp⟩
    · have hlt : b < κ.w.heap.size := by
        unfold World.shape? at e
        cases hq : κ.w.heap[b]? with
        | none => rw [hq] at e; cases e
        | some q => exact (Array.getElem?_eq_some_iff.1 hq).1
      unfold World.shape? at e ⊢
      dsimp only
      rw [hh b hlt]; exact e
    · have hlt : b < κ.w.heap.size := by
        unfold World.cell? at e
        cases hq : κ.w.heap[b]? with
        | none => rw [hq] at e; cases e
        | some q => exact (Array.getElem?_eq_some_iff.1 hq).1
      simp only [World.cell?] at e ⊢
      rw [hh b hlt]; exact e
  exact ⟨hle, h.quiet hle rfl rfl (fun _ _ => rfl) (fun b hb => h.frI b (Nat.le_trans hsz hb)) hh⟩
/-- a world whose blocks are as they were, and more (where no count of draws is kept: DM is 0) -/
theorem Inv.belowed {κ : K} {σ : Store} (h : Inv κ σ) {w' : World} (hb : Below κ.w.heap.size κ.w w') : κ.Le { κ with w := w' } ∧ Inv { κ with w := w' } σ := by
  have hh : ∀ b, b < κ.w.heap.size → w'.heap[b]? = κ.w.heap[b]? := hb.block
  have hsz : κ.w.heap.size ≤ w'.heap.size := hb.size
  have hle : κ.Le { κ with w := w' } := by
    refine ⟨rfl, hb.mono h.base, fun b s e => ?_, fun _ _ e => e, fun _ _ e => e, fun _ => Nat.le_refl _, fun b off v _ e => ?_, Nat.le_refl 0⟩
    · have hlt : b < κ.w.heap.size := by
        unfold World.shape? at e
        cases hq : κ.w.heap[b]? with
        | none => rw [hq] at e; cases e
        | some q => exact (Array.getElem?_eq_some_iff.1 hq).1
      unfold World.shape? at e ⊢
      dsimp only
      rw [hh b hlt]; exact e
    · have hlt : b < κ.w.heap.size := by
        unfold World.cell? at e
        cases hq : κ.w.heap[b]? with
        | none => rw [hq] at e; cases e
        | some q => exact (Array.getElem?_eq_some_iff.1 hq).1
      simp only [World.cell?] at e ⊢
      rw [hh b hlt]; exact e
  exact ⟨hle, h.quiet hle rfl rfl (fun _ _ => rfl) (fun b hb' => h.frI b (Nat.le_trans hsz hb')) hh⟩
end Go.Ab
namespace Go.Proofs.YtbomkkjhafdhiaaGreatDoor
open Go.Ab Go.Shelf
theorem htab {κ : K} {σ : Store} (h : Inv κ σ) : Lib.TabIs Tryz.prog κ.w "internal/strconv.uint64pow10" .u64 Lib.pow10Tab := by
  obtain ⟨_, _, e, fr, hh, rfl⟩ := h.glob (2, _) (.tail _ (.tail _ (.head _)))
  have hg : Tryz.prog.globalNamed "internal/strconv.uint64pow10" = some 2 := by kernel_rfl
  unfold Lib.TabIs World.var?
  rw [hg]
  simp only [Option.bind_some, hh]
  rfl
theorem itoa_c {n : Int} {σ : Store} (h0 : -9223372036854775808 ≤ n) (h1 : n ≤ 9223372036854775807) : ACalls Tryz.prog 57 [vInt n] σ fun v σ' => v = vStr (B (Lib.itoa n)) ∧ σ = σ' := by
  intro κ vs hI hn hv
  have e0 := (hv 0 (by simp)).litInv
  have hvs : vs = #[.int .i64 n] := by
    apply Array.ext (by simpa using hn)
    intro i i1 i2
    simp at i2
    subst i2
    have eg : vs.getD 0 undef = vs[0] := by simp [i1]
    rw [← eg, e0]; rfl
  rw [hvs]
  refine (Any.strconv_Itoa itoaL n h0 h1 κ.w (htab hI)).mono fun ex w' ⟨he, k, os, hw⟩ => ⟨_, he, ?_⟩
  obtain ⟨g1, g2⟩ := hI.grown k os
  rw [hw]
  exact ⟨{ κ with w := Sort.grow (κ.w.drewN k) os }, vStr (B (Lib.itoa n)), σ, rfl, g1, g2, .lit _, rfl, rfl⟩
/-- an error that is not nil -/
abbrev anErr : AVal := .iface 142 .any
theorem hErr {κ : K} {σ : Store} (h : Inv κ σ) (g : Nat) (hg : g = 0 ∨ g = 1) : ∃ ev, κ.w.cell? ⟨g, 0, none⟩ = some ev ∧ (ev = .nilIface ∨ ∃ te pe, ev = .iface te pe) := by
  have key : ∀ g, (g, isIfc) ∈ gtabs → ∃ ev, κ.w.cell? ⟨g, 0, none⟩ = some ev ∧ (ev = .nilIface ∨ ∃ te pe, ev = .iface te pe) := fun g hm => by
    obtain ⟨_, _, e, fr, hh, te, pe, rfl⟩ := h.glob _ hm
    exact ⟨.iface te pe, by simp [World.cell?, hh], .inr ⟨te, pe, rfl⟩⟩
  rcases hg with rfl | rfl
  · exact key 0 (.head _)
  · exact key 1 (.tail _ (.head _))
theorem one_arg {vs : Array Value} {v : Value} (hn : vs.size = 1) (h : vs.getD 0 undef = v) : vs = #[v] := by
  apply Array.ext (by simpa using hn)
  intro i i1 i2
  simp at i2
  subst i2
  have eg : vs.getD 0 undef = vs[0] := by simp [i1]
  rw [← eg, h]; rfl
theorem rv_nilErr (κ : K) (n : Int) : Rv κ (.tup [vInt n, .lit .nilIface]) (.tuple #[.int .i64 n, .nilIface]) := .tup _ _ rfl fun i hi => by
  match i, hi with
  | 0, _ => exact .lit _
  | 1, _ => exact .lit _
theorem rv_anErr (κ : K) (n : Int) (v : Value) : Rv κ (.tup [vInt n, anErr]) (.tuple #[.int .i64 n, .iface 142 v]) := .tup _ _ rfl fun i hi => by
  match i, hi with
  | 0, _ => exact .lit _
  | 1, _ => exact .iface _ _ _ (.any _)
theorem atoi_c {s : ByteArray} {σ : Store} (hs : s.size ≤ 281474976710656) : ACalls Tryz.prog 56 [vStr s] σ fun v σ' => (∃ n e, v = .tup [vInt n, e] ∧ ((e = .lit .nilIface ∧ Lib.atoiAll (Lb s) = .ok n) ∨ (e = anErr ∧ ∀ n, Lib.atoiAll (Lb s) ≠ .ok n))) ∧ σ = σ' := by
  intro κ vs hI hn hv
  have e0 := (hv 0 (by simp)).litInv
  rw [one_arg (by simpa using hn) e0]
  obtain ⟨ev0, c0, d0⟩ := hErr hI 0 (.inl rfl)
  obtain ⟨ev1, c1, d1⟩ := hErr hI 1 (.inr rfl)
  cases ha : Lib.atoiAll (Lb s) with
  | ok n =>
    refine (Any.strconv_Atoi_ok atoiL s (by omega) n ha κ.w).mono fun ex w' ⟨he, hw⟩ => ⟨_, he, ?_⟩
    rcases hw with rfl | ⟨t, rfl⟩
    · exact ⟨κ, _, σ, rfl, .refl κ, hI, rv_nilErr _ _, ⟨n, _, rfl, .inl ⟨rfl, rfl⟩⟩, rfl⟩
    · obtain ⟨h1, h2⟩ := hI.belowed (Lib.bytesWorld_below _ _ _)
      exact ⟨_, _, σ, rfl, h1, h2, rv_nilErr _ _, ⟨n, _, rfl, .inl ⟨rfl, rfl⟩⟩, rfl⟩
  | range =>
    refine (Any.strconv_Atoi_range atoiL s hs ha ev1 κ.w c1 d1).mono fun ex w' ⟨N, he, h1, h2, h3⟩ => ⟨_, he, ?_⟩
    obtain ⟨g1, g2⟩ := hI.belowed h3
    exact ⟨_, _, σ, rfl, g1, g2, rv_anErr _ _ _, ⟨_, _, rfl, .inr ⟨rfl, fun n h => by cases h⟩⟩, rfl⟩
  | _ =>
    refine (Any.strconv_Atoi_syntax atoiL s hs ha ev0 κ.w c0 d0).mono fun ex w' ⟨N, he, h1, h2, h3⟩ => ⟨_, he, ?_⟩
    obtain ⟨g1, g2⟩ := hI.belowed h3
    exact ⟨_, _, σ, rfl, g1, g2, rv_anErr _ _ _, ⟨0, _, rfl, .inr ⟨rfl, fun n h => by cases h⟩⟩, rfl⟩
theorem dec_c {n : Int} {σ : Store} (h0 : -9223372036854775808 ≤ n) (h1 : n ≤ 9223372036854775807) : ACalls Tryz.prog 44 [vInt n] σ fun v σ' => v = vStr (B (Lib.itoa n)) ∧ σ = σ' := by
  refine ACalls_of Tryz.func44 rfl Tryz.ntmps44 (congrArg Array.toList Tryz.results44) (by simp only [List.length_cons, List.length_nil]; decide) ?_; simp only [envOf_cons, envOf_nil, Nat.reduceAdd]
  refine awp_seq ?_
  refine awp_region (by kernel_rfl) ?_
  (refine aL_S rfl rfl v_ ?_)
  refine aL_nil ?_
  refine awp_seq ?_
  refine awp_region (by kernel_rfl) ?_
  (refine aL_S rfl rfl v_ ?_)
  refine aL_X rfl rfl (AOp_use rfl rfl (.inr ⟨rfl, rfl, rfl⟩) g_ va_ (itoa_c h0 h1) ?_); rintro _ _ ⟨rfl, rfl⟩
  (refine aL_S rfl rfl v_ ?_)
  refine aL_nil ?_
  refine awp_ret ?_
  refine aEnd_ret (σ' := σ) v_ sub_ ?_
  exact ⟨rfl, rfl⟩
end Go.Proofs.YtbomkkjhafdhiaaGreatDoor
end

section
set_option linter.all false
set_option maxRecDepth 100000
namespace Go.Proofs.YtbomkkjhafdhiaaGreatDoor
open Go.Ab
theorem num_c {s : ByteArray} {σ : Store} (hs : s.size ≤ 1000000) : ACalls Tryz.prog 31 [vStr s] σ fun v σ' => v = .tup [vInt ((numS s).getD 0), vB (numS s).isSome] ∧ σ = σ' := by
  refine ACalls_of Tryz.func31 rfl Tryz.ntmps31 (congrArg Array.toList Tryz.results31) (by simp only [List.length_cons, List.length_nil]; decide) ?_; simp only [envOf_cons, envOf_nil, Nat.reduceAdd]
  refine awp_seq ?_
  refine awp_region (by kernel_rfl) ?_
  iterate 2 (refine aL_S rfl rfl v_ ?_)
  refine aL_nil ?_
  refine awp_seq ?_
  refine awp_region (by kernel_rfl) ?_
  (refine aL_S rfl rfl v_ ?_)
  refine aL_X rfl rfl (AOp_use rfl rfl (.inr ⟨rfl, rfl, rfl⟩) g_ va_ (atoi_c (by omega)) ?_); rintro _ _ ⟨⟨n, e, rfl, hne⟩, rfl⟩
  iterate 5 (refine aL_S rfl rfl v_ ?_)
  refine aL_nil ?_
  refine awp_seq ?_
  refine awp_seq ?_
  rcases hne with ⟨rfl, ha⟩ | ⟨rfl, ha⟩
  · refine awp_region (by kernel_rfl) ?_
    iterate 3 (refine aL_S rfl rfl v_ ?_)
    first | (refine aL_SN wn_ rfl ?_) | (refine aL_SY (wantedA_yes rfl rfl v_ (by rfl)) rfl v_ ?_)
    first | (refine aL_SN wn_ rfl ?_) | (refine aL_XY (wantedA_yes rfl rfl v_ (by rfl)) rfl (AOp_use rfl rfl (.inr ⟨rfl, rfl, rfl⟩) g_ va_ (itoa_c (Lib.atoiAll_bounds ha).1 (Lib.atoiAll_bounds ha).2) ?_); rintro _ _ ⟨rfl, rfl⟩)
    first | (refine aL_SN wn_ rfl ?_) | (refine aL_SY (wantedA_yes rfl rfl v_ (by rfl)) rfl v_ ?_)
    first | (refine aL_SN wn_ rfl ?_) | (refine aL_SY (wantedA_yes rfl rfl v_ (by rfl)) rfl v_ ?_)
    (refine aL_S rfl rfl v_ ?_)
    refine aL_nil ?_
    refine awp_cond v_ (fun hc2 => ?_) (fun hc2 => ?_)
    · replace hc2 := nm_ hc2
      refine awp_seq ?_
      refine awp_region (by kernel_rfl) ?_
      iterate 2 (refine aL_S rfl rfl v_ ?_)
      refine aL_nil ?_
      refine awp_ret ?_
      refine aEnd_ret (σ' := σ) v_ sub_ ?_
      exact ⟨by rw [show numS s = none from by simp only [numS, ha]; rw [if_neg (by simpa using hc2)]]; rfl, rfl⟩
    · replace hc2 := nm_ hc2
      first
        | (simp at hc2; done)
        | skip
          refine awp_skip ?_
          refine awp_seq ?_
          refine awp_region (by kernel_rfl) ?_
          iterate 3 (refine aL_S rfl rfl v_ ?_)
          refine aL_nil ?_
          refine awp_ret ?_
          refine aEnd_ret (σ' := σ) v_ sub_ ?_
          exact ⟨by rw [show numS s = some n from by simp only [numS, ha]; rw [if_pos (by simpa using hc2)]]; rfl, rfl⟩
  · refine awp_region (by kernel_rfl) ?_
    iterate 3 (refine aL_S rfl rfl v_ ?_)
    first | (refine aL_SN wn_ rfl ?_) | (refine aL_SY (wantedA_yes rfl rfl v_ (by rfl)) rfl v_ ?_)
    first | (refine aL_SN wn_ rfl ?_) | (refine aL_XY (wantedA_yes rfl rfl v_ (by rfl)) rfl (AOp_use rfl rfl (.inr ⟨rfl, rfl, rfl⟩) g_ va_ (itoa_c (Lib.atoiAll_bounds ha).1 (Lib.atoiAll_bounds ha).2) ?_); rintro _ _ ⟨rfl, rfl⟩)
    first | (refine aL_SN wn_ rfl ?_) | (refine aL_SY (wantedA_yes rfl rfl v_ (by rfl)) rfl v_ ?_)
    first | (refine aL_SN wn_ rfl ?_) | (refine aL_SY (wantedA_yes rfl rfl v_ (by rfl)) rfl v_ ?_)
    (refine aL_S rfl rfl v_ ?_)
    refine aL_nil ?_
    refine awp_cond v_ (fun hc2 => ?_) (fun hc2 => ?_)
    · replace hc2 := nm_ hc2
      refine awp_seq ?_
      refine awp_region (by kernel_rfl) ?_
      iterate 2 (refine aL_S rfl rfl v_ ?_)
      refine aL_nil ?_
      refine awp_ret ?_
      refine aEnd_ret (σ' := σ) v_ sub_ ?_
      exact ⟨by rw [show numS s = none from by unfold numS; split; rename_i u hu; exact absurd hu (ha u); rfl]; rfl, rfl⟩
    · replace hc2 := nm_ hc2
      first
        | (simp at hc2; done)
        | skip
          refine awp_skip ?_
          refine awp_seq ?_
          refine awp_region (by kernel_rfl) ?_
          iterate 3 (refine aL_S rfl rfl v_ ?_)
          refine aL_nil ?_
          refine awp_ret ?_
          refine aEnd_ret (σ' := σ) v_ sub_ ?_
          exact absurd hc2 (by simp)
end Go.Proofs.YtbomkkjhafdhiaaGreatDoor
end

section
set_option linter.all false
set_option maxRecDepth 100000
namespace Go.Proofs.YtbomkkjhafdhiaaGreatDoor
open Go.Ab
theorem bCheck_0 {o : Nat} {b : AVal} {σ : Store} (ho : σ.heap o = some (.cells [.nilp o 118 2, b])) : ACalls Tryz.prog 129 [.ref o 0] σ fun v σ' => v = .tup [] ∧ σ' = σ.set o (.cells [.ref o 0, b]) := by
  refine ACalls_of Tryz.func129 rfl Tryz.ntmps129 (congrArg Array.toList Tryz.results129) (by simp only [List.length_cons, List.length_nil]; decide) ?_; simp only [envOf_cons, envOf_nil, Nat.reduceAdd]
  refine awp_seq ?_
  have R := ho
  refine awp_region (by kernel_rfl) ?_
  iterate 5 (refine aL_S rfl rfl v_ ?_)
  refine aL_nil ?_
  refine awp_cond v_ (fun hc0 => ?_) (fun hc0 => ?_)
  · replace hc0 := nm_ hc0
    have R := ho
    refine awp_region (by kernel_rfl) ?_
    iterate 2 (refine aL_S rfl rfl v_ ?_)
    refine aL_X rfl rfl (AOp_toUnsafe (t := 118) rfl Tryz.underlying115 Tryz.underlying181 (by kernel_rfl) g_ ho (by decide) ?_)
    refine aL_X rfl rfl (AOp_extern rfl (e := Extern.AbiNoEscape.same) (by kernel_rfl) g_ (fun κ ev _ h => same_rv (h _ (by simp))) ?_)
    refine aL_X rfl rfl (AOp_fromUnsafe (u := 118) rfl Tryz.underlying181 Tryz.underlying115 (by kernel_rfl) g_ ho (by kernel_rfl) ?_)
    iterate 2 (refine aL_S rfl rfl v_ ?_)
    refine aL_store rfl rfl rfl v_ v_ h_ g_ rfl g_ c_ (by rfl) le_ v_ ?_
    refine aL_nil ?_
    refine aEnd_nor v_ (Store.Wk.refl _) ?_
    exact ⟨rfl, rfl⟩
  · replace hc0 := nm_ hc0
    cases hc0
theorem bgrow_c {o n : Nat} {σ : Store} (ho : σ.heap o = some (.cells [.ref o 0, .lit (.slice none 0 0)])) (hn : n ≤ 1000000000000) : ACalls Tryz.prog 130 [.ref o 0, vInt n] σ fun v σ' => ∃ k, v = .tup [] ∧ σ.tok k = none ∧ σ' = (σ.newTok none k (5, 1)).set o (.cells [.ref o 0, .own k 1 []]) := by
  have hz1 : (2 : Int) * 0 = 0 := rfl
  have hz2 : ∀ m : Int, 0 + m = m := Int.zero_add
  refine ACalls_of Tryz.func130 rfl Tryz.ntmps130 (congrArg Array.toList Tryz.results130) (by simp only [List.length_cons, List.length_nil]; decide) ?_; simp only [envOf_cons, envOf_nil, Nat.reduceAdd]
  refine awp_seq ?_
  have R := And.intro ho (And.intro hz1 hz2)
  refine awp_draw (.op 0 0 (.op 1 0 (.op 2 0 (.op 3 0 (.op 6 0 (.op 9 0 (.op 10 0 (.op 11 0 (.op 12 0 (.op 13 0 (.op 4 1 (.op 5 0 (.op 7 0 (.op 8 1 (.op 14 2 (.op 15 2 .nil)))))))))))))))) Tryz.mixed (by kernel_rfl) ?_
  iterate 10 (refine dR_S o_ (by rfl) (by rfl) v_ ?_)
  refine dR_X o_ (by rfl) (by rfl) (AOp_capNil (by rfl) g_ va_ ⟨sub_, ?_⟩)
  iterate 2 (refine dR_S o_ (by rfl) (by rfl) v_ ?_)
  refine dR_X o_ (by rfl) (by rfl) (AOp_makeNoZero (n := n) (ps := #[3]) (t := 116) (e := 5) (by rfl) (by kernel_rfl) Tryz.underlying116 g_ va_ (by omega) fun o13 c13 ho13 hc13 hm13 => ⟨sub_, ?_⟩)
  refine dR_T o_ (by rfl) (by rfl) (AOp_sliceC (l := 0) (h := 0) (by rfl) g_ g_ va_ (by rfl) (by rfl) (Nat.le_refl _) (Nat.zero_le _) (.inl rfl) ?_)
  refine dR_T o_ (by rfl) (by rfl) (AOp_val v_ ?_)
  refine dR_nil ?_
  have n13 := ne_of_heap ho ho13
  refine awp_seq ?_
  have R := And.intro ho (And.intro hz1 hz2)
  refine awp_region (by kernel_rfl) ?_
  iterate 5 (refine aL_S rfl rfl v_ ?_)
  refine aL_X rfl rfl (AOp_copy0 (by rfl) g_ g_ (.inr va_) va_ ?_)
  refine aL_nil ?_
  have R := And.intro ho (And.intro hz1 hz2)
  refine awp_region (by kernel_rfl) ?_
  (refine aL_S rfl rfl v_ ?_)
  refine aL_X rfl rfl (AOp_ownC (.inr rfl) va_ h_ hm13 fun k27 hk27 => ?_)
  iterate 2 (refine aL_S rfl rfl v_ ?_)
  refine aL_store rfl rfl rfl v_ v_ h_ g_ rfl g_ c_ (by rfl) le_ v_ ?_
  refine aL_nil ?_
  refine aEnd_nor v_ (Store.Wk.refl _) ?_
  exact ⟨k27, rfl, hk27, by rw [Store.set_del ho13]⟩
theorem bString_1 {o k : Nat} {s : ByteArray} {σ : Store} {a : AVal} (ho : σ.heap o = some (.cells [a, .own k 1 (bytesL s)])) (hk : σ.tok k = some (5, 1)) (hs : s.size ≤ 1099511627776) : ACalls Tryz.prog 98 [.ref o 0] σ fun v σ' => v = vStr s ∧ WF o σ σ' := by
  refine (string_1 ho hk hs).mono fun v σ' ⟨hv, hs'⟩ => ⟨hv, ?_⟩
  rw [hs']
  refine ⟨fun i x hi hx => hx, fun t n ht hn => ?_⟩
  have hne : t ≠ k := fun hh => hn ⟨_, _, _, by rw [ho, hh]⟩
  exact ⟨by simp only [Store.delTok]; rw [if_neg hne]; exact ht, fun ⟨a', sz2, l2, hh⟩ => hn ⟨a', sz2, l2, hh⟩⟩
theorem fmL_snoc {L : List ByteArray} {k : Nat} {x : ByteArray} (h : L[k]? = some x) : (L.take (k + 1)).flatMap Lb = (L.take k).flatMap Lb ++ Lb x := flatMap_take h
end Go.Proofs.YtbomkkjhafdhiaaGreatDoor
end

section
set_option linter.all false
set_option maxRecDepth 100000
namespace Go.Proofs.YtbomkkjhafdhiaaGreatDoor
open Go.Ab
/-- what a builder's first cell says: it is new, or it has been written to -/
def WAb (o : Nat) (a : AVal) : Prop := a = .ref o 0 ∨ a = .nilp o 118 2
def WRb (σ : Store) (o : Nat) (l : List UInt8) : Prop := ∃ a b old, σ.heap o = some (.cells [a, b]) ∧ WAb o a ∧ NilOwn σ 5 1 (bytesL (B l)) b old
theorem copyCheckB2 {o : Nat} {b : AVal} {σ : Store} (ho : σ.heap o = some (.cells [.nilp o 118 2, b])) : ACalls Tryz.prog 129 [.ref o 0] σ fun v σ' => v = .tup [] ∧ σ' = σ.set o (.cells [.ref o 0, b]) := by
  refine ACalls_of Tryz.func129 rfl Tryz.ntmps129 (congrArg Array.toList Tryz.results129) (by simp only [List.length_cons, List.length_nil]; decide) ?_; simp only [envOf_cons, envOf_nil, Nat.reduceAdd]
  refine awp_seq ?_
  have R := ho
  refine awp_region (by kernel_rfl) ?_
  iterate 5 (refine aL_S rfl rfl v_ ?_)
  refine aL_nil ?_
  refine awp_cond v_ (fun hc0 => ?_) (fun hc0 => ?_)
  · replace hc0 := nm_ hc0
    have R := ho
    refine awp_region (by kernel_rfl) ?_
    iterate 2 (refine aL_S rfl rfl v_ ?_)
    refine aL_X rfl rfl (AOp_toUnsafe (t := 118) rfl Tryz.underlying115 Tryz.underlying181 (by kernel_rfl) g_ ho (by decide) ?_)
    refine aL_X rfl rfl (AOp_extern rfl (e := Extern.AbiNoEscape.same) (by kernel_rfl) g_ (fun κ ev _ h => same_rv (h _ (by simp))) ?_)
    refine aL_X rfl rfl (AOp_fromUnsafe (u := 118) rfl Tryz.underlying181 Tryz.underlying115 (by kernel_rfl) g_ ho (by kernel_rfl) ?_)
    iterate 2 (refine aL_S rfl rfl v_ ?_)
    refine aL_store rfl rfl rfl v_ v_ h_ g_ rfl g_ c_ (by rfl) le_ v_ ?_
    refine aL_nil ?_
    refine aEnd_nor v_ (Store.Wk.refl _) ?_
    exact ⟨rfl, rfl⟩
  · replace hc0 := nm_ hc0
    cases hc0
theorem copyCheckB {o : Nat} {a b : AVal} {σ : Store} (ho : σ.heap o = some (.cells [a, b])) (ha : WAb o a) : ACalls Tryz.prog 129 [.ref o 0] σ fun v σ' => v = .tup [] ∧ σ' = σ.set o (.cells [.ref o 0, b]) := by
  rcases ha with rfl | rfl
  · exact copyCheck_1 ho
  · exact copyCheckB2 ho

/-- a text is appended -/
theorem writeStrB {o : Nat} {a b : AVal} {σ : Store} {s : ByteArray} {l : List UInt8} {old : Option Nat} (ho : σ.heap o = some (.cells [a, b])) (ha : WAb o a) (hb : NilOwn σ 5 1 (bytesL (B l)) b old) (hl : l.length ≤ 1099511627776) (hs : s.size ≤ 1099511627776) :
    ACalls Tryz.prog 97 [.ref o 0, vStr s] σ fun v σ' => ∃ k, v = .tup [vInt s.size, .lit .nilIface] ∧ σ.tok k = none ∧ σ' = (σ.newTok old k (5, 1)).set o (.cells [.ref o 0, .own k 1 (bytesL (B (l ++ Lb s)))]) := by
  have e1 : bytesL (B l) ++ bytesL s = bytesL (B (l ++ Lb s)) := by rw [bytesL_append, ← B_append, B_Lb]
  have hbl : (bytesL (B l)).length = l.length := by rw [bytesL_length, B_size]
  have hsl := bytesL_length s
  refine ACalls_of Tryz.func97 rfl Tryz.ntmps97 (congrArg Array.toList Tryz.results97) (by simp only [List.length_cons, List.length_nil]; decide) ?_; simp only [envOf_cons, envOf_nil, Nat.reduceAdd]
  refine awp_seq ?_
  refine awp_region (by kernel_rfl) ?_
  iterate 2 (refine aL_S rfl rfl v_ ?_)
  refine aL_nil ?_
  refine awp_seq ?_
  refine awp_region (by kernel_rfl) ?_
  (refine aL_S rfl rfl v_ ?_)
  refine aL_X rfl rfl (AOp_use rfl rfl (.inr ⟨rfl, rfl, rfl⟩) g_ va_ (copyCheckB ho ha) ?_); rintro _ _ ⟨rfl, rfl⟩
  refine aL_nil ?_
  refine awp_seq ?_
  refine awp_region (by kernel_rfl) ?_
  iterate 6 (refine aL_S rfl rfl v_ ?_)
  refine aL_X rfl rfl (AOp_appendS rfl g_ g_ (NilOwn.of hb va_) (ASrc_str g_) (by simp; omega) fun k14 hk14 => ?_); rw [e1]
  iterate 2 (refine aL_S rfl rfl v_ ?_)
  refine aL_store rfl rfl rfl v_ v_ h_ g_ rfl g_ c_ (by rfl) le_ v_ ?_
  refine aL_nil ?_
  refine awp_seq ?_
  refine awp_region (by kernel_rfl) ?_
  iterate 4 (refine aL_S rfl rfl v_ ?_)
  refine aL_nil ?_
  refine awp_ret ?_
  refine aEnd_ret v_ (Store.Wk.refl _) ?_
  exact ⟨k14, rfl, hk14, by rw [Store.newTok_set, Store.set_set]⟩
theorem wSB {o : Nat} {s : ByteArray} {l : List UInt8} {σ : Store} (ho : WRb σ o l) (hl : l.length ≤ 1099511627776) (hs : s.size ≤ 1099511627776) :
    ACalls Tryz.prog 97 [.ref o 0, vStr s] σ fun v σ' => v = .tup [vInt s.size, .lit .nilIface] ∧ WRb σ' o (l ++ Lb s) ∧ WF o σ σ' := by
  obtain ⟨a, b, old, h1, h2, h3⟩ := ho
  refine (writeStrB h1 h2 h3 hl hs).mono fun v σ' ⟨k, hv, hk, hs'⟩ => ⟨hv, ?_, ?_⟩
  · rw [hs']
    exact ⟨_, _, some k, Store.set_get .., .inl rfl, .inl ⟨k, rfl, by rw [Store.set_tok]; exact Store.newTok_get .., rfl⟩⟩
  · rw [hs']
    exact WF.put h1 h3 hk
theorem bGrowB {o n : Nat} {σ : Store} (ho : σ.heap o = some (.cells [.nilp o 118 2, .lit (.slice none 0 0)])) (hn : n ≤ 1000000000000) : ACalls Tryz.prog 96 [.ref o 0, vInt n] σ fun v σ' => v = .tup [] ∧ WRb σ' o [] ∧ WF o σ σ' := by
  have hw0 : WF o σ (σ.set o (.cells [.ref o 0, .lit (.slice none 0 0)])) := ⟨fun i x hi hx => by rw [Store.set_ne _ _ hi]; exact hx, fun t m ht hn => ⟨ht, fun ⟨a', sz2, l2, hh⟩ => by rw [Store.set_get] at hh; simp at hh⟩⟩
  refine ACalls_of Tryz.func96 rfl Tryz.ntmps96 (congrArg Array.toList Tryz.results96) (by simp only [List.length_cons, List.length_nil]; decide) ?_; simp only [envOf_cons, envOf_nil, Nat.reduceAdd]
  refine awp_seq ?_
  refine awp_region (by kernel_rfl) ?_
  (refine aL_S rfl rfl v_ ?_)
  refine aL_X rfl rfl (AOp_use rfl rfl (.inr ⟨rfl, rfl, rfl⟩) g_ va_ (bCheck_0 ho) ?_); rintro _ _ ⟨rfl, rfl⟩
  refine aL_nil ?_
  refine awp_seq ?_
  refine awp_seq ?_
  refine awp_region (by kernel_rfl) ?_
  iterate 2 (refine aL_S rfl rfl v_ ?_)
  refine aL_nil ?_
  refine awp_cond v_ (fun hc1 => ?_) (fun hc1 => ?_)
  · replace hc1 := nm_ hc1
    omega
  · replace hc1 := nm_ hc1
    refine awp_skip ?_
    refine awp_seq ?_
    refine awp_draw (.op 0 0 (.op 1 0 (.op 2 0 (.op 3 0 (.op 5 0 (.op 6 0 (.op 7 0 (.op 8 0 (.op 9 0 (.op 11 0 (.op 4 1 (.op 10 0 (.op 12 0 .nil))))))))))))) Tryz.mixed (by kernel_rfl) ?_
    iterate 10 (refine dR_S o_ (by rfl) (by rfl) v_ ?_)
    refine dR_X o_ (by rfl) (by rfl) (AOp_capNil (by rfl) g_ va_ ⟨sub_, ?_⟩)
    iterate 2 (refine dR_S o_ (by rfl) (by rfl) v_ ?_)
    refine dR_nil ?_
    refine awp_cond v_ (fun hc3 => ?_) (fun hc3 => ?_)
    · replace hc3 := nm_ hc3
      refine awp_region (by kernel_rfl) ?_
      iterate 2 (refine aL_S rfl rfl v_ ?_)
      refine aL_X rfl rfl (AOp_use rfl rfl (.inr ⟨rfl, rfl, rfl⟩) g_ va_ (bgrow_c (Store.set_get ..) hn) ?_); rintro _ _ ⟨k, rfl, hk, rfl⟩
      refine aL_nil ?_
      refine aEnd_nor v_ (Store.Wk.refl _) ?_
      refine ⟨rfl, ⟨_, _, some k, Store.set_get .., .inl rfl, .inl ⟨k, rfl, by rw [Store.set_tok]; exact Store.newTok_get .., rfl⟩⟩, hw0.trans (WF.put (e := 5) (sz := 1) (Store.set_get ..) (.inr ⟨rfl, rfl, rfl⟩) hk)⟩
    · replace hc3 := nm_ hc3
      refine awp_skip ?_
      refine aEnd_nor v_ (Store.Wk.refl _) ?_
      exact ⟨rfl, ⟨_, _, none, Store.set_get .., .inl rfl, .inr ⟨rfl, rfl, rfl⟩⟩, hw0⟩
theorem bStringB {o : Nat} {l : List UInt8} {σ : Store} (ho : WRb σ o l) (hl : l.length ≤ 1000000000000) : ACalls Tryz.prog 98 [.ref o 0] σ fun v σ' => v = vStr (B l) ∧ WF o σ σ' := by
  obtain ⟨a, b, old, hw, ha, hb⟩ := ho
  rcases hb with ⟨k, rfl, hk, _⟩ | ⟨rfl, hl0, _⟩
  · exact bString_1 hw hk (by rw [B_size]; omega)
  · have : l = [] := by
      have := congrArg List.length hl0
      rw [bytesL_length, B_size] at this
      exact List.eq_nil_of_length_eq_zero this
    subst this
    exact (string_2 hw).mono fun v σ' ⟨hv, hs'⟩ => ⟨hv, by rw [← hs']; exact WF.refl⟩
theorem fl47_snoc {L : List ByteArray} {k : Nat} {x : ByteArray} (h : L[k]? = some x) : (L.take (k + 1)).flatMap (fun s => 47 :: Lb s) = (L.take k).flatMap (fun s => 47 :: Lb s) ++ 47 :: Lb x := by
  rw [take_snoc h]; simp
theorem fl47_le (L : List ByteArray) (k : Nat) : ((L.take k).flatMap fun s => 47 :: Lb s).length ≤ (L.flatMap fun s => 47 :: Lb s).length := by
  conv => rhs; rw [← List.take_append_drop k L]
  rw [List.flatMap_append, List.length_append]; omega
theorem fl_len (L : List ByteArray) : (L.flatMap fun s => 47 :: Lb s).length = L.length + (L.flatMap Lb).length := by
  induction L with
  | nil => rfl
  | cons a L ih => rw [List.flatMap_cons, List.flatMap_cons, List.length_append, List.length_append, List.length_cons, List.length_cons, ih]; omega
set_option maxHeartbeats 2000000 in
theorem joinP_c {L : List ByteArray} {t : Bool} {σ : Store} (hL : L.length ≤ 1000000) (hT : (L.flatMap Lb).length ≤ 1000000) : ACalls Tryz.prog 67 [.sl 1 (L.map vStr) t, vStr ⟨#[47]⟩] σ fun v σ' => v = vStr (pathS L) ∧ σ = σ' := by
  have hz : (ByteArray.mk #[47]).size = 1 := rfl
  have hz0 : (ByteArray.mk #[]).size = 0 := rfl
  refine ACalls_of Tryz.func67 rfl Tryz.ntmps67 (congrArg Array.toList Tryz.results67) (by simp only [List.length_cons, List.length_nil]; decide) ?_; simp only [envOf_cons, envOf_nil, Nat.reduceAdd]
  refine awp_seq ?_
  refine awp_region (by kernel_rfl) ?_
  (refine aL_S rfl rfl v_ ?_)
  refine aL_nil ?_
  refine awp_seq ?_
  refine awp_seq ?_
  refine awp_region (by kernel_rfl) ?_
  iterate 2 (refine aL_S rfl rfl v_ ?_)
  refine aL_nil ?_
  refine awp_block ?_
  refine awp_seq ?_
  refine awp_region (by kernel_rfl) ?_
  iterate 2 (refine aL_S rfl rfl v_ ?_)
  refine aL_nil ?_
  refine awp_cond v_ (fun hc2 => ?_) (fun hc2 => ?_)
  · replace hc2 := nm_ hc2
    refine awp_seq ?_
    refine awp_region (by kernel_rfl) ?_
    (refine aL_S rfl rfl v_ ?_)
    refine aL_nil ?_
    refine awp_ret ?_
    refine aEnd_ret (σ' := σ) v_ sub_ ?_
    obtain rfl : L = [] := List.eq_nil_of_length_eq_zero (by omega)
    exact ⟨rfl, rfl⟩
  · replace hc2 := nm_ hc2
    refine awp_seq ?_
    refine awp_region (by kernel_rfl) ?_
    iterate 2 (refine aL_S rfl rfl v_ ?_)
    refine aL_nil ?_
    refine awp_cond v_ (fun hc4 => ?_) (fun hc4 => ?_)
    · replace hc4 := nm_ hc4
      refine awp_seq ?_
      obtain ⟨x, rfl⟩ : ∃ x, L = [x] := List.length_eq_one_iff.1 (by omega)
      refine awp_region (by kernel_rfl) ?_
      iterate 4 (refine aL_S rfl rfl v_ ?_)
      refine aL_nil ?_
      refine awp_ret ?_
      refine aEnd_ret (σ' := σ) v_ sub_ ?_
      exact ⟨by rw [pathS, pathL, List.flatMap_nil, List.append_nil, B_Lb], rfl⟩
    · replace hc4 := nm_ hc4
      refine awp_skip ?_
      refine awp_seq ?_
      refine awp_region (by kernel_rfl) ?_
      (refine aL_S rfl rfl v_ ?_)
      refine aL_nil ?_
      refine awp_seq ?_
      refine awp_seq ?_
      have R := hz
      refine awp_region (by kernel_rfl) ?_
      iterate 3 (refine aL_S rfl rfl v_ ?_)
      refine aL_nil ?_
      refine awp_cond v_ (fun hc7 => ?_) (fun hc7 => ?_)
      · replace hc7 := nm_ hc7
        refine awp_seq ?_
        refine awp_seq ?_
        skip
        obtain ⟨q, hq, hq1⟩ : ∃ q : Int, IntKind.i64.wrap (Int.tdiv 9223372036854775807 ((L.length : Int) - 1)) = q ∧ 1 < q := by
          refine ⟨_, rfl, ?_⟩
          have h1 : 2 ≤ 9223372036854775807 / ((L.length : Int) - 1) := Int.le_ediv_of_mul_le (by omega) (by omega)
          have h2 : 9223372036854775807 / ((L.length : Int) - 1) ≤ 9223372036854775807 := Int.ediv_le_self _ (by decide)
          rw [Int.tdiv_eq_ediv_of_nonneg (by decide), Go.Ab.wrap_i64 _ (by omega) h2]; omega
        have R := And.intro hz (And.intro @aint_quo hq)
        refine awp_region (by kernel_rfl) ?_
        iterate 7 (refine aL_S rfl rfl v_ ?_)
        refine aL_nil ?_
        refine awp_cond v_ (fun hc8 => ?_) (fun hc8 => ?_)
        · replace hc8 := nm_ hc8
          omega
        · replace hc8 := nm_ hc8
          refine awp_skip ?_
          have R := hz
          refine awp_region (by kernel_rfl) ?_
          iterate 9 (refine aL_S rfl rfl v_ ?_)
          refine aL_nil ?_
          refine awp_seq ?_
          refine awp_seq ?_
          refine awp_region (by kernel_rfl) ?_
          iterate 3 (refine aL_S rfl rfl v_ ?_)
          refine aL_nil ?_
          refine awp_block ?_
          refine awp_loop_env (ι := Int × Nat) (fun ⟨n, k⟩ => L.length - k) (fun ⟨n, k⟩ => k ≤ L.length ∧ n = (L.length : Int) - 1 + ((L.take k).flatMap Lb).length) (fun ⟨n, k⟩ => [(0, .sl 1 (L.map vStr) t), (1, vStr ⟨#[47]⟩), (5, vInt n), (39, .sl 1 (L.map vStr) t), (40, vInt L.length), (41, vInt k)]) (fun ⟨n, k⟩ => σ) (0 + ((1 : Nat) : Int) * ((L.length : Int) - 1), 0) ?_ ?_ ?_ ?_
          · exact ⟨Nat.zero_le _, by simp⟩
          · exact cv_
          · exact sub_
          rintro ⟨n, k⟩ ⟨hk, hn⟩
          simp only [envL_cons, envL_nil]
          refine awp_seq ?_
          refine awp_region (by kernel_rfl) ?_
          (refine aL_S rfl rfl v_ ?_)
          refine aL_nil ?_
          refine awp_seq ?_
          refine awp_cond v_ (fun hc12 => ?_) (fun hc12 => ?_)
          · replace hc12 := nm_ hc12
            refine awp_skip ?_
            refine awp_seq ?_
            refine awp_block ?_
            refine awp_seq ?_
            obtain ⟨x, hx⟩ := get_some (l := L) (k := k) (by omega)
            have hle := flatMap_take_le (f := Lb) L k
            have hle1 := flatMap_take_le (f := Lb) L (k + 1)
            have hcv : n + x.size = (L.length : Int) - 1 + ((L.take (k + 1)).flatMap Lb).length := by rw [fmL_snoc hx, List.length_append, Lb_length]; omega
            have hxs : x.size ≤ 1000000000 := by rw [fmL_snoc hx, List.length_append, Lb_length] at hle1; omega
            have R := hx
            refine awp_region (by kernel_rfl) ?_
            iterate 3 (refine aL_S rfl rfl v_ ?_)
            refine aL_nil ?_
            refine awp_seq ?_
            refine awp_seq ?_
            refine awp_region (by kernel_rfl) ?_
            iterate 5 (refine aL_S rfl rfl v_ ?_)
            refine aL_nil ?_
            refine awp_cond v_ (fun hc14 => ?_) (fun hc14 => ?_)
            · replace hc14 := nm_ hc14
              omega
            · replace hc14 := nm_ hc14
              refine awp_skip ?_
              refine awp_region (by kernel_rfl) ?_
              iterate 5 (refine aL_S rfl rfl v_ ?_)
              refine aL_nil ?_
              refine awp_region (by kernel_rfl) ?_
              iterate 2 (refine aL_S rfl rfl v_ ?_)
              refine aL_nil ?_
              refine aNext (ι := Int × Nat) (i := ⟨n, k⟩) (n + x.size, k + 1) ?_ ?_ ?_ ?_
              · show L.length - (k + 1) < L.length - k; omega
              · exact ⟨by show k + 1 ≤ L.length; omega, hcv⟩
              · exact cv_
              · exact sub_
          · replace hc12 := nm_ hc12
            refine awp_exit ?_
            refine aThen_exit ?_
            refine aThen_exit ?_
            refine aBlock_hit ?_
            refine awp_seq ?_
            obtain rfl : k = L.length := by omega
            rw [List.take_length] at *
            obtain ⟨x0, L', rfl⟩ : ∃ x0 L', L = x0 :: L' := by
              cases L with
              | nil => simp at hc2
              | cons a l => exact ⟨a, l, rfl⟩
            obtain ⟨m, hm⟩ : ∃ m : Nat, n = m := ⟨n.toNat, by rw [List.length_cons] at hn; omega⟩
            subst hm
            have hfl := fl_len L'
            have hL2 : L'.length ≤ 1000000 := by rw [List.length_cons] at hL; omega
            have htk : (L'.map vStr).take L'.length = L'.map vStr := List.take_of_length_le (by rw [List.length_map]; omega)
            have hx0 : (Lb x0).length ≤ 1000000 := by rw [List.flatMap_cons, List.length_append] at hT; omega
            have hx0' : x0.size ≤ 1000000 := by rw [← Lb_length]; exact hx0
            have hT' : (L'.flatMap Lb).length + x0.size ≤ 1000000 := by rw [List.flatMap_cons, List.length_append, Lb_length] at hT; omega
            refine awp_region (by kernel_rfl) ?_
            refine aL_X rfl rfl (AOp_allocP (t := 118) (z := .agg #[.pointer none, .slice none 0 0]) (r := [.slice none 0 0]) rfl (by kernel_rfl) (by rfl) fun o8 ho8 => ?_)
            refine aL_nil ?_
            refine awp_seq ?_
            refine awp_region (by kernel_rfl) ?_
            (refine aL_S rfl rfl v_ ?_)
            refine aL_X rfl rfl (AOp_use rfl rfl (.inr ⟨rfl, rfl, rfl⟩) g_ va_ (bGrowB (Store.set_get ..) (by omega)) ?_); rintro _ τ1 ⟨rfl, a1, a2⟩
            refine aL_nil ?_
            refine awp_seq ?_
            refine awp_region (by kernel_rfl) ?_
            iterate 3 (refine aL_S rfl rfl v_ ?_)
            refine aL_X rfl rfl (AOp_use rfl rfl (.inr ⟨rfl, rfl, rfl⟩) g_ va_ (wSB a1 (by simp) (by omega)) ?_); rintro _ τ2 ⟨rfl, b1, b2⟩
            refine aL_nil ?_
            refine awp_seq ?_
            refine awp_seq ?_
            have R := htk
            refine awp_region (by kernel_rfl) ?_
            iterate 4 (refine aL_S rfl rfl v_ ?_)
            refine aL_nil ?_
            refine awp_block ?_
            refine awp_loop_env (ι := Store × Nat) (fun ⟨τ, k⟩ => L'.length - k) (fun ⟨τ, k⟩ => k ≤ L'.length ∧ WRb τ o8 (Lb x0 ++ (L'.take k).flatMap fun s => 47 :: Lb s) ∧ WF o8 (σ.set o8 (.cells [.nilp o8 118 2, .lit (.slice none 0 0)])) τ) (fun ⟨τ, k⟩ => [(1, vStr ⟨#[47]⟩), (8, .ref o8 0), (63, .sl 1 (L'.map vStr) false), (64, vInt L'.length), (65, vInt k)]) (fun ⟨τ, k⟩ => τ) (τ2, 0) ?_ ?_ ?_ ?_
            · exact ⟨Nat.zero_le _, by simpa using b1, a2.trans b2⟩
            · exact cv_
            · exact Store.Wk.refl _
            rintro ⟨τ, k⟩ ⟨hk, h1, h2⟩
            simp only [envL_cons, envL_nil]
            refine awp_seq ?_
            refine awp_region (by kernel_rfl) ?_
            (refine aL_S rfl rfl v_ ?_)
            refine aL_nil ?_
            refine awp_seq ?_
            refine awp_cond v_ (fun hc22 => ?_) (fun hc22 => ?_)
            · replace hc22 := nm_ hc22
              refine awp_skip ?_
              refine awp_seq ?_
              refine awp_block ?_
              refine awp_seq ?_
              obtain ⟨x, hx⟩ := get_some (l := L') (k := k) (by omega)
              have hle := fl47_le L' k
              have hle1 := fl47_le L' (k + 1)
              have hxs : x.size ≤ 1000000000 := by rw [fl47_snoc hx, List.length_append, List.length_cons, Lb_length] at hle1; omega
              have hlx := Lb_length x0
              have R := hx
              refine awp_region (by kernel_rfl) ?_
              iterate 3 (refine aL_S rfl rfl v_ ?_)
              refine aL_nil ?_
              refine awp_seq ?_
              refine awp_region (by kernel_rfl) ?_
              (refine aL_S rfl rfl v_ ?_)
              refine aL_X rfl rfl (AOp_use rfl rfl (.inr ⟨rfl, rfl, rfl⟩) g_ va_ (wSB h1 (by rw [List.length_append]; omega) (by decide)) ?_); rintro _ τ3 ⟨rfl, c1, c2⟩
              refine aL_nil ?_
              refine awp_region (by kernel_rfl) ?_
              (refine aL_S rfl rfl v_ ?_)
              refine aL_X rfl rfl (AOp_use rfl rfl (.inr ⟨rfl, rfl, rfl⟩) g_ va_ (wSB c1 (by rw [List.length_append, List.length_append, show (Lb ⟨#[47]⟩).length = 1 from rfl]; omega) (by omega)) ?_); rintro _ τ4 ⟨rfl, d1, d2⟩
              refine aL_nil ?_
              refine awp_region (by kernel_rfl) ?_
              iterate 2 (refine aL_S rfl rfl v_ ?_)
              refine aL_nil ?_
              refine aNext (ι := Store × Nat) (i := ⟨τ, k⟩) (τ4, k + 1) ?_ ?_ ?_ ?_
              · show L'.length - (k + 1) < L'.length - k; omega
              · exact ⟨by show k + 1 ≤ L'.length; omega, by rw [fl47_snoc hx]; simpa [List.append_assoc, Lb] using d1, h2.trans (c2.trans d2)⟩
              · exact cv_
              · exact Store.Wk.refl _
            · replace hc22 := nm_ hc22
              refine awp_exit ?_
              refine aThen_exit ?_
              refine aThen_exit ?_
              refine aBlock_hit ?_
              refine awp_seq ?_
              obtain rfl : k = L'.length := by omega
              rw [List.take_length] at h1
              have hlx := Lb_length x0
              refine awp_region (by kernel_rfl) ?_
              refine aL_X rfl rfl (AOp_use rfl rfl (.inr ⟨rfl, rfl, rfl⟩) g_ va_ (bStringB h1 (by rw [List.length_append]; omega)) ?_); rintro _ τ5 ⟨rfl, e2⟩
              (refine aL_S rfl rfl v_ ?_)
              refine aL_nil ?_
              refine awp_ret ?_
              have hW := WF.sub (x := .cells [.nilp o8 118 2, .lit (.slice none 0 0)]) ho8 (h2.trans e2) (fun a t sz l hh => by simp at hh)
              exact aEnd_ret (σ' := σ) va_ (Store.Sub.wk hW) ⟨rfl, rfl⟩
      · replace hc7 := nm_ hc7
        simp at hc7
end Go.Proofs.YtbomkkjhafdhiaaGreatDoor
end

section
set_option linter.all false
set_option maxRecDepth 100000
namespace Go.Proofs.YtbomkkjhafdhiaaGreatDoor
open Go.Ab
abbrev v47 : AVal := vStr ⟨#[47]⟩
def idx47 (l : List UInt8) : Int := Lib.indexByte l 47
theorem idxRv {κ : K} {α : Operand → AVal} {x y : Operand} {ev : Operand → Value} {s : ByteArray} (hx : α x = vStr s) (hy : α y = .lit (.int .u8 47)) (h : ∀ z ∈ #[x, y], Rv κ (α z) (ev z)) : ∃ cv, (Extern.BytealgIndexByte.indexByte (#[x, y].map ev)).run Tryz.prog κ.w = .ok cv κ.w ∧ Rv κ (vInt (idx47 (Lb s))) cv := by
  have h1 := h x (by simp); have h2 := h y (by simp)
  rw [hx] at h1
  rw [hy] at h2
  refine ⟨_, ?_, .lit _⟩
  rw [show #[x, y].map ev = #[ev x, ev y] from by simp, h1.litInv, h2.litInv]
  exact Lib.run_indexByteString s 47 κ.w
theorem flat_strs (ss : List ByteArray) : flat (ss.map vStr) = ss.map vStr := flat_one fun x hx => by
  obtain ⟨s, _, rfl⟩ := List.mem_map.1 hx
  rfl
theorem indexByte_c {s : ByteArray} {σ : Store} : ACalls Tryz.prog 169 [vStr s, .lit (.int .u8 47)] σ fun v σ' => v = vInt (idx47 (Lb s)) ∧ σ = σ' := by
  refine ACalls_of Tryz.func169 rfl Tryz.ntmps169 (congrArg Array.toList Tryz.results169) (by simp only [List.length_cons, List.length_nil]; decide) ?_; simp only [envOf_cons, envOf_nil, Nat.reduceAdd]
  refine awp_seq ?_
  refine awp_region (by kernel_rfl) ?_
  (refine aL_S rfl rfl v_ ?_)
  refine aL_nil ?_
  refine awp_seq ?_
  refine awp_region (by kernel_rfl) ?_
  iterate 2 (refine aL_S rfl rfl v_ ?_)
  refine aL_X rfl rfl (AOp_extern rfl (e := Extern.BytealgIndexByte.indexByte) (by kernel_rfl) g_ (fun κ ev _ h => idxRv (s := s) va_ va_ h) ?_)
  (refine aL_S rfl rfl v_ ?_)
  refine aL_nil ?_
  refine awp_ret ?_
  refine aEnd_ret (σ' := σ) v_ sub_ ?_
  exact ⟨rfl, rfl⟩
theorem slIndex_c {s : ByteArray} {σ : Store} : ACalls Tryz.prog 155 [vStr s, v47] σ fun v σ' => v = vInt (idx47 (Lb s)) ∧ σ = σ' := by
  have hz : (ByteArray.mk #[47]).size = 1 := rfl
  have hb : (ByteArray.mk #[47])[0]? = some 47 := rfl
  refine ACalls_of Tryz.func155 rfl Tryz.ntmps155 (congrArg Array.toList Tryz.results155) (by simp only [List.length_cons, List.length_nil]; decide) ?_; simp only [envOf_cons, envOf_nil, Nat.reduceAdd]
  refine awp_seq ?_
  refine awp_region (by kernel_rfl) ?_
  (refine aL_S rfl rfl v_ ?_)
  refine aL_nil ?_
  refine awp_seq ?_
  have R := hz
  refine awp_region (by kernel_rfl) ?_
  iterate 3 (refine aL_S rfl rfl v_ ?_)
  refine aL_nil ?_
  refine awp_seq ?_
  refine awp_block ?_
  refine awp_seq ?_
  refine awp_region (by kernel_rfl) ?_
  iterate 3 (refine aL_S rfl rfl v_ ?_)
  refine aL_GF rfl rfl v_ rfl vg_ ?_
  refine aL_GF rfl rfl v_ rfl vg_ ?_
  refine aL_GF rfl rfl v_ rfl vg_ ?_
  iterate 2 (refine aL_S rfl rfl v_ ?_)
  refine aL_nil ?_
  refine awp_cond v_ (fun hc2 => ?_) (fun hc2 => ?_)
  · replace hc2 := nm_ hc2
    refine awp_seq ?_
    refine awp_region (by kernel_rfl) ?_
    (refine aL_S rfl rfl v_ ?_)
    refine aL_nil ?_
    refine awp_ret ?_
    refine aEnd_ret (σ' := σ) v_ sub_ ?_
    refine ⟨?_, rfl⟩
    have h1 : (ByteArray.mk #[47]) = s := by simpa using hc2
    rw [← h1]; rfl
  · replace hc2 := nm_ hc2
    refine awp_seq ?_
    refine awp_region (by kernel_rfl) ?_
    iterate 3 (refine aL_S rfl rfl v_ ?_)
    refine aL_nil ?_
    refine awp_cond v_ (fun hc4 => ?_) (fun hc4 => ?_)
    · replace hc4 := nm_ hc4
      refine awp_seq ?_
      have R := And.intro hb hz
      refine awp_region (by kernel_rfl) ?_
      iterate 3 (refine aL_S rfl rfl v_ ?_)
      refine aL_X rfl rfl (AOp_use rfl rfl (.inr ⟨rfl, rfl, rfl⟩) g_ va_ (indexByte_c) ?_); rintro _ _ ⟨rfl, rfl⟩
      (refine aL_S rfl rfl v_ ?_)
      refine aL_nil ?_
      refine awp_ret ?_
      refine aEnd_ret (σ' := σ) v_ sub_ ?_
      exact ⟨rfl, rfl⟩
    · replace hc4 := nm_ hc4
      simp at hc4
theorem sIndex_c {s : ByteArray} {σ : Store} : ACalls Tryz.prog 122 [vStr s, v47] σ fun v σ' => v = vInt (idx47 (Lb s)) ∧ σ = σ' := by
  refine ACalls_of Tryz.func122 rfl Tryz.ntmps122 (congrArg Array.toList Tryz.results122) (by simp only [List.length_cons, List.length_nil]; decide) ?_; simp only [envOf_cons, envOf_nil, Nat.reduceAdd]
  refine awp_seq ?_
  refine awp_region (by kernel_rfl) ?_
  (refine aL_S rfl rfl v_ ?_)
  refine aL_nil ?_
  refine awp_seq ?_
  refine awp_region (by kernel_rfl) ?_
  iterate 2 (refine aL_S rfl rfl v_ ?_)
  refine aL_X rfl rfl (AOp_use rfl rfl (.inr ⟨rfl, rfl, rfl⟩) g_ va_ (slIndex_c) ?_); rintro _ _ ⟨rfl, rfl⟩
  (refine aL_S rfl rfl v_ ?_)
  refine aL_nil ?_
  refine awp_ret ?_
  refine aEnd_ret (σ' := σ) v_ sub_ ?_
  exact ⟨rfl, rfl⟩
theorem cntRv {κ : K} {α : Operand → AVal} {x y : Operand} {ev : Operand → Value} {s : ByteArray} (hx : α x = vStr s) (hy : α y = .lit (.int .u8 47)) (h : ∀ z ∈ #[x, y], Rv κ (α z) (ev z)) : ∃ cv, (Extern.BytealgCount.count (#[x, y].map ev)).run Tryz.prog κ.w = .ok cv κ.w ∧ Rv κ (vInt ((Lb s).count 47)) cv := by
  have h1 := h x (by simp); have h2 := h y (by simp)
  rw [hx] at h1
  rw [hy] at h2
  refine ⟨_, ?_, .lit _⟩
  rw [show #[x, y].map ev = #[ev x, ev y] from by simp, h1.litInv, h2.litInv]
  exact Lib.run_countString s 47 κ.w
theorem count_c {s : ByteArray} {σ : Store} : ACalls Tryz.prog 121 [vStr s, v47] σ fun v σ' => v = vInt ((Lb s).count 47) ∧ σ = σ' := by
  have hz : (ByteArray.mk #[47]).size = 1 := rfl
  have hb : (ByteArray.mk #[47])[0]? = some 47 := rfl
  refine ACalls_of Tryz.func121 rfl Tryz.ntmps121 (congrArg Array.toList Tryz.results121) (by simp only [List.length_cons, List.length_nil]; decide) ?_; simp only [envOf_cons, envOf_nil, Nat.reduceAdd]
  refine awp_seq ?_
  refine awp_region (by kernel_rfl) ?_
  (refine aL_S rfl rfl v_ ?_)
  refine aL_nil ?_
  refine awp_seq ?_
  refine awp_seq ?_
  have R := hz
  refine awp_region (by kernel_rfl) ?_
  iterate 3 (refine aL_S rfl rfl v_ ?_)
  refine aL_nil ?_
  refine awp_cond v_ (fun hc1 => ?_) (fun hc1 => ?_)
  · replace hc1 := nm_ hc1
    simp at hc1
  · replace hc1 := nm_ hc1
    refine awp_skip ?_
    refine awp_seq ?_
    refine awp_seq ?_
    have R := hz
    refine awp_region (by kernel_rfl) ?_
    iterate 3 (refine aL_S rfl rfl v_ ?_)
    refine aL_nil ?_
    refine awp_cond v_ (fun hc3 => ?_) (fun hc3 => ?_)
    · replace hc3 := nm_ hc3
      refine awp_seq ?_
      have R := hb
      refine awp_region (by kernel_rfl) ?_
      iterate 3 (refine aL_S rfl rfl v_ ?_)
      refine aL_X rfl rfl (AOp_extern rfl (e := Extern.BytealgCount.count) (by kernel_rfl) g_ (fun κ ev _ h => cntRv (s := s) va_ va_ h) ?_)
      (refine aL_S rfl rfl v_ ?_)
      refine aL_nil ?_
      refine awp_ret ?_
      refine aEnd_ret (σ' := σ) v_ sub_ ?_
      exact ⟨rfl, rfl⟩
    · replace hc3 := nm_ hc3
      simp at hc3
/-- a row of pieces while it is laid -/
structure Pc (s : ByteArray) (N : Nat) (done : List ByteArray) (r : ByteArray) : Prop where
  sp : (splitL (Lb s)).map B = done ++ (splitL (Lb r)).map B
  n : N = done.length + (Lb r).count 47 + 1
  sz : r.size ≤ s.size
theorem cnt_of {l : List UInt8} : (idx47 l = -1 → splitL l = [l] ∧ l.count 47 = 0) ∧ ∀ i : Nat, idx47 l = i → splitL l = l.take i :: splitL (l.drop (i + 1)) ∧ l.count 47 = (l.drop (i + 1)).count 47 + 1 ∧ i < l.length := by
  refine ⟨fun h => ?_, fun i h => ?_⟩
  · have hn := Lib.indexByte_none h
    have hall : ∀ c ∈ l, c ≠ 47 := fun c hc e => by
      obtain ⟨k, hk⟩ := List.mem_iff_getElem?.1 hc
      exact hn k (by rw [hk, e])
    exact ⟨splitL_none hall, List.count_eq_zero.2 fun hm => hall 47 hm rfl⟩
  · obtain ⟨g1, g2⟩ := Lib.indexByte_some h
    have hlt := (List.getElem?_eq_some_iff.1 g1).1
    have el : l = l.take i ++ 47 :: l.drop (i + 1) := by
      rw [← (List.getElem?_eq_some_iff.1 g1).2, List.getElem_cons_drop hlt, List.take_append_drop]
    have hno : ∀ c ∈ l.take i, c ≠ 47 := fun c hc e => by
      obtain ⟨k, hk⟩ := List.mem_iff_getElem?.1 hc
      have hk1 := (List.getElem?_eq_some_iff.1 hk).1
      rw [List.length_take] at hk1
      rw [List.getElem?_take_of_lt (by omega)] at hk
      exact g2 k (by omega) (by rw [hk, e])
    refine ⟨?_, ?_, hlt⟩
    · conv => lhs; rw [el]
      exact splitL_at hno
    · conv => lhs; rw [el]
      rw [List.count_append, List.count_cons_self, List.count_eq_zero.2 fun hm => hno 47 hm rfl]; omega
theorem Pc.step {s r : ByteArray} {N i : Nat} {done : List ByteArray} (h : Pc s N done r) (hi : idx47 (Lb r) = i) : Pc s N (done ++ [r.extract 0 i]) (r.extract (i + 1) r.size) ∧ i < r.size := by
  obtain ⟨c1, c2, c3⟩ := cnt_of.2 i hi
  have e1 : Lb (r.extract 0 i) = (Lb r).take i := by rw [extract_B, Lb_B, List.drop_zero]
  have e2 : Lb (r.extract (i + 1) r.size) = (Lb r).drop (i + 1) := by rw [extract_B, Lb_B, ← Lb_length, List.take_length]
  refine ⟨⟨?_, ?_, ?_⟩, by rw [← Lb_length]; exact c3⟩
  · rw [h.sp, c1, e2, List.map_cons, ← e1, B_Lb]; simp
  · rw [h.n, c2, e2]; simp; omega
  · have := h.sz; simp only [ByteArray.size_extract]; omega
theorem laid_set {done : List ByteArray} {N : Nat} {x : ByteArray} (h : done.length < N) : aput (done.map vStr ++ List.replicate (N - done.length) (vStr ⟨#[]⟩)) done.length [vStr x] = (done ++ [x]).map vStr ++ List.replicate (N - (done ++ [x]).length) (vStr ⟨#[]⟩) := by
  unfold aput
  rw [List.take_left' (by simp), List.drop_append, List.drop_of_length_le (by simp), List.nil_append]
  simp only [List.length_map, List.length_singleton, List.drop_replicate, List.map_append, List.map_cons, List.map_nil, List.length_append, List.append_assoc]
  congr 3
  omega
theorem genSplit_c {s : ByteArray} {σ : Store} (hs : s.size ≤ 1000000) : ACalls Tryz.prog 84 [vStr s, v47, vInt 0, vInt (-1)] σ fun v σ' => ∃ o, σ.heap o = none ∧ v = .msl o 1 0 ((splitL (Lb s)).map B).length ∧ σ' = σ.set o (.cells (((splitL (Lb s)).map B).map vStr)) := by
  have hz : (ByteArray.mk #[47]).size = 1 := rfl
  have hne : ¬ (ByteArray.mk #[47]) = ⟨#[]⟩ := by decide
  have hcn : (Lb s).count 47 ≤ s.size := by rw [← Lb_length]; exact List.count_le_length ..
  obtain ⟨N, hN⟩ : ∃ N, (Lb s).count 47 + 1 = N := ⟨_, rfl⟩
  refine ACalls_of Tryz.func84 rfl Tryz.ntmps84 (congrArg Array.toList Tryz.results84) (by simp only [List.length_cons, List.length_nil]; decide) ?_; simp only [envOf_cons, envOf_nil, Nat.reduceAdd]
  refine awp_seq ?_
  refine awp_region (by kernel_rfl) ?_
  (refine aL_S rfl rfl v_ ?_)
  refine aL_nil ?_
  refine awp_seq ?_
  refine awp_seq ?_
  refine awp_region (by kernel_rfl) ?_
  iterate 2 (refine aL_S rfl rfl v_ ?_)
  refine aL_nil ?_
  refine awp_cond v_ (fun hc1 => ?_) (fun hc1 => ?_)
  · replace hc1 := nm_ hc1
    simp at hc1
  · replace hc1 := nm_ hc1
    refine awp_skip ?_
    refine awp_seq ?_
    refine awp_seq ?_
    refine awp_region (by kernel_rfl) ?_
    iterate 2 (refine aL_S rfl rfl v_ ?_)
    refine aL_nil ?_
    refine awp_cond v_ (fun hc3 => ?_) (fun hc3 => ?_)
    · replace hc3 := nm_ hc3
      exact absurd hc3 hne
    · replace hc3 := nm_ hc3
      refine awp_skip ?_
      refine awp_seq ?_
      refine awp_seq ?_
      refine awp_region (by kernel_rfl) ?_
      iterate 2 (refine aL_S rfl rfl v_ ?_)
      refine aL_nil ?_
      refine awp_cond v_ (fun hc5 => ?_) (fun hc5 => ?_)
      · replace hc5 := nm_ hc5
        refine awp_region (by kernel_rfl) ?_
        iterate 2 (refine aL_S rfl rfl v_ ?_)
        refine aL_X rfl rfl (AOp_use rfl rfl (.inr ⟨rfl, rfl, rfl⟩) g_ va_ (count_c) ?_); rintro _ _ ⟨rfl, rfl⟩
        iterate 2 (refine aL_S rfl rfl v_ ?_)
        refine aL_nil ?_
        refine awp_seq ?_
        have hmin : min (((Lb s).count 47 : Int) + 1) ((s.size : Int) + 1) = N := by omega
        have R := hmin
        refine awp_region (by kernel_rfl) ?_
        iterate 6 (refine aL_S rfl rfl v_ ?_)
        refine aL_nil ?_
        refine awp_seq ?_
        refine awp_region (by kernel_rfl) ?_
        (refine aL_S rfl rfl v_ ?_)
        refine aL_X rfl rfl (AOp_makeSlice rfl g_ g_ g_ rfl v_ v_ (by omega) fun oa hoa => ?_)
        (refine aL_S rfl rfl v_ ?_)
        refine aL_nil ?_
        refine awp_seq ?_
        refine awp_region (by kernel_rfl) ?_
        iterate 3 (refine aL_S rfl rfl v_ ?_)
        refine aL_nil ?_
        refine awp_seq ?_
        refine awp_region (by kernel_rfl) ?_
        (refine aL_S rfl rfl v_ ?_)
        refine aL_nil ?_
        refine awp_seq ?_
        refine awp_block ?_
        refine awp_loop_env (ι := List ByteArray × ByteArray) (fun ⟨done, r⟩ => N - done.length) (fun ⟨done, r⟩ => Pc s N done r) (fun ⟨done, r⟩ => [(0, vStr r), (1, v47), (2, vInt 0), (3, vInt ((N : Int) - 1)), (9, .msl oa 1 0 N), (10, vInt done.length)]) (fun ⟨done, r⟩ => (σ.set oa (.cells (done.map vStr ++ List.replicate (N - done.length) (vStr ⟨#[]⟩))))) ([], s) ?_ ?_ ?_ ?_
        · exact ⟨rfl, by rw [← hN]; simp, Nat.le_refl _⟩
        · exact cv_
        · exact Store.Wk.refl _
        rintro ⟨done, r⟩ hP
        simp only [envL_cons, envL_nil]
        refine awp_seq ?_
        refine awp_seq ?_
        refine awp_region (by kernel_rfl) ?_
        iterate 3 (refine aL_S rfl rfl v_ ?_)
        refine aL_nil ?_
        refine awp_cond v_ (fun hc11 => ?_) (fun hc11 => ?_)
        · replace hc11 := nm_ hc11
          refine awp_skip ?_
          refine awp_block ?_
          refine awp_seq ?_
          refine awp_region (by kernel_rfl) ?_
          iterate 2 (refine aL_S rfl rfl v_ ?_)
          refine aL_X rfl rfl (AOp_use rfl rfl (.inr ⟨rfl, rfl, rfl⟩) g_ va_ (sIndex_c) ?_); rintro _ _ ⟨rfl, rfl⟩
          (refine aL_S rfl rfl v_ ?_)
          refine aL_nil ?_
          refine awp_seq ?_
          refine awp_seq ?_
          have hge := Lib.indexByte_ge (Lb r) 47
          refine awp_region (by kernel_rfl) ?_
          iterate 2 (refine aL_S rfl rfl v_ ?_)
          refine aL_nil ?_
          refine awp_cond v_ (fun hc13 => ?_) (fun hc13 => ?_)
          · replace hc13 := nm_ hc13
            have h1 := (cnt_of.1 (show idx47 (Lb r) = -1 by unfold idx47 at *; omega)).2; have h2 := hP.n; omega
          · replace hc13 := nm_ hc13
            obtain ⟨i, hi⟩ : ∃ i : Nat, idx47 (Lb r) = i := ⟨(idx47 (Lb r)).toNat, by omega⟩
            obtain ⟨hPs, hir⟩ := hP.step hi
            have hrs := hP.sz
            have hdn : done.length < N := by have := hP.n; omega
            have hls := laid_set (x := r.extract 0 i) hdn
            have hln : (((done ++ [r.extract 0 i]).length : Nat) : Int) = (done.length : Int) + 1 := by rw [List.length_append, List.length_singleton]; rfl
            rw [hi]
            refine awp_skip ?_
            refine awp_seq ?_
            have R := hls
            refine awp_region (by kernel_rfl) ?_
            iterate 8 (refine aL_S rfl rfl v_ ?_)
            refine aL_store rfl rfl rfl v_ v_ h_ g_ rfl g_ c_ (by rfl) le_ (by first | exact hls | (rw [Nat.mul_one]; exact hls) | (rw [Nat.zero_add]; exact hls) | (rw [Nat.mul_one, Nat.zero_add]; exact hls)) ?_
            refine aL_nil ?_
            refine awp_seq ?_
            have htn : ((i : Int) + ((1 : Nat) : Int)).toNat = i + 1 := by omega
            have R := And.intro hz htn
            refine awp_region (by kernel_rfl) ?_
            iterate 7 (refine aL_S rfl rfl v_ ?_)
            refine aL_nil ?_
            refine awp_region (by kernel_rfl) ?_
            iterate 3 (refine aL_S rfl rfl v_ ?_)
            refine aL_nil ?_
            refine aNext (ι := List ByteArray × ByteArray) (i := ⟨done, r⟩) (done ++ [r.extract 0 i], r.extract (i + 1) r.size) ?_ ?_ ?_ ?_
            · show N - (done ++ [r.extract 0 i]).length < N - done.length; rw [List.length_append, List.length_singleton]; omega
            · exact hPs
            · have R := hln; exact cv_
            · (try dsimp only); rw [Store.set_set]; exact Store.Wk.refl _
        · replace hc11 := nm_ hc11
          refine awp_exit ?_
          refine aThen_exit ?_
          refine aThen_exit ?_
          refine aBlock_hit ?_
          refine awp_seq ?_
          have hdn : done.length + 1 = N := by have := hP.n; omega
          have hc0 : (Lb r).count 47 = 0 := by have := hP.n; omega
          have hls := laid_set (x := r) (show done.length < N by omega)
          refine awp_region (by kernel_rfl) ?_
          iterate 4 (refine aL_S rfl rfl v_ ?_)
          refine aL_store rfl rfl rfl v_ v_ h_ g_ rfl g_ c_ (by rfl) le_ (by first | exact hls | (rw [Nat.mul_one]; exact hls) | (rw [Nat.zero_add]; exact hls) | (rw [Nat.mul_one, Nat.zero_add]; exact hls)) ?_
          refine aL_nil ?_
          refine awp_seq ?_
          have hend : (splitL (Lb s)).map B = done ++ [r] := by
            rw [hP.sp, splitL_none fun c hc e => List.count_eq_zero.1 hc0 (e ▸ hc), List.map_singleton, B_Lb]
          have hsl : N - (done ++ [r]).length = 0 := by rw [List.length_append, List.length_singleton]; omega
          refine awp_region (by kernel_rfl) ?_
          iterate 5 (refine aL_S rfl rfl v_ ?_)
          refine aL_nil ?_
          refine awp_ret ?_
          refine aEnd_ret v_ (Store.Wk.refl _) ?_
          exact ⟨oa, hoa, by rw [hend, List.length_append, List.length_singleton]; congr 1, by rw [hend, Store.set_set, hsl]; simp⟩
      · replace hc5 := nm_ hc5
        simp at hc5
theorem split47_c {s : ByteArray} {σ : Store} (hs : s.size ≤ 1000000) : ACalls Tryz.prog 64 [vStr s, v47] σ fun v σ' => v = .sl 1 (((splitL (Lb s)).map B).map vStr) false ∧ σ = σ' := by
  have key : ACalls Tryz.prog 84 [vStr s, v47, vInt 0, vInt (-1)] σ fun v σ' => v = .sl 1 (((splitL (Lb s)).map B).map vStr) false ∧ σ = σ' := by
    refine (genSplit_c hs).aft ?_
    rintro κ a τ cv hI hr ⟨o, ho, rfl, rfl⟩
    obtain ⟨κ', h1, h2, h3, h4⟩ := Ab.freeze hI hr (Store.set_get ..) (l := ((splitL (Lb s)).map B).map vStr) (by rw [Nat.mul_one, List.take_of_length_le (by simp), flat_strs]) (by simp) fun x hx => by
      obtain ⟨z, _, rfl⟩ := List.mem_map.1 hx
      rfl
    rw [Store.set_del ho] at h3
    exact ⟨κ', _, _, h1, h2, h3, h4, rfl, rfl⟩
  refine ACalls_of Tryz.func64 rfl Tryz.ntmps64 (congrArg Array.toList Tryz.results64) (by simp only [List.length_cons, List.length_nil]; decide) ?_; simp only [envOf_cons, envOf_nil, Nat.reduceAdd]
  refine awp_seq ?_
  refine awp_region (by kernel_rfl) ?_
  (refine aL_S rfl rfl v_ ?_)
  refine aL_nil ?_
  refine awp_seq ?_
  refine awp_region (by kernel_rfl) ?_
  iterate 2 (refine aL_S rfl rfl v_ ?_)
  refine aL_X rfl rfl (AOp_use rfl rfl (.inr ⟨rfl, rfl, rfl⟩) g_ va_ (key) ?_); rintro _ _ ⟨rfl, rfl⟩
  (refine aL_S rfl rfl v_ ?_)
  refine aL_nil ?_
  refine awp_ret ?_
  refine aEnd_ret (σ' := σ) v_ sub_ ?_
  exact ⟨rfl, rfl⟩
theorem parts_c {s : ByteArray} {σ : Store} (hs : s.size ≤ 1000000) : ACalls Tryz.prog 38 [vStr s] σ fun v σ' => v = .sl 1 ((partsS s).map vStr) false ∧ σ = σ' := by
  have h0 := ne0 s
  refine ACalls_of Tryz.func38 rfl Tryz.ntmps38 (congrArg Array.toList Tryz.results38) (by simp only [List.length_cons, List.length_nil]; decide) ?_; simp only [envOf_cons, envOf_nil, Nat.reduceAdd]
  refine awp_seq ?_
  refine awp_region (by kernel_rfl) ?_
  (refine aL_S rfl rfl v_ ?_)
  refine aL_nil ?_
  refine awp_seq ?_
  refine awp_seq ?_
  have R := h0
  refine awp_region (by kernel_rfl) ?_
  iterate 2 (refine aL_S rfl rfl v_ ?_)
  refine aL_nil ?_
  refine awp_cond v_ (fun hc1 => ?_) (fun hc1 => ?_)
  · replace hc1 := nm_ hc1
    refine awp_seq ?_
    refine awp_region (by kernel_rfl) ?_
    (refine aL_S rfl rfl v_ ?_)
    refine aL_nil ?_
    refine awp_ret ?_
    exact aEnd_retW (v := .sl 1 [] false) (v' := vNil) va_ (.nil _ _) sub_ ⟨by rw [partsS, if_pos hc1]; rfl, rfl⟩
  · replace hc1 := nm_ hc1
    refine awp_skip ?_
    refine awp_seq ?_
    refine awp_region (by kernel_rfl) ?_
    (refine aL_S rfl rfl v_ ?_)
    refine aL_X rfl rfl (AOp_use rfl rfl (.inr ⟨rfl, rfl, rfl⟩) g_ va_ (split47_c hs) ?_); rintro _ _ ⟨rfl, rfl⟩
    (refine aL_S rfl rfl v_ ?_)
    refine aL_nil ?_
    refine awp_ret ?_
    refine aEnd_ret (σ' := σ) v_ sub_ ?_
    exact ⟨by rw [partsS, if_neg hc1], rfl⟩
theorem rParts_c {s : ByteArray} {σ : Store} (hs : s.size ≤ 1000000) : ACalls Tryz.prog 25 [vStr s] σ fun v σ' => v = .sl 1 ((partsS s).map vStr) false ∧ σ = σ' := by
  have h0 := ne0 s
  refine ACalls_of Tryz.func25 rfl Tryz.ntmps25 (congrArg Array.toList Tryz.results25) (by simp only [List.length_cons, List.length_nil]; decide) ?_; simp only [envOf_cons, envOf_nil, Nat.reduceAdd]
  refine awp_seq ?_
  refine awp_region (by kernel_rfl) ?_
  (refine aL_S rfl rfl v_ ?_)
  refine aL_nil ?_
  refine awp_seq ?_
  refine awp_seq ?_
  have R := h0
  refine awp_region (by kernel_rfl) ?_
  iterate 2 (refine aL_S rfl rfl v_ ?_)
  refine aL_nil ?_
  refine awp_cond v_ (fun hc1 => ?_) (fun hc1 => ?_)
  · replace hc1 := nm_ hc1
    refine awp_seq ?_
    refine awp_region (by kernel_rfl) ?_
    (refine aL_S rfl rfl v_ ?_)
    refine aL_nil ?_
    refine awp_ret ?_
    exact aEnd_retW (v := .sl 1 [] false) (v' := vNil) va_ (.nil _ _) sub_ ⟨by rw [partsS, if_pos hc1]; rfl, rfl⟩
  · replace hc1 := nm_ hc1
    refine awp_skip ?_
    refine awp_seq ?_
    refine awp_region (by kernel_rfl) ?_
    refine aL_nilOwn 9 1 rfl rfl rfl (by rfl) fun k3 hk3 => ?_
    refine aL_nil ?_
    refine awp_seq ?_
    refine awp_region (by kernel_rfl) ?_
    (refine aL_S rfl rfl v_ ?_)
    refine aL_nil ?_
    refine awp_seq ?_
    refine awp_seq ?_
    refine awp_region (by kernel_rfl) ?_
    (refine aL_S rfl rfl v_ ?_)
    refine aL_nil ?_
    refine awp_block ?_
    refine awp_loop_env (ι := Nat × List ByteArray × Nat × Nat) (fun ⟨tk, done, f, p⟩ => s.size - p) (fun ⟨tk, done, f, p⟩ => σ.tok tk = none ∧ f ≤ p ∧ p ≤ s.size ∧ (splitL (Lb s)).map B = done ++ (splitL ((Lb s).drop f)).map B ∧ (∀ c ∈ ((Lb s).take p).drop f, c ≠ 47) ∧ done.length ≤ p) (fun ⟨tk, done, f, p⟩ => [(0, vStr s), (3, .own tk 1 (done.map vStr)), (4, vInt f), (5, vInt p)]) (fun ⟨tk, done, f, p⟩ => (σ.newTok none tk (9, 1))) (k3, [], 0, 0) ?_ ?_ ?_ ?_
    · exact ⟨hk3, Nat.le_refl _, Nat.zero_le _, rfl, fun c hc => by simp at hc, Nat.le_refl _⟩
    · exact cv_
    · exact Store.Wk.refl _
    rintro ⟨tk, done, f, p⟩ ⟨htk, hfp, hps, hsp, hno, hdl⟩
    simp only [envL_cons, envL_nil]
    refine awp_seq ?_
    refine awp_seq ?_
    refine awp_region (by kernel_rfl) ?_
    iterate 4 (refine aL_S rfl rfl v_ ?_)
    refine aL_nil ?_
    refine awp_cond v_ (fun hc6 => ?_) (fun hc6 => ?_)
    · replace hc6 := nm_ hc6
      refine awp_skip ?_
      refine awp_seq ?_
      refine awp_block ?_
      refine awp_seq ?_
      have hp' : p < s.size := by omega
      have hg := Lb_get hp'
      have hg2 : s[p]? = some (s[p]'hp') := getElem?_pos s p hp'
      obtain ⟨c, hc⟩ : ∃ c, s[p]'hp' = c := ⟨_, rfl⟩
      rw [hc] at hg hg2
      have R := hg2
      refine awp_region (by kernel_rfl) ?_
      iterate 4 (refine aL_S rfl rfl v_ ?_)
      refine aL_nil ?_
      refine awp_cond v_ (fun hc8 => ?_) (fun hc8 => ?_)
      · replace hc8 := nm_ hc8
        have h47 : c = 47 := UInt8.toNat_inj.1 (by rw [show (47 : UInt8).toNat = 47 from rfl]; omega)
        have hcut : splitL ((Lb s).drop f) = Lb (s.extract f p) :: splitL ((Lb s).drop (p + 1)) := by
          have e1 : (Lb s).drop f = Lb (s.extract f p) ++ 47 :: (Lb s).drop (p + 1) := by
            have e0 : (Lb s).drop p = 47 :: (Lb s).drop (p + 1) := by rw [drop_cons hg, h47]
            rw [extract_B, Lb_B, ← e0]
            conv => lhs; rw [← List.take_append_drop p (Lb s)]
            rw [List.drop_append_of_le_length (by rw [List.length_take, Lb_length]; omega)]
          rw [e1]
          exact splitL_at (by rw [extract_B, Lb_B]; exact hno)
        have hs1 : (splitL (Lb s)).map B = (done ++ [s.extract f p]) ++ (splitL ((Lb s).drop (p + 1))).map B := by rw [hsp, hcut, List.map_cons, B_Lb]; simp
        refine awp_seq ?_
        refine awp_region (by kernel_rfl) ?_
        iterate 5 (refine aL_S rfl rfl v_ ?_)
        refine aL_buildSlice rfl rfl rfl g_ g_ rfl rfl h_ c2_ (by decide) ?_
        refine aL_append rfl rfl rfl g_ g_ v_ h_ v_ c_ (by simp; omega) fun k24 hk24 => ?_
        (refine aL_S rfl rfl v_ ?_)
        refine aL_nil ?_
        refine awp_region (by kernel_rfl) ?_
        iterate 3 (refine aL_S rfl rfl v_ ?_)
        refine aL_nil ?_
        refine awp_region (by kernel_rfl) ?_
        iterate 3 (refine aL_S rfl rfl v_ ?_)
        refine aL_nil ?_
        refine aNext (ι := Nat × List ByteArray × Nat × Nat) (i := ⟨tk, done, f, p⟩) (k24, done ++ [s.extract f p], p + 1, p + 1) ?_ ?_ ?_ ?_
        · show s.size - (p + 1) < s.size - p; omega
        · exact ⟨(newTok_none hk24).2, Nat.le_refl _, by show p + 1 ≤ s.size; omega, hs1, (by intro c hc; dsimp only at hc; rw [List.drop_of_length_le (by rw [List.length_take]; exact Nat.min_le_left ..)] at hc; cases hc), (by simp; omega)⟩
        · exact cv_
        · exact sub_
      · replace hc8 := nm_ hc8
        skip
        have hn2 : ∀ d ∈ ((Lb s).take (p + 1)).drop f, d ≠ 47 := fun d hd => by
          rw [take_snoc hg, List.drop_append_of_le_length (by rw [List.length_take, Lb_length]; omega)] at hd
          rcases List.mem_append.1 hd with h | h
          · exact hno d h
          · rw [List.mem_singleton.1 h]; intro e; rw [e] at hc8; exact hc8 rfl
        refine awp_skip ?_
        refine awp_region (by kernel_rfl) ?_
        iterate 3 (refine aL_S rfl rfl v_ ?_)
        refine aL_nil ?_
        refine aNext (ι := Nat × List ByteArray × Nat × Nat) (i := ⟨tk, done, f, p⟩) (tk, done, f, p + 1) ?_ ?_ ?_ ?_
        · show s.size - (p + 1) < s.size - p; omega
        · exact ⟨htk, by show f ≤ p + 1; omega, by show p + 1 ≤ s.size; omega, hsp, hn2, by show done.length ≤ p + 1; omega⟩
        · exact cv_
        · exact sub_
    · replace hc6 := nm_ hc6
      refine awp_exit ?_
      refine aThen_exit ?_
      refine aThen_exit ?_
      refine aBlock_hit ?_
      refine awp_seq ?_
      obtain rfl : p = s.size := by omega
      have hx : s.extract f s.size = B ((Lb s).drop f) := by rw [extract_B, ← Lb_length, List.take_length]
      have hend : partsS s = done ++ [s.extract f s.size] := by
        rw [partsS, if_neg hc1, hsp, splitL_none (by rw [← Lb_length, List.take_length] at hno; exact hno), List.map_singleton, hx]
      refine awp_region (by kernel_rfl) ?_
      iterate 4 (refine aL_S rfl rfl v_ ?_)
      refine aL_buildSlice rfl rfl rfl g_ g_ rfl rfl h_ c2_ (by decide) ?_
      refine aL_append rfl rfl rfl g_ g_ v_ h_ v_ c_ (by simp; omega) fun k32 hk32 => ?_
      (refine aL_S rfl rfl v_ ?_)
      refine aL_nil ?_
      have t32 := (newTok_none hk32).2
      refine awp_seq ?_
      refine awp_region (by kernel_rfl) ?_
      iterate 2 (refine aL_S rfl rfl v_ ?_)
      refine aL_nil ?_
      refine awp_ret ?_
      exact aEnd_retW (v := .sl 1 ((partsS s).map vStr) false) (v' := .own k32 1 ((partsS s).map vStr)) (by rw [hend]; first | exact va_ | exact vb_) (.own1 _ _ _) sub_ ⟨rfl, rfl⟩
end Go.Proofs.YtbomkkjhafdhiaaGreatDoor
end

section
set_option linter.all false
set_option maxRecDepth 100000
namespace Go.Proofs.YtbomkkjhafdhiaaGreatDoor
open Go.Ab
/-- a function of elements, that asks only what stands in the store -/
def PFEn (F : FuncId) (caps : List AVal) (σ : Store) (p : Ent → Bool) : Prop := isGo Tryz.prog F = true ∧ ∀ τ : Store, (∀ i y, σ.heap i = some y → τ.heap i = some y) → ∀ x : Ent, ACalls Tryz.prog F (sEnt x :: caps) τ fun v τ' => v = vB (p x) ∧ τ = τ'
abbrev fnEn (F : Nat) (caps : List AVal) : AVal := .fn (.func F) [] caps
theorem drEn_get {L M : List Ent} {d j : Nat} (h : M.drop d = L.drop d) (hj : d ≤ j) : M[j]? = L[j]? := by
  have := congrArg (fun l => l[j - d]?) h
  simp only [List.getElem?_drop] at this
  rwa [show d + (j - d) = j by omega] at this
theorem flEn_len (L : List Ent) : (flat (L.map sEnt)).length = L.length * 4 := by rw [flat_length (szEnt L), List.length_map]
theorem flEn_part : ∀ {L : List Ent} {j : Nat} {x : Ent}, L[j]? = some x → ((flat (L.map sEnt)).drop (j * 4)).take 4 = [vStr x.key, vInt x.n, vStr x.who, vStr x.value]
  | [], j, x, h => by simp at h
  | y :: L, 0, x, h => by
    simp only [List.getElem?_cons_zero, Option.some.injEq] at h
    subst h
    rfl
  | y :: L, j + 1, x, h => by
    rw [List.map_cons, flat_cons, show (j + 1) * 4 = 4 + j * 4 by omega, ← List.drop_drop]
    exact flEn_part (L := L) (j := j) h
theorem flEn_put {M : List Ent} {j : Nat} {x : Ent} (hj : j < M.length) : aput (flat (M.map sEnt)) (j * 4) [vStr x.key, vInt x.n, vStr x.who, vStr x.value] = flat ((M.set j x).map sEnt) := by
  have e : M.set j x = M.take j ++ x :: M.drop (j + 1) := by rw [List.set_eq_take_append_cons_drop, if_pos hj]
  have e2 : M = M.take j ++ M[j] :: M.drop (j + 1) := by rw [List.getElem_cons_drop hj, List.take_append_drop]
  have hl : (flat ((M.take j).map sEnt)).length = j * 4 := by rw [flEn_len, List.length_take, Nat.min_eq_left (by omega)]
  rw [e]
  conv => lhs; rw [e2]
  unfold aput
  rw [List.map_append, List.map_cons, flat_append, flat_cons, List.map_append, List.map_cons, flat_append, flat_cons, List.take_left' hl, List.drop_append, List.drop_of_length_le (by rw [hl]; simp), hl, show j * 4 + [vStr x.key, vInt x.n, vStr x.who, vStr x.value].length - j * 4 = 4 by rw [show [vStr x.key, vInt x.n, vStr x.who, vStr x.value].length = 4 from rfl]; omega]
  simp [AVal.cells]
theorem flEn_take {M : List Ent} {j : Nat} {zs : List AVal} : aput (flat (M.map sEnt)) (j * 4) zs = flat ((M.take j).map sEnt) ++ (zs ++ (flat (M.map sEnt)).drop (j * 4 + zs.length)) := by
  unfold aput
  rw [List.append_assoc, List.map_take, flat_take (szEnt M)]
/-- a copy: nothing, or a row of its own whose room is known -/
def CBEn (σ0 σ : Store) (L : List Ent) (v : AVal) : Prop := (L = [] ∧ v = .sl 4 [] true ∧ σ = σ0) ∨ ∃ o c, σ0.heap o = none ∧ L ≠ [] ∧ L.length ≤ c ∧ v = .mslc o 4 0 L.length c (38) ∧ σ = σ0.set o (.cells (flat (L.map sEnt)))
theorem clEn_0 {t : Bool} {σ : Store} : ACalls Tryz.prog 61 [.sl 4 [] t] σ fun v σ' => CBEn σ σ' [] v := by
  refine ACalls_of Tryz.func61 rfl Tryz.ntmps61 (congrArg Array.toList Tryz.results61) (by simp only [List.length_cons, List.length_nil]; decide) ?_; simp only [envOf_cons, envOf_nil, Nat.reduceAdd]
  refine awp_seq ?_
  refine awp_region (by kernel_rfl) ?_
  (refine aL_S rfl rfl v_ ?_)
  refine aL_nil ?_
  refine awp_seq ?_
  refine awp_seq ?_
  refine awp_region (by kernel_rfl) ?_
  (refine aL_S rfl rfl v_ ?_)
  refine aL_X rfl rfl (AOp_eqNil0 rfl g_ va_ va_ fun b => ?_)
  refine aL_nil ?_
  refine awp_cond v_ (fun hc1 => ?_) (fun hc1 => ?_)
  · replace hc1 := nm_ hc1
    refine awp_seq ?_
    refine awp_region (by kernel_rfl) ?_
    (refine aL_S rfl rfl v_ ?_)
    refine aL_nil ?_
    refine awp_ret ?_
    exact aEnd_retW (v := .sl 4 [] true) (v' := .lit (.slice none 0 0)) va_ (.nil _ _) sub_ (.inl ⟨rfl, rfl, rfl⟩)
  · replace hc1 := nm_ hc1
    refine awp_skip ?_
    refine awp_seq ?_
    refine awp_region (by kernel_rfl) ?_
    refine aL_buildSlice rfl rfl rfl g_ g_ rfl rfl h_ c2_ (by decide) ?_
    (refine aL_S rfl rfl v_ ?_)
    refine aL_X rfl rfl (AOp_append00T rfl g_ g_ va_ va_ ?_)
    (refine aL_S rfl rfl v_ ?_)
    refine aL_nil ?_
    refine awp_ret ?_
    exact aEnd_ret va_ sub_ (.inl ⟨rfl, rfl, rfl⟩)
theorem clEn_1 {L : List Ent} {t : Bool} {σ : Store} (h0 : L ≠ []) (hl : L.length ≤ 1000000) : ACalls Tryz.prog 61 [.sl 4 (L.map sEnt) t] σ fun v σ' => CBEn σ σ' L v := by
  have hne : L.map sEnt ≠ [] := by simpa using h0
  refine ACalls_of Tryz.func61 rfl Tryz.ntmps61 (congrArg Array.toList Tryz.results61) (by simp only [List.length_cons, List.length_nil]; decide) ?_; simp only [envOf_cons, envOf_nil, Nat.reduceAdd]
  refine awp_seq ?_
  refine awp_region (by kernel_rfl) ?_
  (refine aL_S rfl rfl v_ ?_)
  refine aL_nil ?_
  refine awp_seq ?_
  refine awp_seq ?_
  refine awp_region (by kernel_rfl) ?_
  (refine aL_S rfl rfl v_ ?_)
  refine aL_X rfl rfl (AOp_eqNil rfl g_ v_ (by exact hne) va_ ?_)
  refine aL_nil ?_
  refine awp_cond v_ (fun hc1 => ?_) (fun hc1 => ?_)
  · replace hc1 := nm_ hc1
    cases hc1
  · replace hc1 := nm_ hc1
    refine awp_skip ?_
    refine awp_seq ?_
    refine awp_region (by kernel_rfl) ?_
    refine aL_buildSlice rfl rfl rfl g_ g_ rfl rfl h_ c2_ (by decide) ?_
    (refine aL_S rfl rfl v_ ?_)
    refine aL_X rfl rfl (AOp_copyMc rfl g_ g_ va_ g_ hne (by simp; omega) fun o7 c7 ho7 hc7 => ?_)
    (refine aL_S rfl rfl v_ ?_)
    refine aL_nil ?_
    refine awp_ret ?_
    refine aEnd_ret v_ (Store.Wk.refl _) ?_
    exact .inr ⟨o7, c7, ho7, h0, by simpa using hc7, rfl, rfl⟩
theorem cloneEn {L : List Ent} {t : Bool} {σ : Store} (hl : L.length ≤ 1000000) : ACalls Tryz.prog 61 [.sl 4 (L.map sEnt) t] σ fun v σ' => CBEn σ σ' L v := by
  by_cases h : L = []
  · subst h; exact clEn_0
  · exact clEn_1 h hl
theorem ixEn_b {F : Nat} {caps : List AVal} {t : Bool} {σ : Store} (hF : isGo Tryz.prog F = true) : ACalls Tryz.prog 54 [.sl 4 [] t, fnEn F caps] σ fun v σ' => v = vInt (-1) ∧ σ = σ' := by
  refine ACalls_of Tryz.func54 rfl Tryz.ntmps54 (congrArg Array.toList Tryz.results54) (by simp only [List.length_cons, List.length_nil]; decide) ?_; simp only [envOf_cons, envOf_nil, Nat.reduceAdd]
  refine awp_seq ?_
  refine awp_region (by kernel_rfl) ?_
  (refine aL_S rfl rfl v_ ?_)
  refine aL_nil ?_
  refine awp_seq ?_
  refine awp_seq ?_
  refine awp_region (by kernel_rfl) ?_
  iterate 3 (refine aL_S rfl rfl v_ ?_)
  refine aL_nil ?_
  refine awp_block ?_
  refine awp_loop_env (ι := Nat) (fun k => 0) (fun k => k = 0) (fun k => [(0, .sl 4 [] t), (1, fnEn F caps), (7, vInt 0), (8, vInt k)]) (fun k => σ) 0 ?_ ?_ ?_ ?_
  · rfl
  · exact cv_
  · exact sub_
  rintro k hk
  simp only [envL_cons, envL_nil]
  refine awp_seq ?_
  refine awp_region (by kernel_rfl) ?_
  (refine aL_S rfl rfl v_ ?_)
  refine aL_nil ?_
  refine awp_seq ?_
  refine awp_cond v_ (fun hc2 => ?_) (fun hc2 => ?_)
  · replace hc2 := nm_ hc2
    omega
  · replace hc2 := nm_ hc2
    refine awp_exit ?_
    refine aThen_exit ?_
    refine aThen_exit ?_
    refine aBlock_hit ?_
    refine awp_seq ?_
    refine awp_region (by kernel_rfl) ?_
    (refine aL_S rfl rfl v_ ?_)
    refine aL_nil ?_
    refine awp_ret ?_
    refine aEnd_ret (σ' := σ) v_ sub_ ?_
    exact ⟨rfl, rfl⟩
/-- where the first one stands -/
theorem ixEn_s {F : Nat} {caps : List AVal} {p : Ent → Bool} {L : List Ent} {t : Bool} {σ : Store} (hF : PFEn F caps σ p) (hl : L.length ≤ 1000000) : ACalls Tryz.prog 54 [.sl 4 (L.map sEnt) t, fnEn F caps] σ fun v σ' => (∃ r : Int, v = vInt r ∧ ((r = -1 ∧ L.find? p = none) ∨ ∃ j : Nat, ∃ x, r = j ∧ L[j]? = some x ∧ L.find? p = some x)) ∧ σ = σ' := by
  have hgo := hF.1
  refine ACalls_of Tryz.func54 rfl Tryz.ntmps54 (congrArg Array.toList Tryz.results54) (by simp only [List.length_cons, List.length_nil]; decide) ?_; simp only [envOf_cons, envOf_nil, Nat.reduceAdd]
  refine awp_seq ?_
  refine awp_region (by kernel_rfl) ?_
  (refine aL_S rfl rfl v_ ?_)
  refine aL_nil ?_
  refine awp_seq ?_
  refine awp_seq ?_
  refine awp_region (by kernel_rfl) ?_
  iterate 3 (refine aL_S rfl rfl v_ ?_)
  refine aL_nil ?_
  refine awp_block ?_
  refine awp_loop_env (ι := Nat) (fun k => L.length - k) (fun k => k ≤ L.length ∧ ∀ m y, m < k → L[m]? = some y → p y = false) (fun k => [(0, .sl 4 (L.map sEnt) t), (1, fnEn F caps), (7, vInt L.length), (8, vInt k)]) (fun k => σ) 0 ?_ ?_ ?_ ?_
  · exact ⟨Nat.zero_le _, fun m y hm => by omega⟩
  · exact cv_
  · exact sub_
  rintro k ⟨hk, hf⟩
  simp only [envL_cons, envL_nil]
  refine awp_seq ?_
  refine awp_region (by kernel_rfl) ?_
  (refine aL_S rfl rfl v_ ?_)
  refine aL_nil ?_
  refine awp_seq ?_
  refine awp_cond v_ (fun hc2 => ?_) (fun hc2 => ?_)
  · replace hc2 := nm_ hc2
    refine awp_skip ?_
    refine awp_seq ?_
    refine awp_block ?_
    refine awp_seq ?_
    refine awp_region (by kernel_rfl) ?_
    iterate 2 (refine aL_S rfl rfl v_ ?_)
    refine aL_nil ?_
    refine awp_seq ?_
    obtain ⟨x, hx⟩ := get_some (l := L) (k := k) (by omega)
    have R := hx
    refine awp_region (by kernel_rfl) ?_
    iterate 5 (refine aL_S rfl rfl v_ ?_)
    refine aL_X rfl rfl (AOp_use rfl rfl (.inl v_) g_ va_ (hF.2 _ (fun _ _ h => h) x) ?_); rintro _ _ ⟨rfl, rfl⟩
    refine aL_nil ?_
    refine awp_cond v_ (fun hc4 => ?_) (fun hc4 => ?_)
    · replace hc4 := nm_ hc4
      refine awp_seq ?_
      refine awp_region (by kernel_rfl) ?_
      iterate 2 (refine aL_S rfl rfl v_ ?_)
      refine aL_nil ?_
      refine awp_ret ?_
      refine aEnd_ret (σ' := σ) v_ sub_ ?_
      exact ⟨⟨k, rfl, .inr ⟨k, x, rfl, hx, find_at hx (by simpa using hc4) hf⟩⟩, rfl⟩
    · replace hc4 := nm_ hc4
      refine awp_skip ?_
      refine awp_region (by kernel_rfl) ?_
      iterate 2 (refine aL_S rfl rfl v_ ?_)
      refine aL_nil ?_
      refine aNext (ι := Nat) (i := k) (k + 1) ?_ ?_ ?_ ?_
      · omega
      · exact ⟨by omega, fun m y hm hy => by rcases Nat.lt_or_eq_of_le (Nat.le_of_lt_succ hm) with h | h; exact hf m y h hy; rw [h, hx] at hy; cases hy; simpa using hc4⟩
      · exact cv_
      · exact sub_
  · replace hc2 := nm_ hc2
    refine awp_exit ?_
    refine aThen_exit ?_
    refine aThen_exit ?_
    refine aBlock_hit ?_
    refine awp_seq ?_
    refine awp_region (by kernel_rfl) ?_
    (refine aL_S rfl rfl v_ ?_)
    refine aL_nil ?_
    refine awp_ret ?_
    refine aEnd_ret (σ' := σ) v_ sub_ ?_
    exact ⟨⟨-1, rfl, .inl ⟨rfl, List.find?_eq_none.2 fun y hy => by obtain ⟨m, hm, e⟩ := List.mem_iff_getElem.1 hy; have := hf m y (by omega) (by rw [List.getElem?_eq_getElem hm, e]); rw [this]; simp⟩⟩, rfl⟩
theorem ixEn_M {o F : Nat} {caps : List AVal} {p : Ent → Bool} {L : List Ent} {σ0 σ : Store} (hF : PFEn F caps σ0 p) (hs : ∀ i y, σ0.heap i = some y → σ.heap i = some y) (ho : σ.heap o = some (.cells (flat (L.map sEnt)))) (hl : L.length ≤ 1000000) : ACalls Tryz.prog 54 [.msl o 4 0 L.length, fnEn F caps] σ fun v σ' => (∃ r : Int, v = vInt r ∧ (r = -1 → L.filter (fun x => !p x) = L) ∧ (r ≠ -1 → ∃ j : Nat, r = j ∧ j < L.length ∧ (L.take (j + 1)).filter (fun x => !p x) = L.take j)) ∧ σ = σ' := by
  have hfl := flEn_len L
  have hgo := hF.1
  refine ACalls_of Tryz.func54 rfl Tryz.ntmps54 (congrArg Array.toList Tryz.results54) (by simp only [List.length_cons, List.length_nil]; decide) ?_; simp only [envOf_cons, envOf_nil, Nat.reduceAdd]
  refine awp_seq ?_
  refine awp_region (by kernel_rfl) ?_
  (refine aL_S rfl rfl v_ ?_)
  refine aL_nil ?_
  refine awp_seq ?_
  refine awp_seq ?_
  refine awp_region (by kernel_rfl) ?_
  iterate 3 (refine aL_S rfl rfl v_ ?_)
  refine aL_nil ?_
  refine awp_block ?_
  refine awp_loop_env (ι := Nat) (fun k => L.length - k) (fun k => k ≤ L.length ∧ (L.take k).filter (fun x => !p x) = L.take k) (fun k => [(0, .msl o 4 0 L.length), (1, fnEn F caps), (7, vInt L.length), (8, vInt k)]) (fun k => σ) 0 ?_ ?_ ?_ ?_
  · exact ⟨Nat.zero_le _, rfl⟩
  · exact cv_
  · exact sub_
  rintro k ⟨hk, hf⟩
  simp only [envL_cons, envL_nil]
  refine awp_seq ?_
  refine awp_region (by kernel_rfl) ?_
  (refine aL_S rfl rfl v_ ?_)
  refine aL_nil ?_
  refine awp_seq ?_
  refine awp_cond v_ (fun hc2 => ?_) (fun hc2 => ?_)
  · replace hc2 := nm_ hc2
    refine awp_skip ?_
    refine awp_seq ?_
    refine awp_block ?_
    refine awp_seq ?_
    refine awp_region (by kernel_rfl) ?_
    iterate 2 (refine aL_S rfl rfl v_ ?_)
    refine aL_nil ?_
    refine awp_seq ?_
    obtain ⟨x, hx⟩ := get_some (l := L) (k := k) (by omega)
    have px := flEn_part hx
    have R := And.intro px (And.intro ho hfl)
    refine awp_region (by kernel_rfl) ?_
    iterate 5 (refine aL_S rfl rfl v_ ?_)
    refine aL_X rfl rfl (AOp_use rfl rfl (.inl v_) g_ va_ (hF.2 _ hs x) ?_); rintro _ _ ⟨rfl, rfl⟩
    refine aL_nil ?_
    refine awp_cond v_ (fun hc4 => ?_) (fun hc4 => ?_)
    · replace hc4 := nm_ hc4
      refine awp_seq ?_
      refine awp_region (by kernel_rfl) ?_
      iterate 2 (refine aL_S rfl rfl v_ ?_)
      refine aL_nil ?_
      refine awp_ret ?_
      refine aEnd_ret (σ' := σ) v_ sub_ ?_
      exact ⟨⟨k, rfl, fun h => by omega, fun _ => ⟨k, rfl, by omega, by rw [take_snoc hx, List.filter_append, hf]; simp [hc4]⟩⟩, rfl⟩
    · replace hc4 := nm_ hc4
      refine awp_skip ?_
      refine awp_region (by kernel_rfl) ?_
      iterate 2 (refine aL_S rfl rfl v_ ?_)
      refine aL_nil ?_
      refine aNext (ι := Nat) (i := k) (k + 1) ?_ ?_ ?_ ?_
      · omega
      · exact ⟨by omega, by rw [take_snoc hx, List.filter_append, hf]; simp [hc4]⟩
      · exact cv_
      · exact sub_
  · replace hc2 := nm_ hc2
    refine awp_exit ?_
    refine aThen_exit ?_
    refine aThen_exit ?_
    refine aBlock_hit ?_
    refine awp_seq ?_
    refine awp_region (by kernel_rfl) ?_
    (refine aL_S rfl rfl v_ ?_)
    refine aL_nil ?_
    refine awp_ret ?_
    refine aEnd_ret (σ' := σ) v_ sub_ ?_
    exact ⟨⟨-1, rfl, fun _ => by rwa [List.take_of_length_le (by omega)] at hf, fun h => absurd rfl h⟩, rfl⟩
structure DlEn (p : Ent → Bool) (L : List Ent) (j i : Nat) (M : List Ent) : Prop where
  len : M.length = L.length
  tk : M.take i = (L.take j).filter (fun x => !p x)
  cnt : ((L.take j).filter (fun x => !p x)).length = i
  lt : i < j
  le : j ≤ L.length
  dr : M.drop j = L.drop j
theorem DlEn.put {p : Ent → Bool} {L : List Ent} {j i : Nat} {M : List Ent} {x : Ent} (h : DlEn p L j i M) (hx : L[j]? = some x) (hg : p x = false) : DlEn p L (j + 1) (i + 1) (M.set i x) := by
  have h1 := (List.getElem?_eq_some_iff.1 hx).1
  have hk := h.lt
  have hl := h.len
  have hf : (L.take (j + 1)).filter (fun x => !p x) = (L.take j).filter (fun x => !p x) ++ [x] := by rw [take_snoc hx, List.filter_append]; simp [hg]
  refine ⟨by rw [List.length_set]; exact hl, ?_, by rw [hf, List.length_append, h.cnt]; rfl, by omega, by omega, ?_⟩
  · rw [hf, ← h.tk, take_snoc (show (M.set i x)[i]? = some x by rw [List.getElem?_set_self]; omega), List.take_set_of_le (Nat.le_refl _)]
  · rw [List.drop_set_of_lt (by omega)]
    have := congrArg (List.drop 1) h.dr
    rwa [List.drop_drop, List.drop_drop] at this
theorem DlEn.skip {p : Ent → Bool} {L : List Ent} {j i : Nat} {M : List Ent} {x : Ent} (h : DlEn p L j i M) (hx : L[j]? = some x) (hg : p x = true) : DlEn p L (j + 1) i M := by
  have h1 := (List.getElem?_eq_some_iff.1 hx).1
  have hk := h.lt
  have hf : (L.take (j + 1)).filter (fun x => !p x) = (L.take j).filter (fun x => !p x) := by rw [take_snoc hx, List.filter_append]; simp [hg]
  refine ⟨h.len, by rw [hf]; exact h.tk, by rw [hf]; exact h.cnt, by omega, by omega, ?_⟩
  have := congrArg (List.drop 1) h.dr
  rwa [List.drop_drop, List.drop_drop] at this
theorem deEn_b {F : Nat} {caps : List AVal} {t : Bool} {σ : Store} (hF : isGo Tryz.prog F = true) : ACalls Tryz.prog 60 [.sl 4 [] t, fnEn F caps] σ fun v σ' => v = .sl 4 [] false ∧ σ = σ' := by
  refine ACalls_of Tryz.func60 rfl Tryz.ntmps60 (congrArg Array.toList Tryz.results60) (by simp only [List.length_cons, List.length_nil]; decide) ?_; simp only [envOf_cons, envOf_nil, Nat.reduceAdd]
  refine awp_seq ?_
  refine awp_region (by kernel_rfl) ?_
  (refine aL_S rfl rfl v_ ?_)
  refine aL_nil ?_
  refine awp_seq ?_
  refine awp_region (by kernel_rfl) ?_
  iterate 2 (refine aL_S rfl rfl v_ ?_)
  refine aL_X rfl rfl (AOp_use rfl rfl (.inr ⟨rfl, rfl, rfl⟩) g_ va_ (ixEn_b hF) ?_); rintro _ _ ⟨rfl, rfl⟩
  (refine aL_S rfl rfl v_ ?_)
  refine aL_nil ?_
  refine awp_seq ?_
  refine awp_seq ?_
  refine awp_region (by kernel_rfl) ?_
  iterate 2 (refine aL_S rfl rfl v_ ?_)
  refine aL_nil ?_
  refine awp_cond v_ (fun hc2 => ?_) (fun hc2 => ?_)
  · replace hc2 := nm_ hc2
    refine awp_seq ?_
    refine awp_region (by kernel_rfl) ?_
    iterate 2 (refine aL_S rfl rfl v_ ?_)
    refine aL_nil ?_
    refine awp_ret ?_
    exact aEnd_retW (v := .sl 4 [] false) (v' := .sl 4 [] t) va_ (.sl1 _ _ _) sub_ ⟨rfl, rfl⟩
  · replace hc2 := nm_ hc2
    first | omega | (simp at hc2; done) | cases hc2
set_option maxHeartbeats 2000000 in
theorem deEn_M {o F : Nat} {caps : List AVal} {p : Ent → Bool} {L : List Ent} {σ0 σ : Store} (hF : PFEn F caps σ0 p) (hn0 : σ0.heap o = none) (hs : ∀ i y, i ≠ o → σ0.heap i = some y → σ.heap i = some y) (ho : σ.heap o = some (.cells (flat (L.map sEnt)))) (hl : L.length ≤ 1000000) :
    ACalls Tryz.prog 60 [.msl o 4 0 L.length, fnEn F caps] σ fun v σ' => ∃ zs : List AVal, v = .msl o 4 0 (L.filter (fun x => !p x)).length ∧ σ' = σ.set o (.cells (flat ((L.filter (fun x => !p x)).map sEnt) ++ zs)) := by
  have hfl := flEn_len L
  have hgo := hF.1
  have hne : ∀ i y, σ0.heap i = some y → i ≠ o := fun i y hy hh => by rw [hh, hn0] at hy; cases hy
  refine ACalls_of Tryz.func60 rfl Tryz.ntmps60 (congrArg Array.toList Tryz.results60) (by simp only [List.length_cons, List.length_nil]; decide) ?_; simp only [envOf_cons, envOf_nil, Nat.reduceAdd]
  refine awp_seq ?_
  refine awp_region (by kernel_rfl) ?_
  (refine aL_S rfl rfl v_ ?_)
  refine aL_nil ?_
  refine awp_seq ?_
  refine awp_region (by kernel_rfl) ?_
  iterate 2 (refine aL_S rfl rfl v_ ?_)
  refine aL_X rfl rfl (AOp_use rfl rfl (.inr ⟨rfl, rfl, rfl⟩) g_ va_ (ixEn_M hF (fun i y hy => hs i y (hne i y hy) hy) ho hl) ?_); rintro _ _ ⟨⟨r, rfl, h1, h2⟩, rfl⟩
  (refine aL_S rfl rfl v_ ?_)
  refine aL_nil ?_
  refine awp_seq ?_
  refine awp_seq ?_
  refine awp_region (by kernel_rfl) ?_
  iterate 2 (refine aL_S rfl rfl v_ ?_)
  refine aL_nil ?_
  refine awp_cond v_ (fun hc2 => ?_) (fun hc2 => ?_)
  · replace hc2 := nm_ hc2
    refine awp_seq ?_
    refine awp_region (by kernel_rfl) ?_
    iterate 2 (refine aL_S rfl rfl v_ ?_)
    refine aL_nil ?_
    refine awp_ret ?_
    refine aEnd_ret v_ (Store.Wk.refl _) ?_
    exact ⟨[], by rw [h1 hc2], by rw [h1 hc2, List.append_nil, Store.set_same ho]⟩
  · replace hc2 := nm_ hc2
    obtain ⟨j0, rfl, hj0, hf0⟩ := h2 hc2
    have hI0 : DlEn p L (j0 + 1) j0 L := ⟨rfl, hf0.symm, by rw [hf0, List.length_take]; omega, by omega, by omega, rfl⟩
    refine awp_skip ?_
    refine awp_seq ?_
    refine awp_seq ?_
    refine awp_region (by kernel_rfl) ?_
    iterate 3 (refine aL_S rfl rfl v_ ?_)
    refine aL_nil ?_
    refine awp_block ?_
    refine awp_loop_env (ι := Nat × Nat × List Ent) (fun ⟨j, i, M⟩ => L.length - j) (fun ⟨j, i, M⟩ => DlEn p L j i M) (fun ⟨j, i, M⟩ => [(0, .msl o 4 0 L.length), (1, fnEn F caps), (5, vInt i), (6, vInt j)]) (fun ⟨j, i, M⟩ => (σ.set o (.cells (flat (M.map sEnt))))) (j0 + 1, j0, L) ?_ ?_ ?_ ?_
    · exact hI0
    · exact cv_
    · (try dsimp only); rw [Store.set_same ho]; exact Store.Wk.refl _
    rintro ⟨j, i, M⟩ hI
    simp only [envL_cons, envL_nil]
    refine awp_seq ?_
    refine awp_seq ?_
    refine awp_region (by kernel_rfl) ?_
    iterate 4 (refine aL_S rfl rfl v_ ?_)
    refine aL_nil ?_
    refine awp_cond v_ (fun hc5 => ?_) (fun hc5 => ?_)
    · replace hc5 := nm_ hc5
      refine awp_skip ?_
      refine awp_seq ?_
      refine awp_block ?_
      refine awp_seq ?_
      have hjl : j < L.length := by omega
      obtain ⟨x, hx⟩ := get_some (l := L) (k := j) hjl
      have hMx : M[j]? = some x := by rw [drEn_get hI.dr (Nat.le_refl _)]; exact hx
      have px := flEn_part hMx
      have hflM := flEn_len M
      rw [hI.len] at hflM
      have hil := hI.lt
      have R := And.intro px hflM
      refine awp_region (by kernel_rfl) ?_
      iterate 4 (refine aL_S rfl rfl v_ ?_)
      refine aL_alloc rfl rfl rfl g_ gl_ fun o7 ho7 => ?_
      repeat (rw [none_set_iff] at ho7; obtain ⟨_, ho7⟩ := ho7)
      refine aL_store rfl rfl rfl v_ v_ h_ g_ rfl g_ c_ (by rfl) le_ v_ ?_
      refine aL_nil ?_
      refine awp_seq ?_
      skip
      have hk7 : ∀ i y, σ0.heap i = some y → ((((σ.set o (.cells (flat (M.map sEnt)))).set o7 (.cells [.lit (.string ⟨#[]⟩), .lit (.int .i64 0), .lit (.string ⟨#[]⟩), .lit (.string ⟨#[]⟩)])).set o7 (.cells [vStr x.key, vInt x.n, vStr x.who, vStr x.value]))).heap i = some y := fun i y hy => by
        have e1 := hne i y hy
        have e2 := hs i y e1 hy
        have e3 : i ≠ o7 := fun hh => by rw [hh, ho7] at e2; cases e2
        rw [Store.set_ne _ _ e3, Store.set_ne _ _ e3, Store.set_ne _ _ e1]; exact e2
      refine awp_region (by kernel_rfl) ?_
      iterate 2 (refine aL_S rfl rfl v_ ?_)
      refine aL_X rfl rfl (AOp_use rfl rfl (.inl v_) g_ va_ (hF.2 _ hk7 x) ?_); rintro _ _ ⟨rfl, rfl⟩
      (refine aL_S rfl rfl v_ ?_)
      refine aL_nil ?_
      refine awp_cond v_ (fun hc8 => ?_) (fun hc8 => ?_)
      · replace hc8 := nm_ hc8
        refine awp_seq ?_
        have R := hflM
        refine awp_region (by kernel_rfl) ?_
        iterate 4 (refine aL_S rfl rfl v_ ?_)
        refine aL_store rfl rfl rfl v_ v_ h_ g_ rfl g_ c_ (by rfl) (by rw [hflM]; omega) (flEn_put (by rw [hI.len]; omega)) ?_
        refine aL_nil ?_
        refine awp_region (by kernel_rfl) ?_
        iterate 3 (refine aL_S rfl rfl v_ ?_)
        refine aL_nil ?_
        refine awp_region (by kernel_rfl) ?_
        iterate 3 (refine aL_S rfl rfl v_ ?_)
        refine aL_nil ?_
        refine aNext (ι := Nat × Nat × List Ent) (i := ⟨j, i, M⟩) (j + 1, i + 1, M.set i x) ?_ ?_ ?_ ?_
        · show L.length - (j + 1) < L.length - j; omega
        · exact hI.put hx (by simpa using hc8)
        · exact cv_
        · exact sub_
      · replace hc8 := nm_ hc8
        refine awp_skip ?_
        refine awp_region (by kernel_rfl) ?_
        iterate 3 (refine aL_S rfl rfl v_ ?_)
        refine aL_nil ?_
        refine aNext (ι := Nat × Nat × List Ent) (i := ⟨j, i, M⟩) (j + 1, i, M) ?_ ?_ ?_ ?_
        · show L.length - (j + 1) < L.length - j; omega
        · exact hI.skip hx (by simpa using hc8)
        · exact cv_
        · exact sub_
    · replace hc5 := nm_ hc5
      refine awp_exit ?_
      refine aThen_exit ?_
      refine aThen_exit ?_
      refine aBlock_hit ?_
      refine awp_seq ?_
      have hil := hI.lt
      have hle := hI.le
      have hflM := flEn_len M
      rw [hI.len] at hflM
      have hcnt := hI.cnt
      have htk := hI.tk
      rw [show j = L.length by omega, List.take_length] at hcnt htk
      refine awp_region (by kernel_rfl) ?_
      iterate 3 (refine aL_S rfl rfl v_ ?_)
      refine aL_X0 rfl rfl (AOp_clear (sz := 4) rfl g_ g_ (by rfl) (by decide) va_ h_ (by rw [hflM]; omega) fun zs hz => ?_)
      refine aL_nil ?_
      refine awp_seq ?_
      refine awp_region (by kernel_rfl) ?_
      iterate 4 (refine aL_S rfl rfl v_ ?_)
      refine aL_nil ?_
      refine awp_ret ?_
      refine aEnd_ret v_ (Store.Wk.refl _) ?_
      exact ⟨zs ++ (flat (M.map sEnt)).drop (i * 4 + zs.length), by rw [hcnt]; rfl, by rw [Store.set_set, flEn_take, htk]⟩
theorem deleteEn {F : Nat} {caps : List AVal} {p : Ent → Bool} {σ0 σ : Store} {L : List Ent} {a : AVal} (hF : PFEn F caps σ0 p) (h : CBEn σ0 σ L a) (hl : L.length ≤ 1000000) :
    ACalls Tryz.prog 60 [a, fnEn F caps] σ fun v σ' => v = .sl 4 ((L.filter fun x => !p x).map sEnt) false ∧ σ0 = σ' := by
  rcases h with ⟨rfl, rfl, rfl⟩ | ⟨o, c, ho, _, _, rfl, rfl⟩
  · exact deEn_b hF.1
  · refine ACalls.wkA (args := [.mslc o 4 0 L.length c _, fnEn F caps]) ((deEn_M (σ := σ0.set o (.cells (flat (L.map sEnt)))) hF ho (fun i y hi hy => by rw [Store.set_ne _ _ hi]; exact hy) (Store.set_get ..) hl).aft ?_) rfl (fun j hj hj' => by match j, hj with | 0, _ => exact Wk.mslc _ _ _ _ _ _ | 1, _ => exact .refl _)
    rintro κ _ _ cv hI hr ⟨zs, rfl, rfl⟩
    obtain ⟨κ', h1, h2, h3, h4⟩ := Ab.freeze hI hr (Store.set_get ..) (l := (L.filter (fun x => !p x)).map sEnt) (by rw [List.take_left' (by rw [flEn_len])]) (by simp) (szEnt _)
    rw [Store.set_set, Store.set_del ho] at h3
    exact ⟨κ', _, _, h1, h2, h3, h4, rfl, rfl⟩
end Go.Proofs.YtbomkkjhafdhiaaGreatDoor
end

section
set_option linter.all false
set_option maxRecDepth 100000
namespace Go.Proofs.YtbomkkjhafdhiaaGreatDoor
open Go.Ab
theorem get1_c {q : Nat} {x : Ent} {s : ByteArray} {σ : Store} (hq : σ.heap q = some (.cells [vStr s])) : ACalls Tryz.prog 55 [sEnt x, .ref q 0] σ fun v σ' => v = vB (decide (x.key = s)) ∧ σ = σ' := by
  refine ACalls_of Tryz.func55 rfl Tryz.ntmps55 (congrArg Array.toList Tryz.results55) (by simp only [List.length_cons, List.length_nil]; decide) ?_; simp only [envOf_cons, envOf_nil, Nat.reduceAdd]
  refine awp_seq ?_
  refine awp_region (by kernel_rfl) ?_
  refine aL_box rfl rfl rfl v_ rfl g_ fun o2 ho2 => ?_
  repeat (rw [none_set_iff] at ho2; obtain ⟨_, ho2⟩ := ho2)
  (refine aL_S rfl rfl v_ ?_)
  refine aL_nil ?_
  have n3 := ne_of_heap hq ho2
  refine awp_seq ?_
  have R := hq
  refine awp_region (by kernel_rfl) ?_
  iterate 5 (refine aL_S rfl rfl v_ ?_)
  refine aL_nil ?_
  refine awp_ret ?_
  refine aEnd_ret (σ' := σ) v_ sub_ ?_
  exact ⟨rfl, rfl⟩
theorem pfGet {q : Nat} {s : ByteArray} {σ : Store} (hq : σ.heap q = some (.cells [vStr s])) : PFEn 55 [.ref q 0] σ fun x => decide (x.key = s) := ⟨by kernel_rfl, fun τ hs x => get1_c (hs _ _ hq)⟩
theorem get_c {l : List Ent} {t : Bool} {k : ByteArray} {σ : Store} (hl : l.length ≤ 1000000) : ACalls Tryz.prog 28 [.sl 4 (l.map sEnt) t, vStr k] σ fun v σ' => v = sReg (getS l k) ∧ σ = σ' := by
  refine ACalls_of Tryz.func28 rfl Tryz.ntmps28 (congrArg Array.toList Tryz.results28) (by simp only [List.length_cons, List.length_nil]; decide) ?_; simp only [envOf_cons, envOf_nil, Nat.reduceAdd]
  refine awp_seq ?_
  refine awp_region (by kernel_rfl) ?_
  refine aL_box rfl rfl rfl v_ rfl g_ fun o3 ho3 => ?_
  repeat (rw [none_set_iff] at ho3; obtain ⟨_, ho3⟩ := ho3)
  refine aL_alloc rfl rfl rfl g_ gl_ fun o4 ho4 => ?_
  repeat (rw [none_set_iff] at ho4; obtain ⟨_, ho4⟩ := ho4)
  refine aL_nil ?_
  refine awp_seq ?_
  refine awp_region (by kernel_rfl) ?_
  iterate 2 (refine aL_S rfl rfl v_ ?_)
  refine aL_X rfl rfl (AOp_use rfl rfl (.inr ⟨rfl, rfl, rfl⟩) g_ va_ (ixEn_s (pfGet (s := k) h_) hl) ?_); rintro _ _ ⟨⟨r, rfl, hr⟩, rfl⟩
  (refine aL_S rfl rfl v_ ?_)
  refine aL_nil ?_
  refine awp_seq ?_
  refine awp_seq ?_
  refine awp_region (by kernel_rfl) ?_
  iterate 2 (refine aL_S rfl rfl v_ ?_)
  refine aL_nil ?_
  refine awp_cond v_ (fun hc2 => ?_) (fun hc2 => ?_)
  · replace hc2 := nm_ hc2
    refine awp_seq ?_
    refine awp_region (by kernel_rfl) ?_
    (refine aL_S rfl rfl v_ ?_)
    refine aL_store rfl rfl rfl v_ v_ h_ g_ rfl g_ c_ (by rfl) le_ v_ ?_
    refine aL_nil ?_
    refine awp_ret ?_
    refine aEnd_ret (σ' := σ) v_ sub_ ?_
    exact ⟨by rcases hr with ⟨_, h⟩ | ⟨j, x, rfl, _⟩; rw [getS, h]; rfl; omega, rfl⟩
  · replace hc2 := nm_ hc2
    obtain ⟨j, x, rfl, hx, hf⟩ : ∃ j : Nat, ∃ x, r = j ∧ l[j]? = some x ∧ l.find? (fun x => decide (x.key = k)) = some x := by rcases hr with ⟨rfl, _⟩ | h; omega; exact h
    have hj := (List.getElem?_eq_some_iff.1 hx).1
    refine awp_skip ?_
    refine awp_seq ?_
    have R := hx
    refine awp_region (by kernel_rfl) ?_
    iterate 5 (refine aL_S rfl rfl v_ ?_)
    refine aL_store rfl rfl rfl v_ v_ h_ g_ rfl g_ c_ (by rfl) le_ v_ ?_
    refine aL_nil ?_
    refine awp_ret ?_
    refine aEnd_ret (σ' := σ) v_ sub_ ?_
    exact ⟨by rw [getS, hf]; rfl, rfl⟩
end Go.Proofs.YtbomkkjhafdhiaaGreatDoor
end
