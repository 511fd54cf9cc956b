/-
  Struct values, len, min, max, maps that are looked into; 'aval' for all operations, and that it is so. Own work (an AI agent).
-/
import Derived.Test.YtdedpamcpgbgmaaAbPure2
set_option linter.all false
namespace Go.Ab

/-! ### struct and array values -/

def aput (cs : List AVal) (off : Nat) (vs : List AVal) : List AVal := cs.take off ++ vs ++ cs.drop (off + vs.length)

def afill (place : Nat → Option (Nat × Nat)) (cells : List AVal) : List (Nat × AVal) → Option (List AVal)
  | [] => some cells
  | (i, v) :: rest =>
    match place i with
    | none => none
    | some (off, size) => if v.solid ∧ v.cells.length = size ∧ off + size ≤ cells.length then afill place (aput cells off v.cells) rest else none

def zeroOf (P : Program) (t : TypeId) : Option Value :=
  match P.info? t with
  | some i => i.zero
  | none => none

def structPlaces (P : Program) (fs : List Field) : Option (List (Nat × Nat)) :=
  fs.mapM fun f => (P.info? f.type).map fun i => (f.offset, i.size)

def zeroCells' (v : Value) : List AVal := v.cells.toList.map .lit

/-- the places of the parts of a struct or an array, and its zero value's cells -/
def buildInfo (P : Program) (t : TypeId) : Option (List (Nat × Nat) × Nat × List Value) :=
  match zeroOf P t with
  | none => none
  | some z => match P.underlying t with
    | some (.struct fs) => match structPlaces P fs.toList with
      | some ps => some (ps, 0, z.cells.toList)
      | none => none
    | some (.array _ e) => match typeOf P e with
      | some (s, _) => some ([], s, z.cells.toList)
      | none => none
    | _ => none

def placeOf (ps : List (Nat × Nat)) (s : Nat) (i : Nat) : Option (Nat × Nat) := if s = 0 then ps[i]? else some (i * s, s)

def abuild (P : Program) (t : TypeId) (parts : List (Nat × AVal)) : Option AVal :=
  match buildInfo P t with
  | none => none
  | some (ps, s, z) => (afill (placeOf ps s) (z.map .lit) parts).map .agg

def RvL (κ : K) (cs : List AVal) (vs : Array Value) : Prop := vs.size = cs.length ∧ ∀ i (hi : i < cs.length), Rv κ cs[i] (vs.getD i undef)

theorem foldl_set_get (off : Nat) : ∀ (l : List (Value × Nat)) (k0 : Nat), (∀ j (hj : j < l.length), l[j].2 = k0 + j) → ∀ (cs : Array Value) (i : Nat),
    ((l.foldl (fun cs (cj : Value × Nat) => cs.setIfInBounds (off + cj.2) cj.1) cs).size = cs.size) ∧
    (l.foldl (fun cs (cj : Value × Nat) => cs.setIfInBounds (off + cj.2) cj.1) cs)[i]? = if off + k0 ≤ i ∧ i < off + k0 + l.length ∧ i < cs.size then (l[i - (off + k0)]?).map (·.1) else cs[i]?
  | [], k0, _, cs, i => by simp; intro h1 h2; omega
  | (v, j) :: l, k0, h, cs, i => by
    have hj : j = k0 := by have := h 0 (by simp); simp only [List.getElem_cons_zero, Nat.add_zero] at this; exact this
    subst hj
    obtain ⟨h1, h2⟩ := foldl_set_get off l (j + 1) (fun q hq => by have := h (q + 1) (by simpa using hq); simp only [List.getElem_cons_succ] at this; omega) (cs.setIfInBounds (off + j) v) i
    simp only [List.foldl_cons]
    refine ⟨by rw [h1]; simp, ?_⟩
    rw [h2]
    simp only [List.length_cons, Array.size_setIfInBounds]
    by_cases c1 : off + (j + 1) ≤ i ∧ i < off + (j + 1) + l.length ∧ i < cs.size
    · rw [if_pos c1, if_pos ⟨by omega, by omega, by omega⟩]
      rw [show i - (off + j) = (i - (off + (j + 1))) + 1 by omega, List.getElem?_cons_succ]
    · rw [if_neg c1]
      by_cases c2 : i = off + j
      · subst c2
        by_cases c3 : off + j < cs.size
        · rw [if_pos ⟨by omega, by omega, c3⟩]
          simp [c3]
        · rw [if_neg (by omega)]
          simp [Array.getElem?_eq_none (show cs.size ≤ off + j by omega), Array.getElem?_eq_none (show (cs.setIfInBounds (off + j) v).size ≤ off + j by simp; omega)]
      · rw [if_neg (by omega), Array.getElem?_setIfInBounds_ne (by omega)]

theorem aput_get? {cs vs : List AVal} {off : Nat} (hle : off + vs.length ≤ cs.length) (i : Nat) : (aput cs off vs)[i]? = if off ≤ i ∧ i < off + vs.length then vs[i - off]? else cs[i]? := by
  unfold aput
  by_cases c1 : i < off
  · rw [if_neg (by omega), List.append_assoc, List.getElem?_append_left (by simp; omega), List.getElem?_take, if_pos c1]
  · by_cases c2 : i < off + vs.length
    · rw [if_pos ⟨by omega, c2⟩, List.append_assoc, List.getElem?_append_right (by simp; omega), List.getElem?_append_left (by simp; omega)]
      congr 1
      simp; omega
    · rw [if_neg (by omega), List.getElem?_append_right (by simp; omega), List.getElem?_drop]
      congr 1
      simp; omega

theorem RvL.of_get? {κ : K} {cs : List AVal} {vs : Array Value} (hn : vs.size = cs.length) (h : ∀ i a, cs[i]? = some a → Rv κ a (vs.getD i undef)) : RvL κ cs vs :=
  ⟨hn, fun i hi => h i _ (List.getElem?_eq_getElem hi)⟩

theorem RvL.get? {κ : K} {cs : List AVal} {vs : Array Value} (h : RvL κ cs vs) {i : Nat} {a : AVal} (ha : cs[i]? = some a) : Rv κ a (vs.getD i undef) := by
  obtain ⟨hi, rfl⟩ := List.getElem?_eq_some_iff.1 ha
  exact h.2 i hi

theorem RvL.put {κ : K} {cs : List AVal} {us : Array Value} (h : RvL κ cs us) {a : AVal} {v : Value} (hv : Rv κ a v) (hs : a.solid = true) {off : Nat} (hle : off + a.cells.length ≤ cs.length) :
    RvL κ (aput cs off a.cells) (v.cells.zipIdx.foldl (fun cs (c, j) => cs.setIfInBounds (off + j) c) us) := by
  have hc : RvL κ a.cells v.cells := hv.cells hs
  have key := foldl_set_get off v.cells.zipIdx.toList 0 (fun j hj => by simp) us
  have e0 : ∀ i, (v.cells.zipIdx.foldl (fun cs (c, j) => cs.setIfInBounds (off + j) c) us).size = us.size ∧
      (v.cells.zipIdx.foldl (fun cs (c, j) => cs.setIfInBounds (off + j) c) us)[i]? = if off + 0 ≤ i ∧ i < off + 0 + v.cells.zipIdx.toList.length ∧ i < us.size then (v.cells.zipIdx.toList[i - (off + 0)]?).map (·.1) else us[i]? := by
    intro i
    rw [← Array.foldl_toList]
    exact key i
  generalize v.cells.zipIdx.foldl (fun cs (c, j) => cs.setIfInBounds (off + j) c) us = R at *
  have hlen : (aput cs off a.cells).length = cs.length := by simp [aput]; omega
  have hl := h.1
  refine RvL.of_get? (by rw [(e0 0).1, hl, hlen]) fun i x hx => ?_
  rw [aput_get? hle] at hx
  have e1 := (e0 i).2
  simp only [Nat.add_zero, Array.length_toList, Array.size_zipIdx, hc.1] at e1
  rw [Array.getD_eq_getD_getElem?, e1]
  by_cases c : off ≤ i ∧ i < off + a.cells.length
  · rw [if_pos c] at hx
    rw [if_pos ⟨c.1, c.2, by omega⟩]
    have : (v.cells.zipIdx.toList[i - off]?).map (·.1) = v.cells[i - off]? := by
      simp [Array.getElem?_zipIdx]
      cases v.cells[i - off]? <;> simp
    rw [this, ← Array.getD_eq_getD_getElem?]
    exact hc.get? hx
  · rw [if_neg c] at hx
    rw [if_neg (by omega), ← Array.getD_eq_getD_getElem?]
    exact h.get? hx

theorem run_afill {κ : K} (place : Nat → Option (Nat × Nat)) {α : Operand → AVal} {ev : Operand → Value} : ∀ (parts : List (Nat × Operand)) (cs : List AVal) (us : Array Value) (r : List AVal), (∀ p ∈ parts, Rv κ (α p.2) (ev p.2)) → RvL κ cs us →
    afill place cs (parts.map fun p => (p.1, α p.2)) = some r → ∃ rs, Instr.fill place us (parts.map fun p => (p.1, ev p.2)) = some rs ∧ RvL κ r rs
  | [], cs, us, r, _, h, he => by
    obtain rfl := Option.some.inj he
    exact ⟨us, rfl, h⟩
  | (i, x) :: rest, cs, us, r, hp, h, he => by
    simp only [List.map_cons, afill] at he
    simp only [List.map_cons, Instr.fill]
    cases hpl : place i with
    | none => rw [hpl] at he; cases he
    | some os =>
      obtain ⟨off, size⟩ := os
      rw [hpl] at he
      simp only at he ⊢
      split at he
      · rename_i hc
        obtain ⟨hs, hn, hle⟩ := hc
        have hv := hp (i, x) (List.mem_cons_self ..)
        obtain ⟨hvn, _⟩ := hv.cells hs
        dsimp only at hvn hv
        have hl := h.1
        rw [if_neg (by simp only [Bool.or_eq_true, bne_iff_ne, decide_eq_true_eq, not_or, Decidable.not_not]; omega)]
        exact run_afill place rest _ _ r (fun p hp' => hp p (List.mem_cons_of_mem _ hp')) (h.put hv hs (by omega)) he
      · cases he

theorem zero_rvl {κ : K} (z : Value) : RvL κ (zeroCells' z) z.cells :=
  ⟨by simp [zeroCells'], fun i hi => by
    have hi' : i < z.cells.size := by simpa [zeroCells'] using hi
    simp only [zeroCells', List.getElem_map]
    rw [show z.cells.getD i undef = z.cells.toList[i]'(by simpa using hi') by simp [hi']]
    exact .lit _⟩

theorem run_zeroValue' {P : Program} {t : TypeId} {z : Value} (h : zeroOf P t = some z) (w : World) : (zeroValue t).run P w = .ok z w := by
  unfold zeroOf at h
  split at h
  · rename_i i hi
    simp [zeroValue, typeInfo, hi, h]
  · cases h

theorem run_structPlaces {P : Program} (w : World) : ∀ (fs : List Field) (ps : List (Nat × Nat)), structPlaces P fs = some ps →
    (fs.mapM (m := Sem) fun f => do pure (f.offset, ← sizeOf f.type)).run P w = .ok ps w
  | [], ps, h => by
    simp only [structPlaces, List.mapM_nil] at h
    obtain rfl := Option.some.inj h
    simp
  | f :: fs, ps, h => by
    simp only [structPlaces, List.mapM_cons] at h
    cases hi : P.info? f.type with
    | none => rw [hi] at h; simp at h
    | some i =>
      rw [hi] at h
      simp only [Option.map_some, Option.bind_eq_bind, Option.bind_some, Option.pure_def] at h
      cases hr : structPlaces P fs with
      | none => unfold structPlaces at hr; rw [hr] at h; simp at h
      | some qs =>
        have hr' := hr
        unfold structPlaces at hr'
        rw [hr'] at h
        simp only [Option.bind_some, Option.some.injEq] at h
        subst h
        simp only [List.mapM_cons, Sem.run_bind, run_sizeOf' hi, Sem.run_pure, Result.andThen_ok, run_structPlaces w fs qs hr]

theorem run_abuild {P : Program} {κ : K} {t : TypeId} {parts : List (Nat × Operand)} {α : Operand → AVal} {ev : Operand → Value} (hp : ∀ p ∈ parts, Rv κ (α p.2) (ev p.2)) {a : AVal}
    (h : abuild P t (parts.map fun p => (p.1, α p.2)) = some a) : ∃ cv, (Instr.build t (parts.map fun p => (p.1, ev p.2)).toArray).run P κ.w = .ok cv κ.w ∧ Rv κ a cv := by
  unfold abuild at h
  split at h
  · cases h
  · rename_i ps s zs hbi
    obtain ⟨r, hr, rfl⟩ := Option.map_eq_some_iff.1 h
    unfold buildInfo at hbi
    split at hbi
    · cases hbi
    · rename_i z hz
      split at hbi
      · rename_i fs hd
        split at hbi
        · rename_i ps' hps
          simp only [Option.some.injEq, Prod.mk.injEq] at hbi
          obtain ⟨rfl, rfl, rfl⟩ := hbi
          obtain ⟨rs, hrs, hn, hv⟩ := run_afill (placeOf ps' 0) parts (zeroCells' z) z.cells r hp (zero_rvl z) hr
          have hps' := run_structPlaces (P := P) κ.w fs.toList ps' hps
          refine ⟨.agg rs, ?_, .agg r rs hn hv⟩
          unfold Instr.build
          simp only [Sem.run_bind, run_zeroValue' hz, Result.andThen_ok, run_underlying hd]
          rw [show (fs.mapM fun f => do pure (f.offset, ← sizeOf f.type) : Sem (Array (Nat × Nat))) = Functor.map List.toArray (fs.toList.mapM fun f => do pure (f.offset, ← sizeOf f.type)) from by rw [Array.mapM_eq_mapM_toList]]
          simp only [Sem.run_map, hps', Result.andThen_ok]
          have : (fun i : Nat => ps'.toArray[i]?) = placeOf ps' 0 := by funext i; simp [placeOf]
          simp only [this, hrs]
          rfl
        · cases hbi
      · rename_i n e hd
        split at hbi
        · rename_i s' g hty
          simp only [Option.some.injEq, Prod.mk.injEq] at hbi
          obtain ⟨rfl, rfl, rfl⟩ := hbi
          obtain ⟨i, d, hi, hdd, rfl, rfl⟩ := typeOf_spec hty
          obtain ⟨rs, hrs, hn, hv⟩ := run_afill (placeOf [] i.size) parts (zeroCells' z) z.cells r hp (zero_rvl z) hr
          refine ⟨.agg rs, ?_, .agg r rs hn hv⟩
          unfold Instr.build
          simp only [Sem.run_bind, run_zeroValue' hz, Result.andThen_ok, run_underlying hd, run_sizeOf' hi]
          by_cases h0 : i.size = 0
          · have key : ∀ (l : List (Nat × Operand)) us, Instr.fill (placeOf [] i.size) us (l.map fun p => (p.1, ev p.2)) = some rs → Instr.fill (fun j => some (j * i.size, i.size)) us (l.map fun p => (p.1, ev p.2)) = some rs := by
              intro l us hl
              cases l with
              | nil => exact hl
              | cons p l => simp [Instr.fill, placeOf, h0] at hl
            simp only [key parts z.cells hrs]
            rfl
          · have : (fun j : Nat => some (j * i.size, i.size)) = placeOf [] i.size := by funext j; simp [placeOf, h0]
            simp only [this, hrs]
            rfl
        · cases hbi
      · cases hbi

end Go.Ab
