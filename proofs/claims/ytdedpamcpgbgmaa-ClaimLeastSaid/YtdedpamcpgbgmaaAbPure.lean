/-
  'aval': WHAT AN OPERATION THAT LEAVES THE WORLD ALONE YIELDS, operation by operation; and that it is so. Own work (an AI agent).
-/
import Derived.Test.YtdedpamcpgbgmaaAbVal
set_option linter.all false
namespace Go.Ab

def slOf : AVal → Option (Nat × List AVal)
  | .sl sz l _ => some (sz, l)
  | .own _ sz l => some (sz, l)
  | _ => none

theorem slOf_rv {κ : K} {a : AVal} {v : Value} {sz : Nat} {l : List AVal} (h : slOf a = some (sz, l)) (hr : Rv κ a v) : Rv κ (.sl sz l false) v := by
  cases a <;> simp [slOf] at h
  case sl s l' t => obtain ⟨rfl, rfl⟩ := h; exact hr.wk (.sl1 ..)
  case own t s l' => obtain ⟨rfl, rfl⟩ := h; exact hr.wk (.own1 ..)

def aro (agg : Bool) (a : AVal) : Option AVal :=
  if agg then some (.ro a) else match a with
    | .agg _ => none
    | a => some (.ro a)

def aindexAddr (P : Program) (t : TypeId) (x i : AVal) : Option AVal :=
  match i with
  | .lit (.int _ n) =>
    if 0 ≤ n then
      match x with
      | .msl o sz off len => match sliceElem P t with
        | some e => match typeOf P e with
          | some (s, _) => if s = sz ∧ n < len then some (.ref o (off + n.toNat * sz)) else none
          | none => none
        | none => none
      | .ref o off => match arrayLen P t with
        | some (len, e) => match typeOf P e with
          | some (s, _) => if n < len then some (.ref o (off + n.toNat * s)) else none
          | none => none
        | none => none
      | .ro (.agg cs) => match arrayLen P t with
        | some (len, e) => match typeOf P e with
          | some (s, g) => if n < len then (apart cs (n.toNat * s) s g).bind (aro g) else none
          | none => none
        | none => none
      | x => match slOf x with
        | some (sz, l) => match sliceElem P t with
          | some e => match typeOf P e with
            | some (s, _) => if s = sz then (l[n.toNat]?).map .ro else none
            | none => none
          | none => none
        | none => none
    else none
  | _ => none

def afieldAddr (P : Program) (s : TypeId) (x : AVal) (f : Nat) : Option AVal :=
  match fieldInfo P s f with
  | some (off, size, g) =>
    if size = 0 then none else
    match x with
    | .ref o k => some (.ref o (k + off))
    | .ro (.agg cs) => (apart cs off size g).bind (aro g)
    | _ => none
  | none => none

def aload (P : Program) (σ : Store) (t : TypeId) (x : AVal) : Option AVal :=
  match typeOf P t with
  | some (size, g) => match x with
    | .ro a => if g then (match a with
        | .agg cs => if cs.length = size then some (.agg cs) else none
        | _ => none) else (match a with
        | .agg _ => none
        | a => some a)
    | .ref o off => match σ.heap o with
      | some (.cells cs) => apart cs off size g
      | _ => none
    | _ => none
  | none => none

def afield (P : Program) (t : TypeId) (x : AVal) (f : Nat) : Option AVal :=
  match fieldInfo P t f, x with
  | some (off, size, g), .agg cs => apart cs off size g
  | _, _ => none

def aindex (P : Program) (t : TypeId) (x i : AVal) : Option AVal :=
  match i with
  | .lit (.int _ n) =>
    if 0 ≤ n then
      match x with
      | .lit (.string s) => if isStringT P t then (s[n.toNat]?).map fun b => .lit (.int .u8 b.toNat) else none
      | .agg cs => match arrayLen P t with
        | some (len, e) => match typeOf P e with
          | some (s, g) => if n < len then apart cs (n.toNat * s) s g else none
          | none => none
        | none => none
      | _ => none
    else none
  | _ => none

theorem typeOf_spec {P : Program} {t : TypeId} {s : Nat} {g : Bool} (h : typeOf P t = some (s, g)) : ∃ i d, P.info? t = some i ∧ P.underlying t = some d ∧ i.size = s ∧ aggB P t = g := by
  unfold typeOf at h
  split at h
  · rename_i i hi
    split at h
    · rename_i d hd
      simp only [Option.some.injEq, Prod.mk.injEq] at h
      exact ⟨i, d, hi, hd, h.1, h.2⟩
    · cases h
  · cases h

theorem fieldInfo_spec {P : Program} {s f off size : Nat} {g : Bool} (h : fieldInfo P s f = some (off, size, g)) :
    ∃ fs fd i d, P.underlying s = some (.struct fs) ∧ fs[f]? = some fd ∧ fd.offset = off ∧ P.info? fd.type = some i ∧ P.underlying fd.type = some d ∧ i.size = size ∧ aggB P fd.type = g := by
  unfold fieldInfo at h
  split at h
  · rename_i fs hs
    split at h
    · rename_i fd hf
      split at h
      · rename_i i hi
        split at h
        · rename_i d hd
          simp only [Option.some.injEq, Prod.mk.injEq] at h
          exact ⟨fs, fd, i, d, hs, hf, h.1, hi, hd, h.2.1, h.2.2⟩
        · cases h
      · cases h
    · cases h
  · cases h

theorem arrayLen_spec {P : Program} {t e : TypeId} {n : Nat} (h : arrayLen P t = some (n, e)) : P.underlying t = some (.array n e) := by
  unfold arrayLen at h
  split at h
  · rename_i h'
    simp only [Option.some.injEq, Prod.mk.injEq] at h
    rw [h', h.1, h.2]
  · cases h

theorem sliceElem_spec {P : Program} {t e : TypeId} (h : sliceElem P t = some e) : P.underlying t = some (.slice e) := by
  unfold sliceElem at h
  split at h
  · rename_i h'
    rw [h', Option.some.inj h]
  · cases h

theorem isStringT_spec {P : Program} {t : TypeId} (h : isStringT P t = true) : P.underlying t = some .string := by
  unfold isStringT at h
  split at h
  · assumption
  · cases h

theorem run_sizeOf' {P : Program} {t : TypeId} {i : TypeInfo} (h : P.info? t = some i) (w : World) : (sizeOf t).run P w = .ok i.size w := by
  simp [sizeOf, typeInfo, h]

theorem add_addr (b off n : Nat) : (⟨b, off, none⟩ : Addr).add n = ⟨b, off + n, none⟩ := by
  unfold Addr.add
  split
  · rename_i h; subst h; rfl
  · rfl

theorem Rv.roInv {κ : K} {a : AVal} {v : Value} (h : Rv κ (.ro a) v) : ∃ (b off : Nat) (vals : Nat → Value), v = .pointer (some ⟨b, off, none⟩) ∧
    (∀ k, k < a.cells.length → off + k < κ.I b ∧ κ.w.cell? ⟨b, off + k, none⟩ = some (vals k)) ∧ (∀ k (hk : k < a.cells.length), Rv κ a.cells[k] (vals k)) := by
  cases h with
  | ro a b off vals hc hv => exact ⟨b, off, vals, rfl, hc, hv⟩

theorem Rv.refInv {κ : K} {o off : Nat} {v : Value} (h : Rv κ (.ref o off) v) : ∃ b, κ.ρ o = some b ∧ v = .pointer (some ⟨b, off, none⟩) := by
  cases h with
  | ref _ _ b hb => exact ⟨b, hb, rfl⟩

/-- a part of what an address that is never written leads to -/
theorem ro_part {κ : K} {cs : List AVal} {v : Value} (h : Rv κ (.ro (.agg cs)) v) {off size : Nat} {g : Bool} {a r : AVal} (ha : apart cs off size g = some a) (hr : aro g a = some r) :
    ∃ b o, v = .pointer (some ⟨b, o, none⟩) ∧ Rv κ r (.pointer (some ⟨b, o + off, none⟩)) := by
  obtain ⟨b, o, vals, rfl, hc, hv⟩ := h.roInv
  refine ⟨b, o, rfl, ?_⟩
  unfold apart at ha
  unfold aro at hr
  cases g with
  | true =>
    simp only [if_true] at ha hr
    split at ha
    · rename_i hle
      obtain rfl := Option.some.inj ha
      obtain rfl := Option.some.inj hr
      refine .ro _ b (o + off) (fun k => vals (off + k)) (fun k hk => ?_) (fun k hk => ?_)
      · simp only [AVal.cells, List.length_take, List.length_drop] at hk
        have := hc (off + k) (by simp only [AVal.cells]; omega)
        rw [Nat.add_assoc]; exact this
      · have hk' := hk
        simp only [AVal.cells, List.length_take, List.length_drop] at hk'
        simp only [AVal.cells, List.getElem_take, List.getElem_drop]
        exact hv (off + k) (by simp only [AVal.cells]; omega)
    · cases ha
  | false =>
    simp only [Bool.false_eq_true, if_false] at ha hr
    obtain ⟨hlt, rfl⟩ := List.getElem?_eq_some_iff.1 ha
    have hcell : r = .ro cs[off] ∧ (cs[off]).cells = [cs[off]] := by
      split at hr
      · cases hr
      · obtain rfl := Option.some.inj hr
        refine ⟨rfl, ?_⟩
        rename_i hne
        generalize cs[off] = q at *
        cases q <;> first | rfl | (exact absurd rfl (hne _))
    obtain ⟨rfl, hcell⟩ := hcell
    refine .ro _ b (o + off) (fun k => vals (off + k)) (fun k hk => ?_) (fun k hk => ?_)
    · have hk0 : k = 0 := by rw [hcell] at hk; simpa using hk
      subst hk0
      exact hc off hlt
    · have hk0 : k = 0 := by rw [hcell] at hk; simpa using hk
      subst hk0
      simp only [hcell, List.getElem_cons_zero, Nat.add_zero]
      exact hv off hlt

theorem Rv.slInv {κ : K} {sz : Nat} {l : List AVal} {t : Bool} {v : Value} (h : Rv κ (.sl sz l t) v) :
    (∃ a, v = .slice a 0 0 ∧ l = []) ∨ ∃ (b off cap : Nat) (vals : Nat → Value), v = .slice (some ⟨b, off, none⟩) l.length cap ∧ l.length ≤ cap ∧ (t = true → cap = l.length) ∧ (∀ x ∈ l, x.cells.length = sz) ∧
      (∀ k, k < (flat l).length → off + k < κ.I b ∧ κ.w.cell? ⟨b, off + k, none⟩ = some (vals k)) ∧ (∀ k (hk : k < (flat l).length), Rv κ (flat l)[k] (vals k)) := by
  cases h with
  | slNil => exact .inl ⟨_, rfl, rfl⟩
  | slE => exact .inl ⟨_, rfl, rfl⟩
  | sl _ _ _ b off cap vals hcap ht hsz hc hv => exact .inr ⟨b, off, cap, vals, rfl, hcap, ht, hsz, hc, hv⟩

/-- an element's address -/
theorem sl_elem {κ : K} {sz : Nat} {l : List AVal} {t : Bool} {v : Value} (h : Rv κ (.sl sz l t) v) {i : Nat} {x : AVal} (hx : l[i]? = some x) :
    ∃ b off cap, v = .slice (some ⟨b, off, none⟩) l.length cap ∧ i < l.length ∧ Rv κ (.ro x) (.pointer (some ⟨b, off + i * sz, none⟩)) := by
  obtain ⟨hi, rfl⟩ := List.getElem?_eq_some_iff.1 hx
  rcases h.slInv with ⟨_, _, rfl⟩ | ⟨b, off, cap, vals, rfl, hcap, _, hsz, hc, hv⟩
  · simp at hi
  · refine ⟨b, off, cap, rfl, hi, ?_⟩
    have hxs : l[i].cells.length = sz := hsz _ (List.getElem_mem hi)
    have hlen : (flat l).length = l.length * sz := flat_length hsz
    have hbd : ∀ k, k < sz → i * sz + k < (flat l).length := fun k hk => by
      rw [hlen]
      calc i * sz + k < i * sz + sz := by omega
        _ = (i + 1) * sz := by rw [Nat.succ_mul]
        _ ≤ l.length * sz := Nat.mul_le_mul_right _ hi
    refine .ro _ b (off + i * sz) (fun k => vals (i * sz + k)) (fun k hk => ?_) (fun k hk => ?_)
    · have := hc (i * sz + k) (hbd k (by omega))
      rw [Nat.add_assoc]; exact this
    · have e := flat_get? hsz i k (by omega) _ (List.getElem?_eq_getElem hi)
      rw [List.getElem?_eq_getElem (hbd k (by omega)), List.getElem?_eq_getElem hk] at e
      rw [← Option.some.inj e]
      exact hv _ (hbd k (by omega))

/-- Loading cells one by one. -/
theorem run_loadCellsFrom {P : Program} {w : World} {b off : Nat} {vals : Nat → Value} : ∀ (n i : Nat) (acc : Array Value), (∀ k, k < n → w.cell? ⟨b, off + (i + k), none⟩ = some (vals (i + k))) →
    (loadCellsFrom ⟨b, off, none⟩ i n acc).run P w = .ok (acc ++ ((List.range n).map fun k => vals (i + k)).toArray) w
  | 0, i, acc, _ => by simp [loadCellsFrom]
  | n + 1, i, acc, h => by
    unfold loadCellsFrom
    have h0 := h 0 (by omega)
    simp only [Nat.add_zero] at h0
    simp only [Sem.run_bind, run_load, add_addr, h0, Result.andThen_ok]
    rw [run_loadCellsFrom n (i + 1) (acc.push (vals i)) (fun k hk => by have := h (k + 1) (by omega); rw [show i + 1 + k = i + (k + 1) by omega]; exact this)]
    congr 1
    apply Array.ext'
    simp only [Array.toList_append, Array.toList_push, List.range_succ_eq_map, List.map_cons, List.map_map, Nat.add_zero, List.append_assoc, List.singleton_append]
    congr 2
    apply List.map_congr_left
    intro k _
    simp only [Function.comp]
    congr 1
    omega

theorem run_loadCells {P : Program} {w : World} {b off n : Nat} {vals : Nat → Value} (h : ∀ k, k < n → w.cell? ⟨b, off + k, none⟩ = some (vals k)) :
    (loadCells ⟨b, off, none⟩ n).run P w = .ok ((List.range n).map vals).toArray w := by
  unfold loadCells
  rw [run_loadCellsFrom n 0 #[] (fun k hk => by simpa using h k hk)]
  simp

/-- Loading a variable whose cells are known. -/
theorem run_loadVar_known {P : Program} {κ : K} {t : TypeId} {i : TypeInfo} {d : TypeDesc} (hi : P.info? t = some i) (hd : P.underlying t = some d) {b off : Nat} {cs : List AVal} {vals : Nat → Value}
    (hc : ∀ k, k < cs.length → κ.w.cell? ⟨b, off + k, none⟩ = some (vals k)) (hv : ∀ k (hk : k < cs.length), Rv κ cs[k] (vals k))
    {a : AVal} (ha : (if aggB P t then (if cs.length = i.size then some (AVal.agg cs) else none) else (if cs.length = 0 then none else cs[0]?)) = some a) :
    ∃ cv, (loadVar t ⟨b, off, none⟩).run P κ.w = .ok cv κ.w ∧ Rv κ a cv := by
  unfold loadVar
  simp only [Sem.run_bind, run_isAgg hd, Result.andThen_ok]
  cases hb : aggB P t with
  | true =>
    simp only [hb, if_true] at ha
    split at ha
    · rename_i hn
      obtain rfl := Option.some.inj ha
      refine ⟨.agg ((List.range i.size).map vals).toArray, ?_, .agg _ _ (by simp [hn]) fun j hj => ?_⟩
      · have e := run_loadCells (P := P) (w := κ.w) (b := b) (off := off) (n := i.size) (vals := vals) (fun k hk => hc k (by omega))
        simp [run_sizeOf' hi, e]
      · have : (((List.range i.size).map vals).toArray).getD j undef = vals j := by simp [show j < i.size by omega]
        rw [this]; exact hv j hj
    · cases ha
  | false =>
    simp only [hb, Bool.false_eq_true, if_false] at ha
    split at ha
    · cases ha
    · rename_i hn
      obtain ⟨hlt, rfl⟩ := List.getElem?_eq_some_iff.1 ha
      refine ⟨vals 0, ?_, hv 0 hlt⟩
      have := hc 0 hlt
      simp only [Nat.add_zero] at this
      simp [this]

end Go.Ab
