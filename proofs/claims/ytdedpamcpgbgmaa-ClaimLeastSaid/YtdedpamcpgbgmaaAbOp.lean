/-
  THE OPERATIONS over abstract values: those that leave the world alone ('aval'), and what is asked of the others. Own work (an AI agent).
-/
import Derived.Test.YtdedpamcpgbgmaaAbInv
set_option linter.all false
namespace Go.Ab

def ofConst : Value → AVal
  | .agg vs => .agg (vs.toList.map .lit)
  | v => .lit v

def aev (e : Nat → AVal) : Operand → AVal
  | .tmp t => e t
  | .const v => ofConst v
  | .global g => .lit (.pointer (some ⟨g, 0, none⟩))
  | .func f => .lit (.func (.func f) #[] #[])

theorem Rv.ofConst {κ : K} (v : Value) : Rv κ (ofConst v) v := by
  unfold Ab.ofConst
  split
  · rename_i vs
    exact .agg _ vs (by simp) fun i hi => by
      simp only [List.getElem_map]
      have : i < vs.size := by simpa using hi
      rw [show vs.getD i undef = vs.toList[i]'(by simpa using this) by simp [this]]
      exact .lit _
  · exact .lit v

def Upon (P : Program) (R : Value → World → Prop) : Result Next → Prop
  | .ok (.value v) w' => R v w'
  | .ok .skip w' => R undef w'
  | .ok (.enter f args) w' => Calls P f args w' (fun e w'' => ∃ v, e = .returned v ∧ R v w'')
  | _ => False

def Post (κ : K) (Kk : AVal → Store → Prop) (cv : Value) (w' : World) : Prop := ∃ κ' a σ', κ'.w = w' ∧ κ.Le κ' ∧ Inv κ' σ' ∧ Rv κ' a cv ∧ Kk a σ'

/-- What is asked of an operation: at whatever world and values, it goes on, and leaves a value and a store of which 'Kk' holds. -/
def AOp (P : Program) (o : Oper) (α : Operand → AVal) (σ : Store) (Kk : AVal → Store → Prop) : Prop :=
  ∀ (κ : K) (ev : Operand → Value), Inv κ σ → (∀ x ∈ o.op.operands, Rv κ (α x) (ev x)) → Upon P (Post κ Kk) ((execOp ev o).run P κ.w)

/-- A function's contract. -/
def ACalls (P : Program) (f : FuncId) (args : List AVal) (σ : Store) (Q : AVal → Store → Prop) : Prop :=
  ∀ (κ : K) (vs : Array Value), Inv κ σ → vs.size = args.length → (∀ i (hi : i < args.length), Rv κ args[i] (vs.getD i undef)) →
    Calls P f vs κ.w (fun e w' => ∃ cv, e = .returned cv ∧ Post κ Q cv w')

theorem Post.mono {κ : K} {Kk Kk' : AVal → Store → Prop} (h : ∀ a σ, Kk a σ → Kk' a σ) {cv : Value} {w : World} (hp : Post κ Kk cv w) : Post κ Kk' cv w :=
  let ⟨κ', a, σ', h1, h2, h3, h4, h5⟩ := hp
  ⟨κ', a, σ', h1, h2, h3, h4, h _ _ h5⟩

theorem Upon.mono {P : Program} {R R' : Value → World → Prop} (h : ∀ v w, R v w → R' v w) {r : Result Next} (hu : Upon P R r) : Upon P R' r := by
  unfold Upon at *
  split at hu
  · exact h _ _ hu
  · exact h _ _ hu
  · exact hu.mono fun e w'' ⟨v, he, hr⟩ => ⟨v, he, h _ _ hr⟩
  · exact hu.elim

theorem AOp.mono {P : Program} {o : Oper} {α : Operand → AVal} {σ : Store} {Kk Kk' : AVal → Store → Prop} (h : ∀ a σ, Kk a σ → Kk' a σ) (ho : AOp P o α σ Kk) : AOp P o α σ Kk' :=
  fun κ ev hI hx => (ho κ ev hI hx).mono fun _ _ => Post.mono h

theorem ACalls.mono {P : Program} {f : FuncId} {args : List AVal} {σ : Store} {Q Q' : AVal → Store → Prop} (h : ACalls P f args σ Q) (hq : ∀ a σ', Q a σ' → Q' a σ') : ACalls P f args σ Q' :=
  fun κ vs hI hn hv => (h κ vs hI hn hv).mono fun _ _ ⟨cv, he, hp⟩ => ⟨cv, he, hp.mono hq⟩

/-- The arguments may be known better than the contract asks, and more may be known of the store (what is not spoken of is forgotten). -/
theorem ACalls.wk {P : Program} {f : FuncId} {args args' : List AVal} {σ : Store} {Q : AVal → Store → Prop} (h : ACalls P f args' σ Q) (hl : args.length = args'.length)
    (hw : ∀ i (hi : i < args.length) (hi' : i < args'.length), Wk args[i] args'[i]) : ACalls P f args σ Q :=
  fun κ vs hI hn hv => h κ vs hI (by omega) fun i hi => (hv i (by omega)).wk (hw i (by omega) hi)

theorem ACalls.wkRes {P : Program} {f : FuncId} {args : List AVal} {σ : Store} {Q Q' : AVal → Store → Prop} (h : ACalls P f args σ Q)
    (hq : ∀ a σ', Q a σ' → ∃ a' σ'', Wk a a' ∧ σ''.Sub σ' ∧ Q' a' σ'') : ACalls P f args σ Q' :=
  fun κ vs hI hn hv => (h κ vs hI hn hv).mono fun _ _ ⟨cv, he, κ', a, σ', h1, h2, h3, h4, h5⟩ => by
    obtain ⟨a', σ'', hwk, hsub, hQ⟩ := hq a σ' h5
    exact ⟨cv, he, κ', a', σ'', h1, h2, h3.sub hsub, h4.wk hwk, hQ⟩

/-! ### What the tables of types say -/

def aggB (P : Program) (t : TypeId) : Bool :=
  match P.underlying t with
  | some (.struct _) | some (.array _ _) => true
  | _ => false

/-- a field's offset, its size, and whether it is a struct or an array -/
def fieldInfo (P : Program) (s f : Nat) : Option (Nat × Nat × Bool) :=
  match P.underlying s with
  | some (.struct fs) => match fs[f]? with
    | some fd => match P.info? fd.type with
      | some i => match P.underlying fd.type with
        | some _ => some (fd.offset, i.size, aggB P fd.type)
        | none => none
      | none => none
    | none => none
  | _ => none

/-- the size of a type, and whether it is a struct or an array -/
def typeOf (P : Program) (t : TypeId) : Option (Nat × Bool) :=
  match P.info? t with
  | some i => match P.underlying t with
    | some _ => some (i.size, aggB P t)
    | none => none
  | none => none

def arrayLen (P : Program) (t : TypeId) : Option (Nat × TypeId) :=
  match P.underlying t with
  | some (.array n e) => some (n, e)
  | _ => none

def sliceElem (P : Program) (t : TypeId) : Option TypeId :=
  match P.underlying t with
  | some (.slice e) => some e
  | _ => none

def isStringT (P : Program) (t : TypeId) : Bool :=
  match P.underlying t with
  | some .string => true
  | _ => false

def intKindOf (P : Program) (t : TypeId) : Option IntKind :=
  match P.underlying t with
  | some (.int k) => some k
  | _ => none

/-! ### Pieces -/

/-- a part of a struct or an array: a cell, or the cells of a smaller one -/
def apart (cs : List AVal) (off size : Nat) (agg : Bool) : Option AVal :=
  if agg then (if off + size ≤ cs.length then some (.agg ((cs.drop off).take size)) else none)
  else cs[off]?

theorem Rv.aggInv {κ : K} {cs : List AVal} {v : Value} (h : Rv κ (.agg cs) v) : ∃ vs, v = .agg vs ∧ vs.size = cs.length ∧ ∀ i (hi : i < cs.length), Rv κ cs[i] (vs.getD i undef) := by
  cases h with
  | agg _ vs hn h => exact ⟨vs, rfl, hn, h⟩

theorem Rv.litInv {κ : K} {u v : Value} (h : Rv κ (.lit u) v) : v = u := by cases h; rfl

theorem Rv.tupInv {κ : K} {cs : List AVal} {v : Value} (h : Rv κ (.tup cs) v) : ∃ vs, v = .tuple vs ∧ vs.size = cs.length ∧ ∀ i (hi : i < cs.length), Rv κ cs[i] (vs.getD i undef) := by
  cases h with
  | tup _ vs hn h => exact ⟨vs, rfl, hn, h⟩

theorem run_isAgg {P : Program} {t : TypeId} {w : World} {d : TypeDesc} (h : P.underlying t = some d) : (isAgg t).run P w = .ok (aggB P t) w := by
  unfold isAgg underlying aggB
  simp [h]
  split <;> simp_all

theorem run_part {P : Program} {t : TypeId} {i : TypeInfo} {d : TypeDesc} (hi : P.info? t = some i) (hd : P.underlying t = some d) {κ : K} {cs : List AVal} {vs : Array Value} (hn : vs.size = cs.length)
    (h : ∀ i (hi : i < cs.length), Rv κ cs[i] (vs.getD i undef)) {off : Nat} {a : AVal} (ha : apart cs off i.size (aggB P t) = some a) :
    ∃ cv, (part t vs off).run P κ.w = .ok cv κ.w ∧ Rv κ a cv := by
  unfold part
  simp only [Sem.run_bind, run_isAgg hd, Result.andThen_ok]
  unfold apart at ha
  cases hb : aggB P t with
  | true =>
    simp only [hb, if_true] at ha
    split at ha
    · rename_i hle
      obtain rfl := Option.some.inj ha
      refine ⟨.agg (vs.extract off (off + i.size)), by simp [sizeOf, typeInfo, hi], .agg _ _ (by simp; omega) fun j hj => ?_⟩
      simp only [List.length_take, List.length_drop] at hj
      have e1 : (vs.extract off (off + i.size)).getD j undef = vs.getD (off + j) undef := by
        simp [show j < min (off + i.size) vs.size - off by omega, show off + j < vs.size by omega]
      rw [e1, List.getElem_take, List.getElem_drop]
      exact h (off + j) (by omega)
    · cases ha
  | false =>
    simp only [hb] at ha
    obtain ⟨hlt, rfl⟩ := List.getElem?_eq_some_iff.1 (by simpa using ha)
    refine ⟨vs.getD off undef, ?_, h off hlt⟩
    simp [show off < vs.size by omega]

end Go.Ab
