/-
  WHAT AN OPERATION THAT LEAVES THE WORLD ALONE YIELDS, as an abstract value ('aval'), and that it is so. Own work (an AI agent).
-/
import Derived.Test.YtdedpamcpgbgmaaAbOp
set_option linter.all false
namespace Go.Ab

/-- one text is ahead of another one, by bytes -/
def sLt (x y : ByteArray) : Bool := Op.bytesLess x.toList y.toList

theorem toList_inj {x y : ByteArray} (h : x.toList = y.toList) : x = y := by
  rw [ByteArray.toList_eq, ByteArray.toList_eq] at h
  cases x; cases y
  congr
  exact Array.ext' h

theorem toList_beq (x y : ByteArray) : (x.toList == y.toList) = decide (x = y) := by
  by_cases h : x = y
  · simp [h]
  · simp only [h, decide_false, beq_eq_false_iff_ne]
    exact fun hh => h (toList_inj hh)

def maxText : Nat := 9223372036854775807

/-! ### two numbers, two texts -/

def aint (op : BinOp) (k : IntKind) (a : Int) (k' : IntKind) (b : Int) : Option Value :=
  match op with
  | .shl => if b < 0 then none else some (.int k (k.wrap (a * 2 ^ (min b.toNat k.bits))))
  | .shr => if b < 0 then none else some (.int k (a.fdiv (2 ^ (min b.toNat k.bits))))
  | .add => if k = k' then some (.int k (k.wrap (a + b))) else none
  | .sub => if k = k' then some (.int k (k.wrap (a - b))) else none
  | .mul => if k = k' then some (.int k (k.wrap (a * b))) else none
  | .quo => if k = k' then (if b = 0 then none else some (.int k (k.wrap (a.tdiv b)))) else none
  | .rem => if k = k' then (if b = 0 then none else some (.int k (a.tmod b))) else none
  | .and => if k = k' then some (.int k (k.wrap (BitVec.ofInt k.bits a &&& BitVec.ofInt k.bits b).toNat)) else none
  | .or => if k = k' then some (.int k (k.wrap (BitVec.ofInt k.bits a ||| BitVec.ofInt k.bits b).toNat)) else none
  | .xor => if k = k' then some (.int k (k.wrap (BitVec.ofInt k.bits a ^^^ BitVec.ofInt k.bits b).toNat)) else none
  | .andNot => if k = k' then some (.int k (k.wrap (BitVec.ofInt k.bits a &&& ~~~BitVec.ofInt k.bits b).toNat)) else none
  | .eql => if k = k' then some (.bool (decide (a = b))) else none
  | .neq => if k = k' then some (.bool (!decide (a = b))) else none
  | .lss => if k = k' then some (.bool (decide (a < b))) else none
  | .leq => if k = k' then some (.bool (decide (a ≤ b))) else none
  | .gtr => if k = k' then some (.bool (decide (b < a))) else none
  | .geq => if k = k' then some (.bool (decide (b ≤ a))) else none

def astr (op : BinOp) (x y : ByteArray) : Option Value :=
  match op with
  | .add => if x.size + y.size ≤ maxText then some (.string (x ++ y)) else none
  | .eql => some (.bool (decide (x = y)))
  | .neq => some (.bool (!decide (x = y)))
  | .lss => some (.bool (sLt x y))
  | .leq => some (.bool (sLt x y || decide (x = y)))
  | .gtr => some (.bool !(sLt x y || decide (x = y)))
  | .geq => some (.bool !(sLt x y))
  | _ => none

theorem run_aint {P : Program} {w : World} {op : BinOp} {k k' : IntKind} {a b : Int} {t : TypeId} {v : Value} (h : aint op k a k' b = some v) :
    (binOp op t (.int k a) (.int k' b)).run P w = .ok v w := by
  unfold aint at h
  split at h <;> (try cases h) <;> (repeat' split at h) <;> (try cases h) <;> (try subst_vars)
  all_goals first
    | (simp [binOp, Op.shift, *]; done)
    | (simp [binOp, Op.intArith]; done)
    | (simp [binOp, Op.intDiv, *]; done)
    | (simp [binOp, Op.intBits]; done)
    | (simp [binOp, Op.intCmp, bne, beq_iff_eq]; done)
    | (simp [binOp, Op.intCmp]; congr; done)
    | (simp only [binOp, Op.intCmp]; simp [bne]; rfl)

theorem run_astr {P : Program} {w : World} {op : BinOp} {x y : ByteArray} {t : TypeId} {v : Value} (h : astr op x y = some v) :
    (binOp op t (.string x) (.string y)).run P w = .ok v w := by
  unfold astr at h
  split at h <;> (try cases h) <;> (repeat' split at h) <;> (try cases h) <;> (try subst_vars)
  all_goals (simp only [binOp, Op.stringOp, toList_beq, sLt])
  all_goals first
    | (simp; done)
    | (rename_i hle; rw [if_neg (by unfold maxText at hle; have : IntKind.i64.max = 9223372036854775807 := by decide
                                    rw [this]; omega)]; rfl)

theorem run_eqGuard_other {P : Program} {w : World} {op : BinOp} {t : TypeId} {x y : Operand} {a b : Value} (h : ∀ u v, ¬ (a = .agg u ∧ b = .agg v)) (h' : a = .nilIface → b = .nilIface → (∃ v, x = .const v) ∨ ∃ v, y = .const v) :
    (eqGuard op t x y a b).run P w = .ok () w := by
  cases op <;> (try rfl) <;> cases a <;> cases b <;> first
    | rfl
    | (exact absurd ⟨rfl, rfl⟩ (h _ _))
    | (rcases h' rfl rfl with ⟨v, rfl⟩ | ⟨v, rfl⟩ <;> simp [eqGuard])

/-! ### whether two values of a type are one -/

def aeqFields (eq : TypeId → AVal → AVal → Option Bool) (P : Program) (xs ys : List AVal) : List Field → Option Bool
  | [] => some true
  | f :: fs =>
    if f.name ≠ "_" then
      match P.info? f.type, P.underlying f.type with
      | some i, some _ =>
        match apart xs f.offset i.size (aggB P f.type), apart ys f.offset i.size (aggB P f.type) with
        | some a, some b => match eq f.type a b, aeqFields eq P xs ys fs with
          | some r, some r' => some (r && r')
          | _, _ => none
        | _, _ => none
      | _, _ => none
    else aeqFields eq P xs ys fs

def aeqIn (P : Program) : Nat → TypeId → AVal → AVal → Option Bool
  | 0, _, _, _ => none
  | d + 1, t, x, y =>
    match P.underlying t, x, y with
    | some .bool, .lit (.bool a), .lit (.bool b) => some (a == b)
    | some (.int _), .lit (.int k a), .lit (.int k' b) => if k = k' then some (decide (a = b)) else none
    | some .string, .lit (.string a), .lit (.string b) => some (decide (a = b))
    | some (.struct fs), .agg xs, .agg ys => if P.stoodInHeld t then none else aeqFields (aeqIn P d) P xs ys fs.toList
    | _, _, _ => none

theorem fieldsOf_eq {P : Program} {t : TypeId} {fs : Array Field} (h : P.underlying t = some (.struct fs)) : P.fieldsOf t = fs := by simp [Program.fieldsOf, h]

theorem run_aeqIn {P : Program} {κ : K} : ∀ (d d' : Nat) (hd : d ≤ d') (t : TypeId) (x y : AVal) (u v : Value) (r : Bool), aeqIn P d t x y = some r → Rv κ x u → Rv κ y v → (Op.equalIn d' t u v).run P κ.w = .ok r κ.w
  | 0, _, _, _, _, _, _, _, _, h, _, _ => by cases h
  | d + 1, 0, hd, _, _, _, _, _, _, _, _, _ => by omega
  | d + 1, d' + 1, hd, t, x, y, u, v, r, h, hx, hy => by
    unfold aeqIn at h
    split at h
    · rename_i a b ht
      obtain rfl := hx.litInv; obtain rfl := hy.litInv
      obtain rfl := Option.some.inj h
      exact run_equalIn_bool _ d' t a b ht
    · rename_i k0 k a k' b ht
      obtain rfl := hx.litInv; obtain rfl := hy.litInv
      split at h
      · rename_i hk
        subst hk
        obtain rfl := Option.some.inj h
        rw [run_equalIn_int κ.w d' t k k0 a b ht]
        rfl
      · cases h
    · rename_i a b ht
      obtain rfl := hx.litInv; obtain rfl := hy.litInv
      obtain rfl := Option.some.inj h
      rw [run_equalIn_string κ.w d' t a b ht, toList_beq]
    · rename_i fs xs ys ht
      split at h
      · cases h
      · rename_i hst
        obtain ⟨us, rfl, hun, hu⟩ := hx.aggInv
        obtain ⟨vs, rfl, hvn, hv⟩ := hy.aggInv
        rw [run_equalIn_struct κ.w d' t us vs (by rw [fieldsOf_eq ht]; exact ht) (by simpa using hst), fieldsOf_eq ht]
        have key : ∀ (l : List Field) (r : Bool), aeqFields (aeqIn P d) P xs ys l = some r → (Op.eqFields d' us vs l).run P κ.w = .ok r κ.w := by
          intro l
          induction l with
          | nil => intro r h; obtain rfl := Option.some.inj h; rfl
          | cons f fs ih =>
            intro r h
            unfold aeqFields at h
            unfold Op.eqFields
            by_cases hn : f.name ≠ "_"
            · rw [if_pos hn] at h
              rw [if_pos hn]
              split at h
              · rename_i i dd hi hdd
                split at h
                · rename_i a b ha hb
                  split at h
                  · rename_i r1 r2 h1 h2
                    obtain rfl := Option.some.inj h
                    obtain ⟨ca, hca, hra⟩ := run_part hi hdd hun hu ha
                    obtain ⟨cb, hcb, hrb⟩ := run_part hi hdd hvn hv hb
                    have e1 := run_aeqIn d d' (by omega) f.type a b ca cb r1 h1 hra hrb
                    simp only [Sem.run_bind, hca, hcb, Result.andThen_ok, e1, Sem.run_ite, Sem.run_pure, ih r2 h2]
                    cases r1 <;> simp
                  · cases h
                · cases h
              · cases h
            · rw [if_neg hn] at h
              rw [if_neg hn]
              exact ih r h
        exact key _ r h
    · cases h

end Go.Ab
