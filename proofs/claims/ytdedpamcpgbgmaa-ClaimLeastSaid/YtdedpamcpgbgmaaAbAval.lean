/-
  'aval': WHAT AN OPERATION THAT LEAVES THE WORLD ALONE YIELDS; and that it is so, at every world that a store speaks of. Own work (an AI agent).
-/
import Derived.Test.YtdedpamcpgbgmaaAbPure3
set_option linter.all false
namespace Go.Ab

def isConst : Operand → Bool
  | .const _ => true
  | _ => false

def apick (t : Bool) (a b : AVal) : AVal :=
  match a, b with
  | .lit (.bool x), .lit (.bool y) => .lit (.bool (bif t then x else y))
  | a, b => bif t then a else b

def alen (P : Program) (σ : Store) (t : TypeId) (x : AVal) : Option Nat :=
  match P.underlying t with
  | some .string => match x with
    | .lit (.string s) => some s.size
    | _ => none
  | some (.array n _) => some n
  | some (.slice _) => match x with
    | .lit (.slice none 0 0) => some 0
    | .msl _ _ _ len => some len
    | x => (slOf x).map (·.2.length)
  | some (.map _ _) => match x with
    | .lit (.map none) => some 0
    | .map o => match σ.heap o with
      | some (.map kvs) => some kvs.length
      | _ => none
    | _ => none
  | _ => none

def aunop (op : UnOp) (x : AVal) : Option AVal :=
  match op, x with
  | .not, .lit (.bool b) => some (.lit (.bool !b))
  | .neg, .lit (.int k n) => some (.lit (.int k (k.wrap (0 - n))))
  | _, _ => none

/-- the numbers of a row of bytes -/
def numsOf : List AVal → Option (List Int)
  | [] => some []
  | .lit (.int .u8 n) :: l => (numsOf l).map (n :: ·)
  | _ => none

def strOf (ns : List Int) : ByteArray := ns.foldl (fun r n => r.push (UInt8.ofNat n.toNat)) ByteArray.empty

def astringOf (x : AVal) : Option AVal :=
  match x with
  | .lit (.slice none 0 0) => some (.lit (.string ByteArray.empty))
  | x => match slOf x with
    | some (sz, l) => if sz = 1 then (numsOf l).map fun ns => .lit (.string (strOf ns)) else none
    | none => none

def aconvert (P : Program) (src dst : TypeId) (x : AVal) : Option AVal :=
  match P.underlying src, P.underlying dst, x with
  | some _, some (.int k), .lit (.int _ n) => some (.lit (.int k (k.wrap n)))
  | some .string, some .string, .lit (.string s) => some (.lit (.string s))
  | some (.slice e), some .string, x => match P.underlying e with
    | some (.int .u8) => astringOf x
    | _ => none
  | _, _, _ => none

def anil (x : AVal) : Option AVal :=
  match x with
  | .ref o k => some (.ref o k)
  | .ro a => some (.ro a)
  | .map o => some (.map o)
  | .fn (.func f) a b => some (.fn (.func f) a b)
  | .lit (.func (.func f) a b) => some (.lit (.func (.func f) a b))
  | .lit (.pointer (some a)) => some (.lit (.pointer (some a)))
  | _ => none

def aeq (P : Program) (σ : Store) (t : TypeId) (c : Bool) (x y : AVal) : Option Bool :=
  match x, y with
  | .lit (.pointer none), .lit (.pointer none) => match P.underlying t with
    | some (.pointer _) => some true
    | _ => none
  | .ref _ _, .lit (.pointer none) => match P.underlying t with
    | some (.pointer _) => some false
    | _ => none
  | .ro _, .lit (.pointer none) => match P.underlying t with
    | some (.pointer _) => some false
    | _ => none
  | .map _, .lit (.map none) => match P.underlying t with
    | some (.map _ _) => some false
    | _ => none
  | .lit (.map none), .lit (.map none) => match P.underlying t with
    | some (.map _ _) => some true
    | _ => none
  | .iface _ _, .lit .nilIface => match P.underlying t with
    | some (.interface _) => some false
    | _ => none
  | .lit .nilIface, .lit .nilIface => match P.underlying t with
    | some (.interface _) => if c then some true else none
    | _ => none
  | .fn _ _ _, .lit .nilFunc => match P.underlying t with
    | some (.func _ _ _) => some false
    | _ => none
  | .agg xs, .agg ys => if P.eqGuardType P.depth t then none else aeqIn P Op.maxDepth t (.agg xs) (.agg ys)
  | .lit (.bool a), .lit (.bool b) => match P.underlying t with
    | some .bool => some (a == b)
    | _ => none
  | _, _ => none

def abin (P : Program) (σ : Store) (op : BinOp) (t : TypeId) (c : Bool) (x y : AVal) : Option AVal :=
  match x, y with
  | .lit (.int k a), .lit (.int k' b) => (aint op k a k' b).map .lit
  | .lit (.string a), .lit (.string b) => (astr op a b).map .lit
  | x, y => match op with
    | .eql => (aeq P σ t c x y).map fun r => .lit (.bool r)
    | .neq => (aeq P σ t c x y).map fun r => .lit (.bool !r)
    | _ => none

def afindNow (kind : TypeDesc) (k : Value) : List (Value × AVal) → Option (Option AVal)
  | [] => some none
  | e :: es => match Instr.sameNow kind k e.1 with
    | some true => some (some e.2)
    | some false => afindNow kind k es
    | none => none

def plainKey : TypeDesc → Bool
  | .int _ | .string | .bool => true
  | _ => false

def amapOf (σ : Store) : AVal → Option (List (Value × AVal))
  | .lit (.map none) => some []
  | .map o => match σ.heap o with
    | some (.map kvs) => some kvs
    | _ => none
  | _ => none

def lookupRes (z : Value) (ok : Bool) : Option AVal → AVal
  | some v => if ok then .tup [v, .lit (.bool true)] else v
  | none => if ok then .tup [ofConst z, .lit (.bool false)] else ofConst z

def alookup (P : Program) (σ : Store) (t : TypeId) (m k : AVal) (ok : Bool) : Option AVal :=
  match P.underlying t with
  | some (.map kt et) => match P.underlying kt, zeroOf P et, amapOf σ m, k with
    | some kd, some z, some kvs, .lit kv => if plainKey kd then
        (afindNow kd kv kvs).map (lookupRes z ok)
      else none
    | _, _, _, _ => none
  | _ => none

def atypeAssert (P : Program) (x : AVal) (t : TypeId) (ok : Bool) : Option AVal :=
  match P.underlying t with
  | some (.interface _) => none
  | some _ => match x with
    | .iface u a => if u = t then some (if ok then .tup [a, .lit (.bool true)] else a)
        else if ok then (zeroOf P t).map fun z => .tup [ofConst z, .lit (.bool false)] else none
    | .lit .nilIface => if ok then (zeroOf P t).map fun z => .tup [ofConst z, .lit (.bool false)] else none
    | _ => none
  | none => none

def amax2 (b : Bool) : AVal → AVal → Option AVal
  | .lit (.int k x), .lit (.int _ y) => some (.lit (.int k (if b then max x y else min x y)))
  | _, _ => none

def amaxL (b : Bool) : List AVal → Option AVal
  | [] => none
  | x :: rest => rest.foldlM (amax2 b) x

def acall (P : Program) (σ : Store) (c : Call) (α : Operand → AVal) : Option AVal :=
  match c.callee with
  | .builtin .len => match c.args.toList, c.argTypes[0]? with
    | [x], some t => (alen P σ t (α x)).map fun (n : Nat) => AVal.lit (.int .i64 (n : Int))
    | _, _ => none
  | .builtin .max => amaxL true (c.args.toList.map α)
  | .builtin .min => amaxL false (c.args.toList.map α)
  | _ => none

def aval (P : Program) (op : Op) (α : Operand → AVal) (σ : Store) : Option AVal :=
  match op with
  | .move x => some (α x)
  | .assign x => some (α x)
  | .pick c a b => match α c with
    | .lit (.bool t) => some (apick t (α a) (α b))
    | _ => none
  | .nilCheck x => anil (α x)
  | .binOp op t x y _ => abin P σ op t (isConst x || isConst y) (α x) (α y)
  | .unOp op _ x => aunop op (α x)
  | .convert s d x => aconvert P s d (α x)
  | .fieldAddr s x f => afieldAddr P s (α x) f
  | .field t x f => afield P t (α x) f
  | .indexAddr t x i => aindexAddr P t (α x) (α i)
  | .index t x i => aindex P t (α x) (α i)
  | .load t x => aload P σ t (α x)
  | .extract x i => match α x with
    | .tup vs => vs[i]?
    | _ => none
  | .slice t x lo hi mx => aslice P t (α x) (lo.map α) (hi.map α) (mx.map α)
  | .makeInterface t x => match P.underlying t with
    | some (.interface _) => none
    | some _ => some (.iface t (α x))
    | none => none
  | .makeFunc fn f c => some (.fn fn (f.toList.map α) (c.toList.map α))
  | .build t ps => abuild P t (ps.toList.map fun p => (p.1, α p.2))
  | .lookup t m k ok => alookup P σ t (α m) (α k) ok
  | .typeAssert x _ t ok => atypeAssert P (α x) t ok
  | .call c => acall P σ c α
  | _ => none

/-- At this world, with these values of the operands, the operation yields a value of which 'a' holds, and leaves the world alone. -/
def Yld (P : Program) (o : Oper) (κ : K) (ev : Operand → Value) (a : AVal) : Prop := ∃ cv, (execOp ev o).run P κ.w = .ok (.value cv) κ.w ∧ Rv κ a cv

theorem rv_apick {κ : K} {t : Bool} {a b : AVal} {u v : Value} (ha : t = true → Rv κ a u) (hb : t = false → Rv κ b v) : Rv κ (apick t a b) (if t then u else v) := by
  unfold apick
  split
  · cases t
    · obtain rfl := (hb rfl).litInv; exact .lit _
    · obtain rfl := (ha rfl).litInv; exact .lit _
  · cases t
    · exact hb rfl
    · exact ha rfl

end Go.Ab
