/-
  THE LAYER IN USE: one step at a time; the rules by which 'aval' is reckoned. Own work (an AI agent).
-/
import Derived.Test.YtdedpamcpgbgmaaAbTypes
import Derived.Test.YtdedpamcpgbgmaaAbOps6
set_option linter.all false
namespace Go.Ab

abbrev vInt (n : Int) : AVal := .lit (.int .i64 n)
abbrev vBool (b : Bool) : AVal := .lit (.bool b)
abbrev vStr (s : ByteArray) : AVal := .lit (.string s)

/-- the bits of two numbers, taken together -/
def bAnd (k : IntKind) (a b : Int) : Int := k.wrap (BitVec.ofInt k.bits a &&& BitVec.ofInt k.bits b).toNat
def bOr (k : IntKind) (a b : Int) : Int := k.wrap (BitVec.ofInt k.bits a ||| BitVec.ofInt k.bits b).toNat
def bXor (k : IntKind) (a b : Int) : Int := k.wrap (BitVec.ofInt k.bits a ^^^ BitVec.ofInt k.bits b).toNat

/-! ### reckoning -/

@[go_sem] theorem upd_at (e : Env) (d k : Nat) (a : AVal) : upd e d a k = if k = d then a else e k := rfl
@[go_sem] theorem emp_at (k : Nat) : emp k = .any := rfl
@[go_sem] theorem envOf_nil (k : Nat) : envOf k [] = emp := rfl
@[go_sem] theorem envOf_cons (k : Nat) (a : AVal) (l : List AVal) : envOf k (a :: l) = upd (envOf (k + 1) l) k a := rfl
@[go_sem] theorem aev_tmp (e : Env) (t : Tmp) : aev e (.tmp t) = e t := rfl
@[go_sem] theorem aev_int (e : Env) (k : IntKind) (n : Int) : aev e (.const (.int k n)) = .lit (.int k n) := rfl
@[go_sem] theorem aev_bool (e : Env) (b : Bool) : aev e (.const (.bool b)) = .lit (.bool b) := rfl
@[go_sem] theorem aev_str (e : Env) (s : ByteArray) : aev e (.const (.string s)) = .lit (.string s) := rfl
@[go_sem] theorem aev_ptr (e : Env) (a : Option Addr) : aev e (.const (.pointer a)) = .lit (.pointer a) := rfl
@[go_sem] theorem aev_slice (e : Env) (a : Option Addr) (n c : Nat) : aev e (.const (.slice a n c)) = .lit (.slice a n c) := rfl
@[go_sem] theorem aev_map (e : Env) (r : Option Nat) : aev e (.const (.map r)) = .lit (.map r) := rfl
@[go_sem] theorem aev_nilFunc (e : Env) : aev e (.const .nilFunc) = .lit .nilFunc := rfl
@[go_sem] theorem aev_nilIface (e : Env) : aev e (.const .nilIface) = .lit .nilIface := rfl
@[go_sem] theorem aev_func (e : Env) (f : FuncId) : aev e (.func f) = .lit (.func (.func f) #[] #[]) := rfl

section
variable (P : Program) (α : Operand → AVal) (σ : Store)
@[go_sem] theorem aval_move (x : Operand) : aval P (.move x) α σ = some (α x) := rfl
@[go_sem] theorem aval_assign (x : Operand) : aval P (.assign x) α σ = some (α x) := rfl
@[go_sem] theorem aval_pick (c a b : Operand) : aval P (.pick c a b) α σ = match α c with | .lit (.bool t) => some (apick t (α a) (α b)) | _ => none := rfl
@[go_sem] theorem aval_nilCheck (x : Operand) : aval P (.nilCheck x) α σ = anil (α x) := rfl
@[go_sem] theorem aval_binOp (op : BinOp) (t yt : TypeId) (x y : Operand) : aval P (.binOp op t x y yt) α σ = abin P σ op t (isConst x || isConst y) (α x) (α y) := rfl
@[go_sem] theorem aval_unOp (op : UnOp) (t : TypeId) (x : Operand) : aval P (.unOp op t x) α σ = aunop op (α x) := rfl
@[go_sem] theorem aval_convert (s d : TypeId) (x : Operand) : aval P (.convert s d x) α σ = aconvert P s d (α x) := rfl
@[go_sem] theorem aval_fieldAddr (s : TypeId) (x : Operand) (f : Nat) : aval P (.fieldAddr s x f) α σ = afieldAddr P s (α x) f := rfl
@[go_sem] theorem aval_field (t : TypeId) (x : Operand) (f : Nat) : aval P (.field t x f) α σ = afield P t (α x) f := rfl
@[go_sem] theorem aval_indexAddr (t : TypeId) (x i : Operand) : aval P (.indexAddr t x i) α σ = aindexAddr P t (α x) (α i) := rfl
@[go_sem] theorem aval_index (t : TypeId) (x i : Operand) : aval P (.index t x i) α σ = aindex P t (α x) (α i) := rfl
@[go_sem] theorem aval_load (t : TypeId) (x : Operand) : aval P (.load t x) α σ = aload P σ t (α x) := rfl
@[go_sem] theorem aval_extract (x : Operand) (i : Nat) : aval P (.extract x i) α σ = match α x with | .tup vs => vs[i]? | _ => none := rfl
@[go_sem] theorem aval_slice (t : TypeId) (x : Operand) (lo hi mx : Option Operand) : aval P (.slice t x lo hi mx) α σ = aslice P t (α x) (lo.map α) (hi.map α) (mx.map α) := rfl
@[go_sem] theorem aval_makeFunc (fn : Fn) (f c : Array Operand) : aval P (.makeFunc fn f c) α σ = some (.fn fn (f.toList.map α) (c.toList.map α)) := rfl
@[go_sem] theorem aval_makeInterface (t : TypeId) (x : Operand) : aval P (.makeInterface t x) α σ = match P.underlying t with | some (.interface _) => none | some _ => some (.iface t (α x)) | none => none := rfl
@[go_sem] theorem aval_build (t : TypeId) (ps : Array (Nat × Operand)) : aval P (.build t ps) α σ = abuild P t (ps.toList.map fun p => (p.1, α p.2)) := rfl
@[go_sem] theorem aval_lookup (t : TypeId) (m k : Operand) (ok : Bool) : aval P (.lookup t m k ok) α σ = alookup P σ t (α m) (α k) ok := rfl
@[go_sem] theorem aval_typeAssert (x : Operand) (xt t : TypeId) (ok : Bool) : aval P (.typeAssert x xt t ok) α σ = atypeAssert P (α x) t ok := rfl
@[go_sem] theorem aval_len (x : Operand) (t : TypeId) : aval P (.call { callee := .builtin .len, args := #[x], argTypes := #[t] }) α σ = (alen P σ t (α x)).map fun (n : Nat) => AVal.lit (.int .i64 (n : Int)) := rfl
@[go_sem] theorem aval_max (args : Array Operand) (ts : Array TypeId) : aval P (.call { callee := .builtin .max, args := args, argTypes := ts }) α σ = amaxL true (args.toList.map α) := rfl
@[go_sem] theorem aval_min (args : Array Operand) (ts : Array TypeId) : aval P (.call { callee := .builtin .min, args := args, argTypes := ts }) α σ = amaxL false (args.toList.map α) := rfl
@[go_sem] theorem amaxL_two (k k' : IntKind) (x y : Int) : amaxL true [.lit (.int k x), .lit (.int k' y)] = some (.lit (.int k (max x y))) := rfl
@[go_sem] theorem aminL_two (k k' : IntKind) (x y : Int) : amaxL false [.lit (.int k x), .lit (.int k' y)] = some (.lit (.int k (min x y))) := rfl
@[go_sem] theorem amaxL_three (k k' k'' : IntKind) (x y z : Int) : amaxL true [.lit (.int k x), .lit (.int k' y), .lit (.int k'' z)] = some (.lit (.int k (max (max x y) z))) := rfl
@[go_sem] theorem aminL_three (k k' k'' : IntKind) (x y z : Int) : amaxL false [.lit (.int k x), .lit (.int k' y), .lit (.int k'' z)] = some (.lit (.int k (min (min x y) z))) := rfl
@[go_sem] theorem abin_int (op : BinOp) (t : TypeId) (c : Bool) (k k' : IntKind) (a b : Int) : abin P σ op t c (.lit (.int k a)) (.lit (.int k' b)) = (aint op k a k' b).map .lit := rfl
@[go_sem] theorem abin_str (op : BinOp) (t : TypeId) (c : Bool) (a b : ByteArray) : abin P σ op t c (.lit (.string a)) (.lit (.string b)) = (astr op a b).map .lit := rfl
@[go_sem] theorem aint_add (k : IntKind) (a b : Int) : aint .add k a k b = some (.int k (k.wrap (a + b))) := by simp [aint]
@[go_sem] theorem aint_sub (k : IntKind) (a b : Int) : aint .sub k a k b = some (.int k (k.wrap (a - b))) := by simp [aint]
@[go_sem] theorem aint_mul (k : IntKind) (a b : Int) : aint .mul k a k b = some (.int k (k.wrap (a * b))) := by simp [aint]
@[go_sem] theorem aint_eql (k : IntKind) (a b : Int) : aint .eql k a k b = some (.bool (decide (a = b))) := by simp [aint]
@[go_sem] theorem aint_neq (k : IntKind) (a b : Int) : aint .neq k a k b = some (.bool (!decide (a = b))) := by simp [aint]
@[go_sem] theorem aint_lss (k : IntKind) (a b : Int) : aint .lss k a k b = some (.bool (decide (a < b))) := by simp [aint]
@[go_sem] theorem aint_leq (k : IntKind) (a b : Int) : aint .leq k a k b = some (.bool (decide (a ≤ b))) := by simp [aint]
@[go_sem] theorem aint_gtr (k : IntKind) (a b : Int) : aint .gtr k a k b = some (.bool (decide (b < a))) := by simp [aint]
@[go_sem] theorem aint_geq (k : IntKind) (a b : Int) : aint .geq k a k b = some (.bool (decide (b ≤ a))) := by simp [aint]
@[go_sem] theorem aint_and (k : IntKind) (a b : Int) : aint .and k a k b = some (.int k (bAnd k a b)) := by simp [aint, bAnd]
@[go_sem] theorem aint_or (k : IntKind) (a b : Int) : aint .or k a k b = some (.int k (bOr k a b)) := by simp [aint, bOr]
@[go_sem] theorem aint_xor (k : IntKind) (a b : Int) : aint .xor k a k b = some (.int k (bXor k a b)) := by simp [aint, bXor]
theorem aint_quo (k : IntKind) (a b : Int) (h : b ≠ 0) : aint .quo k a k b = some (.int k (k.wrap (a.tdiv b))) := by simp [aint, h]
theorem aint_rem (k : IntKind) (a b : Int) (h : b ≠ 0) : aint .rem k a k b = some (.int k (a.tmod b)) := by simp [aint, h]
@[go_sem] theorem astr_eql (a b : ByteArray) : astr .eql a b = some (.bool (decide (a = b))) := rfl
@[go_sem] theorem astr_neq (a b : ByteArray) : astr .neq a b = some (.bool (!decide (a = b))) := rfl
@[go_sem] theorem astr_lss (a b : ByteArray) : astr .lss a b = some (.bool (sLt a b)) := rfl
@[go_sem] theorem astr_gtr (a b : ByteArray) : astr .gtr a b = some (.bool !(sLt a b || decide (a = b))) := rfl
@[go_sem] theorem astr_leq (a b : ByteArray) : astr .leq a b = some (.bool (sLt a b || decide (a = b))) := rfl
@[go_sem] theorem astr_geq (a b : ByteArray) : astr .geq a b = some (.bool !(sLt a b)) := rfl
theorem astr_add (a b : ByteArray) (h : a.size + b.size ≤ maxText) : astr .add a b = some (.string (a ++ b)) := by simp [astr, h]
@[go_sem] theorem apick_bool (t x y : Bool) : apick t (.lit (.bool x)) (.lit (.bool y)) = .lit (.bool (bif t then x else y)) := rfl
end

theorem wrap_i64 (n : Int) (h1 : -9223372036854775808 ≤ n) (h2 : n ≤ 9223372036854775807) : IntKind.i64.wrap n = n := by
  unfold IntKind.wrap
  simp only [IntKind.bits, IntKind.signed, Bool.true_and, decide_eq_true_eq, ge_iff_le]
  have e1 : (2 : Int) ^ 64 = 18446744073709551616 := by decide
  have e2 : (2 : Int) ^ (64 - 1) = 9223372036854775808 := by decide
  simp only [e1, e2]
  split <;> omega

attribute [go_sem] arecv Store.delO Store.del_ne Store.newTok_heap Store.set_tok Store.newTok_get Store.newTok_set afieldAddr aload aindexAddr afield aindex abuild anil aunop aconvert alen apart aro placeOf afill aput slOf AVal.cells AVal.solid AVal.one ofConst zeroCells' Store.set_get Store.set_ne abound alow ahigh aret

@[go_sem] theorem toList_lit {β : Type} (l : List β) : l.toArray.toList = l := rfl
@[go_sem] theorem aresults_nil (P : Program) (e : Env) (σ : Store) : aresults P [] e σ = some [] := rfl
@[go_sem] theorem aresults_tmp (P : Program) (e : Env) (σ : Store) (t : Tmp) (rs : List ResultVar) : aresults P (.tmp t :: rs) e σ = match aresults P rs e σ with | some vs => some (e t :: vs) | none => none := by
  unfold aresults
  rw [List.mapM_cons]
  generalize hq : rs.mapM (m := Option) (fun
    | .tmp t => some (e t)
    | .cell a t => aload P σ t (e a)) = q
  cases q <;> simp [hq]
@[go_sem] theorem aresults_cell (P : Program) (e : Env) (σ : Store) (a : Tmp) (t : TypeId) (rs : List ResultVar) : aresults P (.cell a t :: rs) e σ = match aload P σ t (e a), aresults P rs e σ with | some v, some vs => some (v :: vs) | _, _ => none := by
  unfold aresults
  rw [List.mapM_cons]
  generalize hq : rs.mapM (m := Option) (fun
    | .tmp t => some (e t)
    | .cell a t => aload P σ t (e a)) = q
  cases hl : aload P σ t (e a) <;> cases q <;> simp [hq, hl]

attribute [go_sem] if_pos aslice Int.toNat_natCast List.length_map List.map_append Bool.false_eq_true ne_eq not_true_eq_false not_false_eq_true and_self and_true true_and Nat.add_zero Nat.zero_add Option.map_some Option.map_none Option.bind_some Option.isSome_some List.length_cons List.length_nil List.map_cons List.map_nil List.nil_append List.cons_append List.append_nil List.take_succ_cons List.take_zero List.drop_succ_cons List.drop_zero List.getElem?_cons_zero List.getElem?_cons_succ Int.toNat_zero Int.le_refl decide_true decide_false beq_self_eq_true Bool.and_self Bool.and_true Bool.true_and Bool.and_false Bool.false_and cond_true cond_false Bool.not_true Bool.not_false Bool.or_self Bool.or_false Bool.or_true Bool.true_or Bool.false_or

attribute [go_sem] astringOf_sl astringOf_own astringOf_nil bytesL_length bytesL_append bytesL_take_drop bytesL_take extract_all

/-! ### steps -/

section
variable {P : Program} {ops : Array Oper} {Kk : Env → Store → Prop} {o : Oper} {rest : List Oper} {e : Env} {σ : Store}

theorem aL_nil (h : Kk e σ) : aList P ops Kk [] e σ := h

/-- an operation that only looks -/
theorem aL_S {d : Tmp} {a : AVal} (hg : o.guard = none) (hd : o.dst = some d) (ha : aval P o.op (aev e) σ = some a) (h : aList P ops Kk rest (upd e d a) σ) : aList P ops Kk (o :: rest) e σ := by
  unfold aList aStep wantedA
  simp only [hg, hd, updo]
  exact AOp_val ha h

/-- another one -/
theorem aL_X {d : Tmp} (hg : o.guard = none) (hd : o.dst = some d) (h : AOp P o (aev e) σ fun a σ' => aList P ops Kk rest (upd e d a) σ') : aList P ops Kk (o :: rest) e σ := by
  unfold aList aStep wantedA
  simp only [hg, hd, updo]
  exact h

theorem aL_X0 (hg : o.guard = none) (hd : o.dst = none) (h : AOp P o (aev e) σ fun _ σ' => aList P ops Kk rest e σ') : aList P ops Kk (o :: rest) e σ := by
  unfold aList aStep wantedA
  simp only [hg, hd, updo]
  exact h

end

section
variable {P : Program} {ops : Array Oper} {s0 : Store} {Kk : Env → Store → Prop} {o : Oper} {i : Nat} {r : DT} {e : Env} {σ : Store}

theorem dR_nil (h : Kk e σ) : dRun P ops s0 Kk .nil e σ := h

/-- each of several first -/
theorem dR_alt {k : Nat} {t : DT} (h1 : dRun P ops s0 Kk (.op i (k + 1) r) e σ) (h2 : dRun P ops s0 Kk t e σ) : dRun P ops s0 Kk (.alt i (k + 1) r t) e σ := by
  cases k with
  | zero => exact ⟨h1, h2⟩
  | succ k => exact ⟨h1, h2⟩

theorem dR_S {d : Tmp} {a : AVal} (ho : ops[i]? = some o) (hg : o.guard = none) (hd : o.dst = some d) (ha : aval P o.op (aev e) s0 = some a) (h : dRun P ops s0 Kk r (upd e d a) σ) : dRun P ops s0 Kk (.op i 0 r) e σ := by
  refine ⟨o, a, ho, .inl ⟨by simp [wantedA, hg], ha⟩, ?_⟩
  rw [hd]; exact h

/-- one whose value does not hang on what is in the store -/
theorem dR_A {d : Tmp} {a : AVal} (ho : ops[i]? = some o) (hg : o.guard = none) (hd : o.dst = some d) (ha : ∀ s, aval P o.op (aev e) s = some a) (h : dRun P ops s0 Kk r (upd e d a) σ) : dRun P ops s0 Kk (.any i r) e σ := by
  refine ⟨o, a, ho, fun s => .inl ⟨by simp [wantedA, hg], ha s⟩, ?_⟩
  rw [hd]; exact h

/-- its guard says yes -/
theorem dR_SY {d : Tmp} {a : AVal} (ho : ops[i]? = some o) (hd : o.dst = some d) (hw : wantedA ops o e = some true) (ha : aval P o.op (aev e) s0 = some a) (h : dRun P ops s0 Kk r (upd e d a) σ) : dRun P ops s0 Kk (.op i 0 r) e σ := by
  refine ⟨o, a, ho, .inl ⟨hw, ha⟩, ?_⟩
  rw [hd]; exact h

/-- its guard says no -/
theorem dR_SN {d : Tmp} (ho : ops[i]? = some o) (hd : o.dst = some d) (hw : wantedA ops o e = some false) (h : dRun P ops s0 Kk r (upd e d (.lit undef)) σ) : dRun P ops s0 Kk (.op i 0 r) e σ := by
  refine ⟨o, .lit undef, ho, .inr ⟨hw, rfl⟩, ?_⟩
  rw [hd]; exact h

theorem dR_X {d : Tmp} (ho : ops[i]? = some o) (hd : o.dst = some d) (hw : wantedA ops o e = some true) (h : AOp P o (aev e) σ fun a σ' => s0.Sub σ' ∧ dRun P ops s0 Kk r (upd e d a) σ') : dRun P ops s0 Kk (.op i 1 r) e σ := by
  refine ⟨o, ho, ?_⟩
  unfold aStep
  simp only [hw, hd, updo]
  exact h

theorem dR_X0 (ho : ops[i]? = some o) (hd : o.dst = none) (hw : wantedA ops o e = some true) (h : AOp P o (aev e) σ fun a σ' => s0.Sub σ' ∧ dRun P ops s0 Kk r e σ') : dRun P ops s0 Kk (.op i 1 r) e σ := by
  refine ⟨o, ho, ?_⟩
  unfold aStep
  simp only [hw, hd, updo]
  exact h

theorem dR_XN {d : Tmp} (ho : ops[i]? = some o) (hd : o.dst = some d) (hw : wantedA ops o e = some false) (hs : s0.Sub σ) (h : dRun P ops s0 Kk r (upd e d (.lit undef)) σ) : dRun P ops s0 Kk (.op i 1 r) e σ := by
  refine ⟨o, ho, ?_⟩
  unfold aStep
  simp only [hw, hd, updo]
  exact ⟨hs, h⟩

theorem dR_T {d : Tmp} (ho : ops[i]? = some o) (hd : o.dst = some d) (hw : wantedA ops o e = some true) (h : AOp P o (aev e) σ fun a σ' => dRun P ops s0 Kk r (upd e d a) σ') : dRun P ops s0 Kk (.op i 2 r) e σ := by
  refine ⟨o, ho, ?_⟩
  unfold aStep
  simp only [hw, hd, updo]
  exact h

theorem dR_T0 (ho : ops[i]? = some o) (hd : o.dst = none) (hw : wantedA ops o e = some true) (h : AOp P o (aev e) σ fun a σ' => dRun P ops s0 Kk r e σ') : dRun P ops s0 Kk (.op i 2 r) e σ := by
  refine ⟨o, ho, ?_⟩
  unfold aStep
  simp only [hw, hd, updo]
  exact h

end

/-- a contract at a call -/
theorem AOp_use {P : Program} {o : Oper} {α : Operand → AVal} {σ : Store} {Kk : AVal → Store → Prop} {c : Call} {f : Operand} {g : FuncId} {first captured args : List AVal} {Q : AVal → Store → Prop} (ho : o.op = .call c) (hc : c.callee = .value f)
    (hf : α f = .fn (.func g) first captured ∨ (α f = .lit (.func (.func g) #[] #[]) ∧ first = [] ∧ captured = [])) (hg : isGo P g = true)
    (hargs : first ++ c.args.toList.map α ++ captured = args) (hcon : ACalls P g args σ Q) (hk : ∀ a σ', Q a σ' → Kk a σ') : AOp P o α σ Kk := by
  subst hargs
  exact AOp_call ho hc hf hg (hcon.mono hk)

/-- what a call by an interface does -/
def AInv (P : Program) (t : TypeId) (a : AVal) (name : String) (xs : List AVal) (σ : Store) (Q : AVal → Store → Prop) : Prop :=
  ∃ f ptr r, ameth P t name = some (f, ptr) ∧ arecv P σ t ptr a = some r ∧ isGo P f = true ∧ ACalls P f (r :: xs) σ Q

theorem AOp_invokeI {P : Program} {o : Oper} {α : Operand → AVal} {σ : Store} {Kk : AVal → Store → Prop} {x : Operand} {name : String} {args : Array Operand} {ts : Array TypeId} {t : TypeId} {a : AVal} {xs : List AVal} {Q : AVal → Store → Prop}
    (ho : o.op = .call { callee := .invoke x name, args := args, argTypes := ts }) (hx : α x = .iface t a) (has : args.toList.map α = xs) (h : AInv P t a name xs σ Q) (hk : ∀ v σ', Q v σ' → Kk v σ') : AOp P o α σ Kk := by
  subst has
  obtain ⟨f, ptr, r, h1, h2, h3, h4⟩ := h
  exact AOp_invoke ho hx h1 h2 h3 rfl h4 hk

theorem sub_upd {σ σ' : Store} {o : Nat} {x : AObj} (h : σ.Sub σ') (ho : σ.heap o = none) : σ.Sub (σ'.set o x) := ⟨fun i y hy => by
  by_cases hi : i = o
  · subst hi; rw [ho] at hy; cases hy
  · rw [Store.set_ne _ _ hi]; exact h.heap i y hy, h.tok⟩

theorem none_set {σ : Store} {o j : Nat} {x : AObj} (h : (σ.set o x).heap j = none) : j ≠ o ∧ σ.heap j = none := by
  by_cases hj : j = o
  · subst hj; rw [Store.set_get] at h; cases h
  · exact ⟨hj, by rw [Store.set_ne _ _ hj] at h; exact h⟩

theorem sub_set {σ : Store} {o : Nat} {x : AObj} (h : σ.heap o = none) : σ.Sub (σ.set o x) := ⟨fun i y hy => by
  by_cases hi : i = o
  · subst hi; rw [h] at hy; cases hy
  · rw [Store.set_ne _ _ hi]; exact hy, fun _ _ h => h⟩

section
variable {P : Program} {ops : Array Oper} {s0 : Store} {Kk : Env → Store → Prop} {o : Oper} {rest : List Oper} {i : Nat} {r : DT} {e : Env} {σ : Store}

theorem AOp_box' {α : Operand → AVal} {Kk : AVal → Store → Prop} {t : TypeId} {x : Operand} {a : AVal} {cs : List AVal} (ho : o.op = .box t x) (hx : α x = a) (hs : a.solid = true) (hc : a.cells = cs)
    (h : ∀ j, σ.heap j = none → Kk (.ref j 0) (σ.set j (.cells cs))) : AOp P o α σ Kk := by
  subst hx; subst hc; exact AOp_box ho hs h

theorem aL_box {d : Tmp} {t : TypeId} {x : Operand} {a : AVal} {cs : List AVal} (hg : o.guard = none) (hd : o.dst = some d) (ho : o.op = .box t x) (hx : aev e x = a) (hs : a.solid = true) (hc : a.cells = cs)
    (h : ∀ j, σ.heap j = none → aList P ops Kk rest (upd e d (.ref j 0)) (σ.set j (.cells cs))) : aList P ops Kk (o :: rest) e σ :=
  aL_X hg hd (AOp_box' ho hx hs hc h)

theorem AOp_alloc' {α : Operand → AVal} {Kk : AVal → Store → Prop} {t : TypeId} {z : Value} {cs : List AVal} (ho : o.op = .alloc t) (hz : zeroOf P t = some z) (hc : zeroCells' z = cs)
    (h : ∀ j, σ.heap j = none → Kk (.ref j 0) (σ.set j (.cells cs))) : AOp P o α σ Kk := by
  subst hc; exact AOp_alloc ho hz h

theorem aL_alloc {d : Tmp} {t : TypeId} {z : Value} {cs : List AVal} (hg : o.guard = none) (hd : o.dst = some d) (ho : o.op = .alloc t) (hz : zeroOf P t = some z) (hc : zeroCells' z = cs)
    (h : ∀ j, σ.heap j = none → aList P ops Kk rest (upd e d (.ref j 0)) (σ.set j (.cells cs))) : aList P ops Kk (o :: rest) e σ :=
  aL_X hg hd (AOp_alloc' ho hz hc h)

theorem AOp_store' {α : Operand → AVal} {Kk : AVal → Store → Prop} {t : TypeId} {ad x : Operand} {j off size : Nat} {g : Bool} {cs cs' : List AVal} {a : AVal} (ho : o.op = .store t ad x) (ha : α ad = .ref j off) (hx : α x = a) (hh : σ.heap j = some (.cells cs))
    (ht : typeOf P t = some (size, g)) (hs : a.solid = true) (hcs : a.cells = cs') (hones : ∀ c ∈ cs', c.one = true) (hsz : cs'.length = size) (hle : off + size ≤ cs.length) {cs2 : List AVal} (hp : aput cs off cs' = cs2) (h : Kk .any (σ.set j (.cells cs2))) : AOp P o α σ Kk := by
  subst hx; subst hcs; subst hp; exact AOp_store ho ha hh ht hs hones hsz hle h

theorem aL_store {t : TypeId} {ad x : Operand} {j off size : Nat} {g : Bool} {cs cs' : List AVal} {a : AVal} (hg : o.guard = none) (hd : o.dst = none) (ho : o.op = .store t ad x) (ha : aev e ad = .ref j off) (hx : aev e x = a) (hh : σ.heap j = some (.cells cs))
    (ht : typeOf P t = some (size, g)) (hs : a.solid = true) (hcs : a.cells = cs') (hones : ∀ c ∈ cs', c.one = true) (hsz : cs'.length = size) (hle : off + size ≤ cs.length) {cs2 : List AVal} (hp : aput cs off cs' = cs2)
    (h : aList P ops Kk rest e (σ.set j (.cells cs2))) : aList P ops Kk (o :: rest) e σ :=
  aL_X0 hg hd (AOp_store' ho ha hx hh ht hs hcs hones hsz hle hp h)

theorem aput_one {cs : List AVal} {k : Nat} {a : AVal} (h : k < cs.length) : aput cs k [a] = cs.set k a := by
  unfold aput
  rw [List.set_eq_take_append_cons_drop, if_pos h]
  simp

theorem dR_store {t : TypeId} {ad x : Operand} {j off size : Nat} {g : Bool} {cs cs' : List AVal} {a : AVal} (hop : ops[i]? = some o) (hd : o.dst = none) (hw : wantedA ops o e = some true) (ho : o.op = .store t ad x) (ha : aev e ad = .ref j off) (hx : aev e x = a) (hh : σ.heap j = some (.cells cs))
    (ht : typeOf P t = some (size, g)) (hs : a.solid = true) (hcs : a.cells = cs') (hones : ∀ c ∈ cs', c.one = true) (hsz : cs'.length = size) (hle : off + size ≤ cs.length) {cs2 : List AVal} (hp : aput cs off cs' = cs2)
    (h : dRun P ops s0 Kk r e (σ.set j (.cells cs2))) : dRun P ops s0 Kk (.op i 2 r) e σ :=
  dR_T0 hop hd hw (AOp_store' ho ha hx hh ht hs hcs hones hsz hle hp h)

theorem AOp_append' {α : Operand → AVal} {Kk : AVal → Store → Prop} {s x : Operand} {t el : TypeId} {sz by_ k : Nat} {l l2 : List AVal} (ho : o.op = .call { callee := .builtin .append, args := #[s, x], argTypes := #[t, t] }) (hse : sliceElem P t = some el) (hte : appInfo P el = some (sz, by_))
    (hs : α s = .own k sz l) (hk : σ.tok k = some (el, sz)) (hx : slOf (α x) = some (sz, l2)) (hone : ∀ y ∈ l2, ∀ c ∈ y.cells, c.one = true) (hlen : (l.length + l2.length) * by_ ≤ 140737488355328)
    (h : ∀ t', σ.tok t' = none → Kk (.own t' sz (l ++ l2)) (σ.newTok (some k) t' (el, sz))) : AOp P o α σ Kk :=
  AOp_append ho hse hte (.inl ⟨k, hs, hk, rfl⟩) (.inl hx) hone hlen h

theorem AOp_appendN {α : Operand → AVal} {Kk : AVal → Store → Prop} {s x : Operand} {t el : TypeId} {sz by_ : Nat} {l2 : List AVal} (ho : o.op = .call { callee := .builtin .append, args := #[s, x], argTypes := #[t, t] }) (hse : sliceElem P t = some el) (hte : appInfo P el = some (sz, by_))
    (hs : α s = .lit (.slice none 0 0)) (hx : slOf (α x) = some (sz, l2)) (hone : ∀ y ∈ l2, ∀ c ∈ y.cells, c.one = true) (hlen : l2.length * by_ ≤ 140737488355328)
    (h : ∀ t', σ.tok t' = none → Kk (.own t' sz l2) (σ.newTok none t' (el, sz))) : AOp P o α σ Kk :=
  AOp_append ho hse hte (.inr ⟨hs, rfl, rfl⟩) (.inl hx) hone (by simpa using hlen) h

theorem aL_append {d : Tmp} {s x : Operand} {t el : TypeId} {sz by_ k : Nat} {l l2 : List AVal} (hg : o.guard = none) (hd : o.dst = some d) (ho : o.op = .call { callee := .builtin .append, args := #[s, x], argTypes := #[t, t] }) (hse : sliceElem P t = some el) (hte : appInfo P el = some (sz, by_))
    (hs : aev e s = .own k sz l) (hk : σ.tok k = some (el, sz)) (hx : slOf (aev e x) = some (sz, l2)) (hone : ∀ y ∈ l2, ∀ c ∈ y.cells, c.one = true) (hlen : (l.length + l2.length) * by_ ≤ 140737488355328)
    (h : ∀ t', σ.tok t' = none → aList P ops Kk rest (upd e d (.own t' sz (l ++ l2))) (σ.newTok (some k) t' (el, sz))) : aList P ops Kk (o :: rest) e σ :=
  aL_X hg hd (AOp_append' ho hse hte hs hk hx hone hlen h)

theorem aL_appendN {d : Tmp} {s x : Operand} {t el : TypeId} {sz by_ : Nat} {l2 : List AVal} (hg : o.guard = none) (hd : o.dst = some d) (ho : o.op = .call { callee := .builtin .append, args := #[s, x], argTypes := #[t, t] }) (hse : sliceElem P t = some el) (hte : appInfo P el = some (sz, by_))
    (hs : aev e s = .lit (.slice none 0 0)) (hx : slOf (aev e x) = some (sz, l2)) (hone : ∀ y ∈ l2, ∀ c ∈ y.cells, c.one = true) (hlen : l2.length * by_ ≤ 140737488355328)
    (h : ∀ t', σ.tok t' = none → aList P ops Kk rest (upd e d (.own t' sz l2)) (σ.newTok none t' (el, sz))) : aList P ops Kk (o :: rest) e σ :=
  aL_X hg hd (AOp_appendN ho hse hte hs hx hone hlen h)

theorem AOp_bytesOf' {α : Operand → AVal} {Kk : AVal → Store → Prop} {src dst el : TypeId} {x : Operand} {s : ByteArray} (ho : o.op = .convert src dst x) (hs : P.underlying src = some .string) (hd : P.underlying dst = some (.slice el)) (he : P.underlying el = some (.int .u8)) (hx : α x = .lit (.string s))
    (h : Kk (.sl 1 (bytesL s) false) σ) : AOp P o α σ Kk := AOp_bytesOf ho hs hd he hx h

theorem aL_bytesOf {d : Tmp} {src dst el : TypeId} {x : Operand} {s : ByteArray} (hg : o.guard = none) (hd' : o.dst = some d) (ho : o.op = .convert src dst x) (hs : P.underlying src = some .string) (hd : P.underlying dst = some (.slice el)) (he : P.underlying el = some (.int .u8)) (hx : aev e x = .lit (.string s))
    (h : aList P ops Kk rest (upd e d (.sl 1 (bytesL s) false)) σ) : aList P ops Kk (o :: rest) e σ := aL_X hg hd' (AOp_bytesOf ho hs hd he hx h)

theorem dR_bytesOf {d : Tmp} {src dst el : TypeId} {x : Operand} {s : ByteArray} (hop : ops[i]? = some o) (hd' : o.dst = some d) (hw : wantedA ops o e = some true) (ho : o.op = .convert src dst x) (hs : P.underlying src = some .string) (hd : P.underlying dst = some (.slice el)) (he : P.underlying el = some (.int .u8)) (hx : aev e x = .lit (.string s))
    (hsub : s0.Sub σ) (h : dRun P ops s0 Kk r (upd e d (.sl 1 (bytesL s) false)) σ) : dRun P ops s0 Kk (.op i 1 r) e σ := dR_X hop hd' hw (AOp_bytesOf ho hs hd he hx ⟨hsub, h⟩)

theorem ASrc_sl {sz : Nat} {tx el : TypeId} {x : AVal} {l2 : List AVal} (hk : P.underlying tx = some (.slice el)) (hx : slOf x = some (sz, l2)) (hone : ∀ y ∈ l2, ∀ c ∈ y.cells, c.one = true) : ASrc P sz tx x l2 := .inl ⟨⟨el, hk⟩, .inl hx, hone⟩
theorem ASrc_str {tx : TypeId} {s : ByteArray} (hk : P.underlying tx = some .string) : ASrc P 1 tx (.lit (.string s)) (bytesL s) := .inr ⟨hk, rfl, s, rfl, rfl⟩

theorem AOp_appendT' {α : Operand → AVal} {Kk : AVal → Store → Prop} {s x : Operand} {t tx el : TypeId} {sz by_ : Nat} {l l2 : List AVal} {b : AVal} (ho : o.op = .call { callee := .builtin .append, args := #[s, x], argTypes := #[t, tx] }) (hse : sliceElem P t = some el) (hte : appInfo P el = some (sz, by_))
    (hs : α s = .sl sz l true) (hb : α x = b) (hx : ASrc P sz tx b l2) (hlen : (l.length + l2.length) * by_ ≤ 140737488355328) (h : Kk (.sl sz (l ++ l2) false) σ) : AOp P o α σ Kk := by
  subst hb; exact AOp_appendTight ho hse hte (.inl hs) hx hlen h

theorem aL_appendT {d : Tmp} {s x : Operand} {t tx el : TypeId} {sz by_ : Nat} {l l2 : List AVal} {b : AVal} (hg : o.guard = none) (hd : o.dst = some d) (ho : o.op = .call { callee := .builtin .append, args := #[s, x], argTypes := #[t, tx] }) (hse : sliceElem P t = some el) (hte : appInfo P el = some (sz, by_))
    (hs : aev e s = .sl sz l true) (hb : aev e x = b) (hx : ASrc P sz tx b l2) (hlen : (l.length + l2.length) * by_ ≤ 140737488355328) (h : aList P ops Kk rest (upd e d (.sl sz (l ++ l2) false)) σ) : aList P ops Kk (o :: rest) e σ :=
  aL_X hg hd (AOp_appendT' ho hse hte hs hb hx hlen h)

theorem dR_appendT {d : Tmp} {s x : Operand} {t tx el : TypeId} {sz by_ : Nat} {l l2 : List AVal} {b : AVal} (hop : ops[i]? = some o) (hd : o.dst = some d) (hw : wantedA ops o e = some true) (ho : o.op = .call { callee := .builtin .append, args := #[s, x], argTypes := #[t, tx] }) (hse : sliceElem P t = some el) (hte : appInfo P el = some (sz, by_))
    (hs : aev e s = .sl sz l true) (hb : aev e x = b) (hx : ASrc P sz tx b l2) (hlen : (l.length + l2.length) * by_ ≤ 140737488355328) (hsub : s0.Sub σ) (h : dRun P ops s0 Kk r (upd e d (.sl sz (l ++ l2) false)) σ) : dRun P ops s0 Kk (.op i 1 r) e σ :=
  dR_X hop hd hw (AOp_appendT' ho hse hte hs hb hx hlen ⟨hsub, h⟩)

theorem aL_nilOwn {d : Tmp} {x : Operand} (el : TypeId) (sz : Nat) (hg : o.guard = none) (hd : o.dst = some d) (ho : o.op = .assign x) (hx : aev e x = .lit (.slice none 0 0))
    (h : ∀ t', σ.tok t' = none → aList P ops Kk rest (upd e d (.own t' sz [])) (σ.newTok none t' (el, sz))) : aList P ops Kk (o :: rest) e σ :=
  aL_X hg hd (AOp_nilOwn ho hx h)

/-- nil, as a slice of nothing -/
theorem aL_nilSl {d : Tmp} {x : Operand} (sz : Nat) (hg : o.guard = none) (hd : o.dst = some d) (ho : o.op = .assign x) (hx : aev e x = .lit (.slice none 0 0)) (h : aList P ops Kk rest (upd e d (.sl sz [] false)) σ) : aList P ops Kk (o :: rest) e σ := by
  refine aL_X hg hd ?_
  obtain ⟨dst, op, ty, pos, after, guard⟩ := o
  obtain rfl : op = .assign x := ho
  intro κ ev hI hxx
  have hv := hxx x (by simp [Op.operands])
  rw [hx] at hv
  have : (execOp ev { dst := dst, op := .assign x, type := ty, pos := pos, after := after, guard := guard }).run P κ.w = .ok (.value (ev x)) κ.w := by simp [execOp]
  rw [this, hv.litInv]
  exact ⟨κ, .sl sz [] false, σ, rfl, .refl κ, hI, .slNil _ _, h⟩

theorem AOp_buildSlice' {α : Operand → AVal} {Kk : AVal → Store → Prop} {t el : TypeId} {n sz by_ : Nat} {parts : List (Nat × Operand)} {l : List AVal} (ho : o.op = .buildSlice t n parts.toArray) (hse : sliceElem P t = some el) (hte : appInfo P el = some (sz, by_)) (hn : parts.length = n)
    (hr : parts.map (·.1) = List.range' 0 parts.length) (hl : (parts.map fun p => α p.2) = l) (hs : ∀ p ∈ parts, (α p.2).solid = true ∧ (α p.2).cells.length = sz) (hbig : n * sz ≤ 16777216) (hk : Kk (.sl sz l true) σ) : AOp P o α σ Kk := by
  subst hl
  exact AOp_buildSlice ho hse hte hn hr hs hbig hk

theorem aL_buildSlice {d : Tmp} {t el : TypeId} {n sz by_ : Nat} {parts : List (Nat × Operand)} {l : List AVal} (hg : o.guard = none) (hd : o.dst = some d) (ho : o.op = .buildSlice t n parts.toArray) (hse : sliceElem P t = some el) (hte : appInfo P el = some (sz, by_)) (hn : parts.length = n)
    (hr : parts.map (·.1) = List.range' 0 parts.length) (hl : (parts.map fun p => aev e p.2) = l) (hs : ∀ p ∈ parts, (aev e p.2).solid = true ∧ (aev e p.2).cells.length = sz) (hbig : n * sz ≤ 16777216) (h : aList P ops Kk rest (upd e d (.sl sz l true)) σ) : aList P ops Kk (o :: rest) e σ :=
  aL_X hg hd (AOp_buildSlice' ho hse hte hn hr hl hs hbig h)

theorem sub_setR {σ σ' : Store} {o : Nat} {x : AObj} (h : σ.Sub σ') (ho : σ'.heap o = none) : σ.Sub (σ'.set o x) := ⟨fun i y hy => by
  by_cases hi : i = o
  · subst hi; rw [h.heap i y hy] at ho; cases ho
  · rw [Store.set_ne _ _ hi]; exact h.heap i y hy, h.tok⟩

theorem dR_box {d : Tmp} {t : TypeId} {x : Operand} {a : AVal} {cs : List AVal} (hop : ops[i]? = some o) (hd : o.dst = some d) (hw : wantedA ops o e = some true) (ho : o.op = .box t x) (hx : aev e x = a) (hs : a.solid = true) (hc : a.cells = cs) (hsub : s0.Sub σ)
    (h : ∀ j, σ.heap j = none → dRun P ops s0 Kk r (upd e d (.ref j 0)) (σ.set j (.cells cs))) : dRun P ops s0 Kk (.op i 1 r) e σ :=
  dR_X hop hd hw (AOp_box' ho hx hs hc fun j hj => ⟨sub_setR hsub hj, h j hj⟩)

theorem dR_alloc {d : Tmp} {t : TypeId} {z : Value} {cs : List AVal} (hop : ops[i]? = some o) (hd : o.dst = some d) (hw : wantedA ops o e = some true) (ho : o.op = .alloc t) (hz : zeroOf P t = some z) (hc : zeroCells' z = cs) (hsub : s0.Sub σ)
    (h : ∀ j, σ.heap j = none → dRun P ops s0 Kk r (upd e d (.ref j 0)) (σ.set j (.cells cs))) : dRun P ops s0 Kk (.op i 1 r) e σ :=
  dR_X hop hd hw (AOp_alloc' ho hz hc fun j hj => ⟨sub_setR hsub hj, h j hj⟩)

theorem aEnd_ret {rs : List ResultVar} {Q : AVal → Store → Prop} {v : AVal} {σ' : Store} (h : aret P rs e σ = some v) (hs : σ'.Wk σ) (hq : Q v σ') : aEnd P rs Q .ret e σ := ⟨v, v, σ', h, .refl _, hs, hq⟩
theorem aEnd_nor {rs : List ResultVar} {Q : AVal → Store → Prop} {v : AVal} {σ' : Store} (h : aret P rs e σ = some v) (hs : σ'.Wk σ) (hq : Q v σ') : aEnd P rs Q .normal e σ := ⟨v, v, σ', h, .refl _, hs, hq⟩
theorem aEnd_retW {rs : List ResultVar} {Q : AVal → Store → Prop} {v v' : AVal} {σ' : Store} (h : aret P rs e σ = some v') (hw : Wk v' v) (hs : σ'.Wk σ) (hq : Q v σ') : aEnd P rs Q .ret e σ := ⟨v, v', σ', h, hw, hs, hq⟩

end

end Go.Ab
