/-
  INTERFACES, MAPS, SLICES THAT ARE WRITTEN: calls by an interface; maps made, written, taken from; append to a slice whose cells are written, too. Own work (an AI agent).
-/
import Derived.Test.YtdedpamcpgbgmaaAbOps3
import Derived.MapKept
set_option linter.all false
namespace Go.Ab
open Go.RowKit (Below)
open Go.MapKept (IsKey sameNow_of_keys run_checkKey run_findKey run_keyThatStays)

/-! ### calls by an interface -/

/-- the function of a type's method, and whether it takes a pointer -/
def ameth (P : Program) (t : TypeId) (name : String) : Option (FuncId × Bool) :=
  match P.info? t with
  | some i => match i.methods.find? (·.name == name) with
    | some m => if m.path.toList.isEmpty then m.func else none
    | none => none
  | none => none

/-- the receiver that a method gets -/
def arecv (P : Program) (σ : Store) (t : TypeId) (ptr : Bool) (a : AVal) : Option AVal :=
  match P.underlying t with
  | some (.pointer e) => if ptr then some a else aload P σ e a
  | some _ => if ptr then none else some a
  | none => none

section
variable {P : Program} {o : Oper} {α : Operand → AVal} {σ : Store} {Kk : AVal → Store → Prop}

theorem aload_ptr {κ : K} {e : TypeId} {a b : AVal} {u : Value} (h : aload P σ e a = some b) (hu : Rv κ a u) : ∃ ad, u = .pointer (some ad) := by
  unfold aload at h
  split at h
  · split at h
    · obtain ⟨b, off, vals, rfl, _⟩ := hu.roInv; exact ⟨_, rfl⟩
    · obtain ⟨b, hb, rfl⟩ := hu.refInv; exact ⟨_, rfl⟩
    · cases h
  · cases h

theorem run_chk (ad : Addr) (xt : TypeId) (a b : ByteArray) (w : World) : (Builtin.ssaWrapNilChk_ #[xt] xt #[.pointer (some ad), .string a, .string b]).run P w = .ok (.pointer (some ad)) w := rfl

theorem run_method {κ : K} (hI : Inv κ σ) {t : TypeId} {name : String} {f : FuncId} {ptr : Bool} (hm : ameth P t name = some (f, ptr)) {a r : AVal} (hr : arecv P σ t ptr a = some r) {v : Value} (hv : Rv κ a v) (n : Nat) :
    ∃ rv, (method (n + 1) t v name).run P κ.w = .ok (f, rv) κ.w ∧ Rv κ r rv := by
  unfold ameth at hm
  split at hm
  case h_2 => cases hm
  rename_i i hi
  split at hm
  case h_2 => cases hm
  rename_i m hfind
  split at hm
  case isFalse => cases hm
  rename_i hpath
  have hp : m.path.toList = [] := by simpa using hpath
  have hpe : m.path.isEmpty = true := by
    have : m.path = #[] := by apply Array.ext'; simpa using hp
    rw [this]; rfl
  unfold method
  simp only [Sem.run_bind, typeInfo, run_program, Result.andThen_ok, hi, Sem.run_pure, hfind, hp, follow, hm, hpe, if_true]
  unfold arecv at hr
  cases hu : P.underlying t with
  | none => rw [hu] at hr; cases hr
  | some d =>
    rw [hu] at hr
    unfold receiverAt
    simp only [Sem.run_bind, run_underlying hu, Result.andThen_ok]
    cases d
    case pointer e =>
      cases ptr
      · simp only [Bool.false_eq_true, if_false] at hr
        obtain ⟨ad, rfl⟩ := aload_ptr hr hv
        obtain ⟨cv, h1, h2⟩ := snd_load hI (Store.Sub.refl σ) hr hv
        refine ⟨cv, ?_, h2⟩
        have h1' : (loadVar e ad).run P κ.w = .ok cv κ.w := by simpa [Instr.loadAt, Instr.sureAddr] using h1
        simp [Place.get, asAddr, h1', strVal, run_chk]
      · simp only [if_true, Option.some.injEq] at hr
        subst hr
        exact ⟨v, by simp [Place.get], hv⟩
    all_goals
      cases ptr
      · simp only [Bool.false_eq_true, if_false, Option.some.injEq] at hr
        subst hr
        exact ⟨v, by simp [Place.get], hv⟩
      · simp at hr

theorem AOp_invoke {x : Operand} {name : String} {args : Array Operand} {ts : Array TypeId} {t : TypeId} {a r : AVal} {f : FuncId} {ptr : Bool} {as : List AVal} {Q : AVal → Store → Prop} (ho : o.op = .call { callee := .invoke x name, args := args, argTypes := ts })
    (hx : α x = .iface t a) (hm : ameth P t name = some (f, ptr)) (hr : arecv P σ t ptr a = some r) (hg : isGo P f = true) (has : r :: args.toList.map α = as) (h : ACalls P f as σ Q) (hk : ∀ v σ', Q v σ' → Kk v σ') : AOp P o α σ Kk := by
  subst has
  obtain ⟨dst, op, ty, pos, after, guard⟩ := o
  obtain rfl : op = _ := ho
  intro κ ev hI hxx
  have hvx := hxx x (by simp [Op.operands, Call.operands])
  rw [hx] at hvx
  obtain ⟨v, hev, hva⟩ : ∃ v, ev x = .iface t v ∧ Rv κ a v := by
    generalize ev x = u at hvx
    cases hvx with
    | iface _ _ v h => exact ⟨v, rfl, h⟩
  obtain ⟨rv, h1, h2⟩ := run_method hI hm hr hva (P.types.size + Made.depth - 1)
  have hfuel : P.types.size + Made.depth - 1 + 1 = P.types.size + Made.depth := by
    have : 0 < Made.depth := by decide
    omega
  rw [hfuel] at h1
  have he : (execOp ev ⟨dst, .call ⟨.invoke x name, args, ts⟩, ty, pos, after, guard⟩).run P κ.w = .ok (.enter f (#[rv] ++ args.map ev)) κ.w := by
    have hex : (#[Value.iface t v] ++ args.map ev).extract 1 (#[Value.iface t v] ++ args.map ev).size = args.map ev := by
      apply Array.ext'
      simp [List.take_of_length_le]
    have h0 : (#[Value.iface t v] ++ args.map ev)[0]? = some (Value.iface t v) := by
      rw [Array.getElem?_append_left (by simp)]; rfl
    simp only [execOp, resolve, Sem.run_bind, Sem.run_pure, Result.andThen_ok, invoke, hev]
    rw [h0, hex]
    simp only [callMethod, Sem.run_bind, run_program, Result.andThen_ok, h1]
    exact run_callFunc hg _ _
  rw [he]
  refine (h.mono hk κ (#[rv] ++ args.map ev) hI (by simp [Nat.add_comm]) fun i hi => ?_).mono fun e w' ⟨cv, q1, q2⟩ => ⟨cv, q1, q2⟩
  cases i with
  | zero =>
    have e : (#[rv] ++ args.map ev).getD 0 undef = rv := by simp [Array.getElem?_append_left]
    rw [e]; exact h2
  | succ i =>
    simp only [List.length_cons, List.length_map, Array.length_toList] at hi
    have e : (#[rv] ++ args.map ev).getD (i + 1) undef = ev (args[i]'(by omega)) := by
      simp only [Array.getD_eq_getD_getElem?]
      rw [Array.getElem?_append_right (by simp)]
      simp [show i < args.size by omega]
    rw [e]
    simp only [List.getElem_cons_succ, List.getElem_map, Array.getElem_toList]
    exact hxx _ (by simp [Op.operands, Call.operands])

/-! ### maps -/

def keyEq : Value → Value → Bool
  | .int _ x, .int _ y => decide (x = y)
  | .string x, .string y => decide (x = y)
  | .bool x, .bool y => x == y
  | _, _ => false

def kvGet (k : Value) : List (Value × AVal) → Option AVal
  | [] => none
  | e :: es => if keyEq e.1 k then some e.2 else kvGet k es
def kvPut (k : Value) (a : AVal) : List (Value × AVal) → List (Value × AVal)
  | [] => [(k, a)]
  | e :: es => if keyEq e.1 k then (k, a) :: es else e :: kvPut k a es
def kvDel (k : Value) : List (Value × AVal) → List (Value × AVal)
  | [] => []
  | e :: es => if keyEq e.1 k then es else e :: kvDel k es

theorem keyEq_iff {d : TypeDesc} {a b : Value} (ha : IsKey d a) (hb : IsKey d b) : keyEq a b = true ↔ a = b := by
  cases d <;> cases a <;> cases b <;> simp_all [IsKey, keyEq]
theorem sameNow_key {d : TypeDesc} {a b : Value} (ha : IsKey d a) (hb : IsKey d b) : Instr.sameNow d a b = some (keyEq b a) := by
  obtain ⟨r, h1, h2⟩ := sameNow_of_keys ha hb
  rw [h1]
  congr 1
  cases r with
  | true => rw [eq_comm, keyEq_iff hb ha]; exact (h2.1 rfl).symm
  | false =>
    cases hh : keyEq b a with
    | false => rfl
    | true => have := h2.2 ((keyEq_iff hb ha).1 hh).symm; cases this
theorem afindNow_key {d : TypeDesc} {k : Value} (hk : IsKey d k) : ∀ (kvs : List (Value × AVal)), (∀ x ∈ kvs, IsKey d x.1) → afindNow d k kvs = some (kvGet k kvs)
  | [], _ => rfl
  | e :: es, h => by
    unfold afindNow kvGet
    rw [sameNow_key hk (h e (List.mem_cons_self ..))]
    cases keyEq e.1 k with
    | true => rfl
    | false => exact afindNow_key hk es fun x hx => h x (List.mem_cons_of_mem _ hx)

/-- where a key stands -/
theorem find_key {κ : K} {d : TypeDesc} {k : Value} (hk : IsKey d k) : ∀ (l : List MapEntry) (q : List (Value × AVal)) (j : Nat), l.length = q.length → (∀ i (hi : i < q.length) (hj : i < l.length), l[i].key = q[i].1 ∧ Rv κ q[i].2 l[i].val) → (∀ x ∈ q, IsKey d x.1) →
    (Instr.findNow d k l j = some none ∧ (∀ a, kvPut k a q = q ++ [(k, a)]) ∧ kvDel k q = q) ∨
    ∃ i v, Instr.findNow d k l j = some (some (j + i, v)) ∧ i < l.length ∧ (∃ h : i < l.length, l[i].key = k) ∧ (∀ a, kvPut k a q = q.set i (k, a)) ∧ kvDel k q = q.eraseIdx i
  | [], q, j, hl, _, _ => by
    obtain rfl : q = [] := List.eq_nil_of_length_eq_zero hl.symm
    exact .inl ⟨rfl, fun _ => rfl, rfl⟩
  | e :: l, [], j, hl, _, _ => by simp at hl
  | e :: l, p :: q, j, hl, hq, hkeys => by
    have h0 := hq 0 (by simp) (by simp)
    simp only [List.getElem_cons_zero] at h0
    have hp := hkeys p (List.mem_cons_self ..)
    unfold Instr.findNow
    rw [h0.1, sameNow_key hk hp]
    cases hke : keyEq p.1 k with
    | true =>
      refine .inr ⟨0, e.val, by simp, by simp, ⟨by simp, ?_⟩, fun a => by simp [kvPut, hke], by simp [kvDel, hke]⟩
      simp only [List.getElem_cons_zero]
      rw [h0.1]; exact (keyEq_iff hp hk).1 hke
    | false =>
      rcases find_key hk l q (j + 1) (by simpa using hl) (fun i hi hj => by
        have := hq (i + 1) (by simpa using hi) (by simpa using hj)
        simpa using this) (fun x hx => hkeys x (List.mem_cons_of_mem _ hx)) with ⟨h1, h2, h3⟩ | ⟨i, v, h1, h2, ⟨h2', h3⟩, h4, h5⟩
      · exact .inl ⟨by simpa using h1, fun a => by simp [kvPut, hke, h2], by simp [kvDel, hke, h3]⟩
      · refine .inr ⟨i + 1, v, ?_, by simpa using h2, ⟨by simpa using h2, by simpa using h3⟩, fun a => by simp [kvPut, hke, h4], by simp [kvDel, hke, h5]⟩
        simp only [h1]
        congr 3; omega

theorem AOp_makeMap {t : TypeId} (ho : o.op = .makeMap t none) (hk : ∀ i, σ.heap i = none → Kk (.map i) (σ.set i (.map []))) : AOp P o α σ Kk := by
  obtain ⟨dst, op, ty, pos, after, guard⟩ := o
  obtain rfl : op = _ := ho
  intro κ ev hI hx
  obtain ⟨i, hi, hfree⟩ := hI.fresh
  obtain ⟨κ', hw, hle, hρ, hI'⟩ := hI.alloc i hi (.map []) (.map #[] 0) fun κ' hle hh _ => ⟨#[], 0, hh, rfl, by simp, by simp, fun j hj => by simp at hj⟩
  refine upon_v rfl ⟨.map (some κ.w.heap.size), κ.w.alloc (.map #[] 0), ?_, κ', .map i, _, hw, hle, hI', .map i _ hρ, hk i hfree⟩
  simp [Instr.makeMap]

theorem heap_setBlock {w : World} {b : Nat} {x : Obj} (y : Obj) (h : w.heap[b]? = some x) : ({ w with heap := w.heap.setIfInBounds b y } : World).heap[b]? = some y := by
  have hlt : b < w.heap.size := (Array.getElem?_eq_some_iff.1 h).1
  simp [hlt]
theorem heap_setBlock_ne {w : World} {b b' : Nat} (y : Obj) (h : b' ≠ b) : ({ w with heap := w.heap.setIfInBounds b y } : World).heap[b']? = w.heap[b']? := by
  simp [Array.getElem?_setIfInBounds_ne (Ne.symm h)]

/-- A map's object is written. -/
theorem Inv.setMap {κ : K} {σ : Store} (h : Inv κ σ) {o : Nat} {kvs kvs' : List (Value × AVal)} (ho : σ.heap o = some (.map kvs)) {b : Nat} (hb : κ.ρ o = some b) {es es' : Array MapEntry} {clock clock' : Nat} (hh : κ.w.heap[b]? = some (.map es clock))
    (hbase : κ.base ≤ b) (hIb : κ.I b = 0)
    (hn : es'.size = kvs'.length) (hborn : ∀ e ∈ es', e.born < clock') (hnd : (es'.toList.map (·.born)).Pairwise (· ≠ ·)) (hv : ∀ i (hi : i < kvs'.length) (hj : i < es'.size), es'[i].key = kvs'[i].1 ∧ Rv κ kvs'[i].2 es'[i].val) :
    κ.Le { κ with w := { κ.w with heap := κ.w.heap.setIfInBounds b (.map es' clock') } } ∧ Inv { κ with w := { κ.w with heap := κ.w.heap.setIfInBounds b (.map es' clock') } } (σ.set o (.map kvs')) := by
  have hle : κ.Le { κ with w := { κ.w with heap := κ.w.heap.setIfInBounds b (.map es' clock') } } := by
    refine ⟨rfl, ⟨rfl, rfl, rfl, by simp, fun k hk => heap_setBlock_ne _ (by omega)⟩, fun b' s e' => ?_, fun _ _ e' => e', fun _ _ e' => e', fun _ => Nat.le_refl _, fun b' off' u hi e' => ?_⟩
    · have hne : b' ≠ b := fun hh' => by
        subst hh'
        unfold World.shape? at e'
        rw [hh] at e'; cases e'
      unfold World.shape? at e' ⊢
      dsimp only
      rw [heap_setBlock_ne _ hne]; exact e'
    · have hne : b' ≠ b := fun hh' => by rw [hh', hIb] at hi; omega
      simp only [World.cell?] at e' ⊢
      rw [heap_setBlock_ne _ hne]; exact e'
  refine ⟨hle, h.step hle rfl rfl h.frO b hbase hIb (fun b' hne _ => heap_setBlock_ne _ hne) o _ (fun _ _ => rfl) hb ⟨es', clock', heap_setBlock _ hh, hn, hborn, hnd, fun i hi hj => ⟨(hv i hi hj).1, (hv i hi hj).2.mono hle⟩⟩ ?_ ?_⟩
  · intro i y hy hne hh'
    exact hne (h.inj i o _ _ b hy ho hh' hb)
  · intro t sz u ht hu hh'
    exact h.tokobj t sz u b o _ ht hu hh' ho hb

theorem AOp_mapUpdate {t kt et : TypeId} {kd : TypeDesc} {m k x : Operand} {mo : Nat} {kv : Value} {kvs : List (Value × AVal)} {a : AVal} (ho : o.op = .mapUpdate t m k x) (ht : P.underlying t = some (.map kt et)) (hkd : P.underlying kt = some kd)
    (hm : α m = .map mo) (hh : σ.heap mo = some (.map kvs)) (hkv : α k = .lit kv) (hkey : IsKey kd kv) (hkeys : ∀ x ∈ kvs, IsKey kd x.1) (hx : α x = a) (hk : Kk .any (σ.set mo (.map (kvPut kv a kvs)))) : AOp P o α σ Kk := by
  subst hx
  obtain ⟨dst, op, ty, pos, after, guard⟩ := o
  obtain rfl : op = _ := ho
  intro κ ev hI hxx
  have hvm := hxx m (by simp [Op.operands])
  have hvk := hxx k (by simp [Op.operands])
  have hvx := hxx x (by simp [Op.operands])
  rw [hm] at hvm
  rw [hkv] at hvk
  have hek := hvk.litInv
  obtain ⟨b, hb, hbase, hIb, es, clock, hheap, hn, hborn, hnd, hall⟩ := hI.heap mo _ hh
  have hem : ev m = .map (some b) := by
    generalize ev m = u at hvm
    cases hvm with
    | map _ b' hb' => rw [hb] at hb'; obtain rfl := Option.some.inj hb'; rfl
  have hlist : ∀ i (hi : i < kvs.length) (hj : i < es.toList.length), es.toList[i].key = kvs[i].1 ∧ Rv κ kvs[i].2 es.toList[i].val := fun i hi hj => by simpa using hall i hi (by simpa using hj)
  have hfind := find_key hkey es.toList kvs 0 (by simpa using hn) hlist hkeys
  have hck : (Instr.checkKey false 10000 kt kv).run P κ.w = .ok () κ.w := run_checkKey hkd hkey _ _
  rcases hfind with ⟨h1, h2, _⟩ | ⟨i, v, h1, h2, ⟨h2', h3⟩, h4, _⟩
  · obtain ⟨hle, hI'⟩ := hI.setMap hh hb hheap hbase hIb (es' := es.push { key := kv, val := ev x, born := clock }) (clock' := clock + 1) (kvs' := kvs ++ [(kv, α x)]) (by simp [hn]) (by
        intro e he
        rcases Array.mem_push.1 he with he | rfl
        · exact Nat.lt_succ_of_lt (hborn e he)
        · exact Nat.lt_succ_self _) (by
        simp only [Array.toList_push, List.map_append, List.map_cons, List.map_nil]
        refine List.pairwise_append.2 ⟨hnd, List.pairwise_singleton _ _, fun y hy z hz => ?_⟩
        obtain rfl := List.mem_singleton.1 hz
        obtain ⟨e, he, rfl⟩ := List.mem_map.1 hy
        exact Nat.ne_of_lt (hborn e (by simpa using he))) (by
        intro j hj hj'
        by_cases hlt : j < es.size
        · rw [Array.getElem_push_lt hlt, List.getElem_append_left (by omega)]
          exact hall j (by omega) hlt
        · have : j = es.size := by simp at hj'; omega
          subst this
          rw [Array.getElem_push_eq, List.getElem_append_right (by omega)]
          simp only [hn, Nat.sub_self, List.getElem_cons_zero]
          exact ⟨trivial, hvx⟩)
    refine upon_u (s := Instr.mapUpdate t (ev m) (ev k) (ev x)) rfl ⟨_, ?_, _, .any, _, rfl, hle, hI', .any _, by rw [← h2]; exact hk⟩
    rw [hem, hek]
    unfold Instr.mapUpdate
    simp only [Sem.run_bind, run_underlying ht, Result.andThen_ok, Go.MapKept.run_getObj_map hheap, hck, run_findKey hkd h1, Go.MapKept.run_setObj_map _ hheap]
  · rw [Nat.zero_add] at h1
    have hi : i < es.size := by simpa using h2
    have hkeep : (Instr.keyThatStays (((es[i]?).map (·.key)).getD kv) kv).run P κ.w = .ok kv κ.w := by
      have : ((es[i]?).map (·.key)).getD kv = kv := by
        simp only [Array.getElem?_eq_getElem hi, Option.map_some, Option.getD_some]
        simpa using h3
      rw [this]
      exact run_keyThatStays hkey
    obtain ⟨hle, hI'⟩ := hI.setMap hh hb hheap hbase hIb (es' := es.modify i fun e => { e with key := kv, val := ev x }) (clock' := clock) (kvs' := kvs.set i (kv, α x)) (by simp [hn]) (by
        intro e he
        obtain ⟨j, hj, rfl⟩ := Array.getElem_of_mem he
        have hj' : j < es.size := by simpa using hj
        have hb0 := hborn es[j] (Array.getElem_mem _)
        rw [Array.getElem_modify]
        split
        · exact hb0
        · exact hb0) (by
        have : ((es.modify i fun e => { e with key := kv, val := ev x }).toList.map (·.born)) = es.toList.map (·.born) := by
          apply List.ext_getElem (by simp)
          intro j h1 h2
          simp only [List.getElem_map, Array.getElem_toList, Array.getElem_modify]
          split <;> rfl
        rw [this]; exact hnd) (by
        intro j hj hj'
        rw [Array.getElem_modify, List.getElem_set]
        split
        · exact ⟨rfl, hvx⟩
        · exact hall j (by simpa using hj) _)
    refine upon_u (s := Instr.mapUpdate t (ev m) (ev k) (ev x)) rfl ⟨_, ?_, _, .any, _, rfl, hle, hI', .any _, by rw [← h4]; exact hk⟩
    rw [hem, hek]
    unfold Instr.mapUpdate
    simp only [Sem.run_bind, run_underlying ht, Result.andThen_ok, Go.MapKept.run_getObj_map hheap, hck, run_findKey hkd h1, hkeep, Go.MapKept.run_setObj_map _ hheap]

theorem AOp_delete {t t2 kt et : TypeId} {kd : TypeDesc} {m k : Operand} {mo : Nat} {kv : Value} {kvs : List (Value × AVal)} (ho : o.op = .call { callee := .builtin .delete, args := #[m, k], argTypes := #[t, t2] }) (ht : P.underlying t = some (.map kt et)) (hkd : P.underlying kt = some kd)
    (hm : α m = .map mo) (hh : σ.heap mo = some (.map kvs)) (hkv : α k = .lit kv) (hkey : IsKey kd kv) (hkeys : ∀ x ∈ kvs, IsKey kd x.1) (hk : Kk (.tup []) (σ.set mo (.map (kvDel kv kvs)))) : AOp P o α σ Kk := by
  obtain ⟨dst, op, ty, pos, after, guard⟩ := o
  obtain rfl : op = _ := ho
  intro κ ev hI hxx
  have hvm := hxx m (by simp [Op.operands, Call.operands])
  have hvk := hxx k (by simp [Op.operands, Call.operands])
  rw [hm] at hvm
  rw [hkv] at hvk
  have hek := hvk.litInv
  obtain ⟨b, hb, hbase, hIb, es, clock, hheap, hn, hborn, hnd, hall⟩ := hI.heap mo _ hh
  have hem : ev m = .map (some b) := by
    generalize ev m = u at hvm
    cases hvm with
    | map _ b' hb' => rw [hb] at hb'; obtain rfl := Option.some.inj hb'; rfl
  have hlist : ∀ i (hi : i < kvs.length) (hj : i < es.toList.length), es.toList[i].key = kvs[i].1 ∧ Rv κ kvs[i].2 es.toList[i].val := fun i hi hj => by simpa using hall i hi (by simpa using hj)
  have hfind := find_key hkey es.toList kvs 0 (by simpa using hn) hlist hkeys
  have hck : ∀ e, (Instr.checkKey e 10000 kt kv).run P κ.w = .ok () κ.w := fun e => run_checkKey hkd hkey _ _
  rcases hfind with ⟨h1, _, h2⟩ | ⟨i, v, h1, h2, _, _, h5⟩
  · obtain ⟨hle, hI'⟩ := hI.setMap hh hb hheap hbase hIb (es' := es) (clock' := clock) (kvs' := kvs) hn hborn hnd hall
    refine upon_v (s := Builtin.delete_ #[t, t2] ty #[ev m, ev k]) (by simp [execOp, resolve, invoke, builtin]) ⟨.tuple #[], _, ?_, _, .tup [], _, rfl, hle, hI', .tup [] _ rfl (fun i hi => by simp at hi), by rw [h2] at hk; exact hk⟩
    rw [hem, hek]
    unfold Builtin.delete_
    simp [run_underlying ht, Go.MapKept.run_getObj_map hheap, hck, run_findKey hkd h1, Go.MapKept.run_setObj_map _ hheap, Result.andThen]
  · rw [Nat.zero_add] at h1
    have hi : i < es.size := by simpa using h2
    have hsub : (es.eraseIdxIfInBounds i).toList = es.toList.eraseIdx i := by simp [Array.eraseIdxIfInBounds, hi]
    obtain ⟨hle, hI'⟩ := hI.setMap hh hb hheap hbase hIb (es' := es.eraseIdxIfInBounds i) (clock' := clock) (kvs' := kvs.eraseIdx i) (by
        rw [← Array.length_toList, hsub, List.length_eraseIdx, List.length_eraseIdx]; simp [hn]) (by
        intro e he
        have : e ∈ (es.eraseIdxIfInBounds i).toList := Array.mem_toList_iff.2 he
        rw [hsub] at this
        exact hborn e (Array.mem_toList_iff.1 ((List.eraseIdx_sublist _ _).subset this))) (by
        rw [hsub]; exact hnd.sublist ((List.eraseIdx_sublist _ _).map _)) (by
        intro j hj hj'
        have hjj : j < (es.toList.eraseIdx i).length := by rw [← hsub, Array.length_toList]; exact hj'
        have e1 : (es.eraseIdxIfInBounds i)[j] = (es.toList.eraseIdx i)[j] := by
          have : (es.eraseIdxIfInBounds i).toList[j]? = (es.toList.eraseIdx i)[j]? := by rw [hsub]
          rw [List.getElem?_eq_getElem hjj, List.getElem?_eq_getElem (by rw [Array.length_toList]; exact hj'), Array.getElem_toList] at this
          exact Option.some.inj this
        rw [e1, List.getElem_eraseIdx, List.getElem_eraseIdx]
        split
        · exact hlist j _ _
        · exact hlist (j + 1) _ _)
    refine upon_v (s := Builtin.delete_ #[t, t2] ty #[ev m, ev k]) (by simp [execOp, resolve, invoke, builtin]) ⟨.tuple #[], _, ?_, _, .tup [], _, rfl, hle, hI', .tup [] _ rfl (fun i hi => by simp at hi), by rw [h5] at hk; exact hk⟩
    rw [hem, hek]
    unfold Builtin.delete_
    simp [run_underlying ht, Go.MapKept.run_getObj_map hheap, hck, run_findKey hkd h1, Go.MapKept.run_setObj_map _ hheap, Result.andThen]

end
end Go.Ab
