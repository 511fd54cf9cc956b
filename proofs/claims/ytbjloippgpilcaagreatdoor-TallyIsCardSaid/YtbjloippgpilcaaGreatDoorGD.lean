/-
  BYTES: a string's bytes as a slice; append to a slice that has no room (or to nil), of a slice's elements or a string's bytes; append of a string's bytes to a slice of one's own; INTERFACES, MAPS, SLICES THAT ARE WRITTEN: calls by an interface; maps made, written, taken from; append to a slice whose cells are written, too; SLICES THAT ARE WRITTEN: append to a slice into an object (its name goes to a new one); A REGION THAT DRAWS ITS ORDER, over abstract states: one walk in an order of one's choice serves every order, if (checked by the kernel) each operation that only looks is taken as soon as it may be, every other one alone when nothing else is ready, and the last ones wait for all others. Own work (an AI agent).
-/
import Derived.Test.YtbjloippgpilcaaGreatDoorGC
import Derived.Laws.IdiomStrings
import Derived.Deep.AppendSrc
import Derived.MapKept

section
set_option linter.all false
namespace Go.Ab
open Go.RowKit (Below)

/-- a string's bytes, as elements -/
def bytesL (s : ByteArray) : List AVal := s.data.toList.map fun b => .lit (.int .u8 b.toNat)

theorem bytesL_length (s : ByteArray) : (bytesL s).length = s.size := by
  unfold bytesL
  rw [List.length_map, Array.length_toList]
  rfl
theorem bytesL_cells (s : ByteArray) : ∀ x ∈ bytesL s, x.cells.length = 1 := by
  intro x hx
  obtain ⟨b, _, rfl⟩ := List.mem_map.1 hx
  rfl
theorem bytesL_ones (s : ByteArray) : ∀ y ∈ bytesL s, ∀ c ∈ y.cells, c.one = true := by
  intro x hx c hc
  obtain ⟨b, _, rfl⟩ := List.mem_map.1 hx
  obtain rfl : c = _ := List.mem_singleton.1 hc
  rfl
theorem bytesL_append (s t : ByteArray) : bytesL s ++ bytesL t = bytesL (s ++ t) := by
  unfold bytesL
  rw [← List.map_append]
  have : (s ++ t).data = s.data ++ t.data := ByteArray.data_append ..
  rw [this, Array.toList_append]
theorem bytesL_empty : bytesL ByteArray.empty = [] := rfl
theorem flat_bytesL (s : ByteArray) : flat (bytesL s) = bytesL s := by
  unfold bytesL flat
  induction s.data.toList with
  | nil => rfl
  | cons b l ih => simpa [AVal.cells] using ih
theorem numsOf_bytesL (s : ByteArray) : numsOf (bytesL s) = some (s.data.toList.map fun b => (b.toNat : Int)) := by
  unfold bytesL
  induction s.data.toList with
  | nil => rfl
  | cons b l ih => simp only [List.map_cons, numsOf, ih, Option.map_some]
theorem strOf_bytes (s : ByteArray) : strOf (s.data.toList.map fun b => (b.toNat : Int)) = s := by
  unfold strOf
  rw [foldl_push_byteCells]
  cases s with
  | mk d =>
    simp [ByteArray.empty, ByteArray.emptyWithCapacity]
    try rfl
theorem astringOf_sl (s : ByteArray) (t : Bool) : astringOf (.sl 1 (bytesL s) t) = some (.lit (.string s)) := by
  simp [astringOf, slOf, numsOf_bytesL, strOf_bytes]
theorem astringOf_own (s : ByteArray) (k : Nat) : astringOf (.own k 1 (bytesL s)) = some (.lit (.string s)) := by
  simp [astringOf, slOf, numsOf_bytesL, strOf_bytes]
theorem astringOf_nil : astringOf (.lit (.slice none 0 0)) = some (.lit (.string ByteArray.empty)) := rfl
theorem bytesL_take_drop (s : ByteArray) (l h : Nat) : ((bytesL s).take h).drop l = bytesL (s.extract l h) := by
  unfold bytesL
  rw [← List.map_take, ← List.map_drop]
  congr 1
  have : (s.extract l h).data = s.data.extract l h := ByteArray.data_extract ..
  rw [this, Array.toList_extract]
  simp [List.extract_eq_drop_take, List.drop_take]

theorem bytesL_take (s : ByteArray) (h : Nat) : (bytesL s).take h = bytesL (s.extract 0 h) := by
  have := bytesL_take_drop s 0 h
  rwa [List.drop_zero] at this
theorem extract_all (s : ByteArray) : s.extract 0 s.size = s := by
  apply ByteArray.ext
  have : (s.extract 0 s.size).data = s.data.extract 0 s.size := ByteArray.data_extract ..
  rw [this]
  exact Array.extract_size

theorem RvC.byteCells {κ : K} (s : ByteArray) : RvC κ (bytesL s) (byteCells s) :=
  ⟨by rw [bytesL_length, byteCells_length], fun i hi hj => by
    simp only [bytesL, Go.byteCells, List.getElem_map]
    exact .lit _⟩

section
variable {P : Program} {o : Oper} {α : Operand → AVal} {σ : Store} {Kk : AVal → Store → Prop}

/-- a new block that is never written again -/
theorem new_imm {κ : K} (hI : Inv κ σ) {w1 : World} (hw1 : w1 = κ.w ∨ w1 = κ.w.drew) (x : Obj) (n : Nat) :
    ∃ κ' : K, κ'.w = w1.alloc x ∧ κ.Le κ' ∧ κ'.I κ.w.heap.size = n ∧ Inv κ' σ := by
  have hh : w1.heap = κ.w.heap := by rcases hw1 with rfl | rfl <;> rfl
  have hle : κ.Le { κ with w := w1.alloc x, I := fun b => if b = κ.w.heap.size then n else κ.I b } := by
    refine ⟨rfl, ?_, fun b s h => ?_, fun _ _ h => h, fun _ _ h => h, fun b => ?_, fun b off v _ hv => ?_, by rcases hw1 with rfl | rfl; exact Nat.le_refl _; exact Nat.le_succ _⟩
    · rcases hw1 with rfl | rfl
      · exact (Below.refl _ _).alloc hI.base _
      · exact ((Below.refl _ _).drew).alloc hI.base _
    · rcases hw1 with rfl | rfl
      · exact shape?_alloc_old κ.w _ b s h
      · exact shape?_alloc_old κ.w.drew _ b s h
    · show _ ≤ (if b = _ then _ else _)
      split
      · rename_i hh; subst hh; rw [hI.frI _ (Nat.le_refl _)]; exact Nat.zero_le _
      · exact Nat.le_refl _
    · rcases hw1 with rfl | rfl
      · exact cell?_alloc_old' κ.w _ b off v hv
      · exact cell?_alloc_old' κ.w.drew _ b off v hv
  refine ⟨{ κ with w := w1.alloc x, I := fun b => if b = κ.w.heap.size then n else κ.I b }, rfl, hle, by simp, hI.quiet hle rfl rfl (fun b hb => ?_) (fun b hb => ?_) (fun b hb => ?_)⟩
  · show (if b = _ then _ else _) = _
    rw [if_neg (by omega)]
  · show (if b = _ then _ else _) = _
    have hb' : κ.w.heap.size + 1 ≤ b := by simpa [hh] using hb
    rw [if_neg (by omega)]
    exact hI.frI b (by omega)
  · rcases hw1 with rfl | rfl
    · exact Below.heap_alloc κ.w _ b hb
    · exact Below.heap_alloc κ.w.drew _ b hb

/-- '[]byte(s)' -/
theorem AOp_bytesOf {src dst e : TypeId} {x : Operand} {s : ByteArray} (ho : o.op = .convert src dst x) (hs : P.underlying src = some .string) (hd : P.underlying dst = some (.slice e)) (he : P.underlying e = some (.int .u8)) (hx : α x = .lit (.string s))
    (hk : Kk (.sl 1 (bytesL s) false) σ) : AOp P o α σ Kk := by
  obtain ⟨dst', op, ty, pos, after, guard⟩ := o
  obtain rfl : op = .convert src dst x := ho
  intro κ ev hI hxx
  have hv := hxx x (by simp [Op.operands])
  rw [hx] at hv
  have hv' := hv.litInv
  have hr := run_bytes_of_string (P := P) κ.w src dst e s hs hd he
  obtain ⟨κ', hw, hle, hIb, hI'⟩ := new_imm hI (.inr rfl) (.cells (bytesRow s (grownCap κ.w s.size 0 e)) e ((bytesRow s (grownCap κ.w s.size 0 e)).size, (bytesRow s (grownCap κ.w s.size 0 e)).size + 1)) s.size
  refine upon_v (s := Go.convert src dst (ev x)) rfl ⟨_, _, by rw [hv']; exact hr, κ', _, σ, hw, hle, hI', ?_, hk⟩
  have hge := grownCap_ge κ.w s.size 0 e
  have := Rv.sl (κ := κ') 1 (bytesL s) false κ.w.heap.size 0 (grownCap κ.w s.size 0 e) (fun k => (byteCells s).getD k undef) (by rw [bytesL_length]; exact hge) (by simp) (bytesL_cells s)
    (fun k hk => by
      rw [flat_bytesL, bytesL_length] at hk
      rw [hIb, hw]
      refine ⟨by omega, ?_⟩
      show (κ.w.drew.alloc _).cell? ⟨κ.w.drew.heap.size, _, none⟩ = _
      rw [cell_of_row _ _ _ _ _ _ (heap_alloc_new κ.w.drew _)]
      have h1 : k < (s.data.map fun b => Value.int .u8 b.toNat).size := by simpa using hk
      rw [Nat.zero_add, bytesRow, Array.getElem?_append_left h1]
      have h2 : k < (byteCells s).length := by rw [byteCells_length]; exact hk
      simp only [Array.getElem?_map, List.getD, List.getElem?_eq_getElem h2, Option.getD_some]
      simp only [Go.byteCells, List.getElem_map, Array.getElem_toList]
      have h3 : k < s.data.size := by simpa using h1
      rw [Array.getElem?_eq_getElem h3]
      rfl)
    (fun k hk => by
      have hk' := hk
      rw [flat_bytesL, bytesL_length] at hk'
      have h2 : k < (byteCells s).length := by rw [byteCells_length]; exact hk'
      have := (RvC.byteCells (κ := κ') s).2 k (by rw [bytesL_length]; exact hk') h2
      simp only [flat_bytesL]
      simpa [h2] using this)
  rwa [bytesL_length] at this

/-- what a second argument of append yields -/
def ASrc (P : Program) (sz : Nat) (tx : TypeId) (x : AVal) (l2 : List AVal) : Prop :=
  ((∃ e', P.underlying tx = some (.slice e')) ∧ (slOf x = some (sz, l2) ∨ (x = .lit (.slice none 0 0) ∧ l2 = [])) ∧ ∀ y ∈ l2, ∀ c ∈ y.cells, c.one = true) ∨
  (P.underlying tx = some .string ∧ sz = 1 ∧ ∃ s, x = .lit (.string s) ∧ l2 = bytesL s)

theorem ASrc.spec {κ : K} {sz : Nat} {tx : TypeId} {x : AVal} {l2 : List AVal} {v : Value} (h : ASrc P sz tx x l2) (hr : Rv κ x v) :
    ∃ news, (∀ y ∈ l2, y.cells.length = sz) ∧ RvC κ (flat l2) news ∧ Src P sz tx v l2.length news κ.w := by
  rcases h with ⟨⟨e', hk⟩, hx, hone⟩ | ⟨hk, rfl, s, rfl, rfl⟩
  · have key : ∃ a cap us, v = .slice a l2.length cap ∧ (∀ y ∈ l2, y.cells.length = sz) ∧ RvC κ (flat l2) us ∧ ((a = none ∧ l2 = [] ∧ cap = 0) ∨ ∃ ad : Addr, a = some ad ∧ ∀ j u, us[j]? = some u → κ.w.cell? (ad.add j) = some u) := by
      rcases hx with hx | ⟨rfl, rfl⟩
      · exact sl_vals (slOf_rv hx hr)
      · exact ⟨none, 0, [], hr.litInv, by simp, .nil, .inl ⟨rfl, rfl, rfl⟩⟩
    obtain ⟨a, cap, us, rfl, hsz, hrc, hc⟩ := key
    have hl : us.length = l2.length * sz := by rw [← hrc.1, flat_length hsz]
    have hones : ∀ u ∈ us, u.oneCell' = true := by
      intro u hu
      obtain ⟨j, hj, rfl⟩ := List.getElem_of_mem hu
      have hj' : j < (flat l2).length := by rw [hrc.1]; exact hj
      refine ((hrc.2 j hj' hj).one ?_).1
      have : (flat l2)[j] ∈ flat l2 := List.getElem_mem hj'
      unfold flat at this
      obtain ⟨y, hy, hc⟩ := List.mem_flatMap.1 this
      exact hone y hy _ hc
    rcases hc with ⟨rfl, rfl, rfl⟩ | ⟨ad, rfl, hcu⟩
    · obtain rfl : us = [] := List.eq_nil_of_length_eq_zero (by simpa using hl)
      exact ⟨[], hsz, hrc, Src.ofNil κ.w hk 0⟩
    · exact ⟨us, hsz, hrc, Src.ofSlice κ.w hk ad l2.length cap us hl hcu hones⟩
  · obtain rfl := hr.litInv
    refine ⟨byteCells s, bytesL_cells s, by rw [flat_bytesL]; exact RvC.byteCells s, ?_⟩
    rw [bytesL_length]
    exact Src.ofString κ.w hk s

/-- append to a slice that has no room -/
theorem AOp_appendTight {s x : Operand} {t tx e : TypeId} {sz by_ : Nat} {l l2 : List AVal}
    (ho : o.op = .call { callee := .builtin .append, args := #[s, x], argTypes := #[t, tx] }) (hse : sliceElem P t = some e) (hte : appInfo P e = some (sz, by_))
    (hs : α s = .sl sz l true ∨ (α s = .lit (.slice none 0 0) ∧ l = [])) (hx : ASrc P sz tx (α x) l2) (hlen : (l.length + l2.length) * by_ ≤ 140737488355328)
    (hk : Kk (.sl sz (l ++ l2) false) σ) : AOp P o α σ Kk := by
  obtain ⟨dst, op, ty, pos, after, guard⟩ := o
  obtain rfl : op = .call { callee := .builtin .append, args := #[s, x], argTypes := #[t, tx] } := ho
  intro κ ev hI hxx
  obtain ⟨i, z, hi, hz, hisz, hiby, hzs, hsz, hby⟩ := appInfo_spec hte
  have hts : P.underlying t = some (.slice e) := by
    unfold sliceElem at hse
    split at hse
    · rename_i e' he'; obtain rfl := Option.some.inj hse; exact he'
    · cases hse
  have hvs : Rv κ (.sl sz l true) (ev s) := by
    have := hxx s (by simp [Op.operands, Call.operands])
    rcases hs with hs | ⟨hs, rfl⟩
    · rwa [hs] at this
    · rw [hs] at this
      rw [this.litInv]
      exact .slNil _ _
  obtain ⟨news, hl2sz, hnr, hsrc⟩ := hx.spec (hxx x (by simp [Op.operands, Call.operands]))
  have hle47 : l.length + l2.length ≤ 140737488355328 := Nat.le_trans (Nat.le_mul_of_pos_right _ hby) hlen
  obtain ⟨a, us, hev, hlsz, hus, hac⟩ : ∃ a us, ev s = .slice a l.length l.length ∧ (∀ y ∈ l, y.cells.length = sz) ∧ RvC κ (flat l) us ∧ ((a = none ∧ l = []) ∨ ∃ ad : Addr, a = some ad ∧ ∀ j u, us[j]? = some u → κ.w.cell? (ad.add j) = some u) := by
    obtain ⟨a, cap, us, hev, h1, h2, h3⟩ := sl_vals (hvs.wk (.sl1 ..))
    have hcap : cap = l.length := by
      rcases hvs.slInv with ⟨a', e1, e2⟩ | ⟨b, off, cap', vals, e1, _, e2, _⟩
      · subst e2; rw [hev] at e1; simp at e1; simp [e1.2]
      · rw [hev] at e1; simp at e1; have := e2 rfl; omega
    subst hcap
    exact ⟨a, us, hev, h1, h2, h3.imp (fun h => ⟨h.1, h.2.1⟩) id⟩
  by_cases hm : l2.length = 0
  · obtain rfl : l2 = [] := List.eq_nil_of_length_eq_zero hm
    have hr := run_append_zero (P := P) (ty := ty) hts hi hisz hsrc a l.length l.length (Nat.le_refl _)
    rw [← hev] at hr
    rw [List.append_nil] at hk
    exact upon_v (s := Builtin.append_ #[t, tx] ty #[ev s, ev x]) (by simp [execOp, resolve, invoke, builtin]) ⟨_, _, hr, κ, _, σ, rfl, .refl κ, hI, hvs.wk (.sl1 ..), hk⟩
  · have hul : us.length = l.length * sz := by rw [← hus.1, flat_length hlsz]
    have hold : (Builtin.firstCells i.size l.length (.slice a l.length l.length)).run P κ.w.drew = .ok us.toArray κ.w.drew := by
      rcases hac with ⟨rfl, rfl⟩ | ⟨ad, rfl, hcu⟩
      · obtain rfl : us = [] := List.eq_nil_of_length_eq_zero (by simpa using hul)
        exact run_firstCells_none κ.w.drew i.size 0 0 0
      · exact run_firstCells_some κ.w.drew i.size l.length ad l.length l.length us (by rw [hisz]; exact hul) (by simpa using hcu)
    have hr := run_append_grow_src (P := P) κ.w t tx ty e i z hts hi hz a l.length l.length us hold (ev x) l2.length news (by rw [hisz]; exact hsrc) (by omega) (by omega) (growslice_fits (by omega) (by rw [hiby]; exact hlen))
    rw [← hev] at hr
    have hge := grownCap_ge κ.w (l.length + l2.length) l.length e
    obtain ⟨κ', hw, hle, hIb, hI'⟩ := new_imm hI (.inr rfl) (.cells ((us ++ news).toArray ++ Builtin.zeroCells z.cells (grownCap κ.w (l.length + l2.length) l.length e - (l.length + l2.length))) e) ((l.length + l2.length) * sz)
    have hszall : ∀ y ∈ l ++ l2, y.cells.length = sz := fun y hy => (List.mem_append.1 hy).elim (hlsz y) (hl2sz y)
    have hrc : RvC κ' (flat (l ++ l2)) (us ++ news) := by rw [flat_append]; exact (hus.mono hle).append (hnr.mono hle)
    have hfl : (flat (l ++ l2)).length = (l.length + l2.length) * sz := by rw [flat_length hszall, List.length_append]
    refine upon_v (s := Builtin.append_ #[t, tx] ty #[ev s, ev x]) (by simp [execOp, resolve, invoke, builtin]) ⟨_, _, hr, κ', _, σ, hw, hle, hI', ?_, hk⟩
    have := Rv.sl (κ := κ') sz (l ++ l2) false κ.w.heap.size 0 (grownCap κ.w (l.length + l2.length) l.length e) (fun k => (us ++ news).getD k undef) (by rw [List.length_append]; exact hge) (by simp) hszall
      (fun k hk => by
        have hk1 : k < (us ++ news).length := by rw [← hrc.1]; exact hk
        rw [hIb, hw]
        refine ⟨by omega, ?_⟩
        show (κ.w.drew.alloc _).cell? ⟨κ.w.drew.heap.size, _, none⟩ = _
        rw [cell_of_row _ _ _ _ _ _ (heap_alloc_new κ.w.drew _), Nat.zero_add, Array.getElem?_append_left (by simpa using hk1), List.getElem?_toArray, List.getD_eq_getElem?_getD, List.getElem?_eq_getElem hk1]
        rfl)
      (fun k hk => by
        have hk1 : k < (us ++ news).length := by rw [← hrc.1]; exact hk
        have := hrc.2 k hk hk1
        rw [List.getD_eq_getElem?_getD, List.getElem?_eq_getElem hk1]
        exact this)
    rwa [List.length_append] at this

end

end Go.Ab
end

section
set_option linter.all false
namespace Go.Ab
open Go.RowKit (Below)
open Go.MapKept (IsKey sameNow_of_keys run_checkKey run_findKey run_keyThatStays)

/-! ### calls by an interface -/

/-- the function of a type's method, and whether it takes a pointer -/
def ameth (P : Program) (t : TypeId) (name : String) : Option (FuncId × Bool) :=
  match P.info? t with
  | some i => match i.methods.find? (·.name == name) with
    | some m => if m.path.toList.isEmpty then m.func else none
    | none => none
  | none => none

/-- the receiver that a method gets -/
def arecv (P : Program) (σ : Store) (t : TypeId) (ptr : Bool) (a : AVal) : Option AVal :=
  match P.underlying t with
  | some (.pointer e) => if ptr then some a else aload P σ e a
  | some _ => if ptr then none else some a
  | none => none

section
variable {P : Program} {o : Oper} {α : Operand → AVal} {σ : Store} {Kk : AVal → Store → Prop}

theorem aload_ptr {κ : K} {e : TypeId} {a b : AVal} {u : Value} (h : aload P σ e a = some b) (hu : Rv κ a u) : ∃ ad, u = .pointer (some ad) := by
  unfold aload at h
  split at h
  · split at h
    · obtain ⟨b, off, vals, rfl, _⟩ := hu.roInv; exact ⟨_, rfl⟩
    · obtain ⟨b, hb, rfl⟩ := hu.refInv; exact ⟨_, rfl⟩
    · cases h
  · cases h

theorem run_chk (ad : Addr) (xt : TypeId) (a b : ByteArray) (w : World) : (Builtin.ssaWrapNilChk_ #[xt] xt #[.pointer (some ad), .string a, .string b]).run P w = .ok (.pointer (some ad)) w := rfl

theorem run_method {κ : K} (hI : Inv κ σ) {t : TypeId} {name : String} {f : FuncId} {ptr : Bool} (hm : ameth P t name = some (f, ptr)) {a r : AVal} (hr : arecv P σ t ptr a = some r) {v : Value} (hv : Rv κ a v) (n : Nat) :
    ∃ rv, (method (n + 1) t v name).run P κ.w = .ok (f, rv) κ.w ∧ Rv κ r rv := by
  unfold ameth at hm
  split at hm
  case h_2 => cases hm
  rename_i i hi
  split at hm
  case h_2 => cases hm
  rename_i m hfind
  split at hm
  case isFalse => cases hm
  rename_i hpath
  have hp : m.path.toList = [] := by simpa using hpath
  have hpe : m.path.isEmpty = true := by
    have : m.path = #[] := by apply Array.ext'; simpa using hp
    rw [this]; rfl
  unfold method
  simp only [Sem.run_bind, typeInfo, run_program, Result.andThen_ok, hi, Sem.run_pure, hfind, hp, follow, hm, hpe, if_true]
  unfold arecv at hr
  cases hu : P.underlying t with
  | none => rw [hu] at hr; cases hr
  | some d =>
    rw [hu] at hr
    unfold receiverAt
    simp only [Sem.run_bind, run_underlying hu, Result.andThen_ok]
    cases d
    case pointer e =>
      cases ptr
      · simp only [Bool.false_eq_true, if_false] at hr
        obtain ⟨ad, rfl⟩ := aload_ptr hr hv
        obtain ⟨cv, h1, h2⟩ := snd_load hI (Store.Sub.refl σ) hr hv
        refine ⟨cv, ?_, h2⟩
        have h1' : (loadVar e ad).run P κ.w = .ok cv κ.w := by simpa [Instr.loadAt, Instr.sureAddr] using h1
        simp [Place.get, asAddr, h1', strVal, run_chk]
      · simp only [if_true, Option.some.injEq] at hr
        subst hr
        exact ⟨v, by simp [Place.get], hv⟩
    all_goals
      cases ptr
      · simp only [Bool.false_eq_true, if_false, Option.some.injEq] at hr
        subst hr
        exact ⟨v, by simp [Place.get], hv⟩
      · simp at hr

theorem AOp_invoke {x : Operand} {name : String} {args : Array Operand} {ts : Array TypeId} {t : TypeId} {a r : AVal} {f : FuncId} {ptr : Bool} {as : List AVal} {Q : AVal → Store → Prop} (ho : o.op = .call { callee := .invoke x name, args := args, argTypes := ts })
    (hx : α x = .iface t a) (hm : ameth P t name = some (f, ptr)) (hr : arecv P σ t ptr a = some r) (hg : isGo P f = true) (has : r :: args.toList.map α = as) (h : ACalls P f as σ Q) (hk : ∀ v σ', Q v σ' → Kk v σ') : AOp P o α σ Kk := by
  subst has
  obtain ⟨dst, op, ty, pos, after, guard⟩ := o
  obtain rfl : op = _ := ho
  intro κ ev hI hxx
  have hvx := hxx x (by simp [Op.operands, Call.operands])
  rw [hx] at hvx
  obtain ⟨v, hev, hva⟩ : ∃ v, ev x = .iface t v ∧ Rv κ a v := by
    generalize ev x = u at hvx
    cases hvx with
    | iface _ _ v h => exact ⟨v, rfl, h⟩
  obtain ⟨rv, h1, h2⟩ := run_method hI hm hr hva (P.types.size + Made.depth - 1)
  have hfuel : P.types.size + Made.depth - 1 + 1 = P.types.size + Made.depth := by
    have : 0 < Made.depth := by decide
    omega
  rw [hfuel] at h1
  have he : (execOp ev ⟨dst, .call ⟨.invoke x name, args, ts⟩, ty, pos, after, guard⟩).run P κ.w = .ok (.enter f (#[rv] ++ args.map ev)) κ.w := by
    have hex : (#[Value.iface t v] ++ args.map ev).extract 1 (#[Value.iface t v] ++ args.map ev).size = args.map ev := by
      apply Array.ext'
      simp [List.take_of_length_le]
    have h0 : (#[Value.iface t v] ++ args.map ev)[0]? = some (Value.iface t v) := by
      rw [Array.getElem?_append_left (by simp)]; rfl
    simp only [execOp, resolve, Sem.run_bind, Sem.run_pure, Result.andThen_ok, invoke, hev]
    rw [h0, hex]
    simp only [callMethod, Sem.run_bind, run_program, Result.andThen_ok, h1]
    exact run_callFunc hg _ _
  rw [he]
  refine (h.mono hk κ (#[rv] ++ args.map ev) hI (by simp [Nat.add_comm]) fun i hi => ?_).mono fun e w' ⟨cv, q1, q2⟩ => ⟨cv, q1, q2⟩
  cases i with
  | zero =>
    have e : (#[rv] ++ args.map ev).getD 0 undef = rv := by simp [Array.getElem?_append_left]
    rw [e]; exact h2
  | succ i =>
    simp only [List.length_cons, List.length_map, Array.length_toList] at hi
    have e : (#[rv] ++ args.map ev).getD (i + 1) undef = ev (args[i]'(by omega)) := by
      simp only [Array.getD_eq_getD_getElem?]
      rw [Array.getElem?_append_right (by simp)]
      simp [show i < args.size by omega]
    rw [e]
    simp only [List.getElem_cons_succ, List.getElem_map, Array.getElem_toList]
    exact hxx _ (by simp [Op.operands, Call.operands])

/-! ### maps -/

def keyEq : Value → Value → Bool
  | .int _ x, .int _ y => decide (x = y)
  | .string x, .string y => decide (x = y)
  | .bool x, .bool y => x == y
  | _, _ => false

def kvGet (k : Value) : List (Value × AVal) → Option AVal
  | [] => none
  | e :: es => if keyEq e.1 k then some e.2 else kvGet k es
def kvPut (k : Value) (a : AVal) : List (Value × AVal) → List (Value × AVal)
  | [] => [(k, a)]
  | e :: es => if keyEq e.1 k then (k, a) :: es else e :: kvPut k a es
def kvDel (k : Value) : List (Value × AVal) → List (Value × AVal)
  | [] => []
  | e :: es => if keyEq e.1 k then es else e :: kvDel k es

theorem keyEq_iff {d : TypeDesc} {a b : Value} (ha : IsKey d a) (hb : IsKey d b) : keyEq a b = true ↔ a = b := by
  cases d <;> cases a <;> cases b <;> simp_all [IsKey, keyEq]
theorem sameNow_key {d : TypeDesc} {a b : Value} (ha : IsKey d a) (hb : IsKey d b) : Instr.sameNow d a b = some (keyEq b a) := by
  obtain ⟨r, h1, h2⟩ := sameNow_of_keys ha hb
  rw [h1]
  congr 1
  cases r with
  | true => rw [eq_comm, keyEq_iff hb ha]; exact (h2.1 rfl).symm
  | false =>
    cases hh : keyEq b a with
    | false => rfl
    | true => have := h2.2 ((keyEq_iff hb ha).1 hh).symm; cases this
theorem afindNow_key {d : TypeDesc} {k : Value} (hk : IsKey d k) : ∀ (kvs : List (Value × AVal)), (∀ x ∈ kvs, IsKey d x.1) → afindNow d k kvs = some (kvGet k kvs)
  | [], _ => rfl
  | e :: es, h => by
    unfold afindNow kvGet
    rw [sameNow_key hk (h e (List.mem_cons_self ..))]
    cases keyEq e.1 k with
    | true => rfl
    | false => exact afindNow_key hk es fun x hx => h x (List.mem_cons_of_mem _ hx)

/-- where a key stands -/
theorem find_key {κ : K} {d : TypeDesc} {k : Value} (hk : IsKey d k) : ∀ (l : List MapEntry) (q : List (Value × AVal)) (j : Nat), l.length = q.length → (∀ i (hi : i < q.length) (hj : i < l.length), l[i].key = q[i].1 ∧ Rv κ q[i].2 l[i].val) → (∀ x ∈ q, IsKey d x.1) →
    (Instr.findNow d k l j = some none ∧ (∀ a, kvPut k a q = q ++ [(k, a)]) ∧ kvDel k q = q) ∨
    ∃ i v, Instr.findNow d k l j = some (some (j + i, v)) ∧ i < l.length ∧ (∃ h : i < l.length, l[i].key = k) ∧ (∀ a, kvPut k a q = q.set i (k, a)) ∧ kvDel k q = q.eraseIdx i
  | [], q, j, hl, _, _ => by
    obtain rfl : q = [] := List.eq_nil_of_length_eq_zero hl.symm
    exact .inl ⟨rfl, fun _ => rfl, rfl⟩
  | e :: l, [], j, hl, _, _ => by simp at hl
  | e :: l, p :: q, j, hl, hq, hkeys => by
    have h0 := hq 0 (by simp) (by simp)
    simp only [List.getElem_cons_zero] at h0
    have hp := hkeys p (List.mem_cons_self ..)
    unfold Instr.findNow
    rw [h0.1, sameNow_key hk hp]
    cases hke : keyEq p.1 k with
    | true =>
      refine .inr ⟨0, e.val, by simp, by simp, ⟨by simp, ?_⟩, fun a => by simp [kvPut, hke], by simp [kvDel, hke]⟩
      simp only [List.getElem_cons_zero]
      rw [h0.1]; exact (keyEq_iff hp hk).1 hke
    | false =>
      rcases find_key hk l q (j + 1) (by simpa using hl) (fun i hi hj => by
        have := hq (i + 1) (by simpa using hi) (by simpa using hj)
        simpa using this) (fun x hx => hkeys x (List.mem_cons_of_mem _ hx)) with ⟨h1, h2, h3⟩ | ⟨i, v, h1, h2, ⟨h2', h3⟩, h4, h5⟩
      · exact .inl ⟨by simpa using h1, fun a => by simp [kvPut, hke, h2], by simp [kvDel, hke, h3]⟩
      · refine .inr ⟨i + 1, v, ?_, by simpa using h2, ⟨by simpa using h2, by simpa using h3⟩, fun a => by simp [kvPut, hke, h4], by simp [kvDel, hke, h5]⟩
        simp only [h1]
        congr 3; omega

theorem AOp_makeMap {t : TypeId} (ho : o.op = .makeMap t none) (hk : ∀ i, σ.heap i = none → Kk (.map i) (σ.set i (.map []))) : AOp P o α σ Kk := by
  obtain ⟨dst, op, ty, pos, after, guard⟩ := o
  obtain rfl : op = _ := ho
  intro κ ev hI hx
  obtain ⟨i, hi, hfree⟩ := hI.fresh
  obtain ⟨κ', hw, hle, hρ, hI'⟩ := hI.alloc i hi (.map []) (.map #[] 0) fun κ' hle hh _ => ⟨#[], 0, hh, rfl, by simp, by simp, fun j hj => by simp at hj⟩
  refine upon_v rfl ⟨.map (some κ.w.heap.size), κ.w.alloc (.map #[] 0), ?_, κ', .map i, _, hw, hle, hI', .map i _ hρ, hk i hfree⟩
  simp [Instr.makeMap]

theorem heap_setBlock {w : World} {b : Nat} {x : Obj} (y : Obj) (h : w.heap[b]? = some x) : ({ w with heap := w.heap.setIfInBounds b y } : World).heap[b]? = some y := by
  have hlt : b < w.heap.size := (Array.getElem?_eq_some_iff.1 h).1
  simp [hlt]
theorem heap_setBlock_ne {w : World} {b b' : Nat} (y : Obj) (h : b' ≠ b) : ({ w with heap := w.heap.setIfInBounds b y } : World).heap[b']? = w.heap[b']? := by
  simp [Array.getElem?_setIfInBounds_ne (Ne.symm h)]

/-- A map's object is written. -/
theorem Inv.setMap {κ : K} {σ : Store} (h : Inv κ σ) {o : Nat} {kvs kvs' : List (Value × AVal)} (ho : σ.heap o = some (.map kvs)) {b : Nat} (hb : κ.ρ o = some b) {es es' : Array MapEntry} {clock clock' : Nat} (hh : κ.w.heap[b]? = some (.map es clock))
    (hbase : κ.base ≤ b) (hIb : κ.I b = 0)
    (hn : es'.size = kvs'.length) (hborn : ∀ e ∈ es', e.born < clock') (hnd : (es'.toList.map (·.born)).Pairwise (· ≠ ·)) (hv : ∀ i (hi : i < kvs'.length) (hj : i < es'.size), es'[i].key = kvs'[i].1 ∧ Rv κ kvs'[i].2 es'[i].val) :
    κ.Le { κ with w := { κ.w with heap := κ.w.heap.setIfInBounds b (.map es' clock') } } ∧ Inv { κ with w := { κ.w with heap := κ.w.heap.setIfInBounds b (.map es' clock') } } (σ.set o (.map kvs')) := by
  have hle : κ.Le { κ with w := { κ.w with heap := κ.w.heap.setIfInBounds b (.map es' clock') } } := by
    refine ⟨rfl, ⟨rfl, rfl, rfl, by simp, fun k hk => heap_setBlock_ne _ (by omega)⟩, fun b' s e' => ?_, fun _ _ e' => e', fun _ _ e' => e', fun _ => Nat.le_refl _, fun b' off' u hi e' => ?_, Nat.le_refl _⟩
    · have hne : b' ≠ b := fun hh' => by
        subst hh'
        unfold World.shape? at e'
        rw [hh] at e'; cases e'
      unfold World.shape? at e' ⊢
      dsimp only
      rw [heap_setBlock_ne _ hne]; exact e'
    · have hne : b' ≠ b := fun hh' => by rw [hh', hIb] at hi; omega
      simp only [World.cell?] at e' ⊢
      rw [heap_setBlock_ne _ hne]; exact e'
  refine ⟨hle, h.step hle rfl rfl h.frO b hbase hIb (fun b' hne _ => heap_setBlock_ne _ hne) o _ (fun _ _ => rfl) hb ⟨es', clock', heap_setBlock _ hh, hn, hborn, hnd, fun i hi hj => ⟨(hv i hi hj).1, (hv i hi hj).2.mono hle⟩⟩ ?_ ?_⟩
  · intro i y hy hne hh'
    exact hne (h.inj i o _ _ b hy ho hh' hb)
  · intro t sz u ht hu hh'
    exact h.tokobj t sz u b o _ ht hu hh' ho hb

theorem AOp_mapUpdate {t kt et : TypeId} {kd : TypeDesc} {m k x : Operand} {mo : Nat} {kv : Value} {kvs : List (Value × AVal)} {a : AVal} (ho : o.op = .mapUpdate t m k x) (ht : P.underlying t = some (.map kt et)) (hkd : P.underlying kt = some kd)
    (hm : α m = .map mo) (hh : σ.heap mo = some (.map kvs)) (hkv : α k = .lit kv) (hkey : IsKey kd kv) (hkeys : ∀ x ∈ kvs, IsKey kd x.1) (hx : α x = a) (hk : Kk .any (σ.set mo (.map (kvPut kv a kvs)))) : AOp P o α σ Kk := by
  subst hx
  obtain ⟨dst, op, ty, pos, after, guard⟩ := o
  obtain rfl : op = _ := ho
  intro κ ev hI hxx
  have hvm := hxx m (by simp [Op.operands])
  have hvk := hxx k (by simp [Op.operands])
  have hvx := hxx x (by simp [Op.operands])
  rw [hm] at hvm
  rw [hkv] at hvk
  have hek := hvk.litInv
  obtain ⟨b, hb, hbase, hIb, es, clock, hheap, hn, hborn, hnd, hall⟩ := hI.heap mo _ hh
  have hem : ev m = .map (some b) := by
    generalize ev m = u at hvm
    cases hvm with
    | map _ b' hb' => rw [hb] at hb'; obtain rfl := Option.some.inj hb'; rfl
  have hlist : ∀ i (hi : i < kvs.length) (hj : i < es.toList.length), es.toList[i].key = kvs[i].1 ∧ Rv κ kvs[i].2 es.toList[i].val := fun i hi hj => by simpa using hall i hi (by simpa using hj)
  have hfind := find_key hkey es.toList kvs 0 (by simpa using hn) hlist hkeys
  have hck : (Instr.checkKey false 10000 kt kv).run P κ.w = .ok () κ.w := run_checkKey hkd hkey _ _
  rcases hfind with ⟨h1, h2, _⟩ | ⟨i, v, h1, h2, ⟨h2', h3⟩, h4, _⟩
  · obtain ⟨hle, hI'⟩ := hI.setMap hh hb hheap hbase hIb (es' := es.push { key := kv, val := ev x, born := clock }) (clock' := clock + 1) (kvs' := kvs ++ [(kv, α x)]) (by simp [hn]) (by
        intro e he
        rcases Array.mem_push.1 he with he | rfl
        · exact Nat.lt_succ_of_lt (hborn e he)
        · exact Nat.lt_succ_self _) (by
        simp only [Array.toList_push, List.map_append, List.map_cons, List.map_nil]
        refine List.pairwise_append.2 ⟨hnd, List.pairwise_singleton _ _, fun y hy z hz => ?_⟩
        obtain rfl := List.mem_singleton.1 hz
        obtain ⟨e, he, rfl⟩ := List.mem_map.1 hy
        exact Nat.ne_of_lt (hborn e (by simpa using he))) (by
        intro j hj hj'
        by_cases hlt : j < es.size
        · rw [Array.getElem_push_lt hlt, List.getElem_append_left (by omega)]
          exact hall j (by omega) hlt
        · have : j = es.size := by simp at hj'; omega
          subst this
          rw [Array.getElem_push_eq, List.getElem_append_right (by omega)]
          simp only [hn, Nat.sub_self, List.getElem_cons_zero]
          exact ⟨trivial, hvx⟩)
    refine upon_u (s := Instr.mapUpdate t (ev m) (ev k) (ev x)) rfl ⟨_, ?_, _, .any, _, rfl, hle, hI', .any _, by rw [← h2]; exact hk⟩
    rw [hem, hek]
    unfold Instr.mapUpdate
    simp only [Sem.run_bind, run_underlying ht, Result.andThen_ok, Go.MapKept.run_getObj_map hheap, hck, run_findKey hkd h1, Go.MapKept.run_setObj_map _ hheap]
  · rw [Nat.zero_add] at h1
    have hi : i < es.size := by simpa using h2
    have hkeep : (Instr.keyThatStays (((es[i]?).map (·.key)).getD kv) kv).run P κ.w = .ok kv κ.w := by
      have : ((es[i]?).map (·.key)).getD kv = kv := by
        simp only [Array.getElem?_eq_getElem hi, Option.map_some, Option.getD_some]
        simpa using h3
      rw [this]
      exact run_keyThatStays hkey
    obtain ⟨hle, hI'⟩ := hI.setMap hh hb hheap hbase hIb (es' := es.modify i fun e => { e with key := kv, val := ev x }) (clock' := clock) (kvs' := kvs.set i (kv, α x)) (by simp [hn]) (by
        intro e he
        obtain ⟨j, hj, rfl⟩ := Array.getElem_of_mem he
        have hj' : j < es.size := by simpa using hj
        have hb0 := hborn es[j] (Array.getElem_mem _)
        rw [Array.getElem_modify]
        split
        · exact hb0
        · exact hb0) (by
        have : ((es.modify i fun e => { e with key := kv, val := ev x }).toList.map (·.born)) = es.toList.map (·.born) := by
          apply List.ext_getElem (by simp)
          intro j h1 h2
          simp only [List.getElem_map, Array.getElem_toList, Array.getElem_modify]
          split <;> rfl
        rw [this]; exact hnd) (by
        intro j hj hj'
        rw [Array.getElem_modify, List.getElem_set]
        split
        · exact ⟨rfl, hvx⟩
        · exact hall j (by simpa using hj) _)
    refine upon_u (s := Instr.mapUpdate t (ev m) (ev k) (ev x)) rfl ⟨_, ?_, _, .any, _, rfl, hle, hI', .any _, by rw [← h4]; exact hk⟩
    rw [hem, hek]
    unfold Instr.mapUpdate
    simp only [Sem.run_bind, run_underlying ht, Result.andThen_ok, Go.MapKept.run_getObj_map hheap, hck, run_findKey hkd h1, hkeep, Go.MapKept.run_setObj_map _ hheap]

theorem AOp_delete {t t2 kt et : TypeId} {kd : TypeDesc} {m k : Operand} {mo : Nat} {kv : Value} {kvs : List (Value × AVal)} (ho : o.op = .call { callee := .builtin .delete, args := #[m, k], argTypes := #[t, t2] }) (ht : P.underlying t = some (.map kt et)) (hkd : P.underlying kt = some kd)
    (hm : α m = .map mo) (hh : σ.heap mo = some (.map kvs)) (hkv : α k = .lit kv) (hkey : IsKey kd kv) (hkeys : ∀ x ∈ kvs, IsKey kd x.1) (hk : Kk (.tup []) (σ.set mo (.map (kvDel kv kvs)))) : AOp P o α σ Kk := by
  obtain ⟨dst, op, ty, pos, after, guard⟩ := o
  obtain rfl : op = _ := ho
  intro κ ev hI hxx
  have hvm := hxx m (by simp [Op.operands, Call.operands])
  have hvk := hxx k (by simp [Op.operands, Call.operands])
  rw [hm] at hvm
  rw [hkv] at hvk
  have hek := hvk.litInv
  obtain ⟨b, hb, hbase, hIb, es, clock, hheap, hn, hborn, hnd, hall⟩ := hI.heap mo _ hh
  have hem : ev m = .map (some b) := by
    generalize ev m = u at hvm
    cases hvm with
    | map _ b' hb' => rw [hb] at hb'; obtain rfl := Option.some.inj hb'; rfl
  have hlist : ∀ i (hi : i < kvs.length) (hj : i < es.toList.length), es.toList[i].key = kvs[i].1 ∧ Rv κ kvs[i].2 es.toList[i].val := fun i hi hj => by simpa using hall i hi (by simpa using hj)
  have hfind := find_key hkey es.toList kvs 0 (by simpa using hn) hlist hkeys
  have hck : ∀ e, (Instr.checkKey e 10000 kt kv).run P κ.w = .ok () κ.w := fun e => run_checkKey hkd hkey _ _
  rcases hfind with ⟨h1, _, h2⟩ | ⟨i, v, h1, h2, _, _, h5⟩
  · obtain ⟨hle, hI'⟩ := hI.setMap hh hb hheap hbase hIb (es' := es) (clock' := clock) (kvs' := kvs) hn hborn hnd hall
    refine upon_v (s := Builtin.delete_ #[t, t2] ty #[ev m, ev k]) (by simp [execOp, resolve, invoke, builtin]) ⟨.tuple #[], _, ?_, _, .tup [], _, rfl, hle, hI', .tup [] _ rfl (fun i hi => by simp at hi), by rw [h2] at hk; exact hk⟩
    rw [hem, hek]
    unfold Builtin.delete_
    simp [run_underlying ht, Go.MapKept.run_getObj_map hheap, hck, run_findKey hkd h1, Go.MapKept.run_setObj_map _ hheap, Result.andThen]
  · rw [Nat.zero_add] at h1
    have hi : i < es.size := by simpa using h2
    have hsub : (es.eraseIdxIfInBounds i).toList = es.toList.eraseIdx i := by simp [Array.eraseIdxIfInBounds, hi]
    obtain ⟨hle, hI'⟩ := hI.setMap hh hb hheap hbase hIb (es' := es.eraseIdxIfInBounds i) (clock' := clock) (kvs' := kvs.eraseIdx i) (by
        rw [← Array.length_toList, hsub, List.length_eraseIdx, List.length_eraseIdx]; simp [hn]) (by
        intro e he
        have : e ∈ (es.eraseIdxIfInBounds i).toList := Array.mem_toList_iff.2 he
        rw [hsub] at this
        exact hborn e (Array.mem_toList_iff.1 ((List.eraseIdx_sublist _ _).subset this))) (by
        rw [hsub]; exact hnd.sublist ((List.eraseIdx_sublist _ _).map _)) (by
        intro j hj hj'
        have hjj : j < (es.toList.eraseIdx i).length := by rw [← hsub, Array.length_toList]; exact hj'
        have e1 : (es.eraseIdxIfInBounds i)[j] = (es.toList.eraseIdx i)[j] := by
          have : (es.eraseIdxIfInBounds i).toList[j]? = (es.toList.eraseIdx i)[j]? := by rw [hsub]
          rw [List.getElem?_eq_getElem hjj, List.getElem?_eq_getElem (by rw [Array.length_toList]; exact hj'), Array.getElem_toList] at this
          exact Option.some.inj this
        rw [e1, List.getElem_eraseIdx, List.getElem_eraseIdx]
        split
        · exact hlist j _ _
        · exact hlist (j + 1) _ _)
    refine upon_v (s := Builtin.delete_ #[t, t2] ty #[ev m, ev k]) (by simp [execOp, resolve, invoke, builtin]) ⟨.tuple #[], _, ?_, _, .tup [], _, rfl, hle, hI', .tup [] _ rfl (fun i hi => by simp at hi), by rw [h5] at hk; exact hk⟩
    rw [hem, hek]
    unfold Builtin.delete_
    simp [run_underlying ht, Go.MapKept.run_getObj_map hheap, hck, run_findKey hkd h1, Go.MapKept.run_setObj_map _ hheap, Result.andThen]

end
end Go.Ab
end

section
set_option linter.all false
namespace Go.Ab
open Go.RowKit (Below)

def Store.delO (σ : Store) : Option Nat → Store
  | none => σ
  | some o => σ.del o
theorem Store.del_sub (σ : Store) (o : Nat) : (σ.del o).Sub σ := ⟨fun i x h => by
  unfold Store.del at h
  dsimp only at h
  split at h
  · cases h
  · exact h, fun _ _ h => h⟩
theorem Store.delO_sub (σ : Store) (o : Option Nat) : (σ.delO o).Sub σ := by
  cases o with
  | none => exact .refl σ
  | some o => exact σ.del_sub o
theorem Store.del_get (σ : Store) (o : Nat) : (σ.del o).heap o = none := by simp [Store.del]
theorem Store.del_ne (σ : Store) {o i : Nat} (h : i ≠ o) : (σ.del o).heap i = σ.heap i := by simp [Store.del, h]

section
variable {P : Program} {o : Oper} {α : Operand → AVal} {σ : Store} {Kk : AVal → Store → Prop}

theorem run_append_room' (w : World) (t ty e e' : TypeId) (i : TypeInfo) (ht : P.underlying t = some (.slice e)) (hi : P.info? e = some i)
    (g sLen sCap : Nat) (cur : Array Value) (hg : w.heap[g]? = some (.cells cur e' (0, 0)))
    (a : Addr) (m c : Nat) (news : List Value) (hl : news.length = m * i.size) (hnews : ∀ j u, news[j]? = some u → w.cell? (a.add j) = some u) (h1 : ∀ u ∈ news, u.oneCell' = true)
    (hroom : sLen + m ≤ sCap) (hfit : sLen * i.size + news.length ≤ cur.size) :
    (Builtin.append_ #[t, t] ty #[.slice (some ⟨g, 0, none⟩) sLen sCap, .slice (some a) m c]).run P w =
      .ok (.slice (some ⟨g, 0, none⟩) (sLen + m) sCap) (w.setRow g (cur.toList.take (sLen * i.size) ++ news ++ cur.toList.drop (sLen * i.size + news.length)).toArray) := by
  have hf := run_firstCells_some (P := P) w i.size m a m c news hl hnews
  have hst := run_storeCells_at P g (sLen * i.size) e' news 0 cur w hg (by simpa using hfit) h1
  simp only [Nat.add_zero] at hst
  simp [Builtin.append_, run_underlying ht, sizeOf, typeInfo, hi, Builtin.lenOf, hroom, hf, Addr.add_lit, hst]

theorem AOp_appendM {s x : Operand} {t e : TypeId} {sz by_ len : Nat} {l2 base : List AVal} {old : Option Nat}
    (ho : o.op = .call { callee := .builtin .append, args := #[s, x], argTypes := #[t, t] }) (hse : sliceElem P t = some e) (hte : appInfo P e = some (sz, by_))
    (hs : (∃ so cs, α s = .msl so sz 0 len ∧ σ.heap so = some (.cells cs) ∧ old = some so ∧ base = cs.take (len * sz) ∧ len * sz ≤ cs.length) ∨ (α s = .lit (.slice none 0 0) ∧ len = 0 ∧ base = [] ∧ old = none))
    (hx : slOf (α x) = some (sz, l2)) (hne : l2 ≠ []) (hone : ∀ y ∈ l2, ∀ c ∈ y.cells, c.one = true)
    (hlen : (len + l2.length) * by_ ≤ 140737488355328)
    (hk : ∀ o', σ.heap o' = none → Kk (.msl o' sz 0 (len + l2.length)) ((σ.delO old).set o' (.cells (base ++ flat l2)))) : AOp P o α σ Kk := by
  obtain ⟨dst, op, ty, pos, after, guard⟩ := o
  obtain rfl : op = .call { callee := .builtin .append, args := #[s, x], argTypes := #[t, t] } := ho
  intro κ ev hI hxx
  obtain ⟨i, z, hi, hz, hisz, hiby, hzs, hsz, hby⟩ := appInfo_spec hte
  subst hisz
  subst hiby
  have hts : P.underlying t = some (.slice e) := by
    unfold sliceElem at hse
    split at hse
    · rename_i e' he'; obtain rfl := Option.some.inj hse; exact he'
    · cases hse
  have hvs := hxx s (by simp [Op.operands, Call.operands])
  have hvx := hxx x (by simp [Op.operands, Call.operands])
  have hm : 0 < l2.length := List.length_pos_iff.2 hne
  have hle47 : len + l2.length ≤ 140737488355328 := Nat.le_trans (Nat.le_mul_of_pos_right _ hby) hlen
  -- what is appended
  obtain ⟨ad, cap2, vs, hevx, hl2sz, hvsr, hcu⟩ : ∃ ad cap2 vs, ev x = .slice (some ad) l2.length cap2 ∧ (∀ y ∈ l2, y.cells.length = i.size) ∧ RvC κ (flat l2) vs ∧ ∀ j u, vs[j]? = some u → κ.w.cell? (ad.add j) = some u := by
    obtain ⟨a, cap, us2, hev, hsz', hr, hc⟩ := sl_vals (slOf_rv hx hvx)
    rcases hc with ⟨_, h0, _⟩ | ⟨ad, rfl, hcu⟩
    · exact absurd h0 hne
    · exact ⟨ad, cap, us2, hev, hsz', hr, hcu⟩
  have hfl2 : vs.length = l2.length * i.size := by rw [← hvsr.1, flat_length hl2sz]
  have hones : ∀ u ∈ vs, u.oneCell' = true := by
    intro u hu
    obtain ⟨j, hj, rfl⟩ := List.getElem_of_mem hu
    have hj' : j < (flat l2).length := by rw [hvsr.1]; exact hj
    refine ((hvsr.2 j hj' hj).one ?_).1
    have : (flat l2)[j] ∈ flat l2 := List.getElem_mem hj'
    unfold flat at this
    obtain ⟨y, hy, hc⟩ := List.mem_flatMap.1 this
    exact hone y hy _ hc
  obtain ⟨o', ho', hfr⟩ := hI.fresh
  have hI0 := hI.sub (Store.delO_sub σ old)
  -- a new block
  have fresh : ∀ (olds : List Value) (cap' : Nat), RvC κ base olds → olds.length = len * i.size → len + l2.length ≤ cap' → 
      Post κ Kk (.slice (some ⟨κ.w.heap.size, 0, none⟩) (len + l2.length) cap') (κ.w.drew.alloc (.cells (olds.toArray ++ vs.toArray ++ Builtin.zeroCells z.cells (cap' - (len + l2.length))) e)) := by
    intro olds cap' hb hol hcap
    have hd := hI0.drew
    have hnew := hb.append hvsr
    have hsize : (olds.toArray ++ vs.toArray ++ Builtin.zeroCells z.cells (cap' - (len + l2.length))).size = cap' * i.size := by
      simp only [Array.size_append, List.size_toArray, size_zeroCells, hzs, hol, hfl2, ← Nat.add_mul]
      congr 1; omega
    obtain ⟨κ', hw, hle, hρ, hI'⟩ := hd.2.alloc o' ho' (.cells (base ++ flat l2)) (.cells (olds.toArray ++ vs.toArray ++ Builtin.zeroCells z.cells (cap' - (len + l2.length))) e) fun κ' hle hh _ => by
      refine ⟨_, e, hh, ?_, fun j hj => ?_⟩
      · rw [hsize, hnew.1, List.length_append, hol, hfl2, ← Nat.add_mul]; exact Nat.mul_le_mul_right _ hcap
      · have hj' : j < (olds ++ vs).length := by rw [← hnew.1]; exact hj
        have e1 : (olds.toArray ++ vs.toArray ++ Builtin.zeroCells z.cells (cap' - (len + l2.length))).getD j undef = (olds ++ vs)[j] := by
          simp only [Array.getD_eq_getD_getElem?]
          rw [Array.getElem?_append_left (by simpa using hj')]
          simp only [List.append_toArray, List.getElem?_toArray]
          rw [List.getElem?_eq_getElem hj']; rfl
        rw [e1]
        exact (hnew.2 j hj hj').mono (hd.1.trans hle)
    have hheap : κ'.w.heap[κ.w.heap.size]? = some (.cells (olds.toArray ++ vs.toArray ++ Builtin.zeroCells z.cells (cap' - (len + l2.length))) e (0, 0)) := by
      rw [hw]; exact Go.heap_alloc_new κ.w.drew _
    exact ⟨κ', .msl o' i.size 0 (len + l2.length), _, hw, hd.1.trans hle, hI', .msl o' i.size 0 _ κ.w.heap.size cap' _ e hρ hcap (by unfold World.shape?; rw [hheap]) (by rw [hsize]; omega), hk o' hfr⟩
  refine upon_v (s := Builtin.append_ #[t, t] ty #[ev s, ev x]) (by simp [execOp, resolve, invoke, builtin]) ?_
  rcases hs with ⟨so, cs, hs1, hs2, rfl, rfl, hcsl⟩ | ⟨hs1, rfl, rfl, rfl⟩
  · rw [hs1] at hvs
    generalize ev s = us at hvs
    cases hvs with
    | msl _ _ _ _ b cap n el hb hlc hsh hn =>
    obtain ⟨b', hb', hbase, hIb, c, el', hheap, hcl, hcv⟩ := hI.heap so _ hs2
    rw [hb] at hb'
    obtain rfl := Option.some.inj hb'
    have hcn : c.size = n := by
      unfold World.shape? at hsh
      rw [hheap] at hsh
      simpa using congrArg (Option.map (·.2)) hsh
    have hlc' : len * i.size ≤ c.size := by omega
    have holds : RvC κ (cs.take (len * i.size)) (c.toList.take (len * i.size)) := by
      refine ⟨by simp; omega, fun j hj hj' => ?_⟩
      simp only [List.length_take] at hj hj'
      have := hcv j (by omega)
      simp only [List.getElem_take, Array.getElem_toList]
      simpa [show j < c.size by omega] using this
    have holen : (c.toList.take (len * i.size)).length = len * i.size := by simp; omega
    by_cases hroom : len + l2.length ≤ cap
    · have hfit : len * i.size + vs.length ≤ c.size := by
        rw [hfl2, ← Nat.add_mul]
        have := Nat.mul_le_mul_right i.size hroom
        omega
      have hr := run_append_room' (P := P) κ.w t ty e el' i hts hi b len cap c hheap ad l2.length cap2 vs hfl2 hcu hones hroom hfit
      rw [hevx]
      refine ⟨_, _, hr, ?_⟩
      obtain ⟨cur', hcur'⟩ : ∃ cur' : Array Value, cur' = (c.toList.take (len * i.size) ++ vs ++ c.toList.drop (len * i.size + vs.length)).toArray := ⟨_, rfl⟩
      rw [← hcur']
      have hcs' : cur'.size = c.size := by
        rw [hcur']
        simp only [List.size_toArray, List.length_append, holen, List.length_drop, Array.length_toList]; omega
      have hgt := setRow_heap κ.w b c cur' el' (0, 0) hheap
      have hle : κ.Le { κ with w := κ.w.setRow b cur', ρ := fun k => if k = o' then some b else κ.ρ k } := by
        refine ⟨rfl, ⟨rfl, rfl, rfl, by simp [World.setRow], fun k hk => setRow_other κ.w b k cur' (by omega)⟩, fun b2 s hs => ?_, fun k b2 hk => ?_, fun _ _ h => h, fun _ => Nat.le_refl _, fun b2 off v ho hv => ?_, Nat.le_refl _⟩
        · by_cases hbb : b2 = b
          · subst hbb
            unfold World.shape? at hs ⊢
            rw [hheap] at hs
            dsimp only
            rw [hgt]
            simpa [hcs'] using hs
          · unfold World.shape? at hs ⊢
            dsimp only
            rw [setRow_other κ.w b b2 cur' hbb]
            exact hs
        · show (if k = o' then _ else _) = _
          rw [if_neg (fun hh => by rw [hh, ho'] at hk; cases hk)]; exact hk
        · have hbb : b2 ≠ b := fun hh => by rw [hh, hIb] at ho; omega
          simp only [World.cell?] at hv ⊢
          rw [setRow_other κ.w b b2 cur' hbb]
          exact hv
      have hnew := holds.append hvsr
      refine ⟨{ κ with w := κ.w.setRow b cur', ρ := fun k => if k = o' then some b else κ.ρ k }, .msl o' i.size 0 (len + l2.length), _, rfl, hle, ?_, ?_, hk o' hfr⟩
      · refine hI0.step hle rfl rfl ?_ b hbase hIb (fun b2 hne _ => setRow_other κ.w b b2 cur' hne) o' _ (fun k hk => by simp [hk]) (by simp) ⟨cur', el', hgt, ?_, fun j hj => ?_⟩ ?_ ?_
        · obtain ⟨N, hN⟩ := hI.frO
          refine ⟨N + o' + 1, fun k hk => ?_⟩
          show (if k = o' then _ else _) = _
          rw [if_neg (by omega)]
          exact hN k (by omega)
        · rw [hnew.1, hcs', List.length_append, holen]; exact hfit
        · have hj' : j < (c.toList.take (len * i.size) ++ vs).length := by rw [← hnew.1]; exact hj
          have e1 : cur'.getD j undef = (c.toList.take (len * i.size) ++ vs)[j] := by
            rw [hcur']
            simp only [Array.getD_eq_getD_getElem?, List.getElem?_toArray]
            rw [List.getElem?_append_left hj', List.getElem?_eq_getElem hj']
            rfl
          rw [e1]
          exact (hnew.2 j hj hj').mono hle
        · intro k y hy hne hh
          have hkne : k ≠ so := fun hh' => by
            simp only [Store.delO] at hy
            rw [hh', Store.del_get] at hy; cases hy
          simp only [Store.delO] at hy
          rw [Store.del_ne _ hkne] at hy
          exact hkne (hI.inj k so _ _ b hy hs2 hh hb)
        · intro tt q v ht hv hh
          exact hI.tokobj tt q v b so _ ht hv hh hs2 hb
      · exact .msl o' i.size 0 _ b cap n el (by simp) hroom (hle.shape b _ hsh) hn
    · have hcells : ∀ j u, (c.toList.take (len * i.size))[j]? = some u → κ.w.cell? ((⟨b, 0, none⟩ : Addr).add j) = some u := by
        intro j u hu
        rw [add_addr, Nat.zero_add, cell_of_row _ _ _ _ _ _ hheap]
        rw [List.getElem?_take] at hu
        split at hu
        · simpa using hu
        · cases hu
      have hr := run_append_grow (P := P) κ.w t ty e i z hts hi hz ⟨b, 0, none⟩ len cap _ holen hcells ad l2.length cap2 vs hfl2 hcu (by omega) (by omega) (growslice_fits (by omega) hlen)
      rw [hevx]
      exact ⟨_, _, hr, fresh _ _ holds holen (grownCap_ge _ _ _ _)⟩
  · rw [hs1] at hvs
    rw [hvs.litInv, hevx]
    have hr := run_append_nil (P := P) κ.w t ty e i z hts hi hz ad l2.length cap2 vs hfl2 hcu hm (by omega) (by have := hlen; simp only [Nat.zero_add] at this; omega)
    refine ⟨_, _, hr, ?_⟩
    have := fresh [] (grownCap κ.w l2.length 0 e) .nil (by simp) (by have := grownCap_ge κ.w l2.length 0 e; omega)
    simpa using this

end
end Go.Ab
end

section
set_option linter.all false
namespace Go.Ab

section
variable {P : Program} {ops : Array Oper}

theorem unlisted {listed : Array Bool} {i : Nat} (h : listed.getD i true = false) : listed.getD i false = false := by
  simp only [Array.getD_eq_getD_getElem?] at *
  cases hl : listed[i]? with
  | none => simp
  | some b => rw [hl] at h; simpa using h

theorem none_listed (m j : Nat) : (Array.replicate m false).getD j false = false := by
  simp only [Array.getD_eq_getD_getElem?, Array.getElem?_replicate]
  split <;> rfl

theorem AOp_congr {o : Oper} {α α' : Operand → AVal} {σ : Store} {Kk : AVal → Store → Prop} (h : ∀ x ∈ o.op.operands, α x = α' x) (ha : AOp P o α σ Kk) : AOp P o α' σ Kk :=
  fun κ ev hI hx => ha κ ev hI fun x hx' => by rw [h x hx']; exact hx x hx'

theorem aval_congr {op : Op} {α α' : Operand → AVal} {σ : Store} (h : ∀ x ∈ op.operands, α x = α' x) : aval P op α σ = aval P op α' σ := by
  cases op <;> simp only [Op.operands] at h <;> simp only [aval]
  case build t ps =>
    congr 1
    apply List.map_congr_left
    intro p hp
    rw [h p.2 (by simp; exact ⟨p.1, by simpa using hp⟩)]
  case makeFunc fn first captured =>
    rw [List.map_congr_left (fun x hx => h x (by simp; exact .inl (by simpa using hx))), List.map_congr_left (fun x hx => h x (by simp; exact .inr (by simpa using hx)))]
  case call c =>
    have hargs : c.args.toList.map α = c.args.toList.map α' := List.map_congr_left fun x hx => h x (by simp [Call.operands]; exact .inr (by simpa using hx))
    unfold acall
    split
    · split
      · rename_i x t hx ht
        rw [h x (by simp only [Call.operands, Array.mem_append]; right; rw [← Array.mem_toList_iff, hx]; simp)]
      · rfl
    · rw [hargs]
    · rw [hargs]
    · rfl
  case slice t x lo hi mx => cases lo <;> cases hi <;> cases mx <;> simp_all
  all_goals (first | rfl | (simp_all; done))

theorem aev_updo {e : Env} {d : Option Tmp} {a : AVal} {x : Operand} (h : ∀ t, d = some t → x ≠ .tmp t) : aev (updo e d a) x = aev e x := by
  cases d with
  | none => rfl
  | some t =>
    cases x with
    | tmp u =>
      have : u ≠ t := fun hh => h t rfl (by rw [hh])
      simp [aev, updo, upd, this]
    | _ => rfl

theorem updo_comm (e : Env) {x y : Option Tmp} (a b : AVal) (h : ∀ d, x = some d → y ≠ some d) : updo (updo e x a) y b = updo (updo e y b) x a := by
  cases x with
  | none => rfl
  | some d =>
    cases y with
    | none => rfl
    | some d' =>
      have hne : d ≠ d' := fun hh => h d rfl (by rw [hh])
      funext k
      simp only [updo, upd]
      by_cases h1 : k = d
      · subst h1; simp [hne]
      · simp [h1]

theorem aev_operands {e : Env} {d : Option Tmp} {a : AVal} {o : Oper} (h : ∀ t, d = some t → t ∉ o.looksAt ops) : ∀ x ∈ o.op.operands, aev (updo e d a) x = aev e x :=
  fun x hx => aev_updo fun t ht hxt => h t ht (by
    subst hxt
    exact List.mem_append_left _ (List.mem_filterMap.2 ⟨.tmp t, by simpa using hx, rfl⟩))

theorem wantedA_updo {e : Env} {d : Option Tmp} {a : AVal} {o : Oper} (h : ∀ t, d = some t → t ∉ o.looksAt ops) : wantedA ops o (updo e d a) = wantedA ops o e := by
  cases d with
  | none => rfl
  | some t =>
    unfold wantedA
    cases hg : o.guard with
    | none => rfl
    | some gw =>
      obtain ⟨g, want⟩ := gw
      dsimp only
      cases ht : (ops[g]?).bind (·.dst) with
      | none => rfl
      | some u =>
        have hne : u ≠ t := fun hh => h t rfl (by subst hh; simp [Oper.looksAt, hg, ht])
        simp [updo, upd, hne]

/-- operation number i in a state -/
def aOpAt (P : Program) (ops : Array Oper) (i : Nat) (Kk : Env → Store → Prop) (e : Env) (σ : Store) : Prop :=
  match ops[i]? with
  | none => Kk e σ
  | some o => aStep P ops o Kk e σ

theorem aStep_mono {o : Oper} {Kk Kk' : Env → Store → Prop} {e : Env} {σ : Store} (h : ∀ e σ, Kk e σ → Kk' e σ) (ha : aStep P ops o Kk e σ) : aStep P ops o Kk' e σ := by
  unfold aStep at *
  split at ha
  · exact ha.mono fun v σ' => h _ _
  · exact h _ _ ha
  · exact ha.elim

theorem aOpAt_mono {i : Nat} {Kk Kk' : Env → Store → Prop} {e : Env} {σ : Store} (h : ∀ e σ, Kk e σ → Kk' e σ) (ha : aOpAt P ops i Kk e σ) : aOpAt P ops i Kk' e σ := by
  unfold aOpAt at *
  split
  · exact h _ _ (by simpa [*] using ha)
  · rename_i o ho
    simp only [ho] at ha
    exact aStep_mono h ha

/-- whatever is picked from here on; what belongs to the head keeps what is known of the store 's0' -/
def aAny (P : Program) (ops : Array Oper) (hd : Nat → Bool) (s0 : Store) (Kk : Env → Store → Prop) : Nat → Array Bool → Env → Store → Prop
  | 0, listed, e, σ => Region.ready .any ops listed = [] ∧ Kk e σ
  | fuel + 1, listed, e, σ => (Region.ready .any ops listed = [] → Kk e σ) ∧
    ∀ i ∈ Region.ready .any ops listed, aOpAt P ops i (fun e' σ' => (hd i = true → s0.Sub σ → s0.Sub σ') ∧ aAny P ops hd s0 Kk fuel (listed.setIfInBounds i true) e' σ') e σ

theorem wpAny_of_aAny {hd : Nat → Bool} {s0 : Store} {Kk : Env → Store → Prop} {n : Nat} {κ0 : K} {Q : Exit → Act → World → Prop} (hok : ∀ (i : Nat) o, ops[i]? = some o → dstOk n ops o = true)
    (hQ : ∀ κ e σ a, κ0.Le κ → ASat κ n e σ a → Kk e σ → Q .normal a κ.w) :
    ∀ (fuel : Nat) (listed : Array Bool) (e : Env) (σ : Store) κ a, κ0.Le κ → ASat κ n e σ a → aAny P ops hd s0 Kk fuel listed e σ → wpAny P .any ops Q fuel listed a κ.w
  | 0, listed, e, σ, κ, a, hle, hs, h => ⟨h.1, hQ κ e σ a hle hs h.2⟩
  | fuel + 1, listed, e, σ, κ, a, hle, hs, h => by
    refine ⟨fun h0 => hQ κ e σ a hle hs (h.1 h0), fun i hi => ?_⟩
    have h1 := h.2 i hi
    unfold aOpAt at h1
    unfold wpOp
    split
    · rename_i ho
      simp only [ho] at h1
      exact wpAny_of_aAny hok hQ fuel _ e σ κ a hle hs h1.2
    · rename_i o ho
      simp only [ho] at h1
      have hdo := hok i o ho
      unfold aStep at h1
      split at h1
      · rename_i hw
        rw [if_pos (wantedA_spec hs hw (dstOk_guard hdo))]
        left
        refine Oper.wp_of_aop hs h1 fun cv w' ⟨κ', x, σ', q1, q2, q3, q4, q5⟩ => ?_
        subst q1
        exact wpAny_of_aAny hok hQ fuel _ _ σ' κ' _ (hle.trans q2) (hs.put q2 q3 (dstOk_dst hdo) q4) q5.2
      · rename_i hw
        rw [if_neg (by rw [wantedA_spec hs hw (dstOk_guard hdo)]; simp)]
        exact wpAny_of_aAny hok hQ fuel _ _ σ κ _ hle (hs.put (.refl κ) hs.inv (dstOk_dst hdo) (.lit _)) h1.2
      · exact h1.elim

/-- in this state an operation that only looks yields 'a', whatever else the store holds -/
def AYields (P : Program) (ops : Array Oper) (s0 : Store) (o : Oper) (a : AVal) (e : Env) : Prop :=
  (wantedA ops o e = some true ∧ aval P o.op (aev e) s0 = some a) ∨ (wantedA ops o e = some false ∧ a = .lit undef)

/-- what it yields does not hang on the store -/
def storeless : Op → Bool
  | .move _ | .assign _ | .pick _ _ _ | .nilCheck _ | .unOp _ _ _ | .convert _ _ _ | .fieldAddr _ _ _ | .field _ _ _ | .indexAddr _ _ _ | .index _ _ _ | .extract _ _ | .slice _ _ _ _ _ | .makeInterface _ _ | .makeFunc _ _ _ | .build _ _ | .typeAssert _ _ _ _ => true
  | _ => false
theorem aval_storeless {op : Op} (h : storeless op = true) (α : Operand → AVal) (σ σ' : Store) : aval P op α σ = aval P op α σ' := by
  cases op <;> first | rfl | (simp [storeless] at h)

theorem AYields.opAt {s0 : Store} {i : Nat} {o : Oper} {a : AVal} {e : Env} {σ : Store} (hi : ops[i]? = some o) (hy : AYields P ops s0 o a e) (hs : s0.Sub σ) {Kk : Env → Store → Prop} (h : Kk (updo e o.dst a) σ) : aOpAt P ops i Kk e σ := by
  unfold aOpAt aStep
  simp only [hi]
  rcases hy with ⟨hw, ha⟩ | ⟨hw, rfl⟩
  · simp only [hw]; exact AOp_valw ha hs h
  · simp only [hw]; exact h
theorem AYields.less {s0 s : Store} {o : Oper} {a : AVal} {e : Env} (h : storeless o.op = true) (hy : AYields P ops s0 o a e) : AYields P ops s o a e := by
  unfold AYields at *
  rw [aval_storeless h _ s s0]; exact hy

theorem AYields.other {s0 : Store} {o : Oper} {a b : AVal} {d : Option Tmp} {e : Env} (h : ∀ t, d = some t → t ∉ o.looksAt ops) (hy : AYields P ops s0 o a e) : AYields P ops s0 o a (updo e d b) := by
  unfold AYields at *
  rw [wantedA_updo h, aval_congr (aev_operands h)]
  exact hy

/-- Another operation 'oj', apart from 'oi', ahead of it. -/
theorem aOpAt_swap {Y : Env → Prop} {j : Nat} {oi oj : Oper} {a : AVal} {e : Env} {σ : Store} {Kk : Env → Store → Prop} (hj : ops[j]? = some oj) (hap : oi.apart ops oj = true)
    (hY : ∀ (d : Option Tmp) (b : AVal) (e' : Env), (∀ t, d = some t → t ∉ oi.looksAt ops) → Y e' → Y (updo e' d b)) (hy : Y e) (h : aOpAt P ops j Kk (updo e oi.dst a) σ) :
    aOpAt P ops j (fun e' σ' => Y e' ∧ Kk (updo e' oi.dst a) σ') e σ := by
  obtain ⟨h1, h2, h3⟩ := Oper.apart_spec hap
  unfold aOpAt aStep at *
  simp only [hj] at *
  rw [wantedA_updo h1] at h
  split
  · rename_i hw
    simp only [hw] at h
    refine AOp_congr (aev_operands (ops := ops) h1) (h.mono fun v σ' hk => ⟨hY _ _ _ h3 hy, ?_⟩)
    rw [← updo_comm e a v h2]; exact hk
  · rename_i hw
    simp only [hw] at h
    refine ⟨hY _ _ _ h3 hy, ?_⟩
    rw [← updo_comm e a (.lit undef) h2]; exact h
  · rename_i hw
    simp only [hw] at h

/-- what an operation waits for, at whatever remove -/
def reachB (ops : Array Oper) : Nat → Nat → Nat → Bool
  | 0, _, _ => false
  | f + 1, t, i => match ops[t]? with
    | some o => o.after.any fun ed => Region.binds .any ed && (ed.on == i || reachB ops f ed.on i)
    | none => false

def Closed (ops : Array Oper) (listed : Array Bool) : Prop :=
  listed.size = ops.size ∧ ∀ j oj, ops[j]? = some oj → listed.getD j false = true → ∀ ed ∈ oj.after, Region.binds .any ed = true → listed.getD ed.on false = true

theorem Closed.set {listed : Array Bool} {i : Nat} (h : Closed ops listed) (hi : i ∈ Region.ready .any ops listed) : Closed ops (listed.setIfInBounds i true) := by
  obtain ⟨_, oi, hoi, hall⟩ := mem_ready.1 hi
  refine ⟨by simp [h.1], fun j oj hj hl ed he hb => ?_⟩
  by_cases hij : i = j
  · subst hij
    obtain rfl : oj = oi := Option.some.inj (hj.symm.trans hoi)
    exact getD_set_true (hall ed he hb)
  · rw [getD_set_ne false hij] at hl
    exact getD_set_true (h.2 j oj hj hl ed he hb)

theorem reach_listed {listed : Array Bool} (h : Closed ops listed) : ∀ (f t i : Nat) ot, ops[t]? = some ot → (∀ ed ∈ ot.after, Region.binds .any ed = true → listed.getD ed.on false = true) → reachB ops f t i = true → listed.getD i false = true
  | 0, _, _, _, _, _, hr => by cases hr
  | f + 1, t, i, ot, ht, hall, hr => by
    unfold reachB at hr
    simp only [ht] at hr
    obtain ⟨ed, he, hb⟩ := Array.any_eq_true'.1 hr
    simp only [Bool.and_eq_true, Bool.or_eq_true, beq_iff_eq] at hb
    have hl := hall ed he hb.1
    rcases hb.2 with hb2 | hb2
    · rw [← hb2]; exact hl
    · cases ho : ops[ed.on]? with
      | none =>
        have h1 : ops.size ≤ ed.on := by
          rcases Nat.lt_or_ge ed.on ops.size with hh | hh
          · rw [Array.getElem?_eq_getElem hh] at ho; cases ho
          · exact hh
        rw [show listed.getD ed.on false = false by simp [Array.getElem?_eq_none (show listed.size ≤ ed.on by rw [h.1]; exact h1)]] at hl
        cases hl
      | some o' => exact reach_listed h f ed.on i o' ho (fun ed' he' hb' => h.2 ed.on o' ho hl ed' he' hb') hb2

/-- An operation that only looks may be taken first. 'Y': it yields so; 'G': what is asked of a store for that. -/
theorem aAny_first {hd : Nat → Bool} {s0 : Store} {Kk : Env → Store → Prop} {i : Nat} {oi : Oper} {a : AVal} {Y : Env → Prop} {G : Store → Prop} (hi : ops[i]? = some oi)
    (hY : ∀ (d : Option Tmp) (b : AVal) (e' : Env), (∀ t, d = some t → t ∉ oi.looksAt ops) → Y e' → Y (updo e' d b)) (hat : ∀ e σ, Y e → G σ → ∃ s : Store, s.Sub σ ∧ AYields P ops s oi a e)
    (htail : (∀ σ, G σ) ∨ ((∀ σ, G σ ↔ s0.Sub σ) ∧ ∀ t, t < ops.size → hd t = false → reachB ops ops.size t i = true)) :
    ∀ (fuel : Nat) (listed : Array Bool) (e : Env) (σ : Store), Closed ops listed → G σ →
      (∀ j oj, ops[j]? = some oj → j ≠ i → listed.getD j true = false → (∀ ed ∈ oj.after, Region.binds .any ed = true → ed.on ≠ i) → oi.apart ops oj = true) →
      i ∈ Region.ready .any ops listed → Y e →
      aAny P ops hd s0 Kk fuel (listed.setIfInBounds i true) (updo e oi.dst a) σ → aAny P ops hd s0 Kk (fuel + 1) listed e σ := by
  intro fuel
  induction fuel with
  | zero =>
    intro listed e σ hcl hs _ hr hy H
    refine ⟨fun h => (by rw [h] at hr; cases hr), fun j hj => ?_⟩
    by_cases hji : j = i
    · subst hji
      obtain ⟨s, hs1, hs2⟩ := hat e σ hy hs
      exact hs2.opAt hi hs1 ⟨fun _ h => h, H⟩
    · have := ready_mono hj hji
      rw [H.1] at this
      cases this
  | succ fuel ih =>
    intro listed e σ hcl hs hfree hr hy H
    refine ⟨fun h => (by rw [h] at hr; cases hr), fun j hj => ?_⟩
    by_cases hji : j = i
    · subst hji
      obtain ⟨s, hs1, hs2⟩ := hat e σ hy hs
      exact hs2.opAt hi hs1 ⟨fun _ h => h, H⟩
    · have h1 := H.2 j (ready_mono hj hji)
      obtain ⟨hjun, oj, hoj, hall⟩ := mem_ready.1 hj
      have hiun : listed.getD i false = false := unlisted (mem_ready.1 hr).1
      have hnot : ∀ ed ∈ oj.after, Region.binds .any ed = true → ed.on ≠ i := fun ed he hb heq => by
        have h1 := hall ed he hb
        rw [heq, hiun] at h1
        cases h1
      have hG : ∀ σ', (hd j = true → s0.Sub σ → s0.Sub σ') → G σ' := by
        intro σ' hk
        rcases htail with h0 | ⟨h0, htail⟩
        · exact h0 σ'
        · refine (h0 σ').2 (hk ?_ ((h0 σ).1 hs))
          cases hh : hd j with
          | true => rfl
          | false =>
            have hjlt : j < ops.size := (Array.getElem?_eq_some_iff.1 hoj).1
            have := reach_listed hcl ops.size j i oj hoj hall (htail j hjlt hh)
            rw [hiun] at this
            cases this
      have h2 := aOpAt_swap hoj (hfree j oj hoj hji hjun hnot) hY hy h1
      have hfree' : ∀ k ok, ops[k]? = some ok → k ≠ i → (listed.setIfInBounds j true).getD k true = false →
          (∀ ed ∈ ok.after, Region.binds .any ed = true → ed.on ≠ i) → oi.apart ops ok = true := fun k ok hk hki hun hno => by
        refine hfree k ok hk hki ?_ hno
        by_cases hjk : j = k
        · subst hjk; exact hjun
        · rw [getD_set_ne true hjk] at hun; exact hun
      refine aOpAt_mono (fun e' σ' h3 => ⟨h3.2.1, ih (listed.setIfInBounds j true) e' σ' (hcl.set hj) (hG σ' h3.2.1) hfree' (ready_mono hr (Ne.symm hji)) h3.1 ?_⟩) h2
      rw [Array.setIfInBounds_comm _ _ hji]
      exact h3.2.2

/-! ### the walk in an order of one's choice: 0: it only looks; 1: another one, of the head; 2: one of the tail; 'alt': where several others are ready, each of them first -/

inductive DT where
  | nil
  | op (i k : Nat) (r : DT)
  | any (i : Nat) (r : DT)
  | alt (i k : Nat) (r t : DT)

def DT.alts : DT → List Nat
  | .nil => []
  | .op i _ _ => [i]
  | .any i _ => [i]
  | .alt i _ _ t => i :: t.alts
def DT.depth : DT → Nat
  | .nil => 0
  | .op _ _ r => r.depth + 1
  | .any _ r => r.depth + 1
  | .alt _ _ r t => max (r.depth + 1) t.depth
def DT.tails : DT → List Nat
  | .nil => []
  | .op i k r => if k ≤ 1 then r.tails else i :: r.tails
  | .any _ r => r.tails
  | .alt i k r t => (if k ≤ 1 then r.tails else i :: r.tails) ++ t.tails

def dRun (P : Program) (ops : Array Oper) (s0 : Store) (Kk : Env → Store → Prop) : DT → Env → Store → Prop
  | .nil, e, σ => Kk e σ
  | .op i 0 r, e, σ => ∃ o a, ops[i]? = some o ∧ AYields P ops s0 o a e ∧ dRun P ops s0 Kk r (updo e o.dst a) σ
  | .op i 1 r, e, σ => ∃ o, ops[i]? = some o ∧ aStep P ops o (fun e' σ' => s0.Sub σ' ∧ dRun P ops s0 Kk r e' σ') e σ
  | .op i (_ + 2) r, e, σ => ∃ o, ops[i]? = some o ∧ aStep P ops o (dRun P ops s0 Kk r) e σ
  | .any i r, e, σ => ∃ o a, ops[i]? = some o ∧ (∀ s, AYields P ops s o a e) ∧ dRun P ops s0 Kk r (updo e o.dst a) σ
  | .alt i 1 r t, e, σ => (∃ o, ops[i]? = some o ∧ aStep P ops o (fun e' σ' => s0.Sub σ' ∧ dRun P ops s0 Kk r e' σ') e σ) ∧ dRun P ops s0 Kk t e σ
  | .alt i _ r t, e, σ => (∃ o, ops[i]? = some o ∧ aStep P ops o (dRun P ops s0 Kk r) e σ) ∧ dRun P ops s0 Kk t e σ

/-- 'b': it is known already what is ready; 'tl': one of the tail was taken -/
def okT (ops : Array Oper) (hd : Nat → Bool) : DT → Bool → Bool → Array Bool → Bool
  | .nil, b, _, listed => !b && (Region.ready .any ops listed).isEmpty
  | .op i 0 r, b, tl, listed => !b && (Region.ready .any ops listed).contains i && Region.free .any ops listed i && (((ops[i]?).map fun o => storeless o.op) == some true || (!tl && (List.range ops.size).all fun t => hd t || reachB ops ops.size t i)) && okT ops hd r false tl (listed.setIfInBounds i true)
  | .op i (k + 1) r, b, tl, listed => (b || decide (Region.ready .any ops listed = [i])) && (hd i == decide (k = 0)) && (!tl || decide (k ≠ 0)) && okT ops hd r false (decide (k ≠ 0)) (listed.setIfInBounds i true)
  | .any i r, b, tl, listed => !b && (Region.ready .any ops listed).contains i && Region.free .any ops listed i && okT ops hd r false tl (listed.setIfInBounds i true)
  | .alt _ 0 _ _, _, _, _ => false
  | .alt i (k + 1) r t, b, tl, listed => (b || decide (Region.ready .any ops listed = i :: t.alts)) && (hd i == decide (k = 0)) && (!tl || decide (k ≠ 0)) && okT ops hd r false (decide (k ≠ 0)) (listed.setIfInBounds i true) && okT ops hd t true tl listed

theorem aAny_end {hd : Nat → Bool} {s0 : Store} {Kk : Env → Store → Prop} (fuel : Nat) {listed : Array Bool} {e : Env} {σ : Store} (h0 : Region.ready .any ops listed = []) (h : Kk e σ) : aAny P ops hd s0 Kk fuel listed e σ := by
  cases fuel with
  | zero => exact ⟨h0, h⟩
  | succ f => exact ⟨fun _ => h, fun i hi => by rw [h0] at hi; cases hi⟩

theorem aAny_alts {hd : Nat → Bool} {s0 : Store} {Kk : Env → Store → Prop} {fuel : Nat} {listed : Array Bool} {e : Env} {σ : Store} {l : List Nat} (hr : Region.ready .any ops listed = l) (hne : l ≠ [])
    (h : ∀ i ∈ l, i ∈ Region.ready .any ops listed → aOpAt P ops i (fun e' σ' => (hd i = true → s0.Sub σ → s0.Sub σ') ∧ aAny P ops hd s0 Kk fuel (listed.setIfInBounds i true) e' σ') e σ) : aAny P ops hd s0 Kk (fuel + 1) listed e σ :=
  ⟨fun h0 => absurd (hr.symm.trans h0) hne, fun i hi => h i (hr ▸ hi) hi⟩

theorem aAny_of_dRun {hd : Nat → Bool} {s0 : Store} {Kk : Env → Store → Prop} : ∀ (t : DT) (tl : Bool) (listed : Array Bool) (e : Env) (σ : Store), Closed ops listed → (tl = true ∨ s0.Sub σ) → dRun P ops s0 Kk t e σ →
    (okT ops hd t false tl listed = true → ∀ fuel, t.depth ≤ fuel → aAny P ops hd s0 Kk fuel listed e σ) ∧
    (∀ b, okT ops hd t b tl listed = true → ∀ fuel, t.depth ≤ fuel + 1 → (∀ i r, t ≠ .op i 0 r) → (∀ i r, t ≠ .any i r) → ∀ i ∈ t.alts, i ∈ Region.ready .any ops listed → aOpAt P ops i (fun e' σ' => (hd i = true → s0.Sub σ → s0.Sub σ') ∧ aAny P ops hd s0 Kk fuel (listed.setIfInBounds i true) e' σ') e σ)
  | .nil, tl, listed, e, σ, hcl, hs, h => ⟨fun hB fuel _ => aAny_end fuel (by simpa [okT] using hB) h, fun _ _ _ _ _ _ i hi => by cases hi⟩
  | .op i 0 r, tl, listed, e, σ, hcl, hs, h => by
    refine ⟨fun hB fuel hf => ?_, fun _ _ _ _ hne _ => absurd rfl (hne i r)⟩
    obtain ⟨o, a, ho, hy, hrest⟩ := h
    simp only [okT, Bool.and_eq_true, Bool.or_eq_true, Bool.not_eq_true', beq_iff_eq, ho, Option.map_some, Option.some.injEq] at hB
    obtain ⟨⟨⟨⟨_, hr⟩, hfr⟩, htail⟩, hB'⟩ := hB
    have hr' : i ∈ Region.ready .any ops listed := by simpa using hr
    cases fuel with
    | zero => simp [DT.depth] at hf
    | succ fuel =>
      have hnext := (aAny_of_dRun r tl _ _ σ (hcl.set hr') hs hrest).1 hB' fuel (by simpa [DT.depth] using hf)
      rcases htail with hsl | ⟨htl, htail⟩
      · exact aAny_first (Y := fun e => AYields P ops s0 o a e) (G := fun _ => True) ho (fun d b e' hd' hy' => hy'.other hd') (fun e σ hy' _ => ⟨σ, .refl σ, hy'.less hsl⟩) (.inl fun _ => trivial) fuel listed e σ hcl trivial (Region.free_spec ho hfr) hr' hy hnext
      · have hs' : s0.Sub σ := hs.resolve_left (by rw [htl]; decide)
        exact aAny_first (Y := fun e => AYields P ops s0 o a e) (G := fun σ => s0.Sub σ) ho (fun d b e' hd' hy' => hy'.other hd') (fun e σ hy' hs => ⟨s0, hs, hy'⟩) (.inr ⟨fun _ => Iff.rfl, fun t htlt hht => by
          have := List.all_eq_true.1 htail t (List.mem_range.2 htlt)
          simpa [hht] using this⟩) fuel listed e σ hcl hs' (Region.free_spec ho hfr) hr' hy hnext
  | .any i r, tl, listed, e, σ, hcl, hs, h => by
    refine ⟨fun hB fuel hf => ?_, fun _ _ _ _ _ hne => absurd rfl (hne i r)⟩
    obtain ⟨o, a, ho, hy, hrest⟩ := h
    simp only [okT, Bool.and_eq_true, Bool.not_eq_true'] at hB
    obtain ⟨⟨⟨_, hr⟩, hfr⟩, hB'⟩ := hB
    have hr' : i ∈ Region.ready .any ops listed := by simpa using hr
    cases fuel with
    | zero => simp [DT.depth] at hf
    | succ fuel =>
      have hnext := (aAny_of_dRun r tl _ _ σ (hcl.set hr') hs hrest).1 hB' fuel (by simpa [DT.depth] using hf)
      exact aAny_first (Y := fun e => ∀ s, AYields P ops s o a e) (G := fun _ => True) ho (fun d b e' hd' hy' s => (hy' s).other hd') (fun e σ hy' _ => ⟨σ, .refl σ, hy' σ⟩) (.inl fun _ => trivial) fuel listed e σ hcl trivial (Region.free_spec ho hfr) hr' hy hnext
  | .op i 1 r, tl, listed, e, σ, hcl, hs, h => by
    have key : ∀ b, okT ops hd (.op i 1 r) b tl listed = true → ∀ fuel, (DT.op i 1 r).depth ≤ fuel + 1 → i ∈ Region.ready .any ops listed → aOpAt P ops i (fun e' σ' => (hd i = true → s0.Sub σ → s0.Sub σ') ∧ aAny P ops hd s0 Kk fuel (listed.setIfInBounds i true) e' σ') e σ := by
      intro b hB fuel hf hi
      obtain ⟨o, ho, hst⟩ := h
      simp only [okT, Bool.and_eq_true] at hB
      unfold aOpAt
      simp only [ho]
      exact aStep_mono (fun e' σ' hk => ⟨fun _ _ => hk.1, (aAny_of_dRun r _ _ _ σ' (hcl.set hi) (.inr hk.1) hk.2).1 hB.2 fuel (by simpa [DT.depth] using hf)⟩) hst
    refine ⟨fun hB fuel hf => ?_, fun b hB fuel hf _ _ j hj hr => by
      have hji : j = i := by simpa [DT.alts] using hj
      rw [hji] at hr ⊢; exact key b hB fuel hf hr⟩
    cases fuel with
    | zero => simp [DT.depth] at hf
    | succ fuel =>
      have hr : Region.ready .any ops listed = [i] := by simp only [okT, Bool.and_eq_true, Bool.or_eq_true, decide_eq_true_eq] at hB; exact hB.1.1.1.resolve_left (by decide)
      exact aAny_alts hr (by simp) fun j hj hjr => by
        have hji : j = i := by simpa using hj
        rw [hji] at hjr ⊢; exact key false hB fuel hf hjr
  | .op i (q + 2) r, tl, listed, e, σ, hcl, hs, h => by
    have key : ∀ b, okT ops hd (.op i (q + 2) r) b tl listed = true → ∀ fuel, (DT.op i (q + 2) r).depth ≤ fuel + 1 → i ∈ Region.ready .any ops listed → aOpAt P ops i (fun e' σ' => (hd i = true → s0.Sub σ → s0.Sub σ') ∧ aAny P ops hd s0 Kk fuel (listed.setIfInBounds i true) e' σ') e σ := by
      intro b hB fuel hf hi
      obtain ⟨o, ho, hst⟩ := h
      simp only [okT, Bool.and_eq_true, beq_iff_eq] at hB
      unfold aOpAt
      simp only [ho]
      exact aStep_mono (fun e' σ' hk => ⟨fun h1 _ => by rw [hB.1.1.2] at h1; simp at h1, (aAny_of_dRun r _ _ _ σ' (hcl.set hi) (.inl (by simp)) hk).1 hB.2 fuel (by simpa [DT.depth] using hf)⟩) hst
    refine ⟨fun hB fuel hf => ?_, fun b hB fuel hf _ _ j hj hr => by
      have hji : j = i := by simpa [DT.alts] using hj
      rw [hji] at hr ⊢; exact key b hB fuel hf hr⟩
    cases fuel with
    | zero => simp [DT.depth] at hf
    | succ fuel =>
      have hr : Region.ready .any ops listed = [i] := by simp only [okT, Bool.and_eq_true, Bool.or_eq_true, decide_eq_true_eq] at hB; exact hB.1.1.1.resolve_left (by decide)
      exact aAny_alts hr (by simp) fun j hj hjr => by
        have hji : j = i := by simpa using hj
        rw [hji] at hjr ⊢; exact key false hB fuel hf hjr
  | .alt i 0 r t, tl, listed, e, σ, hcl, hs, h => ⟨fun hB => by simp [okT] at hB, fun b hB => by simp [okT] at hB⟩
  | .alt i 1 r t, tl, listed, e, σ, hcl, hs, h => by
    have key : ∀ b, okT ops hd (.alt i 1 r t) b tl listed = true → ∀ fuel, (DT.alt i 1 r t).depth ≤ fuel + 1 → ∀ j ∈ (DT.alt i 1 r t).alts, j ∈ Region.ready .any ops listed → aOpAt P ops j (fun e' σ' => (hd j = true → s0.Sub σ → s0.Sub σ') ∧ aAny P ops hd s0 Kk fuel (listed.setIfInBounds j true) e' σ') e σ := by
      intro b hB fuel hf j hj hjr
      obtain ⟨⟨o, ho, hst⟩, ht⟩ := h
      simp only [okT, Bool.and_eq_true] at hB
      simp only [DT.depth] at hf
      have ih := aAny_of_dRun (hd := hd) t tl listed e σ hcl hs ht
      rcases List.mem_cons.1 hj with rfl | hj
      · unfold aOpAt
        simp only [ho]
        exact aStep_mono (fun e' σ' hk => ⟨fun _ _ => hk.1, (aAny_of_dRun r _ _ _ σ' (hcl.set hjr) (.inr hk.1) hk.2).1 hB.1.2 fuel (by omega)⟩) hst
      · refine ih.2 true hB.2 fuel (by omega) (fun i' r' hh => ?_) (fun i' r' hh => ?_) j hj hjr
        all_goals (have := hB.2; rw [hh] at this; simp [okT] at this)
    refine ⟨fun hB fuel hf => ?_, fun b hB fuel hf _ _ j hj hr => key b hB fuel hf j hj hr⟩
    cases fuel with
    | zero => simp only [DT.depth] at hf; omega
    | succ fuel =>
      have hr : Region.ready .any ops listed = i :: t.alts := by simp only [okT, Bool.and_eq_true, Bool.or_eq_true, decide_eq_true_eq] at hB; exact hB.1.1.1.1.resolve_left (by decide)
      exact aAny_alts hr (by simp) fun j hj hjr => key false hB fuel hf j hj hjr
  | .alt i (q + 2) r t, tl, listed, e, σ, hcl, hs, h => by
    have key : ∀ b, okT ops hd (.alt i (q + 2) r t) b tl listed = true → ∀ fuel, (DT.alt i (q + 2) r t).depth ≤ fuel + 1 → ∀ j ∈ (DT.alt i (q + 2) r t).alts, j ∈ Region.ready .any ops listed → aOpAt P ops j (fun e' σ' => (hd j = true → s0.Sub σ → s0.Sub σ') ∧ aAny P ops hd s0 Kk fuel (listed.setIfInBounds j true) e' σ') e σ := by
      intro b hB fuel hf j hj hjr
      obtain ⟨⟨o, ho, hst⟩, ht⟩ := h
      simp only [okT, Bool.and_eq_true, beq_iff_eq] at hB
      simp only [DT.depth] at hf
      have ih := aAny_of_dRun (hd := hd) t tl listed e σ hcl hs ht
      rcases List.mem_cons.1 hj with rfl | hj
      · unfold aOpAt
        simp only [ho]
        exact aStep_mono (fun e' σ' hk => ⟨fun h1 _ => by rw [hB.1.1.1.2] at h1; simp at h1, (aAny_of_dRun r _ _ _ σ' (hcl.set hjr) (.inl (by simp)) hk).1 hB.1.2 fuel (by omega)⟩) hst
      · refine ih.2 true hB.2 fuel (by omega) (fun i' r' hh => ?_) (fun i' r' hh => ?_) j hj hjr
        all_goals (have := hB.2; rw [hh] at this; simp [okT] at this)
    refine ⟨fun hB fuel hf => ?_, fun b hB fuel hf _ _ j hj hr => key b hB fuel hf j hj hr⟩
    cases fuel with
    | zero => simp only [DT.depth] at hf; omega
    | succ fuel =>
      have hr : Region.ready .any ops listed = i :: t.alts := by simp only [okT, Bool.and_eq_true, Bool.or_eq_true, decide_eq_true_eq] at hB; exact hB.1.1.1.1.resolve_left (by decide)
      exact aAny_alts hr (by simp) fun j hj hjr => key false hB fuel hf j hj hjr

/-- all that is asked of an order, for the kernel -/
def okDraw (n : Nat) (ops : Array Oper) (t : DT) : Bool :=
  decide (t.depth ≤ ops.size) && ops.all (dstOk n ops) && okT ops (fun i => !t.tails.contains i) t false false (Array.replicate ops.size false)

theorem awp_draw {n id : Nat} {l : List Oper} {Q : Exit → Env → Store → Prop} {e : Env} {σ : Store} (t : DT) (hm : P.follows .mixedOrders = true) (hB : okDraw n l.toArray t = true)
    (h : dRun P l.toArray σ (Q .normal) t e σ) : awp P n (.region id l.toArray true) Q e σ := by
  intro κ a hs
  simp only [okDraw, Bool.and_eq_true, decide_eq_true_eq] at hB
  obtain ⟨⟨hlen, hdst⟩, hok⟩ := hB
  have hI := hs.inv.drew
  have hs' : ASat { κ with w := κ.w.drew } n e σ a := ⟨hs.defers, hs.size, fun k => (hs.env k).mono hI.1, hI.2⟩
  refine wp_region_any hm ?_
  have key := (aAny_of_dRun (P := P) (ops := l.toArray) (hd := fun i => !t.tails.contains i) (s0 := σ) (Kk := Q .normal) t false (Array.replicate l.toArray.size false) e σ ⟨by simp, fun j oj _ hl => (by rw [none_listed] at hl; cases hl)⟩ (.inr (.refl σ)) h).1 hok _ hlen
  exact wpAny_of_aAny (κ0 := κ) (fun i o ho => Array.all_eq_true_iff_forall_mem.1 hdst o (Array.mem_of_getElem? ho)) (fun κ' e' σ' a' hle hs'' hk => ⟨κ', e', σ', rfl, hle, hs'', hk⟩) _ _ e σ { κ with w := κ.w.drew } a hI.1 hs' key

end
end Go.Ab
end
