/-
  BYTES: a string's bytes as a slice; append to a slice that has no room (or to nil), of a slice's elements or a string's bytes; append of a string's bytes to a slice of one's own. Own work (an AI agent).
-/
import Derived.Test.YtdedpamcpgbgmaaAbOps2
import Derived.Laws.IdiomStrings
import Derived.Deep.AppendSrc
set_option linter.all false
namespace Go.Ab
open Go.RowKit (Below)

/-- a string's bytes, as elements -/
def bytesL (s : ByteArray) : List AVal := s.data.toList.map fun b => .lit (.int .u8 b.toNat)

theorem bytesL_length (s : ByteArray) : (bytesL s).length = s.size := by
  unfold bytesL
  rw [List.length_map, Array.length_toList]
  rfl
theorem bytesL_cells (s : ByteArray) : ∀ x ∈ bytesL s, x.cells.length = 1 := by
  intro x hx
  obtain ⟨b, _, rfl⟩ := List.mem_map.1 hx
  rfl
theorem bytesL_ones (s : ByteArray) : ∀ y ∈ bytesL s, ∀ c ∈ y.cells, c.one = true := by
  intro x hx c hc
  obtain ⟨b, _, rfl⟩ := List.mem_map.1 hx
  obtain rfl : c = _ := List.mem_singleton.1 hc
  rfl
theorem bytesL_append (s t : ByteArray) : bytesL s ++ bytesL t = bytesL (s ++ t) := by
  unfold bytesL
  rw [← List.map_append]
  have : (s ++ t).data = s.data ++ t.data := ByteArray.data_append ..
  rw [this, Array.toList_append]
theorem bytesL_empty : bytesL ByteArray.empty = [] := rfl
theorem flat_bytesL (s : ByteArray) : flat (bytesL s) = bytesL s := by
  unfold bytesL flat
  induction s.data.toList with
  | nil => rfl
  | cons b l ih => simpa [AVal.cells] using ih
theorem numsOf_bytesL (s : ByteArray) : numsOf (bytesL s) = some (s.data.toList.map fun b => (b.toNat : Int)) := by
  unfold bytesL
  induction s.data.toList with
  | nil => rfl
  | cons b l ih => simp only [List.map_cons, numsOf, ih, Option.map_some]
theorem strOf_bytes (s : ByteArray) : strOf (s.data.toList.map fun b => (b.toNat : Int)) = s := by
  unfold strOf
  rw [foldl_push_byteCells]
  cases s with
  | mk d =>
    simp [ByteArray.empty, ByteArray.emptyWithCapacity]
    try rfl
theorem astringOf_sl (s : ByteArray) (t : Bool) : astringOf (.sl 1 (bytesL s) t) = some (.lit (.string s)) := by
  simp [astringOf, slOf, numsOf_bytesL, strOf_bytes]
theorem astringOf_own (s : ByteArray) (k : Nat) : astringOf (.own k 1 (bytesL s)) = some (.lit (.string s)) := by
  simp [astringOf, slOf, numsOf_bytesL, strOf_bytes]
theorem astringOf_nil : astringOf (.lit (.slice none 0 0)) = some (.lit (.string ByteArray.empty)) := rfl
theorem bytesL_take_drop (s : ByteArray) (l h : Nat) : ((bytesL s).take h).drop l = bytesL (s.extract l h) := by
  unfold bytesL
  rw [← List.map_take, ← List.map_drop]
  congr 1
  have : (s.extract l h).data = s.data.extract l h := ByteArray.data_extract ..
  rw [this, Array.toList_extract]
  simp [List.extract_eq_drop_take, List.drop_take]

theorem bytesL_take (s : ByteArray) (h : Nat) : (bytesL s).take h = bytesL (s.extract 0 h) := by
  have := bytesL_take_drop s 0 h
  rwa [List.drop_zero] at this
theorem extract_all (s : ByteArray) : s.extract 0 s.size = s := by
  apply ByteArray.ext
  have : (s.extract 0 s.size).data = s.data.extract 0 s.size := ByteArray.data_extract ..
  rw [this]
  exact Array.extract_size

theorem RvC.byteCells {κ : K} (s : ByteArray) : RvC κ (bytesL s) (byteCells s) :=
  ⟨by rw [bytesL_length, byteCells_length], fun i hi hj => by
    simp only [bytesL, Go.byteCells, List.getElem_map]
    exact .lit _⟩

section
variable {P : Program} {o : Oper} {α : Operand → AVal} {σ : Store} {Kk : AVal → Store → Prop}

/-- a new block that is never written again -/
theorem new_imm {κ : K} (hI : Inv κ σ) {w1 : World} (hw1 : w1 = κ.w ∨ w1 = κ.w.drew) (x : Obj) (n : Nat) :
    ∃ κ' : K, κ'.w = w1.alloc x ∧ κ.Le κ' ∧ κ'.I κ.w.heap.size = n ∧ Inv κ' σ := by
  have hh : w1.heap = κ.w.heap := by rcases hw1 with rfl | rfl <;> rfl
  have hle : κ.Le { κ with w := w1.alloc x, I := fun b => if b = κ.w.heap.size then n else κ.I b } := by
    refine ⟨rfl, ?_, fun b s h => ?_, fun _ _ h => h, fun _ _ h => h, fun b => ?_, fun b off v _ hv => ?_⟩
    · rcases hw1 with rfl | rfl
      · exact (Below.refl _ _).alloc hI.base _
      · exact ((Below.refl _ _).drew).alloc hI.base _
    · rcases hw1 with rfl | rfl
      · exact shape?_alloc_old κ.w _ b s h
      · exact shape?_alloc_old κ.w.drew _ b s h
    · show _ ≤ (if b = _ then _ else _)
      split
      · rename_i hh; subst hh; rw [hI.frI _ (Nat.le_refl _)]; exact Nat.zero_le _
      · exact Nat.le_refl _
    · rcases hw1 with rfl | rfl
      · exact cell?_alloc_old' κ.w _ b off v hv
      · exact cell?_alloc_old' κ.w.drew _ b off v hv
  refine ⟨{ κ with w := w1.alloc x, I := fun b => if b = κ.w.heap.size then n else κ.I b }, rfl, hle, by simp, hI.quiet hle rfl rfl (fun b hb => ?_) (fun b hb => ?_) (fun b hb => ?_)⟩
  · show (if b = _ then _ else _) = _
    rw [if_neg (by omega)]
  · show (if b = _ then _ else _) = _
    have hb' : κ.w.heap.size + 1 ≤ b := by simpa [hh] using hb
    rw [if_neg (by omega)]
    exact hI.frI b (by omega)
  · rcases hw1 with rfl | rfl
    · exact Below.heap_alloc κ.w _ b hb
    · exact Below.heap_alloc κ.w.drew _ b hb

/-- '[]byte(s)' -/
theorem AOp_bytesOf {src dst e : TypeId} {x : Operand} {s : ByteArray} (ho : o.op = .convert src dst x) (hs : P.underlying src = some .string) (hd : P.underlying dst = some (.slice e)) (he : P.underlying e = some (.int .u8)) (hx : α x = .lit (.string s))
    (hk : Kk (.sl 1 (bytesL s) false) σ) : AOp P o α σ Kk := by
  obtain ⟨dst', op, ty, pos, after, guard⟩ := o
  obtain rfl : op = .convert src dst x := ho
  intro κ ev hI hxx
  have hv := hxx x (by simp [Op.operands])
  rw [hx] at hv
  have hv' := hv.litInv
  have hr := run_bytes_of_string (P := P) κ.w src dst e s hs hd he
  obtain ⟨κ', hw, hle, hIb, hI'⟩ := new_imm hI (.inr rfl) (.cells (bytesRow s (grownCap κ.w s.size 0 e)) e ((bytesRow s (grownCap κ.w s.size 0 e)).size, (bytesRow s (grownCap κ.w s.size 0 e)).size + 1)) s.size
  refine upon_v (s := Go.convert src dst (ev x)) rfl ⟨_, _, by rw [hv']; exact hr, κ', _, σ, hw, hle, hI', ?_, hk⟩
  have hge := grownCap_ge κ.w s.size 0 e
  have := Rv.sl (κ := κ') 1 (bytesL s) false κ.w.heap.size 0 (grownCap κ.w s.size 0 e) (fun k => (byteCells s).getD k undef) (by rw [bytesL_length]; exact hge) (by simp) (bytesL_cells s)
    (fun k hk => by
      rw [flat_bytesL, bytesL_length] at hk
      rw [hIb, hw]
      refine ⟨by omega, ?_⟩
      show (κ.w.drew.alloc _).cell? ⟨κ.w.drew.heap.size, _, none⟩ = _
      rw [cell_of_row _ _ _ _ _ _ (heap_alloc_new κ.w.drew _)]
      have h1 : k < (s.data.map fun b => Value.int .u8 b.toNat).size := by simpa using hk
      rw [Nat.zero_add, bytesRow, Array.getElem?_append_left h1]
      have h2 : k < (byteCells s).length := by rw [byteCells_length]; exact hk
      simp only [Array.getElem?_map, List.getD, List.getElem?_eq_getElem h2, Option.getD_some]
      simp only [Go.byteCells, List.getElem_map, Array.getElem_toList]
      have h3 : k < s.data.size := by simpa using h1
      rw [Array.getElem?_eq_getElem h3]
      rfl)
    (fun k hk => by
      have hk' := hk
      rw [flat_bytesL, bytesL_length] at hk'
      have h2 : k < (byteCells s).length := by rw [byteCells_length]; exact hk'
      have := (RvC.byteCells (κ := κ') s).2 k (by rw [bytesL_length]; exact hk') h2
      simp only [flat_bytesL]
      simpa [h2] using this)
  rwa [bytesL_length] at this

/-- what a second argument of append yields -/
def ASrc (P : Program) (sz : Nat) (tx : TypeId) (x : AVal) (l2 : List AVal) : Prop :=
  ((∃ e', P.underlying tx = some (.slice e')) ∧ (slOf x = some (sz, l2) ∨ (x = .lit (.slice none 0 0) ∧ l2 = [])) ∧ ∀ y ∈ l2, ∀ c ∈ y.cells, c.one = true) ∨
  (P.underlying tx = some .string ∧ sz = 1 ∧ ∃ s, x = .lit (.string s) ∧ l2 = bytesL s)

theorem ASrc.spec {κ : K} {sz : Nat} {tx : TypeId} {x : AVal} {l2 : List AVal} {v : Value} (h : ASrc P sz tx x l2) (hr : Rv κ x v) :
    ∃ news, (∀ y ∈ l2, y.cells.length = sz) ∧ RvC κ (flat l2) news ∧ Src P sz tx v l2.length news κ.w := by
  rcases h with ⟨⟨e', hk⟩, hx, hone⟩ | ⟨hk, rfl, s, rfl, rfl⟩
  · have key : ∃ a cap us, v = .slice a l2.length cap ∧ (∀ y ∈ l2, y.cells.length = sz) ∧ RvC κ (flat l2) us ∧ ((a = none ∧ l2 = [] ∧ cap = 0) ∨ ∃ ad : Addr, a = some ad ∧ ∀ j u, us[j]? = some u → κ.w.cell? (ad.add j) = some u) := by
      rcases hx with hx | ⟨rfl, rfl⟩
      · exact sl_vals (slOf_rv hx hr)
      · exact ⟨none, 0, [], hr.litInv, by simp, .nil, .inl ⟨rfl, rfl, rfl⟩⟩
    obtain ⟨a, cap, us, rfl, hsz, hrc, hc⟩ := key
    have hl : us.length = l2.length * sz := by rw [← hrc.1, flat_length hsz]
    have hones : ∀ u ∈ us, u.oneCell' = true := by
      intro u hu
      obtain ⟨j, hj, rfl⟩ := List.getElem_of_mem hu
      have hj' : j < (flat l2).length := by rw [hrc.1]; exact hj
      refine ((hrc.2 j hj' hj).one ?_).1
      have : (flat l2)[j] ∈ flat l2 := List.getElem_mem hj'
      unfold flat at this
      obtain ⟨y, hy, hc⟩ := List.mem_flatMap.1 this
      exact hone y hy _ hc
    rcases hc with ⟨rfl, rfl, rfl⟩ | ⟨ad, rfl, hcu⟩
    · obtain rfl : us = [] := List.eq_nil_of_length_eq_zero (by simpa using hl)
      exact ⟨[], hsz, hrc, Src.ofNil κ.w hk 0⟩
    · exact ⟨us, hsz, hrc, Src.ofSlice κ.w hk ad l2.length cap us hl hcu hones⟩
  · obtain rfl := hr.litInv
    refine ⟨byteCells s, bytesL_cells s, by rw [flat_bytesL]; exact RvC.byteCells s, ?_⟩
    rw [bytesL_length]
    exact Src.ofString κ.w hk s

theorem run_append_zero {tx ty t e : TypeId} {i : TypeInfo} {sz : Nat} (ht : P.underlying t = some (.slice e)) (hi : P.info? e = some i) (hsz : i.size = sz) {w : World} {x : Value} {news : List Value} (hs : Src P sz tx x 0 news w) (a : Option Addr) (n cap : Nat) (hn : n ≤ cap) :
    (Builtin.append_ #[t, tx] ty #[.slice a n cap, x]).run P w = .ok (.slice a n cap) w := by
  subst hsz
  have hnews : news = [] := List.eq_nil_of_length_eq_zero (by simpa using hs.newsLen)
  subst hnews
  cases a <;> rcases hs.kind with ⟨e', hk⟩ | hk <;> simp [Builtin.append_, run_underlying ht, run_underlying hk, sizeOf, typeInfo, hi, hs.len, hs.cells, hn, storeCells]

/-- append to a slice that has no room -/
theorem AOp_appendTight {s x : Operand} {t tx e : TypeId} {sz by_ : Nat} {l l2 : List AVal}
    (ho : o.op = .call { callee := .builtin .append, args := #[s, x], argTypes := #[t, tx] }) (hse : sliceElem P t = some e) (hte : appInfo P e = some (sz, by_))
    (hs : α s = .sl sz l true ∨ (α s = .lit (.slice none 0 0) ∧ l = [])) (hx : ASrc P sz tx (α x) l2) (hlen : (l.length + l2.length) * by_ ≤ 140737488355328)
    (hk : Kk (.sl sz (l ++ l2) false) σ) : AOp P o α σ Kk := by
  obtain ⟨dst, op, ty, pos, after, guard⟩ := o
  obtain rfl : op = .call { callee := .builtin .append, args := #[s, x], argTypes := #[t, tx] } := ho
  intro κ ev hI hxx
  obtain ⟨i, z, hi, hz, hisz, hiby, hzs, hsz, hby⟩ := appInfo_spec hte
  have hts : P.underlying t = some (.slice e) := by
    unfold sliceElem at hse
    split at hse
    · rename_i e' he'; obtain rfl := Option.some.inj hse; exact he'
    · cases hse
  have hvs : Rv κ (.sl sz l true) (ev s) := by
    have := hxx s (by simp [Op.operands, Call.operands])
    rcases hs with hs | ⟨hs, rfl⟩
    · rwa [hs] at this
    · rw [hs] at this
      rw [this.litInv]
      exact .slNil _ _
  obtain ⟨news, hl2sz, hnr, hsrc⟩ := hx.spec (hxx x (by simp [Op.operands, Call.operands]))
  have hle47 : l.length + l2.length ≤ 140737488355328 := Nat.le_trans (Nat.le_mul_of_pos_right _ hby) hlen
  obtain ⟨a, us, hev, hlsz, hus, hac⟩ : ∃ a us, ev s = .slice a l.length l.length ∧ (∀ y ∈ l, y.cells.length = sz) ∧ RvC κ (flat l) us ∧ ((a = none ∧ l = []) ∨ ∃ ad : Addr, a = some ad ∧ ∀ j u, us[j]? = some u → κ.w.cell? (ad.add j) = some u) := by
    obtain ⟨a, cap, us, hev, h1, h2, h3⟩ := sl_vals (hvs.wk (.sl1 ..))
    have hcap : cap = l.length := by
      rcases hvs.slInv with ⟨a', e1, e2⟩ | ⟨b, off, cap', vals, e1, _, e2, _⟩
      · subst e2; rw [hev] at e1; simp at e1; simp [e1.2]
      · rw [hev] at e1; simp at e1; have := e2 rfl; omega
    subst hcap
    exact ⟨a, us, hev, h1, h2, h3.imp (fun h => ⟨h.1, h.2.1⟩) id⟩
  by_cases hm : l2.length = 0
  · obtain rfl : l2 = [] := List.eq_nil_of_length_eq_zero hm
    have hr := run_append_zero (P := P) (ty := ty) hts hi hisz hsrc a l.length l.length (Nat.le_refl _)
    rw [← hev] at hr
    rw [List.append_nil] at hk
    exact upon_v (s := Builtin.append_ #[t, tx] ty #[ev s, ev x]) (by simp [execOp, resolve, invoke, builtin]) ⟨_, _, hr, κ, _, σ, rfl, .refl κ, hI, hvs.wk (.sl1 ..), hk⟩
  · have hul : us.length = l.length * sz := by rw [← hus.1, flat_length hlsz]
    have hold : (Builtin.firstCells i.size l.length (.slice a l.length l.length)).run P κ.w.drew = .ok us.toArray κ.w.drew := by
      rcases hac with ⟨rfl, rfl⟩ | ⟨ad, rfl, hcu⟩
      · obtain rfl : us = [] := List.eq_nil_of_length_eq_zero (by simpa using hul)
        exact run_firstCells_none κ.w.drew i.size 0 0 0
      · exact run_firstCells_some κ.w.drew i.size l.length ad l.length l.length us (by rw [hisz]; exact hul) (by simpa using hcu)
    have hr := run_append_grow_src (P := P) κ.w t tx ty e i z hts hi hz a l.length l.length us hold (ev x) l2.length news (by rw [hisz]; exact hsrc) (by omega) (by omega) (growslice_fits (by omega) (by rw [hiby]; exact hlen))
    rw [← hev] at hr
    have hge := grownCap_ge κ.w (l.length + l2.length) l.length e
    obtain ⟨κ', hw, hle, hIb, hI'⟩ := new_imm hI (.inr rfl) (.cells ((us ++ news).toArray ++ Builtin.zeroCells z.cells (grownCap κ.w (l.length + l2.length) l.length e - (l.length + l2.length))) e) ((l.length + l2.length) * sz)
    have hszall : ∀ y ∈ l ++ l2, y.cells.length = sz := fun y hy => (List.mem_append.1 hy).elim (hlsz y) (hl2sz y)
    have hrc : RvC κ' (flat (l ++ l2)) (us ++ news) := by rw [flat_append]; exact (hus.mono hle).append (hnr.mono hle)
    have hfl : (flat (l ++ l2)).length = (l.length + l2.length) * sz := by rw [flat_length hszall, List.length_append]
    refine upon_v (s := Builtin.append_ #[t, tx] ty #[ev s, ev x]) (by simp [execOp, resolve, invoke, builtin]) ⟨_, _, hr, κ', _, σ, hw, hle, hI', ?_, hk⟩
    have := Rv.sl (κ := κ') sz (l ++ l2) false κ.w.heap.size 0 (grownCap κ.w (l.length + l2.length) l.length e) (fun k => (us ++ news).getD k undef) (by rw [List.length_append]; exact hge) (by simp) hszall
      (fun k hk => by
        have hk1 : k < (us ++ news).length := by rw [← hrc.1]; exact hk
        rw [hIb, hw]
        refine ⟨by omega, ?_⟩
        show (κ.w.drew.alloc _).cell? ⟨κ.w.drew.heap.size, _, none⟩ = _
        rw [cell_of_row _ _ _ _ _ _ (heap_alloc_new κ.w.drew _), Nat.zero_add, Array.getElem?_append_left (by simpa using hk1), List.getElem?_toArray, List.getD_eq_getElem?_getD, List.getElem?_eq_getElem hk1]
        rfl)
      (fun k hk => by
        have hk1 : k < (us ++ news).length := by rw [← hrc.1]; exact hk
        have := hrc.2 k hk hk1
        rw [List.getD_eq_getElem?_getD, List.getElem?_eq_getElem hk1]
        exact this)
    rwa [List.length_append] at this

end

end Go.Ab
