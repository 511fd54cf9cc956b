/-
  SLICES THAT ARE WRITTEN: append to a slice into an object (its name goes to a new one). Own work (an AI agent).
-/
import Derived.Test.YtdedpamcpgbgmaaAbOps4
set_option linter.all false
namespace Go.Ab
open Go.RowKit (Below)

def Store.delO (σ : Store) : Option Nat → Store
  | none => σ
  | some o => σ.del o
theorem Store.del_sub (σ : Store) (o : Nat) : (σ.del o).Sub σ := ⟨fun i x h => by
  unfold Store.del at h
  dsimp only at h
  split at h
  · cases h
  · exact h, fun _ _ h => h⟩
theorem Store.delO_sub (σ : Store) (o : Option Nat) : (σ.delO o).Sub σ := by
  cases o with
  | none => exact .refl σ
  | some o => exact σ.del_sub o
theorem Store.del_get (σ : Store) (o : Nat) : (σ.del o).heap o = none := by simp [Store.del]
theorem Store.del_ne (σ : Store) {o i : Nat} (h : i ≠ o) : (σ.del o).heap i = σ.heap i := by simp [Store.del, h]

section
variable {P : Program} {o : Oper} {α : Operand → AVal} {σ : Store} {Kk : AVal → Store → Prop}

theorem run_append_room' (w : World) (t ty e e' : TypeId) (i : TypeInfo) (ht : P.underlying t = some (.slice e)) (hi : P.info? e = some i)
    (g sLen sCap : Nat) (cur : Array Value) (hg : w.heap[g]? = some (.cells cur e' (0, 0)))
    (a : Addr) (m c : Nat) (news : List Value) (hl : news.length = m * i.size) (hnews : ∀ j u, news[j]? = some u → w.cell? (a.add j) = some u) (h1 : ∀ u ∈ news, u.oneCell' = true)
    (hroom : sLen + m ≤ sCap) (hfit : sLen * i.size + news.length ≤ cur.size) :
    (Builtin.append_ #[t, t] ty #[.slice (some ⟨g, 0, none⟩) sLen sCap, .slice (some a) m c]).run P w =
      .ok (.slice (some ⟨g, 0, none⟩) (sLen + m) sCap) (w.setRow g (cur.toList.take (sLen * i.size) ++ news ++ cur.toList.drop (sLen * i.size + news.length)).toArray) := by
  have hf := run_firstCells_some (P := P) w i.size m a m c news hl hnews
  have hst := run_storeCells_at P g (sLen * i.size) e' news 0 cur w hg (by simpa using hfit) h1
  simp only [Nat.add_zero] at hst
  simp [Builtin.append_, run_underlying ht, sizeOf, typeInfo, hi, Builtin.lenOf, hroom, hf, Addr.add_lit, hst]

theorem AOp_appendM {s x : Operand} {t e : TypeId} {sz by_ len : Nat} {l2 base : List AVal} {old : Option Nat}
    (ho : o.op = .call { callee := .builtin .append, args := #[s, x], argTypes := #[t, t] }) (hse : sliceElem P t = some e) (hte : appInfo P e = some (sz, by_))
    (hs : (∃ so cs, α s = .msl so sz 0 len ∧ σ.heap so = some (.cells cs) ∧ old = some so ∧ base = cs.take (len * sz) ∧ len * sz ≤ cs.length) ∨ (α s = .lit (.slice none 0 0) ∧ len = 0 ∧ base = [] ∧ old = none))
    (hx : slOf (α x) = some (sz, l2)) (hne : l2 ≠ []) (hone : ∀ y ∈ l2, ∀ c ∈ y.cells, c.one = true)
    (hlen : (len + l2.length) * by_ ≤ 140737488355328)
    (hk : ∀ o', σ.heap o' = none → Kk (.msl o' sz 0 (len + l2.length)) ((σ.delO old).set o' (.cells (base ++ flat l2)))) : AOp P o α σ Kk := by
  obtain ⟨dst, op, ty, pos, after, guard⟩ := o
  obtain rfl : op = .call { callee := .builtin .append, args := #[s, x], argTypes := #[t, t] } := ho
  intro κ ev hI hxx
  obtain ⟨i, z, hi, hz, hisz, hiby, hzs, hsz, hby⟩ := appInfo_spec hte
  subst hisz
  subst hiby
  have hts : P.underlying t = some (.slice e) := by
    unfold sliceElem at hse
    split at hse
    · rename_i e' he'; obtain rfl := Option.some.inj hse; exact he'
    · cases hse
  have hvs := hxx s (by simp [Op.operands, Call.operands])
  have hvx := hxx x (by simp [Op.operands, Call.operands])
  have hm : 0 < l2.length := List.length_pos_iff.2 hne
  have hle47 : len + l2.length ≤ 140737488355328 := Nat.le_trans (Nat.le_mul_of_pos_right _ hby) hlen
  -- what is appended
  obtain ⟨ad, cap2, vs, hevx, hl2sz, hvsr, hcu⟩ : ∃ ad cap2 vs, ev x = .slice (some ad) l2.length cap2 ∧ (∀ y ∈ l2, y.cells.length = i.size) ∧ RvC κ (flat l2) vs ∧ ∀ j u, vs[j]? = some u → κ.w.cell? (ad.add j) = some u := by
    obtain ⟨a, cap, us2, hev, hsz', hr, hc⟩ := sl_vals (slOf_rv hx hvx)
    rcases hc with ⟨_, h0, _⟩ | ⟨ad, rfl, hcu⟩
    · exact absurd h0 hne
    · exact ⟨ad, cap, us2, hev, hsz', hr, hcu⟩
  have hfl2 : vs.length = l2.length * i.size := by rw [← hvsr.1, flat_length hl2sz]
  have hones : ∀ u ∈ vs, u.oneCell' = true := by
    intro u hu
    obtain ⟨j, hj, rfl⟩ := List.getElem_of_mem hu
    have hj' : j < (flat l2).length := by rw [hvsr.1]; exact hj
    refine ((hvsr.2 j hj' hj).one ?_).1
    have : (flat l2)[j] ∈ flat l2 := List.getElem_mem hj'
    unfold flat at this
    obtain ⟨y, hy, hc⟩ := List.mem_flatMap.1 this
    exact hone y hy _ hc
  obtain ⟨o', ho', hfr⟩ := hI.fresh
  have hI0 := hI.sub (Store.delO_sub σ old)
  -- a new block
  have fresh : ∀ (olds : List Value) (cap' : Nat), RvC κ base olds → olds.length = len * i.size → len + l2.length ≤ cap' → 
      Post κ Kk (.slice (some ⟨κ.w.heap.size, 0, none⟩) (len + l2.length) cap') (κ.w.drew.alloc (.cells (olds.toArray ++ vs.toArray ++ Builtin.zeroCells z.cells (cap' - (len + l2.length))) e)) := by
    intro olds cap' hb hol hcap
    have hd := hI0.drew
    have hnew := hb.append hvsr
    have hsize : (olds.toArray ++ vs.toArray ++ Builtin.zeroCells z.cells (cap' - (len + l2.length))).size = cap' * i.size := by
      simp only [Array.size_append, List.size_toArray, size_zeroCells, hzs, hol, hfl2, ← Nat.add_mul]
      congr 1; omega
    obtain ⟨κ', hw, hle, hρ, hI'⟩ := hd.2.alloc o' ho' (.cells (base ++ flat l2)) (.cells (olds.toArray ++ vs.toArray ++ Builtin.zeroCells z.cells (cap' - (len + l2.length))) e) fun κ' hle hh _ => by
      refine ⟨_, e, hh, ?_, fun j hj => ?_⟩
      · rw [hsize, hnew.1, List.length_append, hol, hfl2, ← Nat.add_mul]; exact Nat.mul_le_mul_right _ hcap
      · have hj' : j < (olds ++ vs).length := by rw [← hnew.1]; exact hj
        have e1 : (olds.toArray ++ vs.toArray ++ Builtin.zeroCells z.cells (cap' - (len + l2.length))).getD j undef = (olds ++ vs)[j] := by
          simp only [Array.getD_eq_getD_getElem?]
          rw [Array.getElem?_append_left (by simpa using hj')]
          simp only [List.append_toArray, List.getElem?_toArray]
          rw [List.getElem?_eq_getElem hj']; rfl
        rw [e1]
        exact (hnew.2 j hj hj').mono (hd.1.trans hle)
    have hheap : κ'.w.heap[κ.w.heap.size]? = some (.cells (olds.toArray ++ vs.toArray ++ Builtin.zeroCells z.cells (cap' - (len + l2.length))) e (0, 0)) := by
      rw [hw]; exact Go.heap_alloc_new κ.w.drew _
    exact ⟨κ', .msl o' i.size 0 (len + l2.length), _, hw, hd.1.trans hle, hI', .msl o' i.size 0 _ κ.w.heap.size cap' _ e hρ hcap (by unfold World.shape?; rw [hheap]) (by rw [hsize]; omega), hk o' hfr⟩
  refine upon_v (s := Builtin.append_ #[t, t] ty #[ev s, ev x]) (by simp [execOp, resolve, invoke, builtin]) ?_
  rcases hs with ⟨so, cs, hs1, hs2, rfl, rfl, hcsl⟩ | ⟨hs1, rfl, rfl, rfl⟩
  · rw [hs1] at hvs
    generalize ev s = us at hvs
    cases hvs with
    | msl _ _ _ _ b cap n el hb hlc hsh hn =>
    obtain ⟨b', hb', hbase, hIb, c, el', hheap, hcl, hcv⟩ := hI.heap so _ hs2
    rw [hb] at hb'
    obtain rfl := Option.some.inj hb'
    have hcn : c.size = n := by
      unfold World.shape? at hsh
      rw [hheap] at hsh
      simpa using congrArg (Option.map (·.2)) hsh
    have hlc' : len * i.size ≤ c.size := by omega
    have holds : RvC κ (cs.take (len * i.size)) (c.toList.take (len * i.size)) := by
      refine ⟨by simp; omega, fun j hj hj' => ?_⟩
      simp only [List.length_take] at hj hj'
      have := hcv j (by omega)
      simp only [List.getElem_take, Array.getElem_toList]
      simpa [show j < c.size by omega] using this
    have holen : (c.toList.take (len * i.size)).length = len * i.size := by simp; omega
    by_cases hroom : len + l2.length ≤ cap
    · have hfit : len * i.size + vs.length ≤ c.size := by
        rw [hfl2, ← Nat.add_mul]
        have := Nat.mul_le_mul_right i.size hroom
        omega
      have hr := run_append_room' (P := P) κ.w t ty e el' i hts hi b len cap c hheap ad l2.length cap2 vs hfl2 hcu hones hroom hfit
      rw [hevx]
      refine ⟨_, _, hr, ?_⟩
      obtain ⟨cur', hcur'⟩ : ∃ cur' : Array Value, cur' = (c.toList.take (len * i.size) ++ vs ++ c.toList.drop (len * i.size + vs.length)).toArray := ⟨_, rfl⟩
      rw [← hcur']
      have hcs' : cur'.size = c.size := by
        rw [hcur']
        simp only [List.size_toArray, List.length_append, holen, List.length_drop, Array.length_toList]; omega
      have hgt := setRow_heap κ.w b c cur' el' (0, 0) hheap
      have hle : κ.Le { κ with w := κ.w.setRow b cur', ρ := fun k => if k = o' then some b else κ.ρ k } := by
        refine ⟨rfl, ⟨rfl, rfl, rfl, by simp [World.setRow], fun k hk => setRow_other κ.w b k cur' (by omega)⟩, fun b2 s hs => ?_, fun k b2 hk => ?_, fun _ _ h => h, fun _ => Nat.le_refl _, fun b2 off v ho hv => ?_⟩
        · by_cases hbb : b2 = b
          · subst hbb
            unfold World.shape? at hs ⊢
            rw [hheap] at hs
            dsimp only
            rw [hgt]
            simpa [hcs'] using hs
          · unfold World.shape? at hs ⊢
            dsimp only
            rw [setRow_other κ.w b b2 cur' hbb]
            exact hs
        · show (if k = o' then _ else _) = _
          rw [if_neg (fun hh => by rw [hh, ho'] at hk; cases hk)]; exact hk
        · have hbb : b2 ≠ b := fun hh => by rw [hh, hIb] at ho; omega
          simp only [World.cell?] at hv ⊢
          rw [setRow_other κ.w b b2 cur' hbb]
          exact hv
      have hnew := holds.append hvsr
      refine ⟨{ κ with w := κ.w.setRow b cur', ρ := fun k => if k = o' then some b else κ.ρ k }, .msl o' i.size 0 (len + l2.length), _, rfl, hle, ?_, ?_, hk o' hfr⟩
      · refine hI0.step hle rfl rfl ?_ b hbase hIb (fun b2 hne _ => setRow_other κ.w b b2 cur' hne) o' _ (fun k hk => by simp [hk]) (by simp) ⟨cur', el', hgt, ?_, fun j hj => ?_⟩ ?_ ?_
        · obtain ⟨N, hN⟩ := hI.frO
          refine ⟨N + o' + 1, fun k hk => ?_⟩
          show (if k = o' then _ else _) = _
          rw [if_neg (by omega)]
          exact hN k (by omega)
        · rw [hnew.1, hcs', List.length_append, holen]; exact hfit
        · have hj' : j < (c.toList.take (len * i.size) ++ vs).length := by rw [← hnew.1]; exact hj
          have e1 : cur'.getD j undef = (c.toList.take (len * i.size) ++ vs)[j] := by
            rw [hcur']
            simp only [Array.getD_eq_getD_getElem?, List.getElem?_toArray]
            rw [List.getElem?_append_left hj', List.getElem?_eq_getElem hj']
            rfl
          rw [e1]
          exact (hnew.2 j hj hj').mono hle
        · intro k y hy hne hh
          have hkne : k ≠ so := fun hh' => by
            simp only [Store.delO] at hy
            rw [hh', Store.del_get] at hy; cases hy
          simp only [Store.delO] at hy
          rw [Store.del_ne _ hkne] at hy
          exact hkne (hI.inj k so _ _ b hy hs2 hh hb)
        · intro tt q v ht hv hh
          exact hI.tokobj tt q v b so _ ht hv hh hs2 hb
      · exact .msl o' i.size 0 _ b cap n el (by simp) hroom (hle.shape b _ hsh) hn
    · have hcells : ∀ j u, (c.toList.take (len * i.size))[j]? = some u → κ.w.cell? ((⟨b, 0, none⟩ : Addr).add j) = some u := by
        intro j u hu
        rw [add_addr, Nat.zero_add, cell_of_row _ _ _ _ _ _ hheap]
        rw [List.getElem?_take] at hu
        split at hu
        · simpa using hu
        · cases hu
      have hr := run_append_grow (P := P) κ.w t ty e i z hts hi hz ⟨b, 0, none⟩ len cap _ holen hcells ad l2.length cap2 vs hfl2 hcu (by omega) (by omega) (growslice_fits (by omega) hlen)
      rw [hevx]
      exact ⟨_, _, hr, fresh _ _ holds holen (grownCap_ge _ _ _ _)⟩
  · rw [hs1] at hvs
    rw [hvs.litInv, hevx]
    have hr := run_append_nil (P := P) κ.w t ty e i z hts hi hz ad l2.length cap2 vs hfl2 hcu hm (by omega) (by have := hlen; simp only [Nat.zero_add] at this; omega)
    refine ⟨_, _, hr, ?_⟩
    have := fresh [] (grownCap κ.w l2.length 0 e) .nil (by simp) (by have := grownCap_ge κ.w l2.length 0 e; omega)
    simpa using this

end
end Go.Ab
