/-
  'aval' IS SOUND: all operations. Own work (an AI agent).
-/
import Derived.Test.YtdedpamcpgbgmaaAbSound
set_option linter.all false
namespace Go.Ab

section
variable {P : Program} {κ : K} {σ σ' : Store}

theorem run_abin {op : BinOp} {t : TypeId} {x y : Operand} {c : Bool} {a b r : AVal} {u v : Value} (hc : c = (isConst x || isConst y)) (h : abin P σ op t c a b = some r) (hx : Rv κ a u) (hy : Rv κ b v) :
    ∃ cv, (do eqGuard op t x y u v; binOp op t u v : Sem Value).run P κ.w = .ok cv κ.w ∧ Rv κ r cv := by
  have key : ∀ eq, (aeq P σ t c a b).map (fun r => AVal.lit (.bool (bif eq then r else !r))) = some r → op = (if eq then .eql else .neq) → (∀ k m k' m', ¬ (u = .int k m ∧ v = .int k' m')) → (∀ s s', ¬ (u = .string s ∧ v = .string s')) →
      ∃ cv, (do eqGuard op t x y u v; binOp op t u v : Sem Value).run P κ.w = .ok cv κ.w ∧ Rv κ r cv := by
    intro eq he hop hni hns
    obtain ⟨q, hq, rfl⟩ := Option.map_eq_some_iff.1 he
    have h1 := guard_free (op := op) (x := x) (y := y) hc hq hx hy
    have h2 := snd_aeq hq hx hy 9999 rfl
    refine ⟨.bool (bif eq then q else !q), ?_, .lit _⟩
    have hb : (binOp op t u v).run P κ.w = .ok (.bool (bif eq then q else !q)) κ.w := by
      cases eq
      · simp only [Bool.false_eq_true, if_false] at hop
        subst hop
        have e : binOp .neq t u v = (do pure (.bool (!(← Op.equal t u v)))) := by
          unfold aeq at hq
          split at hq
          all_goals first
            | (cases hq; done)
            | (obtain hu := hx.litInv; obtain hv := hy.litInv; subst hu; subst hv; rfl)
            | (obtain hv := hy.litInv; subst hv; cases hx <;> rfl)
            | (cases hx; cases hy; rfl)
        rw [e]
        simp [Op.equal, show (Op.equalIn Op.maxDepth t u v).run P κ.w = .ok q κ.w from h2]
      · simp only [if_true] at hop
        subst hop
        have e : binOp .eql t u v = (do pure (.bool (← Op.equal t u v))) := by
          unfold aeq at hq
          split at hq
          all_goals first
            | (cases hq; done)
            | (obtain hu := hx.litInv; obtain hv := hy.litInv; subst hu; subst hv; rfl)
            | (obtain hv := hy.litInv; subst hv; cases hx <;> rfl)
            | (cases hx; cases hy; rfl)
        rw [e]
        simp [Op.equal, show (Op.equalIn Op.maxDepth t u v).run P κ.w = .ok q κ.w from h2]
    simp only [Sem.run_bind, h1, Result.andThen_ok, hb]
  unfold abin at h
  split at h
  · rename_i k m k' m'
    obtain rfl := hx.litInv; obtain rfl := hy.litInv
    obtain ⟨w, hw, rfl⟩ := Option.map_eq_some_iff.1 h
    refine ⟨w, ?_, .lit _⟩
    simp only [Sem.run_bind, run_eqGuard_other (P := P) (w := κ.w) (op := op) (t := t) (x := x) (y := y) (a := .int k m) (b := .int k' m') (by rintro _ _ ⟨h1, _⟩; cases h1) (by intro h1; cases h1), Result.andThen_ok, run_aint hw]
  · rename_i s s'
    obtain rfl := hx.litInv; obtain rfl := hy.litInv
    obtain ⟨w, hw, rfl⟩ := Option.map_eq_some_iff.1 h
    refine ⟨w, ?_, .lit _⟩
    simp only [Sem.run_bind, run_eqGuard_other (P := P) (w := κ.w) (op := op) (t := t) (x := x) (y := y) (a := .string s) (b := .string s') (by rintro _ _ ⟨h1, _⟩; cases h1) (by intro h1; cases h1), Result.andThen_ok, run_astr hw]
  · rename_i hi hs
    have hni : ∀ k m k' m', ¬ (u = .int k m ∧ v = .int k' m') := by
      rintro k m k' m' ⟨rfl, rfl⟩
      have h2 : ∀ q, aeq P σ t c a b = some q → False := by
        intro q hq
        unfold aeq at hq
        split at hq <;> first
          | (cases hq; done)
          | (have := hx.litInv; cases this; done)
          | (have := hy.litInv; cases this; done)
          | (cases hx; done)
      split at h
      · obtain ⟨q, hq, _⟩ := Option.map_eq_some_iff.1 h; exact h2 q hq
      · obtain ⟨q, hq, _⟩ := Option.map_eq_some_iff.1 h; exact h2 q hq
      · cases h
    have hns : ∀ s s', ¬ (u = .string s ∧ v = .string s') := by
      rintro k m ⟨rfl, rfl⟩
      have h2 : ∀ q, aeq P σ t c a b = some q → False := by
        intro q hq
        unfold aeq at hq
        split at hq <;> first
          | (cases hq; done)
          | (have := hx.litInv; cases this; done)
          | (have := hy.litInv; cases this; done)
          | (cases hx; done)
      split at h
      · obtain ⟨q, hq, _⟩ := Option.map_eq_some_iff.1 h; exact h2 q hq
      · obtain ⟨q, hq, _⟩ := Option.map_eq_some_iff.1 h; exact h2 q hq
      · cases h
    split at h
    · exact key true (by simpa using h) rfl hni hns
    · exact key false (by simpa using h) rfl hni hns
    · cases h

theorem snd_indexAddr {t : TypeId} {x i a : AVal} {u v : Value} (h : aindexAddr P t x i = some a) (hx : Rv κ x u) (hi : Rv κ i v) :
    ∃ cv, (Instr.indexAt t u v).run P κ.w = .ok cv κ.w ∧ Rv κ a cv := by
  unfold aindexAddr at h
  split at h
  case h_2 => cases h
  rename_i k n
  obtain rfl := hi.litInv
  split at h
  case isFalse => cases h
  rename_i hn0
  obtain ⟨m, rfl⟩ := Int.eq_ofNat_of_zero_le hn0
  simp only [Int.ofNat_eq_natCast, Int.toNat_natCast] at h ⊢
  split at h
  · rename_i o sz off len
    split at h
    · rename_i e he
      split at h
      · rename_i s g hty
        split at h
        · rename_i hc
          obtain ⟨rfl, hlt⟩ := hc
          obtain rfl := Option.some.inj h
          obtain ⟨ti, d, hti, hd, rfl, _⟩ := typeOf_spec hty
          cases hx with
          | msl _ _ _ _ b cap n e' hb hlen hsh hnn =>
            refine ⟨.pointer (some ⟨b, off + m * ti.size, none⟩), ?_, .ref _ _ b hb⟩
            unfold Instr.indexAt
            simp only [Sem.run_bind, asIntOf, Sem.run_pure, Result.andThen_ok, run_underlying (sliceElem_spec he)]
            rw [if_pos ⟨by omega, by omega⟩]
            simp [run_sizeOf' hti, add_addr]
        · cases h
      · cases h
    · cases h
  · rename_i o off
    split at h
    · rename_i len e he
      split at h
      · rename_i s g hty
        split at h
        · rename_i hlt
          obtain rfl := Option.some.inj h
          obtain ⟨ti, d, hti, hd, rfl, _⟩ := typeOf_spec hty
          obtain ⟨b, hb, rfl⟩ := hx.refInv
          refine ⟨.pointer (some ⟨b, off + m * ti.size, none⟩), ?_, .ref _ _ b hb⟩
          unfold Instr.indexAt
          simp only [Sem.run_bind, asIntOf, Sem.run_pure, Result.andThen_ok, run_underlying (arrayLen_spec he), Instr.sureAddr]
          rw [if_pos ⟨by omega, by omega⟩]
          simp [run_sizeOf' hti, add_addr]
        · cases h
      · cases h
    · cases h
  · rename_i cs
    split at h
    · rename_i len e he
      split at h
      · rename_i s g hty
        split at h
        · rename_i hlt
          obtain ⟨p, hp, hr⟩ := Option.bind_eq_some_iff.1 h
          obtain ⟨ti, d, hti, hd, rfl, _⟩ := typeOf_spec hty
          obtain ⟨b, o, rfl, hres⟩ := ro_part hx hp hr
          refine ⟨.pointer (some ⟨b, o + m * ti.size, none⟩), ?_, hres⟩
          unfold Instr.indexAt
          simp only [Sem.run_bind, asIntOf, Sem.run_pure, Result.andThen_ok, run_underlying (arrayLen_spec he), Instr.sureAddr]
          rw [if_pos ⟨by omega, by omega⟩]
          simp [run_sizeOf' hti, add_addr]
        · cases h
      · cases h
    · cases h
  · split at h
    · rename_i sz l hsl
      split at h
      · rename_i e he
        split at h
        · rename_i s g hty
          split at h
          · rename_i hs
            subst hs
            obtain ⟨q, hq, rfl⟩ := Option.map_eq_some_iff.1 h
            obtain ⟨ti, d, hti, hd, rfl, _⟩ := typeOf_spec hty
            obtain ⟨b, off, cap, rfl, hlt, hres⟩ := sl_elem (slOf_rv hsl hx) hq
            refine ⟨.pointer (some ⟨b, off + m * ti.size, none⟩), ?_, hres⟩
            unfold Instr.indexAt
            simp only [Sem.run_bind, asIntOf, Sem.run_pure, Result.andThen_ok, run_underlying (sliceElem_spec he)]
            rw [if_pos ⟨by omega, by omega⟩]
            simp [run_sizeOf' hti, add_addr]
          · cases h
        · cases h
      · cases h
    · cases h

theorem snd_fieldAddr {s f : Nat} {x a : AVal} {u : Value} (h : afieldAddr P s x f = some a) (hx : Rv κ x u) :
    ∃ cv, (Instr.fieldAt s u f).run P κ.w = .ok cv κ.w ∧ Rv κ a cv := by
  unfold afieldAddr at h
  split at h
  case h_2 => cases h
  rename_i off size g hfi
  split at h
  · cases h
  rename_i hsz
  obtain ⟨fs, fd, i, d, hs, hf, rfl, hi, hd, rfl, rfl⟩ := fieldInfo_spec hfi
  have run : ∀ b o, (Instr.fieldAt s (.pointer (some ⟨b, o, none⟩)) f).run P κ.w = .ok (.pointer (some ⟨b, o + fd.offset, none⟩)) κ.w := by
    intro b o
    unfold Instr.fieldAt fieldPlace
    simp [run_underlying hs, hf, Instr.sureAddr, run_sizeOf' hi, hsz, add_addr]
  split at h
  · rename_i o k
    obtain rfl := Option.some.inj h
    obtain ⟨b, hb, rfl⟩ := hx.refInv
    exact ⟨_, run b k, .ref _ _ b hb⟩
  · rename_i cs
    obtain ⟨p, hp, hr⟩ := Option.bind_eq_some_iff.1 h
    obtain ⟨b, o, rfl, hres⟩ := ro_part hx hp hr
    exact ⟨_, run b o, hres⟩
  · cases h

theorem snd_load (hI : Inv κ σ') (hs : σ.Sub σ') {t : TypeId} {x a : AVal} {u : Value} (h : aload P σ t x = some a) (hx : Rv κ x u) :
    ∃ cv, (Instr.loadAt t u).run P κ.w = .ok cv κ.w ∧ Rv κ a cv := by
  unfold aload at h
  split at h
  case h_2 => cases h
  rename_i size g hty
  obtain ⟨i, d, hi, hd, rfl, rfl⟩ := typeOf_spec hty
  split at h
  · rename_i y
    obtain ⟨b, off, vals, rfl, hc, hv⟩ := hx.roInv
    have : (if aggB P t then (if y.cells.length = i.size then some (AVal.agg y.cells) else none) else (if y.cells.length = 0 then none else y.cells[0]?)) = some a := by
      cases hg : aggB P t
      · simp only [hg, Bool.false_eq_true, if_false] at h ⊢
        split at h
        · cases h
        · rename_i hne
          obtain rfl := Option.some.inj h
          have : y.cells = [y] := by
            cases y <;> first | rfl | (exact absurd rfl (hne _))
          simp [this]
      · simp only [hg, if_true] at h ⊢
        split at h
        · rename_i cs
          exact h
        · cases h
    obtain ⟨cv, h1, h2⟩ := run_loadVar_known hi hd (fun k hk => (hc k hk).2) hv this
    exact ⟨cv, by simp [Instr.loadAt, Instr.sureAddr, h1], h2⟩
  · rename_i o off
    split at h
    · rename_i cs hcs
      obtain ⟨b, hb, rfl⟩ := hx.refInv
      obtain ⟨b', hb', _, _, c, e, hc, hl, hR⟩ := hI.heap o _ (hs.heap _ _ hcs)
      obtain rfl : b = b' := Option.some.inj (hb.symm.trans hb')
      have cell : ∀ k, k < cs.length → κ.w.cell? ⟨b, k, none⟩ = some (c.getD k undef) := by
        intro k hk
        simp only [World.cell?, hc]
        simp [show k < c.size by omega]
      have : (if aggB P t then (if ((cs.drop off).take i.size).length = i.size then some (AVal.agg ((cs.drop off).take i.size)) else none) else (if ((cs.drop off).take 1).length = 0 then none else ((cs.drop off).take 1)[0]?)) = some a := by
        unfold apart at h
        cases hg : aggB P t
        · simp only [hg, Bool.false_eq_true, if_false] at h ⊢
          obtain ⟨hlt, rfl⟩ := List.getElem?_eq_some_iff.1 h
          rw [if_neg (by simp; omega)]
          simp [hlt]
        · simp only [hg, if_true] at h ⊢
          split at h
          · rename_i hle
            rw [if_pos (by simp; omega)]; exact h
          · cases h
      cases hg : aggB P t
      · have this' : (if aggB P t then (if ((cs.drop off).take 1).length = i.size then some (AVal.agg ((cs.drop off).take 1)) else none) else (if ((cs.drop off).take 1).length = 0 then none else ((cs.drop off).take 1)[0]?)) = some a := by
          simp only [hg, Bool.false_eq_true, if_false] at this ⊢
          exact this
        obtain ⟨cv, h1, h2⟩ := run_loadVar_known (κ := κ) (b := b) (off := off) (cs := (cs.drop off).take 1) (vals := fun k => c.getD (off + k) undef) hi hd
          (fun k hk => cell (off + k) (by simp at hk; omega)) (fun k hk => by
            simp only [List.getElem_take, List.getElem_drop]
            exact hR (off + k) (by simp at hk; omega)) this'
        exact ⟨cv, by simp [Instr.loadAt, Instr.sureAddr, h1], h2⟩
      · have this' : (if aggB P t then (if ((cs.drop off).take i.size).length = i.size then some (AVal.agg ((cs.drop off).take i.size)) else none) else (if ((cs.drop off).take i.size).length = 0 then none else ((cs.drop off).take i.size)[0]?)) = some a := by
          simp only [hg, if_true] at this ⊢
          exact this
        obtain ⟨cv, h1, h2⟩ := run_loadVar_known (κ := κ) (b := b) (off := off) (cs := (cs.drop off).take i.size) (vals := fun k => c.getD (off + k) undef) hi hd
          (fun k hk => cell (off + k) (by simp at hk; omega)) (fun k hk => by
            simp only [List.getElem_take, List.getElem_drop]
            exact hR (off + k) (by simp at hk; omega)) this'
        exact ⟨cv, by simp [Instr.loadAt, Instr.sureAddr, h1], h2⟩
    · cases h
  · cases h

theorem snd_field {t : TypeId} {x a : AVal} {f : Nat} {u : Value} (h : afield P t x f = some a) (hx : Rv κ x u) :
    ∃ cv, (Instr.field t u f).run P κ.w = .ok cv κ.w ∧ Rv κ a cv := by
  unfold afield at h
  split at h
  · rename_i off size g cs hfi
    obtain ⟨fs, fd, i, d, hs, hf, rfl, hi, hd, rfl, rfl⟩ := fieldInfo_spec hfi
    obtain ⟨vs, rfl, hn, hv⟩ := hx.aggInv
    obtain ⟨cv, h1, h2⟩ := run_part hi hd hn hv h
    exact ⟨cv, by simp [Instr.field, run_underlying hs, hf, asAgg, h1], h2⟩
  · cases h

theorem snd_index {t : TypeId} {x i a : AVal} {u v : Value} (h : aindex P t x i = some a) (hx : Rv κ x u) (hi : Rv κ i v) :
    ∃ cv, (Instr.index t u v).run P κ.w = .ok cv κ.w ∧ Rv κ a cv := by
  unfold aindex at h
  split at h
  case h_2 => cases h
  rename_i k n
  obtain rfl := hi.litInv
  split at h
  case isFalse => cases h
  rename_i hn0
  obtain ⟨m, rfl⟩ := Int.eq_ofNat_of_zero_le hn0
  simp only [Int.ofNat_eq_natCast, Int.toNat_natCast] at h ⊢
  split at h
  · rename_i s
    split at h
    · rename_i ht
      obtain rfl := hx.litInv
      obtain ⟨b, hb, rfl⟩ := Option.map_eq_some_iff.1 h
      refine ⟨_, ?_, .lit _⟩
      unfold Instr.index
      simp only [Sem.run_bind, asIntOf, Sem.run_pure, Result.andThen_ok, run_underlying (isStringT_spec ht)]
      rw [if_pos (by omega)]
      simp [hb]
    · cases h
  · rename_i cs
    split at h
    · rename_i len e he
      split at h
      · rename_i s g hty
        split at h
        · rename_i hlt
          obtain ⟨ti, d, hti, hd, rfl, rfl⟩ := typeOf_spec hty
          obtain ⟨vs, rfl, hn, hv⟩ := hx.aggInv
          obtain ⟨cv, h1, h2⟩ := run_part hti hd hn hv h
          refine ⟨cv, ?_, h2⟩
          unfold Instr.index
          simp only [Sem.run_bind, asIntOf, Sem.run_pure, Result.andThen_ok, run_underlying (arrayLen_spec he)]
          rw [if_pos ⟨by omega, by omega⟩]
          simp [run_sizeOf' hti, h1]
        · cases h
      · cases h
    · cases h
  · cases h

end
end Go.Ab
