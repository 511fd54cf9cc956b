/-
  'aval' IS SOUND. Own work (an AI agent).
-/
import Derived.Test.YtdedpamcpgbgmaaAbAval
set_option linter.all false
namespace Go.Ab

section
variable {P : Program} {κ : K} {σ σ' : Store}

theorem yld_value {o : Oper} {ev : Operand → Value} {a : AVal} {v : Value} (h : execOp ev o = pure (.value v)) (hr : Rv κ a v) : Yld P o κ ev a := ⟨v, by rw [h]; rfl, hr⟩

/-- an operation that is one value's computation -/
theorem yld_v {o : Oper} {ev : Operand → Value} {a : AVal} {s : Sem Value} (h : execOp ev o = (do pure (.value (← s)))) (hr : ∃ cv, s.run P κ.w = .ok cv κ.w ∧ Rv κ a cv) : Yld P o κ ev a := by
  obtain ⟨cv, h1, h2⟩ := hr
  exact ⟨cv, by rw [h]; simp [h1], h2⟩

theorem snd_nil {x a : AVal} {v : Value} (h : anil x = some a) (hr : Rv κ x v) {o : Oper} {e : Operand} {ev : Operand → Value} (he : ev e = v) (ho : o.op = .nilCheck e) : Yld P o κ ev a := by
  obtain ⟨dst, op, ty, pos, after, guard⟩ := o
  obtain rfl : op = .nilCheck e := ho
  unfold anil at h
  split at h <;> (try cases h)
  · obtain ⟨b, hb, rfl⟩ := hr.refInv; exact ⟨_, by simp [execOp, he], hr⟩
  · obtain ⟨b, off, vals, rfl, _⟩ := hr.roInv; exact ⟨_, by simp [execOp, he], hr⟩
  · cases hr with
    | map _ b hb => exact ⟨_, by simp [execOp, he], .map _ b hb⟩
  · cases hr with
    | fn _ _ _ vs ws hn h1 hm h2 => exact ⟨_, by simp [execOp, he], .fn _ _ _ vs ws hn h1 hm h2⟩
  · obtain rfl := hr.litInv; exact ⟨_, by simp [execOp, he], hr⟩
  · obtain rfl := hr.litInv; exact ⟨_, by simp [execOp, he], hr⟩

theorem snd_aeq {t : TypeId} {x y : AVal} {u v : Value} {r c : Bool} (h : aeq P σ t c x y = some r) (hx : Rv κ x u) (hy : Rv κ y v) (d : Nat) (hd : d + 1 = Op.maxDepth) :
    (Op.equalIn (d + 1) t u v).run P κ.w = .ok r κ.w := by
  unfold aeq at h
  split at h
  case h_1 =>
    split at h
    · rename_i ht
      cases h
      obtain rfl := hx.litInv; obtain rfl := hy.litInv
      simp [Op.equalIn, run_underlying ht]
    · cases h
  case h_2 =>
    split at h
    · rename_i ht
      cases h
      obtain ⟨b, hb, rfl⟩ := hx.refInv; obtain rfl := hy.litInv
      simp [Op.equalIn, run_underlying ht]
    · cases h
  case h_3 =>
    split at h
    · rename_i ht
      cases h
      obtain ⟨b, off, vals, rfl, _⟩ := hx.roInv; obtain rfl := hy.litInv
      simp [Op.equalIn, run_underlying ht]
    · cases h
  case h_4 =>
    split at h
    · rename_i ht
      cases h
      obtain ⟨b, rfl⟩ : ∃ b, u = .map (some b) := by cases hx; exact ⟨_, rfl⟩
      obtain rfl := hy.litInv
      simp [Op.equalIn, run_underlying ht]
    · cases h
  case h_5 =>
    split at h
    · rename_i ht
      cases h
      obtain rfl := hx.litInv; obtain rfl := hy.litInv
      simp [Op.equalIn, run_underlying ht]
    · cases h
  case h_6 =>
    split at h
    · rename_i ht
      cases h
      obtain ⟨t', w, rfl⟩ : ∃ t' w, u = .iface t' w := by cases hx; exact ⟨_, _, rfl⟩
      obtain rfl := hy.litInv
      simp [Op.equalIn, run_underlying ht]
    · cases h
  case h_7 =>
    split at h
    · rename_i ht
      split at h
      · cases h
        obtain rfl := hx.litInv; obtain rfl := hy.litInv
        simp [Op.equalIn, run_underlying ht]
      · cases h
    · cases h
  case h_8 =>
    split at h
    · rename_i ht
      cases h
      obtain ⟨f, us, ws, rfl⟩ : ∃ f us ws, u = .func f us ws := by cases hx; exact ⟨_, _, _, rfl⟩
      obtain rfl := hy.litInv
      simp [Op.equalIn, run_underlying ht]
    · cases h
  case h_9 xs ys =>
    split at h
    · cases h
    · exact run_aeqIn _ _ (by omega) t _ _ u v r h hx hy
  case h_10 a b =>
    split at h
    · rename_i ht
      cases h
      obtain rfl := hx.litInv; obtain rfl := hy.litInv
      exact run_equalIn_bool _ _ t a b ht
    · cases h
  case h_11 => cases h

theorem guard_free {op : BinOp} {t : TypeId} {x y : Operand} {c : Bool} {a b : AVal} {u v : Value} {r : Bool} (hc : c = (isConst x || isConst y)) (h : aeq P σ t c a b = some r) (hx : Rv κ a u) (hy : Rv κ b v) :
    (eqGuard op t x y u v).run P κ.w = .ok () κ.w := by
  by_cases hagg : ∃ us vs, u = .agg us ∧ v = .agg vs
  · obtain ⟨us, vs, rfl, rfl⟩ := hagg
    unfold aeq at h
    split at h <;> first
      | (obtain h1 := hx.litInv; cases h1; done)
      | (cases hx; done)
      | skip
    · split at h
      · cases h
      · rename_i hg
        exact run_eqGuard_agg _ op t x y us vs (by simpa using hg)
    · cases h
  · refine run_eqGuard_other (fun us vs hh => hagg ⟨us, vs, hh⟩) fun h1 h2 => ?_
    subst h1; subst h2
    unfold aeq at h
    split at h <;> first
      | (obtain h1 := hx.litInv; cases h1; done)
      | (obtain h1 := hy.litInv; cases h1; done)
      | (cases hx; done)
      | skip
    · split at h
      · split at h
        · rename_i hcc
          rw [hc] at hcc
          simp only [Bool.or_eq_true] at hcc
          rcases hcc with hcc | hcc
          · left; cases x <;> simp [isConst] at hcc; exact ⟨_, rfl⟩
          · right; cases y <;> simp [isConst] at hcc; exact ⟨_, rfl⟩
        · cases h
      · cases h
    · cases h

end

end Go.Ab
