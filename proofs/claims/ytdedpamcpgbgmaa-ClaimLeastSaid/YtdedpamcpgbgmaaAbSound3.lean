/-
  'aval' IS SOUND: the last operations, and the whole. Own work (an AI agent).
-/
import Derived.Test.YtdedpamcpgbgmaaAbSound2
set_option linter.all false
namespace Go.Ab

section
variable {P : Program} {κ : K} {σ σ' : Store}

theorem snd_slice {t : TypeId} {x a : AVal} {lo hi mx : Option Operand} {α : Operand → AVal} {ev : Operand → Value} {u : Value} (hf : ∀ y, (lo = some y ∨ hi = some y ∨ mx = some y) → Rv κ (α y) (ev y))
    (h : aslice P t x (lo.map α) (hi.map α) (mx.map α) = some a) (hx : Rv κ x u) :
    ∃ cv, (Instr.sliceAt t u (lo.map ev) (hi.map ev) (mx.map ev)).run P κ.w = .ok cv κ.w ∧ Rv κ a cv := by
  unfold aslice at h
  split at h
  · cases h
  rename_i l hl
  split at h
  · rename_i hst
    have ht := isStringT_spec hst
    split at h
    · rename_i s hmx0
      have hmx : mx = none := by cases mx <;> first | rfl | cases hmx0
      subst hmx
      obtain rfl := hx.litInv
      split at h
      · rename_i hh hhi
        split at h
        · rename_i hc
          obtain rfl := Option.some.inj h
          refine ⟨_, ?_, .lit _⟩
          unfold Instr.sliceAt Instr.slice
          simp only [Sem.run_bind, run_underlying ht, Result.andThen_ok, Option.map_none, Option.isSome_none, Bool.false_eq_true, if_false]
          rw [run_sliceBounds (α := α) (fun y hy => hf y (by rcases hy with h | h <;> simp [h])) hl hhi hc.1 hc.2]
          rfl
        · cases h
      · cases h
    · cases h
  · split at h
    · cases h
    rename_i e he
    have ht := sliceElem_spec he
    split at h
    · cases h
    rename_i s g hty
    obtain ⟨ti, d, hti, hd, rfl, _⟩ := typeOf_spec hty
    split at h
    · rename_i o sz off len
      split at h
      · rename_i hh hmx0 hhi
        have hmx : mx = none := by cases mx <;> first | rfl | cases hmx0
        subst hmx
        split at h
        · rename_i hc
          obtain ⟨rfl, hl0, h1, h2⟩ := hc
          obtain rfl := Option.some.inj h
          cases hx with
          | msl _ _ _ _ b cap n e' hb hlen hsh hnn =>
            have hm : (Instr.sliceAt t (.slice (some ⟨b, off, none⟩) len cap) (lo.map ev) (hi.map ev) none).run P κ.w = .ok (.slice (if cap = l then some ⟨b, off, none⟩ else some ⟨b, off + l * ti.size, none⟩) (hh - l) (cap - l)) κ.w := by
              unfold Instr.sliceAt Instr.slice
              simp only [Sem.run_bind, run_underlying ht, Result.andThen_ok]
              rw [run_sliceBounds (α := α) (fun y hy => hf y (by rcases hy with h | h <;> simp [h])) hl hhi h1 (by omega)]
              simp only [Result.andThen_ok, run_sizeOf' hti, Sem.run_pure, Option.map_some, add_addr]
            refine ⟨_, hm, ?_⟩
            have : (if cap = l then some (⟨b, off, none⟩ : Addr) else some ⟨b, off + l * ti.size, none⟩) = some ⟨b, off + l * ti.size, none⟩ := by
              split
              · rename_i hcl
                rcases hl0 with h0 | h0
                · subst h0; simp
                · omega
              · rfl
            rw [this]
            refine .msl o ti.size (off + l * ti.size) (hh - l) b (cap - l) n e' hb (by omega) hsh ?_
            have : off + l * ti.size + (cap - l) * ti.size = off + cap * ti.size := by
              rw [Nat.add_assoc, ← Nat.add_mul, show l + (cap - l) = cap by omega]
            omega
        · cases h
      · cases h
    · split at h
      · rename_i hh hmx0 hhi
        have hmx : mx = none := by cases mx <;> first | rfl | cases hmx0
        subst hmx
        split at h
        · rename_i hc
          obtain ⟨rfl, rfl⟩ := hc
          obtain rfl := Option.some.inj h
          obtain rfl := hx.litInv
          refine ⟨_, ?_, .lit _⟩
          unfold Instr.sliceAt Instr.slice
          simp only [Sem.run_bind, run_underlying ht, Result.andThen_ok, Option.map_none]
          rw [run_sliceBounds (α := α) (fun y hy => hf y (by rcases hy with h | h <;> simp [h])) hl hhi (Nat.le_refl _) (Nat.le_refl _)]
          simp [run_sizeOf' hti]
        · cases h
      · cases h
    · split at h
      · cases h
      rename_i sz ls hsl
      have hr := slOf_rv hsl hx
      split at h
      · rename_i hh hmx0 hhi
        have hmx : mx = none := by cases mx <;> first | rfl | cases hmx0
        subst hmx
        split at h
        · rename_i hc
          obtain ⟨rfl, h1, h2⟩ := hc
          obtain rfl := Option.some.inj h
          rcases sl_piece hr h1 h2 with ⟨a0, rfl, rfl⟩ | ⟨b, off, cap, rfl, hcap, hp, _⟩
          · have hh0 : hh = 0 := by simpa using h2
            subst hh0
            have hl00 : l = 0 := by omega
            subst hl00
            refine ⟨.slice a0 0 0, ?_, by simpa using Rv.sl0 ti.size false a0⟩
            unfold Instr.sliceAt Instr.slice
            simp only [Sem.run_bind, run_underlying ht, Result.andThen_ok, Option.map_none]
            rw [run_sliceBounds (α := α) (fun y hy => hf y (by rcases hy with h | h <;> simp [h])) hl (show ahigh 0 (hi.map α) = some 0 from hhi) (Nat.le_refl _) (Nat.le_refl _)]
            simp [run_sizeOf' hti]
          · have hm : (Instr.sliceAt t (.slice (some ⟨b, off, none⟩) ls.length cap) (lo.map ev) (hi.map ev) none).run P κ.w = .ok (.slice (if cap = l then some ⟨b, off, none⟩ else some ⟨b, off + l * ti.size, none⟩) (hh - l) (cap - l)) κ.w := by
              unfold Instr.sliceAt Instr.slice
              simp only [Sem.run_bind, run_underlying ht, Result.andThen_ok]
              rw [run_sliceBounds (α := α) (fun y hy => hf y (by rcases hy with h | h <;> simp [h])) hl hhi h1 (by omega)]
              simp only [Result.andThen_ok, run_sizeOf' hti, Sem.run_pure, Option.map_some, add_addr]
            refine ⟨_, hm, ?_⟩
            split
            · rename_i hcl
              have : ((ls.take hh).drop l) = [] := by
                apply List.eq_nil_of_length_eq_zero
                simp; omega
              rw [this, show hh - l = ([] : List AVal).length by simp; omega]
              exact .sl ti.size [] false b off _ (fun _ => undef) (by simp) (by simp) (by simp) (by simp [flat]) (by simp [flat])
            · exact hp _ (by omega)
        · cases h
      · rename_i m0 hh hmx0 hhi
        obtain ⟨mo, rfl⟩ : ∃ mo, mx = some mo := by cases mx <;> first | (exact ⟨_, rfl⟩) | cases hmx0
        obtain rfl : α mo = m0 := by simpa using hmx0
        split at h
        · rename_i hc
          obtain ⟨hsome, hm, rfl, h1, h2⟩ := hc
          obtain ⟨ho, rfl⟩ : ∃ ho, hi = some ho := by cases hi <;> first | (exact ⟨_, rfl⟩) | (simp at hsome)
          obtain rfl := Option.some.inj h
          rcases sl_piece hr h1 h2 with ⟨a0, rfl, rfl⟩ | ⟨b, off, cap, rfl, hcap, _, hp⟩
          · have hh0 : hh = 0 := by simpa using h2
            subst hh0
            have hl00 : l = 0 := by omega
            subst hl00
            refine ⟨.slice a0 0 0, ?_, by simpa using Rv.sl0 ti.size true a0⟩
            unfold Instr.sliceAt Instr.slice
            simp only [Sem.run_bind, run_underlying ht, Result.andThen_ok, Option.map_some]
            rw [run_sliceBounds3 (α := α) (fun y hy => hf y (by rcases hy with h | h | h <;> simp [h])) hl hhi hm (Nat.le_refl _) (Nat.le_refl _)]
            simp [run_sizeOf' hti]
          · have hmm : (Instr.sliceAt t (.slice (some ⟨b, off, none⟩) ls.length cap) (lo.map ev) (some (ev ho)) (some (ev mo))).run P κ.w = .ok (.slice (if hh = l then some ⟨b, off, none⟩ else some ⟨b, off + l * ti.size, none⟩) (hh - l) (hh - l)) κ.w := by
              unfold Instr.sliceAt Instr.slice
              simp only [Sem.run_bind, run_underlying ht, Result.andThen_ok]
              rw [run_sliceBounds3 (α := α) (fun y hy => hf y (by rcases hy with h | h | h <;> simp [h])) hl hhi hm h1 (by omega)]
              simp only [Result.andThen_ok, run_sizeOf' hti, Sem.run_pure, Option.map_some, add_addr]
            refine ⟨_, hmm, ?_⟩
            split
            · rename_i hcl
              have : ((ls.take hh).drop l) = [] := by
                apply List.eq_nil_of_length_eq_zero
                simp; omega
              rw [this, show hh - l = ([] : List AVal).length by simp; omega]
              exact .sl ti.size [] true b off _ (fun _ => undef) (by simp) (by simp) (by simp) (by simp [flat]) (by simp [flat])
            · exact hp
        · cases h
      · cases h

theorem snd_len (hI : Inv κ σ') (hs : σ.Sub σ') {t : TypeId} {x : AVal} {u : Value} {n : Nat} (h : alen P σ t x = some n) (hx : Rv κ x u) (ty : TypeId) (rest : Array TypeId) (hr : rest[0]? = some t) :
    (Builtin.len_ rest ty #[u]).run P κ.w = .ok (goInt n) κ.w := by
  unfold alen at h
  unfold Builtin.len_
  have h0 : (#[u] : Array Value)[0]? = some u := rfl
  simp only [hr, h0]
  split at h
  · rename_i ht
    split at h
    · obtain rfl := hx.litInv
      obtain rfl := Option.some.inj h
      simp [run_underlying ht]
    · cases h
  · rename_i m e ht
    obtain rfl := Option.some.inj h
    simp [run_underlying ht]
  · rename_i e ht
    split at h
    · obtain rfl := hx.litInv
      obtain rfl := Option.some.inj h
      simp [run_underlying ht]
    · cases hx
      obtain rfl := Option.some.inj h
      simp [run_underlying ht]
    · obtain ⟨⟨sz, l⟩, hsl, rfl⟩ := Option.map_eq_some_iff.1 h
      rcases (slOf_rv hsl hx).slInv with ⟨_, rfl, rfl⟩ | ⟨b, off, cap, vals, rfl, _⟩
      · simp [run_underlying ht]
      · simp [run_underlying ht]
  · rename_i kt et ht
    split at h
    · obtain rfl := hx.litInv
      obtain rfl := Option.some.inj h
      simp [run_underlying ht]
    · rename_i o
      split at h
      · rename_i kvs hk
        obtain rfl := Option.some.inj h
        cases hx with
        | map _ b hb =>
          obtain ⟨b', hb', _, _, es, clock, hh, hn, _⟩ := hI.heap o _ (hs.heap _ _ hk)
          obtain rfl : b = b' := Option.some.inj (hb.symm.trans hb')
          simp [run_underlying ht, getObj, Sem.run, hh, hn]
      · cases h
    · cases h
  · cases h

theorem snd_max (b : Bool) : ∀ (l : List AVal) (vs : List Value) (x a : AVal) (v : Value), vs.length = l.length → (∀ i (hi : i < l.length) (hj : i < vs.length), Rv κ l[i] vs[i]) → Rv κ x v → l.foldlM (amax2 b) x = some a →
    ∃ cv, (vs.foldlM (if b then Builtin.max2 else Builtin.min2) v).run P κ.w = .ok cv κ.w ∧ Rv κ a cv
  | [], [], x, a, v, _, _, hx, h => by
    obtain rfl := Option.some.inj h
    exact ⟨v, by simp, hx⟩
  | y :: l, [], _, _, _, hn, _, _, _ => by simp at hn
  | [], u :: vs, _, _, _, hn, _, _, _ => by simp at hn
  | y :: l, u :: vs, x, a, v, hn, hr, hx, h => by
    simp only [List.foldlM_cons] at h
    obtain ⟨m, hm, hrest⟩ := Option.bind_eq_some_iff.1 h
    have hy := hr 0 (by simp) (by simp)
    simp only [List.getElem_cons_zero] at hy
    unfold amax2 at hm
    split at hm
    · rename_i k p k' q
      obtain rfl := hx.litInv
      obtain rfl := hy.litInv
      obtain rfl := Option.some.inj hm
      obtain ⟨cv, h1, h2⟩ := snd_max b l vs _ a (.int k (if b then max p q else min p q)) (by simpa using hn) (fun i hi hj => by
        have := hr (i + 1) (by simpa using hi) (by simpa using hj)
        simpa using this) (.lit _) hrest
      refine ⟨cv, ?_, h2⟩
      rw [List.foldlM_cons, Sem.run_bind]
      have e : ((if b then Builtin.max2 else Builtin.min2) (Value.int k p) (Value.int k' q)).run P κ.w = .ok (.int k (if b then max p q else min p q)) κ.w := by
        cases b
        · show (Builtin.min2 (.int k p) (.int k' q)).run P κ.w = _
          simp only [Builtin.min2, Sem.run_pure, Bool.false_eq_true, if_false]
          congr 2
          omega
        · show (Builtin.max2 (.int k p) (.int k' q)).run P κ.w = _
          simp only [Builtin.max2, Sem.run_pure, if_true]
          congr 2
          omega
      rw [e]
      exact h1
    · cases hm

end
end Go.Ab
