/-
  WHAT A WRITE's CONTEXT KNEW IS REPLACED, plainly: what stays true of each copy, whatever is done; A step's number; what a store's tokens and objects say behind a step; ObjectReplaced: the law. Own work (an AI agent).
-/
import Derived.Test.YtgpibooklhakgaaGreatHD
import Derived.Test.YtgpibooklhakgaaGreatHA

section
set_option linter.all false
set_option maxRecDepth 100000
namespace Go.Proofs.YtgpibooklhakgaaGreat
open Go.Ab

def nmL : List ByteArray := [B [97], B [98], B [99], B [100]]
def KnD (N : List Int) (s : ByteArray) (n : Int) : Prop := ∃ (j : Nat) (c : Int), nmL[j]? = some s ∧ N[j]? = some c ∧ 1 ≤ n ∧ n ≤ c
theorem nm_inj {i j : Nat} {s : ByteArray} (hi : nmL[i]? = some s) (hj : nmL[j]? = some s) : i = j := by
  have h1 := (List.getElem?_eq_some_iff.1 hi).1
  have h2 := (List.getElem?_eq_some_iff.1 hj).1
  have e : nmL[i]? = nmL[j]? := by rw [hi, hj]
  have : ∀ i j : Fin 4, nmL[i.val]? = nmL[j.val]? → i = j := by decide +kernel
  have := this ⟨i, h1⟩ ⟨j, h2⟩ e
  exact congrArg Fin.val this
theorem KnD.mono {N : List Int} {s : ByteArray} {n : Int} {j : Nat} {c : Int} (hc : N[j]? = some c) (h : KnD N s n) : KnD (N.set j (c + 1)) s n := by
  obtain ⟨i, d, h1, h2, h3, h4⟩ := h
  by_cases e : j = i
  · subst e
    rw [hc] at h2
    obtain rfl := Option.some.inj h2
    exact ⟨j, c + 1, h1, by rw [List.getElem?_set_self (List.getElem?_eq_some_iff.1 hc).1], h3, by omega⟩
  · exact ⟨i, d, h1, by rw [List.getElem?_set_ne e]; exact h2, h3, h4⟩
theorem KnD.not {N : List Int} {s : ByteArray} {j : Nat} {c : Int} (hs : nmL[j]? = some s) (hc : N[j]? = some c) : ¬ KnD N s (c + 1) := by
  rintro ⟨i, d, h1, h2, _, h4⟩
  obtain rfl := nm_inj h1 hs
  rw [hc] at h2
  obtain rfl := Option.some.inj h2
  omega
structure OI (N : List Int) (D : List (ByteArray × Int)) (K : List (List Seen)) (o : Obj') : Prop where
  good : ObjG o
  dots : ∀ s n, hasS o.ctx s n = true → KnD N s n
  rel : ∀ (m : Nat) (d : ByteArray × Int) (c : List Seen), D[m]? = some d → K[m]? = some c → hasS o.ctx d.1 d.2 = true → ∀ s n, hasS c s n = true → look o s n = .rep
/-! ### how great it may get -/
theorem rise_len {l : List Int} : ∀ {a b : Int}, l.Pairwise (· < ·) → (∀ n ∈ l, a < n ∧ n ≤ b) → a ≤ b → (l.length : Int) ≤ b - a := by
  induction l with
  | nil => intro a b _ _ h; simp; omega
  | cons x l ih =>
    intro a b h1 h2 _
    have hp := List.pairwise_cons.1 h1
    have hx := h2 x (.head _)
    have := ih (a := x) (b := b) hp.2 (fun n hn => ⟨hp.1 n hn, (h2 n (.tail _ hn)).2⟩) hx.2
    simp only [List.length_cons]; omega
def rk (s : ByteArray) : Int := if s = B [97] then 1 else if s = B [98] then 2 else if s = B [99] then 3 else 4
theorem rk_lt {s t : ByteArray} {i j : Nat} (hs : nmL[i]? = some s) (ht : nmL[j]? = some t) (h : sLt s t = true) : rk s < rk t ∧ 1 ≤ rk s ∧ rk t ≤ 4 := by
  have key : ∀ i j : Fin 4, (match nmL[i.val]?, nmL[j.val]? with | some s, some t => !sLt s t || (decide (rk s < rk t) && decide (1 ≤ rk s) && decide (rk t ≤ 4)) | _, _ => true) = true := by decide +kernel
  have := key ⟨i, (List.getElem?_eq_some_iff.1 hs).1⟩ ⟨j, (List.getElem?_eq_some_iff.1 ht).1⟩
  simp only [hs, ht, h] at this
  simpa [and_assoc] using this
theorem rk_bd {s : ByteArray} {i : Nat} (hs : nmL[i]? = some s) : 0 < rk s ∧ rk s ≤ 4 := by
  have key : ∀ i : Fin 4, (match nmL[i.val]? with | some s => decide (0 < rk s) && decide (rk s ≤ 4) | _ => true) = true := by decide +kernel
  have := key ⟨i, (List.getElem?_eq_some_iff.1 hs).1⟩
  simp only [hs] at this
  simpa using this
theorem OI.small {N : List Int} {D : List (ByteArray × Int)} {K : List (List Seen)} {o : Obj'} (h : OI N D K o) (hN : ∀ c ∈ N, c ≤ 60) : room o.ctx ≤ 240 ∧ o.ctx.length ≤ 4 ∧ o.sibs.length ≤ 300 := by
  have hdot : ∀ x ∈ o.ctx, ∃ j, nmL[j]? = some x.node := fun x hx => by
    obtain ⟨_, _, n, hn⟩ := seenOk_iff.1 (h.good.ctx.ok x hx)
    obtain ⟨j, c, h1, _⟩ := h.dots x.node n (hasS_iff.2 ⟨x, hx, rfl, hn⟩)
    exact ⟨j, h1⟩
  have hnb : ∀ s n, hasS o.ctx s n = true → (∃ j, nmL[j]? = some s) ∧ 1 ≤ n ∧ n ≤ 60 := fun s n hs => by
    obtain ⟨j, c, h1, h2, h3, h4⟩ := h.dots s n hs
    have := hN c (List.mem_of_getElem? h2)
    exact ⟨⟨j, h1⟩, h3, by omega⟩
  have hlen : o.ctx.length ≤ 4 := by
    have hp : (o.ctx.map fun x => rk x.node).Pairwise (· < ·) := by
      rw [List.pairwise_map]
      refine (List.pairwise_iff_getElem.1 h.good.ctx.rise |> fun hh => List.pairwise_iff_getElem.2 fun i j hi hj hij => ?_)
      obtain ⟨_, e1⟩ := hdot _ (List.getElem_mem hi)
      obtain ⟨_, e2⟩ := hdot _ (List.getElem_mem hj)
      exact (rk_lt e1 e2 (hh i j hi hj hij)).1
    have := rise_len (a := 0) (b := 4) hp (fun n hn => by
      obtain ⟨x, hx, rfl⟩ := List.mem_map.1 hn
      obtain ⟨_, e⟩ := hdot x hx
      exact rk_bd e) (by decide)
    rw [List.length_map] at this
    omega
  have hmore : ∀ x ∈ o.ctx, x.more.length ≤ 60 := fun x hx => by
    have hc := (seenOk_iff.1 (h.good.ctx.ok x hx)).2.1
    have := rise_len (a := 0) (b := 60) hc.rise (fun n hn => by
      have h1 := hc.ab n hn
      have h2 := hc.lo
      have h3 := hnb x.node n (hasS_iff.2 ⟨x, hx, rfl, .inr hn⟩)
      omega) (by decide)
    omega
  refine ⟨?_, hlen, ?_⟩
  · have := room_bd hmore
    omega
  · have hp : (o.sibs.map fun x => rk x.node * 61 + x.n).Pairwise (· < ·) := by
      rw [List.pairwise_map]
      refine (List.pairwise_iff_getElem.1 h.good.rise |> fun hh => List.pairwise_iff_getElem.2 fun i j hi hj hij => ?_)
      obtain ⟨⟨_, e1⟩, b1, b2⟩ := hnb _ _ (h.good.ok _ (List.getElem_mem hi)).2
      obtain ⟨⟨_, e2⟩, b3, b4⟩ := hnb _ _ (h.good.ok _ (List.getElem_mem hj)).2
      have hl := hh i j hi hj hij
      simp only [lessX, lessD, Bool.or_eq_true, Bool.and_eq_true, decide_eq_true_eq] at hl
      rcases hl with hl | ⟨hl, hl2⟩
      · have := (rk_lt e1 e2 hl).1; omega
      · rw [hl]; omega
    have := rise_len (a := 0) (b := 304) hp (fun n hn => by
      obtain ⟨x, hx, rfl⟩ := List.mem_map.1 hn
      obtain ⟨⟨_, e⟩, b1, b2⟩ := hnb _ _ (h.good.ok x hx).2
      have := rk_bd e
      omega) (by decide)
    rw [List.length_map] at this
    have hx : (o.sibs.length : Int) ≤ 304 := by omega
    by_cases hh : o.sibs.length ≤ 300
    · exact hh
    · exact absurd hx (by
        have h4 := rise_len (a := 61) (b := 304) hp (fun n hn => by
          obtain ⟨x, hx, rfl⟩ := List.mem_map.1 hn
          obtain ⟨⟨_, e⟩, b1, b2⟩ := hnb _ _ (h.good.ok x hx).2
          have := rk_bd e
          omega) (by decide)
        rw [List.length_map] at h4
        omega)
section
variable {N : List Int} {D : List (ByteArray × Int)} {K : List (List Seen)} {a b o : Obj'}
theorem OI.okk (h : OI N D K o) (hN : ∀ c ∈ N, c ≤ 60) : objOk o = true ∧ ObjSm o := by
  obtain ⟨h1, h2, h3⟩ := h.small hN
  have hk : objOk o = true := objOk_iff.2 ⟨h.good, by omega⟩
  exact ⟨hk, sm_of hk (by omega) (by omega)⟩
theorem OI.merge (ha : OI N D K a) (hB : OI N D K b) (hN : ∀ c ∈ N, c ≤ 60) : mergeS a b = (mergeO a b, 0) ∧ OI N D K (mergeO a b) := by
  have h1 := ha.small hN; have h2 := hB.small hN
  refine ⟨(mergeS_ok (ha.okk hN).1 (hB.okk hN).1 (by omega)).1, merge_good ha.good hB.good, fun s n h => ?_, fun m d c hd hc h s n hs => ?_⟩
  · have h : hasS (joinAll a.ctx b.ctx) s n = true := h
    rw [(join_spec ha.good.ctx hB.good.ctx).2, Bool.or_eq_true] at h
    rcases h with h | h
    · exact ha.dots s n h
    · exact hB.dots s n h
  · have h : hasS (joinAll a.ctx b.ctx) d.1 d.2 = true := h
    rw [(join_spec ha.good.ctx hB.good.ctx).2, Bool.or_eq_true] at h
    rw [look_merge ha.good hB.good]
    rcases h with h | h
    · rw [ha.rel m d c hd hc h s n hs]
      cases look b s n <;> rfl
    · rw [hB.rel m d c hd hc h s n hs]
      cases look a s n <;> rfl
theorem look_ctx {o p : Obj'} (hc : p.ctx = o.ctx) {s : ByteArray} {n : Int} (h : look o s n = .rep) (hs : ∀ x ∈ p.sibs, x ∈ o.sibs) : look p s n = .rep := by
  have hf : fnd o.sibs s n = none ∧ hasS o.ctx s n = true := by
    unfold look at h
    split at h
    · cases h
    · rename_i hn
      split at h
      · rename_i hh; exact ⟨hn, hh⟩
      · cases h
  have : fnd p.sibs s n = none := fnd_none.2 fun x hx => fnd_none.1 hf.1 x (hs x hx)
  simp [look, this, hc, hf.2]
theorem OI.reap (h : OI N D K o) (hN : ∀ c ∈ N, c ≤ 60) : reapS o = (⟨o.ctx, o.sibs.filter live⟩, 0) ∧ OI N D K ⟨o.ctx, o.sibs.filter live⟩ := by
  refine ⟨by rw [reapS, (h.okk hN).1]; rfl, ⟨h.good.ctx, h.good.rise.filter _, fun x hx => h.good.ok x (List.mem_filter.1 hx).1⟩, h.dots, fun m d c hd hc hh s n hs => ?_⟩
  exact look_ctx (o := o) (p := ⟨o.ctx, o.sibs.filter live⟩) rfl (h.rel m d c hd hc hh s n hs) fun x hx => (List.mem_filter.1 hx).1
def DOk (N : List Int) (D : List (ByteArray × Int)) : Prop := ∀ (m : Nat) (d : ByteArray × Int), D[m]? = some d → KnD N d.1 d.2
def oneD (s : ByteArray) (n t : Int) : Sib := ⟨s, n, ⟨#[]⟩, false, t⟩
theorem get_snoc {α : Type} {l : List α} {x y : α} {m : Nat} (h : (l ++ [x])[m]? = some y) : l[m]? = some y ∨ (m = l.length ∧ y = x) := by
  rw [List.getElem?_append] at h
  split at h
  · exact .inl h
  · right
    have : m - l.length = 0 := by
      have := (List.getElem?_eq_some_iff.1 h).1
      simp at this; omega
    rw [this] at h
    simp at h
    exact ⟨by omega, h.symm⟩
theorem OI.write {j : Nat} {s : ByteArray} {c t : Int} (h : OI N D K o) (hD : DOk N D) (hl : D.length = K.length) (hN : ∀ c ∈ N, c ≤ 60) (hs : nmL[j]? = some s) (hc : N[j]? = some c) (h0 : 0 ≤ c) (ht : 0 ≤ t ∧ t ≤ 60) :
    newS o.ctx (oneD s (c + 1) t) = (obj1 (joinAll o.ctx [oneS s (c + 1)]) (oneD s (c + 1) t), 0) ∧ OI (N.set j (c + 1)) (D ++ [(s, c + 1)]) (K ++ [o.ctx]) (obj1 (joinAll o.ctx [oneS s (c + 1)]) (oneD s (c + 1) t)) ∧ DOk (N.set j (c + 1)) (D ++ [(s, c + 1)]) ∧
    ∀ p, OI N D K p → OI (N.set j (c + 1)) (D ++ [(s, c + 1)]) (K ++ [o.ctx]) p := by
  have hcn := hN c (List.mem_of_getElem? hc)
  have hjl := (List.getElem?_eq_some_iff.1 hs).1
  have hNl := (List.getElem?_eq_some_iff.1 hc).1
  have hname : nameOk s = true := by
    have key : ∀ i : Fin 4, (match nmL[i.val]? with | some s => nameOk s | _ => true) = true := by decide +kernel
    have := key ⟨j, hjl⟩
    simpa only [hs] using this
  have hd : dotOk s (c + 1) = true := dotOk_yes ⟨⟨hname, by omega⟩, by omega⟩
  have hnot : hasS o.ctx s (c + 1) = false := by
    cases hh : hasS o.ctx s (c + 1) with
    | false => rfl
    | true => exact absurd (h.dots _ _ hh) (KnD.not hs hc)
  have hsib : sibOk (oneD s (c + 1) t) = true := by
    have e1 : (ByteArray.mk #[]).size = 0 := rfl
    unfold sibOk oneD
    simp only [hd, e1, decide_eq_true ht.1, decide_eq_true (show t ≤ 9007199254740992 by omega)]
    rfl
  have hone := ctxOk_one hd
  have hok := h.okk hN
  have hsm := h.small hN
  have hco : ctxOk o.ctx = true := ctxOk_iff.2 ⟨h.good.ctx, by omega⟩
  have hr1 : room [oneS s (c + 1)] ≤ 1 := by unfold oneS room; split <;> simp
  have hj := join_ok hco hone (by omega)
  have hadd : addS o.ctx s (c + 1) = (joinAll o.ctx [oneS s (c + 1)], 0) := by rw [addS, hd, if_pos rfl, hj]
  have hhas : ∀ u n, hasS (joinAll o.ctx [oneS s (c + 1)]) u n = true ↔ hasS o.ctx u n = true ∨ (u = s ∧ n = c + 1) := fun u n => by
    rw [(join_spec h.good.ctx (ctxOk_iff.1 hone).1).2, Bool.or_eq_true]
    have : hasS [oneS s (c + 1)] u n = true ↔ u = s ∧ n = c + 1 := by
      rw [hasS_iff]
      simp only [List.mem_singleton, exists_eq_left, oneS_node]
      unfold oneS Kn
      split
      · simp only [List.not_mem_nil, or_false]
        constructor
        · rintro ⟨h1, h2⟩; exact ⟨h1.symm, by omega⟩
        · rintro ⟨h1, h2⟩; exact ⟨h1.symm, by omega⟩
      · simp only [List.mem_singleton]
        constructor
        · rintro ⟨h1, h2 | h2⟩
          · omega
          · exact ⟨h1.symm, h2⟩
        · rintro ⟨h1, h2⟩; exact ⟨h1.symm, .inr h2⟩
    rw [this]
  have hrepx : ∀ u n, hasS o.ctx u n = true → look (obj1 (joinAll o.ctx [oneS s (c + 1)]) (oneD s (c + 1) t)) u n = .rep := fun u n hu => by
    have hf : fnd [oneD s (c + 1) t] u n = none := fnd_none.2 fun x hx hh => by
      rw [List.mem_singleton.1 hx] at hh
      have e1 : s = u := hh.1
      have e2 : c + 1 = n := hh.2
      rw [← e1, ← e2, hnot] at hu; cases hu
    unfold look obj1
    rw [hf, (hhas u n).2 (.inl hu)]
    rfl
  have hD' : DOk (N.set j (c + 1)) (D ++ [(s, c + 1)]) := fun m d hm => by
    rcases get_snoc hm with hm | ⟨_, rfl⟩
    · exact (hD m d hm).mono hc
    · exact ⟨j, c + 1, hs, by rw [List.getElem?_set_self hNl], by show 1 ≤ c + 1; omega, Int.le_refl _⟩
  refine ⟨?_, ⟨⟨(join_spec h.good.ctx (ctxOk_iff.1 hone).1).1, List.pairwise_singleton _ _, fun x hx => ?_⟩, fun u n hu => ?_, fun m d k hm hk hu u n hn => ?_⟩, hD', fun p hp => ⟨hp.good, fun u n hu => (hp.dots u n hu).mono hc, fun m d k hm hk hu u n hn => ?_⟩⟩
  · unfold newS
    rw [if_pos ⟨hsib, hnot⟩, show (oneD s (c + 1) t).node = s from rfl, show (oneD s (c + 1) t).n = c + 1 from rfl, hadd, if_pos rfl]
  · rw [List.mem_singleton.1 hx]
    exact ⟨hsib, (hhas s (c + 1)).2 (.inr ⟨rfl, rfl⟩)⟩
  · rcases (hhas u n).1 hu with hu | ⟨rfl, rfl⟩
    · exact (h.dots u n hu).mono hc
    · exact ⟨j, c + 1, hs, by rw [List.getElem?_set_self hNl], by omega, Int.le_refl _⟩
  · rcases get_snoc hm with hm | ⟨rfl, rfl⟩
    · have hmk : K[m]? = some k := by
        rcases get_snoc hk with hk | ⟨rfl, _⟩
        · exact hk
        · have := (List.getElem?_eq_some_iff.1 hm).1; omega
      have hud : hasS o.ctx d.1 d.2 = true := by
        rcases (hhas _ _).1 hu with hu | ⟨e1, e2⟩
        · exact hu
        · have := hD m d hm
          rw [e1, e2] at this
          exact absurd this (KnD.not hs hc)
      have hrep := h.rel m d k hm hmk hud u n hn
      exact hrepx u n ((look_has h.good u n).2 (by rw [hrep]; simp))
    · rcases get_snoc hk with hk | ⟨_, rfl⟩
      · have := (List.getElem?_eq_some_iff.1 hk).1; omega
      · exact hrepx u n hn
  · rcases get_snoc hm with hm | ⟨rfl, rfl⟩
    · have hmk : K[m]? = some k := by
        rcases get_snoc hk with hk | ⟨rfl, _⟩
        · exact hk
        · have := (List.getElem?_eq_some_iff.1 hm).1; omega
      exact hp.rel m d k hm hmk hu u n hn
    · exact absurd (hp.dots _ _ hu) (KnD.not hs hc)
theorem OI.safe (h : OI N D K o) {m : Nat} {d : ByteArray × Int} {c : List Seen} {x : Sib} (hm : D[m]? = some d) (hk : K[m]? = some c) (hx : x ∈ o.sibs) (h1 : hasS o.ctx d.1 d.2 = true) (h2 : hasS c x.node x.n = true) : False := by
  have := h.rel m d c hm hk h1 x.node x.n h2
  rw [(look_val h.good (x := x)).2 ⟨hx, rfl, rfl⟩] at this
  cases this
theorem OI.zero : OI N D K ⟨[], []⟩ := ⟨⟨ctxG_nil, .nil, fun x hx => by cases hx⟩, (fun s n h => by simp [hasS] at h), fun m d c _ _ h => by simp [hasS] at h⟩
theorem zero_merge (h : ObjG o) : mergeO ⟨[], []⟩ o = o := by
  have hz : ObjG ⟨[], []⟩ := ⟨ctxG_nil, .nil, fun x hx => by cases hx⟩
  refine obj_unique (merge_good hz h) h fun s n => ?_
  rw [look_merge hz h]
  have : look ⟨[], []⟩ s n = .un := rfl
  rw [this]
  cases look o s n <;> rfl
end
theorem both_ways {a b c d : Obj'} (ha : ObjG a) (hB : ObjG b) (hc : ObjG c) (hd : ObjG d) :
    mergeO (mergeO (mergeO (mergeO ⟨[], []⟩ a) b) c) d = mergeO (mergeO (mergeO (mergeO ⟨[], []⟩ d) c) b) a := by
  rw [zero_merge ha, zero_merge hd, merge_comm hd hc, merge_comm (merge_good hc hd) hB, merge_comm (merge_good hB (merge_good hc hd)) ha, ← merge_assoc ha hB (merge_good hc hd), ← merge_assoc (merge_good ha hB) hc hd]
end Go.Proofs.YtgpibooklhakgaaGreat
end

section
set_option linter.all false
set_option maxRecDepth 100000
namespace Go.Proofs.YtgpibooklhakgaaGreat
open Go.Ab
section
variable {S S0 σ : Store} {o i k t : Nat} {x y z : AObj} {p q : TypeId × Nat}
theorem gen_tok (h : S = (S0.set o x).set o y) (ht : S0.tok k = some p) : S.tok k = some p := by rw [h]; exact ht
theorem put_get (h : S = S0.set o y) : S.heap o = some y := by rw [h]; exact Store.set_get ..
theorem put_keep (h : S = S0.set o y) (hne : i ≠ o) (hi : S0.heap i = some z) : S.heap i = some z := by rw [h, Store.set_ne _ _ hne]; exact hi
theorem put_tok (h : S = S0.set o y) (ht : S0.tok k = some p) : S.tok k = some p := by rw [h]; exact ht
theorem put_sub (h : S = S0.set o y) (ho : σ.heap o = none) (hs : SubX [] σ S0) : SubX [] σ S := by rw [h]; exact subx_new ho hs
theorem own_keep (h : S = S0.newTok (some t) k p) (hi : S0.heap i = some z) : S.heap i = some z := by rw [h]; exact hi
theorem own_tok (h : S = S0.newTok (some t) k p) : S.tok k = some p := by rw [h]; exact Store.newTok_get ..
theorem own_other (h : S = S0.newTok (some t) k p) {j : Nat} (h1 : j ≠ t) (h2 : j ≠ k) (hj : S0.tok j = some q) : S.tok j = some q := by
  rw [h]; simp only [Store.newTok]; rw [if_neg h2, if_neg (by simpa using h1)]; exact hj
theorem own_sub (h : S = S0.newTok (some t) k p) (hs : SubX [] σ S0) (ht : σ.tok t = none) (hk : S0.tok k = none) : SubX [] σ S := by
  rw [h]; exact SubX.newTok hs (fun j hj => by cases hj; exact ht) hk
end

theorem bAnd_lt (a : Int) (m : Nat) (hm : m < 8) : ∃ k : Nat, k ≤ m ∧ bAnd .i64 a m = (k : Int) := by
  have h1 : ((BitVec.ofInt 64 a) &&& (BitVec.ofInt 64 (m : Int))).toNat ≤ m := by
    rw [BitVec.toNat_and]
    refine Nat.le_trans Nat.and_le_right ?_
    have : (BitVec.ofInt 64 (m : Int)).toNat = m := by
      rw [BitVec.toNat_ofInt]; omega
    omega
  refine ⟨_, h1, ?_⟩
  show IntKind.i64.wrap (((BitVec.ofInt 64 a) &&& (BitVec.ofInt 64 (m : Int))).toNat : Int) = _
  exact wrap_i64 _ (by omega) (by omega)
theorem step_c {n : Int} {σ : Store} : ACalls Tryz.prog 62 [.lit (.int .u16 n)] σ fun v σ' => (∃ (to fr nd : Nat) (mg rp : Bool), to < 4 ∧ fr < 4 ∧ nd < 4 ∧ v = .agg [vInt to, vInt fr, vInt nd, .lit (.bool mg), .lit (.bool rp)]) ∧ σ = σ' := by
  refine ACalls_of Tryz.func62 rfl Tryz.ntmps62 (congrArg Array.toList Tryz.results62) (by simp only [List.length_cons, List.length_nil]; decide) ?_; simp only [envOf_cons, envOf_nil, Nat.reduceAdd]
  refine awp_seq ?_
  refine awp_region (by kernel_rfl) ?_
  refine aL_alloc rfl rfl rfl g_ gl_ fun o2 ho2 => ?_
  repeat (rw [none_set_iff] at ho2; obtain ⟨_, ho2⟩ := ho2)
  refine aL_nil ?_
  refine awp_seq ?_
  refine awp_region (by kernel_rfl) ?_
  iterate 3 (refine aL_S rfl rfl v_ ?_)
  refine aL_nil ?_
  refine awp_seq ?_
  refine awp_region (by kernel_rfl) ?_
  iterate 17 (refine aL_S rfl rfl v_ ?_)
  refine aL_store rfl rfl rfl v_ v_ h_ g_ rfl g_ c_ (by rfl) le_ v_ ?_
  refine aL_nil ?_
  refine awp_ret ?_
  refine aEnd_ret (σ' := σ) v_ sub_ ?_
  obtain ⟨k1, h1, e1⟩ := bAnd_lt (IntKind.i64.wrap n) 3 (by decide)
  obtain ⟨k2, h2, e2⟩ := bAnd_lt (IntKind.i64.wrap n / 2 ^ 2) 3 (by decide)
  obtain ⟨k3, h3, e3⟩ := bAnd_lt (IntKind.i64.wrap n / 2 ^ 4) 3 (by decide)
  refine ⟨⟨k1, k2, k3, decide (bAnd .i64 (IntKind.i64.wrap n / 2 ^ 6) 1 = 1), decide (bAnd .i64 (IntKind.i64.wrap n / 2 ^ 7) 7 = 0), by omega, by omega, by omega, ?_⟩, rfl⟩
  simp only [← e1, ← e2, ← e3]
  rfl
end Go.Proofs.YtgpibooklhakgaaGreat
end

section
set_option linter.all false
set_option maxRecDepth 100000
namespace Go.Proofs.YtgpibooklhakgaaGreat
open Go.Ab

abbrev sDd (d : ByteArray × Int) : AVal := .agg [vStr d.1, vInt d.2]
abbrev sKn (c : List Seen) : AVal := .sl 3 (c.map sSeen) false
abbrev sU (n : Int) : AVal := .lit (.int .u16 n)
theorem szObj (l : List Obj') : ∀ y ∈ l.map sObj, y.cells.length = 2 := lits_sz sObj (fun x => rfl) l
theorem flat_obj_len (L : List Obj') : (flat (L.map sObj)).length = L.length * 2 := by rw [flat_length (szObj L), List.length_map]
theorem flat_partO : ∀ {L : List Obj'} {j : Nat} {x : Obj'}, L[j]? = some x → ((flat (L.map sObj)).drop (j * 2)).take 2 = [.sl 3 (x.ctx.map sSeen) false, .sl 5 (x.sibs.map sSib) false]
  | [], j, x, h => by simp at h
  | y :: L, 0, x, h => by
    simp only [List.getElem?_cons_zero, Option.some.injEq] at h
    subst h
    rfl
  | y :: L, j + 1, x, h => by
    rw [List.map_cons, flat_cons, show (j + 1) * 2 = 2 + j * 2 by omega, ← List.drop_drop]
    exact flat_partO (L := L) (j := j) h
theorem aput_flatO {M : List Obj'} {j : Nat} {x : Obj'} (hj : j < M.length) : aput (flat (M.map sObj)) (j * 2) [.sl 3 (x.ctx.map sSeen) false, .sl 5 (x.sibs.map sSib) false] = flat ((M.set j x).map sObj) := by
  have e : M.set j x = M.take j ++ x :: M.drop (j + 1) := by rw [List.set_eq_take_append_cons_drop, if_pos hj]
  have e2 : M = M.take j ++ M[j] :: M.drop (j + 1) := by rw [List.getElem_cons_drop hj, List.take_append_drop]
  have hl : (flat ((M.take j).map sObj)).length = j * 2 := by rw [flat_obj_len, List.length_take, Nat.min_eq_left (by omega)]
  rw [e]
  conv => lhs; rw [e2]
  unfold aput
  rw [List.map_append, List.map_cons, flat_append, flat_cons, List.map_append, List.map_cons, flat_append, flat_cons, List.take_left' hl, List.drop_append, List.drop_of_length_le (by rw [hl]; simp), hl, show j * 2 + [AVal.sl 3 (x.ctx.map sSeen) false, AVal.sl 5 (x.sibs.map sSib) false].length - j * 2 = 2 from by simp]
  simp [AVal.cells]
def o0 : Obj' := ⟨[], []⟩
def upTo (C : List Obj') : Nat → Obj'
  | 0 => o0
  | i + 1 => mergeO (upTo C i) (C.getD i o0)
def dnTo (C : List Obj') : Nat → Obj'
  | 0 => o0
  | i + 1 => mergeO (dnTo C i) (C.getD (3 - i) o0)
theorem up_dn {C : List Obj'} (h4 : C.length = 4) (hg : ∀ o ∈ C, ObjG o) : upTo C 4 = dnTo C 4 := by
  match C, h4 with
  | [a, b, c, d], _ => exact both_ways (hg a (by simp)) (hg b (by simp)) (hg c (by simp)) (hg d (by simp))
abbrev zObj : List AVal := [.lit (.slice none 0 0), .lit (.slice none 0 0)]
abbrev nmC : List AVal := [vStr (B [97]), vStr (B [98]), vStr (B [99]), vStr (B [100])]
/-- what holds at each turn -/
structure RI (σ τ : Store) (oc on onm kd kk : Nat) (C : List Obj') (N : List Int) (D : List (ByteArray × Int)) (K : List (List Seen)) (i : Nat) : Prop where
  c4 : C.length = 4
  n4 : N.length = 4
  dk : D.length = K.length
  di : D.length ≤ i
  nb : ∀ c ∈ N, 0 ≤ c ∧ c ≤ i
  dok : DOk N D
  oi : ∀ o ∈ C, OI N D K o
  ksm : ∀ c ∈ K, (∀ x ∈ c, SeenSm x) ∧ c.length ≤ 1000
  h3 : τ.heap oc = some (.cells (flat (C.map sObj)))
  h4 : τ.heap on = some (.cells (N.map vInt))
  h7 : τ.heap onm = some (.cells nmC)
  td : τ.tok kd = some (75, 2)
  tk : τ.tok kk = some (22, 1)
  ne : kd ≠ kk
  sd : σ.tok kd = none
  sk : σ.tok kk = none
  sub : SubX [] σ τ
section
variable {σ S S' : Store} {oc on onm kd kk : Nat} {C : List Obj'} {N : List Int} {D : List (ByteArray × Int)} {K : List (List Seen)} {i : Nat}
theorem RI.next (h : RI σ S oc on onm kd kk C N D K i) : RI σ S oc on onm kd kk C N D K (i + 1) :=
  ⟨h.c4, h.n4, h.dk, by have := h.di; omega, fun c hc => by have := h.nb c hc; omega, h.dok, h.oi, h.ksm, h.h3, h.h4, h.h7, h.td, h.tk, h.ne, h.sd, h.sk, h.sub⟩
/-- another object, made -/
theorem RI.gen {o : Nat} {x y : AObj} (h : RI σ S oc on onm kd kk C N D K i) (hS : S' = (S.set o x).set o y) (ho : S.heap o = none) : RI σ S' oc on onm kd kk C N D K i :=
  ⟨h.c4, h.n4, h.dk, h.di, h.nb, h.dok, h.oi, h.ksm, gen_keep hS ho h.h3, gen_keep hS ho h.h4, gen_keep hS ho h.h7, gen_tok hS h.td, gen_tok hS h.tk, h.ne, h.sd, h.sk, gen_sub hS ho h.sub⟩
/-- another object, written -/
theorem RI.put {o : Nat} {y : AObj} (h : RI σ S oc on onm kd kk C N D K i) (hS : S' = S.set o y) (h1 : oc ≠ o) (h2 : on ≠ o) (h3 : onm ≠ o) (ho : σ.heap o = none) : RI σ S' oc on onm kd kk C N D K i :=
  ⟨h.c4, h.n4, h.dk, h.di, h.nb, h.dok, h.oi, h.ksm, put_keep hS h1 h.h3, put_keep hS h2 h.h4, put_keep hS h3 h.h7, put_tok hS h.td, put_tok hS h.tk, h.ne, h.sd, h.sk, put_sub hS ho h.sub⟩
end
set_option maxHeartbeats 8000000 in
theorem replaced_c {l : List Int} {t : Bool} {σ : Store} : ACalls Tryz.prog 12 [.sl 1 (l.map sU) t] σ fun v σ' => v = vB true ∧ σ = σ' := by
  refine ACalls_of Tryz.func12 rfl Tryz.ntmps12 (congrArg Array.toList Tryz.results12) (by simp only [List.length_cons, List.length_nil]; decide) ?_; simp only [envOf_cons, envOf_nil, Nat.reduceAdd]
  refine awp_seq ?_
  refine awp_region (by kernel_rfl) ?_
  (refine aL_S rfl rfl v_ ?_)
  refine aL_nil ?_
  refine awp_seq ?_
  refine awp_seq ?_
  refine awp_region (by kernel_rfl) ?_
  iterate 3 (refine aL_S rfl rfl v_ ?_)
  refine aL_nil ?_
  refine awp_cond v_ (fun hc1 => ?_) (fun hc1 => ?_)
  · replace hc1 := nm_ hc1
    refine awp_seq ?_
    refine awp_region (by kernel_rfl) ?_
    refine aL_X rfl rfl (AOp_use rfl rfl (.inr ⟨rfl, rfl, rfl⟩) g_ va_ (awake07_c) ?_); rintro _ _ ⟨rfl, rfl⟩
    (refine aL_S rfl rfl v_ ?_)
    refine aL_nil ?_
    refine awp_ret ?_
    exact aEnd_ret (σ' := σ) va_ sub_ ⟨rfl, rfl⟩
  · replace hc1 := nm_ hc1
    have hl60 : l.length ≤ 60 := by omega
    refine awp_skip ?_
    refine awp_seq ?_
    refine awp_region (by kernel_rfl) ?_
    refine aL_alloc rfl rfl rfl g_ gl_ fun o3 ho3 => ?_
    repeat (rw [none_set_iff] at ho3; obtain ⟨_, ho3⟩ := ho3)
    refine aL_nil ?_
    refine awp_seq ?_
    refine awp_region (by kernel_rfl) ?_
    refine aL_alloc rfl rfl rfl g_ gl_ fun o4 ho4 => ?_
    repeat (rw [none_set_iff] at ho4; obtain ⟨_, ho4⟩ := ho4)
    refine aL_nil ?_
    refine awp_seq ?_
    refine awp_region (by kernel_rfl) ?_
    refine aL_nilOwn 75 2 rfl rfl rfl (by rfl) fun k5 hk5 => ?_
    refine aL_nil ?_
    refine awp_seq ?_
    refine awp_region (by kernel_rfl) ?_
    refine aL_nilOwn 22 1 rfl rfl rfl (by rfl) fun k6 hk6 => ?_
    refine aL_nil ?_
    refine awp_seq ?_
    refine awp_region (by kernel_rfl) ?_
    (refine aL_S rfl rfl v_ ?_)
    refine aL_alloc rfl rfl rfl g_ gl_ fun o7 ho7 => ?_
    repeat (rw [none_set_iff] at ho7; obtain ⟨_, ho7⟩ := ho7)
    refine aL_store rfl rfl rfl v_ v_ h_ g_ rfl g_ c_ (by rfl) le_ v_ ?_
    refine aL_nil ?_
    skip
    have n73 : o7 ≠ o3 := fun hh => by rw [hh] at ho7; simp (disch := omega) [Store.newTok_heap, Store.set_ne, Store.set_get] at ho7
    have n74 : o7 ≠ o4 := fun hh => by rw [hh] at ho7; simp (disch := omega) [Store.newTok_heap, Store.set_ne, Store.set_get] at ho7
    have n43 : o4 ≠ o3 := by omega
    have ho7s : σ.heap o7 = none := by simpa (disch := omega) [Store.newTok_heap, Store.set_ne] using ho7
    have hk56 := newTok_none hk6
    refine awp_wkCells o3 [.sl 3 [] false, .sl 5 [] false, .sl 3 [] false, .sl 5 [] false, .sl 3 [] false, .sl 5 [] false, .sl 3 [] false, .sl 5 [] false] h_ (by exact ⟨.nil _ _, .nil _ _, .nil _ _, .nil _ _, .nil _ _, .nil _ _, .nil _ _, .nil _ _, trivial⟩) ?_
    refine awp_gen fun S hS => ?_
    have hR0 : RI σ S o3 o4 o7 k5 k6 [o0, o0, o0, o0] [0, 0, 0, 0] [] [] 0 := by
      refine ⟨rfl, rfl, rfl, Nat.le_refl _, fun c hc => ?_, (fun m d h => by simp at h), fun o ho => ?_, (fun c hc => by cases hc), ?_, ?_, ?_, ?_, ?_, Ne.symm hk56.1, hk5, hk56.2, ?_⟩
      · have : c = 0 := by simpa using hc
        omega
      · have : o = o0 := by simpa using ho
        rw [this]; exact OI.zero
      · rw [hS]; exact Store.set_get ..
      · rw [hS]; simp (disch := omega) only [Store.set_ne, Store.set_get, Store.newTok_heap]; rfl
      · rw [hS]; simp (disch := omega) only [Store.set_ne, Store.set_get, Store.newTok_heap]; rfl
      · rw [hS]; simp only [Store.set_tok, Store.newTok]; rw [if_neg (Ne.symm hk56.1)]; simp
      · rw [hS]; simp only [Store.set_tok, Store.newTok]; simp
      · rw [hS]; exact subx_new ho3 (subx_new ho7s (subx_new ho7s (subx_newTok hk56.2 (subx_newTok hk5 (subx_new ho4 (subx_new ho3 subx_refl))))))
    clear hS
    refine awp_seq ?_
    refine awp_seq ?_
    refine awp_region (by kernel_rfl) ?_
    (refine aL_S rfl rfl v_ ?_)
    refine aL_nil ?_
    refine awp_block ?_
    refine awp_loop_env (ι := Store × Nat × Nat × Nat × List Obj' × List Int × List (ByteArray × Int) × List (List Seen)) (fun ⟨S, kd, kk, i, C, N, D, K⟩ => l.length - i) (fun ⟨S, kd, kk, i, C, N, D, K⟩ => i ≤ l.length ∧ RI σ S o3 o4 o7 kd kk C N D K i) (fun ⟨S, kd, kk, i, C, N, D, K⟩ => [(0, .sl 1 (l.map sU) t), (3, .ref o3 0), (4, .ref o4 0), (5, .own kd 2 (D.map sDd)), (6, .own kk 1 (K.map sKn)), (7, .ref o7 0), (8, vInt i)]) (fun ⟨S, kd, kk, i, C, N, D, K⟩ => S) (S, k5, k6, 0, [o0, o0, o0, o0], [0, 0, 0, 0], [], []) ?_ ?_ ?_ ?_
    · exact ⟨Nat.zero_le _, hR0⟩
    · exact cv_
    · exact Store.Wk.refl _
    rintro ⟨S, kd, kk, i, C, N, D, K⟩ ⟨hi, hR⟩
    simp only [envL_cons, envL_nil]
    refine awp_seq ?_
    refine awp_seq ?_
    refine awp_region (by kernel_rfl) ?_
    iterate 4 (refine aL_S rfl rfl v_ ?_)
    refine aL_nil ?_
    refine awp_cond v_ (fun hc9 => ?_) (fun hc9 => ?_)
    · replace hc9 := nm_ hc9
      refine awp_skip ?_
      refine awp_seq ?_
      refine awp_block ?_
      refine awp_seq ?_
      obtain ⟨n, hn⟩ := get_some (l := l) (k := i) (by omega)
      have hi60 : i < 60 := by omega
      have f3 := hR.h3; have f4 := hR.h4; have f7 := hR.h7
      have R := hn
      refine awp_region (by kernel_rfl) ?_
      iterate 4 (refine aL_S rfl rfl v_ ?_)
      refine aL_X rfl rfl (AOp_use rfl rfl (.inr ⟨rfl, rfl, rfl⟩) g_ va_ (step_c) ?_); rintro _ _ ⟨⟨to, fr, nd, mg, rp, hto, hfr, hnd, rfl⟩, rfl⟩
      refine aL_alloc rfl rfl rfl g_ gl_ fun o9 ho9 => ?_
      repeat (rw [none_set_iff] at ho9; obtain ⟨_, ho9⟩ := ho9)
      refine aL_store rfl rfl rfl v_ v_ h_ g_ rfl g_ c_ (by rfl) le_ v_ ?_
      refine aL_nil ?_
      have n39 := ne_of_heap f3 ho9
      have n49 := ne_of_heap f4 ho9
      have n79 := ne_of_heap f7 ho9
      have n9 : σ.heap o9 = none := SubX.noObj hR.sub ho9 (by simp)
      refine awp_gen fun S1 hS => ?_
      have f9 := gen_get hS
      replace hR := hR.gen hS ho9
      clear hS
      have f3 := hR.h3
      obtain ⟨cF, hcF⟩ := get_some (l := C) (k := fr) (by rw [hR.c4]; exact hfr)
      have pF := flat_partO hcF
      have hfl : (flat (C.map sObj)).length = 8 := by rw [flat_obj_len, hR.c4]
      have oF := hR.oi cF (List.mem_of_getElem? hcF)
      refine awp_seq ?_
      have R := And.intro f9 (And.intro f3 (And.intro pF hfl))
      refine awp_region (by kernel_rfl) ?_
      iterate 4 (refine aL_S rfl rfl v_ ?_)
      refine aL_alloc rfl rfl rfl g_ gl_ fun o10 ho10 => ?_
      repeat (rw [none_set_iff] at ho10; obtain ⟨_, ho10⟩ := ho10)
      refine aL_store rfl rfl rfl v_ v_ h_ g_ rfl g_ c_ (by rfl) le_ v_ ?_
      refine aL_nil ?_
      have n310 := ne_of_heap hR.h3 ho10
      have n410 := ne_of_heap hR.h4 ho10
      have n710 := ne_of_heap hR.h7 ho10
      have n910 := ne_of_heap f9 ho10
      have n10 : σ.heap o10 = none := SubX.noObj hR.sub ho10 (by simp)
      refine awp_gen fun S2 hS => ?_
      have f10 := gen_get hS
      replace f9 := gen_keep hS ho10 f9
      replace hR := hR.gen hS ho10
      clear hS
      refine awp_seq_mid (ι := Store × Nat × Nat × List Int × List (ByteArray × Int) × List (List Seen) × Obj') (fun ⟨S, kd, kk, N, D, K, o⟩ => RI σ S o3 o4 o7 kd kk C N D K (i + 1) ∧ OI N D K o ∧ S.heap o9 = some (.cells [vInt to, vInt fr, vInt nd, .lit (.bool mg), .lit (.bool rp)]) ∧ S.heap o10 = some (.cells [.sl 3 (o.ctx.map sSeen) false, .sl 5 (o.sibs.map sSib) false])) (fun ⟨S, kd, kk, N, D, K, o⟩ => [(0, .sl 1 (l.map sU) t), (3, .ref o3 0), (4, .ref o4 0), (5, .own kd 2 (D.map sDd)), (6, .own kk 1 (K.map sKn)), (7, .ref o7 0), (8, vInt i), (9, .ref o9 0), (10, .ref o10 0)]) (fun ⟨S, kd, kk, N, D, K, o⟩ => S) ?_ ?_
      · refine awp_seq ?_
        have R := f9
        refine awp_region (by kernel_rfl) ?_
        iterate 3 (refine aL_S rfl rfl v_ ?_)
        refine aL_nil ?_
        refine awp_cond v_ (fun hc13 => ?_) (fun hc13 => ?_)
        · replace hc13 := nm_ hc13
          refine awp_seq ?_
          obtain ⟨c, hc⟩ := get_some (l := N) (k := nd) (by rw [hR.n4]; exact hnd)
          obtain ⟨s, hs⟩ := get_some (l := nmL) (k := nd) hnd
          have hcb := hR.nb c (List.mem_of_getElem? hc)
          have f4 := hR.h4
          have hn4 := hR.n4
          have e4 : (N.map vInt).set nd (vInt (c + 1)) = (N.set nd (c + 1)).map vInt := by rw [List.map_set]
          have hnm : [vStr (B [97]), vStr (B [98]), vStr (B [99]), vStr (B [100])][nd]? = some (vStr s) := by
            show (nmL.map vStr)[nd]? = _
            rw [List.getElem?_map, hs]; rfl
          have hN60 : ∀ c ∈ N, c ≤ 60 := fun c hc => by have := hR.nb c hc; omega
          obtain ⟨w1, w2, w3, w4⟩ := OI.write (t := (i : Int)) oF hR.dok hR.dk hN60 hs hc hcb.1 ⟨by omega, by omega⟩
          have hdl := hR.di
          have hkl := hR.dk
          have smF := (oF.okk hN60).2
          obtain ⟨y, hy⟩ : ∃ y, obj1 (joinAll cF.ctx [oneS s (c + 1)]) (oneD s (c + 1) i) = y := ⟨_, rfl⟩
          rw [hy] at w1 w2
          have hss : SibSm (oneD s (c + 1) i) := by
            have hnk : nameOk s = true := by
              have key : ∀ i : Fin 4, (match nmL[i.val]? with | some s => nameOk s | _ => true) = true := by decide +kernel
              have := key ⟨nd, (List.getElem?_eq_some_iff.1 hs).1⟩
              simpa only [hs] using this
            exact ⟨by have := nameOk_size hnk; show s.size ≤ _; omega, by show (ByteArray.mk #[]).size ≤ _; exact Nat.zero_le _⟩
          have R := And.intro f9 (And.intro f4 (And.intro hc hn4))
          refine awp_draw (.op 0 0 (.op 1 0 (.op 2 0 (.op 3 0 (.op 4 0 (.op 5 0 (.op 6 0 (.op 7 0 (.op 8 2 .nil))))))))) Tryz.mixed (by kernel_rfl) ?_
          iterate 8 (refine dR_S o_ (by rfl) (by rfl) v_ ?_)
          refine dR_store o_ (by rfl) (by rfl) (by rfl) v_ v_ h_ g_ rfl g_ c_ (by rfl) le_ (aput_one le_) ?_
          refine dR_nil ?_
          refine awp_gen fun S3 hS => ?_
          rw [e4] at hS
          have f4 := put_get hS
          have f3 := put_keep hS (Ne.symm n43) hR.h3
          have f7 := put_keep hS n74 hR.h7
          replace f9 := put_keep hS (Ne.symm n49) f9
          replace f10 := put_keep hS (Ne.symm n410) f10
          have t5 := put_tok hS hR.td
          have t6 := put_tok hS hR.tk
          have s0 := put_sub hS ho4 hR.sub
          clear hS
          have hc' : (N.set nd (c + 1))[nd]? = some (c + 1) := List.getElem?_set_self (by omega)
          have hn4' : (N.set nd (c + 1)).length = 4 := by rw [List.length_set]; exact hn4
          refine awp_seq ?_
          have R := And.intro f9 (And.intro f7 (And.intro hnm (And.intro f4 (And.intro hc' hn4'))))
          refine awp_draw (.op 0 0 (.op 1 0 (.op 2 0 (.op 3 0 (.op 4 0 (.op 5 0 (.op 6 0 (.op 7 0 (.op 8 0 (.op 9 1 (.op 10 2 .nil))))))))))) Tryz.mixed (by kernel_rfl) ?_
          iterate 9 (refine dR_S o_ (by rfl) (by rfl) v_ ?_)
          refine dR_alloc o_ (by rfl) (by rfl) (by rfl) g_ gl_ sub_ fun o11 ho11 => ?_
          repeat (rw [none_set_iff] at ho11; obtain ⟨_, ho11⟩ := ho11)
          refine dR_store o_ (by rfl) (by rfl) (by rfl) v_ v_ h_ g_ rfl g_ c_ (by rfl) le_ v_ ?_
          refine dR_nil ?_
          refine awp_gen fun S4 hS => ?_
          have f11 := gen_get hS
          replace f3 := gen_keep hS ho11 f3
          replace f4 := gen_keep hS ho11 f4
          replace f7 := gen_keep hS ho11 f7
          replace f9 := gen_keep hS ho11 f9
          replace f10 := gen_keep hS ho11 f10
          replace t5 := gen_tok hS t5
          replace t6 := gen_tok hS t6
          replace s0 := gen_sub hS ho11 s0
          clear hS
          refine awp_seq ?_
          have R := And.intro f10 f11
          refine awp_region (by kernel_rfl) ?_
          iterate 5 (refine aL_S rfl rfl v_ ?_)
          refine aL_X rfl rfl (AOp_use rfl rfl (.inr ⟨rfl, rfl, rfl⟩) g_ va_ (new7_c (c := cF.ctx) (s := oneD s (c + 1) i) smF.ctx (by have := smF.nc; omega) hss) ?_); rintro _ _ ⟨rfl, rfl⟩
          rw [w1]
          iterate 3 (refine aL_S rfl rfl v_ ?_)
          refine aL_alloc rfl rfl rfl g_ gl_ fun o12 ho12 => ?_
          repeat (rw [none_set_iff] at ho12; obtain ⟨_, ho12⟩ := ho12)
          refine aL_store rfl rfl rfl v_ v_ h_ g_ rfl g_ c_ (by rfl) le_ v_ ?_
          (refine aL_S rfl rfl v_ ?_)
          refine aL_nil ?_
          refine awp_gen fun S5 hS => ?_
          have f12 := gen_get hS
          replace f3 := gen_keep hS ho12 f3
          replace f4 := gen_keep hS ho12 f4
          replace f7 := gen_keep hS ho12 f7
          replace f9 := gen_keep hS ho12 f9
          replace f10 := gen_keep hS ho12 f10
          replace f11 := gen_keep hS ho12 f11
          replace t5 := gen_tok hS t5
          replace t6 := gen_tok hS t6
          replace s0 := gen_sub hS ho12 s0
          clear hS
          refine awp_seq ?_
          refine awp_seq ?_
          refine awp_region (by kernel_rfl) ?_
          iterate 2 (refine aL_S rfl rfl v_ ?_)
          refine aL_nil ?_
          refine awp_cond v_ (fun hc17 => ?_) (fun hc17 => ?_)
          · replace hc17 := nm_ hc17
            simp at hc17
          · replace hc17 := nm_ hc17
            refine awp_skip ?_
            refine awp_seq ?_
            have R := And.intro f11 t5
            refine awp_region (by kernel_rfl) ?_
            iterate 2 (refine aL_S rfl rfl v_ ?_)
            refine aL_buildSlice rfl rfl rfl g_ g_ rfl rfl h_ c2_ (by decide) ?_
            refine aL_append rfl rfl rfl g_ g_ v_ h_ v_ c_ (by simp; omega) fun k81 hk81 => ?_
            (refine aL_S rfl rfl v_ ?_)
            refine aL_nil ?_
            have d1 : k81 ≠ kk := fun hh => by rw [hh, t6] at hk81; cases hk81
            have d2 : σ.tok k81 = none := SubX.noTok s0 hk81
            refine awp_gen fun S6 hS => ?_
            replace f3 := own_keep hS f3
            replace f4 := own_keep hS f4
            replace f7 := own_keep hS f7
            replace f9 := own_keep hS f9
            replace f10 := own_keep hS f10
            replace f12 := own_keep hS f12
            replace t6 := own_other hS (Ne.symm hR.ne) (Ne.symm d1) t6
            replace t5 := own_tok hS
            replace s0 := own_sub hS s0 hR.sd hk81
            clear hS
            refine awp_seq ?_
            have R := And.intro f10 t6
            refine awp_region (by kernel_rfl) ?_
            iterate 3 (refine aL_S rfl rfl v_ ?_)
            refine aL_buildSlice rfl rfl rfl g_ g_ rfl rfl h_ c2_ (by decide) ?_
            refine aL_append rfl rfl rfl g_ g_ v_ h_ v_ c_ (by simp; omega) fun k86 hk86 => ?_
            (refine aL_S rfl rfl v_ ?_)
            refine aL_nil ?_
            have d3 : k81 ≠ k86 := fun hh => by rw [← hh, t5] at hk86; cases hk86
            have d4 : σ.tok k86 = none := SubX.noTok s0 hk86
            refine awp_gen fun S7 hS => ?_
            replace f3 := own_keep hS f3
            replace f4 := own_keep hS f4
            replace f7 := own_keep hS f7
            replace f9 := own_keep hS f9
            replace f10 := own_keep hS f10
            replace f12 := own_keep hS f12
            replace t5 := own_other hS d1 d3 t5
            replace t6 := own_tok hS
            replace s0 := own_sub hS s0 hR.sk hk86
            clear hS
            have R := And.intro f10 f12
            refine awp_region (by kernel_rfl) ?_
            (refine aL_S rfl rfl v_ ?_)
            refine aL_store rfl rfl rfl v_ v_ h_ g_ rfl g_ c_ (by rfl) le_ v_ ?_
            refine aL_nil ?_
            obtain ⟨S8, hS⟩ : ∃ S8, S8 = S7.set o10 (.cells [.sl 3 (y.ctx.map sSeen) false, .sl 5 (y.sibs.map sSib) false]) := ⟨_, rfl⟩
            replace f10 := put_get hS
            replace f3 := put_keep hS n310 f3
            replace f4 := put_keep hS n410 f4
            replace f7 := put_keep hS n710 f7
            replace f9 := put_keep hS n910 f9
            replace t5 := put_tok hS t5
            replace t6 := put_tok hS t6
            replace s0 := put_sub hS n10 s0
            have hRw : RI σ S8 o3 o4 o7 k81 k86 C (N.set nd (c + 1)) (D ++ [(s, c + 1)]) (K ++ [cF.ctx]) (i + 1) := ⟨hR.c4, hn4', by simp [hR.dk], by simp; omega, fun z hz => by
              rcases List.mem_or_eq_of_mem_set hz with h | h
              · have := hR.nb z h; omega
              · omega, w3, fun o ho => w4 o (hR.oi o ho), fun k hk => by
              rcases List.mem_append.1 hk with h | h
              · exact hR.ksm k h
              · rw [List.mem_singleton.1 h]; exact ⟨smF.ctx, smF.nc⟩, f3, f4, f7, t5, t6, d3, d2, d4, s0⟩
            refine ⟨(S8, k81, k86, N.set nd (c + 1), D ++ [(s, c + 1)], K ++ [cF.ctx], y), ?_, ?_, ?_⟩
            · exact ⟨hRw, w2, f9, f10⟩
            · exact cv_
            · (try dsimp only); rw [hS]; exact Store.Wk.refl _
        · replace hc13 := nm_ hc13
          refine awp_skip ?_
          refine ⟨(S2, kd, kk, N, D, K, cF), ?_, ?_, ?_⟩
          · exact ⟨hR.next, oF, f9, f10⟩
          · exact cv_
          · exact Store.Wk.refl _
      · rintro ⟨S, kd, kk, N, D, K, o⟩ ⟨hR, hO, f9, f10⟩
        simp only [envL_cons, envL_nil]
        refine awp_seq ?_
        obtain ⟨cT, hcT⟩ := get_some (l := C) (k := to) (by rw [hR.c4]; exact hto)
        have pT := flat_partO hcT
        have oT := hR.oi cT (List.mem_of_getElem? hcT)
        have f3 := hR.h3
        have hN60 : ∀ c ∈ N, c ≤ 60 := fun c hc => by have := hR.nb c hc; omega
        obtain ⟨m1, m2⟩ := oT.merge hO hN60
        obtain ⟨x, hx⟩ : ∃ x, mergeO cT o = x := ⟨_, rfl⟩
        rw [hx] at m1 m2
        have smT := (oT.okk hN60).2
        have smO := (hO.okk hN60).2
        have R := And.intro f9 (And.intro f3 (And.intro pT (And.intro hfl f10)))
        refine awp_draw (.op 0 0 (.op 1 0 (.op 2 0 (.op 3 0 (.op 4 0 (.alt 5 1 (.op 6 0 (.op 7 0 (.op 8 0 (.op 9 1 (.op 10 2 (.op 11 0 .nil)))))) (.op 9 1 (.op 5 1 (.op 6 0 (.op 7 0 (.op 8 0 (.op 10 2 (.op 11 0 .nil))))))))))))) Tryz.mixed (by kernel_rfl) ?_
        iterate 5 (refine dR_S o_ (by rfl) (by rfl) v_ ?_)
        refine dR_alt ?_ ?_
        · refine dR_X o_ (by rfl) (by rfl) (AOp_use (by rfl) (by rfl) (.inr ⟨by rfl, by rfl, by rfl⟩) g_ va_ (merge_c smT smO) ?_); rintro _ _ ⟨rfl, rfl⟩; refine ⟨sub_, ?_⟩
          rw [m1]
          iterate 3 (refine dR_S o_ (by rfl) (by rfl) v_ ?_)
          refine dR_alloc o_ (by rfl) (by rfl) (by rfl) g_ gl_ sub_ fun o14 ho14 => ?_
          repeat (rw [none_set_iff] at ho14; obtain ⟨_, ho14⟩ := ho14)
          refine dR_store o_ (by rfl) (by rfl) (by rfl) v_ v_ h_ g_ rfl g_ c_ (by rfl) le_ v_ ?_
          (refine dR_S o_ (by rfl) (by rfl) v_ ?_)
          refine dR_nil ?_
          have n314 := ne_of_heap hR.h3 ho14
          have n414 := ne_of_heap hR.h4 ho14
          have n714 := ne_of_heap hR.h7 ho14
          have n914 := ne_of_heap f9 ho14
          have n14 : σ.heap o14 = none := SubX.noObj hR.sub ho14 (by simp)
          refine awp_gen fun S9 hS => ?_
          have f14 := gen_get hS
          replace f9 := gen_keep hS ho14 f9
          replace hR := hR.gen hS ho14
          clear hS
          refine awp_seq ?_
          refine awp_seq ?_
          refine awp_region (by kernel_rfl) ?_
          iterate 2 (refine aL_S rfl rfl v_ ?_)
          refine aL_nil ?_
          refine awp_cond v_ (fun hc23 => ?_) (fun hc23 => ?_)
          · replace hc23 := nm_ hc23
            simp at hc23
          · replace hc23 := nm_ hc23
            refine awp_skip ?_
            refine awp_seq_mid (ι := Store × Obj') (fun ⟨S, x⟩ => RI σ S o3 o4 o7 kd kk C N D K (i + 1) ∧ OI N D K x ∧ S.heap o9 = some (.cells [vInt to, vInt fr, vInt nd, .lit (.bool mg), .lit (.bool rp)]) ∧ S.heap o14 = some (.cells [.sl 3 (x.ctx.map sSeen) false, .sl 5 (x.sibs.map sSib) false])) (fun ⟨S, x⟩ => [(0, .sl 1 (l.map sU) t), (3, .ref o3 0), (4, .ref o4 0), (5, .own kd 2 (D.map sDd)), (6, .own kk 1 (K.map sKn)), (7, .ref o7 0), (8, vInt i), (9, .ref o9 0), (14, .ref o14 0)]) (fun ⟨S, x⟩ => S) ?_ ?_
            · refine awp_seq ?_
              have R := f9
              refine awp_region (by kernel_rfl) ?_
              iterate 2 (refine aL_S rfl rfl v_ ?_)
              refine aL_nil ?_
              refine awp_cond v_ (fun hc25 => ?_) (fun hc25 => ?_)
              · replace hc25 := nm_ hc25
                refine awp_seq ?_
                obtain ⟨r1, r2⟩ := m2.reap hN60
                have smx := (m2.okk hN60).2
                have R := f14
                refine awp_region (by kernel_rfl) ?_
                (refine aL_S rfl rfl v_ ?_)
                refine aL_X rfl rfl (AOp_use rfl rfl (.inr ⟨rfl, rfl, rfl⟩) g_ va_ (reap_c smx) ?_); rintro _ _ ⟨rfl, rfl⟩
                rw [r1]
                iterate 3 (refine aL_S rfl rfl v_ ?_)
                refine aL_alloc rfl rfl rfl g_ gl_ fun o16 ho16 => ?_
                repeat (rw [none_set_iff] at ho16; obtain ⟨_, ho16⟩ := ho16)
                refine aL_store rfl rfl rfl v_ v_ h_ g_ rfl g_ c_ (by rfl) le_ v_ ?_
                (refine aL_S rfl rfl v_ ?_)
                refine aL_nil ?_
                refine awp_gen fun S10 hS => ?_
                have f16 := gen_get hS
                replace f9 := gen_keep hS ho16 f9
                replace f14 := gen_keep hS ho16 f14
                replace hR := hR.gen hS ho16
                clear hS
                refine awp_seq ?_
                refine awp_seq ?_
                refine awp_region (by kernel_rfl) ?_
                iterate 2 (refine aL_S rfl rfl v_ ?_)
                refine aL_nil ?_
                refine awp_cond v_ (fun hc27 => ?_) (fun hc27 => ?_)
                · replace hc27 := nm_ hc27
                  simp at hc27
                · replace hc27 := nm_ hc27
                  refine awp_skip ?_
                  have R := And.intro f14 f16
                  refine awp_region (by kernel_rfl) ?_
                  (refine aL_S rfl rfl v_ ?_)
                  refine aL_store rfl rfl rfl v_ v_ h_ g_ rfl g_ c_ (by rfl) le_ v_ ?_
                  refine aL_nil ?_
                  obtain ⟨S11, hS⟩ : ∃ S11, S11 = S10.set o14 (.cells [.sl 3 (x.ctx.map sSeen) false, .sl 5 ((x.sibs.filter live).map sSib) false]) := ⟨_, rfl⟩
                  replace f14 := put_get hS
                  replace f9 := put_keep hS n914 f9
                  replace hR := hR.put hS n314 n414 n714 n14
                  refine ⟨(S11, ⟨x.ctx, x.sibs.filter live⟩), ?_, ?_, ?_⟩
                  · exact ⟨hR, r2, f9, f14⟩
                  · exact cv_
                  · (try dsimp only); rw [hS]; exact Store.Wk.refl _
              · replace hc25 := nm_ hc25
                refine awp_skip ?_
                refine ⟨(S9, x), ?_, ?_, ?_⟩
                · exact ⟨hR, m2, f9, f14⟩
                · exact cv_
                · exact Store.Wk.refl _
            · rintro ⟨S, x⟩ ⟨hR, hO, f9, f14⟩
              simp only [envL_cons, envL_nil]
              refine awp_seq ?_
              have hNb : ∀ c ∈ N, c ≤ 60 := fun c hc => by have := hR.nb c hc; omega
              have smx := (hO.okk hNb).2
              have hxn := smx.ns
              have R := And.intro f9 (And.intro f14 hfl)
              refine awp_region (by kernel_rfl) ?_
              iterate 4 (refine aL_S rfl rfl v_ ?_)
              refine aL_store rfl rfl rfl v_ v_ hR.h3 g_ rfl g_ c_ (by rfl) (by rw [hfl]; omega) (aput_flatO (by rw [hR.c4]; exact hto)) ?_
              refine aL_nil ?_
              refine awp_gen fun S30 hS => ?_
              replace f14 := put_keep hS (Ne.symm n314) f14
              have hRn : RI σ S30 o3 o4 o7 kd kk (C.set to x) N D K (i + 1) := ⟨by rw [List.length_set]; exact hR.c4, hR.n4, hR.dk, hR.di, hR.nb, hR.dok, fun o ho => by
                rcases List.mem_or_eq_of_mem_set ho with h | h
                · exact hR.oi o h
                · rw [h]; exact hO, hR.ksm, put_get hS, put_keep hS n43 hR.h4, put_keep hS n73 hR.h7, put_tok hS hR.td, put_tok hS hR.tk, hR.ne, hR.sd, hR.sk, put_sub hS ho3 hR.sub⟩
              clear hS
              have hdl := hRn.di
              have hkl := hRn.dk
              have hDl60 : D.length ≤ 60 := by omega
              refine awp_seq ?_
              refine awp_region (by kernel_rfl) ?_
              (refine aL_S rfl rfl v_ ?_)
              refine aL_nil ?_
              refine awp_block ?_
              refine awp_loop_env (ι := Nat) (fun k => x.sibs.length - k) (fun k => k ≤ x.sibs.length) (fun k => [(0, .sl 1 (l.map sU) t), (3, .ref o3 0), (4, .ref o4 0), (5, .own kd 2 (D.map sDd)), (6, .own kk 1 (K.map sKn)), (7, .ref o7 0), (8, vInt i), (14, .ref o14 0), (18, vInt k)]) (fun k => S30) 0 ?_ ?_ ?_ ?_
              · exact Nat.zero_le _
              · exact cv_
              · exact Store.Wk.refl _
              rintro k hk
              simp only [envL_cons, envL_nil]
              refine awp_seq ?_
              refine awp_seq ?_
              have R := f14
              refine awp_region (by kernel_rfl) ?_
              iterate 5 (refine aL_S rfl rfl v_ ?_)
              refine aL_nil ?_
              refine awp_cond v_ (fun hc32 => ?_) (fun hc32 => ?_)
              · replace hc32 := nm_ hc32
                refine awp_skip ?_
                refine awp_seq ?_
                refine awp_block ?_
                refine awp_seq ?_
                obtain ⟨z, hz⟩ := get_some (l := x.sibs) (k := k) (by omega)
                have hzm := List.mem_of_getElem? hz
                have hzn := (smx.sibs z hzm).node
                refine awp_region (by kernel_rfl) ?_
                (refine aL_S rfl rfl v_ ?_)
                refine aL_nil ?_
                refine awp_block ?_
                refine awp_loop_env (ι := Nat) (fun m => D.length - m) (fun m => m ≤ D.length) (fun m => [(0, .sl 1 (l.map sU) t), (3, .ref o3 0), (4, .ref o4 0), (5, .own kd 2 (D.map sDd)), (6, .own kk 1 (K.map sKn)), (7, .ref o7 0), (8, vInt i), (14, .ref o14 0), (18, vInt k), (19, vInt m)]) (fun m => S30) 0 ?_ ?_ ?_ ?_
                · exact Nat.zero_le _
                · exact cv_
                · exact Store.Wk.refl _
                rintro m hm
                simp only [envL_cons, envL_nil]
                refine awp_seq ?_
                refine awp_seq ?_
                refine awp_region (by kernel_rfl) ?_
                iterate 4 (refine aL_S rfl rfl v_ ?_)
                refine aL_nil ?_
                refine awp_cond v_ (fun hc35 => ?_) (fun hc35 => ?_)
                · replace hc35 := nm_ hc35
                  refine awp_skip ?_
                  refine awp_seq ?_
                  refine awp_block ?_
                  refine awp_seq ?_
                  obtain ⟨d, hd⟩ := get_some (l := D) (k := m) (by omega)
                  obtain ⟨q, hq⟩ := get_some (l := K) (k := m) (by omega)
                  have hqs := hR.ksm q (List.mem_of_getElem? hq)
                  have hds : d.1.size ≤ 1000000 := by
                    obtain ⟨j, _, h1, _⟩ := hR.dok m d hd
                    have key : ∀ i : Fin 4, (match nmL[i.val]? with | some s => decide (s.size ≤ 10) | _ => true) = true := by decide +kernel
                    have := key ⟨j, (List.getElem?_eq_some_iff.1 h1).1⟩
                    simp only [h1, decide_eq_true_eq] at this
                    omega
                  have R := And.intro f14 (And.intro hd (And.intro hq hz))
                  refine awp_draw (.op 0 0 (.op 1 0 (.op 2 0 (.op 3 0 (.op 4 0 (.op 5 0 (.op 6 1 (.op 7 0 (.op 8 0 (.op 9 0 (.op 10 0 (.op 11 0 (.op 12 0 (.op 13 0 (.op 14 0 (.op 15 0 (.op 16 0 (.op 17 0 (.op 18 1 (.op 19 0 .nil)))))))))))))))))))) Tryz.mixed (by kernel_rfl) ?_
                  iterate 6 (refine dR_S o_ (by rfl) (by rfl) v_ ?_)
                  refine dR_X o_ (by rfl) (by rfl) (AOp_use (by rfl) (by rfl) (.inr ⟨by rfl, by rfl, by rfl⟩) g_ va_ (rHas_c smx.ctx (by have := smx.nc; omega)) ?_); rintro _ _ ⟨rfl, rfl⟩; refine ⟨sub_, ?_⟩
                  (refine dR_S o_ (by rfl) (by rfl) v_ ?_)
                  refine dR_GT o_ (by rfl) (by rfl) v_ (by rfl) vg_ ?_
                  refine dR_GT o_ (by rfl) (by rfl) v_ (by rfl) vg_ ?_
                  refine dR_GT o_ (by rfl) (by rfl) v_ (by rfl) vg_ ?_
                  refine dR_GT o_ (by rfl) (by rfl) v_ (by rfl) vg_ ?_
                  refine dR_GT o_ (by rfl) (by rfl) v_ (by rfl) vg_ ?_
                  refine dR_GT o_ (by rfl) (by rfl) v_ (by rfl) vg_ ?_
                  refine dR_GT o_ (by rfl) (by rfl) v_ (by rfl) vg_ ?_
                  refine dR_GT o_ (by rfl) (by rfl) v_ (by rfl) vg_ ?_
                  refine dR_GT o_ (by rfl) (by rfl) v_ (by rfl) vg_ ?_
                  refine dR_GT o_ (by rfl) (by rfl) v_ (by rfl) vg_ ?_
                  refine dR_GTX o_ (by rfl) (by rfl) v_ (by rfl) sub_ (fun hb => AOp_useV (by rfl) (by rfl) (.inr ⟨by rfl, by rfl, by rfl⟩) g_ cg_ (rHas_c hqs.1 (by have := hqs.2; omega))) ?_
                  (refine dR_S o_ (by rfl) (by rfl) v_ ?_)
                  refine dR_nil ?_
                  refine awp_cond v_ (fun hc37 => ?_) (fun hc37 => ?_)
                  · replace hc37 := nm_ hc37
                    exact (hO.safe hd hq hzm hc37.1 hc37.2).elim
                  · replace hc37 := nm_ hc37
                    refine awp_skip ?_
                    refine awp_region (by kernel_rfl) ?_
                    iterate 3 (refine aL_S rfl rfl v_ ?_)
                    refine aL_nil ?_
                    refine aNext (ι := Nat) (i := m) (m + 1) ?_ ?_ ?_ ?_
                    · omega
                    · show m + 1 ≤ D.length; omega
                    · exact cv_
                    · exact Store.Wk.refl _
                · replace hc35 := nm_ hc35
                  refine awp_exit ?_
                  refine aThen_exit ?_
                  refine aThen_exit ?_
                  refine aBlock_hit ?_
                  refine awp_region (by kernel_rfl) ?_
                  iterate 3 (refine aL_S rfl rfl v_ ?_)
                  refine aL_nil ?_
                  refine aNext (ι := Nat) (i := k) (k + 1) ?_ ?_ ?_ ?_
                  · omega
                  · show k + 1 ≤ x.sibs.length; omega
                  · exact cv_
                  · exact Store.Wk.refl _
              · replace hc32 := nm_ hc32
                refine awp_exit ?_
                refine aThen_exit ?_
                refine aThen_exit ?_
                refine aBlock_hit ?_
                refine awp_region (by kernel_rfl) ?_
                iterate 3 (refine aL_S rfl rfl v_ ?_)
                refine aL_nil ?_
                refine aNext (ι := Store × Nat × Nat × Nat × List Obj' × List Int × List (ByteArray × Int) × List (List Seen)) (i := ⟨S, kd, kk, i, C, N, D, K⟩) (S30, kd, kk, i + 1, C.set to x, N, D, K) ?_ ?_ ?_ ?_
                · show l.length - (i + 1) < l.length - i; omega
                · exact ⟨by show i + 1 ≤ l.length; omega, hRn⟩
                · exact cv_
                · exact Store.Wk.refl _
        refine dR_alloc o_ (by rfl) (by rfl) (by rfl) g_ gl_ sub_ fun o14 ho14 => ?_
        repeat (rw [none_set_iff] at ho14; obtain ⟨_, ho14⟩ := ho14)
        refine dR_X o_ (by rfl) (by rfl) (AOp_use (by rfl) (by rfl) (.inr ⟨by rfl, by rfl, by rfl⟩) g_ va_ (merge_c smT smO) ?_); rintro _ _ ⟨rfl, rfl⟩; refine ⟨sub_, ?_⟩
        rw [m1]
        iterate 3 (refine dR_S o_ (by rfl) (by rfl) v_ ?_)
        refine dR_store o_ (by rfl) (by rfl) (by rfl) v_ v_ h_ g_ rfl g_ c_ (by rfl) le_ v_ ?_
        (refine dR_S o_ (by rfl) (by rfl) v_ ?_)
        refine dR_nil ?_
        have n314 := ne_of_heap hR.h3 ho14
        have n414 := ne_of_heap hR.h4 ho14
        have n714 := ne_of_heap hR.h7 ho14
        have n914 := ne_of_heap f9 ho14
        have n14 : σ.heap o14 = none := SubX.noObj hR.sub ho14 (by simp)
        refine awp_gen fun S9 hS => ?_
        have f14 := gen_get hS
        replace f9 := gen_keep hS ho14 f9
        replace hR := hR.gen hS ho14
        clear hS
        refine awp_seq ?_
        refine awp_seq ?_
        refine awp_region (by kernel_rfl) ?_
        iterate 2 (refine aL_S rfl rfl v_ ?_)
        refine aL_nil ?_
        refine awp_cond v_ (fun hc23 => ?_) (fun hc23 => ?_)
        · replace hc23 := nm_ hc23
          simp at hc23
        · replace hc23 := nm_ hc23
          refine awp_skip ?_
          refine awp_seq_mid (ι := Store × Obj') (fun ⟨S, x⟩ => RI σ S o3 o4 o7 kd kk C N D K (i + 1) ∧ OI N D K x ∧ S.heap o9 = some (.cells [vInt to, vInt fr, vInt nd, .lit (.bool mg), .lit (.bool rp)]) ∧ S.heap o14 = some (.cells [.sl 3 (x.ctx.map sSeen) false, .sl 5 (x.sibs.map sSib) false])) (fun ⟨S, x⟩ => [(0, .sl 1 (l.map sU) t), (3, .ref o3 0), (4, .ref o4 0), (5, .own kd 2 (D.map sDd)), (6, .own kk 1 (K.map sKn)), (7, .ref o7 0), (8, vInt i), (9, .ref o9 0), (14, .ref o14 0)]) (fun ⟨S, x⟩ => S) ?_ ?_
          · refine awp_seq ?_
            have R := f9
            refine awp_region (by kernel_rfl) ?_
            iterate 2 (refine aL_S rfl rfl v_ ?_)
            refine aL_nil ?_
            refine awp_cond v_ (fun hc25 => ?_) (fun hc25 => ?_)
            · replace hc25 := nm_ hc25
              refine awp_seq ?_
              obtain ⟨r1, r2⟩ := m2.reap hN60
              have smx := (m2.okk hN60).2
              have R := f14
              refine awp_region (by kernel_rfl) ?_
              (refine aL_S rfl rfl v_ ?_)
              refine aL_X rfl rfl (AOp_use rfl rfl (.inr ⟨rfl, rfl, rfl⟩) g_ va_ (reap_c smx) ?_); rintro _ _ ⟨rfl, rfl⟩
              rw [r1]
              iterate 3 (refine aL_S rfl rfl v_ ?_)
              refine aL_alloc rfl rfl rfl g_ gl_ fun o16 ho16 => ?_
              repeat (rw [none_set_iff] at ho16; obtain ⟨_, ho16⟩ := ho16)
              refine aL_store rfl rfl rfl v_ v_ h_ g_ rfl g_ c_ (by rfl) le_ v_ ?_
              (refine aL_S rfl rfl v_ ?_)
              refine aL_nil ?_
              refine awp_gen fun S10 hS => ?_
              have f16 := gen_get hS
              replace f9 := gen_keep hS ho16 f9
              replace f14 := gen_keep hS ho16 f14
              replace hR := hR.gen hS ho16
              clear hS
              refine awp_seq ?_
              refine awp_seq ?_
              refine awp_region (by kernel_rfl) ?_
              iterate 2 (refine aL_S rfl rfl v_ ?_)
              refine aL_nil ?_
              refine awp_cond v_ (fun hc27 => ?_) (fun hc27 => ?_)
              · replace hc27 := nm_ hc27
                simp at hc27
              · replace hc27 := nm_ hc27
                refine awp_skip ?_
                have R := And.intro f14 f16
                refine awp_region (by kernel_rfl) ?_
                (refine aL_S rfl rfl v_ ?_)
                refine aL_store rfl rfl rfl v_ v_ h_ g_ rfl g_ c_ (by rfl) le_ v_ ?_
                refine aL_nil ?_
                obtain ⟨S11, hS⟩ : ∃ S11, S11 = S10.set o14 (.cells [.sl 3 (x.ctx.map sSeen) false, .sl 5 ((x.sibs.filter live).map sSib) false]) := ⟨_, rfl⟩
                replace f14 := put_get hS
                replace f9 := put_keep hS n914 f9
                replace hR := hR.put hS n314 n414 n714 n14
                refine ⟨(S11, ⟨x.ctx, x.sibs.filter live⟩), ?_, ?_, ?_⟩
                · exact ⟨hR, r2, f9, f14⟩
                · exact cv_
                · (try dsimp only); rw [hS]; exact Store.Wk.refl _
            · replace hc25 := nm_ hc25
              refine awp_skip ?_
              refine ⟨(S9, x), ?_, ?_, ?_⟩
              · exact ⟨hR, m2, f9, f14⟩
              · exact cv_
              · exact Store.Wk.refl _
          · rintro ⟨S, x⟩ ⟨hR, hO, f9, f14⟩
            simp only [envL_cons, envL_nil]
            refine awp_seq ?_
            have hNb : ∀ c ∈ N, c ≤ 60 := fun c hc => by have := hR.nb c hc; omega
            have smx := (hO.okk hNb).2
            have hxn := smx.ns
            have R := And.intro f9 (And.intro f14 hfl)
            refine awp_region (by kernel_rfl) ?_
            iterate 4 (refine aL_S rfl rfl v_ ?_)
            refine aL_store rfl rfl rfl v_ v_ hR.h3 g_ rfl g_ c_ (by rfl) (by rw [hfl]; omega) (aput_flatO (by rw [hR.c4]; exact hto)) ?_
            refine aL_nil ?_
            refine awp_gen fun S30 hS => ?_
            replace f14 := put_keep hS (Ne.symm n314) f14
            have hRn : RI σ S30 o3 o4 o7 kd kk (C.set to x) N D K (i + 1) := ⟨by rw [List.length_set]; exact hR.c4, hR.n4, hR.dk, hR.di, hR.nb, hR.dok, fun o ho => by
              rcases List.mem_or_eq_of_mem_set ho with h | h
              · exact hR.oi o h
              · rw [h]; exact hO, hR.ksm, put_get hS, put_keep hS n43 hR.h4, put_keep hS n73 hR.h7, put_tok hS hR.td, put_tok hS hR.tk, hR.ne, hR.sd, hR.sk, put_sub hS ho3 hR.sub⟩
            clear hS
            have hdl := hRn.di
            have hkl := hRn.dk
            have hDl60 : D.length ≤ 60 := by omega
            refine awp_seq ?_
            refine awp_region (by kernel_rfl) ?_
            (refine aL_S rfl rfl v_ ?_)
            refine aL_nil ?_
            refine awp_block ?_
            refine awp_loop_env (ι := Nat) (fun k => x.sibs.length - k) (fun k => k ≤ x.sibs.length) (fun k => [(0, .sl 1 (l.map sU) t), (3, .ref o3 0), (4, .ref o4 0), (5, .own kd 2 (D.map sDd)), (6, .own kk 1 (K.map sKn)), (7, .ref o7 0), (8, vInt i), (14, .ref o14 0), (18, vInt k)]) (fun k => S30) 0 ?_ ?_ ?_ ?_
            · exact Nat.zero_le _
            · exact cv_
            · exact Store.Wk.refl _
            rintro k hk
            simp only [envL_cons, envL_nil]
            refine awp_seq ?_
            refine awp_seq ?_
            have R := f14
            refine awp_region (by kernel_rfl) ?_
            iterate 5 (refine aL_S rfl rfl v_ ?_)
            refine aL_nil ?_
            refine awp_cond v_ (fun hc32 => ?_) (fun hc32 => ?_)
            · replace hc32 := nm_ hc32
              refine awp_skip ?_
              refine awp_seq ?_
              refine awp_block ?_
              refine awp_seq ?_
              obtain ⟨z, hz⟩ := get_some (l := x.sibs) (k := k) (by omega)
              have hzm := List.mem_of_getElem? hz
              have hzn := (smx.sibs z hzm).node
              refine awp_region (by kernel_rfl) ?_
              (refine aL_S rfl rfl v_ ?_)
              refine aL_nil ?_
              refine awp_block ?_
              refine awp_loop_env (ι := Nat) (fun m => D.length - m) (fun m => m ≤ D.length) (fun m => [(0, .sl 1 (l.map sU) t), (3, .ref o3 0), (4, .ref o4 0), (5, .own kd 2 (D.map sDd)), (6, .own kk 1 (K.map sKn)), (7, .ref o7 0), (8, vInt i), (14, .ref o14 0), (18, vInt k), (19, vInt m)]) (fun m => S30) 0 ?_ ?_ ?_ ?_
              · exact Nat.zero_le _
              · exact cv_
              · exact Store.Wk.refl _
              rintro m hm
              simp only [envL_cons, envL_nil]
              refine awp_seq ?_
              refine awp_seq ?_
              refine awp_region (by kernel_rfl) ?_
              iterate 4 (refine aL_S rfl rfl v_ ?_)
              refine aL_nil ?_
              refine awp_cond v_ (fun hc35 => ?_) (fun hc35 => ?_)
              · replace hc35 := nm_ hc35
                refine awp_skip ?_
                refine awp_seq ?_
                refine awp_block ?_
                refine awp_seq ?_
                obtain ⟨d, hd⟩ := get_some (l := D) (k := m) (by omega)
                obtain ⟨q, hq⟩ := get_some (l := K) (k := m) (by omega)
                have hqs := hR.ksm q (List.mem_of_getElem? hq)
                have hds : d.1.size ≤ 1000000 := by
                  obtain ⟨j, _, h1, _⟩ := hR.dok m d hd
                  have key : ∀ i : Fin 4, (match nmL[i.val]? with | some s => decide (s.size ≤ 10) | _ => true) = true := by decide +kernel
                  have := key ⟨j, (List.getElem?_eq_some_iff.1 h1).1⟩
                  simp only [h1, decide_eq_true_eq] at this
                  omega
                have R := And.intro f14 (And.intro hd (And.intro hq hz))
                refine awp_draw (.op 0 0 (.op 1 0 (.op 2 0 (.op 3 0 (.op 4 0 (.op 5 0 (.op 6 1 (.op 7 0 (.op 8 0 (.op 9 0 (.op 10 0 (.op 11 0 (.op 12 0 (.op 13 0 (.op 14 0 (.op 15 0 (.op 16 0 (.op 17 0 (.op 18 1 (.op 19 0 .nil)))))))))))))))))))) Tryz.mixed (by kernel_rfl) ?_
                iterate 6 (refine dR_S o_ (by rfl) (by rfl) v_ ?_)
                refine dR_X o_ (by rfl) (by rfl) (AOp_use (by rfl) (by rfl) (.inr ⟨by rfl, by rfl, by rfl⟩) g_ va_ (rHas_c smx.ctx (by have := smx.nc; omega)) ?_); rintro _ _ ⟨rfl, rfl⟩; refine ⟨sub_, ?_⟩
                (refine dR_S o_ (by rfl) (by rfl) v_ ?_)
                refine dR_GT o_ (by rfl) (by rfl) v_ (by rfl) vg_ ?_
                refine dR_GT o_ (by rfl) (by rfl) v_ (by rfl) vg_ ?_
                refine dR_GT o_ (by rfl) (by rfl) v_ (by rfl) vg_ ?_
                refine dR_GT o_ (by rfl) (by rfl) v_ (by rfl) vg_ ?_
                refine dR_GT o_ (by rfl) (by rfl) v_ (by rfl) vg_ ?_
                refine dR_GT o_ (by rfl) (by rfl) v_ (by rfl) vg_ ?_
                refine dR_GT o_ (by rfl) (by rfl) v_ (by rfl) vg_ ?_
                refine dR_GT o_ (by rfl) (by rfl) v_ (by rfl) vg_ ?_
                refine dR_GT o_ (by rfl) (by rfl) v_ (by rfl) vg_ ?_
                refine dR_GT o_ (by rfl) (by rfl) v_ (by rfl) vg_ ?_
                refine dR_GTX o_ (by rfl) (by rfl) v_ (by rfl) sub_ (fun hb => AOp_useV (by rfl) (by rfl) (.inr ⟨by rfl, by rfl, by rfl⟩) g_ cg_ (rHas_c hqs.1 (by have := hqs.2; omega))) ?_
                (refine dR_S o_ (by rfl) (by rfl) v_ ?_)
                refine dR_nil ?_
                refine awp_cond v_ (fun hc37 => ?_) (fun hc37 => ?_)
                · replace hc37 := nm_ hc37
                  exact (hO.safe hd hq hzm hc37.1 hc37.2).elim
                · replace hc37 := nm_ hc37
                  refine awp_skip ?_
                  refine awp_region (by kernel_rfl) ?_
                  iterate 3 (refine aL_S rfl rfl v_ ?_)
                  refine aL_nil ?_
                  refine aNext (ι := Nat) (i := m) (m + 1) ?_ ?_ ?_ ?_
                  · omega
                  · show m + 1 ≤ D.length; omega
                  · exact cv_
                  · exact Store.Wk.refl _
              · replace hc35 := nm_ hc35
                refine awp_exit ?_
                refine aThen_exit ?_
                refine aThen_exit ?_
                refine aBlock_hit ?_
                refine awp_region (by kernel_rfl) ?_
                iterate 3 (refine aL_S rfl rfl v_ ?_)
                refine aL_nil ?_
                refine aNext (ι := Nat) (i := k) (k + 1) ?_ ?_ ?_ ?_
                · omega
                · show k + 1 ≤ x.sibs.length; omega
                · exact cv_
                · exact Store.Wk.refl _
            · replace hc32 := nm_ hc32
              refine awp_exit ?_
              refine aThen_exit ?_
              refine aThen_exit ?_
              refine aBlock_hit ?_
              refine awp_region (by kernel_rfl) ?_
              iterate 3 (refine aL_S rfl rfl v_ ?_)
              refine aL_nil ?_
              refine aNext (ι := Store × Nat × Nat × Nat × List Obj' × List Int × List (ByteArray × Int) × List (List Seen)) (i := ⟨S, kd, kk, i, C, N, D, K⟩) (S30, kd, kk, i + 1, C.set to x, N, D, K) ?_ ?_ ?_ ?_
              · show l.length - (i + 1) < l.length - i; omega
              · exact ⟨by show i + 1 ≤ l.length; omega, hRn⟩
              · exact cv_
              · exact Store.Wk.refl _
    · replace hc9 := nm_ hc9
      refine awp_exit ?_
      refine aThen_exit ?_
      refine aThen_exit ?_
      refine aBlock_hit ?_
      refine awp_seq ?_
      skip
      have f3 := hR.h3
      have hfl : (flat (C.map sObj)).length = 8 := by rw [flat_obj_len, hR.c4]
      have hN60 : ∀ c ∈ N, c ≤ 60 := fun c hc => by have := hR.nb c hc; omega
      refine awp_region (by kernel_rfl) ?_
      iterate 2 (refine aL_S rfl rfl v_ ?_)
      refine aL_alloc rfl rfl rfl g_ gl_ fun o20 ho20 => ?_
      repeat (rw [none_set_iff] at ho20; obtain ⟨_, ho20⟩ := ho20)
      refine aL_alloc rfl rfl rfl g_ gl_ fun o21 ho21 => ?_
      repeat (rw [none_set_iff] at ho21; obtain ⟨_, ho21⟩ := ho21)
      refine aL_store rfl rfl rfl v_ v_ h_ g_ rfl g_ c_ (by rfl) le_ v_ ?_
      refine aL_store rfl rfl rfl v_ v_ h_ g_ rfl g_ c_ (by rfl) le_ v_ ?_
      refine aL_nil ?_
      have n320 := ne_of_heap f3 ho20
      have f21' : o3 ≠ o21 ∧ σ.heap o21 = none := ⟨fun hh => by first | (rw [← hh, f3] at ho21; cases ho21) | (rw [← hh] at ho21; simp (disch := omega) [Store.set_ne, f3] at ho21), SubX.noObj hR.sub (by first | exact ho21 | simpa (disch := omega) [Store.set_ne] using ho21) (by simp)⟩
      have n20 : σ.heap o20 = none := SubX.noObj hR.sub ho20 (by simp)
      have n2120 : o21 ≠ o20 := by omega
      refine awp_wkCells o20 (sObj o0).cells h_ (by exact ⟨.nil _ _, .nil _ _, trivial⟩) ?_
      refine awp_wkCells o21 (sObj o0).cells h_ (by exact ⟨.nil _ _, .nil _ _, trivial⟩) ?_
      refine awp_gen fun S40 hS => ?_
      have f3 : S40.heap o3 = some (.cells (flat (C.map sObj))) := by rw [hS]; simp (disch := omega) only [Store.set_ne]; exact hR.h3
      have f20 : S40.heap o20 = some (.cells [.sl 3 (o0.ctx.map sSeen) false, .sl 5 (o0.sibs.map sSib) false]) := by rw [hS]; simp (disch := omega) only [Store.set_ne, Store.set_get]; rfl
      have f21 : S40.heap o21 = some (.cells [.sl 3 (o0.ctx.map sSeen) false, .sl 5 (o0.sibs.map sSib) false]) := by rw [hS]; simp (disch := omega) only [Store.set_ne, Store.set_get]; rfl
      have s0 : SubX [] σ S40 := by rw [hS]; exact subx_new f21'.2 (subx_new n20 (subx_new f21'.2 (subx_new n20 (subx_new f21'.2 (subx_new n20 hR.sub)))))
      clear hS
      refine awp_seq ?_
      refine awp_seq ?_
      refine awp_region (by kernel_rfl) ?_
      (refine aL_S rfl rfl v_ ?_)
      refine aL_nil ?_
      refine awp_block ?_
      refine awp_loop_env (ι := Store × Nat) (fun ⟨S, i⟩ => 4 - i) (fun ⟨S, i⟩ => i ≤ 4 ∧ OI N D K (upTo C i) ∧ OI N D K (dnTo C i) ∧ S.heap o3 = some (.cells (flat (C.map sObj))) ∧ S.heap o20 = some (.cells [.sl 3 ((upTo C i).ctx.map sSeen) false, .sl 5 ((upTo C i).sibs.map sSib) false]) ∧ S.heap o21 = some (.cells [.sl 3 ((dnTo C i).ctx.map sSeen) false, .sl 5 ((dnTo C i).sibs.map sSib) false]) ∧ SubX [] σ S) (fun ⟨S, i⟩ => [(3, .ref o3 0), (20, .ref o20 0), (21, .ref o21 0), (22, vInt i)]) (fun ⟨S, i⟩ => S) (S40, 0) ?_ ?_ ?_ ?_
      · exact ⟨Nat.zero_le _, OI.zero, OI.zero, f3, f20, f21, s0⟩
      · exact cv_
      · exact Store.Wk.refl _
      rintro ⟨S, i⟩ ⟨hi4, hU, hW, f3, f20, f21, s0⟩
      simp only [envL_cons, envL_nil]
      refine awp_seq ?_
      refine awp_seq ?_
      refine awp_region (by kernel_rfl) ?_
      iterate 2 (refine aL_S rfl rfl v_ ?_)
      refine aL_nil ?_
      refine awp_cond v_ (fun hc41 => ?_) (fun hc41 => ?_)
      · replace hc41 := nm_ hc41
        refine awp_skip ?_
        refine awp_seq ?_
        refine awp_block ?_
        refine awp_seq ?_
        obtain ⟨a, hCa⟩ := get_some (l := C) (k := i) (by rw [hR.c4]; omega)
        obtain ⟨b, hCb⟩ := get_some (l := C) (k := 3 - i) (by rw [hR.c4]; omega)
        have pa := flat_partO hCa
        have pb := flat_partO hCb
        have oa := hR.oi a (List.mem_of_getElem? hCa)
        have ob := hR.oi b (List.mem_of_getElem? hCb)
        obtain ⟨u1, uU⟩ := hU.merge oa hN60
        obtain ⟨v1, wW⟩ := hW.merge ob hN60
        have eU : upTo C (i + 1) = mergeO (upTo C i) a := by simp [upTo, hCa]
        have eW : dnTo C (i + 1) = mergeO (dnTo C i) b := by simp [dnTo, hCb]
        rw [← eU] at u1 uU
        rw [← eW] at v1 wW
        have smU := (hU.okk hN60).2
        have smW := (hW.okk hN60).2
        have sma := (oa.okk hN60).2
        have smb := (ob.okk hN60).2
        have h3i : ((3 : Int) - i).toNat = 3 - i := by omega
        generalize hUU : upTo C i = U at *
        generalize hWW : dnTo C i = W at *
        generalize hUU' : upTo C (i + 1) = U' at *
        generalize hWW' : dnTo C (i + 1) = W' at *
        have R := And.intro f20 (And.intro f3 (And.intro pa hfl))
        refine awp_draw (.op 0 0 (.op 1 0 (.op 2 0 (.op 3 0 (.alt 4 1 (.op 5 0 (.op 6 0 (.op 7 0 (.op 8 1 (.op 9 2 (.op 10 0 .nil)))))) (.op 8 1 (.op 4 1 (.op 5 0 (.op 6 0 (.op 7 0 (.op 9 2 (.op 10 0 .nil)))))))))))) Tryz.mixed (by kernel_rfl) ?_
        iterate 4 (refine dR_S o_ (by rfl) (by rfl) v_ ?_)
        refine dR_alt ?_ ?_
        · refine dR_X o_ (by rfl) (by rfl) (AOp_use (by rfl) (by rfl) (.inr ⟨by rfl, by rfl, by rfl⟩) g_ va_ (merge_c smU sma) ?_); rintro _ _ ⟨rfl, rfl⟩; refine ⟨sub_, ?_⟩
          rw [u1]
          iterate 3 (refine dR_S o_ (by rfl) (by rfl) v_ ?_)
          refine dR_alloc o_ (by rfl) (by rfl) (by rfl) g_ gl_ sub_ fun o23 ho23 => ?_
          repeat (rw [none_set_iff] at ho23; obtain ⟨_, ho23⟩ := ho23)
          refine dR_store o_ (by rfl) (by rfl) (by rfl) v_ v_ h_ g_ rfl g_ c_ (by rfl) le_ v_ ?_
          (refine dR_S o_ (by rfl) (by rfl) v_ ?_)
          refine dR_nil ?_
          have n2023 := ne_of_heap f20 ho23
          refine awp_gen fun S41 hS => ?_
          have f23 := gen_get hS
          replace f3 := gen_keep hS ho23 f3
          replace f20 := gen_keep hS ho23 f20
          replace f21 := gen_keep hS ho23 f21
          replace s0 := gen_sub hS ho23 s0
          clear hS
          refine awp_seq ?_
          have R := And.intro f21 (And.intro f3 (And.intro pb (And.intro hfl h3i)))
          refine awp_draw (.op 0 0 (.op 1 0 (.op 2 0 (.op 3 0 (.op 4 0 (.alt 5 1 (.op 6 0 (.op 7 0 (.op 8 0 (.op 9 1 (.op 10 2 (.op 11 0 .nil)))))) (.op 9 1 (.op 5 1 (.op 6 0 (.op 7 0 (.op 8 0 (.op 10 2 (.op 11 0 .nil))))))))))))) Tryz.mixed (by kernel_rfl) ?_
          iterate 5 (refine dR_S o_ (by rfl) (by rfl) v_ ?_)
          refine dR_alt ?_ ?_
          · refine dR_X o_ (by rfl) (by rfl) (AOp_use (by rfl) (by rfl) (.inr ⟨by rfl, by rfl, by rfl⟩) g_ va_ (merge_c smW smb) ?_); rintro _ _ ⟨rfl, rfl⟩; refine ⟨sub_, ?_⟩
            rw [v1]
            iterate 3 (refine dR_S o_ (by rfl) (by rfl) v_ ?_)
            refine dR_alloc o_ (by rfl) (by rfl) (by rfl) g_ gl_ sub_ fun o25 ho25 => ?_
            repeat (rw [none_set_iff] at ho25; obtain ⟨_, ho25⟩ := ho25)
            refine dR_store o_ (by rfl) (by rfl) (by rfl) v_ v_ h_ g_ rfl g_ c_ (by rfl) le_ v_ ?_
            (refine dR_S o_ (by rfl) (by rfl) v_ ?_)
            refine dR_nil ?_
            have n2520 := Ne.symm (ne_of_heap f20 ho25)
            refine awp_gen fun S42 hS => ?_
            have f25 := gen_get hS
            replace f3 := gen_keep hS ho25 f3
            replace f20 := gen_keep hS ho25 f20
            replace f21 := gen_keep hS ho25 f21
            replace f23 := gen_keep hS ho25 f23
            replace s0 := gen_sub hS ho25 s0
            clear hS
            have n2125 : o21 ≠ o20 := n2120
            refine awp_seq ?_
            refine awp_seq ?_
            refine awp_region (by kernel_rfl) ?_
            iterate 3 (refine aL_S rfl rfl v_ ?_)
            refine aL_GF rfl rfl v_ rfl vg_ ?_
            refine aL_GF rfl rfl v_ rfl vg_ ?_
            (refine aL_S rfl rfl v_ ?_)
            refine aL_nil ?_
            refine awp_cond v_ (fun hc45 => ?_) (fun hc45 => ?_)
            · replace hc45 := nm_ hc45
              simp at hc45
            · replace hc45 := nm_ hc45
              refine awp_skip ?_
              refine awp_seq ?_
              have R := And.intro f20 f23
              refine awp_region (by kernel_rfl) ?_
              (refine aL_S rfl rfl v_ ?_)
              refine aL_store rfl rfl rfl v_ v_ h_ g_ rfl g_ c_ (by rfl) le_ v_ ?_
              refine aL_nil ?_
              refine awp_gen fun S43 hS => ?_
              replace f20 := put_get hS
              replace f3 := put_keep hS n320 f3
              replace f21 := put_keep hS n2120 f21
              replace f25 := put_keep hS n2520 f25
              replace s0 := put_sub hS n20 s0
              clear hS
              have R := And.intro f21 f25
              refine awp_region (by kernel_rfl) ?_
              (refine aL_S rfl rfl v_ ?_)
              refine aL_store rfl rfl rfl v_ v_ h_ g_ rfl g_ c_ (by rfl) le_ v_ ?_
              refine aL_nil ?_
              refine awp_gen fun S44 hS => ?_
              replace f21 := put_get hS
              replace f3 := put_keep hS f21'.1 f3
              replace f20 := put_keep hS (Ne.symm n2120) f20
              replace s0 := put_sub hS f21'.2 s0
              clear hS
              rw [← hUU'] at f20 uU
              rw [← hWW'] at f21 wW
              refine awp_region (by kernel_rfl) ?_
              iterate 3 (refine aL_S rfl rfl v_ ?_)
              refine aL_nil ?_
              refine aNext (ι := Store × Nat) (i := ⟨S, i⟩) (S44, i + 1) ?_ ?_ ?_ ?_
              · show 4 - (i + 1) < 4 - i; omega
              · exact ⟨by show i + 1 ≤ 4; omega, uU, wW, f3, f20, f21, s0⟩
              · exact cv_
              · exact Store.Wk.refl _
          refine dR_alloc o_ (by rfl) (by rfl) (by rfl) g_ gl_ sub_ fun o25 ho25 => ?_
          repeat (rw [none_set_iff] at ho25; obtain ⟨_, ho25⟩ := ho25)
          refine dR_X o_ (by rfl) (by rfl) (AOp_use (by rfl) (by rfl) (.inr ⟨by rfl, by rfl, by rfl⟩) g_ va_ (merge_c smW smb) ?_); rintro _ _ ⟨rfl, rfl⟩; refine ⟨sub_, ?_⟩
          rw [v1]
          iterate 3 (refine dR_S o_ (by rfl) (by rfl) v_ ?_)
          refine dR_store o_ (by rfl) (by rfl) (by rfl) v_ v_ h_ g_ rfl g_ c_ (by rfl) le_ v_ ?_
          (refine dR_S o_ (by rfl) (by rfl) v_ ?_)
          refine dR_nil ?_
          have n2520 := Ne.symm (ne_of_heap f20 ho25)
          refine awp_gen fun S42 hS => ?_
          have f25 := gen_get hS
          replace f3 := gen_keep hS ho25 f3
          replace f20 := gen_keep hS ho25 f20
          replace f21 := gen_keep hS ho25 f21
          replace f23 := gen_keep hS ho25 f23
          replace s0 := gen_sub hS ho25 s0
          clear hS
          have n2125 : o21 ≠ o20 := n2120
          refine awp_seq ?_
          refine awp_seq ?_
          refine awp_region (by kernel_rfl) ?_
          iterate 3 (refine aL_S rfl rfl v_ ?_)
          refine aL_GF rfl rfl v_ rfl vg_ ?_
          refine aL_GF rfl rfl v_ rfl vg_ ?_
          (refine aL_S rfl rfl v_ ?_)
          refine aL_nil ?_
          refine awp_cond v_ (fun hc45 => ?_) (fun hc45 => ?_)
          · replace hc45 := nm_ hc45
            simp at hc45
          · replace hc45 := nm_ hc45
            refine awp_skip ?_
            refine awp_seq ?_
            have R := And.intro f20 f23
            refine awp_region (by kernel_rfl) ?_
            (refine aL_S rfl rfl v_ ?_)
            refine aL_store rfl rfl rfl v_ v_ h_ g_ rfl g_ c_ (by rfl) le_ v_ ?_
            refine aL_nil ?_
            refine awp_gen fun S43 hS => ?_
            replace f20 := put_get hS
            replace f3 := put_keep hS n320 f3
            replace f21 := put_keep hS n2120 f21
            replace f25 := put_keep hS n2520 f25
            replace s0 := put_sub hS n20 s0
            clear hS
            have R := And.intro f21 f25
            refine awp_region (by kernel_rfl) ?_
            (refine aL_S rfl rfl v_ ?_)
            refine aL_store rfl rfl rfl v_ v_ h_ g_ rfl g_ c_ (by rfl) le_ v_ ?_
            refine aL_nil ?_
            refine awp_gen fun S44 hS => ?_
            replace f21 := put_get hS
            replace f3 := put_keep hS f21'.1 f3
            replace f20 := put_keep hS (Ne.symm n2120) f20
            replace s0 := put_sub hS f21'.2 s0
            clear hS
            rw [← hUU'] at f20 uU
            rw [← hWW'] at f21 wW
            refine awp_region (by kernel_rfl) ?_
            iterate 3 (refine aL_S rfl rfl v_ ?_)
            refine aL_nil ?_
            refine aNext (ι := Store × Nat) (i := ⟨S, i⟩) (S44, i + 1) ?_ ?_ ?_ ?_
            · show 4 - (i + 1) < 4 - i; omega
            · exact ⟨by show i + 1 ≤ 4; omega, uU, wW, f3, f20, f21, s0⟩
            · exact cv_
            · exact Store.Wk.refl _
        refine dR_alloc o_ (by rfl) (by rfl) (by rfl) g_ gl_ sub_ fun o23 ho23 => ?_
        repeat (rw [none_set_iff] at ho23; obtain ⟨_, ho23⟩ := ho23)
        refine dR_X o_ (by rfl) (by rfl) (AOp_use (by rfl) (by rfl) (.inr ⟨by rfl, by rfl, by rfl⟩) g_ va_ (merge_c smU sma) ?_); rintro _ _ ⟨rfl, rfl⟩; refine ⟨sub_, ?_⟩
        rw [u1]
        iterate 3 (refine dR_S o_ (by rfl) (by rfl) v_ ?_)
        refine dR_store o_ (by rfl) (by rfl) (by rfl) v_ v_ h_ g_ rfl g_ c_ (by rfl) le_ v_ ?_
        (refine dR_S o_ (by rfl) (by rfl) v_ ?_)
        refine dR_nil ?_
        have n2023 := ne_of_heap f20 ho23
        refine awp_gen fun S41 hS => ?_
        have f23 := gen_get hS
        replace f3 := gen_keep hS ho23 f3
        replace f20 := gen_keep hS ho23 f20
        replace f21 := gen_keep hS ho23 f21
        replace s0 := gen_sub hS ho23 s0
        clear hS
        refine awp_seq ?_
        have R := And.intro f21 (And.intro f3 (And.intro pb (And.intro hfl h3i)))
        refine awp_draw (.op 0 0 (.op 1 0 (.op 2 0 (.op 3 0 (.op 4 0 (.alt 5 1 (.op 6 0 (.op 7 0 (.op 8 0 (.op 9 1 (.op 10 2 (.op 11 0 .nil)))))) (.op 9 1 (.op 5 1 (.op 6 0 (.op 7 0 (.op 8 0 (.op 10 2 (.op 11 0 .nil))))))))))))) Tryz.mixed (by kernel_rfl) ?_
        iterate 5 (refine dR_S o_ (by rfl) (by rfl) v_ ?_)
        refine dR_alt ?_ ?_
        · refine dR_X o_ (by rfl) (by rfl) (AOp_use (by rfl) (by rfl) (.inr ⟨by rfl, by rfl, by rfl⟩) g_ va_ (merge_c smW smb) ?_); rintro _ _ ⟨rfl, rfl⟩; refine ⟨sub_, ?_⟩
          rw [v1]
          iterate 3 (refine dR_S o_ (by rfl) (by rfl) v_ ?_)
          refine dR_alloc o_ (by rfl) (by rfl) (by rfl) g_ gl_ sub_ fun o25 ho25 => ?_
          repeat (rw [none_set_iff] at ho25; obtain ⟨_, ho25⟩ := ho25)
          refine dR_store o_ (by rfl) (by rfl) (by rfl) v_ v_ h_ g_ rfl g_ c_ (by rfl) le_ v_ ?_
          (refine dR_S o_ (by rfl) (by rfl) v_ ?_)
          refine dR_nil ?_
          have n2520 := Ne.symm (ne_of_heap f20 ho25)
          refine awp_gen fun S42 hS => ?_
          have f25 := gen_get hS
          replace f3 := gen_keep hS ho25 f3
          replace f20 := gen_keep hS ho25 f20
          replace f21 := gen_keep hS ho25 f21
          replace f23 := gen_keep hS ho25 f23
          replace s0 := gen_sub hS ho25 s0
          clear hS
          have n2125 : o21 ≠ o20 := n2120
          refine awp_seq ?_
          refine awp_seq ?_
          refine awp_region (by kernel_rfl) ?_
          iterate 3 (refine aL_S rfl rfl v_ ?_)
          refine aL_GF rfl rfl v_ rfl vg_ ?_
          refine aL_GF rfl rfl v_ rfl vg_ ?_
          (refine aL_S rfl rfl v_ ?_)
          refine aL_nil ?_
          refine awp_cond v_ (fun hc45 => ?_) (fun hc45 => ?_)
          · replace hc45 := nm_ hc45
            simp at hc45
          · replace hc45 := nm_ hc45
            refine awp_skip ?_
            refine awp_seq ?_
            have R := And.intro f20 f23
            refine awp_region (by kernel_rfl) ?_
            (refine aL_S rfl rfl v_ ?_)
            refine aL_store rfl rfl rfl v_ v_ h_ g_ rfl g_ c_ (by rfl) le_ v_ ?_
            refine aL_nil ?_
            refine awp_gen fun S43 hS => ?_
            replace f20 := put_get hS
            replace f3 := put_keep hS n320 f3
            replace f21 := put_keep hS n2120 f21
            replace f25 := put_keep hS n2520 f25
            replace s0 := put_sub hS n20 s0
            clear hS
            have R := And.intro f21 f25
            refine awp_region (by kernel_rfl) ?_
            (refine aL_S rfl rfl v_ ?_)
            refine aL_store rfl rfl rfl v_ v_ h_ g_ rfl g_ c_ (by rfl) le_ v_ ?_
            refine aL_nil ?_
            refine awp_gen fun S44 hS => ?_
            replace f21 := put_get hS
            replace f3 := put_keep hS f21'.1 f3
            replace f20 := put_keep hS (Ne.symm n2120) f20
            replace s0 := put_sub hS f21'.2 s0
            clear hS
            rw [← hUU'] at f20 uU
            rw [← hWW'] at f21 wW
            refine awp_region (by kernel_rfl) ?_
            iterate 3 (refine aL_S rfl rfl v_ ?_)
            refine aL_nil ?_
            refine aNext (ι := Store × Nat) (i := ⟨S, i⟩) (S44, i + 1) ?_ ?_ ?_ ?_
            · show 4 - (i + 1) < 4 - i; omega
            · exact ⟨by show i + 1 ≤ 4; omega, uU, wW, f3, f20, f21, s0⟩
            · exact cv_
            · exact Store.Wk.refl _
        refine dR_alloc o_ (by rfl) (by rfl) (by rfl) g_ gl_ sub_ fun o25 ho25 => ?_
        repeat (rw [none_set_iff] at ho25; obtain ⟨_, ho25⟩ := ho25)
        refine dR_X o_ (by rfl) (by rfl) (AOp_use (by rfl) (by rfl) (.inr ⟨by rfl, by rfl, by rfl⟩) g_ va_ (merge_c smW smb) ?_); rintro _ _ ⟨rfl, rfl⟩; refine ⟨sub_, ?_⟩
        rw [v1]
        iterate 3 (refine dR_S o_ (by rfl) (by rfl) v_ ?_)
        refine dR_store o_ (by rfl) (by rfl) (by rfl) v_ v_ h_ g_ rfl g_ c_ (by rfl) le_ v_ ?_
        (refine dR_S o_ (by rfl) (by rfl) v_ ?_)
        refine dR_nil ?_
        have n2520 := Ne.symm (ne_of_heap f20 ho25)
        refine awp_gen fun S42 hS => ?_
        have f25 := gen_get hS
        replace f3 := gen_keep hS ho25 f3
        replace f20 := gen_keep hS ho25 f20
        replace f21 := gen_keep hS ho25 f21
        replace f23 := gen_keep hS ho25 f23
        replace s0 := gen_sub hS ho25 s0
        clear hS
        have n2125 : o21 ≠ o20 := n2120
        refine awp_seq ?_
        refine awp_seq ?_
        refine awp_region (by kernel_rfl) ?_
        iterate 3 (refine aL_S rfl rfl v_ ?_)
        refine aL_GF rfl rfl v_ rfl vg_ ?_
        refine aL_GF rfl rfl v_ rfl vg_ ?_
        (refine aL_S rfl rfl v_ ?_)
        refine aL_nil ?_
        refine awp_cond v_ (fun hc45 => ?_) (fun hc45 => ?_)
        · replace hc45 := nm_ hc45
          simp at hc45
        · replace hc45 := nm_ hc45
          refine awp_skip ?_
          refine awp_seq ?_
          have R := And.intro f20 f23
          refine awp_region (by kernel_rfl) ?_
          (refine aL_S rfl rfl v_ ?_)
          refine aL_store rfl rfl rfl v_ v_ h_ g_ rfl g_ c_ (by rfl) le_ v_ ?_
          refine aL_nil ?_
          refine awp_gen fun S43 hS => ?_
          replace f20 := put_get hS
          replace f3 := put_keep hS n320 f3
          replace f21 := put_keep hS n2120 f21
          replace f25 := put_keep hS n2520 f25
          replace s0 := put_sub hS n20 s0
          clear hS
          have R := And.intro f21 f25
          refine awp_region (by kernel_rfl) ?_
          (refine aL_S rfl rfl v_ ?_)
          refine aL_store rfl rfl rfl v_ v_ h_ g_ rfl g_ c_ (by rfl) le_ v_ ?_
          refine aL_nil ?_
          refine awp_gen fun S44 hS => ?_
          replace f21 := put_get hS
          replace f3 := put_keep hS f21'.1 f3
          replace f20 := put_keep hS (Ne.symm n2120) f20
          replace s0 := put_sub hS f21'.2 s0
          clear hS
          rw [← hUU'] at f20 uU
          rw [← hWW'] at f21 wW
          refine awp_region (by kernel_rfl) ?_
          iterate 3 (refine aL_S rfl rfl v_ ?_)
          refine aL_nil ?_
          refine aNext (ι := Store × Nat) (i := ⟨S, i⟩) (S44, i + 1) ?_ ?_ ?_ ?_
          · show 4 - (i + 1) < 4 - i; omega
          · exact ⟨by show i + 1 ≤ 4; omega, uU, wW, f3, f20, f21, s0⟩
          · exact cv_
          · exact Store.Wk.refl _
      · replace hc41 := nm_ hc41
        refine awp_exit ?_
        refine aThen_exit ?_
        refine aThen_exit ?_
        refine aBlock_hit ?_
        refine awp_seq ?_
        obtain rfl : i = 4 := by omega
        have hud := up_dn hR.c4 fun o ho => (hR.oi o ho).good
        rw [← hud] at f21
        have smU := (hU.okk hN60).2
        generalize upTo C 4 = U at *
        have R := And.intro f20 f21
        refine awp_region (by kernel_rfl) ?_
        iterate 2 (refine aL_S rfl rfl v_ ?_)
        refine aL_X rfl rfl (AOp_use rfl rfl (.inr ⟨rfl, rfl, rfl⟩) g_ va_ (same07_f smU smU) ?_); rintro _ _ ⟨rfl, rfl⟩
        (refine aL_S rfl rfl v_ ?_)
        refine aL_GTX rfl rfl v_ rfl (fun hb => AOp_useV (by rfl) (by rfl) (.inr ⟨by rfl, by rfl, by rfl⟩) g_ cg_ (awake07_c)) ?_
        iterate 2 (refine aL_S rfl rfl v_ ?_)
        refine aL_nil ?_
        refine awp_ret ?_
        exact aEnd_ret (σ' := σ) va_ (subx_start s0) ⟨rfl, rfl⟩
end Go.Proofs.YtgpibooklhakgaaGreat
end
