/-
  Names: the program's, and the reference's; Whether a context may be: the program's Check, the reference's May. Own work (an AI agent).
-/
import Derived.Test.YtbjloippgpilcaaGreatGI
import Derived.Laws.RangeString
import Derived.Laws.RangeAny

section
set_option linter.all false
set_option maxRecDepth 100000
namespace Go.Proofs.YtbjloippgpilcaaGreat
open Go.Ab

def lett (c : Int) : Bool := decide (97 ≤ c) && decide (c ≤ 122) || (decide (48 ≤ c) && decide (c ≤ 57)) || decide (c = 45)
def letB (b : UInt8) : Bool := lett b.toNat
def nameOk (s : ByteArray) : Bool := decide (1 ≤ s.size) && decide (s.size ≤ 16) && (Lb s).all letB
theorem Lb_get {s : ByteArray} {p : Nat} (h : p < s.size) : (Lb s)[p]? = some (s[p]'h) := by
  rw [List.getElem?_eq_getElem (by rw [Lb_length]; exact h)]
  rfl
theorem rune_lo {s : ByteArray} {p : Nat} (h : p < s.size) (ha : (s[p]'h).toNat < 128) : runeAt s p = ((s[p]'h).toNat : Int) ∧ runeW s p = 1 := by
  have := decode_ascii s p h ha
  exact ⟨by rw [runeAt, this], by rw [runeW, this]⟩
theorem rune_let {s : ByteArray} {p : Nat} (h : p < s.size) : lett (runeAt s p) = letB (s[p]'h) ∧ (letB (s[p]'h) = true → runeW s p = 1) := by
  by_cases ha : (s[p]'h).toNat < 128
  · obtain ⟨h1, h2⟩ := rune_lo h ha
    exact ⟨by rw [h1]; rfl, fun _ => h2⟩
  · have h1 := (decode_high s p h (by omega)).1
    have e1 : lett (runeAt s p) = false := by
      have : (128 : Int) ≤ runeAt s p := by unfold runeAt; omega
      unfold lett
      rw [decide_eq_false (show ¬ runeAt s p ≤ 122 by omega), decide_eq_false (show ¬ runeAt s p ≤ 57 by omega), decide_eq_false (show ¬ runeAt s p = 45 by omega)]
      simp
    have e2 : letB (s[p]'h) = false := by
      unfold letB lett
      rw [decide_eq_false (show ¬ (((s[p]'h).toNat : Nat) : Int) ≤ 122 by omega), decide_eq_false (show ¬ (((s[p]'h).toNat : Nat) : Int) ≤ 57 by omega), decide_eq_false (show ¬ (((s[p]'h).toNat : Nat) : Int) = 45 by omega)]
      simp
    exact ⟨by rw [e1, e2], fun hh => by rw [e2] at hh; cases hh⟩
theorem all_take_succ {l : List UInt8} {p : Nat} {c : UInt8} (f : UInt8 → Bool) (h : l[p]? = some c) (ha : (l.take p).all f = true) (hc : f c = true) : (l.take (p + 1)).all f = true := by
  rw [take_snoc h, List.all_append, ha]; simp [hc]
theorem all_not {l : List UInt8} {p : Nat} {c : UInt8} (f : UInt8 → Bool) (h : l[p]? = some c) (hc : f c = false) : l.all f = false := by
  rw [List.all_eq_false]
  exact ⟨c, List.mem_of_getElem? h, by simp [hc]⟩

theorem isLetter_c {c : Int} {σ : Store} : ACalls Tryz.prog 65 [.lit (.int .i32 c)] σ fun v σ' => v = .lit (.bool (lett c)) ∧ σ = σ' := by
  refine ACalls_of Tryz.func65 rfl Tryz.ntmps65 (congrArg Array.toList Tryz.results65) (by simp only [List.length_cons, List.length_nil]; decide) ?_; simp only [envOf_cons, envOf_nil, Nat.reduceAdd]
  refine awp_seq ?_
  refine awp_region (by kernel_rfl) ?_
  (refine aL_S rfl rfl v_ ?_)
  refine aL_nil ?_
  refine awp_seq ?_
  refine awp_region (by kernel_rfl) ?_
  iterate 3 (refine aL_S rfl rfl v_ ?_)
  refine aL_GT rfl rfl v_ rfl vg_ ?_
  refine aL_GT rfl rfl v_ rfl vg_ ?_
  iterate 2 (refine aL_S rfl rfl v_ ?_)
  refine aL_GF rfl rfl v_ rfl vg_ ?_
  refine aL_GF rfl rfl v_ rfl vg_ ?_
  refine aL_GF rfl rfl v_ rfl vg_ ?_
  refine aL_GGT rfl rfl v_ rfl vg_ ?_
  refine aL_GGT rfl rfl v_ rfl vg_ ?_
  refine aL_GF rfl rfl v_ rfl vg_ ?_
  iterate 2 (refine aL_S rfl rfl v_ ?_)
  refine aL_GF rfl rfl v_ rfl vg_ ?_
  refine aL_GF rfl rfl v_ rfl vg_ ?_
  iterate 2 (refine aL_S rfl rfl v_ ?_)
  refine aL_nil ?_
  refine awp_ret ?_
  refine aEnd_ret (σ' := σ) v_ sub_ ?_
  refine ⟨?_, rfl⟩
  try unfold lett
  by_cases h1 : 97 ≤ c <;> by_cases h2 : c ≤ 122 <;> by_cases h3 : 48 ≤ c <;> by_cases h4 : c ≤ 57 <;> by_cases h5 : c = 45 <;> simp [h1, h2, h3, h4, h5]
theorem nameIs_c {s : ByteArray} {σ : Store} (hs : s.size ≤ 1000000000000) : ACalls Tryz.prog 37 [vStr s] σ fun v σ' => v = .lit (.bool (nameOk s)) ∧ σ = σ' := by
  have h0 : s = ⟨#[]⟩ ↔ s.size = 0 := ⟨fun h => by rw [h]; rfl, fun h => by apply ByteArray.ext; exact Array.eq_empty_of_size_eq_zero h⟩
  refine ACalls_of Tryz.func37 rfl Tryz.ntmps37 (congrArg Array.toList Tryz.results37) (by simp only [List.length_cons, List.length_nil]; decide) ?_; simp only [envOf_cons, envOf_nil, Nat.reduceAdd]
  refine awp_seq ?_
  refine awp_region (by kernel_rfl) ?_
  (refine aL_S rfl rfl v_ ?_)
  refine aL_nil ?_
  refine awp_seq ?_
  refine awp_seq ?_
  have R := h0
  refine awp_region (by kernel_rfl) ?_
  iterate 3 (refine aL_S rfl rfl v_ ?_)
  refine aL_GF rfl rfl v_ rfl vg_ ?_
  refine aL_GF rfl rfl v_ rfl vg_ ?_
  refine aL_GF rfl rfl v_ rfl vg_ ?_
  (refine aL_S rfl rfl v_ ?_)
  refine aL_nil ?_
  refine awp_cond v_ (fun hc1 => ?_) (fun hc1 => ?_)
  · replace hc1 := nm_ hc1
    refine awp_seq ?_
    refine awp_region (by kernel_rfl) ?_
    (refine aL_S rfl rfl v_ ?_)
    refine aL_nil ?_
    refine awp_ret ?_
    refine aEnd_ret (σ' := σ) v_ sub_ ?_
    refine ⟨?_, rfl⟩
    simp only [nameOk]
    rcases hc1 with h | h
    · rw [decide_eq_false (show ¬ 1 ≤ s.size by omega)]; rfl
    · rw [decide_eq_false (show ¬ s.size ≤ 16 by omega)]; simp
  · replace hc1 := nm_ hc1
    refine awp_skip ?_
    refine awp_seq ?_
    refine awp_seq ?_
    refine awp_region (by kernel_rfl) ?_
    (refine aL_S rfl rfl v_ ?_)
    refine aL_X rfl rfl (AOp_rangeS rfl g_ va_ fun o13 ho13 => ?_)
    refine aL_nil ?_
    refine awp_block ?_
    refine awp_loop_env (ι := Nat) (fun p => s.size - p) (fun p => p ≤ s.size ∧ ((Lb s).take p).all letB = true) (fun p => [(13, .ref o13 0)]) (fun p => (σ.set o13 (.raw (.stringIter s p)))) 0 ?_ ?_ ?_ ?_
    · exact ⟨Nat.zero_le _, rfl⟩
    · exact cv_
    · exact Store.Wk.refl _
    rintro p ⟨hp, ha⟩
    simp only [envL_cons, envL_nil]
    refine awp_seq ?_
    by_cases hs4 : p < s.size
    · refine awp_region (by kernel_rfl) ?_
      first | (refine aL_X rfl rfl (AOp_nextS rfl va_ (Store.set_get ..) (fun _ => ?_) (fun hp => absurd hs4 hp))) | (refine aL_X rfl rfl (AOp_nextS rfl va_ (Store.set_get ..) (fun hp => absurd hp hs4) (fun _ => ?_)))
      (refine aL_S rfl rfl v_ ?_)
      refine aL_nil ?_
      refine awp_seq ?_
      refine awp_cond v_ (fun hc4 => ?_) (fun hc4 => ?_)
      · replace hc4 := nm_ hc4
        first
          | (exfalso; revert hc4; decide)
          | skip
            refine awp_skip ?_
            refine awp_block ?_
            refine awp_seq ?_
            obtain ⟨hl, hl2⟩ := rune_let hs4
            have hg := Lb_get hs4
            refine awp_region (by kernel_rfl) ?_
            iterate 2 (refine aL_S rfl rfl v_ ?_)
            refine aL_nil ?_
            refine awp_seq ?_
            refine awp_region (by kernel_rfl) ?_
            (refine aL_S rfl rfl v_ ?_)
            refine aL_X rfl rfl (AOp_use rfl rfl (.inr ⟨rfl, rfl, rfl⟩) g_ va_ (isLetter_c) ?_); rintro _ _ ⟨rfl, rfl⟩
            (refine aL_S rfl rfl v_ ?_)
            refine aL_nil ?_
            refine awp_cond v_ (fun hc6 => ?_) (fun hc6 => ?_)
            · replace hc6 := nm_ hc6
              refine awp_seq ?_
              refine awp_region (by kernel_rfl) ?_
              (refine aL_S rfl rfl v_ ?_)
              refine aL_nil ?_
              refine awp_ret ?_
              refine aEnd_ret (σ' := σ) v_ sub_ ?_
              refine ⟨?_, rfl⟩
              have hlf : letB (s[p]'hs4) = false := by rw [← hl]; simpa using hc6
              simp only [nameOk]
              rw [all_not letB hg hlf]; simp
            · replace hc6 := nm_ hc6
              have hlt : letB (s[p]'hs4) = true := by rw [← hl]; simpa using hc6
              have hw := hl2 hlt
              have hnx := all_take_succ letB hg ha hlt
              refine awp_skip ?_
              refine aNext (ι := Nat) (i := p) (p + 1) ?_ ?_ ?_ ?_
              · omega
              · exact ⟨by omega, hnx⟩
              · exact cv_
              · rw [Store.set_set, hw]; exact Store.Wk.refl _
      · replace hc4 := nm_ hc4
        first
          | (exfalso; revert hc4; decide)
          | skip
            refine awp_exit ?_
            refine aThen_exit ?_
            refine aThen_exit ?_
            refine aBlock_hit ?_
            refine awp_seq ?_
            refine awp_region (by kernel_rfl) ?_
            (refine aL_S rfl rfl v_ ?_)
            refine aL_nil ?_
            refine awp_ret ?_
            refine aEnd_ret (σ' := σ) v_ sub_ ?_
            exact ⟨rfl, rfl⟩
    · refine awp_region (by kernel_rfl) ?_
      first | (refine aL_X rfl rfl (AOp_nextS rfl va_ (Store.set_get ..) (fun _ => ?_) (fun hp => absurd hs4 hp))) | (refine aL_X rfl rfl (AOp_nextS rfl va_ (Store.set_get ..) (fun hp => absurd hp hs4) (fun _ => ?_)))
      (refine aL_S rfl rfl v_ ?_)
      refine aL_nil ?_
      refine awp_seq ?_
      refine awp_cond v_ (fun hc4 => ?_) (fun hc4 => ?_)
      · replace hc4 := nm_ hc4
        first
          | (exfalso; revert hc4; decide)
          | skip
            refine awp_skip ?_
            refine awp_block ?_
            refine awp_seq ?_
            obtain ⟨hl, hl2⟩ := rune_let hs4
            have hg := Lb_get hs4
            refine awp_region (by kernel_rfl) ?_
            iterate 2 (refine aL_S rfl rfl v_ ?_)
            refine aL_nil ?_
            refine awp_seq ?_
            refine awp_region (by kernel_rfl) ?_
            (refine aL_S rfl rfl v_ ?_)
            refine aL_X rfl rfl (AOp_use rfl rfl (.inr ⟨rfl, rfl, rfl⟩) g_ va_ (isLetter_c) ?_); rintro _ _ ⟨rfl, rfl⟩
            (refine aL_S rfl rfl v_ ?_)
            refine aL_nil ?_
            refine awp_cond v_ (fun hc6 => ?_) (fun hc6 => ?_)
            · replace hc6 := nm_ hc6
              refine awp_seq ?_
              refine awp_region (by kernel_rfl) ?_
              (refine aL_S rfl rfl v_ ?_)
              refine aL_nil ?_
              refine awp_ret ?_
              refine aEnd_ret (σ' := σ) v_ sub_ ?_
              exact ⟨rfl, rfl⟩
            · replace hc6 := nm_ hc6
              have hlt : letB (s[p]'hs4) = true := by rw [← hl]; simpa using hc6
              have hw := hl2 hlt
              have hnx := all_take_succ letB hg ha hlt
              refine awp_skip ?_
              refine aNext (ι := Nat) (i := p) (p + 1) ?_ ?_ ?_ ?_
              · omega
              · exact ⟨by omega, hnx⟩
              · exact cv_
              · rw [Store.set_set, hw]; exact Store.Wk.refl _
      · replace hc4 := nm_ hc4
        first
          | (exfalso; revert hc4; decide)
          | skip
            refine awp_exit ?_
            refine aThen_exit ?_
            refine aThen_exit ?_
            refine aBlock_hit ?_
            refine awp_seq ?_
            refine awp_region (by kernel_rfl) ?_
            (refine aL_S rfl rfl v_ ?_)
            refine aL_nil ?_
            refine awp_ret ?_
            refine aEnd_ret (σ' := σ) v_ sub_ ?_
            refine ⟨?_, rfl⟩
            obtain rfl : p = s.size := by omega
            rw [List.take_of_length_le (by rw [Lb_length]; exact Nat.le_refl _)] at ha
            simp only [nameOk]
            rw [ha, decide_eq_true (show 1 ≤ s.size by omega), decide_eq_true (show s.size ≤ 16 by omega)]; rfl
theorem letB_iff (c : UInt8) : letB c = true ↔ ((97 ≤ ((c.toNat : Nat) : Int) ∧ ((c.toNat : Nat) : Int) ≤ 122) ∨ (48 ≤ ((c.toNat : Nat) : Int) ∧ ((c.toNat : Nat) : Int) ≤ 57)) ∨ ((c.toNat : Nat) : Int) = 45 := by simp [letB, lett]
theorem nat_u8 (c : UInt8) : ((c.toNat : Nat) : Int) < 256 := by have := c.toNat_lt; omega
theorem rIs_c {s : ByteArray} {σ : Store} (hs : s.size ≤ 1000000000000) : ACalls Tryz.prog 41 [vStr s] σ fun v σ' => v = .lit (.bool (nameOk s)) ∧ σ = σ' := by
  refine ACalls_of Tryz.func41 rfl Tryz.ntmps41 (congrArg Array.toList Tryz.results41) (by simp only [List.length_cons, List.length_nil]; decide) ?_; simp only [envOf_cons, envOf_nil, Nat.reduceAdd]
  refine awp_seq ?_
  refine awp_region (by kernel_rfl) ?_
  (refine aL_S rfl rfl v_ ?_)
  refine aL_nil ?_
  refine awp_seq ?_
  refine awp_seq ?_
  refine awp_region (by kernel_rfl) ?_
  (refine aL_S rfl rfl v_ ?_)
  refine aL_nil ?_
  refine awp_block ?_
  refine awp_loop_env (ι := Nat) (fun p => s.size - p) (fun p => p ≤ s.size ∧ ((Lb s).take p).all letB = true) (fun p => [(0, vStr s), (3, vInt p)]) (fun p => σ) 0 ?_ ?_ ?_ ?_
  · exact ⟨Nat.zero_le _, rfl⟩
  · exact cv_
  · exact sub_
  rintro p ⟨hp, ha⟩
  simp only [envL_cons, envL_nil]
  refine awp_seq ?_
  refine awp_seq ?_
  refine awp_region (by kernel_rfl) ?_
  iterate 4 (refine aL_S rfl rfl v_ ?_)
  refine aL_nil ?_
  refine awp_cond v_ (fun hc2 => ?_) (fun hc2 => ?_)
  · replace hc2 := nm_ hc2
    refine awp_skip ?_
    refine awp_seq ?_
    refine awp_block ?_
    refine awp_seq ?_
    have hp' : p < s.size := by omega
    have hg := Lb_get hp'
    have hg2 : s[p]? = some (s[p]'hp') := getElem?_pos s p hp'
    obtain ⟨c, hc⟩ : ∃ c, s[p]'hp' = c := ⟨_, rfl⟩
    rw [hc] at hg hg2
    have hcl := letB_iff c
    have R := hg2
    refine awp_region (by kernel_rfl) ?_
    iterate 5 (refine aL_S rfl rfl v_ ?_)
    refine aL_GF rfl rfl v_ rfl vg_ ?_
    refine aL_GF rfl rfl v_ rfl vg_ ?_
    refine aL_GF rfl rfl v_ rfl vg_ ?_
    refine aL_GF rfl rfl v_ rfl vg_ ?_
    iterate 2 (refine aL_S rfl rfl v_ ?_)
    refine aL_GT rfl rfl v_ rfl vg_ ?_
    refine aL_GT rfl rfl v_ rfl vg_ ?_
    refine aL_GT rfl rfl v_ rfl vg_ ?_
    refine aL_GT rfl rfl v_ rfl vg_ ?_
    refine aL_GT rfl rfl v_ rfl vg_ ?_
    refine aL_GGF rfl rfl v_ rfl vg_ ?_
    refine aL_GGF rfl rfl v_ rfl vg_ ?_
    refine aL_GGF rfl rfl v_ rfl vg_ ?_
    refine aL_GGF rfl rfl v_ rfl vg_ ?_
    refine aL_GT rfl rfl v_ rfl vg_ ?_
    iterate 2 (refine aL_S rfl rfl v_ ?_)
    refine aL_GT rfl rfl v_ rfl vg_ ?_
    refine aL_GT rfl rfl v_ rfl vg_ ?_
    refine aL_GT rfl rfl v_ rfl vg_ ?_
    refine aL_GT rfl rfl v_ rfl vg_ ?_
    (refine aL_S rfl rfl v_ ?_)
    refine aL_nil ?_
    refine awp_cond v_ (fun hc4 => ?_) (fun hc4 => ?_)
    · replace hc4 := nm_ hc4
      skip
      have hlf : letB c = false := by
        cases h : letB c with
        | false => rfl
        | true => rw [hcl] at h; omega
      refine awp_seq ?_
      refine awp_region (by kernel_rfl) ?_
      (refine aL_S rfl rfl v_ ?_)
      refine aL_nil ?_
      refine awp_ret ?_
      refine aEnd_ret (σ' := σ) v_ sub_ ?_
      refine ⟨?_, rfl⟩
      simp only [nameOk]
      rw [all_not letB hg hlf]; simp
    · replace hc4 := nm_ hc4
      have hnx := all_take_succ letB hg ha (hcl.2 (by omega))
      refine awp_skip ?_
      refine awp_region (by kernel_rfl) ?_
      iterate 3 (refine aL_S rfl rfl v_ ?_)
      refine aL_nil ?_
      refine aNext (ι := Nat) (i := p) (p + 1) ?_ ?_ ?_ ?_
      · omega
      · exact ⟨by omega, hnx⟩
      · exact cv_
      · exact sub_
  · replace hc2 := nm_ hc2
    refine awp_exit ?_
    refine aThen_exit ?_
    refine aThen_exit ?_
    refine aBlock_hit ?_
    refine awp_seq ?_
    refine awp_region (by kernel_rfl) ?_
    iterate 4 (refine aL_S rfl rfl v_ ?_)
    refine aL_GT rfl rfl v_ rfl vg_ ?_
    refine aL_GT rfl rfl v_ rfl vg_ ?_
    refine aL_GT rfl rfl v_ rfl vg_ ?_
    iterate 2 (refine aL_S rfl rfl v_ ?_)
    refine aL_nil ?_
    refine awp_ret ?_
    refine aEnd_ret (σ' := σ) v_ sub_ ?_
    refine ⟨?_, rfl⟩
    obtain rfl : p = s.size := by omega
    rw [List.take_of_length_le (by rw [Lb_length]; exact Nat.le_refl _)] at ha
    simp only [nameOk]
    rw [ha, Bool.and_true]
    congr 2
    rw [Bool.eq_iff_iff]; simp; omega
end Go.Proofs.YtbjloippgpilcaaGreat
end

section
set_option linter.all false
set_option maxRecDepth 100000
namespace Go.Proofs.YtbjloippgpilcaaGreat
open Go.Ab

def riseOk : Int → List Int → Bool
  | _, [] => true
  | last, n :: l => decide (last < n) && decide (n ≤ 9007199254740992) && riseOk n l
def seenHd (x : Seen) : Bool := nameOk x.node && decide (0 ≤ x.base) && decide (x.base ≤ 9007199254740992) && !(decide (x.base = 0) && decide (x.more.length = 0))
def seenOk (x : Seen) : Bool := seenHd x && riseOk (x.base + 1) x.more
def aheadOk (pv : Option ByteArray) (s : ByteArray) : Bool := match pv with | none => true | some p => sLt p s
def ctxGo : Option ByteArray → Int → List Seen → Bool
  | _, _, [] => true
  | pv, room, x :: l => seenOk x && aheadOk pv x.node && decide ((x.more.length : Int) ≤ room) && ctxGo (some x.node) (room - x.more.length) l
def ctxOk (c : List Seen) : Bool := ctxGo none 4096 c
theorem drop_cons {α : Type} {l : List α} {k : Nat} {x : α} (h : l[k]? = some x) : l.drop k = x :: l.drop (k + 1) := by
  obtain ⟨hk, rfl⟩ := List.getElem?_eq_some_iff.1 h
  exact List.drop_eq_getElem_cons hk
theorem get_some {α : Type} {l : List α} {k : Nat} (h : k < l.length) : ∃ x, l[k]? = some x := ⟨l[k], List.getElem?_eq_getElem h⟩
theorem seenHd_false {x : Seen} (h : seenHd x = false) : seenOk x = false := by simp [seenOk, h]

theorem seenHd_yes {x : Seen} (h : ((nameOk x.node = true ∧ 0 ≤ x.base) ∧ x.base ≤ 9007199254740992) ∧ (¬ x.base = 0 ∨ ¬ (x.more.length : Int) = 0)) : seenHd x = true := by
  obtain ⟨⟨⟨h1, h2⟩, h3⟩, h4⟩ := h
  unfold seenHd
  rw [h1, decide_eq_true h2, decide_eq_true h3]
  rcases h4 with h | h
  · rw [decide_eq_false h]; rfl
  · rw [decide_eq_false (show ¬ x.more.length = 0 by omega)]; simp
theorem seenHd_not {x : Seen} (h : ((nameOk x.node = false ∨ x.base < 0) ∨ 9007199254740992 < x.base) ∨ x.base = 0 ∧ (x.more.length : Int) = 0) : seenHd x = false := by
  unfold seenHd
  rcases h with ((h | h) | h) | ⟨h, h'⟩
  · rw [h]; rfl
  · rw [decide_eq_false (show ¬ 0 ≤ x.base by omega)]; simp
  · rw [decide_eq_false (show ¬ x.base ≤ 9007199254740992 by omega)]; simp
  · rw [decide_eq_true h, decide_eq_true (show x.more.length = 0 by omega)]; simp
theorem isSeen_c {x : Seen} {σ : Store} (hx : SeenSm x) : ACalls Tryz.prog 104 [sSeen x] σ fun v σ' => v = .lit (.bool (seenOk x)) ∧ σ = σ' := by
  have h1 := hx.node; have h2 := hx.more
  refine ACalls_of Tryz.func104 rfl Tryz.ntmps104 (congrArg Array.toList Tryz.results104) (by simp only [List.length_cons, List.length_nil]; decide) ?_; simp only [envOf_cons, envOf_nil, Nat.reduceAdd]
  refine awp_seq ?_
  refine awp_region (by kernel_rfl) ?_
  refine aL_box rfl rfl rfl v_ rfl g_ fun o1 ho1 => ?_
  repeat (rw [none_set_iff] at ho1; obtain ⟨_, ho1⟩ := ho1)
  (refine aL_S rfl rfl v_ ?_)
  refine aL_nil ?_
  refine awp_seq ?_
  refine awp_seq ?_
  refine awp_region (by kernel_rfl) ?_
  iterate 2 (refine aL_S rfl rfl v_ ?_)
  refine aL_X rfl rfl (AOp_use rfl rfl (.inr ⟨rfl, rfl, rfl⟩) g_ va_ (nameIs_c (by omega)) ?_); rintro _ _ ⟨rfl, rfl⟩
  iterate 2 (refine aL_S rfl rfl v_ ?_)
  refine aL_GF rfl rfl v_ rfl vg_ ?_
  refine aL_GF rfl rfl v_ rfl vg_ ?_
  refine aL_GF rfl rfl v_ rfl vg_ ?_
  iterate 2 (refine aL_S rfl rfl v_ ?_)
  refine aL_GF rfl rfl v_ rfl vg_ ?_
  refine aL_GF rfl rfl v_ rfl vg_ ?_
  refine aL_GF rfl rfl v_ rfl vg_ ?_
  iterate 2 (refine aL_S rfl rfl v_ ?_)
  refine aL_GF rfl rfl v_ rfl vg_ ?_
  refine aL_GF rfl rfl v_ rfl vg_ ?_
  refine aL_GF rfl rfl v_ rfl vg_ ?_
  refine aL_GF rfl rfl v_ rfl vg_ ?_
  refine aL_GGT rfl rfl v_ rfl vg_ ?_
  refine aL_GGT rfl rfl v_ rfl vg_ ?_
  refine aL_GGT rfl rfl v_ rfl vg_ ?_
  refine aL_GGT rfl rfl v_ rfl vg_ ?_
  refine aL_GF rfl rfl v_ rfl vg_ ?_
  (refine aL_S rfl rfl v_ ?_)
  refine aL_nil ?_
  refine awp_cond v_ (fun hc1 => ?_) (fun hc1 => ?_)
  · replace hc1 := nm_ hc1
    skip
    have hf : seenOk x = false := by
      refine seenHd_false ?_
      exact seenHd_not hc1
    refine awp_seq ?_
    refine awp_region (by kernel_rfl) ?_
    (refine aL_S rfl rfl v_ ?_)
    refine aL_nil ?_
    refine awp_ret ?_
    refine aEnd_ret (σ' := σ) v_ sub_ ?_
    exact ⟨by rw [hf], rfl⟩
  · replace hc1 := nm_ hc1
    skip
    have hf : seenHd x = true := seenHd_yes hc1
    have hb : 0 ≤ x.base ∧ x.base ≤ 9007199254740992 := by omega
    refine awp_skip ?_
    refine awp_seq ?_
    refine awp_region (by kernel_rfl) ?_
    iterate 4 (refine aL_S rfl rfl v_ ?_)
    refine aL_nil ?_
    refine awp_seq ?_
    refine awp_seq ?_
    refine awp_region (by kernel_rfl) ?_
    iterate 4 (refine aL_S rfl rfl v_ ?_)
    refine aL_nil ?_
    refine awp_block ?_
    refine awp_loop_env (ι := Nat × Int) (fun ⟨k, z⟩ => x.more.length - k) (fun ⟨k, z⟩ => k ≤ x.more.length ∧ riseOk z (x.more.drop k) = riseOk (x.base + 1) x.more) (fun ⟨k, z⟩ => [(3, vInt z), (35, .sl 1 (x.more.map vInt) false), (36, vInt x.more.length), (37, vInt k)]) (fun ⟨k, z⟩ => (σ.set o1 (.cells (sSeen x).cells))) (0, x.base + 1) ?_ ?_ ?_ ?_
    · exact ⟨Nat.zero_le _, rfl⟩
    · exact cv_
    · exact Store.Wk.refl _
    rintro ⟨k, z⟩ ⟨hk, hr⟩
    simp only [envL_cons, envL_nil]
    refine awp_seq ?_
    refine awp_region (by kernel_rfl) ?_
    (refine aL_S rfl rfl v_ ?_)
    refine aL_nil ?_
    refine awp_seq ?_
    refine awp_cond v_ (fun hc5 => ?_) (fun hc5 => ?_)
    · replace hc5 := nm_ hc5
      refine awp_skip ?_
      refine awp_seq ?_
      refine awp_block ?_
      refine awp_seq ?_
      obtain ⟨n, hn⟩ := get_some (l := x.more) (k := k) (by omega)
      have hrn : riseOk z (x.more.drop k) = (decide (z < n) && decide (n ≤ 9007199254740992) && riseOk n (x.more.drop (k + 1))) := by rw [drop_cons hn]; rfl
      have R := hn
      refine awp_region (by kernel_rfl) ?_
      iterate 3 (refine aL_S rfl rfl v_ ?_)
      refine aL_nil ?_
      refine awp_seq ?_
      refine awp_seq ?_
      refine awp_region (by kernel_rfl) ?_
      iterate 4 (refine aL_S rfl rfl v_ ?_)
      refine aL_GF rfl rfl v_ rfl vg_ ?_
      refine aL_GF rfl rfl v_ rfl vg_ ?_
      (refine aL_S rfl rfl v_ ?_)
      refine aL_nil ?_
      refine awp_cond v_ (fun hc7 => ?_) (fun hc7 => ?_)
      · replace hc7 := nm_ hc7
        refine awp_seq ?_
        refine awp_region (by kernel_rfl) ?_
        (refine aL_S rfl rfl v_ ?_)
        refine aL_nil ?_
        refine awp_ret ?_
        refine aEnd_ret (σ' := σ) v_ sub_ ?_
        refine ⟨?_, rfl⟩
        have : seenOk x = false := by
          unfold seenOk
          rw [← hr, hrn]
          rcases hc7 with h | h
          · rw [decide_eq_false (show ¬ z < n by omega)]; simp
          · rw [decide_eq_false (show ¬ n ≤ 9007199254740992 by omega)]; simp
        rw [this]
      · replace hc7 := nm_ hc7
        refine awp_skip ?_
        refine awp_region (by kernel_rfl) ?_
        iterate 2 (refine aL_S rfl rfl v_ ?_)
        refine aL_nil ?_
        refine awp_region (by kernel_rfl) ?_
        iterate 2 (refine aL_S rfl rfl v_ ?_)
        refine aL_nil ?_
        refine aNext (ι := Nat × Int) (i := ⟨k, z⟩) (k + 1, n) ?_ ?_ ?_ ?_
        · show x.more.length - (k + 1) < x.more.length - k; omega
        · exact ⟨by show k + 1 ≤ x.more.length; omega, by rw [← hr, hrn, decide_eq_true (show z < n by omega), decide_eq_true (show n ≤ 9007199254740992 by omega)]; rfl⟩
        · exact cv_
        · exact Store.Wk.refl _
    · replace hc5 := nm_ hc5
      refine awp_exit ?_
      refine aThen_exit ?_
      refine aThen_exit ?_
      refine aBlock_hit ?_
      refine awp_seq ?_
      refine awp_region (by kernel_rfl) ?_
      (refine aL_S rfl rfl v_ ?_)
      refine aL_nil ?_
      refine awp_ret ?_
      refine aEnd_ret (σ' := σ) v_ sub_ ?_
      refine ⟨?_, rfl⟩
      have : seenOk x = true := by
        unfold seenOk
        rw [← hr, hf, List.drop_eq_nil_of_le (by omega)]; rfl
      rw [this]
def pvOf (c : List Seen) (k : Nat) : Option ByteArray := if k = 0 then none else (c[k - 1]?).map (·.node)
theorem pv_next {c : List Seen} {k : Nat} {x : Seen} (h : c[k]? = some x) : pvOf c (k + 1) = some x.node := by simp [pvOf, h]
theorem pv_prev (c : List Seen) (k : Nat) (hk : k < c.length) : ∃ y : Seen, (0 < k → c[((k : Int) - 1).toNat]? = some y) ∧ ∀ s, aheadOk (pvOf c k) s = (decide (k = 0) || sLt y.node s) := by
  by_cases h0 : k = 0
  · subst h0
    exact ⟨⟨.empty, 0, []⟩, fun h => by omega, fun s => rfl⟩
  · obtain ⟨y, hy⟩ := get_some (l := c) (k := k - 1) (by omega)
    have e : ((k : Int) - 1).toNat = k - 1 := by omega
    exact ⟨y, fun _ => by rw [e]; exact hy, fun s => by simp [pvOf, h0, hy, aheadOk]⟩
theorem ctx_no {a b : Bool} {n room : Int} {r : Bool} {k : Nat} {s : Bool} (hb : b = (decide (k = 0) || s)) (h : (a = false ∨ 0 < (k : Int) ∧ s = false) ∨ room < n) : (a && b && decide (n ≤ room) && r) = false := by
  rcases h with (h | ⟨h, h'⟩) | h
  · rw [h]; rfl
  · rw [hb, h', decide_eq_false (show ¬ k = 0 by omega)]; simp
  · rw [decide_eq_false (show ¬ n ≤ room by omega)]; simp
theorem ctx_yes {a b : Bool} {n room : Int} {r : Bool} {k : Nat} {s : Bool} (hb : b = (decide (k = 0) || s)) (h : (a = true ∧ ((k : Int) ≤ 0 ∨ s = true)) ∧ n ≤ room) : (a && b && decide (n ≤ room) && r) = r := by
  obtain ⟨⟨h1, h2⟩, h3⟩ := h
  have : b = true := by
    rw [hb]
    rcases h2 with h | h
    · rw [decide_eq_true (show k = 0 by omega)]; rfl
    · rw [h]; simp
  rw [h1, this, decide_eq_true h3]; rfl
theorem check_c {c : List Seen} {t : Bool} {σ : Store} (hx : ∀ x ∈ c, SeenSm x) (hn : c.length ≤ 1000000) : ACalls Tryz.prog 66 [.sl 3 (c.map sSeen) t] σ fun v σ' => v = vInt (if ctxOk c then 0 else 1) ∧ σ = σ' := by
  refine ACalls_of Tryz.func66 rfl Tryz.ntmps66 (congrArg Array.toList Tryz.results66) (by simp only [List.length_cons, List.length_nil]; decide) ?_; simp only [envOf_cons, envOf_nil, Nat.reduceAdd]
  refine awp_seq ?_
  refine awp_region (by kernel_rfl) ?_
  (refine aL_S rfl rfl v_ ?_)
  refine aL_nil ?_
  refine awp_seq ?_
  refine awp_region (by kernel_rfl) ?_
  (refine aL_S rfl rfl v_ ?_)
  refine aL_nil ?_
  refine awp_seq ?_
  refine awp_seq ?_
  refine awp_region (by kernel_rfl) ?_
  iterate 3 (refine aL_S rfl rfl v_ ?_)
  refine aL_nil ?_
  refine awp_block ?_
  refine awp_loop_env (ι := Nat × Int) (fun ⟨k, room⟩ => c.length - k) (fun ⟨k, room⟩ => k ≤ c.length ∧ ctxGo (pvOf c k) room (c.drop k) = ctxOk c ∧ (room ≤ 4096 ∧ 0 ≤ room)) (fun ⟨k, room⟩ => [(0, .sl 3 (c.map sSeen) t), (3, vInt room), (6, .sl 3 (c.map sSeen) t), (7, vInt c.length), (8, vInt k)]) (fun ⟨k, room⟩ => σ) (0, 4096) ?_ ?_ ?_ ?_
  · exact ⟨Nat.zero_le _, rfl, by decide⟩
  · exact cv_
  · exact sub_
  rintro ⟨k, room⟩ ⟨hk, hr, hrm⟩
  simp only [envL_cons, envL_nil]
  refine awp_seq ?_
  refine awp_region (by kernel_rfl) ?_
  (refine aL_S rfl rfl v_ ?_)
  refine aL_nil ?_
  refine awp_seq ?_
  refine awp_cond v_ (fun hc3 => ?_) (fun hc3 => ?_)
  · replace hc3 := nm_ hc3
    refine awp_skip ?_
    refine awp_seq ?_
    refine awp_block ?_
    refine awp_seq ?_
    obtain ⟨x, hxk⟩ := get_some (l := c) (k := k) (by omega)
    have hsx := hx x (List.mem_of_getElem? hxk)
    have hlm := hsx.more
    obtain ⟨y, hy, hah⟩ := pv_prev c k (by omega)
    have hst : ctxGo (pvOf c k) room (c.drop k) = (seenOk x && aheadOk (pvOf c k) x.node && decide ((x.more.length : Int) ≤ room) && ctxGo (some x.node) (room - x.more.length) (c.drop (k + 1))) := by rw [drop_cons hxk]; rfl
    have R := hxk
    refine awp_region (by kernel_rfl) ?_
    iterate 3 (refine aL_S rfl rfl v_ ?_)
    refine aL_alloc rfl rfl rfl g_ gl_ fun o5 ho5 => ?_
    repeat (rw [none_set_iff] at ho5; obtain ⟨_, ho5⟩ := ho5)
    (refine aL_S rfl rfl v_ ?_)
    refine aL_store rfl rfl rfl v_ v_ h_ g_ rfl g_ c_ (by rfl) le_ v_ ?_
    refine aL_nil ?_
    refine awp_seq ?_
    refine awp_seq ?_
    have R := hy
    refine awp_draw (.op 0 0 (.op 1 1 (.op 2 0 (.op 3 0 (.op 4 0 (.op 5 0 (.op 6 0 (.op 7 0 (.op 8 0 (.op 9 0 (.op 10 0 (.op 11 0 (.op 12 0 (.op 13 0 (.op 14 0 (.op 15 0 (.op 16 0 (.op 17 0 (.op 18 0 (.op 19 0 (.op 20 0 (.op 21 0 (.op 22 0 (.op 23 0 (.op 24 0 .nil))))))))))))))))))))))))) Tryz.mixed (by kernel_rfl) ?_
    (refine dR_S o_ (by rfl) (by rfl) v_ ?_)
    refine dR_X o_ (by rfl) (by rfl) (AOp_use (by rfl) (by rfl) (.inr ⟨by rfl, by rfl, by rfl⟩) g_ va_ (isSeen_c hsx) ?_); rintro _ _ ⟨rfl, rfl⟩; refine ⟨sub_, ?_⟩
    iterate 2 (refine dR_S o_ (by rfl) (by rfl) v_ ?_)
    refine dR_GF o_ (by rfl) (by rfl) v_ (by rfl) vg_ ?_
    refine dR_GF o_ (by rfl) (by rfl) v_ (by rfl) vg_ ?_
    refine dR_GF o_ (by rfl) (by rfl) v_ (by rfl) vg_ ?_
    refine dR_GGT o_ (by rfl) (by rfl) v_ (by rfl) vg_ ?_
    refine dR_GGT o_ (by rfl) (by rfl) v_ (by rfl) vg_ ?_
    refine dR_GGT o_ (by rfl) (by rfl) v_ (by rfl) vg_ ?_
    refine dR_GGT o_ (by rfl) (by rfl) v_ (by rfl) vg_ ?_
    refine dR_GGT o_ (by rfl) (by rfl) v_ (by rfl) vg_ ?_
    refine dR_GGT o_ (by rfl) (by rfl) v_ (by rfl) vg_ ?_
    refine dR_GGT o_ (by rfl) (by rfl) v_ (by rfl) vg_ ?_
    refine dR_GGT o_ (by rfl) (by rfl) v_ (by rfl) vg_ ?_
    refine dR_GGT o_ (by rfl) (by rfl) v_ (by rfl) vg_ ?_
    refine dR_GF o_ (by rfl) (by rfl) v_ (by rfl) vg_ ?_
    iterate 2 (refine dR_S o_ (by rfl) (by rfl) v_ ?_)
    refine dR_GF o_ (by rfl) (by rfl) v_ (by rfl) vg_ ?_
    refine dR_GF o_ (by rfl) (by rfl) v_ (by rfl) vg_ ?_
    refine dR_GF o_ (by rfl) (by rfl) v_ (by rfl) vg_ ?_
    refine dR_GF o_ (by rfl) (by rfl) v_ (by rfl) vg_ ?_
    refine dR_GF o_ (by rfl) (by rfl) v_ (by rfl) vg_ ?_
    (refine dR_S o_ (by rfl) (by rfl) v_ ?_)
    refine dR_nil ?_
    refine awp_cond v_ (fun hc5 => ?_) (fun hc5 => ?_)
    · replace hc5 := nm_ hc5
      refine awp_seq ?_
      refine awp_region (by kernel_rfl) ?_
      (refine aL_S rfl rfl v_ ?_)
      refine aL_nil ?_
      refine awp_ret ?_
      refine aEnd_ret (σ' := σ) v_ sub_ ?_
      refine ⟨?_, rfl⟩
      rw [← hr, hst, ctx_no (hah _) hc5]; rfl
    · replace hc5 := nm_ hc5
      have hnx : ctxGo (pvOf c (k + 1)) (room - x.more.length) (c.drop (k + 1)) = ctxOk c := by rw [pv_next hxk, ← hr, hst, ctx_yes (hah _) hc5]
      have hrm2 : room - (x.more.length : Int) ≤ 4096 ∧ 0 ≤ room - (x.more.length : Int) := by omega
      refine awp_skip ?_
      refine awp_region (by kernel_rfl) ?_
      iterate 6 (refine aL_S rfl rfl v_ ?_)
      refine aL_nil ?_
      refine awp_region (by kernel_rfl) ?_
      iterate 2 (refine aL_S rfl rfl v_ ?_)
      refine aL_nil ?_
      refine aNext (ι := Nat × Int) (i := ⟨k, room⟩) (k + 1, room - x.more.length) ?_ ?_ ?_ ?_
      · show c.length - (k + 1) < c.length - k; omega
      · exact ⟨by show k + 1 ≤ c.length; omega, hnx, hrm2⟩
      · exact cv_
      · exact sub_
  · replace hc3 := nm_ hc3
    refine awp_exit ?_
    refine aThen_exit ?_
    refine aThen_exit ?_
    refine aBlock_hit ?_
    refine awp_seq ?_
    refine awp_region (by kernel_rfl) ?_
    (refine aL_S rfl rfl v_ ?_)
    refine aL_nil ?_
    refine awp_ret ?_
    refine aEnd_ret (σ' := σ) v_ sub_ ?_
    refine ⟨?_, rfl⟩
    rw [← hr, List.drop_eq_nil_of_le (by omega)]; rfl
theorem may_hd {x : Seen} {k : Nat} {s : Bool} {n : Int} (h : ((((nameOk x.node = true ∧ ((k : Int) ≤ 0 ∨ s = true)) ∧ 0 ≤ x.base) ∧ x.base ≤ 9007199254740992) ∧ (¬ x.base = 0 ∨ ¬ (x.more.length : Int) = 0)) ∧ (x.more.length : Int) ≤ n) : seenHd x = true ∧ ((k : Int) ≤ 0 ∨ s = true) ∧ (x.more.length : Int) ≤ n :=
  ⟨seenHd_yes ⟨⟨⟨h.1.1.1.1.1, h.1.1.1.2⟩, h.1.1.2⟩, h.1.2⟩, h.1.1.1.1.2, h.2⟩
theorem may_not {x : Seen} {k : Nat} {s : Bool} {n : Int} (h : ((((nameOk x.node = false ∨ (0 < (k : Int) ∧ s = false)) ∨ x.base < 0) ∨ 9007199254740992 < x.base) ∨ (x.base = 0 ∧ (x.more.length : Int) = 0)) ∨ n < (x.more.length : Int)) : (seenHd x = false ∨ 0 < (k : Int) ∧ s = false) ∨ n < (x.more.length : Int) := by
  rcases h with ((((h | h) | h) | h) | h) | h
  · exact .inl (.inl (seenHd_not (.inl (.inl (.inl h)))))
  · exact .inl (.inr h)
  · exact .inl (.inl (seenHd_not (.inl (.inl (.inr h)))))
  · exact .inl (.inl (seenHd_not (.inl (.inr h))))
  · exact .inl (.inl (seenHd_not (.inr h)))
  · exact .inr h
theorem rMay06_c {c : List Seen} {t : Bool} {σ : Store} (hx : ∀ x ∈ c, SeenSm x) (hn : c.length ≤ 1000000) : ACalls Tryz.prog 80 [.sl 3 (c.map sSeen) t] σ fun v σ' => v = .lit (.bool (ctxOk c)) ∧ σ = σ' := by
  refine ACalls_of Tryz.func80 rfl Tryz.ntmps80 (congrArg Array.toList Tryz.results80) (by simp only [List.length_cons, List.length_nil]; decide) ?_; simp only [envOf_cons, envOf_nil, Nat.reduceAdd]
  refine awp_seq ?_
  refine awp_region (by kernel_rfl) ?_
  (refine aL_S rfl rfl v_ ?_)
  refine aL_nil ?_
  refine awp_seq ?_
  refine awp_region (by kernel_rfl) ?_
  (refine aL_S rfl rfl v_ ?_)
  refine aL_nil ?_
  refine awp_seq ?_
  refine awp_seq ?_
  refine awp_region (by kernel_rfl) ?_
  (refine aL_S rfl rfl v_ ?_)
  refine aL_nil ?_
  refine awp_block ?_
  refine awp_loop_env (ι := Nat × Int) (fun ⟨k, n⟩ => c.length - k) (fun ⟨k, n⟩ => k ≤ c.length ∧ ctxGo (pvOf c k) (4096 - n) (c.drop k) = ctxOk c ∧ (n ≤ 4096 ∧ 0 ≤ n)) (fun ⟨k, n⟩ => [(0, .sl 3 (c.map sSeen) t), (3, vInt n), (4, vInt k)]) (fun ⟨k, n⟩ => σ) (0, 0) ?_ ?_ ?_ ?_
  · exact ⟨Nat.zero_le _, rfl, by decide⟩
  · exact cv_
  · exact sub_
  rintro ⟨k, n⟩ ⟨hk, hr, hrm⟩
  simp only [envL_cons, envL_nil]
  refine awp_seq ?_
  refine awp_seq ?_
  refine awp_region (by kernel_rfl) ?_
  iterate 4 (refine aL_S rfl rfl v_ ?_)
  refine aL_nil ?_
  refine awp_cond v_ (fun hc3 => ?_) (fun hc3 => ?_)
  · replace hc3 := nm_ hc3
    refine awp_skip ?_
    refine awp_seq ?_
    refine awp_block ?_
    refine awp_seq ?_
    obtain ⟨x, hxk⟩ := get_some (l := c) (k := k) (by omega)
    have hsx := hx x (List.mem_of_getElem? hxk)
    have hlm := hsx.more
    have hnm := hsx.node
    obtain ⟨y, hy, hah⟩ := pv_prev c k (by omega)
    have hst : ctxGo (pvOf c k) (4096 - n) (c.drop k) = ((seenHd x && riseOk (x.base + 1) x.more) && aheadOk (pvOf c k) x.node && decide ((x.more.length : Int) ≤ 4096 - n) && ctxGo (some x.node) (4096 - n - x.more.length) (c.drop (k + 1))) := by rw [drop_cons hxk]; rfl
    have R := hxk
    refine awp_region (by kernel_rfl) ?_
    iterate 4 (refine aL_S rfl rfl v_ ?_)
    refine aL_alloc rfl rfl rfl g_ gl_ fun o5 ho5 => ?_
    repeat (rw [none_set_iff] at ho5; obtain ⟨_, ho5⟩ := ho5)
    refine aL_store rfl rfl rfl v_ v_ h_ g_ rfl g_ c_ (by rfl) le_ v_ ?_
    refine aL_nil ?_
    refine awp_seq ?_
    refine awp_seq ?_
    have R := hy
    refine awp_draw (.op 0 0 (.op 1 0 (.op 2 1 (.op 3 0 (.op 4 0 (.op 5 0 (.op 6 0 (.op 7 0 (.op 8 0 (.op 9 0 (.op 10 0 (.op 11 0 (.op 12 0 (.op 13 0 (.op 14 0 (.op 15 0 (.op 16 0 (.op 17 0 (.op 18 0 (.op 19 0 (.op 20 0 (.op 21 0 (.op 22 0 (.op 23 0 (.op 24 0 (.op 25 0 (.op 26 0 (.op 27 0 (.op 28 0 (.op 29 0 (.op 30 0 (.op 31 0 (.op 32 0 (.op 33 0 (.op 34 0 (.op 35 0 (.op 36 0 (.op 37 0 (.op 38 0 (.op 39 0 (.op 40 0 (.op 41 0 (.op 42 0 (.op 43 0 (.op 44 0 (.op 45 0 (.op 46 0 (.op 47 0 .nil)))))))))))))))))))))))))))))))))))))))))))))))) Tryz.mixed (by kernel_rfl) ?_
    iterate 2 (refine dR_S o_ (by rfl) (by rfl) v_ ?_)
    refine dR_X o_ (by rfl) (by rfl) (AOp_use (by rfl) (by rfl) (.inr ⟨by rfl, by rfl, by rfl⟩) g_ va_ (rIs_c (by omega)) ?_); rintro _ _ ⟨rfl, rfl⟩; refine ⟨sub_, ?_⟩
    iterate 2 (refine dR_S o_ (by rfl) (by rfl) v_ ?_)
    refine dR_GF o_ (by rfl) (by rfl) v_ (by rfl) vg_ ?_
    refine dR_GF o_ (by rfl) (by rfl) v_ (by rfl) vg_ ?_
    refine dR_GF o_ (by rfl) (by rfl) v_ (by rfl) vg_ ?_
    refine dR_GGT o_ (by rfl) (by rfl) v_ (by rfl) vg_ ?_
    refine dR_GGT o_ (by rfl) (by rfl) v_ (by rfl) vg_ ?_
    refine dR_GGT o_ (by rfl) (by rfl) v_ (by rfl) vg_ ?_
    refine dR_GGT o_ (by rfl) (by rfl) v_ (by rfl) vg_ ?_
    refine dR_GGT o_ (by rfl) (by rfl) v_ (by rfl) vg_ ?_
    refine dR_GGT o_ (by rfl) (by rfl) v_ (by rfl) vg_ ?_
    refine dR_GGT o_ (by rfl) (by rfl) v_ (by rfl) vg_ ?_
    refine dR_GGT o_ (by rfl) (by rfl) v_ (by rfl) vg_ ?_
    refine dR_GGT o_ (by rfl) (by rfl) v_ (by rfl) vg_ ?_
    refine dR_GF o_ (by rfl) (by rfl) v_ (by rfl) vg_ ?_
    iterate 2 (refine dR_S o_ (by rfl) (by rfl) v_ ?_)
    refine dR_GF o_ (by rfl) (by rfl) v_ (by rfl) vg_ ?_
    refine dR_GF o_ (by rfl) (by rfl) v_ (by rfl) vg_ ?_
    refine dR_GF o_ (by rfl) (by rfl) v_ (by rfl) vg_ ?_
    iterate 2 (refine dR_S o_ (by rfl) (by rfl) v_ ?_)
    refine dR_GF o_ (by rfl) (by rfl) v_ (by rfl) vg_ ?_
    refine dR_GF o_ (by rfl) (by rfl) v_ (by rfl) vg_ ?_
    refine dR_GF o_ (by rfl) (by rfl) v_ (by rfl) vg_ ?_
    iterate 2 (refine dR_S o_ (by rfl) (by rfl) v_ ?_)
    refine dR_GF o_ (by rfl) (by rfl) v_ (by rfl) vg_ ?_
    refine dR_GF o_ (by rfl) (by rfl) v_ (by rfl) vg_ ?_
    refine dR_GF o_ (by rfl) (by rfl) v_ (by rfl) vg_ ?_
    refine dR_GF o_ (by rfl) (by rfl) v_ (by rfl) vg_ ?_
    refine dR_GGT o_ (by rfl) (by rfl) v_ (by rfl) vg_ ?_
    refine dR_GGT o_ (by rfl) (by rfl) v_ (by rfl) vg_ ?_
    refine dR_GGT o_ (by rfl) (by rfl) v_ (by rfl) vg_ ?_
    refine dR_GGT o_ (by rfl) (by rfl) v_ (by rfl) vg_ ?_
    refine dR_GF o_ (by rfl) (by rfl) v_ (by rfl) vg_ ?_
    iterate 2 (refine dR_S o_ (by rfl) (by rfl) v_ ?_)
    refine dR_GF o_ (by rfl) (by rfl) v_ (by rfl) vg_ ?_
    refine dR_GF o_ (by rfl) (by rfl) v_ (by rfl) vg_ ?_
    refine dR_GF o_ (by rfl) (by rfl) v_ (by rfl) vg_ ?_
    refine dR_GF o_ (by rfl) (by rfl) v_ (by rfl) vg_ ?_
    refine dR_GF o_ (by rfl) (by rfl) v_ (by rfl) vg_ ?_
    refine dR_GF o_ (by rfl) (by rfl) v_ (by rfl) vg_ ?_
    (refine dR_S o_ (by rfl) (by rfl) v_ ?_)
    refine dR_nil ?_
    refine awp_cond v_ (fun hc6 => ?_) (fun hc6 => ?_)
    · replace hc6 := nm_ hc6
      have hno := may_not hc6
      refine awp_seq ?_
      refine awp_region (by kernel_rfl) ?_
      (refine aL_S rfl rfl v_ ?_)
      refine aL_nil ?_
      refine awp_ret ?_
      refine aEnd_ret (σ' := σ) v_ sub_ ?_
      refine ⟨?_, rfl⟩
      have : ctxOk c = false := by
        rw [← hr, hst]
        rcases hno with (h | h) | h
        · rw [h]; rfl
        · exact ctx_no (hah _) (.inl (.inr h))
        · exact ctx_no (hah _) (.inr h)
      rw [this]
    · replace hc6 := nm_ hc6
      have hyes := may_hd hc6
      refine awp_skip ?_
      refine awp_seq ?_
      refine awp_region (by kernel_rfl) ?_
      iterate 6 (refine aL_S rfl rfl v_ ?_)
      refine aL_nil ?_
      refine awp_seq ?_
      refine awp_region (by kernel_rfl) ?_
      iterate 4 (refine aL_S rfl rfl v_ ?_)
      refine aL_nil ?_
      refine awp_seq ?_
      refine awp_region (by kernel_rfl) ?_
      (refine aL_S rfl rfl v_ ?_)
      refine aL_nil ?_
      refine awp_block ?_
      refine awp_loop_env (ι := Nat × Int) (fun ⟨j, z⟩ => x.more.length - j) (fun ⟨j, z⟩ => j ≤ x.more.length ∧ riseOk z (x.more.drop j) = riseOk (x.base + 1) x.more) (fun ⟨j, z⟩ => [(0, .sl 3 (c.map sSeen) t), (3, vInt (n + x.more.length)), (4, vInt k), (5, .ref o5 0), (6, vInt z), (7, vInt j)]) (fun ⟨j, z⟩ => (σ.set o5 (.cells (sSeen x).cells))) (0, x.base + 1) ?_ ?_ ?_ ?_
      · exact ⟨Nat.zero_le _, rfl⟩
      · exact cv_
      · rw [Store.set_set]; exact Store.Wk.refl _
      rintro ⟨j, z⟩ ⟨hj, hz⟩
      simp only [envL_cons, envL_nil]
      refine awp_seq ?_
      refine awp_seq ?_
      refine awp_region (by kernel_rfl) ?_
      iterate 5 (refine aL_S rfl rfl v_ ?_)
      refine aL_nil ?_
      refine awp_cond v_ (fun hc11 => ?_) (fun hc11 => ?_)
      · replace hc11 := nm_ hc11
        refine awp_skip ?_
        refine awp_seq ?_
        refine awp_block ?_
        refine awp_seq ?_
        refine awp_seq ?_
        obtain ⟨m, hm⟩ := get_some (l := x.more) (k := j) (by omega)
        have hrn : riseOk z (x.more.drop j) = (decide (z < m) && decide (m ≤ 9007199254740992) && riseOk m (x.more.drop (j + 1))) := by rw [drop_cons hm]; rfl
        have R := hm
        refine awp_region (by kernel_rfl) ?_
        iterate 8 (refine aL_S rfl rfl v_ ?_)
        refine aL_GF rfl rfl v_ rfl vg_ ?_
        refine aL_GF rfl rfl v_ rfl vg_ ?_
        refine aL_GF rfl rfl v_ rfl vg_ ?_
        refine aL_GF rfl rfl v_ rfl vg_ ?_
        refine aL_GF rfl rfl v_ rfl vg_ ?_
        refine aL_GF rfl rfl v_ rfl vg_ ?_
        (refine aL_S rfl rfl v_ ?_)
        refine aL_nil ?_
        refine awp_cond v_ (fun hc13 => ?_) (fun hc13 => ?_)
        · replace hc13 := nm_ hc13
          refine awp_seq ?_
          refine awp_region (by kernel_rfl) ?_
          (refine aL_S rfl rfl v_ ?_)
          refine aL_nil ?_
          refine awp_ret ?_
          refine aEnd_ret (σ' := σ) v_ sub_ ?_
          refine ⟨?_, rfl⟩
          have : riseOk (x.base + 1) x.more = false := by
            rw [← hz, hrn]
            rcases hc13 with h | h
            · rw [decide_eq_false (show ¬ z < m by omega)]; simp
            · rw [decide_eq_false (show ¬ m ≤ 9007199254740992 by omega)]; simp
          rw [← hr, hst, this]; simp
        · replace hc13 := nm_ hc13
          refine awp_skip ?_
          have R := hm
          refine awp_region (by kernel_rfl) ?_
          iterate 6 (refine aL_S rfl rfl v_ ?_)
          refine aL_nil ?_
          refine awp_region (by kernel_rfl) ?_
          iterate 3 (refine aL_S rfl rfl v_ ?_)
          refine aL_nil ?_
          refine aNext (ι := Nat × Int) (i := ⟨j, z⟩) (j + 1, m) ?_ ?_ ?_ ?_
          · show x.more.length - (j + 1) < x.more.length - j; omega
          · exact ⟨by show j + 1 ≤ x.more.length; omega, by rw [← hz, hrn, decide_eq_true (show z < m by omega), decide_eq_true (show m ≤ 9007199254740992 by omega)]; rfl⟩
          · exact cv_
          · exact Store.Wk.refl _
      · replace hc11 := nm_ hc11
        refine awp_exit ?_
        refine aThen_exit ?_
        refine aThen_exit ?_
        refine aBlock_hit ?_
        have hrise : riseOk (x.base + 1) x.more = true := by rw [← hz, List.drop_eq_nil_of_le (by omega)]; rfl
        have hnx : ctxGo (pvOf c (k + 1)) (4096 - (n + x.more.length)) (c.drop (k + 1)) = ctxOk c := by
          rw [pv_next hxk, ← hr, hst, hrise, hyes.1, Bool.true_and, ctx_yes (hah _) ⟨⟨rfl, hyes.2.1⟩, hyes.2.2⟩]
          congr 1; omega
        have hrm2 : n + (x.more.length : Int) ≤ 4096 ∧ 0 ≤ n + (x.more.length : Int) := by omega
        refine awp_region (by kernel_rfl) ?_
        iterate 3 (refine aL_S rfl rfl v_ ?_)
        refine aL_nil ?_
        refine aNext (ι := Nat × Int) (i := ⟨k, n⟩) (k + 1, n + x.more.length) ?_ ?_ ?_ ?_
        · show c.length - (k + 1) < c.length - k; omega
        · exact ⟨by show k + 1 ≤ c.length; omega, hnx, hrm2⟩
        · exact cv_
        · exact sub_
  · replace hc3 := nm_ hc3
    refine awp_exit ?_
    refine aThen_exit ?_
    refine aThen_exit ?_
    refine aBlock_hit ?_
    refine awp_seq ?_
    refine awp_region (by kernel_rfl) ?_
    (refine aL_S rfl rfl v_ ?_)
    refine aL_nil ?_
    refine awp_ret ?_
    refine aEnd_ret (σ' := σ) v_ sub_ ?_
    refine ⟨?_, rfl⟩
    rw [← hr, List.drop_eq_nil_of_le (by omega)]; rfl
end Go.Proofs.YtbjloippgpilcaaGreat
end
