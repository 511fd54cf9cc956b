/-
  DEEDS, and what they came to, plainly; A number's digits, by the kit's contract of the library's Itoa; The library's Builder: texts are written one behind the other. Own work (an AI agent).
-/
import Derived.Test.YtbjloippgpilcaaGreatDoorGF
import Derived.Lib.ItoaNum
import Derived.Test.YtbjloippgpilcaaGreatDoorGE
import Derived.Shelf.Strconv.Itoa3
import Derived.Lib.ItoaLen

section
set_option linter.all false
set_option maxRecDepth 100000
namespace Go.Ab
structure Deed where
  node : ByteArray
  lane : ByteArray
  op : Int
  bgn : Int
  fin : Int
  tick : Int
  kind : Int
  token : ByteArray
  bucket : ByteArray
  key : ByteArray
  value : ByteArray
  cctx : List Seen
  ctime : Int
  done : Bool
  err : Int
  sibs : List Sib
  actx : List Seen
  keys : List ByteArray
  dnode : ByteArray
  dn : Int
structure Cnt where
  kind : Int
  err : Int
  n : Int
structure Sm where
  calls : Int
  done : Int
  counts : List Cnt
  middle : Int
  longest : Int
@[reducible] def sDeed (x : Deed) : AVal := .agg [.lit (.string x.node), .lit (.string x.lane), vInt x.op, vInt x.bgn, vInt x.fin, vInt x.tick, vInt x.kind, .lit (.string x.token), .lit (.string x.bucket), .lit (.string x.key), .lit (.string x.value), .sl 3 (x.cctx.map sSeen) false, vInt x.ctime, .lit (.bool x.done), vInt x.err, .sl 5 (x.sibs.map sSib) false, .sl 3 (x.actx.map sSeen) false, .sl 1 (x.keys.map vStr) false, .lit (.string x.dnode), vInt x.dn]
@[reducible] def sCnt (x : Cnt) : AVal := .agg [vInt x.kind, vInt x.err, vInt x.n]
@[reducible] def sSm (x : Sm) : AVal := .agg [vInt x.calls, vInt x.done, .sl 3 (x.counts.map sCnt) false, vInt x.middle, vInt x.longest]
end Go.Ab
namespace Go.Proofs.YtbjloippgpilcaaGreatDoor
open Go.Ab

abbrev vB (b : Bool) : AVal := .lit (.bool b)
abbrev vNil : AVal := .lit (.slice none 0 0)
theorem get_some {α : Type} {l : List α} {k : Nat} (h : k < l.length) : ∃ x, l[k]? = some x := ⟨l[k], List.getElem?_eq_getElem h⟩
/-! ### counts -/
def cntAdd (k e : Int) : List Cnt → List Cnt
  | [] => [⟨k, e, 1⟩]
  | c :: l => if c.kind < k ∨ (c.kind = k ∧ c.err < e) then c :: cntAdd k e l else if k = c.kind ∧ e = c.err then ⟨k, e, c.n + 1⟩ :: l else ⟨k, e, 1⟩ :: c :: l
def mpAdd (k e : Int) : List Cnt → List Cnt
  | [] => [⟨k, e, 1⟩]
  | c :: l => if k = c.kind ∧ e = c.err then ⟨k, e, c.n + 1⟩ :: l else c :: mpAdd k e l
def cGet (k e : Int) : List Cnt → Int
  | [] => 0
  | c :: l => if k = c.kind ∧ e = c.err then c.n else cGet k e l
def cLt (a b : Cnt) : Prop := a.kind < b.kind ∨ (a.kind = b.kind ∧ a.err < b.err)
def NoDupK (l : List Cnt) : Prop := l.Pairwise fun a b => ¬ (a.kind = b.kind ∧ a.err = b.err)
def cStep (acc : List Cnt) (d : Deed) : List Cnt := if d.done then cntAdd d.kind d.err acc else acc
def mStep (acc : List Cnt) (d : Deed) : List Cnt := if d.done then mpAdd d.kind d.err acc else acc
def countsS (l : List Deed) : List Cnt := l.foldl cStep []
def mpS (l : List Deed) : List Cnt := l.foldl mStep []

theorem cGet_mem : ∀ {l : List Cnt}, NoDupK l → ∀ {c : Cnt}, c ∈ l → cGet c.kind c.err l = c.n
  | [], _, _, h => by cases h
  | d :: l, hn, c, h => by
    rw [NoDupK, List.pairwise_cons] at hn
    unfold cGet
    rcases List.mem_cons.1 h with rfl | h
    · rw [if_pos ⟨rfl, rfl⟩]
    · rw [if_neg fun hh => hn.1 c h ⟨hh.1.symm, hh.2.symm⟩]
      exact cGet_mem hn.2 h
theorem cGet_zero {k e : Int} : ∀ {l : List Cnt}, (∀ c ∈ l, ¬ (k = c.kind ∧ e = c.err)) → cGet k e l = 0
  | [], _ => rfl
  | d :: l, h => by
    unfold cGet
    rw [if_neg (h d (.head _))]
    exact cGet_zero fun c hc => h c (.tail _ hc)
theorem cGet_congr {M C : List Cnt} (hM : NoDupK M) (hC : NoDupK C) (h : ∀ c, c ∈ M ↔ c ∈ C) (k e : Int) : cGet k e M = cGet k e C := by
  by_cases hx : ∃ c ∈ M, k = c.kind ∧ e = c.err
  · obtain ⟨c, hc, rfl, rfl⟩ := hx
    rw [cGet_mem hM hc, cGet_mem hC ((h c).1 hc)]
  · rw [cGet_zero fun c hc hh => hx ⟨c, hc, hh⟩, cGet_zero fun c hc hh => hx ⟨c, (h c).2 hc, hh⟩]
theorem mpAdd_mem {k e : Int} : ∀ {M : List Cnt}, NoDupK M → ∀ x, x ∈ mpAdd k e M ↔ (x ∈ M ∧ ¬ (k = x.kind ∧ e = x.err)) ∨ x = ⟨k, e, cGet k e M + 1⟩
  | [], _, x => by simp [mpAdd, cGet]
  | c :: l, h, x => by
    rw [NoDupK, List.pairwise_cons] at h
    unfold mpAdd cGet
    by_cases hc : k = c.kind ∧ e = c.err
    · rw [if_pos hc, if_pos hc]
      simp only [List.mem_cons]
      constructor
      · rintro (rfl | hx)
        · exact .inr rfl
        · exact .inl ⟨.inr hx, fun hh => h.1 x hx ⟨by rw [← hc.1]; exact hh.1, by rw [← hc.2]; exact hh.2⟩⟩
      · rintro (⟨rfl | hx, hn⟩ | rfl)
        · exact absurd hc hn
        · exact .inr hx
        · exact .inl rfl
    · rw [if_neg hc, if_neg hc]
      simp only [List.mem_cons, mpAdd_mem h.2 x]
      constructor
      · rintro (rfl | ⟨hx, hn⟩ | rfl)
        · exact .inl ⟨.inl rfl, hc⟩
        · exact .inl ⟨.inr hx, hn⟩
        · exact .inr rfl
      · rintro (⟨rfl | hx, hn⟩ | rfl)
        · exact .inl rfl
        · exact .inr (.inl ⟨hx, hn⟩)
        · exact .inr (.inr rfl)
theorem mpAdd_nd {k e : Int} : ∀ {M : List Cnt}, NoDupK M → NoDupK (mpAdd k e M)
  | [], _ => List.pairwise_singleton _ _
  | c :: l, h => by
    have h' := h
    rw [NoDupK, List.pairwise_cons] at h
    unfold mpAdd
    by_cases hc : k = c.kind ∧ e = c.err
    · rw [if_pos hc]
      obtain ⟨rfl, rfl⟩ := hc
      exact List.pairwise_cons.2 ⟨h.1, h.2⟩
    · rw [if_neg hc]
      refine List.pairwise_cons.2 ⟨fun x hx => ?_, mpAdd_nd h.2⟩
      rcases (mpAdd_mem h.2 x).1 hx with ⟨hx, _⟩ | rfl
      · exact h.1 x hx
      · exact fun hh => hc ⟨hh.1.symm, hh.2.symm⟩
theorem so_nd {C : List Cnt} (h : C.Pairwise cLt) : NoDupK C := h.imp fun {a b} h => by unfold cLt at h; omega
theorem cntAdd_mem {k e : Int} : ∀ {C : List Cnt}, C.Pairwise cLt → ∀ x, x ∈ cntAdd k e C ↔ (x ∈ C ∧ ¬ (k = x.kind ∧ e = x.err)) ∨ x = ⟨k, e, cGet k e C + 1⟩
  | [], _, x => by simp [cntAdd, cGet]
  | c :: l, h, x => by
    rw [List.pairwise_cons] at h
    unfold cntAdd cGet
    by_cases hlt : c.kind < k ∨ (c.kind = k ∧ c.err < e)
    · have hc : ¬ (k = c.kind ∧ e = c.err) := by omega
      rw [if_pos hlt, if_neg hc]
      simp only [List.mem_cons, cntAdd_mem h.2 x]
      constructor
      · rintro (rfl | ⟨hx, hn⟩ | rfl)
        · exact .inl ⟨.inl rfl, hc⟩
        · exact .inl ⟨.inr hx, hn⟩
        · exact .inr rfl
      · rintro (⟨rfl | hx, hn⟩ | rfl)
        · exact .inl rfl
        · exact .inr (.inl ⟨hx, hn⟩)
        · exact .inr (.inr rfl)
    · rw [if_neg hlt]
      by_cases hc : k = c.kind ∧ e = c.err
      · rw [if_pos hc, if_pos hc]
        simp only [List.mem_cons]
        constructor
        · rintro (rfl | hx)
          · exact .inr rfl
          · exact .inl ⟨.inr hx, fun hh => by have := h.1 x hx; unfold cLt at this; omega⟩
        · rintro (⟨rfl | hx, hn⟩ | rfl)
          · exact absurd hc hn
          · exact .inr hx
          · exact .inl rfl
      · have hz : ∀ y ∈ l, ¬ (k = y.kind ∧ e = y.err) := fun y hy hh => by have := h.1 y hy; unfold cLt at this; omega
        rw [if_neg hc, if_neg hc, cGet_zero hz]
        simp only [List.mem_cons]
        constructor
        · rintro (rfl | rfl | hx)
          · exact .inr (by simp)
          · exact .inl ⟨.inl rfl, hc⟩
          · exact .inl ⟨.inr hx, hz x hx⟩
        · rintro (⟨rfl | hx, hn⟩ | rfl)
          · exact .inr (.inl rfl)
          · exact .inr (.inr hx)
          · exact .inl (by simp)
theorem cntAdd_so {k e : Int} : ∀ {C : List Cnt}, C.Pairwise cLt → (cntAdd k e C).Pairwise cLt
  | [], _ => List.pairwise_singleton _ _
  | c :: l, h => by
    have h' := h
    rw [List.pairwise_cons] at h
    unfold cntAdd
    by_cases hlt : c.kind < k ∨ (c.kind = k ∧ c.err < e)
    · rw [if_pos hlt]
      refine List.pairwise_cons.2 ⟨fun x hx => ?_, cntAdd_so h.2⟩
      rcases (cntAdd_mem h.2 x).1 hx with ⟨hx, _⟩ | rfl
      · exact h.1 x hx
      · exact hlt
    · rw [if_neg hlt]
      by_cases hc : k = c.kind ∧ e = c.err
      · rw [if_pos hc]
        obtain ⟨rfl, rfl⟩ := hc
        exact List.pairwise_cons.2 ⟨h.1, h.2⟩
      · rw [if_neg hc]
        refine List.pairwise_cons.2 ⟨fun x hx => ?_, h'⟩
        rcases List.mem_cons.1 hx with rfl | hx
        · show k < x.kind ∨ (k = x.kind ∧ e < x.err); omega
        · have := h.1 x hx
          unfold cLt at this
          show k < x.kind ∨ (k = x.kind ∧ e < x.err); omega
structure CR (M C : List Cnt) : Prop where
  nd : NoDupK M
  so : C.Pairwise cLt
  mem : ∀ x, x ∈ M ↔ x ∈ C
theorem cr_fold : ∀ (l : List Deed) {M C : List Cnt}, CR M C → CR (l.foldl mStep M) (l.foldl cStep C)
  | [], _, _, h => h
  | d :: l, M, C, h => by
    refine cr_fold l (M := mStep M d) (C := cStep C d) ?_
    unfold mStep cStep
    cases d.done with
    | false => exact h
    | true =>
      refine ⟨mpAdd_nd h.nd, cntAdd_so h.so, fun x => ?_⟩
      rw [if_pos rfl, if_pos rfl, mpAdd_mem h.nd, cntAdd_mem h.so, h.mem, cGet_congr h.nd (so_nd h.so) h.mem]
theorem cr_all (l : List Deed) : CR (mpS l) (countsS l) := cr_fold l ⟨.nil, .nil, fun _ => .rfl⟩
theorem rise_uniq {α : Type} {r : α → α → Prop} (irr : ∀ a, ¬ r a a) (tr : ∀ a b c, r a b → r b c → r a c) : ∀ {l m : List α}, l.Pairwise r → m.Pairwise r → (∀ x, x ∈ l ↔ x ∈ m) → l = m
  | [], [], _, _, _ => rfl
  | [], y :: m, _, _, h => absurd ((h y).2 (.head _)) (by simp)
  | x :: l, [], _, _, h => absurd ((h x).1 (.head _)) (by simp)
  | x :: l, y :: m, hl, hm, h => by
    rw [List.pairwise_cons] at hl hm
    have hxy : x = y := by
      rcases List.mem_cons.1 ((h x).1 (.head _)) with e | e
      · exact e
      · rcases List.mem_cons.1 ((h y).2 (.head _)) with e' | e'
        · exact e'.symm
        · exact absurd (tr _ _ _ (hm.1 x e) (hl.1 y e')) (irr _)
    subst hxy
    rw [rise_uniq irr tr hl.2 hm.2 fun z => ?_]
    constructor
    · intro hz
      rcases List.mem_cons.1 ((h z).1 (.tail _ hz)) with e | e
      · subst e; exact absurd (hl.1 _ hz) (irr _)
      · exact e
    · intro hz
      rcases List.mem_cons.1 ((h z).2 (.tail _ hz)) with e | e
      · subst e; exact absurd (hm.1 _ hz) (irr _)
      · exact e
/-- what a map held, whichever way it was gone through, sorted -/
theorem counts_sorted {l : List Deed} {L' : List Cnt} (hp : L'.Perm (mpS l)) (hs : L'.Pairwise fun x y => ¬ cLt y x) : L' = countsS l := by
  have h := cr_all l
  have hn : NoDupK L' := (List.Perm.pairwise_iff (fun {x y} hh => by omega) hp).2 h.nd
  have hs' : L'.Pairwise cLt := (hs.and hn).imp fun {a b} hh => by
    obtain ⟨h1, h2⟩ := hh
    unfold cLt at *; omega
  exact rise_uniq (fun a => by unfold cLt; omega) (fun a b c h1 h2 => by unfold cLt at *; omega) hs' h.so fun x => by rw [hp.mem_iff, h.mem]
theorem mpAdd_bd {k e b : Int} (h0 : 0 ≤ b) : ∀ {M : List Cnt}, (∀ c ∈ M, 0 ≤ c.n ∧ c.n ≤ b) → ∀ c ∈ mpAdd k e M, 0 ≤ c.n ∧ c.n ≤ b + 1
  | [], _, c, hc => by
    have : c = ⟨k, e, 1⟩ := by simpa [mpAdd] using hc
    subst this
    exact ⟨by show (0 : Int) ≤ 1; decide, by show (1 : Int) ≤ b + 1; omega⟩
  | d :: l, h, c, hc => by
    have hd := h d (.head _)
    unfold mpAdd at hc
    split at hc
    · rcases List.mem_cons.1 hc with rfl | hc
      · exact ⟨by show 0 ≤ d.n + 1; omega, by show d.n + 1 ≤ b + 1; omega⟩
      · have := h c (.tail _ hc); omega
    · rcases List.mem_cons.1 hc with rfl | hc
      · omega
      · exact mpAdd_bd h0 (fun c hc => h c (.tail _ hc)) c hc
theorem cGet_bd {k e b : Int} (h0 : 0 ≤ b) : ∀ {M : List Cnt}, (∀ c ∈ M, 0 ≤ c.n ∧ c.n ≤ b) → 0 ≤ cGet k e M ∧ cGet k e M ≤ b
  | [], _ => ⟨by show (0 : Int) ≤ 0; decide, h0⟩
  | d :: l, h => by
    unfold cGet
    split
    · exact h d (.head _)
    · exact cGet_bd h0 fun c hc => h c (.tail _ hc)
theorem mp_bd : ∀ (l : List Deed) {M : List Cnt} {b : Int}, 0 ≤ b → (∀ c ∈ M, 0 ≤ c.n ∧ c.n ≤ b) → ∀ c ∈ l.foldl mStep M, 0 ≤ c.n ∧ c.n ≤ b + l.length
  | [], M, b, h0, h, c, hc => by have := h c hc; simp; exact this
  | d :: l, M, b, h0, h, c, hc => by
    have := mp_bd l (M := mStep M d) (b := b + 1) (by omega) (fun c hc => by
      unfold mStep at hc
      split at hc
      · exact mpAdd_bd h0 h c hc
      · have := h c hc; omega) c hc
    simp only [List.length_cons]; omega
theorem mpS_bd (l : List Deed) : ∀ c ∈ mpS l, 0 ≤ c.n ∧ c.n ≤ l.length := fun c hc => by
  have := mp_bd l (M := []) (b := 0) (Int.le_refl 0) (fun c hc => by cases hc) c hc
  simpa using this
theorem mpAdd_len {k e : Int} : ∀ {M : List Cnt}, (mpAdd k e M).length ≤ M.length + 1
  | [] => by simp [mpAdd]
  | d :: l => by
    unfold mpAdd
    have := mpAdd_len (k := k) (e := e) (M := l)
    split <;> simp <;> omega
theorem mp_len : ∀ (l : List Deed) (M : List Cnt), (l.foldl mStep M).length ≤ M.length + l.length
  | [], M => by simp
  | d :: l, M => by
    have h1 := mp_len l (mStep M d)
    have h2 : (mStep M d).length ≤ M.length + 1 := by
      unfold mStep
      split
      · exact mpAdd_len
      · omega
    simp only [List.foldl_cons, List.length_cons]; omega
theorem mpS_len (l : List Deed) : (mpS l).length ≤ l.length := by have := mp_len l []; simpa [mpS] using this
theorem cntAdd_len {k e : Int} : ∀ {M : List Cnt}, (cntAdd k e M).length ≤ M.length + 1
  | [] => by simp [cntAdd]
  | d :: l => by
    unfold cntAdd
    have := cntAdd_len (k := k) (e := e) (M := l)
    split
    · simp; omega
    · split <;> simp
theorem cs_len : ∀ (l : List Deed) (M : List Cnt), (l.foldl cStep M).length ≤ M.length + l.length
  | [], M => by simp
  | d :: l, M => by
    have h1 := cs_len l (cStep M d)
    have h2 : (cStep M d).length ≤ M.length + 1 := by
      unfold cStep
      split
      · exact cntAdd_len
      · omega
    simp only [List.foldl_cons, List.length_cons]; omega
theorem countsS_len (l : List Deed) : (countsS l).length ≤ l.length := by have := cs_len l []; simpa [countsS] using this
def sumN : List Cnt → Int
  | [] => 0
  | c :: l => c.n + sumN l
theorem cntAdd_sum {k e : Int} : ∀ (C : List Cnt), sumN (cntAdd k e C) = sumN C + 1
  | [] => rfl
  | c :: l => by
    have := cntAdd_sum (k := k) (e := e) l
    unfold cntAdd
    split
    · simp only [sumN]; omega
    · split <;> simp only [sumN] <;> omega
theorem cntAdd_pos {k e : Int} : ∀ {C : List Cnt}, (∀ c ∈ C, 1 ≤ c.n) → ∀ c ∈ cntAdd k e C, 1 ≤ c.n
  | [], _, c, hc => by
    have : c = ⟨k, e, 1⟩ := by simpa [cntAdd] using hc
    subst this; exact Int.le_refl 1
  | d :: l, h, c, hc => by
    have hd := h d (.head _)
    unfold cntAdd at hc
    split at hc
    · rcases List.mem_cons.1 hc with rfl | hc
      · exact hd
      · exact cntAdd_pos (fun c hc => h c (.tail _ hc)) c hc
    · split at hc
      · rcases List.mem_cons.1 hc with rfl | hc
        · show 1 ≤ d.n + 1; omega
        · exact h c (.tail _ hc)
      · rcases List.mem_cons.1 hc with rfl | hc
        · exact Int.le_refl 1
        · exact h c hc
def dn (l : List Deed) : List Deed := l.filter (·.done)
theorem cs_sum : ∀ (l : List Deed) (C : List Cnt), sumN (l.foldl cStep C) = sumN C + (dn l).length
  | [], C => by simp [dn]
  | d :: l, C => by
    have e : dn (d :: l) = if d.done then d :: dn l else dn l := by unfold dn; rw [List.filter_cons]
    rw [List.foldl_cons, cs_sum l, e]
    unfold cStep
    cases h : d.done with
    | true => rw [if_pos rfl, if_pos rfl, cntAdd_sum, List.length_cons]; omega
    | false => rw [if_neg (by simp), if_neg (by simp)]
theorem countsS_sum (l : List Deed) : sumN (countsS l) = (dn l).length := by rw [countsS, cs_sum]; simp [sumN]
theorem cs_pos : ∀ (l : List Deed) {C : List Cnt}, (∀ c ∈ C, 1 ≤ c.n) → ∀ c ∈ l.foldl cStep C, 1 ≤ c.n
  | [], _, h => h
  | d :: l, C, h => cs_pos l (C := cStep C d) fun c hc => by
    unfold cStep at hc
    split at hc
    · exact cntAdd_pos h c hc
    · exact h c hc
theorem countsS_pos (l : List Deed) : ∀ c ∈ countsS l, 1 ≤ c.n := cs_pos l fun c hc => by cases hc

/-! ### how long -/
structure DeedI (d : Deed) : Prop where
  b0 : -9223372036854775808 ≤ d.bgn
  b1 : d.bgn ≤ 9223372036854775807
  f0 : -9223372036854775808 ≤ d.fin
  f1 : d.fin ≤ 9223372036854775807
  k0 : -9223372036854775808 ≤ d.kind
  k1 : d.kind ≤ 9223372036854775807
  e0 : -9223372036854775808 ≤ d.err
  e1 : d.err ≤ 9223372036854775807
def tookS (d : Deed) : Int := if d.fin < d.bgn ∨ 9007199254740992 < d.fin - d.bgn then 0 else d.fin - d.bgn
theorem tookS_nn (d : Deed) : 0 ≤ tookS d ∧ tookS d ≤ 9007199254740992 := by unfold tookS; split <;> omega
def tookL (l : List Deed) : List Int := (dn l).map tookS
def tookI (l : List Deed) : List Int := sortII (tookL l)
theorem tookI_perm (l : List Deed) : (tookI l).Perm (tookL l) := List.mergeSort_perm _ _
theorem tookI_len (l : List Deed) : (tookI l).length = (dn l).length := by rw [(tookI_perm l).length_eq, tookL, List.length_map]
theorem tookI_nn {l : List Deed} {n : Int} (h : n ∈ tookI l) : 0 ≤ n ∧ n ≤ 9007199254740992 := by
  rw [(tookI_perm l).mem_iff] at h
  obtain ⟨d, _, rfl⟩ := List.mem_map.1 h
  exact tookS_nn d
theorem tookI_so (l : List Deed) : (tookI l).Pairwise (· ≤ ·) := by
  have := List.pairwise_mergeSort (le := fun x y : Int => decide (x ≤ y)) (fun a b c h1 h2 => by simp at *; omega) (fun a b => by simp; omega) (tookL l)
  exact this.imp fun h => by simpa using h
def atN (l : List Int) (h : Int) : Nat := ((max 0 (min h 100)) * ((l.length : Int) - 1) / 100).toNat
def atS (l : List Int) (h : Int) : Int := l.getD (atN l h) 0
theorem atN_lt {l : List Int} (hl : l ≠ []) (h : Int) : atN l h < l.length := by
  have h0 : 0 < l.length := List.length_pos_iff.2 hl
  unfold atN
  have h1 : max 0 (min h 100) ≤ 100 := by omega
  have h2 : 0 ≤ max 0 (min h 100) := by omega
  generalize max 0 (min h 100) = m at *
  have h3 : m * ((l.length : Int) - 1) ≤ 100 * ((l.length : Int) - 1) := Int.mul_le_mul_of_nonneg_right h1 (by omega)
  omega
theorem atS_mono (l : List Deed) : 0 ≤ atS (tookI l) 50 ∧ atS (tookI l) 50 ≤ atS (tookI l) 100 := by
  by_cases hl : tookI l = []
  · rw [hl]; exact ⟨Int.le_refl 0, Int.le_refl 0⟩
  · have h1 := atN_lt hl 50
    have h2 := atN_lt hl 100
    have h3 : atN (tookI l) 50 ≤ atN (tookI l) 100 := by
      have e1 : max 0 (min (50 : Int) 100) = 50 := rfl
      have e2 : max 0 (min (100 : Int) 100) = 100 := rfl
      have h0 : 0 < (tookI l).length := List.length_pos_iff.2 hl
      unfold atN
      rw [e1, e2]; omega
    unfold atS
    have g1 : (tookI l).getD (atN (tookI l) 50) 0 = (tookI l)[atN (tookI l) 50] := by simp [List.getD, h1]
    have g2 : (tookI l).getD (atN (tookI l) 100) 0 = (tookI l)[atN (tookI l) 100] := by simp [List.getD, h2]
    rw [g1, g2]
    refine ⟨(tookI_nn (List.getElem_mem h1)).1, ?_⟩
    rcases Nat.lt_or_eq_of_le h3 with h | h
    · exact List.pairwise_iff_getElem.1 (tookI_so l) _ _ h1 h2 h
    · simp only [h]; exact Int.le_refl _

/-! ### lanes -/
def own (l : List Deed) (s : ByteArray) : List Deed := l.filter fun d => decide (d.lane = s)
def ofS (l : List Deed) (s : ByteArray) : Sm := ⟨(own l s).length, (tookI (own l s)).length, countsS (own l s), atS (tookI (own l s)) 50, atS (tookI (own l s)) 100⟩
theorem own_own (l : List Deed) (s : ByteArray) : own (own l s) s = own l s := by simp [own]
theorem dn_own (l : List Deed) (s : ByteArray) : dn (own l s) = own (dn l) s := by
  unfold dn own
  rw [List.filter_filter, List.filter_filter]
  congr 1
  funext d
  rw [Bool.and_comm]
def lanesS (l : List Deed) : List ByteArray := compactL (sortSS (l.map (·.lane)))
theorem sLt_def (a b : ByteArray) : sLt a b = decide (Lb a < Lb b) := by rw [sLt, bytesLess_eq, Lib.toList_data, Lib.toList_data]; rfl
theorem sLt_irrefl (a : ByteArray) : sLt a a = false := by rw [sLt_def]; simp [List.lt_irrefl]
theorem sLt_trans {a b c : ByteArray} (h : sLt a b = true) (k : sLt b c = true) : sLt a c = true := by
  rw [sLt_def, decide_eq_true_eq] at *
  exact List.lt_trans h k
theorem sLt_ne {a b : ByteArray} (h : sLt a b = true) : a ≠ b := fun hh => by rw [hh, sLt_irrefl] at h; cases h
theorem sLt_tri {a b : ByteArray} (h : sLt a b = false) (hn : a ≠ b) : sLt b a = true := by
  rw [sLt_def, decide_eq_false_iff_not] at h
  rw [sLt_def, decide_eq_true_eq]
  by_cases k : Lb b < Lb a
  · exact k
  · exact absurd (Lb_inj (List.le_antisymm (List.not_lt.1 k) (List.not_lt.1 h))) hn
theorem compactUpTo_spec {α : Type} [Inhabited α] [DecidableEq α] {r : α → α → Prop} (tr : ∀ a b c, r a b → r b c → r a c) (zs : List α) (hs : zs.Pairwise fun x y => x = y ∨ r x y) :
    ∀ m, m ≤ zs.length → (Lib.compactUpTo zs.toArray m).Pairwise r ∧ (∀ x, x ∈ Lib.compactUpTo zs.toArray m ↔ x ∈ zs.take m) ∧ (∀ x ∈ Lib.compactUpTo zs.toArray m, ∀ y, zs[m - 1]? = some y → x = y ∨ r x y)
  | 0, _ => by simp [Lib.compactUpTo]
  | m + 1, hm => by
    obtain ⟨h1, h2, h3⟩ := compactUpTo_spec tr zs hs m (by omega)
    have hz : zs[m]? = some zs[m] := List.getElem?_eq_getElem (by omega)
    have hz' : zs.toArray[m]! = zs[m] := by simp [show m < zs.length by omega]
    rw [Lib.compactUpTo_succ, hz']
    have ht : zs.take (m + 1) = zs.take m ++ [zs[m]] := by rw [List.take_succ_eq_append_getElem (by omega)]
    have e1 : ∀ y, zs[m + 1 - 1]? = some y → y = zs[m] := fun y hy => by rw [Nat.add_sub_cancel, hz] at hy; exact (Option.some.inj hy).symm
    by_cases hk : m = 0
    · subst hk
      have : Lib.keeps zs.toArray 0 = true := by simp [Lib.keeps]
      rw [this, ht]
      have hn : Lib.compactUpTo zs.toArray 0 = [] := by simp [Lib.compactUpTo]
      rw [hn]
      refine ⟨by simp, by simp, fun x hx y hy => ?_⟩
      have := e1 y hy
      simp at hx; subst hx; left; exact this.symm
    · have hp : zs[m - 1]? = some zs[m - 1] := List.getElem?_eq_getElem (by omega)
      have hp' : zs.toArray[m - 1]! = zs[m - 1] := by simp [show m - 1 < zs.length by omega]
      have hord := List.pairwise_iff_getElem.1 hs (m - 1) m (by omega) (by omega) (by omega)
      by_cases he : zs[m] = zs[m - 1]
      · have : Lib.keeps zs.toArray m = false := by simp only [Lib.keeps, hz', hp']; simp [hk, he]
        rw [this]
        simp only [Bool.false_eq_true, if_false, List.append_nil]
        refine ⟨h1, fun x => ?_, fun x hx y hy => ?_⟩
        · rw [h2 x, ht, List.mem_append, List.mem_singleton]
          constructor
          · exact .inl
          · rintro (h | h)
            · exact h
            · rw [h, he]; exact List.mem_take_iff_getElem.2 ⟨m - 1, by omega, rfl⟩
        · rw [e1 y hy, he]; exact h3 x hx _ hp
      · have : Lib.keeps zs.toArray m = true := by simp only [Lib.keeps, hz', hp']; simp [he]
        rw [this]
        simp only [if_true]
        have hlt : r zs[m - 1] zs[m] := by
          rcases hord with h | h
          · exact absurd h.symm he
          · exact h
        have hall : ∀ x ∈ Lib.compactUpTo zs.toArray m, r x zs[m] := fun x hx => by
          rcases h3 x hx _ hp with h | h
          · rw [h]; exact hlt
          · exact tr _ _ _ h hlt
        refine ⟨?_, fun x => ?_, fun x hx y hy => ?_⟩
        · rw [List.pairwise_append]
          exact ⟨h1, List.pairwise_singleton _ _, fun x hx y hy => by rw [List.mem_singleton.1 hy]; exact hall x hx⟩
        · rw [List.mem_append, h2 x, ht, List.mem_append]
        · rw [e1 y hy]
          rcases List.mem_append.1 hx with h | h
          · exact .inr (hall x h)
          · exact .inl (List.mem_singleton.1 h)
theorem compact_spec {α : Type} [Inhabited α] [DecidableEq α] {r : α → α → Prop} (tr : ∀ a b c, r a b → r b c → r a c) (zs : List α) (hs : zs.Pairwise fun x y => x = y ∨ r x y) :
    (Lib.compact zs).Pairwise r ∧ ∀ x, x ∈ Lib.compact zs ↔ x ∈ zs := by
  obtain ⟨h1, h2, _⟩ := compactUpTo_spec tr zs hs zs.length (Nat.le_refl _)
  rw [List.take_length] at h2
  exact ⟨h1, h2⟩

def RiseN (l : List ByteArray) : Prop := l.Pairwise fun x y => sLt x y = true
theorem onceN_rise (ss : List ByteArray) : RiseN (compactL (sortSS ss)) ∧ ∀ s, s ∈ compactL (sortSS ss) ↔ s ∈ ss := by
  have e : (sortSS ss).map Lb = (ss.map Lb).mergeSort fun x y => decide (x ≤ y) := by
    unfold sortSS
    rw [List.map_map]
    conv => rhs; rw [← List.map_id ((ss.map Lb).mergeSort fun x y => decide (x ≤ y))]
    apply List.map_congr_left; intro x _; exact Lb_B x
  have hs : ((sortSS ss).map Lb).Pairwise fun x y : List UInt8 => x = y ∨ x < y := by
    rw [e]
    have := List.pairwise_mergeSort (le := fun x y : List UInt8 => decide (x ≤ y)) (fun a b c h1 h2 => by simp only [decide_eq_true_eq] at *; exact List.le_trans h1 h2) (fun a b => by simp only [Bool.or_eq_true, decide_eq_true_eq]; exact List.le_total a b) (ss.map Lb)
    exact this.imp fun {a b} h => by
      simp only [decide_eq_true_eq] at h
      by_cases hlt : a < b
      · exact .inr hlt
      · exact .inl (List.le_antisymm h (List.not_lt.1 hlt))
  obtain ⟨h1, h2⟩ := compact_spec (r := fun x y : List UInt8 => x < y) (fun a b c h1 h2 => List.lt_trans h1 h2) _ hs
  refine ⟨?_, fun s => ?_⟩
  · unfold RiseN compactL
    rw [List.pairwise_map]
    exact h1.imp fun h => by rw [sLt_def, Lb_B, Lb_B]; exact decide_eq_true h
  · unfold compactL
    rw [List.mem_map]
    constructor
    · rintro ⟨l, hl, rfl⟩
      have := (h2 l).1 hl
      rw [e, List.mem_mergeSort] at this
      obtain ⟨t, ht, rfl⟩ := List.mem_map.1 this
      rw [B_Lb]; exact ht
    · intro hs'
      exact ⟨Lb s, (h2 _).2 (by rw [e, List.mem_mergeSort]; exact List.mem_map.2 ⟨s, hs', rfl⟩), B_Lb s⟩
theorem riseN_unique {l m : List ByteArray} (hl : RiseN l) (hm : RiseN m) (h : ∀ x, x ∈ l ↔ x ∈ m) : l = m :=
  rise_uniq (r := fun x y : ByteArray => sLt x y = true) (fun a => by rw [sLt_irrefl]; simp) (fun a b c h1 h2 => sLt_trans h1 h2) hl hm h
theorem lanesS_rise (l : List Deed) : RiseN (lanesS l) := (onceN_rise _).1
theorem lanesS_mem {l : List Deed} {s : ByteArray} : s ∈ lanesS l ↔ s ∈ l.map (·.lane) := (onceN_rise _).2 s
theorem lanesS_nd (l : List Deed) : (lanesS l).Pairwise (· ≠ ·) := (lanesS_rise l).imp fun h => sLt_ne h
theorem compact_le {α : Type} [Inhabited α] [DecidableEq α] (zs : List α) : (Lib.compact zs).length ≤ zs.length := by
  unfold Lib.compact Lib.compactUpTo
  rw [List.length_map]
  refine Nat.le_trans (List.length_filter_le _ _) (by simp)
theorem lanesS_len (l : List Deed) : (lanesS l).length ≤ l.length := by
  unfold lanesS compactL
  rw [List.length_map]
  refine Nat.le_trans (compact_le _) ?_
  simp [sortSS]

/-! ### all lanes together -/
def sumL (f : ByteArray → Int) : List ByteArray → Int
  | [] => 0
  | s :: l => f s + sumL f l
theorem sumL_append (f : ByteArray → Int) : ∀ (l m : List ByteArray), sumL f (l ++ m) = sumL f l + sumL f m
  | [], m => by simp [sumL]
  | s :: l, m => by
    have := sumL_append f l m
    simp only [List.cons_append, sumL]; omega
theorem sumL_zero {f : ByteArray → Int} : ∀ {l : List ByteArray}, (∀ s ∈ l, f s = 0) → sumL f l = 0
  | [], _ => rfl
  | s :: l, h => by
    have h1 := h s (.head _)
    have h2 := sumL_zero fun s hs => h s (.tail _ hs)
    simp only [sumL]; omega
theorem sumL_congr {f g : ByteArray → Int} : ∀ {l : List ByteArray}, (∀ s ∈ l, f s = g s) → sumL f l = sumL g l
  | [], _ => rfl
  | s :: l, h => by
    have h1 := h s (.head _)
    have h2 := sumL_congr fun s hs => h s (.tail _ hs)
    simp only [sumL]; omega
theorem sumL_add (f g : ByteArray → Int) : ∀ (l : List ByteArray), sumL (fun s => f s + g s) l = sumL f l + sumL g l
  | [] => rfl
  | s :: l => by
    have := sumL_add f g l
    simp only [sumL]; omega
theorem sumL_one {a : ByteArray} : ∀ {l : List ByteArray}, l.Pairwise (· ≠ ·) → a ∈ l → sumL (fun s => if a = s then 1 else 0) l = 1
  | [], _, h => by cases h
  | s :: l, hn, h => by
    rw [List.pairwise_cons] at hn
    simp only [sumL]
    by_cases e : a = s
    · subst e
      rw [if_pos rfl, sumL_zero fun t ht => if_neg (hn.1 t ht)]; rfl
    · rw [if_neg e, sumL_one hn.2 (by rcases List.mem_cons.1 h with h | h; exact absurd h e; exact h)]; rfl
theorem part_len {ls : List ByteArray} (hn : ls.Pairwise (· ≠ ·)) : ∀ (l : List Deed), (∀ d ∈ l, d.lane ∈ ls) → sumL (fun s => ((own l s).length : Int)) ls = l.length
  | [], _ => sumL_zero fun s _ => rfl
  | d :: l, h => by
    have ih := part_len hn l fun d hd => h d (.tail _ hd)
    have e : ∀ s, ((own (d :: l) s).length : Int) = (if d.lane = s then 1 else 0) + ((own l s).length : Int) := fun s => by
      unfold own
      by_cases hs : d.lane = s
      · rw [List.filter_cons_of_pos (by simp [hs]), if_pos hs, List.length_cons]; omega
      · rw [List.filter_cons_of_neg (by simp [hs]), if_neg hs]; omega
    rw [sumL_congr fun s _ => e s, sumL_add, sumL_one hn (h d (.head _)), ih, List.length_cons]; omega
theorem all_calls (l : List Deed) : sumL (fun s => (ofS l s).calls) (lanesS l) = l.length :=
  part_len (lanesS_nd l) l fun d hd => lanesS_mem.2 (List.mem_map.2 ⟨d, hd, rfl⟩)
theorem all_done (l : List Deed) : sumL (fun s => (ofS l s).done) (lanesS l) = (dn l).length := by
  rw [← part_len (lanesS_nd l) (dn l) fun d hd => lanesS_mem.2 (List.mem_map.2 ⟨d, (List.mem_filter.1 hd).1, rfl⟩)]
  exact sumL_congr fun s _ => by
    show ((tookI (own l s)).length : Int) = _
    rw [tookI_len, dn_own]
theorem of_done_le (l : List Deed) (s : ByteArray) : (ofS l s).done ≤ (ofS l s).calls := by
  show ((tookI (own l s)).length : Int) ≤ ((own l s).length : Int)
  rw [tookI_len]
  have := List.length_filter_le (fun d : Deed => d.done) (own l s)
  unfold dn; omega

/-! ### lines -/
def lineB (words : List UInt8) (ns : List Int) : List UInt8 := words ++ (ns.flatMap fun n => 32 :: Lib.itoa n) ++ [10]
def cntB (c : Cnt) : List UInt8 := lineB [99, 111, 117, 110, 116] [c.kind, c.err, c.n]
def laneB (l : List Deed) (s : ByteArray) : List UInt8 := lineB ([108, 97, 110, 101, 32] ++ Lb s) [(ofS l s).calls, (ofS l s).done, (ofS l s).middle, (ofS l s).longest] ++ (ofS l s).counts.flatMap cntB
def linesS (l : List Deed) : List UInt8 := (lanesS l).flatMap (laneB l)
end Go.Proofs.YtbjloippgpilcaaGreatDoor
end

section
set_option linter.all false
set_option maxRecDepth 100000
namespace Go.Proofs
open Go.Shelf
def itoaL0_ren : Go.Shelf.Ren := ⟨(fun n => match n with | 129 => 58 | 171 => 78 | 243 => 92 | 246 => 96 | 283 => 97 | 284 => 98 | 285 => 99 | 286 => 100 | 317 => 101 | 318 => 102 | 319 => 103 | 320 => 104 | 337 => 105 | 338 => 106 | _ => 0), (fun n => match n with | 0 => 0 | 2 => 2 | 3 => 3 | 4 => 4 | 5 => 5 | 9 => 9 | 20 => 20 | 37 => 72 | 46 => 85 | 51 => 105 | 53 => 107 | 171 => 139 | 173 => 141 | 212 => 145 | 213 => 146 | 232 => 147 | 233 => 148 | _ => 0), (fun n => match n with | 17 => 0 | 18 => 1 | 19 => 2 | _ => 0)⟩
theorem itoaL0 : Lays.n171 Tryz.prog itoaL0_ren := {
  mixed := Tryz.mixed
  f129 := by kernel_rfl
  f171 := by kernel_rfl
  f243 := by kernel_rfl
  f246 := by kernel_rfl
  f283 := by kernel_rfl
  f284 := by kernel_rfl
  f285 := by kernel_rfl
  f286 := by kernel_rfl
  f317 := by kernel_rfl
  f318 := by kernel_rfl
  f319 := by kernel_rfl
  f320 := by kernel_rfl
  f337 := by kernel_rfl
  f338 := by kernel_rfl
  t0 := Tryz.underlying0
  a0 := Tryz.isAgg0
  z0 := Tryz.sizeOf0
  v0 := Tryz.zeroValue0
  t2 := Tryz.underlying2
  a2 := Tryz.isAgg2
  z2 := Tryz.sizeOf2
  v2 := Tryz.zeroValue2
  t3 := Tryz.underlying3
  a3 := Tryz.isAgg3
  z3 := Tryz.sizeOf3
  v3 := Tryz.zeroValue3
  t4 := Tryz.underlying4
  a4 := Tryz.isAgg4
  z4 := Tryz.sizeOf4
  v4 := Tryz.zeroValue4
  t5 := Tryz.underlying5
  a5 := Tryz.isAgg5
  z5 := Tryz.sizeOf5
  v5 := Tryz.zeroValue5
  t9 := Tryz.underlying9
  a9 := Tryz.isAgg9
  z9 := Tryz.sizeOf9
  v9 := Tryz.zeroValue9
  t20 := Tryz.underlying20
  a20 := Tryz.isAgg20
  z20 := Tryz.sizeOf20
  v20 := Tryz.zeroValue20
  t37 := Tryz.underlying72
  a37 := Tryz.isAgg72
  z37 := Tryz.sizeOf72
  v37 := Tryz.zeroValue72
  t46 := Tryz.underlying85
  a46 := Tryz.isAgg85
  z46 := Tryz.sizeOf85
  v46 := Tryz.zeroValue85
  t51 := Tryz.underlying105
  a51 := Tryz.isAgg105
  z51 := Tryz.sizeOf105
  v51 := Tryz.zeroValue105
  t53 := Tryz.underlying107
  a53 := Tryz.isAgg107
  z53 := Tryz.sizeOf107
  v53 := Tryz.zeroValue107
  t171 := Tryz.underlying139
  a171 := Tryz.isAgg139
  z171 := Tryz.sizeOf139
  v171 := Tryz.zeroValue139
  t173 := Tryz.underlying141
  a173 := Tryz.isAgg141
  z173 := Tryz.sizeOf141
  v173 := Tryz.zeroValue141
  t212 := Tryz.underlying145
  a212 := Tryz.isAgg145
  z212 := Tryz.sizeOf145
  v212 := Tryz.zeroValue145
  t213 := Tryz.underlying146
  a213 := Tryz.isAgg146
  z213 := Tryz.sizeOf146
  t232 := Tryz.underlying147
  a232 := Tryz.isAgg147
  z232 := Tryz.sizeOf147
  v232 := Tryz.zeroValue147
  t233 := Tryz.underlying148
  a233 := Tryz.isAgg148
  z233 := Tryz.sizeOf148
  v233 := Tryz.zeroValue148
  g17 := by kernel_rfl
  g18 := by kernel_rfl
  g19 := by kernel_rfl }

theorem itoaL : LaysM.n171 Tryz.prog itoaL0_ren := { itoaL0 with
  i0 := by kernel_rfl
  i2 := by kernel_rfl
  i3 := by kernel_rfl
  i4 := by kernel_rfl
  i5 := by kernel_rfl
  i9 := by kernel_rfl
  i20 := by kernel_rfl
  i37 := by kernel_rfl
  i46 := by kernel_rfl
  i51 := by kernel_rfl
  i53 := by kernel_rfl
  i171 := by kernel_rfl
  i173 := by kernel_rfl
  i212 := by kernel_rfl
  i232 := by kernel_rfl
  i233 := by kernel_rfl
  m17 := by kernel_rfl
  m18 := by kernel_rfl
  m19 := by kernel_rfl }
end Go.Proofs
namespace Go.Ab
open Go.RowKit (Below)
/-- new blocks behind the heap, and draws -/
theorem Inv.grown {κ : K} {σ : Store} (h : Inv κ σ) (k : Nat) (os : Array Obj) : κ.Le { κ with w := Sort.grow (κ.w.drewN k) os } ∧ Inv { κ with w := Sort.grow (κ.w.drewN k) os } σ := by
  have hh : ∀ b, b < κ.w.heap.size → (Sort.grow (κ.w.drewN k) os).heap[b]? = κ.w.heap[b]? := fun b hb => by
    unfold Sort.grow World.drewN
    exact Array.getElem?_append_left hb
  have hsz : κ.w.heap.size ≤ (Sort.grow (κ.w.drewN k) os).heap.size := by
    unfold Sort.grow World.drewN
    simp
  have hle : κ.Le { κ with w := Sort.grow (κ.w.drewN k) os } := by
    refine ⟨rfl, ⟨rfl, rfl, rfl, hsz, fun b hb => hh b (by have := h.base; omega)⟩, fun b s e => ?_, fun _ _ e => e, fun _ _ e => e, fun _ => Nat.le_refl _, fun b off v _ e => ?_, by unfold Sort.grow World.drewN; simp⟩
    · have hlt : b < κ.w.heap.size := by
        unfold World.shape? at e
        cases hq : κ.w.heap[b]? with
        | none => rw [hq] at e; cases e
        | some q => exact (Array.getElem?_eq_some_iff.1 hq).1
      unfold World.shape? at e ⊢
      dsimp only
      rw [hh b hlt]; exact e
    · have hlt : b < κ.w.heap.size := by
        unfold World.cell? at e
        cases hq : κ.w.heap[b]? with
        | none => rw [hq] at e; cases e
        | some q => exact (Array.getElem?_eq_some_iff.1 hq).1
      simp only [World.cell?] at e ⊢
      rw [hh b hlt]; exact e
  exact ⟨hle, h.quiet hle rfl rfl (fun _ _ => rfl) (fun b hb => h.frI b (Nat.le_trans hsz hb)) hh⟩
end Go.Ab
namespace Go.Proofs.YtbjloippgpilcaaGreatDoor
open Go.Ab Go.Shelf
theorem htab {κ : K} {σ : Store} (h : Inv κ σ) : Lib.TabIs Tryz.prog κ.w "internal/strconv.uint64pow10" .u64 Lib.pow10Tab := by
  obtain ⟨_, e, fr, hh⟩ := h.glob _ (List.mem_cons_self ..)
  have hg : Tryz.prog.globalNamed "internal/strconv.uint64pow10" = some 0 := by kernel_rfl
  unfold Lib.TabIs World.var?
  rw [hg]
  simp only [Option.bind_some, hh]
  rfl
theorem itoa_c {n : Int} {σ : Store} (h0 : -9223372036854775808 ≤ n) (h1 : n ≤ 9223372036854775807) : ACalls Tryz.prog 78 [vInt n] σ fun v σ' => v = vStr (B (Lib.itoa n)) ∧ σ = σ' := by
  intro κ vs hI hn hv
  have e0 := (hv 0 (by simp)).litInv
  have hvs : vs = #[.int .i64 n] := by
    apply Array.ext (by simpa using hn)
    intro i i1 i2
    simp at i2
    subst i2
    have eg : vs.getD 0 undef = vs[0] := by simp [i1]
    rw [← eg, e0]; rfl
  rw [hvs]
  refine (Any.strconv_Itoa itoaL n h0 h1 κ.w (htab hI)).mono fun ex w' ⟨he, k, os, hw⟩ => ⟨_, he, ?_⟩
  obtain ⟨g1, g2⟩ := hI.grown k os
  rw [hw]
  exact ⟨{ κ with w := Sort.grow (κ.w.drewN k) os }, vStr (B (Lib.itoa n)), σ, rfl, g1, g2, .lit _, rfl, rfl⟩
theorem dec_c {n : Int} {σ : Store} (h0 : -9223372036854775808 ≤ n) (h1 : n ≤ 9223372036854775807) : ACalls Tryz.prog 48 [vInt n] σ fun v σ' => v = vStr (B (Lib.itoa n)) ∧ σ = σ' := by
  refine ACalls_of Tryz.func48 rfl Tryz.ntmps48 (congrArg Array.toList Tryz.results48) (by simp only [List.length_cons, List.length_nil]; decide) ?_; simp only [envOf_cons, envOf_nil, Nat.reduceAdd]
  refine awp_seq ?_
  refine awp_region (by kernel_rfl) ?_
  (refine aL_S rfl rfl v_ ?_)
  refine aL_nil ?_
  refine awp_seq ?_
  refine awp_region (by kernel_rfl) ?_
  (refine aL_S rfl rfl v_ ?_)
  refine aL_X rfl rfl (AOp_use rfl rfl (.inr ⟨rfl, rfl, rfl⟩) g_ va_ (itoa_c h0 h1) ?_); rintro _ _ ⟨rfl, rfl⟩
  (refine aL_S rfl rfl v_ ?_)
  refine aL_nil ?_
  refine awp_ret ?_
  refine aEnd_ret (σ' := σ) v_ sub_ ?_
  exact ⟨rfl, rfl⟩
end Go.Proofs.YtbjloippgpilcaaGreatDoor
end

section
set_option linter.all false
set_option maxRecDepth 100000
namespace Go.Proofs.YtbjloippgpilcaaGreatDoor
open Go.Ab

/-- a slice that is nil, or one's own -/
def NilOwn (σ : Store) (e : TypeId) (sz : Nat) (l : List AVal) (a : AVal) (old : Option Nat) : Prop := (∃ k, a = .own k sz l ∧ σ.tok k = some (e, sz) ∧ old = some k) ∨ (a = .lit (.slice none 0 0) ∧ l = [] ∧ old = none)
theorem NilOwn.wk {σ : Store} {e : TypeId} {sz : Nat} {l : List AVal} {a : AVal} {old : Option Nat} (h : NilOwn σ e sz l a old) : Wk a (.sl sz l false) := by
  rcases h with ⟨k, rfl, _⟩ | ⟨rfl, rfl, _⟩
  · exact .own1 _ _ _
  · exact .nil _ _
theorem NilOwn.of {σ : Store} {e : TypeId} {sz : Nat} {l : List AVal} {a b : AVal} {old : Option Nat} (h : NilOwn σ e sz l a old) (hb : b = a) : NilOwn σ e sz l b old := hb ▸ h

/-- what a writer's first cell says: it is new, or it has been written to -/
def WA (o : Nat) (a : AVal) : Prop := a = .ref o 0 ∨ a = .nilp o 76 2
/-- a writer that holds bytes -/
def WR (σ : Store) (o : Nat) (l : List UInt8) : Prop := ∃ a b old, σ.heap o = some (.cells [a, b]) ∧ WA o a ∧ NilOwn σ 5 1 (bytesL (B l)) b old
def Hld (σ : Store) (o t : Nat) : Prop := ∃ a sz l, σ.heap o = some (.cells [a, .own t sz l])
/-- nothing but a writer turns -/
def WF (o : Nat) (σ σ' : Store) : Prop := (∀ i x, i ≠ o → σ.heap i = some x → σ'.heap i = some x) ∧ ∀ t n, σ.tok t = some n → ¬ Hld σ o t → σ'.tok t = some n ∧ ¬ Hld σ' o t
theorem WF.refl {o : Nat} {σ : Store} : WF o σ σ := ⟨fun _ _ _ h => h, fun _ _ h k => ⟨h, k⟩⟩
theorem WF.trans {o : Nat} {a b c : Store} (h : WF o a b) (k : WF o b c) : WF o a c :=
  ⟨fun i x hi hx => k.1 i x hi (h.1 i x hi hx), fun t n ht hn => k.2 t n (h.2 t n ht hn).1 (h.2 t n ht hn).2⟩
theorem WF.sub {o : Nat} {σ σ' : Store} {x : AObj} (ho : σ.heap o = none) (h : WF o (σ.set o x) σ') (hx : ∀ a t sz l, x ≠ .cells [a, .own t sz l]) : σ.Sub σ' :=
  ⟨fun i y hy => h.1 i y (fun hh => by rw [hh, ho] at hy; cases hy) (by rw [Store.set_ne _ _ (fun hh => by rw [hh, ho] at hy; cases hy)]; exact hy), fun t n ht => (h.2 t n ht fun ⟨a, sz, l, hh⟩ => by
    rw [Store.set_get] at hh
    exact hx _ _ _ _ (Option.some.inj hh)).1⟩
/-- a byte more, and the rest as it was -/
theorem WF.put {σ : Store} {o k : Nat} {a b c : AVal} {l l' : List AVal} {old : Option Nat} {p : TypeId × Nat} {e : TypeId} {sz sz' : Nat} (ho : σ.heap o = some (.cells [a, b])) (hb : NilOwn σ e sz l b old) (hk : σ.tok k = none) :
    WF o σ ((σ.newTok old k p).set o (.cells [c, .own k sz' l'])) := by
  refine ⟨fun i x hi hx => by rw [Store.set_ne _ _ hi]; exact hx, fun t n ht hn => ?_⟩
  have hkt : t ≠ k := fun hh => by rw [hh, hk] at ht; cases ht
  refine ⟨?_, ?_⟩
  · rw [Store.set_tok]
    simp only [Store.newTok]
    rw [if_neg hkt, if_neg (fun hh => ?_)]
    · exact ht
    · rcases hb with ⟨j, rfl, _, hj⟩ | ⟨rfl, _, hj⟩
      · rw [hj] at hh
        obtain rfl := Option.some.inj hh
        exact hn ⟨_, _, _, ho⟩
      · rw [hj] at hh; cases hh
  · rintro ⟨a', sz2, l2, hh⟩
    rw [Store.set_get] at hh
    simp only [Option.some.injEq, AObj.cells.injEq, List.cons.injEq, AVal.own.injEq, and_true] at hh
    exact hkt hh.2.1.symm

theorem refs_neq {σ : Store} {c : Bool} {o : Nat} : abin Tryz.prog σ .neq 71 c (.ref o 0) (.ref o 0) = some (.lit (.bool false)) := by
  simp only [abin, aeq, go_sem]
theorem copyCheck_1 {o : Nat} {b : AVal} {σ : Store} (ho : σ.heap o = some (.cells [.ref o 0, b])) : ACalls Tryz.prog 77 [.ref o 0] σ fun v σ' => v = .tup [] ∧ σ' = σ.set o (.cells [.ref o 0, b]) := by
  refine ACalls_of Tryz.func77 rfl Tryz.ntmps77 (congrArg Array.toList Tryz.results77) (by simp only [List.length_cons, List.length_nil]; decide) ?_; simp only [envOf_cons, envOf_nil, Nat.reduceAdd]
  refine awp_seq ?_
  have R := And.intro ho @refs_neq
  refine awp_region (by kernel_rfl) ?_
  iterate 5 (refine aL_S rfl rfl v_ ?_)
  refine aL_nil ?_
  refine awp_cond v_ (fun hc0 => ?_) (fun hc0 => ?_)
  · replace hc0 := nm_ hc0
    cases hc0
  · replace hc0 := nm_ hc0
    refine awp_seq ?_
    have R := And.intro ho @refs_neq
    refine awp_region (by kernel_rfl) ?_
    iterate 6 (refine aL_S rfl rfl v_ ?_)
    refine aL_nil ?_
    refine awp_cond v_ (fun hc2 => ?_) (fun hc2 => ?_)
    · replace hc2 := nm_ hc2
      cases hc2
    · replace hc2 := nm_ hc2
      refine awp_skip ?_
      refine aEnd_nor v_ (Store.Wk.refl _) ?_
      exact ⟨rfl, (Store.set_self ho).symm⟩
theorem copyCheck_2 {o : Nat} {b : AVal} {σ : Store} (ho : σ.heap o = some (.cells [.nilp o 76 2, b])) : ACalls Tryz.prog 77 [.ref o 0] σ fun v σ' => v = .tup [] ∧ σ' = σ.set o (.cells [.ref o 0, b]) := by
  refine ACalls_of Tryz.func77 rfl Tryz.ntmps77 (congrArg Array.toList Tryz.results77) (by simp only [List.length_cons, List.length_nil]; decide) ?_; simp only [envOf_cons, envOf_nil, Nat.reduceAdd]
  refine awp_seq ?_
  have R := ho
  refine awp_region (by kernel_rfl) ?_
  iterate 5 (refine aL_S rfl rfl v_ ?_)
  refine aL_nil ?_
  refine awp_cond v_ (fun hc0 => ?_) (fun hc0 => ?_)
  · replace hc0 := nm_ hc0
    have R := ho
    refine awp_region (by kernel_rfl) ?_
    iterate 2 (refine aL_S rfl rfl v_ ?_)
    refine aL_X rfl rfl (AOp_toUnsafe (t := 74) rfl Tryz.underlying71 Tryz.underlying131 (by kernel_rfl) g_ ho (by decide) ?_)
    refine aL_X rfl rfl (AOp_extern rfl (e := Extern.AbiNoEscape.same) (by kernel_rfl) g_ (fun κ ev _ h => same_rv (h _ (by simp))) ?_)
    refine aL_X rfl rfl (AOp_fromUnsafe (u := 74) rfl Tryz.underlying131 Tryz.underlying71 (by kernel_rfl) g_ ho (by kernel_rfl) ?_)
    iterate 2 (refine aL_S rfl rfl v_ ?_)
    refine aL_store rfl rfl rfl v_ v_ h_ g_ rfl g_ c_ (by rfl) le_ v_ ?_
    refine aL_nil ?_
    refine aEnd_nor v_ (Store.Wk.refl _) ?_
    exact ⟨rfl, rfl⟩
  · replace hc0 := nm_ hc0
    cases hc0
theorem copyCheck_c {o : Nat} {a b : AVal} {σ : Store} (ho : σ.heap o = some (.cells [a, b])) (ha : WA o a) : ACalls Tryz.prog 77 [.ref o 0] σ fun v σ' => v = .tup [] ∧ σ' = σ.set o (.cells [.ref o 0, b]) := by
  rcases ha with rfl | rfl
  · exact copyCheck_1 ho
  · exact copyCheck_2 ho

/-- a text is appended -/
theorem writeString_c {o : Nat} {a b : AVal} {σ : Store} {s : ByteArray} {l : List UInt8} {old : Option Nat} (ho : σ.heap o = some (.cells [a, b])) (ha : WA o a) (hb : NilOwn σ 5 1 (bytesL (B l)) b old) (hl : l.length ≤ 1099511627776) (hs : s.size ≤ 1099511627776) :
    ACalls Tryz.prog 47 [.ref o 0, vStr s] σ fun v σ' => ∃ k, v = .tup [vInt s.size, .lit .nilIface] ∧ σ.tok k = none ∧ σ' = (σ.newTok old k (5, 1)).set o (.cells [.ref o 0, .own k 1 (bytesL (B (l ++ Lb s)))]) := by
  have e1 : bytesL (B l) ++ bytesL s = bytesL (B (l ++ Lb s)) := by rw [bytesL_append, ← B_append, B_Lb]
  have hbl : (bytesL (B l)).length = l.length := by rw [bytesL_length, B_size]
  have hsl := bytesL_length s
  refine ACalls_of Tryz.func47 rfl Tryz.ntmps47 (congrArg Array.toList Tryz.results47) (by simp only [List.length_cons, List.length_nil]; decide) ?_; simp only [envOf_cons, envOf_nil, Nat.reduceAdd]
  refine awp_seq ?_
  refine awp_region (by kernel_rfl) ?_
  iterate 2 (refine aL_S rfl rfl v_ ?_)
  refine aL_nil ?_
  refine awp_seq ?_
  refine awp_region (by kernel_rfl) ?_
  (refine aL_S rfl rfl v_ ?_)
  refine aL_X rfl rfl (AOp_use rfl rfl (.inr ⟨rfl, rfl, rfl⟩) g_ va_ (copyCheck_c ho ha) ?_); rintro _ _ ⟨rfl, rfl⟩
  refine aL_nil ?_
  refine awp_seq ?_
  refine awp_region (by kernel_rfl) ?_
  iterate 6 (refine aL_S rfl rfl v_ ?_)
  refine aL_X rfl rfl (AOp_appendS rfl g_ g_ (NilOwn.of hb va_) (ASrc_str g_) (by simp; omega) fun k14 hk14 => ?_); rw [e1]
  iterate 2 (refine aL_S rfl rfl v_ ?_)
  refine aL_store rfl rfl rfl v_ v_ h_ g_ rfl g_ c_ (by rfl) le_ v_ ?_
  refine aL_nil ?_
  refine awp_seq ?_
  refine awp_region (by kernel_rfl) ?_
  iterate 4 (refine aL_S rfl rfl v_ ?_)
  refine aL_nil ?_
  refine awp_ret ?_
  refine aEnd_ret v_ (Store.Wk.refl _) ?_
  exact ⟨k14, rfl, hk14, by rw [Store.newTok_set, Store.set_set]⟩
theorem string_1 {o k : Nat} {s : ByteArray} {σ : Store} {a : AVal} (ho : σ.heap o = some (.cells [a, .own k 1 (bytesL s)])) (hk : σ.tok k = some (5, 1)) (hs : s.size ≤ 1099511627776) : ACalls Tryz.prog 38 [.ref o 0] σ fun v σ' => v = vStr s ∧ σ' = σ.delTok k := by
  have hsl := bytesL_length s
  refine ACalls_of Tryz.func38 rfl Tryz.ntmps38 (congrArg Array.toList Tryz.results38) (by simp only [List.length_cons, List.length_nil]; decide) ?_; simp only [envOf_cons, envOf_nil, Nat.reduceAdd]
  refine awp_seq ?_
  have R := And.intro ho hsl
  refine awp_region (by kernel_rfl) ?_
  (refine aL_S rfl rfl v_ ?_)
  refine aL_nil ?_
  refine awp_seq ?_
  have R := And.intro ho hsl
  refine awp_draw (.op 0 0 (.op 1 0 (.op 2 0 (.op 3 0 (.op 5 0 (.op 6 0 (.op 7 0 (.op 8 0 (.op 9 0 (.op 4 1 (.op 10 2 (.op 11 0 .nil)))))))))))) Tryz.mixed (by kernel_rfl) ?_
  iterate 9 (refine dR_S o_ (by rfl) (by rfl) v_ ?_)
  refine dR_X o_ (by rfl) (by rfl) (AOp_sliceData (by rfl) g_ (.inl ⟨va_, hk⟩) ⟨sub_, ?_⟩)
  refine dR_T o_ (by rfl) (by rfl) (AOp_unsafeString (by rfl) g_ (by kernel_rfl) va_ va_ (.inr hk) (by omega) ?_)
  (refine dR_S o_ (by rfl) (by rfl) v_ ?_)
  refine dR_nil ?_
  refine awp_ret ?_
  refine aEnd_ret v_ (Store.Wk.refl _) ?_
  exact ⟨rfl, rfl⟩
theorem string_2 {o : Nat} {σ : Store} {a : AVal} (ho : σ.heap o = some (.cells [a, .lit (.slice none 0 0)])) : ACalls Tryz.prog 38 [.ref o 0] σ fun v σ' => v = vStr (B []) ∧ σ = σ' := by
  refine ACalls_of Tryz.func38 rfl Tryz.ntmps38 (congrArg Array.toList Tryz.results38) (by simp only [List.length_cons, List.length_nil]; decide) ?_; simp only [envOf_cons, envOf_nil, Nat.reduceAdd]
  refine awp_seq ?_
  have R := ho
  refine awp_region (by kernel_rfl) ?_
  (refine aL_S rfl rfl v_ ?_)
  refine aL_nil ?_
  refine awp_seq ?_
  have R := ho
  refine awp_draw (.op 0 0 (.op 1 0 (.op 2 0 (.op 3 0 (.op 5 0 (.op 6 0 (.op 7 0 (.op 8 0 (.op 9 0 (.op 4 1 (.op 10 2 (.op 11 0 .nil)))))))))))) Tryz.mixed (by kernel_rfl) ?_
  iterate 9 (refine dR_S o_ (by rfl) (by rfl) v_ ?_)
  refine dR_X o_ (by rfl) (by rfl) (AOp_sliceData (k := 0) (l := []) (e0 := 0) (by rfl) g_ (.inr ⟨va_, rfl⟩) ⟨sub_, ?_⟩)
  refine dR_T o_ (by rfl) (by rfl) (AOp_unsafeString0 (by rfl) va_ va_ ?_)
  (refine dR_S o_ (by rfl) (by rfl) v_ ?_)
  refine dR_nil ?_
  refine awp_ret ?_
  refine aEnd_ret (σ' := σ) v_ sub_ ?_
  exact ⟨rfl, rfl⟩


theorem wS_c {o : Nat} {s : ByteArray} {l : List UInt8} {σ : Store} (ho : WR σ o l) (hl : l.length ≤ 1099511627776) (hs : s.size ≤ 1099511627776) :
    ACalls Tryz.prog 47 [.ref o 0, vStr s] σ fun v σ' => v = .tup [vInt s.size, .lit .nilIface] ∧ WR σ' o (l ++ Lb s) ∧ WF o σ σ' := by
  obtain ⟨a, b, old, h1, h2, h3⟩ := ho
  refine (writeString_c h1 h2 h3 hl hs).mono fun v σ' ⟨k, hv, hk, hs'⟩ => ⟨hv, ?_, ?_⟩
  · rw [hs']
    exact ⟨_, _, some k, Store.set_get .., .inl rfl, .inl ⟨k, rfl, by rw [Store.set_tok]; exact Store.newTok_get .., rfl⟩⟩
  · rw [hs']
    exact WF.put h1 h3 hk
theorem itoa_sz {n : Int} (h : -9223372036854775808 ≤ n ∧ n ≤ 9223372036854775807) : (B (Lib.itoa n)).size ≤ 21 := by rw [B_size]; exact Lib.itoa_length_le n h.1 h.2
def numB (ns : List Int) : List UInt8 := ns.flatMap fun n => 32 :: Lib.itoa n
theorem numB_le : ∀ {ns : List Int}, (∀ n ∈ ns, -9223372036854775808 ≤ n ∧ n ≤ 9223372036854775807) → (numB ns).length ≤ 22 * ns.length
  | [], _ => by simp [numB]
  | n :: ns, h => by
    have h1 := numB_le fun m hm => h m (.tail _ hm)
    have h2 := Lib.itoa_length_le n (h n (.head _)).1 (h n (.head _)).2
    simp only [numB, List.flatMap_cons, List.length_append, List.length_cons] at *
    omega
theorem sp_add {n : Int} (h : (Lib.itoa n).length ≤ 21) : astr .add ⟨#[32]⟩ (B (Lib.itoa n)) = some (.string (B (32 :: Lib.itoa n))) := by
  rw [astr_add' ⟨#[32]⟩ (B (Lib.itoa n)) (by rw [B_size, show (ByteArray.mk #[32]).size = 1 from rfl]; omega), show (ByteArray.mk #[32]) = B [32] from rfl, B_append]
  rfl
theorem line_c {o : Nat} {w : ByteArray} {ns : List Int} {t : Bool} {l : List UInt8} {σ : Store} (ho : WR σ o l) (hl : l.length ≤ 1000000000) (hw : w.size ≤ 1000000000) (hn : ns.length ≤ 1000) (hr : ∀ n ∈ ns, -9223372036854775808 ≤ n ∧ n ≤ 9223372036854775807) :
    ACalls Tryz.prog 37 [.ref o 0, vStr w, .sl 1 (ns.map vInt) t] σ fun v σ' => v = .tup [] ∧ WR σ' o (l ++ lineB (Lb w) ns) ∧ WF o σ σ' := by
  have hwl := Lb_length w
  refine ACalls_of Tryz.func37 rfl Tryz.ntmps37 (congrArg Array.toList Tryz.results37) (by simp only [List.length_cons, List.length_nil]; decide) ?_; simp only [envOf_cons, envOf_nil, Nat.reduceAdd]
  refine awp_seq ?_
  refine awp_region (by kernel_rfl) ?_
  iterate 4 (refine aL_S rfl rfl v_ ?_)
  refine aL_X rfl rfl (AOp_use rfl rfl (.inr ⟨rfl, rfl, rfl⟩) g_ va_ (wS_c ho (by omega) (by omega)) ?_); rintro _ τ0 ⟨rfl, a1, a2⟩
  refine aL_nil ?_
  refine awp_seq ?_
  refine awp_seq ?_
  refine awp_region (by kernel_rfl) ?_
  iterate 3 (refine aL_S rfl rfl v_ ?_)
  refine aL_nil ?_
  refine awp_block ?_
  refine awp_loop_env (ι := Store × Nat) (fun ⟨τ, k⟩ => ns.length - k) (fun ⟨τ, k⟩ => k ≤ ns.length ∧ WR τ o (l ++ Lb w ++ numB (ns.take k)) ∧ WF o σ τ) (fun ⟨τ, k⟩ => [(0, .ref o 0), (13, .sl 1 (ns.map vInt) t), (14, vInt ns.length), (15, vInt k)]) (fun ⟨τ, k⟩ => τ) (τ0, 0) ?_ ?_ ?_ ?_
  · exact ⟨Nat.zero_le _, by simpa [numB] using a1, a2⟩
  · exact cv_
  · exact Store.Wk.refl _
  rintro ⟨τ, k⟩ ⟨hk, h1, h2⟩
  simp only [envL_cons, envL_nil]
  refine awp_seq ?_
  refine awp_region (by kernel_rfl) ?_
  (refine aL_S rfl rfl v_ ?_)
  refine aL_nil ?_
  refine awp_seq ?_
  refine awp_cond v_ (fun hc2 => ?_) (fun hc2 => ?_)
  · replace hc2 := nm_ hc2
    refine awp_skip ?_
    refine awp_seq ?_
    refine awp_block ?_
    refine awp_seq ?_
    obtain ⟨x, hx⟩ := get_some (l := ns) (k := k) (by omega)
    have hxr := hr x (List.mem_of_getElem? hx)
    have hnb := numB_le (ns := ns.take k) fun n hn => hr n (List.mem_of_mem_take hn)
    rw [List.length_take] at hnb
    have hxl := Lib.itoa_length_le x hxr.1 hxr.2
    have hadd := sp_add hxl
    have R := hx
    refine awp_region (by kernel_rfl) ?_
    iterate 3 (refine aL_S rfl rfl v_ ?_)
    refine aL_nil ?_
    have R := hadd
    refine awp_draw (.op 0 0 (.op 1 0 (.op 2 0 (.op 3 0 (.op 4 1 (.op 5 0 (.op 6 2 .nil))))))) Tryz.mixed (by kernel_rfl) ?_
    iterate 4 (refine dR_S o_ (by rfl) (by rfl) v_ ?_)
    refine dR_X o_ (by rfl) (by rfl) (AOp_use (by rfl) (by rfl) (.inr ⟨by rfl, by rfl, by rfl⟩) g_ va_ (dec_c hxr.1 hxr.2) ?_); rintro _ _ ⟨rfl, rfl⟩; refine ⟨sub_, ?_⟩
    (refine dR_S o_ (by rfl) (by rfl) v_ ?_)
    refine dR_T o_ (by rfl) (by rfl) (AOp_use (by rfl) (by rfl) (.inr ⟨by rfl, by rfl, by rfl⟩) g_ va_ (wS_c (s := B (32 :: Lib.itoa x)) h1 (by simp only [List.length_append]; omega) (by rw [B_size, List.length_cons]; omega)) ?_); rintro _ τ1 ⟨rfl, c1, c2⟩
    refine dR_nil ?_
    refine awp_region (by kernel_rfl) ?_
    iterate 2 (refine aL_S rfl rfl v_ ?_)
    refine aL_nil ?_
    refine aNext (ι := Store × Nat) (i := ⟨τ, k⟩) (τ1, k + 1) ?_ ?_ ?_ ?_
    · show ns.length - (k + 1) < ns.length - k; omega
    · exact ⟨by show k + 1 ≤ ns.length; omega, by rw [take_snoc hx]; simpa [numB, Lb_B, List.append_assoc] using c1, h2.trans c2⟩
    · exact cv_
    · exact Store.Wk.refl _
  · replace hc2 := nm_ hc2
    refine awp_exit ?_
    refine aThen_exit ?_
    refine aThen_exit ?_
    refine aBlock_hit ?_
    have hnb := numB_le hr
    refine awp_region (by kernel_rfl) ?_
    iterate 3 (refine aL_S rfl rfl v_ ?_)
    refine aL_X rfl rfl (AOp_use rfl rfl (.inr ⟨rfl, rfl, rfl⟩) g_ va_ (wS_c h1 (by simp only [List.length_append, List.length_take]; rw [List.take_of_length_le (by omega)]; omega) (by decide)) ?_); rintro _ τ3 ⟨rfl, e1, e2⟩
    refine aL_nil ?_
    refine aEnd_nor v_ (Store.Wk.refl _) ?_
    exact ⟨rfl, by rw [List.take_of_length_le (by omega)] at e1; simpa [lineB, numB, Lb, List.append_assoc] using e1, h2.trans e2⟩
end Go.Proofs.YtbjloippgpilcaaGreatDoor
end
