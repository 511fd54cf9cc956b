/-
  Messages held against one another; Few parts, as functions; Messages: few parts; held against one another; What is sent: leaves that another one has not, the items of places; the document's way of both; What was written is read again: plain; How much is read of few bytes: plain; BOOKS, plainly: rows with something in its place, records, what is behind a record; WHAT COMES IN, READ: a value of data (numbers, bools, strings, structs, arrays, slices of these, to any depth) that the row's reading met is described by an abstract value; a call's contract gives the row's; A ROW CLEARED: the builtin 'clear' of a slice that is written; THE LIBRARY's SORT OF STRUCTS by the kit's contract; what a comparison that only looks costs there; Values sorted by their dots; The reference's contexts joined, a dot added: the same as the program's; The reference's Join and Add; A STORE BY ITS FACTS: what was built is let go, what is known of it stays; What the reference writes as bytes. Own work (an AI agent).
-/
import Derived.Test.YtbcgkbdacijoiaaGreatGF
import Derived.Test.YtbcgkbdacijoiaaGreatGM
import Derived.Test.YtbcgkbdacijoiaaGreatGD
import Derived.ProofKit
import Derived.OpenShut
import Derived.ShutString
import Derived.ChangeOld
import Derived.Below
import Derived.Test.YtbcgkbdacijoiaaGreatGE
import Derived.Shelf.SlSortCmp.WholeK

section
set_option linter.all false
set_option maxRecDepth 100000
namespace Go.Proofs.YtbcgkbdacijoiaaGreat
open Go.Ab

instance : DecidableEq Leaf := fun a b => decidable_of_iff (a.place = b.place ∧ a.digest = b.digest) (by cases a; cases b; simp)
instance : DecidableEq Itm := fun a b => decidable_of_iff (a.place = b.place ∧ a.obj = b.obj) (by cases a; cases b; simp)
instance : DecidableEq Ent := fun a b => decidable_of_iff (a.key = b.key ∧ a.n = b.n ∧ a.who = b.who ∧ a.value = b.value) (by cases a; cases b; simp)
instance : DecidableEq Msg := fun a b => decidable_of_iff (a.kind = b.kind ∧ a.frm = b.frm ∧ a.to = b.to ∧ a.num = b.num ∧ a.err = b.err ∧ a.place = b.place ∧ a.obj = b.obj ∧ a.texts = b.texts ∧ a.leaves = b.leaves ∧ a.items = b.items ∧ a.ents = b.ents) (by cases a; cases b; simp)
end Go.Proofs.YtbcgkbdacijoiaaGreat
end

section
set_option linter.all false
set_option maxRecDepth 100000
namespace Go.Proofs.YtbcgkbdacijoiaaGreat
open Go.Ab

theorem FewC.sm {c : List Seen} (h : FewC c) : (∀ x ∈ c, SeenSm x) ∧ c.length ≤ 1000 := ⟨fun x hx => ⟨by have := (h.2 x hx).1; omega, by have := (h.2 x hx).2; omega⟩, by have := h.1; omega⟩
theorem FewO.sm {o : Obj'} (h : FewO o) : ObjSm o := ⟨h.1.sm.1, fun x hx => ⟨by have := (h.2.2 x hx).2; omega, by have := (h.2.2 x hx).1; omega⟩, h.1.sm.2, by have := h.2.1; omega⟩
def fewCb (c : List Seen) : Bool := decide (c.length ≤ 12) && c.all fun x => decide (x.node.size ≤ 100) && decide (x.more.length ≤ 40)
theorem fewCb_iff {c : List Seen} : fewCb c = true ↔ FewC c := by simp [fewCb, FewC]
def fewOb (o : Obj') : Bool := fewCb o.ctx && decide (o.sibs.length ≤ 12) && o.sibs.all fun x => decide (x.value.size ≤ 300) && decide (x.node.size ≤ 100)
theorem fewOb_iff {o : Obj'} : fewOb o = true ↔ FewO o := by simp [fewOb, FewO, fewCb_iff, and_assoc]
theorem few07_f {o : Obj'} {σ : Store} : ACalls Tryz.prog 28 [sObj o] σ fun v σ' => v = vB (fewOb o) ∧ σ = σ' :=
  few07_c.wkS fun v σ' ⟨⟨r, hv, hr⟩, hs⟩ => ⟨v, σ', .refl _, .refl _, by rw [hv, show r = fewOb o from by rw [Bool.eq_iff_iff, hr, fewOb_iff]], hs⟩
end Go.Proofs.YtbcgkbdacijoiaaGreat
end

section
set_option linter.all false
set_option maxRecDepth 100000
namespace Go.Proofs.YtbcgkbdacijoiaaGreat
open Go.Ab

def fewIt (l : List Itm) : Bool := decide (l.length ≤ 8) && l.all fun x => decide (x.place.size ≤ 100) && fewOb x.obj
/-- a row of at most n, each of which holds: what the loop says when it ends -/
theorem few_no {α : Type} {l : List α} {n k : Nat} {x : α} {p : α → Bool} (h : l[k]? = some x) (hp : p x = false) : (decide (l.length ≤ n) && l.all p) = false := by
  rw [show l.all p = false from List.all_eq_false.2 ⟨x, List.mem_of_getElem? h, by simp [hp]⟩, Bool.and_false]
theorem few_yes {α : Type} {l : List α} {n k : Nat} {p : α → Bool} (ha : (l.take k).all p = true) (hk : k ≤ l.length) (he : l.length ≤ k ∨ n ≤ k) : decide ((l.length : Int) ≤ n) = (decide (l.length ≤ n) && l.all p) := by
  by_cases h : l.length ≤ n
  · rw [decide_eq_true (by omega), decide_eq_true h]
    have : l.take k = l := List.take_of_length_le (by omega)
    rw [this] at ha; rw [ha]; rfl
  · rw [decide_eq_false (by omega), decide_eq_false h]; rfl
theorem all_next {α : Type} {l : List α} {k : Nat} {x : α} {p : α → Bool} (h : l[k]? = some x) (hp : p x = true) (ha : (l.take k).all p = true) : (l.take (k + 1)).all p = true := by
  rw [take_snoc h, List.all_append, ha]; simp [hp]
end Go.Proofs.YtbcgkbdacijoiaaGreat
end

section
set_option linter.all false
set_option maxRecDepth 100000
namespace Go.Ab
theorem AOp_wk {P : Program} {o : Oper} {α : Operand → AVal} {σ : Store} {a a' : AVal} {Kk : AVal → Store → Prop} (h : AOp P o α σ fun v τ => v = a ∧ τ = σ) (hw : Wk a a') (hk : Kk a' σ) : AOp P o α σ Kk :=
  fun κ ev hI hx => (h κ ev hI hx).mono fun v w ⟨κ', b, τ, h1, h2, h3, h4, hb, hτ⟩ => by
    subst hb; subst hτ
    exact ⟨κ', a', τ, h1, h2, h3, h4.wk hw, hk⟩
end Go.Ab
namespace Go.Proofs.YtbcgkbdacijoiaaGreat
open Go.Ab
end Go.Proofs.YtbcgkbdacijoiaaGreat
end

section
set_option linter.all false
set_option maxRecDepth 100000
namespace Go.Proofs.YtbcgkbdacijoiaaGreat
open Go.Ab

theorem rdTake_app (a r : List UInt8) {n : Nat} (h : n = a.length) : rdTake (a ++ r, true) n = (a, r, true) := by
  subst h
  simp [rdTake]
theorem rdNum_app (n : Int) (r : List UInt8) (h1 : -9223372036854775808 ≤ n) (h2 : n ≤ 9223372036854775807) : rdNum (beI 8 n ++ r, true) 8 = (n, r, true) := by
  rw [rdNum, rdTake_app _ _ (beI_length 8 n).symm, rdI_beI8 n h1 h2]
theorem rdByte_app (n : Int) (r : List UInt8) (h1 : 0 ≤ n) (h2 : n < 256) : rdNum (beI 1 n ++ r, true) 1 = (n, r, true) := by
  rw [rdNum, rdTake_app _ _ (beI_length 1 n).symm, rdI_beI 1 n (by decide) h1 (by simpa using h2)]
theorem rdCnt_app (k m : Nat) (r : List UInt8) (h : k ≤ m) (h2 : k < 4294967296) : rdCnt (beI 4 (k : Int) ++ r, true) m = (k, r, true) := by
  have e : natB (beI 4 (k : Int)) = k := by
    have := natB_beI 4 (k : Int)
    rw [show (256 : Int) ^ 4 = 4294967296 from by decide] at this
    omega
  rw [rdCnt, rdTake_app _ _ (beI_length 4 _).symm, e, if_neg (by omega)]
theorem rdText_app (s : ByteArray) (r : List UInt8) (h : s.size ≤ 1048576) : rdText (textB s ++ r, true) = (Lb s, r, true) := by
  rw [rdText, textB, List.append_assoc, rdCnt_app _ _ _ h (by omega)]
  exact rdTake_app _ _ (Lb_length s).symm
theorem rdMany_app {α : Type} {f : Rd → α × Rd} {w : α → List UInt8} (r : List UInt8) : ∀ (l : List α), (∀ x ∈ l, ∀ r, f (w x ++ r, true) = (x, r, true)) → rdMany f l.length (l.flatMap w ++ r, true) = (l, r, true)
  | [], _ => rfl
  | x :: l, h => by
    rw [List.length_cons, rdMany, List.flatMap_cons, List.append_assoc, h x (List.mem_cons_self ..)]
    have := rdMany_app r l fun y hy => h y (List.mem_cons_of_mem _ hy)
    simp [this]
theorem rdSev_app {α : Type} {f : Rd → α × Rd} {w : α → List UInt8} (r : List UInt8) (l : List α) (hl : l.length ≤ 65536) (h : ∀ x ∈ l, ∀ r, f (w x ++ r, true) = (x, r, true)) : rdSev f (listB w l ++ r, true) = (l, r, true) := by
  have := rdCnt_app l.length 65536 (l.flatMap w ++ r) hl (by omega)
  unfold rdSev listB
  rw [List.append_assoc, this]
  simp [rdMany_app r l h]
def I64 (n : Int) : Prop := -9223372036854775808 ≤ n ∧ n ≤ 9223372036854775807
structure SeenRt (x : Seen) : Prop where
  node : x.node.size ≤ 1048576
  base : I64 x.base
  len : x.more.length ≤ 65536
  more : ∀ n ∈ x.more, I64 n
structure SibRt (x : Sib) : Prop where
  node : x.node.size ≤ 1048576
  n : I64 x.n
  value : x.value.size ≤ 1048576
  time : I64 x.time
theorem rdSeen_app {x : Seen} (h : SeenRt x) (r : List UInt8) : rdSeen (seenB x ++ r, true) = (x, r, true) := by
  have e : seenB x ++ r = textB x.node ++ (beI 8 x.base ++ (listB (beI 8) x.more ++ r)) := by simp [seenB]
  have h3 := rdSev_app (f := rdI8) (w := beI 8) r x.more h.len fun n hn r => rdNum_app n r (h.more n hn).1 (h.more n hn).2
  unfold rdSeen
  rw [e, rdText_app _ _ h.node]
  dsimp only
  rw [rdNum_app _ _ h.base.1 h.base.2]
  dsimp only
  rw [h3, B_Lb]
theorem rdSib_app {x : Sib} (h : SibRt x) (r : List UInt8) : rdSib (sibB x ++ r, true) = (x, r, true) := by
  have e : sibB x ++ r = textB x.node ++ (beI 8 x.n ++ (textB x.value ++ (beI 1 (goneI x.gone) ++ (beI 8 x.time ++ r)))) := by simp [sibB]
  have hg : 0 ≤ goneI x.gone ∧ goneI x.gone < 256 := by unfold goneI; split <;> decide
  unfold rdSib
  rw [e, rdText_app _ _ h.node]
  dsimp only
  rw [rdNum_app _ _ h.n.1 h.n.2]
  dsimp only
  rw [rdText_app _ _ h.value]
  dsimp only
  rw [rdByte_app _ _ hg.1 hg.2]
  dsimp only
  rw [rdNum_app _ _ h.time.1 h.time.2, B_Lb, B_Lb]
  have : (!decide (goneI x.gone = 0)) = x.gone := by cases x.gone <;> rfl
  rw [this]
structure ObjRt (o : Obj') : Prop where
  ctx : ∀ x ∈ o.ctx, SeenRt x
  sibs : ∀ x ∈ o.sibs, SibRt x
  nc : o.ctx.length ≤ 65536
  ns : o.sibs.length ≤ 65536
theorem rdCtx_app {c : List Seen} (h : ∀ x ∈ c, SeenRt x) (hn : c.length ≤ 65536) (r : List UInt8) : rdCtx (ctxB c ++ r, true) = (c, r, true) := rdSev_app r c hn fun x hx r => rdSeen_app (h x hx) r
theorem rdObj_app {o : Obj'} (h : ObjRt o) (r : List UInt8) : rdObj (objB o ++ r, true) = (o, r, true) := by
  have e : objB o ++ r = ctxB o.ctx ++ (listB sibB o.sibs ++ r) := by simp [objB]
  unfold rdObj
  rw [e, rdCtx_app h.ctx h.nc]
  dsimp only
  rw [rdSev_app (f := rdSib) (w := sibB) r o.sibs h.ns fun x hx r => rdSib_app (h.sibs x hx) r]
  rfl
/-- an object that may be is read as it was -/
theorem objOk_rt {o : Obj'} (h : objOk o = true) (hn : o.ctx.length ≤ 65536) (hs : o.sibs.length ≤ 65536) : ObjRt o := by
  simp only [objOk, Bool.and_eq_true] at h
  have hc := ctxGo_all o.ctx _ _ h.1
  refine ⟨fun x hx => ?_, fun x hx => ?_, hn, hs⟩
  · obtain ⟨h1, h2⟩ := hc x hx
    simp only [seenOk, seenHd, Bool.and_eq_true, decide_eq_true_eq] at h1
    obtain ⟨⟨⟨⟨h4, h5⟩, h6⟩, _⟩, h7⟩ := h1
    have h8 := nameOk_size h4
    refine ⟨by omega, ⟨by omega, by omega⟩, by omega, fun n hn => ?_⟩
    have := riseOk_all _ _ h7 n hn
    exact ⟨by omega, by omega⟩
  · have key : ∀ (l : List Sib) (pv : Option Sib), sibsGo o.ctx pv l = true → ∀ x ∈ l, sibOk x = true := by
      intro l
      induction l with
      | nil => intro _ _ x hx; cases hx
      | cons y l ih =>
        intro pv hh x hx
        simp only [sibsGo, Bool.and_eq_true] at hh
        rcases List.mem_cons.1 hx with rfl | hx
        · exact hh.1.1.1
        · exact ih _ hh.2 x hx
    have h1 := key _ _ h.2 x hx
    simp only [sibOk, Bool.and_eq_true, decide_eq_true_eq] at h1
    obtain ⟨⟨⟨⟨h2, h3⟩, _⟩, h4⟩, h5⟩ := h1
    obtain ⟨⟨h6, h7⟩, h8⟩ := dotOk_iff.1 h2
    have h9 := nameOk_size h6
    exact ⟨by omega, ⟨by omega, by omega⟩, by omega, ⟨by omega, by omega⟩⟩
end Go.Proofs.YtbcgkbdacijoiaaGreat
end

section
set_option linter.all false
set_option maxRecDepth 100000
namespace Go.Proofs.YtbcgkbdacijoiaaGreat
open Go.Ab

/-- what a step takes: c bytes at least, where it does not fail -/
def Eats {α : Type} (c : Nat) (f : Rd → α × Rd) : Prop := ∀ x, (f x).2.1.length ≤ x.1.length ∧ ((f x).2.2 = true → x.2 = true ∧ (f x).2.1.length + c ≤ x.1.length)
theorem rdTake_eats (n : Nat) : Eats n fun x => rdTake x n := fun x => by
  simp only [rdTake]
  split
  · rename_i h
    exact ⟨by simp, fun _ => ⟨h.1, by simp; omega⟩⟩
  · simp
theorem rdTake_le2 (x : Rd) (n : Nat) : (rdTake x n).1.length ≤ x.1.length := by
  simp only [rdTake]
  split
  · simp; omega
  · simp
theorem rdNum_eats (n : Nat) : Eats n fun x => rdNum x n := fun x => rdTake_eats n x
theorem rdCnt_eats (m : Nat) : Eats 4 fun x => rdCnt x m := fun x => by
  have h := rdTake_eats 4 x
  simp only [rdCnt]
  split
  · exact ⟨h.1, fun hh => by cases hh⟩
  · exact h
theorem rdText_eats : Eats 4 rdText := fun x => by
  have h1 := rdCnt_eats 1048576 x
  have h2 := rdTake_eats (rdCnt x 1048576).1 (rdCnt x 1048576).2
  simp only at h1 h2
  unfold rdText
  refine ⟨by omega, fun hh => ?_⟩
  obtain ⟨h3, h4⟩ := h2.2 hh
  obtain ⟨h5, h6⟩ := h1.2 h3
  exact ⟨h5, by omega⟩
theorem rdText_len (x : Rd) : (rdText x).1.length ≤ x.1.length := by
  have h1 := rdCnt_eats 1048576 x
  have h2 := rdTake_le2 (rdCnt x 1048576).2 (rdCnt x 1048576).1
  simp only at h1
  unfold rdText
  omega
theorem rdMany_eats {α : Type} {f : Rd → α × Rd} {c : Nat} (hf : Eats c f) : ∀ n x, (rdMany f n x).2.1.length ≤ x.1.length ∧ ((rdMany f n x).2.2 = true → x.2 = true ∧ (rdMany f n x).2.1.length + c * (rdMany f n x).1.length ≤ x.1.length)
  | 0, x => ⟨Nat.le_refl _, fun h => ⟨h, by simp [rdMany]⟩⟩
  | n + 1, x => by
    have h1 := hf x
    have h2 := rdMany_eats hf n (f x).2
    rw [rdMany]
    cases hx : x.2 with
    | false => simp [hx]
    | true =>
      simp only [if_true, List.length_cons, Nat.mul_succ]
      refine ⟨by omega, fun hh => ⟨trivial, ?_⟩⟩
      obtain ⟨h3, h4⟩ := h2.2 hh
      obtain ⟨_, h6⟩ := h1.2 h3
      omega
theorem rdMany_all {α : Type} {f : Rd → α × Rd} {c N : Nat} {p : α → Prop} (hf : Eats c f) (hp : ∀ x, x.1.length ≤ N → p (f x).1) : ∀ n x, x.1.length ≤ N → ∀ a ∈ (rdMany f n x).1, p a
  | 0, x, _ => fun a ha => by cases ha
  | n + 1, x, hx => fun a ha => by
    rw [rdMany] at ha
    split at ha
    · rcases List.mem_cons.1 ha with rfl | ha
      · exact hp x hx
      · exact rdMany_all hf hp n (f x).2 (Nat.le_trans (hf x).1 hx) a ha
    · cases ha
theorem rdSev_eats {α : Type} {f : Rd → α × Rd} {c : Nat} (hf : Eats c f) : Eats 4 (rdSev f) := fun x => by
  have h1 := rdCnt_eats 65536 x
  have h2 := rdMany_eats hf (rdCnt x 65536).1 (rdCnt x 65536).2
  simp only at h1
  unfold rdSev
  dsimp only
  split
  · refine ⟨by omega, fun hh => ?_⟩
    obtain ⟨h3, h4⟩ := h2.2 hh
    obtain ⟨h5, h6⟩ := h1.2 h3
    exact ⟨h5, by omega⟩
  · rename_i hn
    exact ⟨by show (rdMany f _ _).2.1.length ≤ _; omega, fun hh => absurd hh hn⟩
theorem rdSev_len {α : Type} {f : Rd → α × Rd} {c : Nat} (hf : Eats c f) (x : Rd) : c * (rdSev f x).1.length ≤ x.1.length := by
  have h1 := rdCnt_eats 65536 x
  have h2 := rdMany_eats hf (rdCnt x 65536).1 (rdCnt x 65536).2
  simp only at h1
  unfold rdSev
  dsimp only
  split
  · rename_i hh
    obtain ⟨h3, h4⟩ := h2.2 hh
    omega
  · simp
theorem rdSev_all {α : Type} {f : Rd → α × Rd} {c N : Nat} {p : α → Prop} (hf : Eats c f) (hp : ∀ x, x.1.length ≤ N → p (f x).1) (x : Rd) (hx : x.1.length ≤ N) : ∀ a ∈ (rdSev f x).1, p a := fun a ha => by
  have h1 := rdCnt_eats 65536 x
  simp only at h1
  unfold rdSev at ha
  dsimp only at ha
  split at ha
  · exact rdMany_all hf hp _ _ (by omega) a ha
  · cases ha
theorem rdSeen_eats : Eats 4 rdSeen := fun x => by
  have h1 := rdText_eats x
  have h2 := rdNum_eats 8 (rdText x).2
  have h3 := rdSev_eats (f := rdI8) (rdNum_eats 8) (rdNum (rdText x).2 8).2
  simp only at h2
  unfold rdSeen
  dsimp only
  refine ⟨by omega, fun hh => ?_⟩
  obtain ⟨g1, g2⟩ := h3.2 hh
  obtain ⟨g3, g4⟩ := h2.2 g1
  obtain ⟨g5, g6⟩ := h1.2 g3
  exact ⟨g5, by omega⟩
theorem rdSib_eats : Eats 4 rdSib := fun x => by
  have h1 := rdText_eats x
  have h2 := rdNum_eats 8 (rdText x).2
  have h3 := rdText_eats (rdNum (rdText x).2 8).2
  have h4 := rdNum_eats 1 (rdText (rdNum (rdText x).2 8).2).2
  have h5 := rdNum_eats 8 (rdNum (rdText (rdNum (rdText x).2 8).2).2 1).2
  simp only at h2 h4 h5
  unfold rdSib
  dsimp only
  refine ⟨by omega, fun hh => ?_⟩
  obtain ⟨g1, g2⟩ := h5.2 hh
  obtain ⟨g3, g4⟩ := h4.2 g1
  obtain ⟨g5, g6⟩ := h3.2 g3
  obtain ⟨g7, g8⟩ := h2.2 g5
  obtain ⟨g9, g10⟩ := h1.2 g7
  exact ⟨g9, by omega⟩
theorem rdSeen_sm {x : Rd} (hx : x.1.length ≤ 100000) : SeenSm (rdSeen x).1 := by
  have h1 := rdText_len x
  have h2 := (rdText_eats x).1
  have h3 := (rdNum_eats 8 (rdText x).2).1
  have h4 := rdSev_len (f := rdI8) (rdNum_eats 8) (rdNum (rdText x).2 8).2
  simp only at h3
  refine ⟨?_, ?_⟩
  · show (B (rdText x).1).size ≤ _
    rw [B_size]; omega
  · show (rdSev rdI8 (rdNum (rdText x).2 8).2).1.length ≤ _
    omega
theorem rdSib_sm {x : Rd} (hx : x.1.length ≤ 100000) : SibSm (rdSib x).1 := by
  have h1 := rdText_len x
  have h2 := (rdText_eats x).1
  have h3 := (rdNum_eats 8 (rdText x).2).1
  have h4 := rdText_len (rdNum (rdText x).2 8).2
  simp only at h3
  refine ⟨?_, ?_⟩
  · show (B (rdText x).1).size ≤ _
    rw [B_size]; omega
  · show (B (rdText (rdNum (rdText x).2 8).2).1).size ≤ _
    rw [B_size]; omega
theorem rdCtx_sm {x : Rd} (hx : x.1.length ≤ 4000) : (∀ y ∈ (rdCtx x).1, SeenSm y) ∧ (rdCtx x).1.length ≤ 1000 := by
  have h := rdSev_len rdSeen_eats x
  exact ⟨rdSev_all (N := 4000) rdSeen_eats (fun y hy => rdSeen_sm (by omega)) x hx, by unfold rdCtx; omega⟩
theorem rdObj_sm {x : Rd} (hx : x.1.length ≤ 4000) : ObjSm (rdObj x).1 := by
  have h1 := rdCtx_sm hx
  have h2 := (rdSev_eats rdSeen_eats x).1
  have h3 : (rdCtx x).2.1.length ≤ 4000 := by unfold rdCtx; omega
  have h4 := rdSev_len rdSib_eats (rdCtx x).2
  have h5 := rdSev_all (N := 4000) rdSib_eats (fun y hy => rdSib_sm (by omega)) (rdCtx x).2 h3
  unfold rdObj
  dsimp only
  split
  · exact ⟨h1.1, h5, h1.2, by simp only; omega⟩
  · exact ⟨(fun y hy => by cases hy), (fun y hy => by cases hy), by simp, by simp⟩
end Go.Proofs.YtbcgkbdacijoiaaGreat
end

section
set_option linter.all false
set_option maxRecDepth 100000
namespace Go.Ab
structure Mnt where
  place : ByteArray
  n : Int
structure Bk where
  items : List Itm
  mints : List Mnt
@[reducible] def sMnt (x : Mnt) : AVal := .agg [.lit (.string x.place), vInt x.n]
@[reducible] def sBk (b : Bk) : AVal := .agg [.sl 3 (b.items.map sItem) false, .sl 2 (b.mints.map sMnt) false]
end Go.Ab
namespace Go.Proofs.YtbcgkbdacijoiaaGreat
open Go.Ab
instance : DecidableEq Mnt := fun a b => decidable_of_iff (a.place = b.place ∧ a.n = b.n) (by cases a; cases b; simp)
/-! ### bytes -/
theorem natB_inj : ∀ {l m : List UInt8}, l.length = m.length → natB l = natB m → l = m
  | [], [], _, _ => rfl
  | [], b :: m, h, _ => by simp at h
  | a :: l, [], h, _ => by simp at h
  | a :: l, b :: m, h, e => by
    have hl : l.length = m.length := by simpa using h
    rw [natB_cons, natB_cons, hl] at e
    have h1 := natB_lt l; have h2 := natB_lt m
    rw [hl] at h1
    have hp : 0 < 256 ^ m.length := Nat.pow_pos (by decide)
    have ea : a.toNat = b.toNat := by
      have q1 : (a.toNat * 256 ^ m.length + natB l) / 256 ^ m.length = a.toNat := by
        rw [Nat.mul_comm, Nat.mul_add_div hp, Nat.div_eq_of_lt h1, Nat.add_zero]
      have q2 : (b.toNat * 256 ^ m.length + natB m) / 256 ^ m.length = b.toNat := by
        rw [Nat.mul_comm, Nat.mul_add_div hp, Nat.div_eq_of_lt h2, Nat.add_zero]
      rw [← q1, ← q2, e]
    rw [ea] at e
    have el : natB l = natB m := by omega
    rw [natB_inj hl el, show a = b from UInt8.toNat_inj.1 ea]
theorem beI_natB (l : List UInt8) : beI l.length (natB l : Int) = l := by
  refine natB_inj (beI_length _ _) ?_
  have h := natB_beI l.length (natB l : Int)
  have hl : ((natB l : Nat) : Int) < 256 ^ l.length := by
    have := natB_lt l
    exact_mod_cast this
  rw [Int.emod_eq_of_lt (Int.natCast_nonneg _) hl] at h
  exact_mod_cast h
theorem rdTake_split {x : Rd} {n : Nat} (h : (rdTake x n).2.2 = true) : x.2 = true ∧ x.1 = (rdTake x n).1 ++ (rdTake x n).2.1 ∧ (rdTake x n).1.length = n := by
  unfold rdTake at h ⊢
  by_cases hc : x.2 = true ∧ n ≤ x.1.length
  · rw [if_pos hc]
    exact ⟨hc.1, (List.take_append_drop n x.1).symm, by simp; omega⟩
  · rw [if_neg hc] at h; cases h
theorem rdTake_bad {x : Rd} {n : Nat} (h : (rdTake x n).2.2 = false) : (rdTake x n).1 = [] := by
  unfold rdTake at h ⊢
  by_cases hc : x.2 = true ∧ n ≤ x.1.length
  · rw [if_pos hc] at h; cases h
  · rw [if_neg hc]
theorem rdText_split {x : Rd} (h : (rdText x).2.2 = true) : x.2 = true ∧ x.1 = textB (B (rdText x).1) ++ (rdText x).2.1 := by
  unfold rdText at h ⊢
  obtain ⟨h1, h2, h3⟩ := rdTake_split h
  unfold rdCnt at h1 h2 h3 ⊢
  by_cases hc : 1048576 < natB (rdTake x 4).1
  · rw [if_pos hc] at h1; cases h1
  · rw [if_neg hc] at h1 h2 h3 ⊢
    obtain ⟨g1, g2, g3⟩ := rdTake_split h1
    refine ⟨g1, ?_⟩
    have e : textB (B (rdTake (rdTake x 4).2 (natB (rdTake x 4).1)).1) = (rdTake x 4).1 ++ (rdTake (rdTake x 4).2 (natB (rdTake x 4).1)).1 := by
      rw [textB, B_size, Lb_B, h3]
      congr 1
      have := beI_natB (rdTake x 4).1
      rw [g3] at this; exact this
    rw [e, List.append_assoc, ← h2, ← g2]
theorem rdText_bad {x : Rd} (h : (rdText x).2.2 = false) : (rdText x).1 = [] := rdTake_bad h
theorem placeOk_nil : placeOk (B []) = false := by decide +kernel
/-! ### rows with something in its place -/
def RiseK {α : Type} (key : α → ByteArray) (l : List α) : Prop := l.Pairwise fun a b => sLt (key a) (key b) = true
def insK {α : Type} (key : α → ByteArray) (x : α) : List α → List α
  | [] => [x]
  | y :: l => if sLt (key y) (key x) = true then y :: insK key x l else if key y = key x then x :: l else x :: y :: l
theorem insK_mem {α : Type} {key : α → ByteArray} {x z : α} : ∀ {l : List α}, z ∈ insK key x l → z = x ∨ z ∈ l
  | [], h => .inl (by simpa [insK] using h)
  | y :: l, h => by
    rw [insK] at h
    split at h
    · rcases List.mem_cons.1 h with rfl | h
      · exact .inr (.head _)
      · rcases insK_mem h with h | h
        · exact .inl h
        · exact .inr (.tail _ h)
    · split at h
      · rcases List.mem_cons.1 h with rfl | h
        · exact .inl rfl
        · exact .inr (.tail _ h)
      · rcases List.mem_cons.1 h with rfl | h
        · exact .inl rfl
        · exact .inr h
theorem insK_rise {α : Type} {key : α → ByteArray} {x : α} : ∀ {l : List α}, RiseK key l → RiseK key (insK key x l)
  | [], _ => List.pairwise_singleton ..
  | y :: l, h => by
    obtain ⟨h1, h2⟩ := List.pairwise_cons.1 h
    rw [insK]
    split
    · rename_i hlt
      refine List.pairwise_cons.2 ⟨fun z hz => ?_, insK_rise h2⟩
      rcases insK_mem hz with rfl | hz
      · exact hlt
      · exact h1 z hz
    · split
      · rename_i _ he
        exact List.pairwise_cons.2 ⟨fun z hz => by rw [← he]; exact h1 z hz, h2⟩
      · rename_i hlt he
        have hxy : sLt (key x) (key y) = true := sLt_tri (by simpa using hlt) he
        refine List.pairwise_cons.2 ⟨fun z hz => ?_, h⟩
        rcases List.mem_cons.1 hz with rfl | hz
        · exact hxy
        · exact sLt_trans hxy (h1 z hz)
theorem insK_len {α : Type} {key : α → ByteArray} {x : α} : ∀ {l : List α}, (insK key x l).length ≤ l.length + 1
  | [] => Nat.le_refl _
  | y :: l => by
    rw [insK]
    split
    · have := insK_len (key := key) (x := x) (l := l); simp; omega
    · split
      · simp
      · simp
/-- as many as are ahead of a place -/
def lowK {α : Type} (key : α → ByteArray) (s : ByteArray) (l : List α) : Nat := (l.takeWhile fun y => sLt (key y) s).length
theorem lowK_le {α : Type} (key : α → ByteArray) (s : ByteArray) (l : List α) : lowK key s l ≤ l.length := (List.takeWhile_sublist _).length_le
theorem lowK_cons {α : Type} (key : α → ByteArray) (s : ByteArray) (y : α) (l : List α) : lowK key s (y :: l) = if sLt (key y) s = true then lowK key s l + 1 else 0 := by
  unfold lowK; rw [List.takeWhile_cons]; split <;> simp
theorem lowK_eq {α : Type} {key : α → ByteArray} {s : ByteArray} : ∀ {l : List α} {k : Nat}, (∀ j y, j < k → l[j]? = some y → sLt (key y) s = true) → k ≤ l.length → (∀ y, l[k]? = some y → sLt (key y) s = false) → lowK key s l = k
  | [], k, _, hk, _ => by simp at hk; subst hk; rfl
  | y :: l, 0, _, _, h2 => by rw [lowK_cons, if_neg (by rw [h2 y rfl]; simp)]
  | y :: l, k + 1, h1, hk, h2 => by
    rw [lowK_cons, if_pos (h1 0 y (by omega) rfl), lowK_eq (l := l) (k := k) (fun j z hj hz => h1 (j + 1) z (by omega) hz) (by simpa using hk) (fun z hz => h2 z hz)]
theorem lowK_lt {α : Type} {key : α → ByteArray} {s : ByteArray} : ∀ {l : List α} {j : Nat} {y : α}, j < lowK key s l → l[j]? = some y → sLt (key y) s = true
  | [], j, y, h, _ => by simp [lowK] at h
  | z :: l, j, y, h, hy => by
    rw [lowK_cons] at h
    split at h
    · rename_i hz
      cases j with
      | zero => simp at hy; rw [← hy]; exact hz
      | succ j => exact lowK_lt (l := l) (j := j) (by omega) (by simpa using hy)
    · omega
theorem lowK_at {α : Type} {key : α → ByteArray} {s : ByteArray} : ∀ {l : List α} {y : α}, l[lowK key s l]? = some y → sLt (key y) s = false
  | [], y, h => by simp at h
  | z :: l, y, h => by
    rw [lowK_cons] at h
    split at h
    · exact lowK_at (l := l) (by simpa using h)
    · rename_i hz
      simp at h; rw [← h]; simpa using hz
/-- the library's way: a place is sought, and something put there or ahead of it -/
theorem insK_at {α : Type} {key : α → ByteArray} {x : α} : ∀ {l : List α}, RiseK key l → insK key x l = if (l[lowK key (key x) l]?).any (fun y => decide (key y = key x)) = true then l.set (lowK key (key x) l) x else l.take (lowK key (key x) l) ++ x :: l.drop (lowK key (key x) l)
  | [], _ => by simp [insK, lowK]
  | y :: l, h => by
    obtain ⟨h1, h2⟩ := List.pairwise_cons.1 h
    have ih := insK_at (x := x) h2
    rw [insK, lowK_cons]
    by_cases hlt : sLt (key y) (key x) = true
    · rw [if_pos hlt, if_pos hlt, ih]
      simp only [List.getElem?_cons_succ, List.set_cons_succ, List.take_succ_cons, List.drop_succ_cons, List.cons_append]
      split <;> rfl
    · rw [if_neg hlt, if_neg hlt]
      by_cases he : key y = key x
      · rw [if_pos he]; simp [he]
      · rw [if_neg he]; simp [he]
theorem insK_filter {α : Type} {key : α → ByteArray} {x : α} {l : List α} (h : RiseK key l) : insK key x l = (l.filter fun y => decide (key y ≠ key x)).take (lowK key (key x) (l.filter fun y => decide (key y ≠ key x))) ++ x :: (l.filter fun y => decide (key y ≠ key x)).drop (lowK key (key x) (l.filter fun y => decide (key y ≠ key x))) := by
  induction l with
  | nil => simp [insK, lowK]
  | cons y l ih =>
    obtain ⟨h1, h2⟩ := List.pairwise_cons.1 h
    rw [insK]
    by_cases hlt : sLt (key y) (key x) = true
    · rw [if_pos hlt, ih h2, List.filter_cons_of_pos (by simpa using sLt_ne hlt), lowK_cons, if_pos hlt]
      rfl
    · rw [if_neg hlt]
      by_cases he : key y = key x
      · have hf : ∀ z ∈ l, decide (key z ≠ key x) = true := fun z hz => decide_eq_true (by rw [← he]; exact (sLt_ne (h1 z hz)).symm)
        have hz : lowK key (key x) l = 0 := by
          cases l with
          | nil => rfl
          | cons z l => rw [lowK_cons, if_neg (by rw [← he, sLt_asymm (h1 z (.head _))]; simp)]
        rw [if_pos he, List.filter_cons_of_neg (by simp [he]), List.filter_eq_self.2 hf, hz]; rfl
      · have hxy : sLt (key x) (key y) = true := sLt_tri (by simpa using hlt) he
        have hf : ∀ z ∈ y :: l, decide (key z ≠ key x) = true := fun z hz => decide_eq_true (by
          rcases List.mem_cons.1 hz with rfl | hz
          · exact he
          · exact (sLt_ne (sLt_trans hxy (h1 z hz))).symm)
        rw [if_neg he, List.filter_eq_self.2 hf, lowK_cons, if_neg hlt]; rfl
theorem upGo_of {α : Type} {ok : α → Bool} {key : α → ByteArray} : ∀ {l : List α} {pv : Option ByteArray}, (∀ p, pv = some p → ∀ x ∈ l, sLt p (key x) = true) → RiseK key l → (∀ x ∈ l, ok x = true) → upGo ok key pv l = true
  | [], _, _, _, _ => rfl
  | x :: l, pv, h1, h2, h3 => by
    obtain ⟨g1, g2⟩ := List.pairwise_cons.1 h2
    rw [upGo, h3 x (.head _), upGo_of (l := l) (fun p hp y hy => by cases hp; exact g1 y hy) g2 fun y hy => h3 y (.tail _ hy)]
    cases pv with
    | none => rfl
    | some p => rw [show aheadOk (some p) (key x) = true from h1 p rfl x (.head _)]; rfl
/-! ### books -/
def cntOk (n : Int) : Bool := decide (1 ≤ n) && decide (n ≤ 9007199254740992)
def mintsOk (l : List Mnt) : Bool := upGo (fun x => placeOk x.place && cntOk x.n) Mnt.place none l
def bkOk (b : Bk) : Bool := itemsOk b.items && mintsOk b.mints
def putR (p : ByteArray) (o : Obj') : List UInt8 := 1 :: (textB p ++ objB o)
def dropR (p : ByteArray) : List UInt8 := 2 :: textB p
def mintR (p : ByteArray) (n : Int) : List UInt8 := 3 :: (textB p ++ beI 8 n)
def nextS (l : List Mnt) (p : ByteArray) : Int := match l.find? (fun x => decide (x.place = p)) with
  | some x => x.n + 1
  | none => 1
def getS (l : List Itm) (p : ByteArray) : Obj' × Bool := match l.find? (fun x => decide (x.place = p)) with
  | some x => (x.obj, true)
  | none => (⟨[], []⟩, false)
/-- a record's kind, its place, and what is left -/
def hdK (r : List UInt8) : Int := (rdNum (r, true) 1).1
def hdP (r : List UInt8) : ByteArray := B (rdText (rdNum (r, true) 1).2).1
def hdX (r : List UInt8) : Rd := (rdText (rdNum (r, true) 1).2).2
def doneR (x : Rd) : Bool := x.2 && decide (x.1 = [])
/-- a book behind a record, and whether that is one -/
def apl (b : Bk) (r : List UInt8) : Bk × Bool :=
  if placeOk (hdP r) then
    if hdK r = 1 then (⟨insK Itm.place ⟨hdP r, (rdObj (hdX r)).1⟩ b.items, b.mints⟩, doneR (rdObj (hdX r)).2 && objOk (rdObj (hdX r)).1 && decide (putR (hdP r) (rdObj (hdX r)).1 = r))
    else if hdK r = 2 then (⟨b.items.filter fun x => !decide (x.place = hdP r), b.mints⟩, doneR (hdX r))
    else if hdK r = 3 then (⟨b.items, insK Mnt.place ⟨hdP r, max (rdNum (hdX r) 8).1 (nextS b.mints (hdP r) - 1)⟩ b.mints⟩, doneR (rdNum (hdX r) 8).2 && cntOk (rdNum (hdX r) 8).1)
    else (b, false)
  else (b, false)
theorem byteB (k : UInt8) (l : List UInt8) : rdNum (k :: l, true) 1 = ((k.toNat : Int), l, true) := by
  have h : rdTake (k :: l, true) 1 = ([k], l, true) := by simp [rdTake]
  rw [rdNum, h]
  have h2 : natB [k] = k.toNat := by simp [natB]
  have h3 := k.toNat_lt
  show (rdI [k], l, true) = _
  rw [rdI_small _ (by simp), h2]
theorem hd_split {r : List UInt8} (h : placeOk (hdP r) = true) : (hdX r).2 = true ∧ ∃ k : UInt8, hdK r = k.toNat ∧ r = k :: (textB (hdP r) ++ (hdX r).1) := by
  have h2 : (hdX r).2 = true := by
    cases hx : (hdX r).2 with
    | true => rfl
    | false =>
      have : hdP r = B [] := by rw [hdP, rdText_bad hx]
      rw [this, placeOk_nil] at h; cases h
  refine ⟨h2, ?_⟩
  obtain ⟨h3, h4⟩ := rdText_split (x := (rdNum (r, true) 1).2) h2
  cases r with
  | nil =>
    have : (rdNum ([], true) 1).2 = ([], false) := by simp [rdNum, rdTake]
    rw [this] at h3; cases h3
  | cons k l =>
    refine ⟨k, by rw [hdK, byteB], ?_⟩
    rw [byteB] at h4
    unfold hdP hdX
    rw [byteB]
    congr 1
theorem hd_fault {r : List UInt8} (h : placeOk (hdP r) = true) : hdX r = ((hdX r).1, true) := by rw [← (hd_split h).1]
theorem hd_put {p : ByteArray} {k : UInt8} {l : List UInt8} (h : p.size ≤ 1048576) : hdK (k :: (textB p ++ l)) = k.toNat ∧ hdP (k :: (textB p ++ l)) = p ∧ hdX (k :: (textB p ++ l)) = (l, true) := by
  unfold hdK hdP hdX
  rw [byteB, rdText_app _ _ h]
  exact ⟨rfl, B_Lb p, rfl⟩
theorem placeOk_size {p : ByteArray} (h : placeOk p = true) : p.size ≤ 100 := by
  unfold placeOk splitS at h
  split at h
  · rename_i hc
    obtain ⟨h1, h2, h3⟩ := hc
    rcases idx47_cases p with ⟨he, hcut⟩ | ⟨k, he, hk, hcut⟩
    · rw [hcut] at h1; cases h1
    · rw [hcut] at h2 h3
      have h4 := nameOk_size h2
      simp only [keyOk, Bool.and_eq_true, decide_eq_true_eq] at h3
      have e1 : (p.extract 0 k).size = k := by rw [ByteArray.size_extract]; omega
      have e2 : (p.extract (k + 1) p.size).size = p.size - (k + 1) := by rw [ByteArray.size_extract]; omega
      rw [e1] at h4
      rw [e2] at h3
      omega
  · cases h
theorem bkOk_iff {b : Bk} : bkOk b = true ↔ (RiseK Itm.place b.items ∧ ∀ x ∈ b.items, placeOk x.place = true ∧ objOk x.obj = true) ∧ (RiseK Mnt.place b.mints ∧ ∀ x ∈ b.mints, placeOk x.place = true ∧ cntOk x.n = true) := by
  rw [bkOk, Bool.and_eq_true]
  refine ⟨fun ⟨h1, h2⟩ => ?_, fun ⟨⟨h1, h2⟩, h3, h4⟩ => ?_⟩
  · obtain ⟨_, a1, a2⟩ := upGo_rise h1
    obtain ⟨_, b1, b2⟩ := upGo_rise h2
    exact ⟨⟨a1, fun x hx => by simpa using a2 x hx⟩, b1, fun x hx => by simpa using b2 x hx⟩
  · exact ⟨upGo_of (fun p hp => by cases hp) h1 fun x hx => by simp [h2 x hx], upGo_of (fun p hp => by cases hp) h3 fun x hx => by simp [h4 x hx]⟩
theorem cntOk_iff {n : Int} : cntOk n = true ↔ 1 ≤ n ∧ n ≤ 9007199254740992 := by simp [cntOk]
theorem next_ok {b : Bk} (h : bkOk b = true) (p : ByteArray) : 1 ≤ nextS b.mints p ∧ nextS b.mints p ≤ 9007199254740993 := by
  unfold nextS
  split
  · rename_i x hx
    have := cntOk_iff.1 ((bkOk_iff.1 h).2.2 x (List.mem_of_find?_eq_some hx)).2
    omega
  · omega
/-- behind a record a book may be as it may be ahead of it -/
theorem apl_ok {b : Bk} {r : List UInt8} (h : bkOk b = true) (h2 : (apl b r).2 = true) : bkOk (apl b r).1 = true := by
  have nx := next_ok h (hdP r)
  obtain ⟨⟨i1, i2⟩, m1, m2⟩ := bkOk_iff.1 h
  unfold apl at h2 ⊢
  split at h2
  · rename_i hp
    rw [if_pos hp]
    split at h2
    · rename_i hk
      rw [if_pos hk]
      simp only [Bool.and_eq_true] at h2
      refine bkOk_iff.2 ⟨⟨insK_rise i1, fun x hx => ?_⟩, m1, m2⟩
      rcases insK_mem hx with rfl | hx
      · exact ⟨hp, h2.1.2⟩
      · exact i2 x hx
    · rename_i hk
      rw [if_neg hk]
      split at h2
      · rename_i hk2
        rw [if_pos hk2]
        exact bkOk_iff.2 ⟨⟨i1.filter _, fun x hx => i2 x (List.mem_filter.1 hx).1⟩, m1, m2⟩
      · rename_i hk2
        rw [if_neg hk2]
        split at h2
        · rename_i hk3
          rw [if_pos hk3]
          simp only [Bool.and_eq_true] at h2
          have c := cntOk_iff.1 h2.2
          refine bkOk_iff.2 ⟨⟨i1, i2⟩, insK_rise m1, fun x hx => ?_⟩
          rcases insK_mem hx with rfl | hx
          · exact ⟨hp, cntOk_iff.2 (by show 1 ≤ max _ _ ∧ max _ _ ≤ _; omega)⟩
          · exact m2 x hx
        · cases h2
  · cases h2
/-! ### frames -/
def crcT (c : Nat) : Nat := if c % 2 = 1 then (c / 2) ^^^ 0xedb88320 else c / 2
def crcB (c : Nat) : Nat := crcT (crcT (crcT (crcT (crcT (crcT (crcT (crcT c)))))))
def crcG (c : Nat) (l : List UInt8) : Nat := l.foldl (fun n b => (n / 256) ^^^ crcB ((n % 256) ^^^ b.toNat)) c
def crcS (l : List UInt8) : Nat := 4294967295 - crcG 4294967295 l
theorem crcT_lt {c : Nat} (h : c < 4294967296) : crcT c < 4294967296 := by
  unfold crcT
  split
  · exact Nat.xor_lt_two_pow (n := 32) (by omega) (by decide)
  · omega
theorem crcB_lt {c : Nat} (h : c < 4294967296) : crcB c < 4294967296 := crcT_lt (crcT_lt (crcT_lt (crcT_lt (crcT_lt (crcT_lt (crcT_lt (crcT_lt h)))))))
theorem crcG_lt : ∀ {l : List UInt8} {c : Nat}, c < 4294967296 → crcG c l < 4294967296
  | [], c, h => h
  | b :: l, c, h => by
    have hb := b.toNat_lt
    have h1 : (c % 256) ^^^ b.toNat < 256 := Nat.xor_lt_two_pow (n := 8) (by omega) hb
    exact crcG_lt (l := l) (Nat.xor_lt_two_pow (n := 32) (by omega) (crcB_lt (by omega)))
theorem crcS_lt (l : List UInt8) : crcS l < 4294967296 := by have := crcG_lt (l := l) (c := 4294967295) (by decide); unfold crcS; omega
theorem crcG_app (c : Nat) (l m : List UInt8) : crcG c (l ++ m) = crcG (crcG c l) m := List.foldl_append ..
def sumF (body : List UInt8) : Nat := crcS (beI 4 (body.length : Int) ++ body)
def putF (body : List UInt8) : List UInt8 := beI 4 (body.length : Int) ++ (beI 4 (sumF body : Int) ++ body)
def allF (l : List (List UInt8)) : List UInt8 := l.flatMap putF
theorem putF_len (b : List UInt8) : (putF b).length = 8 + b.length := by simp only [putF, List.length_append, beI_length]; omega
/-- the first frame's record, where it is whole -/
def rdF (s : List UInt8) : Nat × Nat × Rd := ((rdCnt (s, true) 1048576).1, (rdCnt (rdCnt (s, true) 1048576).2 4294967295).1, (rdCnt (rdCnt (s, true) 1048576).2 4294967295).2)
def fstF (s : List UInt8) : Option (List UInt8) :=
  if (rdF s).2.2.2 = true ∧ (rdF s).1 ≤ (rdF s).2.2.1.length ∧ sumF ((rdF s).2.2.1.take (rdF s).1) = (rdF s).2.1 then some ((rdF s).2.2.1.take (rdF s).1) else none
theorem rdCnt_split {x : Rd} {m : Nat} (h : (rdCnt x m).2.2 = true) : x.2 = true ∧ x.1 = beI 4 ((rdCnt x m).1 : Int) ++ (rdCnt x m).2.1 := by
  unfold rdCnt at h ⊢
  by_cases hc : m < natB (rdTake x 4).1
  · rw [if_pos hc] at h; cases h
  · rw [if_neg hc] at h ⊢
    obtain ⟨g1, g2, g3⟩ := rdTake_split h
    have := beI_natB (rdTake x 4).1
    rw [g3] at this
    exact ⟨g1, by rw [this]; exact g2⟩
theorem fstF_some {s b : List UInt8} (h : fstF s = some b) : ∃ t, s = putF b ++ t ∧ b.length ≤ 1048576 := by
  unfold fstF at h
  split at h
  · rename_i hc
    obtain ⟨h1, h2, h3⟩ := hc
    have hb : (rdF s).2.2.1.take (rdF s).1 = b := Option.some.inj h
    obtain ⟨g1, g2⟩ := rdCnt_split (x := (rdCnt (s, true) 1048576).2) (m := 4294967295) h1
    obtain ⟨_, k2⟩ := rdCnt_split (x := (s, true)) (m := 1048576) g1
    have hl : b.length = (rdF s).1 := by rw [← hb, List.length_take]; omega
    have hle : (rdF s).1 ≤ 1048576 := rdCnt_le (s, true) 1048576
    refine ⟨(rdF s).2.2.1.drop (rdF s).1, ?_, by omega⟩
    have k3 : s = beI 4 ((rdF s).1 : Int) ++ (beI 4 ((rdF s).2.1 : Int) ++ (rdF s).2.2.1) := by
      have e1 : s = beI 4 ((rdF s).1 : Int) ++ (rdCnt (s, true) 1048576).2.1 := k2
      have e2 : (rdCnt (s, true) 1048576).2.1 = beI 4 ((rdF s).2.1 : Int) ++ (rdF s).2.2.1 := g2
      rw [← e2]; exact e1
    conv => lhs; rw [k3]
    rw [putF, hl, ← hb, h3]
    simp only [List.append_assoc, List.take_append_drop]
  · cases h
theorem fstF_put {b t : List UInt8} (h : b.length ≤ 1048576) : fstF (putF b ++ t) = some b := by
  have e1 : rdCnt (putF b ++ t, true) 1048576 = (b.length, beI 4 (sumF b : Int) ++ (b ++ t), true) := by
    have := rdCnt_app b.length 1048576 (beI 4 (sumF b : Int) ++ (b ++ t)) h (by omega)
    rw [← this, putF]; simp only [List.append_assoc]
  have e2 : rdCnt (beI 4 (sumF b : Int) ++ (b ++ t), true) 4294967295 = (sumF b, b ++ t, true) := rdCnt_app _ _ _ (by have := crcS_lt (beI 4 (b.length : Int) ++ b); unfold sumF; omega) (crcS_lt _)
  have e3 : rdF (putF b ++ t) = (b.length, sumF b, b ++ t, true) := by rw [rdF, e1, e2]
  rw [fstF, e3]
  simp
def scanN : Nat → List UInt8 → List (List UInt8)
  | 0, _ => []
  | n + 1, s => match fstF s with
    | none => []
    | some b => b :: scanN n (s.drop (8 + b.length))
def scanF (s : List UInt8) : List (List UInt8) := scanN s.length s
theorem drop_put {b t : List UInt8} : (putF b ++ t).drop (8 + b.length) = t := by rw [← putF_len, List.drop_left]
theorem scanN_fuel : ∀ (n m : Nat) (s : List UInt8), s.length ≤ n → s.length ≤ m → scanN n s = scanN m s
  | 0, m, s, h, _ => by
    have hs : s = [] := List.eq_nil_of_length_eq_zero (by omega)
    subst hs
    cases m with
    | zero => rfl
    | succ m =>
      have : fstF [] = none := by
        cases hf : fstF [] with
        | none => rfl
        | some b => obtain ⟨t, ht, _⟩ := fstF_some hf; have := congrArg List.length ht; rw [List.length_append, putF_len, List.length_nil] at this; exfalso; omega
      rw [scanN, scanN, this]
  | n + 1, 0, s, _, h => (scanN_fuel 0 (n + 1) s h (by omega)).symm
  | n + 1, m + 1, s, h1, h2 => by
    rw [scanN, scanN]
    cases hf : fstF s with
    | none => rfl
    | some b =>
      obtain ⟨t, ht, _⟩ := fstF_some hf
      have hl : s.length = 8 + b.length + t.length := by rw [ht, List.length_append, putF_len]
      have hd : (s.drop (8 + b.length)).length = t.length := by rw [List.length_drop]; omega
      simp only [scanN_fuel n m (s.drop (8 + b.length)) (by omega) (by omega)]
theorem scanF_none {s : List UInt8} (h : fstF s = none) : scanF s = [] := by
  unfold scanF
  cases s.length with
  | zero => rfl
  | succ n => rw [scanN, h]
theorem scanF_some {s b : List UInt8} (h : fstF s = some b) : scanF s = b :: scanF (s.drop (8 + b.length)) := by
  obtain ⟨t, ht, _⟩ := fstF_some h
  have hl : s.length = 8 + b.length + t.length := by rw [ht, List.length_append, putF_len]
  unfold scanF
  obtain ⟨n, hn⟩ : ∃ n, s.length = n + 1 := ⟨s.length - 1, by omega⟩
  rw [hn, scanN, h]
  simp only
  rw [scanN_fuel n (s.drop (8 + b.length)).length _ (by rw [List.length_drop]; omega) (Nat.le_refl _)]
theorem scanF_app : ∀ {l : List (List UInt8)} {t : List UInt8}, (∀ b ∈ l, b.length ≤ 1048576) → scanF (allF l ++ t) = l ++ scanF t
  | [], t, _ => rfl
  | b :: l, t, h => by
    have e : allF (b :: l) ++ t = putF b ++ (allF l ++ t) := by simp [allF]
    rw [e, scanF_some (fstF_put (h b (.head _))), drop_put, scanF_app fun c hc => h c (.tail _ hc)]
    rfl
/-! ### books replayed -/
def rpl : Bk → List (List UInt8) → Bk × Nat
  | b, [] => (b, 0)
  | b, r :: l => if (apl b r).2 then ((rpl (apl b r).1 l).1, 8 + r.length + (rpl (apl b r).1 l).2) else (b, 0)
/-- books behind all records of a row -/
def Runs : Bk → List (List UInt8) → Bk → Prop
  | b, [], c => c = b
  | b, r :: l, c => (apl b r).2 = true ∧ Runs (apl b r).1 l c
theorem rpl_app : ∀ {l m : List (List UInt8)} {b c : Bk}, Runs b l c → rpl b (l ++ m) = ((rpl c m).1, (allF l).length + (rpl c m).2)
  | [], m, b, c, h => by rw [show c = b from h]; simp [allF]
  | r :: l, m, b, c, h => by
    obtain ⟨h1, h2⟩ := h
    have e : (allF (r :: l)).length = 8 + r.length + (allF l).length := by simp [allF, putF_len]
    rw [List.cons_append, rpl, if_pos h1, rpl_app h2, e]
    simp only [Nat.add_assoc]
theorem Runs.snoc : ∀ {l : List (List UInt8)} {b c : Bk} {r : List UInt8}, Runs b l c → (apl c r).2 = true → Runs b (l ++ [r]) (apl c r).1
  | [], b, c, r, h, h2 => by rw [show c = b from h] at h2 ⊢; exact ⟨h2, rfl⟩
  | q :: l, b, c, r, h, h2 => ⟨h.1, h.2.snoc h2⟩
theorem Runs.ok : ∀ {l : List (List UInt8)} {b c : Bk}, bkOk b = true → Runs b l c → bkOk c = true
  | [], b, c, hb, h => by rw [show c = b from h]; exact hb
  | r :: l, b, c, hb, h => h.2.ok (apl_ok hb h.1)
theorem Runs.part : ∀ {l : List (List UInt8)} {b c : Bk} (i : Nat), Runs b l c → ∃ d, Runs b (l.take i) d ∧ Runs d (l.drop i) c
  | l, b, c, 0, h => ⟨b, by simp [Runs], by simpa using h⟩
  | [], b, c, i + 1, h => ⟨b, by simp [Runs], by simpa using h⟩
  | r :: l, b, c, i + 1, h => by
    obtain ⟨d, h1, h2⟩ := h.2.part i
    exact ⟨d, ⟨h.1, h1⟩, h2⟩
def recI (x : Itm) : List UInt8 := putR x.place x.obj
def recM (x : Mnt) : List UInt8 := mintR x.place x.n
def recsB (b : Bk) : List (List UInt8) := b.items.map recI ++ b.mints.map recM
def bytesK (b : Bk) : List UInt8 := allF (recsB b)
theorem apl_put {b : Bk} {p : ByteArray} {o : Obj'} (hp : placeOk p = true) (ho : objOk o = true) (hr : ObjRt o) : apl b (putR p o) = (⟨insK Itm.place ⟨p, o⟩ b.items, b.mints⟩, true) := by
  obtain ⟨e1, e2, e3⟩ := hd_put (k := 1) (l := objB o) (p := p) (by have := placeOk_size hp; omega)
  have e4 := rdObj_app hr []
  rw [List.append_nil] at e4
  have f1 : hdK (putR p o) = 1 := e1
  have f2 : hdP (putR p o) = p := e2
  have f3 : hdX (putR p o) = (objB o, true) := e3
  rw [apl, f1, f2, f3, e4, if_pos hp, if_pos rfl]
  simp [doneR, ho]
theorem apl_drop {b : Bk} {p : ByteArray} (hp : placeOk p = true) : apl b (dropR p) = (⟨b.items.filter fun x => !decide (x.place = p), b.mints⟩, true) := by
  obtain ⟨e1, e2, e3⟩ := hd_put (k := 2) (l := []) (p := p) (by have := placeOk_size hp; omega)
  rw [List.append_nil] at e1 e2 e3
  have f1 : hdK (dropR p) = 2 := e1
  have f2 : hdP (dropR p) = p := e2
  have f3 : hdX (dropR p) = ([], true) := e3
  rw [apl, f1, f2, f3, if_pos hp, if_neg (by decide), if_pos rfl]
  rfl
theorem apl_mint {b : Bk} {p : ByteArray} {n : Int} (hp : placeOk p = true) (hn : cntOk n = true) : apl b (mintR p n) = (⟨b.items, insK Mnt.place ⟨p, max n (nextS b.mints p - 1)⟩ b.mints⟩, true) := by
  obtain ⟨e1, e2, e3⟩ := hd_put (k := 3) (l := beI 8 n) (p := p) (by have := placeOk_size hp; omega)
  have c := cntOk_iff.1 hn
  have e4 := rdNum_app n [] (by omega) (by omega)
  rw [List.append_nil] at e4
  have f1 : hdK (mintR p n) = 3 := e1
  have f2 : hdP (mintR p n) = p := e2
  have f3 : hdX (mintR p n) = (beI 8 n, true) := e3
  rw [apl, f1, f2, f3, e4, if_pos hp, if_neg (by decide), if_neg (by decide), if_pos rfl]
  simp [doneR, hn]
end Go.Proofs.YtbcgkbdacijoiaaGreat
end

section
set_option linter.all false
namespace Go.Ab
open Go.RowKit (Below)
open Go.ChangeShapes Go.WideShapes

/-- the shape of a type of data -/
inductive Sh where
  | int (k : IntKind)
  | bool
  | str
  | sl (g : Bool) (e : Sh)
  | unit
  | pair (a b : Sh)

def Sh.size : Sh → Nat
  | .unit => 0
  | .pair a b => a.size + b.size
  | _ => 1

/-- cells of a shape -/
def Sh.ok : Sh → List AVal → Prop
  | .int k, cs => ∃ n, cs = [.lit (.int k n)] ∧ (Lit.int k n).wf = true
  | .bool, cs => ∃ b, cs = [.lit (.bool b)]
  | .str, cs => ∃ s, cs = [.lit (.string s)] ∧ s.size ≤ maxLen
  | .sl g e, cs => ∃ l : List AVal, cs = [.sl e.size l false] ∧ l.length ≤ maxLen ∧ ∀ x ∈ l, ∃ c, e.ok c ∧ (if g then x = .agg c else c = [x])
  | .unit, cs => cs = []
  | .pair a b, cs => ∃ c d, cs = c ++ d ∧ a.ok c ∧ b.ok d

def Sh.okv (s : Sh) (g : Bool) (a : AVal) : Prop := ∃ c, s.ok c ∧ (if g then a = .agg c else c = [a])

def fieldsSh (sh : TypeId → Option Sh) (P : Program) : List Field → Nat → Option Sh
  | [], _ => some .unit
  | f :: fs, off => if f.offset = off then match sh f.type with
      | some s => if s.size = P.cellsOf f.type then (fieldsSh sh P fs (off + s.size)).map (.pair s) else none
      | none => none
    else none

def repSh (s : Sh) : Nat → Sh
  | 0 => .unit
  | n + 1 => .pair s (repSh s n)

def shapeOf (P : Program) : Nat → TypeId → Option Sh
  | 0, _ => none
  | d + 1, t => match P.underlying t with
    | some .bool => some .bool
    | some (.int k) => some (.int k)
    | some .string => some .str
    | some (.slice e) => match shapeOf P d e with
      | some s => if s.size = P.cellsOf e ∧ 0 < s.size ∧ (aggB P e = false → s.size = 1) then some (.sl (aggB P e) s) else none
      | none => none
    | some (.struct fs) => match fieldsSh (shapeOf P d) P fs.toList 0 with
      | some s => if s.size = P.cellsOf t then some s else none
      | none => none
    | some (.array n e) => match shapeOf P d e with
      | some s => if s.size = P.cellsOf e ∧ P.cellsOf t = n * s.size then some (repSh s n) else none
      | none => none
    | _ => none

theorem Sh.ok_length : ∀ {s : Sh} {cs : List AVal}, s.ok cs → cs.length = s.size
  | .int k, cs, h => by obtain ⟨n, rfl, _⟩ := h; rfl
  | .bool, cs, h => by obtain ⟨n, rfl⟩ := h; rfl
  | .str, cs, h => by obtain ⟨n, rfl, _⟩ := h; rfl
  | .sl g e, cs, h => by obtain ⟨n, rfl, _⟩ := h; rfl
  | .unit, cs, h => by obtain rfl : cs = [] := h; rfl
  | .pair a b, cs, h => by
    obtain ⟨c, d, rfl, h1, h2⟩ := h
    simp [Sh.size, Sh.ok_length h1, Sh.ok_length h2]

theorem pickList {p : Nat → AVal → Prop} : ∀ (n : Nat), (∀ i, i < n → ∃ x, p i x) → ∃ l : List AVal, l.length = n ∧ ∀ i (hi : i < l.length), p i l[i]
  | 0, _ => ⟨[], rfl, fun i hi => by simp at hi⟩
  | n + 1, h => by
    obtain ⟨l, hl, hp⟩ := pickList n fun i hi => h i (by omega)
    obtain ⟨x, hx⟩ := h n (by omega)
    refine ⟨l ++ [x], by simp [hl], fun i hi => ?_⟩
    by_cases hlt : i < l.length
    · rw [List.getElem_append_left hlt]; exact hp i hlt
    · have : i = n := by simp at hi; omega
      subst this
      rw [List.getElem_append_right (by omega)]
      simpa [hl] using hx

section
variable {H : Type} {enc : TypeId × Value → H} {P : Program} {κ : K} {held : Bool}

theorem cells?_at {w : World} {base : Nat} {a : Addr} {n : Nat} {cs : List Value} (h : w.cells? base a n = some cs) : cs.length = n ∧ ∀ i (hi : i < cs.length), w.cell? (a.add i) = some cs[i] := by
  unfold World.cells? at h
  split at h
  · have hl : cs.length = n := by
      have := mapM_len h
      simpa using this
    refine ⟨hl, fun i hi => ?_⟩
    have := mapM_at h i (by simpa [hl] using hi) hi
    simpa using this
  · cases h
where
  mapM_len {α β : Type} {f : α → Option β} : ∀ {l : List α} {r : List β}, l.mapM f = some r → r.length = l.length
    | [], r, h => by simp at h; subst h; rfl
    | x :: l, r, h => by
      rw [List.mapM_cons] at h
      obtain ⟨y, _, h2⟩ := Option.bind_eq_some_iff.1 h
      obtain ⟨ys, h3, h4⟩ := Option.bind_eq_some_iff.1 h2
      obtain rfl := Option.some.inj h4
      simp [mapM_len h3]
  mapM_at {α β : Type} {f : α → Option β} : ∀ {l : List α} {r : List β}, l.mapM f = some r → ∀ i (hi : i < l.length) (hj : i < r.length), f l[i] = some r[i]
    | [], r, h, i, hi, _ => by simp at hi
    | x :: l, r, h, i, hi, hj => by
      rw [List.mapM_cons] at h
      obtain ⟨y, h1, h2⟩ := Option.bind_eq_some_iff.1 h
      obtain ⟨ys, h3, h4⟩ := Option.bind_eq_some_iff.1 h2
      obtain rfl := Option.some.inj h4
      cases i with
      | zero => simpa using h1
      | succ i => simpa using mapM_at h3 i (by simpa using hi) (by simpa using hj)

def Reads (enc : TypeId × Value → H) (P : Program) (κ : K) (held : Bool) (d : Nat) : Prop :=
  ∀ (t : TypeId) (s : Sh) (fuel : Nat) (cs : List Value) (x : DataW H × List MemPlace), shapeOf P d t = some s → DataW.trod enc P κ.w 0 (fun _ => true) held fuel t cs = some x → ∃ av, s.ok av ∧ RvC κ av cs

theorem read_fields {d : Nat} (ih : Reads enc P κ held d) {n : Nat} {cs : List Value} : ∀ (fs : List Field) (off : Nat) (s : Sh), fieldsSh (shapeOf P d) P fs off = some s → off + s.size ≤ cs.length →
    (∀ (i : Nat) (f : Field), fs[i]? = some f → ∃ y, DataW.trod enc P κ.w 0 (fun _ => true) held n f.type ((cs.drop f.offset).take (P.cellsOf f.type)) = some y) → ∃ av, s.ok av ∧ RvC κ av ((cs.drop off).take s.size)
  | [], off, s, hs, _, _ => by
    obtain rfl := Option.some.inj hs
    exact ⟨[], rfl, by simp [Sh.size], fun i hi => by simp at hi⟩
  | f :: fs, off, s, hs, hle, hf => by
    unfold fieldsSh at hs
    split at hs
    · rename_i ho
      split at hs
      · rename_i s1 h1
        split at hs
        · rename_i hsz
          obtain ⟨s2, h2, rfl⟩ := Option.map_eq_some_iff.1 hs
          simp only [Sh.size] at hle ⊢
          obtain ⟨y, hy⟩ := hf 0 f rfl
          obtain ⟨av, ha1, ha2⟩ := ih f.type s1 n _ y h1 hy
          obtain ⟨bs, hb1, hb2⟩ := read_fields ih fs (off + s1.size) s2 h2 (by omega) fun i g hg => hf (i + 1) g (by simpa using hg)
          refine ⟨av ++ bs, ⟨av, bs, rfl, ha1, hb1⟩, ?_⟩
          have e : (cs.drop off).take (s1.size + s2.size) = (cs.drop f.offset).take (P.cellsOf f.type) ++ (cs.drop (off + s1.size)).take s2.size := by
            rw [List.take_add, ho, ← hsz, List.drop_drop]
          rw [e]
          exact ha2.append hb2
        · cases hs
      · cases hs
    · cases hs

theorem read_rep {s : Sh} {cs : List Value} : ∀ (n off : Nat), (∀ i, i < n → ∃ av, s.ok av ∧ RvC κ av ((cs.drop (off + i * s.size)).take s.size)) → ∃ av, (repSh s n).ok av ∧ RvC κ av ((cs.drop off).take (n * s.size))
  | 0, off, _ => ⟨[], rfl, by simp, fun i hi => by simp at hi⟩
  | n + 1, off, h => by
    obtain ⟨av, ha1, ha2⟩ := h 0 (by omega)
    obtain ⟨bs, hb1, hb2⟩ := read_rep n (off + s.size) fun i hi => by
      have := h (i + 1) (by omega)
      rwa [show off + (i + 1) * s.size = off + s.size + i * s.size by rw [Nat.succ_mul]; omega] at this
    refine ⟨av ++ bs, ⟨av, bs, rfl, ha1, hb1⟩, ?_⟩
    have e : (cs.drop off).take ((n + 1) * s.size) = (cs.drop (off + 0 * s.size)).take s.size ++ (cs.drop (off + s.size)).take (n * s.size) := by
      rw [show (n + 1) * s.size = s.size + n * s.size by rw [Nat.succ_mul]; omega, List.take_add, List.drop_drop]; simp
    rw [e]
    exact ha2.append hb2

theorem Sh.ok_one {d : Nat} {t : TypeId} {s : Sh} {av : List AVal} (hs : shapeOf P d t = some s) (hg : aggB P t = false) (h : s.ok av) : ∃ x, av = [x] ∧ x.cells = [x] := by
  cases d with
  | zero => cases hs
  | succ d =>
    unfold shapeOf at hs
    split at hs
    · obtain rfl := Option.some.inj hs; obtain ⟨b, rfl⟩ := h; exact ⟨_, rfl, rfl⟩
    · obtain rfl := Option.some.inj hs; obtain ⟨b, rfl, _⟩ := h; exact ⟨_, rfl, rfl⟩
    · obtain rfl := Option.some.inj hs; obtain ⟨b, rfl, _⟩ := h; exact ⟨_, rfl, rfl⟩
    · split at hs
      · split at hs
        · obtain rfl := Option.some.inj hs; obtain ⟨b, rfl, _⟩ := h; exact ⟨_, rfl, rfl⟩
        · cases hs
      · cases hs
    · rename_i fs ht; simp [aggB, ht] at hg
    · rename_i fs ht; simp [aggB, ht] at hg
    · cases hs

theorem reads (hI : ∀ b off v, κ.w.cell? ⟨b, off, none⟩ = some v → off < κ.I b) : ∀ d, Reads enc P κ held d
  | 0 => fun t s fuel cs x hs _ => by cases hs
  | d + 1 => fun t s fuel cs x hs hx => by
    have ih := reads hI d
    have hs0 := hs
    unfold shapeOf at hs
    split at hs
    · rename_i ht
      obtain rfl := Option.some.inj hs
      obtain ⟨b, rfl, _⟩ := DataW.trod_bool ht hx
      exact ⟨_, ⟨b, rfl⟩, .one (.lit _)⟩
    · rename_i k ht
      obtain rfl := Option.some.inj hs
      obtain ⟨b, rfl, _, hw⟩ := DataW.trod_int ht hx
      exact ⟨_, ⟨b, rfl, hw⟩, .one (.lit _)⟩
    · rename_i ht
      obtain rfl := Option.some.inj hs
      obtain ⟨b, rfl, _, hw⟩ := DataW.trod_string ht hx
      exact ⟨_, ⟨b, rfl, hw⟩, .one (.lit _)⟩
    · rename_i e ht
      split at hs
      · rename_i s1 h1
        split at hs
        · rename_i hc
          obtain ⟨hsz, hpos, hone⟩ := hc
          obtain rfl := Option.some.inj hs
          rcases DataW.trod_slice ht hx with ⟨rfl, _⟩ | ⟨a, len, cap, elems, rest, n, _, rfl, _, _, hl, hm, hlen, hel, hsp, _⟩
          · exact ⟨_, ⟨[], rfl, by simp, by simp⟩, .one (.slNil _ _)⟩
          · have each : ∀ i, i < cap → ∃ cs' y, κ.w.cells? 0 (a.add (i * P.cellsOf e)) (P.cellsOf e) = some cs' ∧ DataW.trod enc P κ.w 0 (fun _ => true) held n e cs' = some y := by
              intro i hi
              by_cases hil : i < len
              · have := hel i hil
                rw [List.getElem?_eq_getElem (by omega)] at this
                obtain ⟨cs', q1, q2⟩ := Option.bind_eq_some_iff.1 this
                exact ⟨cs', _, q1, q2⟩
              · obtain ⟨hr, hj⟩ := hsp rfl
                have := hj (i - len) (by omega)
                rw [show len + (i - len) = i by omega, List.getElem?_eq_getElem (by omega)] at this
                obtain ⟨cs', q1, q2⟩ := Option.bind_eq_some_iff.1 this
                exact ⟨cs', _, q1, q2⟩
            by_cases hcap : cap = 0
            · subst hcap
              obtain rfl : len = 0 := by omega
              exact ⟨_, ⟨[], rfl, by simp, by simp⟩, .one (.slE _ _ a)⟩
            · have hspot : a.spot = none := by
                obtain ⟨cs', y, q1, _⟩ := each 0 (by omega)
                obtain ⟨r1, r2⟩ := cells?_at q1
                have := r2 0 (by omega)
                rw [Nat.zero_mul] at this
                exact World.cell?_spot (by simpa [Addr.add] using this)
              obtain ⟨b, off, spot⟩ := a
              subst hspot
              have each' : ∀ i, i < len → ∃ x : AVal, x.cells.length = s1.size ∧ (∃ c, s1.ok c ∧ (if aggB P e then x = .agg c else c = [x])) ∧
                  ∀ j (hj : j < x.cells.length), ∃ v, κ.w.cell? ⟨b, off + (i * s1.size + j), none⟩ = some v ∧ Rv κ x.cells[j] v := by
                intro i hi
                obtain ⟨cs', y, q1, q2⟩ := each i (by omega)
                obtain ⟨r1, r2⟩ := cells?_at q1
                obtain ⟨av, ha, hr⟩ := ih e s1 n cs' y h1 q2
                have hal := Sh.ok_length ha
                obtain ⟨x, hxc, hxo⟩ : ∃ x : AVal, x.cells = av ∧ (∃ c, s1.ok c ∧ (if aggB P e then x = .agg c else c = [x])) := by
                  cases hg : aggB P e with
                  | true => exact ⟨.agg av, rfl, av, ha, by simp⟩
                  | false =>
                    obtain ⟨x, rfl, hx⟩ := Sh.ok_one h1 hg ha
                    exact ⟨x, hx, [x], ha, by simp⟩
                refine ⟨x, by rw [hxc]; exact hal, hxo, fun j hj => ?_⟩
                have hj' : j < cs'.length := by rw [← hr.1, ← hxc]; exact hj
                refine ⟨cs'[j], ?_, ?_⟩
                · have := r2 j hj'
                  rw [← hsz] at this
                  rw [← this]
                  simp only [Addr.add]
                  congr 1
                  by_cases h0 : i * s1.size = 0
                  · rw [if_pos h0, h0]
                    by_cases hj0 : j = 0
                    · simp [hj0]
                    · simp [hj0]
                  · rw [if_neg h0]
                    by_cases hj0 : j = 0
                    · simp [hj0]
                    · simp [hj0]; omega
                · have := hr.2 j (by rw [← hxc]; exact hj) hj'
                  simp only [hxc]
                  exact this
              obtain ⟨l, hll, hlp⟩ := pickList len each'
              have hszl : ∀ x ∈ l, x.cells.length = s1.size := fun x hx => by
                obtain ⟨i, hi, rfl⟩ := List.getElem_of_mem hx
                exact (hlp i hi).1
              refine ⟨[.sl s1.size l false], ⟨l, rfl, by omega, fun x hx => ?_⟩, .one ?_⟩
              · obtain ⟨i, hi, rfl⟩ := List.getElem_of_mem hx
                exact (hlp i hi).2.1
              · have at_ : ∀ k (hk : k < (flat l).length), ∃ v, κ.w.cell? ⟨b, off + k, none⟩ = some v ∧ Rv κ (flat l)[k] v := by
                  intro k hk
                  obtain ⟨hi, hj, e1⟩ := flat_at hszl k hk
                  obtain ⟨v, hv1, hv2⟩ := (hlp _ hi).2.2 _ hj
                  rw [show k / s1.size * s1.size + k % s1.size = k by rw [Nat.mul_comm]; exact Nat.div_add_mod k s1.size] at hv1
                  exact ⟨v, hv1, by rw [e1]; exact hv2⟩
                have := Rv.sl (κ := κ) s1.size l false b off cap (fun k => (κ.w.cell? ⟨b, off + k, none⟩).getD undef) (by omega) (by simp) hszl
                  (fun k hk => by obtain ⟨v, hv1, _⟩ := at_ k hk; exact ⟨hI _ _ _ hv1, by simp [hv1]⟩)
                  (fun k hk => by obtain ⟨v, hv1, hv2⟩ := at_ k hk; simpa [hv1] using hv2)
                rwa [hll] at this
        · cases hs
      · cases hs
    · rename_i fs ht
      split at hs
      · rename_i s1 h1
        split at hs
        · rename_i hc
          obtain rfl := Option.some.inj hs
          obtain ⟨xs, n, _, _, hcl, hxl, hf⟩ := DataW.trod_struct ht hx
          obtain ⟨av, ha, hr⟩ := read_fields (cs := cs) (n := n) ih fs.toList 0 s1 h1 (by omega) fun i f hfi => by
            have hfi' : fs[i]? = some f := by simpa using hfi
            have := hf i f hfi'
            have hlt : i < xs.length := by rw [hxl]; exact (Array.getElem?_eq_some_iff.1 hfi').1
            rw [List.getElem?_eq_getElem hlt] at this
            exact ⟨_, this⟩
          refine ⟨av, ha, ?_⟩
          rw [List.drop_zero, List.take_of_length_le (by omega)] at hr
          exact hr
        · cases hs
      · cases hs
    · rename_i n e ht
      split at hs
      · rename_i s1 h1
        split at hs
        · rename_i hc
          obtain rfl := Option.some.inj hs
          obtain ⟨xs, m, _, _, hcl, hxl, hf⟩ := DataW.trod_array ht hx
          obtain ⟨av, ha, hr⟩ := read_rep (κ := κ) (s := s1) (cs := cs) n 0 fun i hi => by
            have := hf i hi
            rw [List.getElem?_eq_getElem (by omega), ← hc.1] at this
            rw [Nat.zero_add]
            exact ih e s1 m _ _ h1 this
          refine ⟨av, ha, ?_⟩
          rw [List.drop_zero, List.take_of_length_le (by rw [hcl, hc.2]; omega)] at hr
          exact hr
        · cases hs
      · cases hs
    · cases hs

/-- an argument -/
theorem read_arg (hI : ∀ b off v, κ.w.cell? ⟨b, off, none⟩ = some v → off < κ.I b) {d base : Nat} {r : Reach} {W : World} {t : TypeId} {s : Sh} {g : Bool} {v : Value} {x : DataW H} {ps : List MemPlace} (hs : shapeOf P d t = some s) (hg : aggB P t = g)
    (hval : Value.okWide P W r base t v) (h : DataW.Trod enc P κ.w 0 (fun _ => true) held t v x ps) : ∃ a, Rv κ a v ∧ s.okv g a := by
  subst hg
  obtain ⟨fuel, hf⟩ := h
  obtain ⟨av, ha, hr⟩ := reads hI d t s fuel _ _ hs hf
  cases hg : aggB P t with
  | true =>
    have : ∃ cs, v = .agg cs := by
      unfold Value.okWide at hval
      unfold aggB at hg
      split at hval <;> simp_all
      · obtain ⟨cs, rfl, _⟩ := hval; exact ⟨cs, rfl⟩
      · obtain ⟨cs, rfl, _⟩ := hval; exact ⟨cs, rfl⟩
    obtain ⟨cs, rfl⟩ := this
    refine ⟨.agg av, .agg av cs ?_ fun i hi => ?_, av, ha, by simp⟩
    · have := hr.1; simpa [Value.cells] using this.symm
    · have hl : av.length = cs.size := by have := hr.1; simpa [Value.cells] using this
      have := hr.2 i hi (by simp [Value.cells]; omega)
      simpa [Value.cells, show i < cs.size by omega] using this
  | false =>
    obtain ⟨x, rfl, hx⟩ := Sh.ok_one hs hg ha
    have hv : v.cells = #[v] := by
      unfold Value.okWide at hval
      unfold aggB at hg
      split at hval
      · simp_all
      · simp_all
      · unfold Cell.okWide at hval
        split at hval <;> first | rfl | skip
        unfold Cell.ok at hval
        split at hval <;> first | rfl | exact hval.elim
    refine ⟨x, ?_, [x], ha, by simp⟩
    have := hr.2 0 (by simp) (by rw [hv]; simp)
    simpa [hv] using this

/-- at the beginning nothing is written -/
def kOf (W : World) : K := { w := W, base := W.heap.size, ρ := fun _ => none, τ := fun _ => none, I := fun b => match W.heap[b]? with | some (.cells c _ _) => c.size | _ => 0 }

def s0 : Store := { heap := fun _ => none, tok := fun _ => none }

theorem kOf_imm (W : World) : ∀ b off v, (kOf W).w.cell? ⟨b, off, none⟩ = some v → off < (kOf W).I b := by
  intro b off v h
  simp only [kOf, World.cell?] at *
  cases hb : W.heap[b]? with
  | none => simp [hb] at h
  | some o =>
    rw [hb] at h
    cases o <;> simp_all
    have := (Array.getElem?_eq_some_iff.1 h).1
    omega

theorem kOf_inv (W : World) (hG : Glob W W.heap.size) : Inv (kOf W) s0 where
  glob := hG
  base := Nat.le_refl _
  heap o x e := by cases e
  inj o o' x x' b e := by cases e
  tok t sz e := by cases e
  tokinj t t' sz sz' v v' b e := by cases e
  tokobj t sz v b o x e := by cases e
  frO := ⟨0, fun _ _ => rfl⟩
  frT := ⟨0, fun _ _ => rfl⟩
  frI b hb := by
    have hb' : W.heap.size ≤ b := hb
    simp [kOf, Array.getElem?_eq_none hb']

/-- A law's contract, av the row's step wants it. -/
theorem calls_of_law {f : FuncId} {av : List AVal} {vs : Array Value} {W : World} (h : ACalls P f av s0 fun v _ => v = vBool true) (hn : vs.size = av.length) (hr : ∀ i (hi : i < av.length), Rv (kOf W) av[i] (vs.getD i undef))
    (hG : Glob W W.heap.size := by intro p hp; cases hp) : Calls P f vs W (fun e w' => e = .returned (.bool true) ∧ Below W.heap.size W w') := by
  have := h (kOf W) vs (kOf_inv W hG) hn hr
  refine this.mono fun e w' ⟨cv, he, κ', a, σ', hw, hle, _, hv, ha⟩ => ?_
  subst ha
  obtain rfl := hv.litInv
  subst hw
  exact ⟨he, hle.below⟩

end

/-- a slice of numbers -/
theorem lits_of {k : IntKind} : ∀ {l : List AVal}, (∀ x ∈ l, ∃ c, (Sh.int k).ok c ∧ (if false = true then x = .agg c else c = [x])) → ∃ zs : List Int, l = zs.map fun n => .lit (.int k n)
  | [], _ => ⟨[], rfl⟩
  | x :: l, h => by
    obtain ⟨zs, rfl⟩ := lits_of fun y hy => h y (List.mem_cons_of_mem _ hy)
    obtain ⟨c, ⟨n, rfl, _⟩, e⟩ := h x (List.mem_cons_self ..)
    simp only [Bool.false_eq_true, if_false, List.cons.injEq, and_true] at e
    subst e
    exact ⟨n :: zs, rfl⟩

/-- a slice of whatever is read one by one -/
theorem list_of {α : Type} (f : α → AVal) : ∀ {l : List AVal}, (∀ x ∈ l, ∃ a, x = f a) → ∃ zs : List α, l = zs.map f
  | [], _ => ⟨[], rfl⟩
  | x :: l, h => by
    obtain ⟨zs, rfl⟩ := list_of f fun y hy => h y (List.mem_cons_of_mem _ hy)
    obtain ⟨a, rfl⟩ := h x (List.mem_cons_self ..)
    exact ⟨a :: zs, rfl⟩

end Go.Ab
end

section
set_option linter.all false
namespace Go.Ab
open Go.RowKit (Below)

section
variable {P : Program} {o : Oper} {α : Operand → AVal} {σ : Store} {Kk : AVal → Store → Prop}
theorem Store.set_same {o : Nat} {x : AObj} (h : σ.heap o = some x) : σ.set o x = σ := by
  unfold Store.set
  have : (fun k => if k = o then some x else σ.heap k) = σ.heap := by
    funext k
    split
    · rename_i hk; subst hk; exact h.symm
    · rfl
  rw [this]
theorem AOp_clear {x : Operand} {t e : TypeId} {so sz off len : Nat} {z : Value} {cs : List AVal} (ho : o.op = .call { callee := .builtin .clear, args := #[x], argTypes := #[t] }) (hse : sliceElem P t = some e) (hz : zeroOf P e = some z)
    (hzs : z.cells.size = sz) (hzo : ∀ j, j < z.cells.size → (AVal.lit z.cells[j]!).one = true) (hx : α x = .msl so sz off len) (hh : σ.heap so = some (.cells cs)) (hle : off + len * sz ≤ cs.length)
    (hk : ∀ zs : List AVal, zs.length = len * sz → Kk (.tup []) (σ.set so (.cells (aput cs off zs)))) : AOp P o α σ Kk := by
  obtain ⟨dst, op, ty, pos, after, guard⟩ := o
  obtain rfl : op = _ := ho
  intro κ ev hI hxx
  have hts : P.underlying t = some (.slice e) := by
    unfold sliceElem at hse
    split at hse
    · rename_i e' he'; obtain rfl := Option.some.inj hse; exact he'
    · cases hse
  have hv := hxx x (by simp [Op.operands, Call.operands])
  rw [hx] at hv
  obtain ⟨b, cap, hev, hb⟩ : ∃ b cap, ev x = .slice (some ⟨b, off, none⟩) len cap ∧ κ.ρ so = some b := by
    generalize ev x = u at hv
    cases hv with
    | msl _ _ _ _ b cap n el hb hlc hsh hcap => exact ⟨b, cap, rfl, hb⟩
  have hnil : ∀ κ' : K, Rv κ' (.tup []) (.tuple #[]) := fun κ' => .tup [] #[] rfl (fun i hi => by simp at hi)
  by_cases h0 : len = 0
  · subst h0
    refine upon_v (s := Builtin.clear_ #[t] ty #[ev x]) (by simp [execOp, resolve, invoke, builtin]) ⟨.tuple #[], κ.w, ?_, κ, .tup [], σ, rfl, .refl κ, hI, hnil κ, ?_⟩
    · rw [hev]; simp [Builtin.clear_, run_underlying hts]
    · have := hk [] (by simp)
      rw [aput_nil _ _ (by omega), Store.set_same hh] at this
      exact this
  · have hzl : (Builtin.zeroCells z.cells len).size = len * z.cells.size := by simp [Builtin.zeroCells]
    obtain ⟨w', h1, h2, h3⟩ := run_storeCells_obj (P := P) (b := b) (off := off) (i := so) ((Builtin.zeroCells z.cells len).toList.map .lit) (Builtin.zeroCells z.cells len).toList 0 κ σ cs hI hh hb (by simp) (fun k hk hk' => by
      rw [List.getElem_map]; exact .lit _) (fun a ha => by
      obtain ⟨c, hc, rfl⟩ := List.mem_map.1 ha
      rw [Array.mem_toList_iff] at hc
      obtain ⟨k, hk, rfl⟩ := Array.mem_iff_getElem.1 hc
      rw [hzl] at hk
      have hpos : 0 < z.cells.size := by rcases Nat.eq_zero_or_pos z.cells.size with h | h; rw [h] at hk; simp at hk; exact h
      have : (Builtin.zeroCells z.cells len)[k]'(by rw [hzl]; exact hk) = z.cells[k % z.cells.size]! := by simp [Builtin.zeroCells]
      rw [this]
      exact hzo _ (Nat.mod_lt _ hpos)) (by simp [hzl, hzs]; omega)
    refine upon_v (s := Builtin.clear_ #[t] ty #[ev x]) (by simp [execOp, resolve, invoke, builtin]) ⟨.tuple #[], w', ?_, { κ with w := w' }, .tup [], _, rfl, h2, h3, hnil _, ?_⟩
    · rw [hev]
      obtain ⟨m, rfl⟩ := Nat.exists_eq_succ_of_ne_zero h0
      simp only [Builtin.clear_, Sem.run_bind, List.getElem?_toArray, List.getElem?_cons_zero, Sem.run_pure, Result.andThen_ok, run_underlying hts, run_zeroValue' hz]
      simp only [Nat.succ_eq_add_one] at h1
      simp [h1]
    · rw [Nat.add_zero]
      exact hk _ (by simp [hzl, hzs])
end
end Go.Ab
end

section
set_option linter.all false
namespace Go.Ab
open Go.RowKit (Below)
open Go.Shelf Go.Proofs Go.Sort

section
variable {P : Program} {σ : Store}
end
end Go.Ab
end

section
set_option linter.all false
set_option maxRecDepth 100000
namespace Go.Proofs
open Go.Shelf
end Go.Proofs
namespace Go.Proofs.YtbcgkbdacijoiaaGreat
open Go.Ab Go.Shelf Go.Sort
instance : Inhabited Sib := ⟨⟨.empty, 0, .empty, false, 0⟩⟩
end Go.Proofs.YtbcgkbdacijoiaaGreat
end

section
set_option linter.all false
set_option maxRecDepth 100000
namespace Go.Proofs.YtbcgkbdacijoiaaGreat
open Go.Ab

theorem get_if {α : Type} [Inhabited α] (l : List α) (k : Nat) : ∃ x : α, k < l.length → l[k]? = some x := by
  by_cases h : k < l.length
  · exact ⟨l[k], fun _ => List.getElem?_eq_getElem h⟩
  · exact ⟨default, fun h' => absurd h' h⟩
end Go.Proofs.YtbcgkbdacijoiaaGreat
end

section
set_option linter.all false
set_option maxRecDepth 100000
namespace Go.Proofs.YtbcgkbdacijoiaaGreat
open Go.Ab

structure NodesI (a b : List Seen) (i k : Nat) (out : List ByteArray) : Prop where
  ri : RiseN out
  mem : ∀ s, s ∈ out ↔ (∃ x ∈ a.take i, x.node = s) ∨ ∃ x ∈ b.take k, x.node = s
  ha : ∀ s ∈ out, ∀ x ∈ a.drop i, sLt s x.node = true
  hb : ∀ s ∈ out, ∀ x ∈ b.drop k, sLt s x.node = true
theorem riseX_drop {a : List Seen} (ra : RiseX a) {i : Nat} {x : Seen} (hx : a[i]? = some x) : ∀ y ∈ a.drop (i + 1), sLt x.node y.node = true := by
  have h1 : RiseX (a.drop i) := List.Pairwise.sublist (List.drop_sublist i a) ra
  rw [drop_cons hx] at h1
  exact (List.pairwise_cons.1 h1).1
theorem NodesI.s1 {a b : List Seen} {i k : Nat} {out : List ByteArray} (h : NodesI a b i k out) (ra : RiseX a) {x : Seen} (hx : a[i]? = some x) (hlt : ∀ y ∈ b.drop k, sLt x.node y.node = true) : NodesI a b (i + 1) k (out ++ [x.node]) := by
  have hd := drop_cons hx
  have hxs : ∀ s ∈ out, sLt s x.node = true := fun s hs => h.ha s hs x (by rw [hd]; exact .head _)
  refine ⟨?_, fun s => ?_, fun s hs y hy => ?_, fun s hs y hy => ?_⟩
  · refine List.pairwise_append.2 ⟨h.ri, List.pairwise_singleton _ _, fun s hs t ht => ?_⟩
    rw [List.mem_singleton.1 ht]; exact hxs s hs
  · rw [List.mem_append, h.mem, List.mem_singleton, take_snoc hx]
    constructor
    · rintro ((⟨y, hy, e⟩ | ⟨y, hy, e⟩) | rfl)
      · exact .inl ⟨y, List.mem_append.2 (.inl hy), e⟩
      · exact .inr ⟨y, hy, e⟩
      · exact .inl ⟨x, List.mem_append.2 (.inr (List.mem_singleton.2 rfl)), rfl⟩
    · rintro (⟨y, hy, e⟩ | ⟨y, hy, e⟩)
      · rcases List.mem_append.1 hy with hy | hy
        · exact .inl (.inl ⟨y, hy, e⟩)
        · right; rw [← e, List.mem_singleton.1 hy]
      · exact .inl (.inr ⟨y, hy, e⟩)
  · rcases List.mem_append.1 hs with hs | hs
    · exact h.ha s hs y (by rw [hd]; exact .tail _ hy)
    · rw [List.mem_singleton.1 hs]; exact riseX_drop ra hx y hy
  · rcases List.mem_append.1 hs with hs | hs
    · exact h.hb s hs y hy
    · rw [List.mem_singleton.1 hs]; exact hlt y hy
instance : Inhabited Seen := ⟨⟨.empty, 0, []⟩⟩
end Go.Proofs.YtbcgkbdacijoiaaGreat
end

section
set_option linter.all false
namespace Go.Ab
section
variable {S S0 σ : Store} {o i : Nat} {x y z : AObj}
end
end Go.Ab
end

section
set_option linter.all false
set_option maxRecDepth 100000
namespace Go.Proofs.YtbcgkbdacijoiaaGreat
open Go.Ab

theorem rByte_c {n : Int} {σ : Store} : ACalls Tryz.prog 86 [vInt n] σ fun v σ' => v = vStr (B [byteI n]) ∧ σ = σ' := by
  have h1 := bAnd_255 n
  have h2 : (n % 256) % 256 = n % 256 := by omega
  refine ACalls_of Tryz.func86 rfl Tryz.ntmps86 (congrArg Array.toList Tryz.results86) (by simp only [List.length_cons, List.length_nil]; decide) ?_; simp only [envOf_cons, envOf_nil, Nat.reduceAdd]
  refine awp_seq ?_
  have R := And.intro h1 (And.intro wrap_u8 h2)
  refine awp_region (by kernel_rfl) ?_
  (refine aL_S rfl rfl v_ ?_)
  refine aL_nil ?_
  refine awp_seq ?_
  have R := And.intro h1 (And.intro wrap_u8 h2)
  refine awp_region (by kernel_rfl) ?_
  iterate 3 (refine aL_S rfl rfl v_ ?_)
  refine aL_buildSlice rfl rfl rfl g_ g_ rfl rfl h_ c2_ (by decide) ?_
  iterate 2 (refine aL_S rfl rfl v_ ?_)
  refine aL_nil ?_
  refine awp_ret ?_
  refine aEnd_ret (σ' := σ) v_ sub_ ?_
  exact ⟨by rw [← strOf_byte], rfl⟩
theorem rInt_c {n : Int} {σ : Store} : ACalls Tryz.prog 91 [vInt n] σ fun v σ' => v = vStr (B (beI 8 n)) ∧ σ = σ' := by
  have h00 : (56 : Int) - 8 * ((0 : Nat) : Int) = 56 := by omega
  refine ACalls_of Tryz.func91 rfl Tryz.ntmps91 (congrArg Array.toList Tryz.results91) (by simp only [List.length_cons, List.length_nil]; decide) ?_; simp only [envOf_cons, envOf_nil, Nat.reduceAdd]
  refine awp_seq ?_
  refine awp_region (by kernel_rfl) ?_
  (refine aL_S rfl rfl v_ ?_)
  refine aL_nil ?_
  refine awp_seq ?_
  refine awp_region (by kernel_rfl) ?_
  (refine aL_S rfl rfl v_ ?_)
  refine aL_nil ?_
  refine awp_seq ?_
  refine awp_seq ?_
  refine awp_region (by kernel_rfl) ?_
  (refine aL_S rfl rfl v_ ?_)
  refine aL_nil ?_
  refine awp_block ?_
  refine awp_loop_env (ι := Nat) (fun j => 8 - j) (fun j => j ≤ 8) (fun j => [(0, vInt n), (3, vStr (B ((beI 8 n).take j))), (4, vInt (56 - 8 * (j : Int)))]) (fun j => σ) 0 ?_ ?_ ?_ ?_
  · exact Nat.zero_le _
  · have R := h00; exact cv_
  · exact sub_
  rintro j hj
  simp only [envL_cons, envL_nil]
  refine awp_seq ?_
  refine awp_seq ?_
  refine awp_region (by kernel_rfl) ?_
  iterate 2 (refine aL_S rfl rfl v_ ?_)
  refine aL_nil ?_
  refine awp_cond v_ (fun hc3 => ?_) (fun hc3 => ?_)
  · replace hc3 := nm_ hc3
    refine awp_skip ?_
    refine awp_seq ?_
    refine awp_block ?_
    have hbj := take_beI n 8 j (by omega)
    have hcv : (56 : Int) - 8 * (j : Int) - 8 = 56 - 8 * ((j + 1 : Nat) : Int) := by omega
    have hsh : ((56 : Int) - 8 * (j : Int)).toNat = 8 * (7 - j) := by omega
    have hst : (beI 8 n).take j ++ [byteI (n / 256 ^ (7 - j))] = (beI 8 n).take (j + 1) := (take_snoc hbj).symm
    have hlt : ((beI 8 n).take j).length ≤ 8 := by rw [List.length_take]; omega
    have hl1 : ([byteI (n / 256 ^ (7 - j))] : List UInt8).length = 1 := rfl
    have R := And.intro hsh (And.intro fdiv_pow (And.intro bAnd_255 byteI_mod))
    refine awp_region (by kernel_rfl) ?_
    iterate 5 (refine aL_S rfl rfl v_ ?_)
    refine aL_X rfl rfl (AOp_use rfl rfl (.inr ⟨rfl, rfl, rfl⟩) g_ va_ (rByte_c) ?_); rintro _ _ ⟨rfl, rfl⟩
    iterate 2 (refine aL_S rfl rfl v_ ?_)
    refine aL_nil ?_
    refine awp_region (by kernel_rfl) ?_
    iterate 3 (refine aL_S rfl rfl v_ ?_)
    refine aL_nil ?_
    refine aNext (ι := Nat) (i := j) (j + 1) ?_ ?_ ?_ ?_
    · omega
    · omega
    · have R := And.intro hcv hst; exact cv_
    · exact sub_
  · replace hc3 := nm_ hc3
    refine awp_exit ?_
    refine aThen_exit ?_
    refine aThen_exit ?_
    refine aBlock_hit ?_
    refine awp_seq ?_
    refine awp_region (by kernel_rfl) ?_
    iterate 2 (refine aL_S rfl rfl v_ ?_)
    refine aL_nil ?_
    refine awp_ret ?_
    refine aEnd_ret (σ' := σ) v_ sub_ ?_
    exact ⟨by rw [List.take_of_length_le (by rw [beI_length]; omega)], rfl⟩
theorem rCount_c {n : Int} {σ : Store} : ACalls Tryz.prog 104 [vInt n] σ fun v σ' => v = vStr (B (beI 4 n)) ∧ σ = σ' := by
  refine ACalls_of Tryz.func104 rfl Tryz.ntmps104 (congrArg Array.toList Tryz.results104) (by simp only [List.length_cons, List.length_nil]; decide) ?_; simp only [envOf_cons, envOf_nil, Nat.reduceAdd]
  refine awp_seq ?_
  refine awp_region (by kernel_rfl) ?_
  (refine aL_S rfl rfl v_ ?_)
  refine aL_nil ?_
  refine awp_seq ?_
  have R := And.intro B_size beI_length
  refine awp_region (by kernel_rfl) ?_
  (refine aL_S rfl rfl v_ ?_)
  refine aL_X rfl rfl (AOp_use rfl rfl (.inr ⟨rfl, rfl, rfl⟩) g_ va_ (rInt_c) ?_); rintro _ _ ⟨rfl, rfl⟩
  iterate 2 (refine aL_S rfl rfl v_ ?_)
  refine aL_nil ?_
  refine awp_ret ?_
  refine aEnd_ret (σ' := σ) v_ sub_ ?_
  exact ⟨by rw [extract_B, Lb_B, List.take_of_length_le (by rw [beI_length]; decide), beI_drop n 4 4], rfl⟩
theorem rText_c {s : ByteArray} {σ : Store} (hs : s.size ≤ 1000000000) : ACalls Tryz.prog 87 [vStr s] σ fun v σ' => v = vStr (B (textB s)) ∧ σ = σ' := by
  obtain ⟨l, rfl⟩ : ∃ l, s = B l := ⟨Lb s, (B_Lb s).symm⟩
  rw [B_size] at hs
  have h4 : (beI 4 (l.length : Int)).length = 4 := beI_length ..
  refine ACalls_of Tryz.func87 rfl Tryz.ntmps87 (congrArg Array.toList Tryz.results87) (by simp only [List.length_cons, List.length_nil]; decide) ?_; simp only [envOf_cons, envOf_nil, Nat.reduceAdd]
  refine awp_seq ?_
  refine awp_region (by kernel_rfl) ?_
  (refine aL_S rfl rfl v_ ?_)
  refine aL_nil ?_
  refine awp_seq ?_
  have R := B_size
  refine awp_region (by kernel_rfl) ?_
  iterate 2 (refine aL_S rfl rfl v_ ?_)
  refine aL_X rfl rfl (AOp_use rfl rfl (.inr ⟨rfl, rfl, rfl⟩) g_ va_ (rCount_c) ?_); rintro _ _ ⟨rfl, rfl⟩
  iterate 3 (refine aL_S rfl rfl v_ ?_)
  refine aL_nil ?_
  refine awp_ret ?_
  refine aEnd_ret (σ' := σ) v_ sub_ ?_
  exact ⟨by rw [textB, Lb_B, B_size], rfl⟩

theorem app_nil8 (l : List UInt8) : l ++ [] = l := List.append_nil l
theorem fm_nil {α : Type} (f : α → List UInt8) : List.flatMap f [] = [] := rfl
theorem beI_one (n : Int) : beI 1 n = [byteI n] := by simp [beI]
theorem rSib_c {x : Sib} {σ : Store} (hx : SibSm x) : ACalls Tryz.prog 168 [sSib x] σ fun v σ' => v = vStr (B (sibB x)) ∧ σ = σ' := by
  have h1 := hx.node; have h2 := hx.value
  have l1 := textB_length x.node; have l2 := textB_length x.value; have l3 := beI_length 8 x.n; have l4 := beI_length 1 (goneI x.gone); have l5 := beI_length 8 x.time
  have q1 : (textB x.node ++ beI 8 x.n).length = 12 + x.node.size := by rw [List.length_append]; omega
  have q2 : (textB x.node ++ beI 8 x.n ++ textB x.value).length = 16 + x.node.size + x.value.size := by rw [List.length_append]; omega
  have q3 : (textB x.node ++ beI 8 x.n ++ textB x.value ++ [byteI (goneI x.gone)]).length = 17 + x.node.size + x.value.size := by rw [List.length_append]; simp; omega
  have q4 : ([byteI (goneI x.gone)] : List UInt8).length = 1 := rfl
  refine ACalls_of Tryz.func168 rfl Tryz.ntmps168 (congrArg Array.toList Tryz.results168) (by simp only [List.length_cons, List.length_nil]; decide) ?_; simp only [envOf_cons, envOf_nil, Nat.reduceAdd]
  refine awp_seq ?_
  refine awp_region (by kernel_rfl) ?_
  refine aL_box rfl rfl rfl v_ rfl g_ fun o1 ho1 => ?_
  repeat (rw [none_set_iff] at ho1; obtain ⟨_, ho1⟩ := ho1)
  (refine aL_S rfl rfl v_ ?_)
  refine aL_nil ?_
  refine awp_seq ?_
  refine awp_region (by kernel_rfl) ?_
  (refine aL_S rfl rfl v_ ?_)
  refine aL_nil ?_
  refine awp_seq_mid (ι := Unit) (fun _ => True) (fun _ => [(1, .ref o1 0), (3, vInt (goneI x.gone))]) (fun _ => (σ.set o1 (.cells (sSib x).cells))) ?_ ?_
  · refine awp_seq ?_
    refine awp_region (by kernel_rfl) ?_
    iterate 2 (refine aL_S rfl rfl v_ ?_)
    refine aL_nil ?_
    refine awp_cond v_ (fun hc2 => ?_) (fun hc2 => ?_)
    · replace hc2 := nm_ hc2
      have hg1 : goneI x.gone = 1 := by rw [hc2]; rfl
      refine awp_region (by kernel_rfl) ?_
      (refine aL_S rfl rfl v_ ?_)
      refine aL_nil ?_
      refine ⟨(), ?_, ?_, ?_⟩
      · trivial
      · have R := hg1; exact cv_
      · exact Store.Wk.refl _
    · replace hc2 := nm_ hc2
      have hg2 : goneI x.gone = 0 := by rw [hc2]; rfl
      refine awp_skip ?_
      refine ⟨(), ?_, ?_, ?_⟩
      · trivial
      · have R := hg2; exact cv_
      · exact Store.Wk.refl _
  · rintro _ _
    simp only [envL_cons, envL_nil]
    refine awp_seq ?_
    refine awp_draw (.op 0 0 (.op 1 0 (.op 2 0 (.op 4 0 (.op 5 0 (.op 6 0 (.op 9 0 (.op 10 0 (.op 13 0 (.op 16 0 (.op 17 0 (.op 3 1 (.op 7 1 (.op 8 0 (.op 11 1 (.op 12 0 (.op 14 1 (.op 15 0 (.op 18 1 (.op 19 0 (.op 20 0 .nil))))))))))))))))))))) Tryz.mixed (by kernel_rfl) ?_
    iterate 11 (refine dR_S o_ (by rfl) (by rfl) v_ ?_)
    refine dR_X o_ (by rfl) (by rfl) (AOp_use (by rfl) (by rfl) (.inr ⟨by rfl, by rfl, by rfl⟩) g_ va_ (rText_c (by omega)) ?_); rintro _ _ ⟨rfl, rfl⟩; refine ⟨sub_, ?_⟩
    refine dR_X o_ (by rfl) (by rfl) (AOp_use (by rfl) (by rfl) (.inr ⟨by rfl, by rfl, by rfl⟩) g_ va_ (rInt_c) ?_); rintro _ _ ⟨rfl, rfl⟩; refine ⟨sub_, ?_⟩
    (refine dR_S o_ (by rfl) (by rfl) v_ ?_)
    refine dR_X o_ (by rfl) (by rfl) (AOp_use (by rfl) (by rfl) (.inr ⟨by rfl, by rfl, by rfl⟩) g_ va_ (rText_c (by omega)) ?_); rintro _ _ ⟨rfl, rfl⟩; refine ⟨sub_, ?_⟩
    (refine dR_S o_ (by rfl) (by rfl) v_ ?_)
    refine dR_X o_ (by rfl) (by rfl) (AOp_use (by rfl) (by rfl) (.inr ⟨by rfl, by rfl, by rfl⟩) g_ va_ (rByte_c) ?_); rintro _ _ ⟨rfl, rfl⟩; refine ⟨sub_, ?_⟩
    (refine dR_S o_ (by rfl) (by rfl) v_ ?_)
    refine dR_X o_ (by rfl) (by rfl) (AOp_use (by rfl) (by rfl) (.inr ⟨by rfl, by rfl, by rfl⟩) g_ va_ (rInt_c) ?_); rintro _ _ ⟨rfl, rfl⟩; refine ⟨sub_, ?_⟩
    iterate 2 (refine dR_S o_ (by rfl) (by rfl) v_ ?_)
    refine dR_nil ?_
    refine awp_ret ?_
    refine aEnd_ret (σ' := σ) v_ sub_ ?_
    exact ⟨by rw [sibB, beI_one], rfl⟩

theorem rCtx_c {c : List Seen} {t : Bool} {σ : Store} (hc : ∀ y ∈ c, SeenSm y) (hn : c.length ≤ 1000) : ACalls Tryz.prog 167 [.sl 3 (c.map sSeen) t] σ fun v σ' => v = vStr (B (ctxB c)) ∧ σ = σ' := by
  have hle := ctxB_le hc hn
  refine ACalls_of Tryz.func167 rfl Tryz.ntmps167 (congrArg Array.toList Tryz.results167) (by simp only [List.length_cons, List.length_nil]; decide) ?_; simp only [envOf_cons, envOf_nil, Nat.reduceAdd]
  refine awp_seq ?_
  refine awp_region (by kernel_rfl) ?_
  (refine aL_S rfl rfl v_ ?_)
  refine aL_nil ?_
  refine awp_seq ?_
  refine awp_region (by kernel_rfl) ?_
  iterate 2 (refine aL_S rfl rfl v_ ?_)
  refine aL_X rfl rfl (AOp_use rfl rfl (.inr ⟨rfl, rfl, rfl⟩) g_ va_ (rCount_c) ?_); rintro _ _ ⟨rfl, rfl⟩
  (refine aL_S rfl rfl v_ ?_)
  refine aL_nil ?_
  refine awp_seq ?_
  refine awp_seq ?_
  refine awp_region (by kernel_rfl) ?_
  (refine aL_S rfl rfl v_ ?_)
  refine aL_nil ?_
  refine awp_block ?_
  refine awp_loop_env (ι := Nat) (fun i => c.length - i) (fun i => i ≤ c.length) (fun i => [(0, .sl 3 (c.map sSeen) t), (3, vStr (B (beI 4 c.length ++ (c.take i).flatMap seenB))), (4, vInt i)]) (fun i => σ) 0 ?_ ?_ ?_ ?_
  · exact Nat.zero_le _
  · have R := And.intro app_nil8 @fm_nil; exact cv_
  · exact sub_
  rintro i hi
  simp only [envL_cons, envL_nil]
  refine awp_seq ?_
  refine awp_seq ?_
  refine awp_region (by kernel_rfl) ?_
  iterate 4 (refine aL_S rfl rfl v_ ?_)
  refine aL_nil ?_
  refine awp_cond v_ (fun hc3 => ?_) (fun hc3 => ?_)
  · replace hc3 := nm_ hc3
    refine awp_skip ?_
    refine awp_seq ?_
    refine awp_block ?_
    refine awp_seq ?_
    obtain ⟨x, hx⟩ : ∃ x, c[i]? = some x := ⟨c[i]'(by omega), List.getElem?_eq_getElem _⟩
    have hsm := hc x (List.mem_of_getElem? hx)
    have s1 := hsm.node; have s2 := hsm.more
    have hb := flatMap_take_le (f := seenB) c (i + 1)
    rw [flatMap_take hx, List.length_append, seenB_length] at hb
    obtain ⟨S, hS⟩ : ∃ S, beI 4 (c.length : Int) ++ (c.take i).flatMap seenB = S := ⟨_, rfl⟩
    have hSl : S.length = 4 + ((c.take i).flatMap seenB).length := by rw [← hS, List.length_append, beI_length]
    have l1 := textB_length x.node; have l3 := beI_length 8 x.base; have l4 := beI_length 4 (x.more.length : Int)
    have q1 : (S ++ textB x.node).length = S.length + 4 + x.node.size := by rw [List.length_append]; omega
    have q2 : (S ++ textB x.node ++ beI 8 x.base).length = S.length + 12 + x.node.size := by rw [List.length_append]; omega
    have q3 : (S ++ textB x.node ++ beI 8 x.base ++ beI 4 (x.more.length : Int)).length = S.length + 16 + x.node.size := by rw [List.length_append]; omega
    have R := And.intro hx hS
    refine awp_draw (.op 0 0 (.op 1 0 (.op 2 0 (.op 3 0 (.op 4 0 (.op 5 0 (.op 8 0 (.op 9 0 (.op 10 0 (.op 11 0 (.op 12 0 (.op 15 0 (.op 16 0 (.op 17 0 (.op 18 0 (.op 19 0 (.op 20 0 (.op 6 1 (.op 7 0 (.op 13 1 (.op 14 0 (.op 21 1 (.op 22 0 (.op 23 0 .nil)))))))))))))))))))))))) Tryz.mixed (by kernel_rfl) ?_
    iterate 17 (refine dR_S o_ (by rfl) (by rfl) v_ ?_)
    refine dR_X o_ (by rfl) (by rfl) (AOp_use (by rfl) (by rfl) (.inr ⟨by rfl, by rfl, by rfl⟩) g_ va_ (rText_c (by omega)) ?_); rintro _ _ ⟨rfl, rfl⟩; refine ⟨sub_, ?_⟩
    (refine dR_S o_ (by rfl) (by rfl) v_ ?_)
    refine dR_X o_ (by rfl) (by rfl) (AOp_use (by rfl) (by rfl) (.inr ⟨by rfl, by rfl, by rfl⟩) g_ va_ (rInt_c) ?_); rintro _ _ ⟨rfl, rfl⟩; refine ⟨sub_, ?_⟩
    (refine dR_S o_ (by rfl) (by rfl) v_ ?_)
    refine dR_X o_ (by rfl) (by rfl) (AOp_use (by rfl) (by rfl) (.inr ⟨by rfl, by rfl, by rfl⟩) g_ va_ (rCount_c) ?_); rintro _ _ ⟨rfl, rfl⟩; refine ⟨sub_, ?_⟩
    iterate 2 (refine dR_S o_ (by rfl) (by rfl) v_ ?_)
    refine dR_nil ?_
    refine awp_seq ?_
    refine awp_region (by kernel_rfl) ?_
    (refine aL_S rfl rfl v_ ?_)
    refine aL_nil ?_
    refine awp_block ?_
    refine awp_loop_env (ι := Nat) (fun k => x.more.length - k) (fun k => k ≤ x.more.length) (fun k => [(0, .sl 3 (c.map sSeen) t), (3, vStr (B (S ++ textB x.node ++ beI 8 x.base ++ beI 4 (x.more.length : Int) ++ (x.more.take k).flatMap (beI 8)))), (4, vInt i), (5, vInt k)]) (fun k => σ) 0 ?_ ?_ ?_ ?_
    · exact Nat.zero_le _
    · have R := And.intro app_nil8 @fm_nil; exact cv_
    · exact sub_
    rintro k hk
    simp only [envL_cons, envL_nil]
    refine awp_seq ?_
    refine awp_seq ?_
    have R := hx
    refine awp_region (by kernel_rfl) ?_
    iterate 8 (refine aL_S rfl rfl v_ ?_)
    refine aL_nil ?_
    refine awp_cond v_ (fun hc7 => ?_) (fun hc7 => ?_)
    · replace hc7 := nm_ hc7
      refine awp_skip ?_
      refine awp_seq ?_
      refine awp_block ?_
      obtain ⟨n, hn⟩ : ∃ n, x.more[k]? = some n := ⟨x.more[k]'(by omega), List.getElem?_eq_getElem _⟩
      have hkx : S ++ textB x.node ++ beI 8 x.base ++ beI 4 (x.more.length : Int) ++ (x.more.take k).flatMap (beI 8) ++ beI 8 n = S ++ textB x.node ++ beI 8 x.base ++ beI 4 (x.more.length : Int) ++ (x.more.take (k + 1)).flatMap (beI 8) := by rw [flatMap_take hn, ← List.append_assoc]
      have hb2 := flatMap_take_le (f := beI 8) x.more (k + 1)
      rw [flatMap_take hn, List.length_append, beI_length, flat8_length x.more] at hb2
      have q4 : (S ++ textB x.node ++ beI 8 x.base ++ beI 4 (x.more.length : Int) ++ (x.more.take k).flatMap (beI 8)).length = S.length + 16 + x.node.size + ((x.more.take k).flatMap (beI 8)).length := by rw [List.length_append]; omega
      have l5 := beI_length 8 n
      have R := And.intro hx hn
      refine awp_region (by kernel_rfl) ?_
      iterate 9 (refine aL_S rfl rfl v_ ?_)
      refine aL_X rfl rfl (AOp_use rfl rfl (.inr ⟨rfl, rfl, rfl⟩) g_ va_ (rInt_c) ?_); rintro _ _ ⟨rfl, rfl⟩
      iterate 2 (refine aL_S rfl rfl v_ ?_)
      refine aL_nil ?_
      refine awp_region (by kernel_rfl) ?_
      iterate 3 (refine aL_S rfl rfl v_ ?_)
      refine aL_nil ?_
      refine aNext (ι := Nat) (i := k) (k + 1) ?_ ?_ ?_ ?_
      · omega
      · omega
      · have R := hkx; exact cv_
      · exact sub_
    · replace hc7 := nm_ hc7
      refine awp_exit ?_
      refine aThen_exit ?_
      refine aThen_exit ?_
      refine aBlock_hit ?_
      skip
      have hnx : S ++ textB x.node ++ beI 8 x.base ++ beI 4 (x.more.length : Int) ++ (x.more.take k).flatMap (beI 8) = beI 4 (c.length : Int) ++ (c.take (i + 1)).flatMap seenB := by
        rw [flatMap_take hx, List.take_of_length_le (show x.more.length ≤ k by omega), ← hS]
        simp [seenB, listB, List.append_assoc]
      refine awp_region (by kernel_rfl) ?_
      iterate 3 (refine aL_S rfl rfl v_ ?_)
      refine aL_nil ?_
      refine aNext (ι := Nat) (i := i) (i + 1) ?_ ?_ ?_ ?_
      · omega
      · omega
      · have R := hnx; exact cv_
      · exact sub_
  · replace hc3 := nm_ hc3
    refine awp_exit ?_
    refine aThen_exit ?_
    refine aThen_exit ?_
    refine aBlock_hit ?_
    refine awp_seq ?_
    refine awp_region (by kernel_rfl) ?_
    iterate 2 (refine aL_S rfl rfl v_ ?_)
    refine aL_nil ?_
    refine awp_ret ?_
    refine aEnd_ret (σ' := σ) v_ sub_ ?_
    exact ⟨by rw [List.take_of_length_le (by omega)]; rfl, rfl⟩
theorem rRaw_c {x : Obj'} {σ : Store} (hx : ObjSm x) : ACalls Tryz.prog 88 [sObj x] σ fun v σ' => v = vStr (B (objB x)) ∧ σ = σ' := by
  have hle := ctxB_le hx.ctx hx.nc
  have hle2 := sibsB_le hx.sibs hx.ns
  have hcl : (ctxB x.ctx).length = 4 + (x.ctx.flatMap seenB).length := by rw [ctxB, listB, List.length_append, beI_length]
  have l4 := beI_length 4 (x.sibs.length : Int)
  have q1 : (ctxB x.ctx ++ beI 4 (x.sibs.length : Int)).length = 8 + (x.ctx.flatMap seenB).length := by rw [List.length_append]; omega
  have hns := hx.ns
  refine ACalls_of Tryz.func88 rfl Tryz.ntmps88 (congrArg Array.toList Tryz.results88) (by simp only [List.length_cons, List.length_nil]; decide) ?_; simp only [envOf_cons, envOf_nil, Nat.reduceAdd]
  refine awp_seq ?_
  refine awp_region (by kernel_rfl) ?_
  refine aL_box rfl rfl rfl v_ rfl g_ fun o1 ho1 => ?_
  repeat (rw [none_set_iff] at ho1; obtain ⟨_, ho1⟩ := ho1)
  (refine aL_S rfl rfl v_ ?_)
  refine aL_nil ?_
  refine awp_seq ?_
  refine awp_draw (.op 0 0 (.op 1 0 (.op 3 0 (.op 4 0 (.op 5 0 (.op 2 1 (.op 6 1 (.op 7 0 (.op 8 0 .nil))))))))) Tryz.mixed (by kernel_rfl) ?_
  iterate 5 (refine dR_S o_ (by rfl) (by rfl) v_ ?_)
  refine dR_X o_ (by rfl) (by rfl) (AOp_use (by rfl) (by rfl) (.inr ⟨by rfl, by rfl, by rfl⟩) g_ va_ (rCtx_c hx.ctx hx.nc) ?_); rintro _ _ ⟨rfl, rfl⟩; refine ⟨sub_, ?_⟩
  refine dR_X o_ (by rfl) (by rfl) (AOp_use (by rfl) (by rfl) (.inr ⟨by rfl, by rfl, by rfl⟩) g_ va_ (rCount_c) ?_); rintro _ _ ⟨rfl, rfl⟩; refine ⟨sub_, ?_⟩
  iterate 2 (refine dR_S o_ (by rfl) (by rfl) v_ ?_)
  refine dR_nil ?_
  refine awp_seq ?_
  refine awp_seq ?_
  refine awp_region (by kernel_rfl) ?_
  (refine aL_S rfl rfl v_ ?_)
  refine aL_nil ?_
  refine awp_block ?_
  refine awp_loop_env (ι := Nat) (fun i => x.sibs.length - i) (fun i => i ≤ x.sibs.length) (fun i => [(1, .ref o1 0), (3, vStr (B (ctxB x.ctx ++ beI 4 (x.sibs.length : Int) ++ (x.sibs.take i).flatMap sibB))), (4, vInt i)]) (fun i => (σ.set o1 (.cells (sObj x).cells))) 0 ?_ ?_ ?_ ?_
  · exact Nat.zero_le _
  · have R := And.intro app_nil8 @fm_nil; exact cv_
  · exact Store.Wk.refl _
  rintro i hi
  simp only [envL_cons, envL_nil]
  refine awp_seq ?_
  refine awp_seq ?_
  refine awp_region (by kernel_rfl) ?_
  iterate 5 (refine aL_S rfl rfl v_ ?_)
  refine aL_nil ?_
  refine awp_cond v_ (fun hc3 => ?_) (fun hc3 => ?_)
  · replace hc3 := nm_ hc3
    refine awp_skip ?_
    refine awp_seq ?_
    refine awp_block ?_
    obtain ⟨y, hy⟩ : ∃ y, x.sibs[i]? = some y := ⟨x.sibs[i]'(by omega), List.getElem?_eq_getElem _⟩
    have hsm := hx.sibs y (List.mem_of_getElem? hy)
    have hb := flatMap_take_le (f := sibB) x.sibs (i + 1)
    rw [flatMap_take hy, List.length_append] at hb
    have q2 : (ctxB x.ctx ++ beI 4 (x.sibs.length : Int) ++ (x.sibs.take i).flatMap sibB).length = 8 + (x.ctx.flatMap seenB).length + ((x.sibs.take i).flatMap sibB).length := by rw [List.length_append]; omega
    have hnx : ctxB x.ctx ++ beI 4 (x.sibs.length : Int) ++ (x.sibs.take i).flatMap sibB ++ sibB y = ctxB x.ctx ++ beI 4 (x.sibs.length : Int) ++ (x.sibs.take (i + 1)).flatMap sibB := by rw [flatMap_take hy, ← List.append_assoc]
    have R := hy
    refine awp_region (by kernel_rfl) ?_
    iterate 6 (refine aL_S rfl rfl v_ ?_)
    refine aL_X rfl rfl (AOp_use rfl rfl (.inr ⟨rfl, rfl, rfl⟩) g_ va_ (rSib_c hsm) ?_); rintro _ _ ⟨rfl, rfl⟩
    iterate 2 (refine aL_S rfl rfl v_ ?_)
    refine aL_nil ?_
    refine awp_region (by kernel_rfl) ?_
    iterate 3 (refine aL_S rfl rfl v_ ?_)
    refine aL_nil ?_
    refine aNext (ι := Nat) (i := i) (i + 1) ?_ ?_ ?_ ?_
    · omega
    · omega
    · have R := hnx; exact cv_
    · exact Store.Wk.refl _
  · replace hc3 := nm_ hc3
    refine awp_exit ?_
    refine aThen_exit ?_
    refine aThen_exit ?_
    refine aBlock_hit ?_
    refine awp_seq ?_
    refine awp_region (by kernel_rfl) ?_
    iterate 2 (refine aL_S rfl rfl v_ ?_)
    refine aL_nil ?_
    refine awp_ret ?_
    refine aEnd_ret (σ' := σ) v_ sub_ ?_
    exact ⟨by rw [List.take_of_length_le (by omega), objB, listB, ← List.append_assoc], rfl⟩
end Go.Proofs.YtbcgkbdacijoiaaGreat
end
