/-
  What was written is read again: plain; How much is read of few bytes: plain; Messages: what was written is read again; how much is read of few bytes. Plain; What is read without fault: so many bytes taken, and what lies behind does not matter. Plain. Own work (an AI agent).
-/
import Derived.Test.YtbjloippgpilcaaGreatGP
import Derived.Test.YtbjloippgpilcaaGreatGH
import Derived.Test.YtbjloippgpilcaaGreatJD
import Derived.Test.YtbjloippgpilcaaGreatJA

section
set_option linter.all false
set_option maxRecDepth 100000
namespace Go.Proofs.YtbjloippgpilcaaGreat
open Go.Ab

theorem rdTake_app (a r : List UInt8) {n : Nat} (h : n = a.length) : rdTake (a ++ r, true) n = (a, r, true) := by
  subst h
  simp [rdTake]
theorem rdNum_app (n : Int) (r : List UInt8) (h1 : -9223372036854775808 ≤ n) (h2 : n ≤ 9223372036854775807) : rdNum (beI 8 n ++ r, true) 8 = (n, r, true) := by
  rw [rdNum, rdTake_app _ _ (beI_length 8 n).symm, rdI_beI8 n h1 h2]
theorem rdByte_app (n : Int) (r : List UInt8) (h1 : 0 ≤ n) (h2 : n < 256) : rdNum (beI 1 n ++ r, true) 1 = (n, r, true) := by
  rw [rdNum, rdTake_app _ _ (beI_length 1 n).symm, rdI_beI 1 n (by decide) h1 (by simpa using h2)]
theorem rdCnt_app (k m : Nat) (r : List UInt8) (h : k ≤ m) (h2 : k < 4294967296) : rdCnt (beI 4 (k : Int) ++ r, true) m = (k, r, true) := by
  have e : natB (beI 4 (k : Int)) = k := by
    have := natB_beI 4 (k : Int)
    rw [show (256 : Int) ^ 4 = 4294967296 from by decide] at this
    omega
  rw [rdCnt, rdTake_app _ _ (beI_length 4 _).symm, e, if_neg (by omega)]
theorem rdText_app (s : ByteArray) (r : List UInt8) (h : s.size ≤ 1048576) : rdText (textB s ++ r, true) = (Lb s, r, true) := by
  rw [rdText, textB, List.append_assoc, rdCnt_app _ _ _ h (by omega)]
  exact rdTake_app _ _ (Lb_length s).symm
theorem rdMany_app {α : Type} {f : Rd → α × Rd} {w : α → List UInt8} (r : List UInt8) : ∀ (l : List α), (∀ x ∈ l, ∀ r, f (w x ++ r, true) = (x, r, true)) → rdMany f l.length (l.flatMap w ++ r, true) = (l, r, true)
  | [], _ => rfl
  | x :: l, h => by
    rw [List.length_cons, rdMany, List.flatMap_cons, List.append_assoc, h x (List.mem_cons_self ..)]
    have := rdMany_app r l fun y hy => h y (List.mem_cons_of_mem _ hy)
    simp [this]
theorem rdSev_app {α : Type} {f : Rd → α × Rd} {w : α → List UInt8} (r : List UInt8) (l : List α) (hl : l.length ≤ 65536) (h : ∀ x ∈ l, ∀ r, f (w x ++ r, true) = (x, r, true)) : rdSev f (listB w l ++ r, true) = (l, r, true) := by
  have := rdCnt_app l.length 65536 (l.flatMap w ++ r) hl (by omega)
  unfold rdSev listB
  rw [List.append_assoc, this]
  simp [rdMany_app r l h]
def I64 (n : Int) : Prop := -9223372036854775808 ≤ n ∧ n ≤ 9223372036854775807
structure SeenRt (x : Seen) : Prop where
  node : x.node.size ≤ 1048576
  base : I64 x.base
  len : x.more.length ≤ 65536
  more : ∀ n ∈ x.more, I64 n
structure SibRt (x : Sib) : Prop where
  node : x.node.size ≤ 1048576
  n : I64 x.n
  value : x.value.size ≤ 1048576
  time : I64 x.time
theorem rdSeen_app {x : Seen} (h : SeenRt x) (r : List UInt8) : rdSeen (seenB x ++ r, true) = (x, r, true) := by
  have e : seenB x ++ r = textB x.node ++ (beI 8 x.base ++ (listB (beI 8) x.more ++ r)) := by simp [seenB]
  have h3 := rdSev_app (f := rdI8) (w := beI 8) r x.more h.len fun n hn r => rdNum_app n r (h.more n hn).1 (h.more n hn).2
  unfold rdSeen
  rw [e, rdText_app _ _ h.node]
  dsimp only
  rw [rdNum_app _ _ h.base.1 h.base.2]
  dsimp only
  rw [h3, B_Lb]
theorem rdSib_app {x : Sib} (h : SibRt x) (r : List UInt8) : rdSib (sibB x ++ r, true) = (x, r, true) := by
  have e : sibB x ++ r = textB x.node ++ (beI 8 x.n ++ (textB x.value ++ (beI 1 (goneI x.gone) ++ (beI 8 x.time ++ r)))) := by simp [sibB]
  have hg : 0 ≤ goneI x.gone ∧ goneI x.gone < 256 := by unfold goneI; split <;> decide
  unfold rdSib
  rw [e, rdText_app _ _ h.node]
  dsimp only
  rw [rdNum_app _ _ h.n.1 h.n.2]
  dsimp only
  rw [rdText_app _ _ h.value]
  dsimp only
  rw [rdByte_app _ _ hg.1 hg.2]
  dsimp only
  rw [rdNum_app _ _ h.time.1 h.time.2, B_Lb, B_Lb]
  have : (!decide (goneI x.gone = 0)) = x.gone := by cases x.gone <;> rfl
  rw [this]
structure ObjRt (o : Obj') : Prop where
  ctx : ∀ x ∈ o.ctx, SeenRt x
  sibs : ∀ x ∈ o.sibs, SibRt x
  nc : o.ctx.length ≤ 65536
  ns : o.sibs.length ≤ 65536
theorem rdCtx_app {c : List Seen} (h : ∀ x ∈ c, SeenRt x) (hn : c.length ≤ 65536) (r : List UInt8) : rdCtx (ctxB c ++ r, true) = (c, r, true) := rdSev_app r c hn fun x hx r => rdSeen_app (h x hx) r
theorem rdObj_app {o : Obj'} (h : ObjRt o) (r : List UInt8) : rdObj (objB o ++ r, true) = (o, r, true) := by
  have e : objB o ++ r = ctxB o.ctx ++ (listB sibB o.sibs ++ r) := by simp [objB]
  unfold rdObj
  rw [e, rdCtx_app h.ctx h.nc]
  dsimp only
  rw [rdSev_app (f := rdSib) (w := sibB) r o.sibs h.ns fun x hx r => rdSib_app (h.sibs x hx) r]
  rfl
/-- an object that may be is read as it was -/
theorem objOk_rt {o : Obj'} (h : objOk o = true) (hn : o.ctx.length ≤ 65536) (hs : o.sibs.length ≤ 65536) : ObjRt o := by
  simp only [objOk, Bool.and_eq_true] at h
  have hc := ctxGo_all o.ctx _ _ h.1
  refine ⟨fun x hx => ?_, fun x hx => ?_, hn, hs⟩
  · obtain ⟨h1, h2⟩ := hc x hx
    simp only [seenOk, seenHd, Bool.and_eq_true, decide_eq_true_eq] at h1
    obtain ⟨⟨⟨⟨h4, h5⟩, h6⟩, _⟩, h7⟩ := h1
    have h8 := nameOk_size h4
    refine ⟨by omega, ⟨by omega, by omega⟩, by omega, fun n hn => ?_⟩
    have := riseOk_all _ _ h7 n hn
    exact ⟨by omega, by omega⟩
  · have key : ∀ (l : List Sib) (pv : Option Sib), sibsGo o.ctx pv l = true → ∀ x ∈ l, sibOk x = true := by
      intro l
      induction l with
      | nil => intro _ _ x hx; cases hx
      | cons y l ih =>
        intro pv hh x hx
        simp only [sibsGo, Bool.and_eq_true] at hh
        rcases List.mem_cons.1 hx with rfl | hx
        · exact hh.1.1.1
        · exact ih _ hh.2 x hx
    have h1 := key _ _ h.2 x hx
    simp only [sibOk, Bool.and_eq_true, decide_eq_true_eq] at h1
    obtain ⟨⟨⟨⟨h2, h3⟩, _⟩, h4⟩, h5⟩ := h1
    obtain ⟨⟨h6, h7⟩, h8⟩ := dotOk_iff.1 h2
    have h9 := nameOk_size h6
    exact ⟨by omega, ⟨by omega, by omega⟩, by omega, ⟨by omega, by omega⟩⟩
end Go.Proofs.YtbjloippgpilcaaGreat
end

section
set_option linter.all false
set_option maxRecDepth 100000
namespace Go.Proofs.YtbjloippgpilcaaGreat
open Go.Ab

/-- what a step takes: c bytes at least, where it does not fail -/
def Eats {α : Type} (c : Nat) (f : Rd → α × Rd) : Prop := ∀ x, (f x).2.1.length ≤ x.1.length ∧ ((f x).2.2 = true → x.2 = true ∧ (f x).2.1.length + c ≤ x.1.length)
theorem rdTake_eats (n : Nat) : Eats n fun x => rdTake x n := fun x => by
  simp only [rdTake]
  split
  · rename_i h
    exact ⟨by simp, fun _ => ⟨h.1, by simp; omega⟩⟩
  · simp
theorem rdTake_le2 (x : Rd) (n : Nat) : (rdTake x n).1.length ≤ x.1.length := by
  simp only [rdTake]
  split
  · simp; omega
  · simp
theorem rdNum_eats (n : Nat) : Eats n fun x => rdNum x n := fun x => rdTake_eats n x
theorem rdCnt_eats (m : Nat) : Eats 4 fun x => rdCnt x m := fun x => by
  have h := rdTake_eats 4 x
  simp only [rdCnt]
  split
  · exact ⟨h.1, fun hh => by cases hh⟩
  · exact h
theorem rdText_eats : Eats 4 rdText := fun x => by
  have h1 := rdCnt_eats 1048576 x
  have h2 := rdTake_eats (rdCnt x 1048576).1 (rdCnt x 1048576).2
  simp only at h1 h2
  unfold rdText
  refine ⟨by omega, fun hh => ?_⟩
  obtain ⟨h3, h4⟩ := h2.2 hh
  obtain ⟨h5, h6⟩ := h1.2 h3
  exact ⟨h5, by omega⟩
theorem rdText_len (x : Rd) : (rdText x).1.length ≤ x.1.length := by
  have h1 := rdCnt_eats 1048576 x
  have h2 := rdTake_le2 (rdCnt x 1048576).2 (rdCnt x 1048576).1
  simp only at h1
  unfold rdText
  omega
theorem rdMany_eats {α : Type} {f : Rd → α × Rd} {c : Nat} (hf : Eats c f) : ∀ n x, (rdMany f n x).2.1.length ≤ x.1.length ∧ ((rdMany f n x).2.2 = true → x.2 = true ∧ (rdMany f n x).2.1.length + c * (rdMany f n x).1.length ≤ x.1.length)
  | 0, x => ⟨Nat.le_refl _, fun h => ⟨h, by simp [rdMany]⟩⟩
  | n + 1, x => by
    have h1 := hf x
    have h2 := rdMany_eats hf n (f x).2
    rw [rdMany]
    cases hx : x.2 with
    | false => simp [hx]
    | true =>
      simp only [if_true, List.length_cons, Nat.mul_succ]
      refine ⟨by omega, fun hh => ⟨trivial, ?_⟩⟩
      obtain ⟨h3, h4⟩ := h2.2 hh
      obtain ⟨_, h6⟩ := h1.2 h3
      omega
theorem rdMany_all {α : Type} {f : Rd → α × Rd} {c N : Nat} {p : α → Prop} (hf : Eats c f) (hp : ∀ x, x.1.length ≤ N → p (f x).1) : ∀ n x, x.1.length ≤ N → ∀ a ∈ (rdMany f n x).1, p a
  | 0, x, _ => fun a ha => by cases ha
  | n + 1, x, hx => fun a ha => by
    rw [rdMany] at ha
    split at ha
    · rcases List.mem_cons.1 ha with rfl | ha
      · exact hp x hx
      · exact rdMany_all hf hp n (f x).2 (Nat.le_trans (hf x).1 hx) a ha
    · cases ha
theorem rdSev_eats {α : Type} {f : Rd → α × Rd} {c : Nat} (hf : Eats c f) : Eats 4 (rdSev f) := fun x => by
  have h1 := rdCnt_eats 65536 x
  have h2 := rdMany_eats hf (rdCnt x 65536).1 (rdCnt x 65536).2
  simp only at h1
  unfold rdSev
  dsimp only
  split
  · refine ⟨by omega, fun hh => ?_⟩
    obtain ⟨h3, h4⟩ := h2.2 hh
    obtain ⟨h5, h6⟩ := h1.2 h3
    exact ⟨h5, by omega⟩
  · rename_i hn
    exact ⟨by show (rdMany f _ _).2.1.length ≤ _; omega, fun hh => absurd hh hn⟩
theorem rdSev_len {α : Type} {f : Rd → α × Rd} {c : Nat} (hf : Eats c f) (x : Rd) : c * (rdSev f x).1.length ≤ x.1.length := by
  have h1 := rdCnt_eats 65536 x
  have h2 := rdMany_eats hf (rdCnt x 65536).1 (rdCnt x 65536).2
  simp only at h1
  unfold rdSev
  dsimp only
  split
  · rename_i hh
    obtain ⟨h3, h4⟩ := h2.2 hh
    omega
  · simp
theorem rdSev_all {α : Type} {f : Rd → α × Rd} {c N : Nat} {p : α → Prop} (hf : Eats c f) (hp : ∀ x, x.1.length ≤ N → p (f x).1) (x : Rd) (hx : x.1.length ≤ N) : ∀ a ∈ (rdSev f x).1, p a := fun a ha => by
  have h1 := rdCnt_eats 65536 x
  simp only at h1
  unfold rdSev at ha
  dsimp only at ha
  split at ha
  · exact rdMany_all hf hp _ _ (by omega) a ha
  · cases ha
theorem rdSeen_eats : Eats 4 rdSeen := fun x => by
  have h1 := rdText_eats x
  have h2 := rdNum_eats 8 (rdText x).2
  have h3 := rdSev_eats (f := rdI8) (rdNum_eats 8) (rdNum (rdText x).2 8).2
  simp only at h2
  unfold rdSeen
  dsimp only
  refine ⟨by omega, fun hh => ?_⟩
  obtain ⟨g1, g2⟩ := h3.2 hh
  obtain ⟨g3, g4⟩ := h2.2 g1
  obtain ⟨g5, g6⟩ := h1.2 g3
  exact ⟨g5, by omega⟩
theorem rdSib_eats : Eats 4 rdSib := fun x => by
  have h1 := rdText_eats x
  have h2 := rdNum_eats 8 (rdText x).2
  have h3 := rdText_eats (rdNum (rdText x).2 8).2
  have h4 := rdNum_eats 1 (rdText (rdNum (rdText x).2 8).2).2
  have h5 := rdNum_eats 8 (rdNum (rdText (rdNum (rdText x).2 8).2).2 1).2
  simp only at h2 h4 h5
  unfold rdSib
  dsimp only
  refine ⟨by omega, fun hh => ?_⟩
  obtain ⟨g1, g2⟩ := h5.2 hh
  obtain ⟨g3, g4⟩ := h4.2 g1
  obtain ⟨g5, g6⟩ := h3.2 g3
  obtain ⟨g7, g8⟩ := h2.2 g5
  obtain ⟨g9, g10⟩ := h1.2 g7
  exact ⟨g9, by omega⟩
theorem rdSeen_sm {x : Rd} (hx : x.1.length ≤ 100000) : SeenSm (rdSeen x).1 := by
  have h1 := rdText_len x
  have h2 := (rdText_eats x).1
  have h3 := (rdNum_eats 8 (rdText x).2).1
  have h4 := rdSev_len (f := rdI8) (rdNum_eats 8) (rdNum (rdText x).2 8).2
  simp only at h3
  refine ⟨?_, ?_⟩
  · show (B (rdText x).1).size ≤ _
    rw [B_size]; omega
  · show (rdSev rdI8 (rdNum (rdText x).2 8).2).1.length ≤ _
    omega
theorem rdSib_sm {x : Rd} (hx : x.1.length ≤ 100000) : SibSm (rdSib x).1 := by
  have h1 := rdText_len x
  have h2 := (rdText_eats x).1
  have h3 := (rdNum_eats 8 (rdText x).2).1
  have h4 := rdText_len (rdNum (rdText x).2 8).2
  simp only at h3
  refine ⟨?_, ?_⟩
  · show (B (rdText x).1).size ≤ _
    rw [B_size]; omega
  · show (B (rdText (rdNum (rdText x).2 8).2).1).size ≤ _
    rw [B_size]; omega
theorem rdCtx_sm {x : Rd} (hx : x.1.length ≤ 4000) : (∀ y ∈ (rdCtx x).1, SeenSm y) ∧ (rdCtx x).1.length ≤ 1000 := by
  have h := rdSev_len rdSeen_eats x
  exact ⟨rdSev_all (N := 4000) rdSeen_eats (fun y hy => rdSeen_sm (by omega)) x hx, by unfold rdCtx; omega⟩
theorem rdObj_sm {x : Rd} (hx : x.1.length ≤ 4000) : ObjSm (rdObj x).1 := by
  have h1 := rdCtx_sm hx
  have h2 := (rdSev_eats rdSeen_eats x).1
  have h3 : (rdCtx x).2.1.length ≤ 4000 := by unfold rdCtx; omega
  have h4 := rdSev_len rdSib_eats (rdCtx x).2
  have h5 := rdSev_all (N := 4000) rdSib_eats (fun y hy => rdSib_sm (by omega)) (rdCtx x).2 h3
  unfold rdObj
  dsimp only
  split
  · exact ⟨h1.1, h5, h1.2, by simp only; omega⟩
  · exact ⟨(fun y hy => by cases hy), (fun y hy => by cases hy), by simp, by simp⟩
end Go.Proofs.YtbjloippgpilcaaGreat
end

section
set_option linter.all false
set_option maxRecDepth 100000
namespace Go.Proofs.YtbjloippgpilcaaGreat
open Go.Ab

theorem rdRow_app {α : Type} {f : Rd → α × Rd} {w : α → List UInt8} (r : List UInt8) (l : List α) (hl : l.length ≤ 65536) (h : ∀ x ∈ l, ∀ r, f (w x ++ r, true) = (x, r, true)) : rdRow f (listB w l ++ r, true) = (l, r, true) := by
  have := rdCnt_app l.length 65536 (l.flatMap w ++ r) hl (by omega)
  unfold rdRow listB
  rw [List.append_assoc, this]
  exact rdMany_app r l h
structure LeafRt (x : Leaf) : Prop where
  place : x.place.size ≤ 1048576
  digest : x.digest.size ≤ 1048576
structure ItmRt (x : Itm) : Prop where
  place : x.place.size ≤ 1048576
  obj : ObjRt x.obj
structure EntRt (x : Ent) : Prop where
  key : x.key.size ≤ 1048576
  n : I64 x.n
  who : x.who.size ≤ 1048576
  value : x.value.size ≤ 1048576
structure MsgRt (m : Msg) : Prop where
  kind : 0 ≤ m.kind ∧ m.kind < 256
  frm : m.frm.size ≤ 1048576
  to : m.to.size ≤ 1048576
  num : I64 m.num
  err : 0 ≤ m.err ∧ m.err < 256
  place : m.place.size ≤ 1048576
  obj : ObjRt m.obj
  texts : ∀ x ∈ m.texts, x.size ≤ 1048576
  leaves : ∀ x ∈ m.leaves, LeafRt x
  items : ∀ x ∈ m.items, ItmRt x
  ents : ∀ x ∈ m.ents, EntRt x
  nt : m.texts.length ≤ 65536
  nl : m.leaves.length ≤ 65536
  ni : m.items.length ≤ 65536
  ne : m.ents.length ≤ 65536
theorem rdTx_app (s : ByteArray) (r : List UInt8) (h : s.size ≤ 1048576) : rdTx (textB s ++ r, true) = (s, r, true) := by
  unfold rdTx; rw [rdText_app _ _ h, B_Lb]
theorem rdLeaf_app {x : Leaf} (h : LeafRt x) (r : List UInt8) : rdLeaf (leafB x ++ r, true) = (x, r, true) := by
  unfold rdLeaf leafB
  rw [List.append_assoc, rdText_app _ _ h.place]
  dsimp only
  rw [rdText_app _ _ h.digest, B_Lb, B_Lb]
theorem rdItem_app {x : Itm} (h : ItmRt x) (r : List UInt8) : rdItem (itemB x ++ r, true) = (x, r, true) := by
  unfold rdItem itemB
  rw [List.append_assoc, rdText_app _ _ h.place]
  dsimp only
  rw [rdObj_app h.obj, B_Lb]
theorem rdEnt_app {x : Ent} (h : EntRt x) (r : List UInt8) : rdEnt (entB x ++ r, true) = (x, r, true) := by
  have e : entB x ++ r = textB x.key ++ (beI 8 x.n ++ (textB x.who ++ (textB x.value ++ r))) := by simp [entB]
  unfold rdEnt
  rw [e, rdText_app _ _ h.key]
  dsimp only
  rw [rdNum_app _ _ h.n.1 h.n.2]
  dsimp only
  rw [rdText_app _ _ h.who]
  dsimp only
  rw [rdText_app _ _ h.value, B_Lb, B_Lb, B_Lb]
theorem rdMsg_app {m : Msg} (h : MsgRt m) (r : List UInt8) : rdMsg (msgB m ++ r, true) = (m, r, true) := by
  have e : msgB m ++ r = beI 1 m.kind ++ (textB m.frm ++ (textB m.to ++ (beI 8 m.num ++ (beI 1 m.err ++ (textB m.place ++ (objB m.obj ++ (listB textB m.texts ++ (listB leafB m.leaves ++ (listB itemB m.items ++ (listB entB m.ents ++ r)))))))))) := by simp [msgB, headB]
  rw [e, rdMsg_eq (rdByte_app _ _ h.kind.1 h.kind.2) (rdText_app _ _ h.frm) (rdText_app _ _ h.to) (rdNum_app _ _ h.num.1 h.num.2) (rdByte_app _ _ h.err.1 h.err.2) (rdText_app _ _ h.place) (rdObj_app h.obj _)
    (rdSev_app _ m.texts h.nt fun x hx r => rdTx_app x r (h.texts x hx)) (rdRow_app _ m.leaves h.nl fun x hx r => rdLeaf_app (h.leaves x hx) r) (rdRow_app _ m.items h.ni fun x hx r => rdItem_app (h.items x hx) r) (rdSev_app _ m.ents h.ne fun x hx r => rdEnt_app (h.ents x hx) r)]
  simp only [B_Lb]
/-- a message that may be is read as it was -/
theorem msgOk_rt {m : Msg} (h : msgOk m = true) (hm : MsgSm m) (h1 : m.num ≤ 9223372036854775807) : MsgRt m := by
  simp only [msgOk, headOk, Bool.and_eq_true, decide_eq_true_eq] at h
  obtain ⟨⟨⟨⟨⟨⟨⟨⟨⟨q1, q2⟩, q3⟩, q4⟩, q5⟩, q6⟩, q7⟩, q8⟩, q9⟩, q10⟩ := h
  have hf := hm.frm; have ht := hm.to; have hp := hm.place
  have hit : ∀ x ∈ m.items, objOk x.obj = true := by
    rw [itemsOk, upGo_and, Bool.and_eq_true, List.all_eq_true] at q9
    exact q9.2
  have hen : ∀ x ∈ m.ents, entOk x = true := by
    rw [entsOk, Bool.and_eq_true] at q10
    have : upGo (fun x => true && entOk x) Ent.key none m.ents = true := q10.2
    rw [upGo_and, Bool.and_eq_true, List.all_eq_true] at this
    exact this.2
  have n1 := hm.nt; have n2 := hm.nl; have n3 := hm.ni; have n4 := hm.ne
  refine ⟨⟨by omega, by omega⟩, by omega, by omega, ⟨by omega, h1⟩, ⟨by omega, by omega⟩, by omega, objOk_rt q8 (by have := hm.obj.nc; omega) (by have := hm.obj.ns; omega), fun x hx => by have := hm.texts x hx; omega, fun x hx => ⟨by have := (hm.leaves x hx).place; omega, by have := (hm.leaves x hx).digest; omega⟩,
    fun x hx => ⟨by have := (hm.items x hx).place; omega, objOk_rt (hit x hx) (by have := (hm.items x hx).obj.nc; omega) (by have := (hm.items x hx).obj.ns; omega)⟩, fun x hx => ?_, by omega, by omega, by omega, by omega⟩
  have h5 := hm.ents x hx
  have h6 := hen x hx
  simp only [entOk, regOk, Bool.and_eq_true, decide_eq_true_eq] at h6
  exact ⟨by have := h5.key; omega, ⟨by omega, by omega⟩, by have := h5.who; omega, by have := h5.value; omega⟩
end Go.Proofs.YtbjloippgpilcaaGreat
end

section
set_option linter.all false
set_option maxRecDepth 100000
namespace Go.Proofs.YtbjloippgpilcaaGreat
open Go.Ab

def Gd {α : Type} (f : Rd → α × Rd) (w : α → List UInt8) : Prop := ∀ x, (f x).2.2 = true → x.2 = true ∧ x.1.length = (w (f x).1).length + (f x).2.1.length ∧ ∀ q, f (x.1 ++ q, true) = ((f x).1, (f x).2.1 ++ q, true)
theorem rdTake_gd (n : Nat) : Gd (fun x => rdTake x n) id := fun x h => by
  simp only [rdTake] at h ⊢
  by_cases hc : x.2 = true ∧ n ≤ x.1.length
  · rw [if_pos hc] at h ⊢
    refine ⟨hc.1, by simp; omega, fun q => ?_⟩
    rw [if_pos ⟨trivial, by simp; omega⟩]
    simp [List.take_append_of_le_length hc.2, List.drop_append_of_le_length hc.2]
  · rw [if_neg hc] at h; cases h
theorem rdTake_n {x : Rd} {n : Nat} (h : (rdTake x n).2.2 = true) : (rdTake x n).1.length = n := by
  simp only [rdTake] at h ⊢
  by_cases hc : x.2 = true ∧ n ≤ x.1.length
  · rw [if_pos hc]; simp; omega
  · rw [if_neg hc] at h; cases h
theorem rdNum_gd (n : Nat) : Gd (fun x => rdNum x n) (beI n) := fun x h => by
  obtain ⟨h1, h2, h3⟩ := rdTake_gd n x h
  have h4 := rdTake_n (x := x) (n := n) h
  refine ⟨h1, ?_, fun q => ?_⟩
  · simp only [id] at h2
    simp only [rdNum, beI_length]; omega
  · simp only [rdNum, h3 q]
theorem rdByte_gd : Gd (fun x => rdNum x 1) (beI 1) := rdNum_gd 1
theorem rdCnt_gd (m : Nat) : Gd (fun x => rdCnt x m) (fun k => beI 4 (k : Int)) := fun x h => by
  simp only [rdCnt] at h ⊢
  by_cases hc : m < natB (rdTake x 4).1
  · rw [if_pos hc] at h; cases h
  · rw [if_neg hc] at h ⊢
    obtain ⟨h1, h2, h3⟩ := rdTake_gd 4 x h
    have h4 := rdTake_n (x := x) (n := 4) h
    refine ⟨h1, ?_, fun q => ?_⟩
    · simp only [id] at h2
      simp only [beI_length]; omega
    · simp only [h3 q, if_neg hc]
def txB (t : List UInt8) : List UInt8 := beI 4 (t.length : Int) ++ t
theorem rdText_gd : Gd rdText txB := fun x h => by
  obtain ⟨c, hc⟩ : ∃ c, rdCnt x 1048576 = c := ⟨_, rfl⟩
  have hd : rdText x = rdTake c.2 c.1 := by rw [rdText, hc]
  rw [hd] at h ⊢
  obtain ⟨h1, h2, h3⟩ := rdTake_gd c.1 c.2 h
  obtain ⟨g1, g2, g3⟩ := rdCnt_gd 1048576 x (by simp only [hc]; exact h1)
  simp only [hc, id, beI_length] at g2 g3 h2 h3
  refine ⟨g1, ?_, fun q => ?_⟩
  · simp only [txB, List.length_append, beI_length]; omega
  · rw [rdText, g3 q, h3 q]
theorem rdMany_gd {α : Type} {f : Rd → α × Rd} {w : α → List UInt8} (hf : Gd f w) : ∀ n, Gd (rdMany f n) (fun l => l.flatMap w)
  | 0 => fun x h => by
    obtain ⟨l, b⟩ := x
    simp only [rdMany] at h ⊢
    exact ⟨h, by simp, fun q => by first | rfl | trivial⟩
  | n + 1 => fun x h => by
    have hx : x.2 = true := by
      cases hx : x.2 with
      | true => rfl
      | false => rw [rdMany_bad f hx, hx] at h; cases h
    have hd : rdMany f (n + 1) x = ((f x).1 :: (rdMany f n (f x).2).1, (rdMany f n (f x).2).2) := by rw [rdMany, hx]; rfl
    rw [hd] at h ⊢
    obtain ⟨h1, h2, h3⟩ := rdMany_gd hf n (f x).2 h
    obtain ⟨g1, g2, g3⟩ := hf x h1
    refine ⟨hx, ?_, fun q => ?_⟩
    · simp only [List.flatMap_cons, List.length_append] at h2 ⊢; omega
    · rw [rdMany, if_pos (by trivial), g3 q]
      simp only [h3 q]
theorem rdRow_gd {α : Type} {f : Rd → α × Rd} {w : α → List UInt8} (hf : Gd f w) : Gd (rdRow f) (listB w) := fun x h => by
  obtain ⟨c, hc⟩ : ∃ c, rdCnt x 65536 = c := ⟨_, rfl⟩
  have hd : rdRow f x = rdMany f c.1 c.2 := by rw [rdRow, hc]
  rw [hd] at h ⊢
  obtain ⟨h1, h2, h3⟩ := rdMany_gd hf c.1 c.2 h
  obtain ⟨g1, g2, g3⟩ := rdCnt_gd 65536 x (by simp only [hc]; exact h1)
  simp only [hc, beI_length] at g2 g3 h2
  refine ⟨g1, ?_, fun q => ?_⟩
  · simp only [listB, List.length_append, beI_length]; omega
  · rw [rdRow, g3 q]; exact h3 q
theorem rdSev_gd {α : Type} {f : Rd → α × Rd} {w : α → List UInt8} (hf : Gd f w) : Gd (rdSev f) (listB w) := fun x h => by
  have h' : (rdRow f x).2.2 = true := by rw [rdSev_eq] at h; exact h
  obtain ⟨h1, h2, h3⟩ := rdRow_gd hf x h'
  have e : rdSev f x = rdRow f x := by rw [rdSev_eq, if_pos h']
  rw [e]
  refine ⟨h1, h2, fun q => ?_⟩
  rw [rdSev_eq, h3 q]; rfl
theorem textB_txB (t : List UInt8) : (textB (B t)).length = (txB t).length := by rw [textB_length, B_size]; simp only [txB, List.length_append, beI_length]
theorem rdI8_gd : Gd rdI8 (beI 8) := rdNum_gd 8
theorem rdSeen_gd : Gd rdSeen seenB := fun x h => by
  obtain ⟨a, ha⟩ : ∃ a, rdText x = a := ⟨_, rfl⟩
  obtain ⟨b, hb⟩ : ∃ b, rdNum a.2 8 = b := ⟨_, rfl⟩
  obtain ⟨c, hc⟩ : ∃ c, rdSev rdI8 b.2 = c := ⟨_, rfl⟩
  have hd : rdSeen x = (⟨B a.1, b.1, c.1⟩, c.2) := by subst hc; subst hb; subst ha; rfl
  rw [hd] at h ⊢
  obtain ⟨h1, h2, h3⟩ := rdSev_gd rdI8_gd b.2 (by rw [hc]; exact h)
  obtain ⟨g1, g2, g3⟩ := rdNum_gd 8 a.2 (by simp only [hb]; exact h1)
  obtain ⟨f1, f2, f3⟩ := rdText_gd x (by rw [ha]; exact g1)
  simp only [ha, hb, hc] at h2 h3 g2 g3 f2 f3
  have t := textB_txB a.1
  refine ⟨f1, ?_, fun q => ?_⟩
  · simp only [seenB, List.length_append]; omega
  · simp only [rdSeen, f3 q, g3 q, h3 q]
theorem rdSib_gd : Gd rdSib sibB := fun x h => by
  obtain ⟨a, ha⟩ : ∃ a, rdText x = a := ⟨_, rfl⟩
  obtain ⟨b, hb⟩ : ∃ b, rdNum a.2 8 = b := ⟨_, rfl⟩
  obtain ⟨c, hc⟩ : ∃ c, rdText b.2 = c := ⟨_, rfl⟩
  obtain ⟨d, hd⟩ : ∃ d, rdNum c.2 1 = d := ⟨_, rfl⟩
  obtain ⟨e, he⟩ : ∃ e, rdNum d.2 8 = e := ⟨_, rfl⟩
  have hh : rdSib x = (⟨B a.1, b.1, B c.1, !decide (d.1 = 0), e.1⟩, e.2) := by subst he; subst hd; subst hc; subst hb; subst ha; rfl
  rw [hh] at h ⊢
  obtain ⟨k1, k2, k3⟩ := rdNum_gd 8 d.2 (by simp only [he]; exact h)
  obtain ⟨j1, j2, j3⟩ := rdNum_gd 1 c.2 (by simp only [hd]; exact k1)
  obtain ⟨i1, i2, i3⟩ := rdText_gd b.2 (by rw [hc]; exact j1)
  obtain ⟨g1, g2, g3⟩ := rdNum_gd 8 a.2 (by simp only [hb]; exact i1)
  obtain ⟨f1, f2, f3⟩ := rdText_gd x (by rw [ha]; exact g1)
  simp only [ha, hb, hc, hd, he, beI_length] at k2 k3 j2 j3 i2 i3 g2 g3 f2 f3
  have t := textB_txB a.1; have t2 := textB_txB c.1
  refine ⟨f1, ?_, fun q => ?_⟩
  · simp only [sibB, List.length_append, beI_length]; omega
  · simp only [rdSib, f3 q, g3 q, i3 q, j3 q, k3 q]
theorem rdObj_gd : Gd rdObj objB := fun x h => by
  obtain ⟨c, hc⟩ : ∃ c, rdCtx x = c := ⟨_, rfl⟩
  obtain ⟨l, hl⟩ : ∃ l, rdSev rdSib c.2 = l := ⟨_, rfl⟩
  have hh : rdObj x = if l.2.2 then (⟨c.1, l.1⟩, l.2) else (⟨[], []⟩, l.2) := by subst hl; subst hc; rfl
  have hg : l.2.2 = true := by
    rw [hh] at h
    split at h
    · assumption
    · exact h
  rw [if_pos hg] at hh
  rw [hh]
  obtain ⟨h1, h2, h3⟩ := rdSev_gd rdSib_gd c.2 (by rw [hl]; exact hg)
  obtain ⟨g1, g2, g3⟩ := rdSev_gd rdSeen_gd x (by rw [show rdSev rdSeen x = rdCtx x from rfl, hc]; exact h1)
  rw [show rdSev rdSeen x = rdCtx x from rfl] at g2 g3
  simp only [hc, hl] at h2 h3 g2 g3
  refine ⟨g1, ?_, fun q => ?_⟩
  · simp only [objB, ctxB, List.length_append]; omega
  · have g4 : rdCtx (x.1 ++ q, true) = (c.1, c.2.1 ++ q, true) := g3 q
    simp only [rdObj, g4, h3 q]; rfl
theorem rdTx_gd : Gd rdTx textB := fun x h => by
  obtain ⟨f1, f2, f3⟩ := rdText_gd x h
  refine ⟨f1, ?_, fun q => ?_⟩
  · simp only [rdTx, textB_txB]; exact f2
  · simp only [rdTx, f3 q]
theorem rdLeaf_gd : Gd rdLeaf leafB := fun x h => by
  obtain ⟨a, ha⟩ : ∃ a, rdText x = a := ⟨_, rfl⟩
  obtain ⟨b, hb⟩ : ∃ b, rdText a.2 = b := ⟨_, rfl⟩
  have hh : rdLeaf x = (⟨B a.1, B b.1⟩, b.2) := by subst hb; subst ha; rfl
  rw [hh] at h ⊢
  obtain ⟨g1, g2, g3⟩ := rdText_gd a.2 (by rw [hb]; exact h)
  obtain ⟨f1, f2, f3⟩ := rdText_gd x (by rw [ha]; exact g1)
  simp only [ha, hb] at g2 g3 f2 f3
  have t := textB_txB a.1; have t2 := textB_txB b.1
  refine ⟨f1, ?_, fun q => ?_⟩
  · simp only [leafB, List.length_append]; omega
  · simp only [rdLeaf, f3 q, g3 q]
theorem rdItem_gd : Gd rdItem itemB := fun x h => by
  obtain ⟨a, ha⟩ : ∃ a, rdText x = a := ⟨_, rfl⟩
  obtain ⟨b, hb⟩ : ∃ b, rdObj a.2 = b := ⟨_, rfl⟩
  have hh : rdItem x = (⟨B a.1, b.1⟩, b.2) := by subst hb; subst ha; rfl
  rw [hh] at h ⊢
  obtain ⟨g1, g2, g3⟩ := rdObj_gd a.2 (by rw [hb]; exact h)
  obtain ⟨f1, f2, f3⟩ := rdText_gd x (by rw [ha]; exact g1)
  simp only [ha, hb] at g2 g3 f2 f3
  have t := textB_txB a.1
  refine ⟨f1, ?_, fun q => ?_⟩
  · simp only [itemB, List.length_append]; omega
  · simp only [rdItem, f3 q, g3 q]
theorem rdEnt_gd : Gd rdEnt entB := fun x h => by
  obtain ⟨a, ha⟩ : ∃ a, rdText x = a := ⟨_, rfl⟩
  obtain ⟨b, hb⟩ : ∃ b, rdNum a.2 8 = b := ⟨_, rfl⟩
  obtain ⟨c, hc⟩ : ∃ c, rdText b.2 = c := ⟨_, rfl⟩
  obtain ⟨d, hd⟩ : ∃ d, rdText c.2 = d := ⟨_, rfl⟩
  have hh : rdEnt x = (⟨B a.1, b.1, B c.1, B d.1⟩, d.2) := by subst hd; subst hc; subst hb; subst ha; rfl
  rw [hh] at h ⊢
  obtain ⟨j1, j2, j3⟩ := rdText_gd c.2 (by rw [hd]; exact h)
  obtain ⟨i1, i2, i3⟩ := rdText_gd b.2 (by rw [hc]; exact j1)
  obtain ⟨g1, g2, g3⟩ := rdNum_gd 8 a.2 (by simp only [hb]; exact i1)
  obtain ⟨f1, f2, f3⟩ := rdText_gd x (by rw [ha]; exact g1)
  simp only [ha, hb, hc, hd, beI_length] at j2 j3 i2 i3 g2 g3 f2 f3
  have t := textB_txB a.1; have t2 := textB_txB c.1; have t3 := textB_txB d.1
  refine ⟨f1, ?_, fun q => ?_⟩
  · simp only [entB, List.length_append, beI_length]; omega
  · simp only [rdEnt, f3 q, g3 q, i3 q, j3 q]
theorem rdMsg_gd : Gd rdMsg msgB := fun x H => by
  obtain ⟨a, ha⟩ : ∃ q, rdNum x 1 = q := ⟨_, rfl⟩
  obtain ⟨b, hb⟩ : ∃ q, rdText a.2 = q := ⟨_, rfl⟩
  obtain ⟨c, hc⟩ : ∃ q, rdText b.2 = q := ⟨_, rfl⟩
  obtain ⟨d, hd⟩ : ∃ q, rdNum c.2 8 = q := ⟨_, rfl⟩
  obtain ⟨e, he⟩ : ∃ q, rdNum d.2 1 = q := ⟨_, rfl⟩
  obtain ⟨f, hf⟩ : ∃ q, rdText e.2 = q := ⟨_, rfl⟩
  obtain ⟨g, hg⟩ : ∃ q, rdObj f.2 = q := ⟨_, rfl⟩
  obtain ⟨h, hh⟩ : ∃ q, rdSev rdTx g.2 = q := ⟨_, rfl⟩
  obtain ⟨i, hi⟩ : ∃ q, rdRow rdLeaf h.2 = q := ⟨_, rfl⟩
  obtain ⟨j, hj⟩ : ∃ q, rdRow rdItem i.2 = q := ⟨_, rfl⟩
  obtain ⟨k, hk⟩ : ∃ q, rdSev rdEnt j.2 = q := ⟨_, rfl⟩
  have hm := rdMsg_eq ha hb hc hd he hf hg hh hi hj hk
  rw [hm] at H ⊢
  obtain ⟨k1, k2, k3⟩ := rdSev_gd rdEnt_gd j.2 (by rw [hk]; exact H)
  obtain ⟨j1, j2, j3⟩ := rdRow_gd rdItem_gd i.2 (by rw [hj]; exact k1)
  obtain ⟨i1, i2, i3⟩ := rdRow_gd rdLeaf_gd h.2 (by rw [hi]; exact j1)
  obtain ⟨h1, h2, h3⟩ := rdSev_gd rdTx_gd g.2 (by rw [hh]; exact i1)
  obtain ⟨g1, g2, g3⟩ := rdObj_gd f.2 (by rw [hg]; exact h1)
  obtain ⟨f1, f2, f3⟩ := rdText_gd e.2 (by rw [hf]; exact g1)
  obtain ⟨e1, e2, e3⟩ := rdNum_gd 1 d.2 (by simp only [he]; exact f1)
  obtain ⟨d1, d2, d3⟩ := rdNum_gd 8 c.2 (by simp only [hd]; exact e1)
  obtain ⟨c1, c2, c3⟩ := rdText_gd b.2 (by rw [hc]; exact d1)
  obtain ⟨b1, b2, b3⟩ := rdText_gd a.2 (by rw [hb]; exact c1)
  obtain ⟨a1, a2, a3⟩ := rdNum_gd 1 x (by simp only [ha]; exact b1)
  simp only [ha, hb, hc, hd, he, hf, hg, hh, hi, hj, hk, beI_length] at a2 a3 b2 b3 c2 c3 d2 d3 e2 e3 f2 f3 g2 g3 h2 h3 i2 i3 j2 j3 k2 k3
  have t := textB_txB b.1; have t2 := textB_txB c.1; have t3 := textB_txB f.1
  refine ⟨a1, ?_, fun q => rdMsg_eq (a3 q) (b3 q) (c3 q) (d3 q) (e3 q) (f3 q) (g3 q) (h3 q) (i3 q) (j3 q) (k3 q)⟩
  simp only [msgB, headB, List.length_append, beI_length]; omega
theorem fm_mem {α : Type} {w : α → List UInt8} : ∀ {l : List α} {x : α}, x ∈ l → (w x).length ≤ (l.flatMap w).length
  | y :: l, x, h => by
    simp only [List.flatMap_cons, List.length_append]
    rcases List.mem_cons.1 h with rfl | h
    · omega
    · have := fm_mem (w := w) h; omega
theorem fm_ge {α : Type} {w : α → List UInt8} {c : Nat} (hw : ∀ x, c ≤ (w x).length) : ∀ (l : List α), c * l.length ≤ (l.flatMap w).length
  | [] => by simp
  | y :: l => by
    have := fm_ge hw l; have := hw y
    simp only [List.flatMap_cons, List.length_append, List.length_cons, Nat.mul_succ]; omega
theorem sibB_len (x : Sib) : (sibB x).length = 25 + x.node.size + x.value.size := by simp only [sibB, List.length_append, textB_length, beI_length]; omega
theorem objB_sm {o : Obj'} (h : (objB o).length ≤ 4000) : ObjSm o := by
  simp only [objB, ctxB, listB, List.length_append, beI_length] at h
  have h1 := fm_ge (w := seenB) (c := 16) (fun x => by rw [seenB_length]; omega) o.ctx
  have h2 := fm_ge (w := sibB) (c := 25) (fun x => by rw [sibB_len]; omega) o.sibs
  exact ⟨fun y hy => by have := fm_mem (w := seenB) hy; rw [seenB_length] at this; exact ⟨by omega, by omega⟩, fun y hy => by have := fm_mem (w := sibB) hy; rw [sibB_len] at this; exact ⟨by omega, by omega⟩, by omega, by omega⟩
theorem msgB_sm {m : Msg} (h : (msgB m).length ≤ 4000) : MsgSm m := by
  simp only [msgB, headB, listB, List.length_append, beI_length, textB_length] at h
  have h1 := fm_ge (w := textB) (c := 4) (fun x => by rw [textB_length]; omega) m.texts
  have h2 := fm_ge (w := leafB) (c := 8) (fun x => by simp only [leafB, List.length_append, textB_length]; omega) m.leaves
  have h3 := fm_ge (w := itemB) (c := 8) (fun x => by simp only [itemB, objB, ctxB, listB, List.length_append, textB_length, beI_length]; omega) m.items
  have h4 := fm_ge (w := entB) (c := 8) (fun x => by simp only [entB, List.length_append, textB_length, beI_length]; omega) m.ents
  refine ⟨by omega, by omega, by omega, objB_sm (by omega), fun x hx => ?_, fun x hx => ?_, fun x hx => ?_, fun x hx => ?_, by omega, by omega, by omega, by omega, by omega⟩
  · have := fm_mem (w := textB) hx; rw [textB_length] at this; omega
  · have := fm_mem (w := leafB) hx; simp only [leafB, List.length_append, textB_length] at this; exact ⟨by omega, by omega⟩
  · have := fm_mem (w := itemB) hx; simp only [itemB, List.length_append, textB_length] at this; exact ⟨by omega, objB_sm (by omega)⟩
  · have := fm_mem (w := entB) hx; simp only [entB, List.length_append, textB_length, beI_length] at this; exact ⟨by omega, by omega, by omega⟩
/-- what is read of few bytes without fault has few parts -/
theorem rdMsg_sm {s : List UInt8} (hs : s.length ≤ 4000) (h : (rdMsg (s, true)).2.2 = true) : MsgSm (rdMsg (s, true)).1 := msgB_sm (by have := (rdMsg_gd (s, true) h).2.1; simp only at this; omega)
/-- what is cut off cannot be read -/
theorem rdMsg_cut {m : Msg} {p q : List UInt8} (hr : rdMsg (msgB m, true) = (m, [], true)) (h : p ++ q = msgB m) (hq : q ≠ []) : (rdMsg (p, true)).2.2 = false := by
  cases hb : (rdMsg (p, true)).2.2 with
  | false => rfl
  | true =>
    have h1 := (rdMsg_gd (p, true) hb).2.2 q
    simp only at h1
    rw [h, hr] at h1
    have : [] = (rdMsg (p, true)).2.1 ++ q := congrArg (fun z => z.2.1) h1
    exact absurd (List.append_eq_nil_iff.1 this.symm).2 hq
end Go.Proofs.YtbjloippgpilcaaGreat
end
