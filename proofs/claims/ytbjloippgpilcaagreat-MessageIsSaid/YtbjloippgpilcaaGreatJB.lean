/-
  Messages as bytes: the program's writer; The bytes of a message, the program's and the reference's. Own work (an AI agent).
-/
import Derived.Test.YtbjloippgpilcaaGreatGI
import Derived.Test.YtbjloippgpilcaaGreatGJ
import Derived.Test.YtbjloippgpilcaaGreatJX

section
set_option linter.all false
set_option maxRecDepth 100000
namespace Go.Ab
structure Leaf where
  place : ByteArray
  digest : ByteArray
structure Itm where
  place : ByteArray
  obj : Obj'
structure Ent where
  key : ByteArray
  n : Int
  who : ByteArray
  value : ByteArray
structure Msg where
  kind : Int
  frm : ByteArray
  to : ByteArray
  num : Int
  err : Int
  place : ByteArray
  obj : Obj'
  texts : List ByteArray
  leaves : List Leaf
  items : List Itm
  ents : List Ent
@[reducible] def sLeaf (x : Leaf) : AVal := .agg [.lit (.string x.place), .lit (.string x.digest)]
@[reducible] def sItem (x : Itm) : AVal := .agg [.lit (.string x.place), .sl 3 (x.obj.ctx.map sSeen) false, .sl 5 (x.obj.sibs.map sSib) false]
@[reducible] def sEnt (x : Ent) : AVal := .agg [.lit (.string x.key), vInt x.n, .lit (.string x.who), .lit (.string x.value)]
@[reducible] def sMsg (m : Msg) : AVal := .agg [vInt m.kind, .lit (.string m.frm), .lit (.string m.to), vInt m.num, vInt m.err, .lit (.string m.place), .sl 3 (m.obj.ctx.map sSeen) false, .sl 5 (m.obj.sibs.map sSib) false, .sl 1 (m.texts.map vStr) false, .sl 2 (m.leaves.map sLeaf) false, .sl 3 (m.items.map sItem) false, .sl 4 (m.ents.map sEnt) false]
end Go.Ab
namespace Go.Proofs.YtbjloippgpilcaaGreat
open Go.Ab

def leafB (x : Leaf) : List UInt8 := textB x.place ++ textB x.digest
def itemB (x : Itm) : List UInt8 := textB x.place ++ objB x.obj
def entB (x : Ent) : List UInt8 := textB x.key ++ beI 8 x.n ++ textB x.who ++ textB x.value
def headB (m : Msg) : List UInt8 := beI 1 m.kind ++ textB m.frm ++ textB m.to ++ beI 8 m.num ++ beI 1 m.err ++ textB m.place ++ objB m.obj ++ listB textB m.texts
def msgB (m : Msg) : List UInt8 := headB m ++ listB leafB m.leaves ++ listB itemB m.items ++ listB entB m.ents
/-- few bytes, few parts -/
structure LeafSm (x : Leaf) : Prop where
  place : x.place.size ≤ 1000000
  digest : x.digest.size ≤ 1000000
structure ItemSm (x : Itm) : Prop where
  place : x.place.size ≤ 1000000
  obj : ObjSm x.obj
structure EntSm (x : Ent) : Prop where
  key : x.key.size ≤ 1000000
  who : x.who.size ≤ 1000000
  value : x.value.size ≤ 1000000
structure MsgSm (m : Msg) : Prop where
  frm : m.frm.size ≤ 1000000
  to : m.to.size ≤ 1000000
  place : m.place.size ≤ 1000000
  obj : ObjSm m.obj
  texts : ∀ x ∈ m.texts, x.size ≤ 1000000
  leaves : ∀ x ∈ m.leaves, LeafSm x
  items : ∀ x ∈ m.items, ItemSm x
  ents : ∀ x ∈ m.ents, EntSm x
  nt : m.texts.length ≤ 1000
  nl : m.leaves.length ≤ 1000
  ni : m.items.length ≤ 1000
  li : (m.items.flatMap itemB).length ≤ 260000000000
  ne : m.ents.length ≤ 5000
theorem fm_le {α : Type} {f : α → List UInt8} {c : Nat} : ∀ {l : List α}, (∀ x ∈ l, (f x).length ≤ c) → (l.flatMap f).length ≤ c * l.length
  | [], _ => by simp
  | x :: l, h => by
    have h1 := fm_le (l := l) fun y hy => h y (.tail _ hy)
    have h2 := h x (.head _)
    simp only [List.flatMap_cons, List.length_append, List.length_cons, Nat.mul_add, Nat.mul_one]; omega
theorem objB_len {x : Obj'} (hx : ObjSm x) : (objB x).length ≤ 12000000000 := by
  have h1 := ctxB_le hx.ctx hx.nc
  have h2 := sibsB_le hx.sibs hx.ns
  simp only [objB, ctxB, listB, List.length_append, beI_length]; omega
structure MsgLn (m : Msg) : Prop where
  texts : (m.texts.flatMap textB).length ≤ 1100000000
  leaves : (m.leaves.flatMap leafB).length ≤ 2100000000
  items : (m.items.flatMap itemB).length ≤ 260000000000
  ents : (m.ents.flatMap entB).length ≤ 16000000000
  obj : (objB m.obj).length ≤ 12000000000
theorem itemsB_len {l : List Itm} (hx : ∀ x ∈ l, ItemSm x) (hn : l.length ≤ 20) : (l.flatMap itemB).length ≤ 260000000000 := by
  have h3 := fm_le (f := itemB) (c := 12001000004) (l := l) fun x h => by
    have := (hx x h).place; have := objB_len (hx x h).obj
    simp only [itemB, List.length_append, textB_length]; omega
  have n3 := Nat.mul_le_mul_left 12001000004 hn
  omega
theorem MsgSm.ln {m : Msg} (h : MsgSm m) : MsgLn m := by
  have h1 := fm_le (f := textB) (c := 1000004) (l := m.texts) fun x hx => by have := h.texts x hx; rw [textB_length]; omega
  have h2 := fm_le (f := leafB) (c := 2000008) (l := m.leaves) fun x hx => by
    have := (h.leaves x hx).place; have := (h.leaves x hx).digest
    simp only [leafB, List.length_append, textB_length]; omega
  have h4 := fm_le (f := entB) (c := 3000020) (l := m.ents) fun x hx => by
    have := (h.ents x hx).key; have := (h.ents x hx).who; have := (h.ents x hx).value
    simp only [entB, List.length_append, textB_length, beI_length]; omega
  have n1 := Nat.mul_le_mul_left 1000004 h.nt
  have n2 := Nat.mul_le_mul_left 2000008 h.nl
  have n4 := Nat.mul_le_mul_left 3000020 h.ne
  exact ⟨by omega, by omega, h.li, by omega, objB_len h.obj⟩

theorem wrTexts_c {o : Nat} {l : List UInt8} {L : List ByteArray} {t : Bool} {σ : Store} (ho : WR σ o l) (hs : ∀ x ∈ L, x.size ≤ 1000000) (hL : l.length + 4 + (L.flatMap textB).length ≤ 999999999000) (hLb : L.length ≤ 1000000) :
    ACalls Tryz.prog 23 [.ref o 0, .sl 1 (L.map vStr) t] σ fun v σ' => v = .tup [] ∧ WR σ' o (l ++ listB textB L) ∧ WF o σ σ' := by
  refine ACalls_of Tryz.func23 rfl Tryz.ntmps23 (congrArg Array.toList Tryz.results23) (by simp only [List.length_cons, List.length_nil]; decide) ?_; simp only [envOf_cons, envOf_nil, Nat.reduceAdd]
  refine awp_seq ?_
  refine awp_region (by kernel_rfl) ?_
  iterate 3 (refine aL_S rfl rfl v_ ?_)
  refine aL_X rfl rfl (AOp_use rfl rfl (.inr ⟨rfl, rfl, rfl⟩) g_ va_ (wrCount_c (n := (L.length : Int)) ho (by omega)) ?_); rintro _ τ0 ⟨rfl, g1, g2⟩
  refine aL_nil ?_
  refine awp_seq ?_
  refine awp_region (by kernel_rfl) ?_
  iterate 3 (refine aL_S rfl rfl v_ ?_)
  refine aL_nil ?_
  refine awp_block ?_
  refine awp_loop_env (ι := Store × Nat) (fun ⟨τ, i⟩ => L.length - i) (fun ⟨τ, i⟩ => i ≤ L.length ∧ WR τ o (l ++ beI 4 L.length ++ (L.take i).flatMap textB) ∧ WF o σ τ) (fun ⟨τ, i⟩ => [(0, .ref o 0), (10, .sl 1 (L.map vStr) t), (11, vInt L.length), (12, vInt i)]) (fun ⟨τ, i⟩ => τ) (τ0, 0) ?_ ?_ ?_ ?_
  · exact ⟨Nat.zero_le _, by simpa using g1, g2⟩
  · exact cv_
  · exact Store.Wk.refl _
  rintro ⟨τ, i⟩ ⟨h1, h2, h3⟩
  simp only [envL_cons, envL_nil]
  refine awp_seq ?_
  refine awp_region (by kernel_rfl) ?_
  (refine aL_S rfl rfl v_ ?_)
  refine aL_nil ?_
  refine awp_seq ?_
  refine awp_cond v_ (fun hc2 => ?_) (fun hc2 => ?_)
  · replace hc2 := nm_ hc2
    refine awp_skip ?_
    refine awp_seq ?_
    refine awp_block ?_
    refine awp_seq ?_
    obtain ⟨x, hx⟩ : ∃ x, L[i]? = some x := ⟨L[i]'(by omega), List.getElem?_eq_getElem _⟩
    have hle := flatMap_take_le (f := textB) L (i + 1)
    rw [flatMap_take hx, List.length_append, textB_length] at hle
    have hxm := hs x (List.mem_of_getElem? hx)
    have R := hx
    refine awp_region (by kernel_rfl) ?_
    iterate 3 (refine aL_S rfl rfl v_ ?_)
    refine aL_nil ?_
    refine awp_region (by kernel_rfl) ?_
    iterate 2 (refine aL_S rfl rfl v_ ?_)
    refine aL_X rfl rfl (AOp_use rfl rfl (.inr ⟨rfl, rfl, rfl⟩) g_ va_ (wrText_c h2 (by rw [List.length_append, List.length_append, beI_length]; omega) (by omega)) ?_); rintro _ υ ⟨rfl, u1, u2⟩
    refine aL_nil ?_
    refine awp_region (by kernel_rfl) ?_
    iterate 2 (refine aL_S rfl rfl v_ ?_)
    refine aL_nil ?_
    refine aNext (ι := Store × Nat) (i := ⟨τ, i⟩) (υ, i + 1) ?_ ?_ ?_ ?_
    · show L.length - (i + 1) < L.length - i; omega
    · exact ⟨by show i + 1 ≤ L.length; omega, by rw [flatMap_take hx, ← List.append_assoc]; exact u1, WF.trans h3 u2⟩
    · exact cv_
    · exact Store.Wk.refl _
  · replace hc2 := nm_ hc2
    refine awp_exit ?_
    refine aThen_exit ?_
    refine aThen_exit ?_
    refine aBlock_hit ?_
    refine aEnd_nor v_ (Store.Wk.refl _) ?_
    exact ⟨rfl, by rw [listB, ← List.append_assoc]; rwa [List.take_of_length_le (by omega)] at h2, h3⟩
theorem eachLeaf_c {o G : Nat} {l : List UInt8} {L : List Leaf} {t : Bool} {σ : Store} {fs cp : List AVal} {wb : Leaf → List UInt8} (Kp : Store → Prop) (hgo : isGo Tryz.prog G = true) (hK : ∀ τ τ', Kp τ → WF o τ τ' → Kp τ') (ho : WR σ o l) (hKσ : Kp σ)
    (hL : l.length + 4 + (L.flatMap wb).length ≤ 800000000000) (hLb : L.length ≤ 1000000)
    (hf : ∀ τ l x, x ∈ L → WR τ o l → Kp τ → l.length + (wb x).length ≤ 800000000000 → ACalls Tryz.prog G (fs ++ [sLeaf x] ++ cp) τ fun v τ' => v = .tup [] ∧ WR τ' o (l ++ wb x) ∧ WF o τ τ') :
    ACalls Tryz.prog 24 [.ref o 0, .sl 2 (L.map sLeaf) t, .fn (.func G) fs cp] σ fun v σ' => v = .tup [] ∧ WR σ' o (l ++ listB wb L) ∧ WF o σ σ' := by
  refine ACalls_of Tryz.func24 rfl Tryz.ntmps24 (congrArg Array.toList Tryz.results24) (by simp only [List.length_cons, List.length_nil]; decide) ?_; simp only [envOf_cons, envOf_nil, Nat.reduceAdd]
  refine awp_seq ?_
  refine awp_region (by kernel_rfl) ?_
  iterate 3 (refine aL_S rfl rfl v_ ?_)
  refine aL_X rfl rfl (AOp_use rfl rfl (.inr ⟨rfl, rfl, rfl⟩) g_ va_ (wrCount_c (n := (L.length : Int)) ho (by omega)) ?_); rintro _ τ0 ⟨rfl, g1, g2⟩
  refine aL_nil ?_
  refine awp_seq ?_
  refine awp_region (by kernel_rfl) ?_
  iterate 3 (refine aL_S rfl rfl v_ ?_)
  refine aL_nil ?_
  refine awp_block ?_
  refine awp_loop_env (ι := Store × Nat) (fun ⟨τ, i⟩ => L.length - i) (fun ⟨τ, i⟩ => i ≤ L.length ∧ WR τ o (l ++ beI 4 L.length ++ (L.take i).flatMap wb) ∧ WF o σ τ) (fun ⟨τ, i⟩ => [(2, .fn (.func G) fs cp), (12, .sl 2 (L.map sLeaf) t), (13, vInt L.length), (14, vInt i)]) (fun ⟨τ, i⟩ => τ) (τ0, 0) ?_ ?_ ?_ ?_
  · exact ⟨Nat.zero_le _, by simpa using g1, g2⟩
  · exact cv_
  · exact Store.Wk.refl _
  rintro ⟨τ, i⟩ ⟨h1, h2, h3⟩
  simp only [envL_cons, envL_nil]
  refine awp_seq ?_
  refine awp_region (by kernel_rfl) ?_
  (refine aL_S rfl rfl v_ ?_)
  refine aL_nil ?_
  refine awp_seq ?_
  refine awp_cond v_ (fun hc2 => ?_) (fun hc2 => ?_)
  · replace hc2 := nm_ hc2
    refine awp_skip ?_
    refine awp_seq ?_
    refine awp_block ?_
    refine awp_seq ?_
    obtain ⟨x, hx⟩ : ∃ x, L[i]? = some x := ⟨L[i]'(by omega), List.getElem?_eq_getElem _⟩
    have hle := flatMap_take_le (f := wb) L (i + 1)
    rw [flatMap_take hx, List.length_append] at hle
    have hb : (l ++ beI 4 L.length ++ (L.take i).flatMap wb).length + (wb x).length ≤ 800000000000 := by rw [List.length_append, List.length_append, beI_length]; omega
    have hxm := List.mem_of_getElem? hx
    have R := hx
    refine awp_region (by kernel_rfl) ?_
    iterate 2 (refine aL_S rfl rfl v_ ?_)
    refine aL_alloc rfl rfl rfl g_ gl_ fun o7 ho7 => ?_
    repeat (rw [none_set_iff] at ho7; obtain ⟨_, ho7⟩ := ho7)
    refine aL_store rfl rfl rfl v_ v_ h_ g_ rfl g_ c_ (by rfl) le_ v_ ?_
    refine aL_nil ?_
    obtain ⟨xo, hxo⟩ := WR.some h2
    have n7 := (ne_of_heap hxo ho7).symm
    refine awp_region (by kernel_rfl) ?_
    iterate 2 (refine aL_S rfl rfl v_ ?_)
    refine aL_X rfl rfl (AOp_use rfl rfl (.inl v_) g_ va_ (hf _ _ x hxm (WR.alloc2 h2 n7) (hK _ _ hKσ (WF.alloc2 h3 ho7 n7)) hb) ?_); rintro _ υ ⟨rfl, u1, u2⟩
    refine aL_nil ?_
    refine awp_region (by kernel_rfl) ?_
    iterate 2 (refine aL_S rfl rfl v_ ?_)
    refine aL_nil ?_
    refine aNext (ι := Store × Nat) (i := ⟨τ, i⟩) (υ, i + 1) ?_ ?_ ?_ ?_
    · show L.length - (i + 1) < L.length - i; omega
    · exact ⟨by show i + 1 ≤ L.length; omega, by rw [flatMap_take hx, ← List.append_assoc]; exact u1, WF.trans (WF.alloc2 h3 ho7 n7) u2⟩
    · exact cv_
    · exact Store.Wk.refl _
  · replace hc2 := nm_ hc2
    refine awp_exit ?_
    refine aThen_exit ?_
    refine aThen_exit ?_
    refine aBlock_hit ?_
    refine aEnd_nor v_ (Store.Wk.refl _) ?_
    exact ⟨rfl, by rw [listB, ← List.append_assoc]; rwa [List.take_of_length_le (by omega)] at h2, h3⟩
theorem eachItem_c {o G : Nat} {l : List UInt8} {L : List Itm} {t : Bool} {σ : Store} {fs cp : List AVal} {wb : Itm → List UInt8} (Kp : Store → Prop) (hgo : isGo Tryz.prog G = true) (hK : ∀ τ τ', Kp τ → WF o τ τ' → Kp τ') (ho : WR σ o l) (hKσ : Kp σ)
    (hL : l.length + 4 + (L.flatMap wb).length ≤ 800000000000) (hLb : L.length ≤ 1000000)
    (hf : ∀ τ l x, x ∈ L → WR τ o l → Kp τ → l.length + (wb x).length ≤ 800000000000 → ACalls Tryz.prog G (fs ++ [sItem x] ++ cp) τ fun v τ' => v = .tup [] ∧ WR τ' o (l ++ wb x) ∧ WF o τ τ') :
    ACalls Tryz.prog 26 [.ref o 0, .sl 3 (L.map sItem) t, .fn (.func G) fs cp] σ fun v σ' => v = .tup [] ∧ WR σ' o (l ++ listB wb L) ∧ WF o σ σ' := by
  refine ACalls_of Tryz.func26 rfl Tryz.ntmps26 (congrArg Array.toList Tryz.results26) (by simp only [List.length_cons, List.length_nil]; decide) ?_; simp only [envOf_cons, envOf_nil, Nat.reduceAdd]
  refine awp_seq ?_
  refine awp_region (by kernel_rfl) ?_
  iterate 3 (refine aL_S rfl rfl v_ ?_)
  refine aL_X rfl rfl (AOp_use rfl rfl (.inr ⟨rfl, rfl, rfl⟩) g_ va_ (wrCount_c (n := (L.length : Int)) ho (by omega)) ?_); rintro _ τ0 ⟨rfl, g1, g2⟩
  refine aL_nil ?_
  refine awp_seq ?_
  refine awp_region (by kernel_rfl) ?_
  iterate 3 (refine aL_S rfl rfl v_ ?_)
  refine aL_nil ?_
  refine awp_block ?_
  refine awp_loop_env (ι := Store × Nat) (fun ⟨τ, i⟩ => L.length - i) (fun ⟨τ, i⟩ => i ≤ L.length ∧ WR τ o (l ++ beI 4 L.length ++ (L.take i).flatMap wb) ∧ WF o σ τ) (fun ⟨τ, i⟩ => [(2, .fn (.func G) fs cp), (12, .sl 3 (L.map sItem) t), (13, vInt L.length), (14, vInt i)]) (fun ⟨τ, i⟩ => τ) (τ0, 0) ?_ ?_ ?_ ?_
  · exact ⟨Nat.zero_le _, by simpa using g1, g2⟩
  · exact cv_
  · exact Store.Wk.refl _
  rintro ⟨τ, i⟩ ⟨h1, h2, h3⟩
  simp only [envL_cons, envL_nil]
  refine awp_seq ?_
  refine awp_region (by kernel_rfl) ?_
  (refine aL_S rfl rfl v_ ?_)
  refine aL_nil ?_
  refine awp_seq ?_
  refine awp_cond v_ (fun hc2 => ?_) (fun hc2 => ?_)
  · replace hc2 := nm_ hc2
    refine awp_skip ?_
    refine awp_seq ?_
    refine awp_block ?_
    refine awp_seq ?_
    obtain ⟨x, hx⟩ : ∃ x, L[i]? = some x := ⟨L[i]'(by omega), List.getElem?_eq_getElem _⟩
    have hle := flatMap_take_le (f := wb) L (i + 1)
    rw [flatMap_take hx, List.length_append] at hle
    have hb : (l ++ beI 4 L.length ++ (L.take i).flatMap wb).length + (wb x).length ≤ 800000000000 := by rw [List.length_append, List.length_append, beI_length]; omega
    have hxm := List.mem_of_getElem? hx
    have R := hx
    refine awp_region (by kernel_rfl) ?_
    iterate 2 (refine aL_S rfl rfl v_ ?_)
    refine aL_alloc rfl rfl rfl g_ gl_ fun o7 ho7 => ?_
    repeat (rw [none_set_iff] at ho7; obtain ⟨_, ho7⟩ := ho7)
    refine aL_store rfl rfl rfl v_ v_ h_ g_ rfl g_ c_ (by rfl) le_ v_ ?_
    refine aL_nil ?_
    obtain ⟨xo, hxo⟩ := WR.some h2
    have n7 := (ne_of_heap hxo ho7).symm
    refine awp_region (by kernel_rfl) ?_
    iterate 2 (refine aL_S rfl rfl v_ ?_)
    refine aL_X rfl rfl (AOp_use rfl rfl (.inl v_) g_ va_ (hf _ _ x hxm (WR.alloc2 h2 n7) (hK _ _ hKσ (WF.alloc2 h3 ho7 n7)) hb) ?_); rintro _ υ ⟨rfl, u1, u2⟩
    refine aL_nil ?_
    refine awp_region (by kernel_rfl) ?_
    iterate 2 (refine aL_S rfl rfl v_ ?_)
    refine aL_nil ?_
    refine aNext (ι := Store × Nat) (i := ⟨τ, i⟩) (υ, i + 1) ?_ ?_ ?_ ?_
    · show L.length - (i + 1) < L.length - i; omega
    · exact ⟨by show i + 1 ≤ L.length; omega, by rw [flatMap_take hx, ← List.append_assoc]; exact u1, WF.trans (WF.alloc2 h3 ho7 n7) u2⟩
    · exact cv_
    · exact Store.Wk.refl _
  · replace hc2 := nm_ hc2
    refine awp_exit ?_
    refine aThen_exit ?_
    refine aThen_exit ?_
    refine aBlock_hit ?_
    refine aEnd_nor v_ (Store.Wk.refl _) ?_
    exact ⟨rfl, by rw [listB, ← List.append_assoc]; rwa [List.take_of_length_le (by omega)] at h2, h3⟩
theorem wrLeaf_c {o ob : Nat} {l : List UInt8} {x : Leaf} {σ : Store} (ho : WR σ o l) (hb : σ.heap ob = some (.cells [.ref o 0])) (hx : LeafSm x) (hl : l.length + (leafB x).length ≤ 999999999000) : ACalls Tryz.prog 25 [sLeaf x, .ref ob 0] σ fun v σ' => v = .tup [] ∧ WR σ' o (l ++ leafB x) ∧ WF o σ σ' := by
  have hne : ob ≠ o := fun hh => by obtain ⟨a, b, old, h1, _⟩ := ho; rw [hh, h1] at hb; cases hb
  have h1 := hx.place; have h2 := hx.digest
  simp only [leafB, List.length_append, textB_length] at hl
  refine ACalls_of Tryz.func25 rfl Tryz.ntmps25 (congrArg Array.toList Tryz.results25) (by simp only [List.length_cons, List.length_nil]; decide) ?_; simp only [envOf_cons, envOf_nil, Nat.reduceAdd]
  refine awp_seq ?_
  refine awp_region (by kernel_rfl) ?_
  refine aL_box rfl rfl rfl v_ rfl g_ fun o2 ho2 => ?_
  repeat (rw [none_set_iff] at ho2; obtain ⟨_, ho2⟩ := ho2)
  refine aL_nil ?_
  obtain ⟨xo, hxo⟩ := WR.some ho
  have n2 := (ne_of_heap hxo ho2).symm
  have n2b := (ne_of_heap hb ho2)
  refine awp_seq ?_
  have R := hb
  refine awp_region (by kernel_rfl) ?_
  iterate 3 (refine aL_S rfl rfl v_ ?_)
  refine aL_X rfl rfl (AOp_use rfl rfl (.inr ⟨rfl, rfl, rfl⟩) g_ va_ (wrText_c (WR.alloc ho n2) (by omega) (by omega)) ?_); rintro _ τ1 ⟨rfl, a1, a2⟩
  refine aL_nil ?_
  have b1 := WF.keep (i := ob) (x := .cells [.ref o 0]) a2 (by simp (disch := omega) only [Store.set_ne, hb]) hne
  have b2 := WF.keep (i := o2) (x := .cells (sLeaf x).cells) a2 (Store.set_get ..) n2
  have R := And.intro b1 b2
  refine awp_region (by kernel_rfl) ?_
  iterate 3 (refine aL_S rfl rfl v_ ?_)
  refine aL_X rfl rfl (AOp_use rfl rfl (.inr ⟨rfl, rfl, rfl⟩) g_ va_ (wrText_c a1 (by simp only [List.length_append, textB_length]; omega) (by omega)) ?_); rintro _ τ2 ⟨rfl, c1, c2⟩
  refine aL_nil ?_
  refine aEnd_nor v_ (Store.Wk.refl _) ?_
  exact ⟨rfl, by simpa [leafB, List.append_assoc] using c1, (WF.alloc WF.refl ho2 n2).trans (a2.trans c2)⟩
theorem wrItem_c {o ob : Nat} {l : List UInt8} {x : Itm} {σ : Store} (ho : WR σ o l) (hb : σ.heap ob = some (.cells [.ref o 0])) (hx : ItemSm x) (hl : l.length + (itemB x).length ≤ 800000000000) : ACalls Tryz.prog 27 [sItem x, .ref ob 0] σ fun v σ' => v = .tup [] ∧ WR σ' o (l ++ itemB x) ∧ WF o σ σ' := by
  have hne : ob ≠ o := fun hh => by obtain ⟨a, b, old, h1, _⟩ := ho; rw [hh, h1] at hb; cases hb
  have h1 := hx.place
  refine ACalls_of Tryz.func27 rfl Tryz.ntmps27 (congrArg Array.toList Tryz.results27) (by simp only [List.length_cons, List.length_nil]; decide) ?_; simp only [envOf_cons, envOf_nil, Nat.reduceAdd]
  refine awp_seq ?_
  refine awp_region (by kernel_rfl) ?_
  refine aL_box rfl rfl rfl v_ rfl g_ fun o2 ho2 => ?_
  repeat (rw [none_set_iff] at ho2; obtain ⟨_, ho2⟩ := ho2)
  refine aL_nil ?_
  obtain ⟨xo, hxo⟩ := WR.some ho
  have n2 := (ne_of_heap hxo ho2).symm
  have n2b := (ne_of_heap hb ho2)
  refine awp_seq ?_
  have R := hb
  refine awp_region (by kernel_rfl) ?_
  iterate 3 (refine aL_S rfl rfl v_ ?_)
  refine aL_X rfl rfl (AOp_use rfl rfl (.inr ⟨rfl, rfl, rfl⟩) g_ va_ (wrText_c (WR.alloc ho n2) (by omega) (by omega)) ?_); rintro _ τ1 ⟨rfl, a1, a2⟩
  refine aL_nil ?_
  have b1 := WF.keep (i := ob) (x := .cells [.ref o 0]) a2 (by simp (disch := omega) only [Store.set_ne, hb]) hne
  have b2 := WF.keep (i := o2) (x := .cells (sItem x).cells) a2 (Store.set_get ..) n2
  have R := And.intro b1 b2
  refine awp_region (by kernel_rfl) ?_
  iterate 3 (refine aL_S rfl rfl v_ ?_)
  refine aL_X rfl rfl (AOp_use rfl rfl (.inr ⟨rfl, rfl, rfl⟩) g_ va_ (wrObj_c a1 hx.obj (by simp only [List.length_append, textB_length]; omega)) ?_); rintro _ τ2 ⟨rfl, c1, c2⟩
  refine aL_nil ?_
  refine aEnd_nor v_ (Store.Wk.refl _) ?_
  exact ⟨rfl, by simpa [itemB, List.append_assoc] using c1, (WF.alloc WF.refl ho2 n2).trans (a2.trans c2)⟩
theorem wrEnt_c {o : Nat} {l : List UInt8} {x : Ent} {σ : Store} (ho : WR σ o l) (hx : EntSm x) (hl : l.length + (entB x).length ≤ 999999999000) : ACalls Tryz.prog 61 [.agg [.ref o 0], sEnt x] σ fun v σ' => v = .tup [] ∧ WR σ' o (l ++ entB x) ∧ WF o σ σ' := by
  have h1 := hx.key; have h2 := hx.who; have h3 := hx.value
  simp only [entB, List.length_append, textB_length, beI_length] at hl
  refine ACalls_of Tryz.func61 rfl Tryz.ntmps61 (congrArg Array.toList Tryz.results61) (by simp only [List.length_cons, List.length_nil]; decide) ?_; simp only [envOf_cons, envOf_nil, Nat.reduceAdd]
  refine awp_seq ?_
  refine awp_region (by kernel_rfl) ?_
  refine aL_box rfl rfl rfl v_ rfl g_ fun o2 ho2 => ?_
  repeat (rw [none_set_iff] at ho2; obtain ⟨_, ho2⟩ := ho2)
  refine aL_box rfl rfl rfl v_ rfl g_ fun o3 ho3 => ?_
  repeat (rw [none_set_iff] at ho3; obtain ⟨_, ho3⟩ := ho3)
  refine aL_nil ?_
  obtain ⟨xo, hxo⟩ := WR.some ho
  have n2 := (ne_of_heap hxo ho2).symm
  have n3 := (ne_of_heap hxo ho3).symm
  have wf := WF.alloc (x := .cells (sEnt x).cells) (WF.alloc (x := .cells [.ref o 0]) WF.refl ho2 n2) (i := o3) (by simp (disch := omega) only [Store.set_ne, ho3]) n3
  refine awp_seq ?_
  refine awp_region (by kernel_rfl) ?_
  iterate 4 (refine aL_S rfl rfl v_ ?_)
  refine aL_X rfl rfl (AOp_use rfl rfl (.inr ⟨rfl, rfl, rfl⟩) g_ va_ (wrText_c (WR.alloc (WR.alloc ho n2) n3) (by omega) (by omega)) ?_); rintro _ τ1 ⟨rfl, a1, a2⟩
  refine aL_nil ?_
  refine awp_seq ?_
  have b1 := WF.keep (i := o2) (x := .cells [.ref o 0]) a2 h_ n2
  have b2 := WF.keep (i := o3) (x := .cells (sEnt x).cells) a2 h_ n3
  have R := And.intro b1 b2
  refine awp_region (by kernel_rfl) ?_
  iterate 5 (refine aL_S rfl rfl v_ ?_)
  refine aL_X rfl rfl (AOp_use rfl rfl (.inr ⟨rfl, rfl, rfl⟩) g_ va_ (wrInt_c a1 (by simp only [List.length_append, textB_length]; omega)) ?_); rintro _ τ2 ⟨rfl, c1, c2⟩
  refine aL_nil ?_
  refine awp_seq ?_
  have d1 := c2.keep b1 n2
  have d2 := c2.keep b2 n3
  have R := And.intro d1 d2
  refine awp_region (by kernel_rfl) ?_
  iterate 5 (refine aL_S rfl rfl v_ ?_)
  refine aL_X rfl rfl (AOp_use rfl rfl (.inr ⟨rfl, rfl, rfl⟩) g_ va_ (wrText_c c1 (by simp only [List.length_append, textB_length, beI_length]; omega) (by omega)) ?_); rintro _ τ3 ⟨rfl, e1, e2⟩
  refine aL_nil ?_
  have f1 := e2.keep d1 n2
  have f2 := e2.keep d2 n3
  have R := And.intro f1 f2
  refine awp_region (by kernel_rfl) ?_
  iterate 5 (refine aL_S rfl rfl v_ ?_)
  refine aL_X rfl rfl (AOp_use rfl rfl (.inr ⟨rfl, rfl, rfl⟩) g_ va_ (wrText_c e1 (by simp only [List.length_append, textB_length, beI_length]; omega) (by omega)) ?_); rintro _ τ4 ⟨rfl, g1, g2⟩
  refine aL_nil ?_
  refine aEnd_nor v_ (Store.Wk.refl _) ?_
  exact ⟨rfl, by simpa [entB, List.append_assoc] using g1, wf.trans (a2.trans (c2.trans (e2.trans g2)))⟩
theorem wrEnts_c {o : Nat} {l : List UInt8} {L : List Ent} {t : Bool} {σ : Store} (ho : WR σ o l) (hs : ∀ x ∈ L, EntSm x) (hL : l.length + 4 + (L.flatMap entB).length ≤ 999999999000) (hLb : L.length ≤ 1000000) :
    ACalls Tryz.prog 28 [.ref o 0, .sl 4 (L.map sEnt) t] σ fun v σ' => v = .tup [] ∧ WR σ' o (l ++ listB entB L) ∧ WF o σ σ' := by
  refine ACalls_of Tryz.func28 rfl Tryz.ntmps28 (congrArg Array.toList Tryz.results28) (by simp only [List.length_cons, List.length_nil]; decide) ?_; simp only [envOf_cons, envOf_nil, Nat.reduceAdd]
  refine awp_seq ?_
  refine awp_region (by kernel_rfl) ?_
  iterate 3 (refine aL_S rfl rfl v_ ?_)
  refine aL_X rfl rfl (AOp_use rfl rfl (.inr ⟨rfl, rfl, rfl⟩) g_ va_ (wrCount_c (n := (L.length : Int)) ho (by omega)) ?_); rintro _ τ0 ⟨rfl, g1, g2⟩
  refine aL_nil ?_
  refine awp_seq ?_
  refine awp_region (by kernel_rfl) ?_
  iterate 4 (refine aL_S rfl rfl v_ ?_)
  refine aL_nil ?_
  refine awp_seq ?_
  refine awp_region (by kernel_rfl) ?_
  iterate 3 (refine aL_S rfl rfl v_ ?_)
  refine aL_nil ?_
  refine awp_block ?_
  refine awp_loop_env (ι := Store × Nat) (fun ⟨τ, i⟩ => L.length - i) (fun ⟨τ, i⟩ => i ≤ L.length ∧ WR τ o (l ++ beI 4 L.length ++ (L.take i).flatMap entB) ∧ WF o σ τ) (fun ⟨τ, i⟩ => [(4, .fn (.func 61) [.agg [.ref o 0]] []), (14, .sl 4 (L.map sEnt) t), (15, vInt L.length), (16, vInt i)]) (fun ⟨τ, i⟩ => τ) (τ0, 0) ?_ ?_ ?_ ?_
  · exact ⟨Nat.zero_le _, by simpa using g1, g2⟩
  · exact cv_
  · exact Store.Wk.refl _
  rintro ⟨τ, i⟩ ⟨h1, h2, h3⟩
  simp only [envL_cons, envL_nil]
  refine awp_seq ?_
  refine awp_region (by kernel_rfl) ?_
  (refine aL_S rfl rfl v_ ?_)
  refine aL_nil ?_
  refine awp_seq ?_
  refine awp_cond v_ (fun hc3 => ?_) (fun hc3 => ?_)
  · replace hc3 := nm_ hc3
    refine awp_skip ?_
    refine awp_seq ?_
    refine awp_block ?_
    refine awp_seq ?_
    obtain ⟨x, hx⟩ : ∃ x, L[i]? = some x := ⟨L[i]'(by omega), List.getElem?_eq_getElem _⟩
    have hle := flatMap_take_le (f := entB) L (i + 1)
    rw [flatMap_take hx, List.length_append] at hle
    have hb : (l ++ beI 4 L.length ++ (L.take i).flatMap entB).length + (entB x).length ≤ 999999999000 := by rw [List.length_append, List.length_append, beI_length]; omega
    have hxm := hs x (List.mem_of_getElem? hx)
    have R := hx
    refine awp_region (by kernel_rfl) ?_
    iterate 2 (refine aL_S rfl rfl v_ ?_)
    refine aL_alloc rfl rfl rfl g_ gl_ fun o6 ho6 => ?_
    repeat (rw [none_set_iff] at ho6; obtain ⟨_, ho6⟩ := ho6)
    refine aL_store rfl rfl rfl v_ v_ h_ g_ rfl g_ c_ (by rfl) le_ v_ ?_
    refine aL_nil ?_
    obtain ⟨xo, hxo⟩ := WR.some h2
    have n6 := (ne_of_heap hxo ho6).symm
    refine awp_region (by kernel_rfl) ?_
    iterate 2 (refine aL_S rfl rfl v_ ?_)
    refine aL_X rfl rfl (AOp_use rfl rfl (.inl v_) g_ va_ (wrEnt_c (WR.alloc2 h2 n6) hxm hb) ?_); rintro _ υ ⟨rfl, u1, u2⟩
    refine aL_nil ?_
    refine awp_region (by kernel_rfl) ?_
    iterate 2 (refine aL_S rfl rfl v_ ?_)
    refine aL_nil ?_
    refine aNext (ι := Store × Nat) (i := ⟨τ, i⟩) (υ, i + 1) ?_ ?_ ?_ ?_
    · show L.length - (i + 1) < L.length - i; omega
    · exact ⟨by show i + 1 ≤ L.length; omega, by rw [flatMap_take hx, ← List.append_assoc]; exact u1, WF.trans (WF.alloc2 h3 ho6 n6) u2⟩
    · exact cv_
    · exact Store.Wk.refl _
  · replace hc3 := nm_ hc3
    refine awp_exit ?_
    refine aThen_exit ?_
    refine aThen_exit ?_
    refine aBlock_hit ?_
    refine aEnd_nor v_ (Store.Wk.refl _) ?_
    exact ⟨rfl, by rw [listB, ← List.append_assoc]; rwa [List.take_of_length_le (by omega)] at h2, h3⟩
end Go.Proofs.YtbjloippgpilcaaGreat
end

section
set_option linter.all false
set_option maxRecDepth 100000
namespace Go.Proofs.YtbjloippgpilcaaGreat
open Go.Ab

theorem headB_len {m : Msg} (h : MsgSm m) : (headB m).length ≤ 16000000000 := by
  have h1 := h.frm; have h2 := h.to; have h3 := h.place; have h4 := h.ln
  have h5 := h4.texts; have h6 := h4.obj
  simp only [headB, listB, List.length_append, textB_length, beI_length]; omega
set_option maxHeartbeats 2000000 in
theorem mBytes_c {m : Msg} {σ : Store} (hm : MsgSm m) : ACalls Tryz.prog 6 [sMsg m] σ fun v σ' => v = vStr (B (msgB m)) ∧ σ = σ' := by
  have h1 := hm.frm; have h2 := hm.to; have h3 := hm.place; have hl := hm.ln
  have l1 := hl.texts; have l2 := hl.leaves; have l3 := hl.items; have l4 := hl.ents; have l5 := hl.obj
  have nt := hm.nt; have nl := hm.nl; have ni := hm.ni; have ne := hm.ne
  refine ACalls_of Tryz.func6 rfl Tryz.ntmps6 (congrArg Array.toList Tryz.results6) (by simp only [List.length_cons, List.length_nil]; decide) ?_; simp only [envOf_cons, envOf_nil, Nat.reduceAdd]
  refine awp_seq ?_
  refine awp_region (by kernel_rfl) ?_
  refine aL_box rfl rfl rfl v_ rfl g_ fun o1 ho1 => ?_
  repeat (rw [none_set_iff] at ho1; obtain ⟨_, ho1⟩ := ho1)
  (refine aL_S rfl rfl v_ ?_)
  refine aL_nil ?_
  refine awp_seq ?_
  refine awp_region (by kernel_rfl) ?_
  (refine aL_S rfl rfl v_ ?_)
  refine aL_X rfl rfl (AOp_boxP rfl va_ fun o5 ho5 => ?_); obtain ⟨n5, ho5⟩ := none_set_iff.1 ho5
  refine aL_alloc rfl rfl rfl g_ gl_ fun o3 ho3 => ?_
  repeat (rw [none_set_iff] at ho3; obtain ⟨_, ho3⟩ := ho3)
  refine aL_store rfl rfl rfl v_ v_ h_ g_ rfl g_ c_ (by rfl) le_ v_ ?_
  refine aL_nil ?_
  skip
  have n31 : o3 ≠ o1 := by omega
  have n35 : o3 ≠ o5 := by omega
  refine awp_gen fun S hS => ?_
  have w0 : WR S o5 [] := by
    refine ⟨_, _, none, ?_, .inr rfl, .inr ⟨rfl, rfl, rfl⟩⟩
    rw [hS]; simp (disch := omega) only [Store.set_ne, Store.set_get]; rfl
  have n1 : o1 ≠ o5 := Ne.symm n5
  have f1 : S.heap o1 = some (.cells (sMsg m).cells) := by rw [hS]; simp (disch := omega) only [Store.set_ne, Store.set_get]; rfl
  have f3 : S.heap o3 = some (.cells [.ref o5 0]) := by rw [hS]; simp (disch := omega) only [Store.set_ne, Store.set_get]
  have e : WF o5 ((σ.set o1 (.cells (sMsg m).cells)).set o5 (.cells [.nilp o5 56 2, .lit (.slice none 0 0)])) S := by
    rw [hS]
    exact WF.alloc2 WF.refl (by simp (disch := omega) only [Store.set_ne]; exact ho3) n35
  clear hS
  refine awp_seq ?_
  have R := And.intro f1 f3
  refine awp_region (by kernel_rfl) ?_
  iterate 3 (refine aL_S rfl rfl v_ ?_)
  refine aL_X rfl rfl (AOp_use rfl rfl (.inr ⟨rfl, rfl, rfl⟩) g_ va_ (wrByte_c w0 (by simp)) ?_); rintro _ τ2 ⟨rfl, a, e'⟩
  refine aL_nil ?_
  replace f1 := WF.keep e' f1 n1
  replace f3 := WF.keep e' f3 n35
  replace e := e.trans e'
  refine awp_seq ?_
  have R := And.intro f1 f3
  refine awp_region (by kernel_rfl) ?_
  iterate 3 (refine aL_S rfl rfl v_ ?_)
  refine aL_X rfl rfl (AOp_use rfl rfl (.inr ⟨rfl, rfl, rfl⟩) g_ va_ (wrText_c a (by simp only [List.length_append, List.length_nil, textB_length, beI_length, listB]; omega) (by omega)) ?_); rintro _ τ3 ⟨rfl, a, e'⟩
  refine aL_nil ?_
  replace f1 := WF.keep e' f1 n1
  replace f3 := WF.keep e' f3 n35
  replace e := e.trans e'
  refine awp_seq ?_
  have R := And.intro f1 f3
  refine awp_region (by kernel_rfl) ?_
  iterate 3 (refine aL_S rfl rfl v_ ?_)
  refine aL_X rfl rfl (AOp_use rfl rfl (.inr ⟨rfl, rfl, rfl⟩) g_ va_ (wrText_c a (by simp only [List.length_append, List.length_nil, textB_length, beI_length, listB]; omega) (by omega)) ?_); rintro _ τ4 ⟨rfl, a, e'⟩
  refine aL_nil ?_
  replace f1 := WF.keep e' f1 n1
  replace f3 := WF.keep e' f3 n35
  replace e := e.trans e'
  refine awp_seq ?_
  have R := And.intro f1 f3
  refine awp_region (by kernel_rfl) ?_
  iterate 3 (refine aL_S rfl rfl v_ ?_)
  refine aL_X rfl rfl (AOp_use rfl rfl (.inr ⟨rfl, rfl, rfl⟩) g_ va_ (wrInt_c a (by simp only [List.length_append, List.length_nil, textB_length, beI_length, listB]; omega)) ?_); rintro _ τ5 ⟨rfl, a, e'⟩
  refine aL_nil ?_
  replace f1 := WF.keep e' f1 n1
  replace f3 := WF.keep e' f3 n35
  replace e := e.trans e'
  refine awp_seq ?_
  have R := And.intro f1 f3
  refine awp_region (by kernel_rfl) ?_
  iterate 3 (refine aL_S rfl rfl v_ ?_)
  refine aL_X rfl rfl (AOp_use rfl rfl (.inr ⟨rfl, rfl, rfl⟩) g_ va_ (wrByte_c a (by simp only [List.length_append, List.length_nil, textB_length, beI_length, listB]; omega)) ?_); rintro _ τ6 ⟨rfl, a, e'⟩
  refine aL_nil ?_
  replace f1 := WF.keep e' f1 n1
  replace f3 := WF.keep e' f3 n35
  replace e := e.trans e'
  refine awp_seq ?_
  have R := And.intro f1 f3
  refine awp_region (by kernel_rfl) ?_
  iterate 3 (refine aL_S rfl rfl v_ ?_)
  refine aL_X rfl rfl (AOp_use rfl rfl (.inr ⟨rfl, rfl, rfl⟩) g_ va_ (wrText_c a (by simp only [List.length_append, List.length_nil, textB_length, beI_length, listB]; omega) (by omega)) ?_); rintro _ τ7 ⟨rfl, a, e'⟩
  refine aL_nil ?_
  replace f1 := WF.keep e' f1 n1
  replace f3 := WF.keep e' f3 n35
  replace e := e.trans e'
  refine awp_seq ?_
  have R := And.intro f1 f3
  refine awp_region (by kernel_rfl) ?_
  iterate 3 (refine aL_S rfl rfl v_ ?_)
  refine aL_X rfl rfl (AOp_use rfl rfl (.inr ⟨rfl, rfl, rfl⟩) g_ va_ (wrObj_c a hm.obj (by simp only [List.length_append, List.length_nil, textB_length, beI_length, listB]; omega)) ?_); rintro _ τ8 ⟨rfl, a, e'⟩
  refine aL_nil ?_
  replace f1 := WF.keep e' f1 n1
  replace f3 := WF.keep e' f3 n35
  replace e := e.trans e'
  refine awp_seq ?_
  have R := And.intro f1 f3
  refine awp_region (by kernel_rfl) ?_
  iterate 3 (refine aL_S rfl rfl v_ ?_)
  refine aL_X rfl rfl (AOp_use rfl rfl (.inr ⟨rfl, rfl, rfl⟩) g_ va_ (wrTexts_c a hm.texts (by simp only [List.length_append, List.length_nil, textB_length, beI_length, listB]; omega) (by omega)) ?_); rintro _ τ9 ⟨rfl, a, e'⟩
  refine aL_nil ?_
  replace f1 := WF.keep e' f1 n1
  replace f3 := WF.keep e' f3 n35
  replace e := e.trans e'
  refine awp_seq ?_
  have R := And.intro f1 f3
  refine awp_region (by kernel_rfl) ?_
  iterate 4 (refine aL_S rfl rfl v_ ?_)
  refine aL_X rfl rfl (AOp_use rfl rfl (.inr ⟨rfl, rfl, rfl⟩) g_ va_ (eachLeaf_c (wb := leafB) (fun τ => τ.heap o3 = some (.cells [.ref o5 0])) (by kernel_rfl) (fun _ _ h k => k.keep h n35) a f3 (by simp only [List.length_append, List.length_nil, textB_length, beI_length, listB]; omega) (by omega) (fun _ _ _ hx h hb hl => wrLeaf_c h hb (hm.leaves _ hx) (by omega))) ?_); rintro _ τ10 ⟨rfl, a, e'⟩
  refine aL_nil ?_
  replace f1 := WF.keep e' f1 n1
  replace f3 := WF.keep e' f3 n35
  replace e := e.trans e'
  refine awp_seq ?_
  have R := And.intro f1 f3
  refine awp_region (by kernel_rfl) ?_
  iterate 4 (refine aL_S rfl rfl v_ ?_)
  refine aL_X rfl rfl (AOp_use rfl rfl (.inr ⟨rfl, rfl, rfl⟩) g_ va_ (eachItem_c (wb := itemB) (fun τ => τ.heap o3 = some (.cells [.ref o5 0])) (by kernel_rfl) (fun _ _ h k => k.keep h n35) a f3 (by simp only [List.length_append, List.length_nil, textB_length, beI_length, listB]; omega) (by omega) (fun _ _ _ hx h hb hl => wrItem_c h hb (hm.items _ hx) hl)) ?_); rintro _ τ11 ⟨rfl, a, e'⟩
  refine aL_nil ?_
  replace f1 := WF.keep e' f1 n1
  replace f3 := WF.keep e' f3 n35
  replace e := e.trans e'
  refine awp_seq ?_
  have R := And.intro f1 f3
  refine awp_region (by kernel_rfl) ?_
  iterate 3 (refine aL_S rfl rfl v_ ?_)
  refine aL_X rfl rfl (AOp_use rfl rfl (.inr ⟨rfl, rfl, rfl⟩) g_ va_ (wrEnts_c a hm.ents (by simp only [List.length_append, List.length_nil, textB_length, beI_length, listB]; omega) (by omega)) ?_); rintro _ τ12 ⟨rfl, a, e'⟩
  refine aL_nil ?_
  replace f1 := WF.keep e' f1 n1
  replace f3 := WF.keep e' f3 n35
  replace e := e.trans e'
  refine awp_seq ?_
  have R := f3
  refine awp_region (by kernel_rfl) ?_
  (refine aL_S rfl rfl v_ ?_)
  refine aL_X rfl rfl (AOp_use rfl rfl (.inr ⟨rfl, rfl, rfl⟩) g_ va_ (wrBytes_c a (by simp only [List.length_append, List.length_nil, textB_length, beI_length, listB]; omega)) ?_); rintro _ τ13 ⟨rfl, e'⟩
  (refine aL_S rfl rfl v_ ?_)
  refine aL_nil ?_
  refine awp_ret ?_
  have h9 := WF.sub (x := .cells [.nilp o5 56 2, .lit (.slice none 0 0)]) (by simp (disch := omega) only [Store.set_ne, ho5]) (e.trans e') (fun a t sz l hh => by simp at hh)
  exact aEnd_ret (σ' := σ) va_ (Store.Sub.wk (Store.Sub.trans (sub_set ho1) h9)) ⟨by simp [msgB, headB, List.append_assoc], rfl⟩
end Go.Proofs.YtbjloippgpilcaaGreat
end
