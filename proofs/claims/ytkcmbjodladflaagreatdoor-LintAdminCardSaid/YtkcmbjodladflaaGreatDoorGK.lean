/-
  Entries sorted by their keys, and joined one behind the other; versions held against each other: the program; Entries of partitions, entries joined one behind the other: the program; The entries of a cluster at first, without more: the program; Entries joined with others: the document's way; What must come of administrators, whatever the arguments are; What must come of administrators, whatever the arguments are: the walk; What was set is newer, and may be put: plainly; What an administrator sets may be put, all of it: plainly; The reference's Is, of any string that a call may bring; Few of an administrator's ask, what is new among entries: the program; AdminNewer: the walk; An administrator's ask, as it comes in. Own work (an AI agent).
-/
import Derived.Test.YtkcmbjodladflaaGreatDoorGF
import Derived.Test.YtkcmbjodladflaaGreatDoorGI
import Derived.Test.YtkcmbjodladflaaGreatDoorGE
import Derived.Test.YtkcmbjodladflaaGreatDoorGG
import Derived.Test.YtkcmbjodladflaaGreatDoorGD
import Derived.Lib.Bytealg
import Derived.Shelf.Small.Strs
import Derived.WalkKit
import Derived.Shelf.SlSortCmp.NoneTotal
import Derived.Test.YtkcmbjodladflaaGreatDoorGJ
import Derived.Test.YtkcmbjodladflaaGreatDoorGH

section
set_option linter.all false
set_option maxRecDepth 100000
namespace Go.Proofs
open Go.Shelf
end Go.Proofs
namespace Go.Proofs.YtkcmbjodladflaaGreatDoor
open Go.Ab Go.Shelf Go.Sort
end Go.Proofs.YtkcmbjodladflaaGreatDoor
end

section
set_option linter.all false
set_option maxRecDepth 100000
namespace Go.Ab
end Go.Ab
namespace Go.Proofs.YtkcmbjodladflaaGreatDoor
open Go.Ab
theorem ex_ (L : List Ent) : (flat (L.map sEnt)).take (L.length * 4) = flat (L.map sEnt) := List.take_of_length_le (by rw [aU_ (ol_ L), List.length_map]; exact Nat.le_refl _)
@[reducible] def slE (L : List Ent) : AVal := .sl 4 (L.map sEnt) false
end Go.Proofs.YtkcmbjodladflaaGreatDoor
end

section
set_option linter.all false
set_option maxRecDepth 100000
namespace Go.Proofs.YtkcmbjodladflaaGreatDoor
open Go.Ab
structure MbOk (m : Mbr) : Prop where
 name : aI_ m.name = true
 rack : aI_ m.rack = true
 zone : aI_ m.zone = true
end Go.Proofs.YtkcmbjodladflaaGreatDoor
end

section
set_option linter.all false
set_option maxRecDepth 100000
namespace Go.Proofs.YtkcmbjodladflaaGreatDoor
open Go.Ab
def jnS (a b : List Ent) : List Ent := b.foldl (fun acc y => putS y acc) a
theorem pC_ {a b : List Ent} {k : Nat} {x : Ent} (h : b[k]? = some x) : jnS a (b.take (k + 1)) = putS x (jnS a (b.take k)) := by
 unfold jnS
 rw [aX_ h, List.foldl_append]; rfl
theorem oI_ (b : List Ent) : ∀ a, (jnS a b).length ≤ a.length + b.length := by
 induction b with
 |nil => intro a; exact Nat.le_refl _
 |cons x b ih =>
  intro a
  have := ih (putS x a)
  have h2 := dV_ x a
  unfold jnS at this ⊢
  rw [List.foldl_cons, List.length_cons]; omega
end Go.Proofs.YtkcmbjodladflaaGreatDoor
end

section
set_option linter.all false
set_option maxRecDepth 100000
namespace Go.Proofs.YtkcmbjodladflaaGreatDoor
open Go.Ab
abbrev n1 : ByteArray := ⟨#[110, 49]⟩
abbrev n2 : ByteArray := ⟨#[110, 50]⟩
abbrev ad7 : Adm := ⟨7, ⟨#[]⟩, ⟨#[]⟩, ⟨#[]⟩, ⟨#[]⟩, 0, d1_⟩
end Go.Proofs.YtkcmbjodladflaaGreatDoor
end

section
set_option linter.all false
set_option maxRecDepth 100000
namespace Go.Proofs.YtkcmbjodladflaaGreatDoor
open Go.Ab
theorem mI_ {α : Type} {ok : α → Bool} {key : α → ByteArray} : ∀ {l : List α} {pv : Option ByteArray}, upGo ok key pv l = true → ∀ x ∈ l, ok x = true
 |[], _, _, x, h => by cases h
 |y :: l, pv, hu, x, h => by
  unfold upGo at hu
  simp only [Bool.and_eq_true] at hu
  rcases List.mem_cons.1 h with rfl | h
  ·exact hu.1.1
  ·exact mI_ hu.2 x h
theorem gM_ {l : List Ent} (h : bc_ l = true) : ∀ x ∈ l, EntSm x ∧ x.key.size ≤ 128 ∧ x.value.size ≤ 256 := fun x hx => by
 unfold bc_ at h
 rw [Bool.and_eq_true] at h
 have := mI_ h.2 x hx
 unfold bS_ cW_ at this
 simp only [Bool.and_eq_true, Bool.or_eq_true, decide_eq_true_eq] at this
 obtain ⟨⟨h1, h2⟩, ⟨⟨h3, h4⟩, h5⟩, h6⟩ := this
 have hw : x.who.size ≤ 16 := by
  rcases h5 with h5 | h5
  ·omega
  ·exact (eB_ h5).2
 exact ⟨⟨by omega, by omega, by omega⟩, h2, h6⟩
theorem sE_ {k : Int} {m : Mbr} (h1 : m.name.size ≤ 16) (h2 : m.rack.size ≤ 16) (h3 : m.zone.size ≤ 16) : AdmSm ⟨k, ⟨#[]⟩, ⟨#[]⟩, ⟨#[]⟩, ⟨#[]⟩, 0, m⟩ :=
 ⟨Nat.zero_le _, Nat.zero_le _, Nat.zero_le _, Nat.zero_le _, (show (-9223372036854775808 : Int) ≤ 0 by decide), (show (0 : Int) ≤ 9223372036854775807 by decide), Nat.le_trans h1 (by decide), Nat.le_trans h2 (by decide), Nat.le_trans h3 (by decide)⟩
end Go.Proofs.YtkcmbjodladflaaGreatDoor
end

section
set_option linter.all false
set_option maxRecDepth 100000
namespace Go.Proofs.YtkcmbjodladflaaGreatDoor
open Go.Ab
structure SetOk (l : List Ent) (who k v : ByteArray) (y : Ent) : Prop where
 key : y.key = k
 who : y.who = who
 value : y.value = v
 newer : b6_ y (getS l k) = true
 ok : bS_ y = true
theorem bV_ {l : List Ent} {who k v : ByteArray} (h : (setS l who k v).2 = 0) : SetOk l who k v (setS l who k v).1 := by
 unfold setS at h ⊢
 split at h
 ·cases h
 ·rename_i h1
  split at h
  ·rename_i h2; exact absurd h h2
  ·rename_i h2
   rw [if_neg h1, if_neg h2]
   have h2' : (cU_ (getS l k) who v).2 = 0 := by simpa using h2
   unfold cU_ at h2' ⊢
   split at h2'
   ·cases h2'
   ·rename_i h3
    split at h2'
    ·cases h2'
    ·rename_i h4
     rw [if_neg h3, if_neg h4]
     simp only [Bool.or_eq_true, Bool.and_eq_true, Bool.not_eq_true', decide_eq_true_eq, not_or, not_and, Bool.not_eq_false] at h1 h3
     obtain ⟨⟨h11, h12⟩, h13⟩ := h1
     obtain ⟨⟨h31, h32⟩, h33⟩ := h3
     have hn0 : 0 ≤ (getS l k).n := by
      cases hz : regZ (getS l k) with
      |true => unfold regZ at hz; simp only [Bool.and_eq_true, decide_eq_true_eq] at hz; omega
      |false => have := mb_ (h31 hz); omega
     refine ⟨rfl, rfl, rfl, ?_, ?_⟩
     ·unfold b6_
      simp only
      rw [if_pos (by omega)]
      exact decide_eq_true (by omega)
     ·unfold bS_ cW_
      simp only
      rw [h32]
      simp only [Bool.and_eq_true, Bool.or_true, decide_eq_true_eq]
      exact ⟨⟨by omega, by omega⟩, ⟨⟨by omega, by omega⟩, trivial⟩, by omega⟩
theorem oV_ {y : Ent} (hy : bS_ y = true) : ∀ {l : List Ent} {pv : Option ByteArray}, upGo bS_ Ent.key pv l = true → ed_ pv y.key = true → upGo bS_ Ent.key pv (putS y l) = true
 |[], pv, _, ha => by simp [putS, upGo, hy, ha]
 |x :: l, pv, h, ha => by
  unfold upGo at h
  simp only [Bool.and_eq_true] at h
  obtain ⟨⟨h1, h2⟩, h3⟩ := h
  unfold putS
  split
  ·rename_i hlt
   unfold upGo
   rw [h1, h2, oV_ hy h3 hlt]; rfl
  ·rename_i hlt
   split
   ·rename_i he
    split
    ·unfold upGo
     rw [hy, ha, ← he, h3]; rfl
    ·unfold upGo
     rw [h1, h2, h3]; rfl
   ·rename_i he
    have : sLt y.key x.key = true := iB_ (by simpa using hlt) he
    unfold upGo upGo
    rw [hy, ha, h1, h3, show ed_ (some y.key) x.key = true from this]; rfl
theorem nU_ {y : Ent} {l : List Ent} (hy : bS_ y = true) (h : bc_ l = true) (hl : l.length < 4096) : bc_ (putS y l) = true := by
 unfold bc_ at h ⊢
 simp only [Bool.and_eq_true, decide_eq_true_eq] at h ⊢
 have := dV_ y l
 exact ⟨by omega, oV_ hy h.2 rfl⟩
theorem lr_ {y : Ent} : ∀ {l : List Ent}, b6_ y (getS l y.key) = true → getS (putS y l) y.key = y
 |[], _ => by simp [putS, getS]
 |x :: l, h => by
  unfold putS
  split
  ·rename_i hlt
   have hne : ¬ x.key = y.key := fun e => by rw [e, dc_] at hlt; cases hlt
   have e1 : getS (x :: l) y.key = getS l y.key := by unfold getS; rw [List.find?_cons, decide_eq_false hne]
   have e2 : getS (x :: putS y l) y.key = getS (putS y l) y.key := by unfold getS; rw [List.find?_cons, decide_eq_false hne]
   rw [e1] at h
   rw [e2]; exact lr_ h
  ·split
   ·rename_i he
    have e1 : getS (x :: l) y.key = x := by unfold getS; rw [List.find?_cons, decide_eq_true he]; rfl
    rw [e1] at h
    rw [if_pos h]
    unfold getS; rw [List.find?_cons, decide_eq_true rfl]; rfl
   ·unfold getS; rw [List.find?_cons, decide_eq_true rfl]; rfl
structure PutsOk (l xs : List Ent) : Prop where
 ok : ∀ x ∈ xs, bS_ x = true ∧ b6_ x (getS l x.key) = true
 apart : (xs.map Ent.key).Nodup
theorem e7_ {xs : List Ent} {k : ByteArray} : ∀ {l : List Ent}, (∀ x ∈ xs, x.key ≠ k) → getS (jnS l xs) k = getS l k := by
 induction xs with
 |nil => intro l _; rfl
 |cons x xs ih =>
  intro l h
  have : jnS l (x :: xs) = jnS (putS x l) xs := rfl
  rw [this, ih fun y hy => h y (.tail _ hy), g1_ (h x (.head _))]
theorem PutsOk.tail {l xs : List Ent} {x : Ent} (h : PutsOk l (x :: xs)) : PutsOk (putS x l) xs := by
 have hn := h.apart
 rw [List.map_cons, List.nodup_cons] at hn
 refine ⟨fun y hy => ?_, hn.2⟩
 have h1 := h.ok y (.tail _ hy)
 have hne : x.key ≠ y.key := fun e => hn.1 (by rw [e]; exact List.mem_map_of_mem hy)
 rw [g1_ hne]; exact h1
theorem rA_ {xs : List Ent} : ∀ {l : List Ent}, PutsOk l xs → ∀ x ∈ xs, getS (jnS l xs) x.key = x := by
 induction xs with
 |nil => intro l _ x hx; cases hx
 |cons y xs ih =>
  intro l h x hx
  have e : jnS l (y :: xs) = jnS (putS y l) xs := rfl
  rw [e]
  rcases List.mem_cons.1 hx with rfl | hx
  ·have hn := h.apart
   rw [List.map_cons, List.nodup_cons] at hn
   rw [e7_ fun z hz e => hn.1 (by rw [← e]; exact List.mem_map_of_mem hz)]
   exact lr_ (h.ok x (.head _)).2
  ·exact ih h.tail x hx
theorem rB_ {xs : List Ent} : ∀ {l : List Ent}, PutsOk l xs → bc_ l = true → l.length + xs.length < 4096 → bc_ (jnS l xs) = true := by
 induction xs with
 |nil => intro l _ h _; exact h
 |cons y xs ih =>
  intro l h hl hn
  have e : jnS l (y :: xs) = jnS (putS y l) xs := rfl
  rw [e]
  rw [List.length_cons] at hn
  have := dV_ y l
  exact ih h.tail (nU_ (h.ok y (.head _)).1 hl (by omega)) (by omega)
theorem PutsOk.take {l xs : List Ent} (h : PutsOk l xs) (k : Nat) : PutsOk l (xs.take k) :=
 ⟨fun x hx => h.ok x (List.mem_of_mem_take hx), by rw [List.map_take]; exact h.apart.sublist (List.take_sublist ..)⟩
theorem fw_ {l : List Ent} {who : ByteArray} : ∀ (ms : List Mv) (s : List Ent × Int), (ms.foldl (fun s x => ca_ s (setS l who (br_ x.part) x.now)) s).2 = 0 → s.2 = 0 ∧ (ms.foldl (fun s x => ca_ s (setS l who (br_ x.part) x.now)) s).1 = s.1 ++ ms.map (fun x => (setS l who (br_ x.part) x.now).1) ∧ ∀ x ∈ ms, (setS l who (br_ x.part) x.now).2 = 0
 |[], s, h => ⟨h, by simp, fun x hx => by cases hx⟩
 |x :: ms, s, h => by
  rw [List.foldl_cons] at h ⊢
  obtain ⟨h1, h2, h3⟩ := fw_ ms _ h
  unfold ca_ at h1 h2
  split at h1
  ·rename_i hs
   rw [if_pos hs] at h2
   unfold ca_
   rw [if_pos hs]
   refine ⟨hs, by rw [h2]; simp, fun y hy => ?_⟩
   rcases List.mem_cons.1 hy with rfl | hy
   ·exact h1
   ·exact h3 y hy
  ·rename_i hs
   exact absurd h1 hs
theorem gw_ : ∀ {a b : List ByteArray} {j : Nat}, (bj_ j a b).Pairwise fun x y => x.part < y.part
 |[], b, j => by unfold bj_; exact .nil
 |u :: a, [], j => by unfold bj_; exact .nil
 |u :: a, v :: b, j => by
  have ih := gw_ (a := a) (b := b) (j := j + 1)
  unfold bj_
  split
  ·exact ih
  ·exact List.pairwise_cons.2 ⟨fun y hy => by have := (dU_ hy).1; show j < y.part; omega, ih⟩
theorem jH_ : ∀ i < 16, ∀ j < 16, g3_ i = g3_ j → i = j := by decide
theorem setK {l : List Ent} {who k v : ByteArray} (h : (setS l who k v).2 = 0) : PutsOk l [(setS l who k v).1] := by
 have := bV_ h
 refine ⟨fun x hx => ?_, by simp⟩
 rw [List.mem_singleton.1 hx]
 exact ⟨this.ok, by rw [this.key]; exact this.newer⟩
end Go.Proofs.YtkcmbjodladflaaGreatDoor
end

section
set_option linter.all false
set_option maxRecDepth 100000
namespace Go.Proofs.YtkcmbjodladflaaGreatDoor
open Go.Ab
theorem bt_ {r : Ent × Int} : ca_ ([], 0) r = ([r.1], r.2) := by simp [ca_]
theorem qk_ {l : List Ent} {who a b : ByteArray} (h : (secS l who a b).2 = 0) : PutsOk l [(secS l who a b).1] ∧ (secS l who a b).1.who = who := by
 unfold secS at h ⊢
 split at h
 ·cases h
 ·rename_i h1; rw [if_neg h1]; exact ⟨setK h, (bV_ h).who⟩
theorem lH_ {l : List Ent} {who a b : ByteArray} {n : Int} (h : (dt_ l who a b n).2 = 0) : PutsOk l [(dt_ l who a b n).1] ∧ (dt_ l who a b n).1.who = who := by
 unfold dt_ at h ⊢
 split at h
 ·cases h
 ·rename_i h1; rw [if_neg h1]; exact ⟨setK h, (bV_ h).who⟩
theorem p8_ {l : List Ent} {who a b f : ByteArray} {n : Int} (h : (du_ l who a b f n).2 = 0) : PutsOk l [(du_ l who a b f n).1] ∧ (du_ l who a b f n).1.who = who := by
 unfold du_ at h ⊢
 split at h
 ·rename_i h1; rw [if_pos h1]; exact ⟨setK h, (bV_ h).who⟩
 ·cases h
theorem o4_ {l : List Ent} {who a b f : ByteArray} {n : Int} (h : (dp_ l who a b f n).2 = 0) : PutsOk l [(dp_ l who a b f n).1] ∧ (dp_ l who a b f n).1.who = who := by
 unfold dp_ at h ⊢
 split at h
 ·rename_i h1; rw [if_pos h1]; exact ⟨setK h, (bV_ h).who⟩
 ·cases h
structure AdPuts (l : List Ent) (who : ByteArray) (xs : List Ent) : Prop where
 puts : PutsOk l xs
 all : ∀ x ∈ xs, x.who = who
 few : xs.length ≤ 16
theorem dS_ {l : List Ent} {who : ByteArray} {y : Ent} (h : PutsOk l [y] ∧ y.who = who) : AdPuts l who [y] := ⟨h.1, fun x hx => by rw [List.mem_singleton.1 hx]; exact h.2, by simp⟩
theorem gj_ {l : List Ent} {who : ByteArray} (h : (clMv l who (bh_ l)).2 = 0) : AdPuts l who (clMv l who (bh_ l)).1 := by
 unfold clMv at h ⊢
 obtain ⟨_, h2, h3⟩ := fw_ (bh_ l) ([], 0) h
 rw [h2, List.nil_append]
 refine ⟨⟨fun x hx => ?_, ?_⟩, fun x hx => ?_, ?_⟩
 ·obtain ⟨y, hy, rfl⟩ := List.mem_map.1 hx
  have := bV_ (h3 y hy)
  exact ⟨this.ok, by rw [this.key]; exact this.newer⟩
 ·rw [List.map_map]
  have hp : (bh_ l).Pairwise fun x y => x.part < y.part := gw_
  unfold List.Nodup
  rw [List.pairwise_map]
  refine List.Pairwise.imp_of_mem ?_ hp
  intro a b ha hb hab he
  have ea : (setS l who (br_ a.part) a.now).1.key = br_ a.part := (bV_ (h3 a ha)).key
  have eb : (setS l who (br_ b.part) b.now).1.key = br_ b.part := (bV_ (h3 b hb)).key
  have h1 := eR_ ha; have h2 := eR_ hb
  simp only [Function.comp] at he
  rw [ea, eb, dH_ (by omega), dH_ (by omega)] at he
  have := jH_ _ h1 _ h2 he
  omega
 ·obtain ⟨y, hy, rfl⟩ := List.mem_map.1 hx
  exact (bV_ (h3 y hy)).who
 ·rw [List.length_map]
  have := fk_ 0 (aF_ l 16) (cl_ (aF_ l 16) (nmsS l))
  rw [show (aF_ l 16).length = 16 by simp [aF_]] at this
  exact this
theorem m5_ {l : List Ent} {who : ByteArray} {a : Adm} (h : (cj_ l who a).2 = 0) : AdPuts l who (cj_ l who a).1 := by
 unfold cj_ at h ⊢
 repeat' split at h
 ·rename_i h1; rw [if_pos h1, bt_]; rw [bt_] at h; exact dS_ (qk_ h)
 ·rename_i h1 h2; rw [if_neg h1, if_pos h2, bt_]; rw [bt_] at h; exact dS_ (lH_ h)
 ·rename_i h1 h2 h3; rw [if_neg h1, if_neg h2, if_pos h3, bt_]; rw [bt_] at h; exact dS_ (p8_ h)
 ·rename_i h1 h2 h3 h4; rw [if_neg h1, if_neg h2, if_neg h3, if_pos h4, bt_]; rw [bt_] at h; exact dS_ (o4_ h)
 ·rename_i h1 h2 h3 h4 h5
  rw [if_neg h1, if_neg h2, if_neg h3, if_neg h4, if_pos h5]
  unfold cL_ at h ⊢
  split at h
  ·rename_i h6; rw [if_pos h6, bt_]; rw [bt_] at h; exact dS_ ⟨setK h, (bV_ h).who⟩
  ·cases h
 ·rename_i h1 h2 h3 h4 h5 h6
  rw [if_neg h1, if_neg h2, if_neg h3, if_neg h4, if_neg h5, if_pos h6]
  unfold e3_ at h ⊢
  split at h
  ·rename_i h7; rw [if_pos h7, bt_]; rw [bt_] at h; exact dS_ ⟨setK h, (bV_ h).who⟩
  ·cases h
 ·rename_i h1 h2 h3 h4 h5 h6 h7
  rw [if_neg h1, if_neg h2, if_neg h3, if_neg h4, if_neg h5, if_neg h6, if_pos h7]
  unfold cR_ at h ⊢
  split at h
  ·cases h
  ·rename_i h8; rw [if_neg h8]; exact gj_ h
 ·cases h
theorem kM_ {l : List Ent} {who : ByteArray} {a : Adm} (h : (adS l who a).2 = 0) : AdPuts l who (adS l who a).1 := by
 unfold adS at h ⊢
 split at h
 ·rename_i h1
  rw [if_pos h1]
  split at h
  ·rename_i h2; rw [if_pos h2]; exact m5_ h2
  ·rename_i h2; exact absurd h h2
 ·cases h
end Go.Proofs.YtkcmbjodladflaaGreatDoor
end

section
set_option linter.all false
set_option maxRecDepth 100000
namespace Go.Proofs.YtkcmbjodladflaaGreatDoor
open Go.Ab
end Go.Proofs.YtkcmbjodladflaaGreatDoor
end

section
set_option linter.all false
set_option maxRecDepth 100000
namespace Go.Proofs.YtkcmbjodladflaaGreatDoor
open Go.Ab
def lh_ (l : List Mbr) (n : Nat) : Bool := decide (l.length ≤ n) && l.all fun x => decide (x.name.size ≤ 100) && (decide (x.rack.size ≤ 100) && decide (x.zone.size ≤ 100))
theorem nV_ {l : List Mbr} {n : Nat} {t : Bool} {σ : Store} (hn : n ≤ 1000000) : ao_ Tryz.prog 14 [.sl 4 (l.map sMbr) t, vInt n] σ fun v σ' => v = vB (lh_ l n) ∧ σ = σ' := by
 refine aj_ Tryz.func14 rfl Tryz.ntmps14 (congrArg Array.toList Tryz.results14) (by simp only [List.length_cons, List.length_nil]; decide) ?_; simp only [af_, ak_, Nat.reduceAdd]
 refine ab_ ?_
 refine aa_ kr_ ?_
 (refine aL_S rfl rfl v_ ?_)
 refine ac_ ?_
 refine ab_ ?_
 refine ab_ ?_
 refine aa_ kr_ ?_
 (refine aL_S rfl rfl v_ ?_)
 refine ac_ ?_
 refine al_ ?_
 refine ap_ (ι := Nat) (fun k => l.length - k) (fun k => k ≤ l.length ∧ k ≤ n ∧ (l.take k).all (fun x => decide (x.name.size ≤ 100) && (decide (x.rack.size ≤ 100) && decide (x.zone.size ≤ 100))) = true) (fun k => [(0, .sl 4 (l.map sMbr) t), (1, vInt n), (5, vInt k)]) (fun k => σ) 0 ?_ ?_ ?_ ?_
 ·exact ⟨Nat.zero_le _, Nat.zero_le _, rfl⟩
 ·exact cv_
 ·exact sub_
 rintro k ⟨hk, hk2, ha⟩
 simp only [ar_, au_]
 refine ab_ ?_
 refine ab_ ?_
 refine aa_ kr_ ?_
 iterate 5 (refine aL_S rfl rfl v_ ?_)
 refine aC_ rfl rfl v_ rfl vg_ ?_
 refine aC_ rfl rfl v_ rfl vg_ ?_
 refine aC_ rfl rfl v_ rfl vg_ ?_
 (refine aL_S rfl rfl v_ ?_)
 refine ac_ ?_
 refine ad_ v_ (fun hc2 => ?_) (fun hc2 => ?_)
 ·replace hc2 := nm_ hc2
  refine ah_ ?_
  refine ab_ ?_
  refine al_ ?_
  refine ab_ ?_
  obtain ⟨x, hx⟩ := aA_ (l := l) (k := k) (by omega)
  have R := hx
  refine aa_ kr_ ?_
  iterate 8 (refine aL_S rfl rfl v_ ?_)
  refine ay_ rfl rfl v_ rfl vg_ ?_
  refine ay_ rfl rfl v_ rfl vg_ ?_
  refine ay_ rfl rfl v_ rfl vg_ ?_
  refine ay_ rfl rfl v_ rfl vg_ ?_
  refine ay_ rfl rfl v_ rfl vg_ ?_
  refine ay_ rfl rfl v_ rfl vg_ ?_
  refine ay_ rfl rfl v_ rfl vg_ ?_
  iterate 2 (refine aL_S rfl rfl v_ ?_)
  refine ay_ rfl rfl v_ rfl vg_ ?_
  refine ay_ rfl rfl v_ rfl vg_ ?_
  refine ay_ rfl rfl v_ rfl vg_ ?_
  refine ay_ rfl rfl v_ rfl vg_ ?_
  refine ay_ rfl rfl v_ rfl vg_ ?_
  refine ay_ rfl rfl v_ rfl vg_ ?_
  refine ay_ rfl rfl v_ rfl vg_ ?_
  (refine aL_S rfl rfl v_ ?_)
  refine ac_ ?_
  refine ad_ v_ (fun hc4 => ?_) (fun hc4 => ?_)
  ·replace hc4 := nm_ hc4
   refine ab_ ?_
   refine aa_ kr_ ?_
   (refine aL_S rfl rfl v_ ?_)
   refine ac_ ?_
   refine am_ ?_
   refine ai_ (σ' := σ) v_ sub_ ?_
   exact ⟨by rw [lh_, oD_ hx (by rcases hc4 with (h | h) | h <;> simp <;> omega)], rfl⟩
  ·replace hc4 := nm_ hc4
   refine ah_ ?_
   refine aa_ kr_ ?_
   iterate 3 (refine aL_S rfl rfl v_ ?_)
   refine ac_ ?_
   refine aJ_ (ι := Nat) (i := k) (k + 1) ?_ ?_ ?_ ?_
   ·omega
   ·exact ⟨by omega, by omega, iR_ hx (by simp only [Bool.and_eq_true, decide_eq_true_eq]; omega) ha⟩
   ·exact cv_
   ·exact sub_
 ·replace hc2 := nm_ hc2
  refine ax_ ?_
  refine ag_ ?_
  refine ag_ ?_
  refine aq_ ?_
  refine ab_ ?_
  refine aa_ kr_ ?_
  iterate 5 (refine aL_S rfl rfl v_ ?_)
  refine ac_ ?_
  refine am_ ?_
  refine ai_ (σ' := σ) v_ sub_ ?_
  exact ⟨by rw [lh_, ← li_ ha hk (by omega)], rfl⟩
def lg_ (a : Adm) : Bool := decide (a.ten.size ≤ 100) && decide (a.bkt.size ≤ 100) && decide (a.fld.size ≤ 100) && decide (a.txt.size ≤ 300) && lh_ [a.m] 1
theorem ps_ {a : Adm} {σ : Store} : ao_ Tryz.prog 9 [sAdm a] σ fun v σ' => v = vB (lg_ a) ∧ σ = σ' := by
 refine aj_ Tryz.func9 rfl Tryz.ntmps9 (congrArg Array.toList Tryz.results9) (by simp only [List.length_cons, List.length_nil]; decide) ?_; simp only [af_, ak_, Nat.reduceAdd]
 refine ab_ ?_
 refine aa_ kr_ ?_
 refine bb_ rfl rfl rfl v_ rfl g_ fun o1 ho1 => ?_
 repeat (rw [an_] at ho1; obtain ⟨_, ho1⟩ := ho1)
 (refine aL_S rfl rfl v_ ?_)
 refine ac_ ?_
 refine ab_ ?_
 refine aa_ kr_ ?_
 iterate 5 (refine aL_S rfl rfl v_ ?_)
 refine aC_ rfl rfl v_ rfl vg_ ?_
 refine aC_ rfl rfl v_ rfl vg_ ?_
 refine aC_ rfl rfl v_ rfl vg_ ?_
 refine aC_ rfl rfl v_ rfl vg_ ?_
 iterate 2 (refine aL_S rfl rfl v_ ?_)
 refine aC_ rfl rfl v_ rfl vg_ ?_
 refine aC_ rfl rfl v_ rfl vg_ ?_
 refine aC_ rfl rfl v_ rfl vg_ ?_
 refine aC_ rfl rfl v_ rfl vg_ ?_
 iterate 2 (refine aL_S rfl rfl v_ ?_)
 refine aC_ rfl rfl v_ rfl vg_ ?_
 refine aC_ rfl rfl v_ rfl vg_ ?_
 refine aC_ rfl rfl v_ rfl vg_ ?_
 refine aC_ rfl rfl v_ rfl vg_ ?_
 iterate 2 (refine aL_S rfl rfl v_ ?_)
 refine aC_ rfl rfl v_ rfl vg_ ?_
 refine aC_ rfl rfl v_ rfl vg_ ?_
 refine b8_ (b := (decide ((a.ten.size : Int) ≤ 100) && decide ((a.bkt.size : Int) ≤ 100) && decide ((a.fld.size : Int) ≤ 100) && decide ((a.txt.size : Int) ≤ 300))) rfl rfl va_ rfl (a := .sl 4 [sMbr a.m] true) (fun hb => aD_ (l := [sMbr a.m]) (by rfl) g_ g_ (by rfl) (by rfl) vh_ (by simp [go_sem, hb, gval, AVal.one, AVal.cells, AVal.solid]) (by decide) ⟨rfl, rfl⟩) ?_
 refine b8_ rfl rfl v_ rfl (fun hb => aK_ (by rfl) (by rfl) (.inr ⟨by rfl, by rfl, by rfl⟩) g_ cg_ (nV_ (l := [a.m]) (n := 1) (by decide))) ?_
 iterate 2 (refine aL_S rfl rfl v_ ?_)
 refine ac_ ?_
 refine am_ ?_
 refine ai_ (σ' := σ) v_ sub_ ?_
 refine ⟨?_, rfl⟩
 unfold lg_
 by_cases h1 : a.ten.size ≤ 100 <;> by_cases h2 : a.bkt.size ≤ 100 <;> by_cases h3 : a.fld.size ≤ 100 <;> by_cases h4 : a.txt.size ≤ 300 <;> simp [h1, h2, h3, h4] <;> omega
end Go.Proofs.YtkcmbjodladflaaGreatDoor
end

section
set_option linter.all false
set_option maxRecDepth 100000
namespace Go.Proofs.YtkcmbjodladflaaGreatDoor
open Go.Ab
theorem nt_ {a : Adm} (h : lg_ a = true) (h0 : -9223372036854775808 ≤ a.n) (h1 : a.n ≤ 9223372036854775807) : AdmSm a := by
 simp only [lg_, lh_, Bool.and_eq_true, decide_eq_true_eq, List.all_cons, List.all_nil, Bool.and_true] at h
 obtain ⟨⟨⟨⟨g1, g2⟩, g3⟩, g4⟩, _, g5, g6, g7⟩ := h
 exact ⟨by omega, by omega, by omega, by omega, h0, h1, by omega, by omega, by omega⟩
theorem lV_ {s : ByteArray} (h : aI_ s = true) : s.size ≤ 16 := by
 simp only [aI_, Bool.and_eq_true, decide_eq_true_eq] at h
 omega
theorem rg_ {x : Ent} (h : bS_ x = true) : EntSm x := by
 unfold bS_ cW_ at h
 simp only [Bool.and_eq_true, Bool.or_eq_true, decide_eq_true_eq] at h
 obtain ⟨⟨h1, h2⟩, ⟨⟨h3, h4⟩, h5⟩, h6⟩ := h
 have hw : x.who.size ≤ 16 := by
  rcases h5 with h5 | h5
  ·omega
  ·exact lV_ h5
 exact ⟨by omega, by omega, by omega⟩
theorem rP_ {L : List Ent} {x : Ent} (h : bc_ L = true) (hx : bS_ x = true) (hn : L.length < 4096) : putE L x = (putS x L, 0) := by
 have := dV_ x L
 rw [putE, h, hx, if_neg (by simp), if_neg (by omega)]
end Go.Proofs.YtkcmbjodladflaaGreatDoor
end

section
set_option linter.all false
set_option maxRecDepth 100000
namespace Go.Proofs.YtkcmbjodladflaaGreatDoor
open Go.Ab
abbrev s4_ : Go.Ab.Sh := .pair (.int .i64) (.pair .str (.pair .str (.pair .str (.pair .str (.pair (.int .i64) (.pair (.pair .str (.pair .str (.pair .str (.pair .bool .unit)))) .unit))))))
theorem rW_ {a : AVal} (h : Sh.okv s4_ true a) : ∃ x : Adm, a = sAdm x ∧ -9223372036854775808 ≤ x.n ∧ x.n ≤ 9223372036854775807 := by
 obtain ⟨c, ⟨_, _, rfl, ⟨k, rfl, _⟩, _, _, rfl, ⟨s0, rfl, _⟩, _, _, rfl, ⟨s1, rfl, _⟩, _, _, rfl, ⟨s2, rfl, _⟩, _, _, rfl, ⟨s3, rfl, _⟩, _, _, rfl, ⟨n, rfl, hn⟩, _, _, rfl, ⟨_, _, rfl, ⟨m0, rfl, _⟩, _, _, rfl, ⟨m1, rfl, _⟩, _, _, rfl, ⟨m2, rfl, _⟩, _, _, rfl, ⟨b, rfl⟩, rfl⟩, rfl⟩, e⟩ := h
 simp only [if_true] at e
 simp only [Lit.wf, Bool.and_eq_true, decide_eq_true_eq] at hn
 exact ⟨⟨k, s0, s1, s2, s3, n, ⟨m0, m1, m2, b⟩⟩, by rw [e]; rfl, Int.le_trans (by decide) hn.1, Int.le_trans hn.2 (by decide)⟩
end Go.Proofs.YtkcmbjodladflaaGreatDoor
end
